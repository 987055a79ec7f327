/- WEqStruct, WMore, TkP, Base, TkPure, TkB, TkE, TkL, TkC, TkD, TkU, TkV, TkX, TkR0, TkR1. -/
import Derived.Test.YtkipjalfgdfaiaaGreatDoorWWords
import Derived.Laws.StructEq
import Derived.Test.YtkipjalfgdfaiaaGreatDoorWLast
import Derived.Test.YtkipjalfgdfaiaaGreatDoorProg
import Derived.Below
import Derived.Deep.Draws
import Derived.Deep.AppendLies
import Derived.Maps.AppendAt
import Derived.OwnWalk
import Derived.Laws.BytesArg
import Derived.Laws.MakeOwn
import Derived.Laws.OwnMore
import Derived.Deep.OwnRows
import Derived.Tactics
import Derived.Lib.ConvBytes
import Derived.Laws.Slices
import Derived.WalkKit
import Derived.KernelRfl
import Derived.RowKit3
import Derived.Deep.LoopGhost
import Derived.Deep.QuietTactic
import Derived.BigQuiet
import Derived.WideLaws
import Derived.Deep.DeepCutAuto
import Derived.Deep.CutBlock
import Derived.Deep.RegionHeld3
import Derived.Laws.Rows
import Derived.Lib.AppendStr
import Derived.ArgAppend
import Derived.Laws.IdiomCopy
import Derived.OrdersHeld
import Derived.Laws.BitsLemmas
import Derived.RowKit
import Derived.Test.YtkipjalfgdfaiaaGreatDoorWRepsOne
import Derived.WalkLawsBesides
import Derived.Lib.Bytes
import Derived.Deep.RegionWith
namespace Go.Proofs.YtkipjalfgdfaiaaGreatDoorW.PrintWords
open Go.RowKit
section
variable {P : Program} {d : Nat} {xs ys : Array Value} {f : Field} {fs : List Field} {a b : Value} {r s : Bool} {w : World}
/-- The last field that counts. -/
theorem eqf_last (hn : (f.name == "_") = false) (ha : (part f.type xs f.offset).run P w = .ok a w) (hb : (part f.type ys f.offset).run P w = .ok b w) (he : (Op.equalIn d f.type a b).run P w = .ok r w) : (Op.eqFields d xs ys [f]).run P w = .ok r w := by
  have hn' : f.name ≠ "_" := by simpa using hn
  simp only [Op.eqFields, if_pos hn', Sem.run_bind, ha, hb, he, Result.andThen_ok]
  cases r <;> simp
theorem eqf_cons (hn : (f.name == "_") = false) (ha : (part f.type xs f.offset).run P w = .ok a w) (hb : (part f.type ys f.offset).run P w = .ok b w) (he : (Op.equalIn d f.type a b).run P w = .ok r w) (hr : (Op.eqFields d xs ys fs).run P w = .ok s w) : (Op.eqFields d xs ys (f :: fs)).run P w = .ok (r && s) w := by
  have hn' : f.name ≠ "_" := by simpa using hn
  rw [Op.eqFields]
  simp only [if_pos hn', Sem.run_bind, ha, hb, he, Result.andThen_ok]
  cases r
  · simp
  · simpa using hr
theorem eqA_of {t : TypeId} {fs : Array Field} (hu : P.underlying t = some (.struct fs)) (hp : P.stoodInHeld t = false) (h : (Op.eqFields d xs ys fs.toList).run P w = .ok r w) : (Op.equalIn (d + 1) t (.agg xs) (.agg ys)).run P w = .ok r w := by
  have hf : P.fieldsOf t = fs := by simp [Program.fieldsOf, hu]
  rw [run_equalIn_struct (P := P) w d t xs ys (by rw [hf]; exact hu) hp, hf]
  exact h
end
end Go.Proofs.YtkipjalfgdfaiaaGreatDoorW.PrintWords
namespace Go.Proofs.YtkipjalfgdfaiaaGreatDoorW.PrintMore
open Go.RowKit Go.Proofs.YtkipjalfgdfaiaaGreatDoorW.PrintWords
namespace Kd
open Go.Proofs.YtkipjalfgdfaiaaGreatDoorW.PrintWords.Kd
end Kd

namespace Kd
open Go.Proofs.YtkipjalfgdfaiaaGreatDoorW.PrintWords.Kd
section
variable {α : Type} {d : Kd α} {e base g N : Nat} {ok : Nat → Prop} {W w1 : World} {u v : Value} {xs : List α}
end
end Kd
end Go.Proofs.YtkipjalfgdfaiaaGreatDoorW.PrintMore
namespace Go.Proofs.YtkipjalfgdfaiaaGreatDoorW.PrintWords
open Go.RowKit
section
variable {P : Program} {ops : Array Oper} {rest : List Oper} {o : Oper} {a : Act} {Q : Exit → Act → World → Prop} {W : World}
/-- The operation is a call of this function (a cheap look ahead of a dear step). -/
theorem gate_callee {f : FuncId} {as_ : Array Operand} {ts : Array TypeId} (_ho : o.op = .call { callee := .value (.func f), args := as_, argTypes := ts }) (h : wpList P ops Q (o :: rest) a W) : wpList P ops Q (o :: rest) a W := h
end
/-- A shift to the right: a count beyond the width leaves the sign. -/
def shr (k : IntKind) (x y : Int) : Int := x / 2 ^ min y.toNat k.bits
theorem shr_small {k : IntKind} {x y j : Int} (h : shr k x y = j) (hy : y ≤ k.bits) : x / 2 ^ y.toNat = j := by rw [← h]; unfold shr; rw [Nat.min_eq_left (by omega)]
namespace Kd
section
variable {α : Type} {d : Kd α} {e base : Nat} {ok : Nat → Prop} {W w1 : World} {v : Value} {xs : List α}
end
section
variable {α : Type} {d : Kd α} {e base g n cap : Nat} {ok oki okp : Nat → Prop} {W : World} {xs : List α} {i : Int} {c : List Value}
end
section
variable {α : Type} {d : Kd α} {e base b b' g N : Nat} {ok ok1 : Nat → Prop} {W W2 w1 : World} {u v : Value} {xs ys : List α} {S : Nat → Prop}
end
end Kd
end Go.Proofs.YtkipjalfgdfaiaaGreatDoorW.PrintWords
namespace Go.Proofs.YtkipjalfgdfaiaaGreatDoorW.PrintWords
open Go.RowKit
namespace Kd
section
variable {α β : Type} {d : Kd α} {e base base' n m c g N' lo hi : Nat} {ok ok' S : Nat → Prop} {w W w1 : World} {A : Option Addr} {ad : Addr} {u v v1 : Value} {xs : List α}
end
end Kd
end Go.Proofs.YtkipjalfgdfaiaaGreatDoorW.PrintWords
namespace Go.Proofs.YtkipjalfgdfaiaaGreatDoor.PTk
open Go.RowKit Go.Proofs.YtkipjalfgdfaiaaGreatDoorW.PrintWords Go.Proofs.YtkipjalfgdfaiaaGreatDoorW.PrintLast Go.Proofs.YtkipjalfgdfaiaaGreatDoorW.PrintMore
set_option linter.unusedVariables false
set_option linter.unusedSimpArgs false



theorem info5 : (Tryz.prog.info? 5).map (fun i => (i.zero, i.size, i.bytes)) = some (some (.int .u8 0), 1, 1) := by kernel_rfl
structure S41 where
  f0 : Int
  f1 : Int
  f2 : Int
  f3 : Int
  f4 : ByteArray
  f5 : Bool
  f6 : Int
  f7 : Int
def z41 : S41 := ⟨(0 : Int), (0 : Int), (0 : Int), (0 : Int), (⟨#[]⟩ : ByteArray), false, (0 : Int), (0 : Int)⟩
def k41 : Kd S41 := Kd.iso (Kd.pair (Kd.int .i64) (Kd.pair (Kd.int .i64) (Kd.pair (Kd.int .i64) (Kd.pair (Kd.int .i64) (Kd.pair Kd.string (Kd.pair Kd.bool (Kd.pair (Kd.int .i64) (Kd.int .i64)))))))) (fun x : S41 => (x.f0, x.f1, x.f2, x.f3, x.f4, x.f5, x.f6, x.f7))
theorem k41_open {w : World} {x : S41} {cs : List Value} (h : k41.K w x cs) : cs = [.int .i64 x.f0, .int .i64 x.f1, .int .i64 x.f2, .int .i64 x.f3, .string x.f4, .bool x.f5, .int .i64 x.f6, .int .i64 x.f7] := by
  obtain ⟨_, _, rfl, rfl, ⟨_, _, rfl, rfl, ⟨_, _, rfl, rfl, ⟨_, _, rfl, rfl, ⟨_, _, rfl, rfl, ⟨_, _, rfl, rfl, ⟨_, _, rfl, rfl, rfl⟩⟩⟩⟩⟩⟩⟩ := h
  exact rfl
theorem k41_mkM (w : World) (base : Nat) (ok : Nat → Prop) (x : S41)  : k41.M w base ok x [.int .i64 x.f0, .int .i64 x.f1, .int .i64 x.f2, .int .i64 x.f3, .string x.f4, .bool x.f5, .int .i64 x.f6, .int .i64 x.f7] := ⟨[.int .i64 x.f0], [.int .i64 x.f1, .int .i64 x.f2, .int .i64 x.f3, .string x.f4, .bool x.f5, .int .i64 x.f6, .int .i64 x.f7], rfl, rfl, ⟨[.int .i64 x.f1], [.int .i64 x.f2, .int .i64 x.f3, .string x.f4, .bool x.f5, .int .i64 x.f6, .int .i64 x.f7], rfl, rfl, ⟨[.int .i64 x.f2], [.int .i64 x.f3, .string x.f4, .bool x.f5, .int .i64 x.f6, .int .i64 x.f7], rfl, rfl, ⟨[.int .i64 x.f3], [.string x.f4, .bool x.f5, .int .i64 x.f6, .int .i64 x.f7], rfl, rfl, ⟨[.string x.f4], [.bool x.f5, .int .i64 x.f6, .int .i64 x.f7], rfl, rfl, ⟨[.bool x.f5], [.int .i64 x.f6, .int .i64 x.f7], rfl, rfl, ⟨[.int .i64 x.f6], [.int .i64 x.f7], rfl, rfl, rfl⟩⟩⟩⟩⟩⟩⟩
def rd_T41 (xs : List S41) (i : Int) : S41 := xs.getD i.toNat z41
theorem at_T41 {w : World} {A : Option Addr} {n : Nat} {xs : List S41} (h : Kd.C k41 w A n xs) (i : Int) (h0 : 0 ≤ i) (h1 : i < n) : ∃ ad , A = some ad ∧ w.cell? (ad.add (i.toNat * 8)) = some (.int .i64 (rd_T41 xs i).f0) ∧ w.cell? ⟨(ad.add (i.toNat * 8)).block, (ad.add (i.toNat * 8)).off + 1, none⟩ = some (.int .i64 (rd_T41 xs i).f1) ∧ w.cell? ⟨(ad.add (i.toNat * 8)).block, (ad.add (i.toNat * 8)).off + 2, none⟩ = some (.int .i64 (rd_T41 xs i).f2) ∧ w.cell? ⟨(ad.add (i.toNat * 8)).block, (ad.add (i.toNat * 8)).off + 3, none⟩ = some (.int .i64 (rd_T41 xs i).f3) ∧ w.cell? ⟨(ad.add (i.toNat * 8)).block, (ad.add (i.toNat * 8)).off + 4, none⟩ = some (.string (rd_T41 xs i).f4) ∧ w.cell? ⟨(ad.add (i.toNat * 8)).block, (ad.add (i.toNat * 8)).off + 5, none⟩ = some (.bool (rd_T41 xs i).f5) ∧ w.cell? ⟨(ad.add (i.toNat * 8)).block, (ad.add (i.toNat * 8)).off + 6, none⟩ = some (.int .i64 (rd_T41 xs i).f6) ∧ w.cell? ⟨(ad.add (i.toNat * 8)).block, (ad.add (i.toNat * 8)).off + 7, none⟩ = some (.int .i64 (rd_T41 xs i).f7) := by
  obtain ⟨ad, c, e, _, hK, hc0⟩ := Kd.C_get h z41 i h0 h1
  have hc : ∀ j u, c[j]? = some u → w.cell? (ad.add (i.toNat * 8 + j)) = some u := hc0
  obtain rfl := k41_open hK
  exact ⟨ad, e, hc 0 _ rfl, by rw [← add_field _ _ 1 (by omega)]; exact hc 1 _ rfl, by rw [← add_field _ _ 2 (by omega)]; exact hc 2 _ rfl, by rw [← add_field _ _ 3 (by omega)]; exact hc 3 _ rfl, by rw [← add_field _ _ 4 (by omega)]; exact hc 4 _ rfl, by rw [← add_field _ _ 5 (by omega)]; exact hc 5 _ rfl, by rw [← add_field _ _ 6 (by omega)]; exact hc 6 _ rfl, by rw [← add_field _ _ 7 (by omega)]; exact hc 7 _ rfl⟩

section
def stringslite_HasPrefix.f (a0 : ByteArray) (a1 : ByteArray) : Option (Bool) := if (a0.size : Int) ≥ (a1.size : Int) then (if 0 ≤ (a1.size : Int) then (if (a1.size : Int) ≤ (a0.size : Int) then (some ((a0.extract 0 ((a1.size : Int) : Int).toNat).toList == a1.toList)) else (none)) else (none)) else (some false)
set_option maxHeartbeats 8000000 in
set_option maxRecDepth 100000 in
theorem stringslite_HasPrefix.calls (a0 : ByteArray) (a1 : ByteArray) (r : Bool) (w : World) (h : stringslite_HasPrefix.f a0 a1 = some r) :
    Calls Tryz.prog 146 #[.string a0, .string a1] w fun e w' => e = .returned (.bool r) ∧ Drawn0 w w' := by
  have H : (if (a0.size : Int) ≥ (a1.size : Int) then (if 0 ≤ (a1.size : Int) then (if (a1.size : Int) ≤ (a0.size : Int) then (some ((a0.extract 0 ((a1.size : Int) : Int).toNat).toList == a1.toList)) else (none)) else (none)) else (some false)) = some r := h
  clear h
  by_cases c3 : (a0.size : Int) ≥ (a1.size : Int)
  · rw [if_pos c3] at H
    have c3b0 : decide ((a1.size : Int) ≤ (a0.size : Int)) = true := decide_eq_true c3
    have c3b1 : decide (a1.size ≤ a0.size) = true := decide_eq_true (Int.ofNat_le.mp c3)
    clear c3
    by_cases c4 : 0 ≤ (a1.size : Int)
    · rw [if_pos c4] at H
      have c4b0 := eq_true c4
      have c4b1 : decide (0 ≤ (a1.size : Int)) = true := decide_eq_true c4
      clear c4
      by_cases c5 : (a1.size : Int) ≤ (a0.size : Int)
      · rw [if_pos c5] at H
        have c5b0 := eq_true c5
        have c5b1 : decide ((a1.size : Int) ≤ (a0.size : Int)) = true := decide_eq_true c5
        clear c5
        obtain rfl := Option.some.inj H
        go_enter Tryz.func146, Tryz.ntmps146
        go_wp2
        go_ret
        exact ⟨by first | rfl | (simp; done) | (simp [*]; done), by repeat (first | exact Drawn0.refl _ | apply Drawn0.step)⟩
      · rw [if_neg c5] at H
        exact absurd H (by simp)
    · rw [if_neg c4] at H
      exact absurd H (by simp)
  · rw [if_neg c3] at H
    have c3b0 : decide ((a1.size : Int) ≤ (a0.size : Int)) = false := decide_eq_false c3
    have c3b1 : decide (a1.size ≤ a0.size) = false := decide_eq_false (fun h => c3 (Int.ofNat_le.mpr h))
    clear c3
    obtain rfl := Option.some.inj H
    go_enter Tryz.func146, Tryz.ntmps146
    go_wp2
    go_ret
    exact ⟨by first | rfl | (simp; done) | (simp [*]; done), by repeat (first | exact Drawn0.refl _ | apply Drawn0.step)⟩


end

section
def strings_HasPrefix.f (a0 : ByteArray) (a1 : ByteArray) : Option (Bool) := (stringslite_HasPrefix.f a0 a1).bind fun t101 => (some t101)
set_option maxHeartbeats 8000000 in
set_option maxRecDepth 100000 in
theorem strings_HasPrefix.calls (a0 : ByteArray) (a1 : ByteArray) (r : Bool) (w : World) (h : strings_HasPrefix.f a0 a1 = some r) :
    Calls Tryz.prog 104 #[.string a0, .string a1] w fun e w' => e = .returned (.bool r) ∧ Drawn0 w w' := by
  have H : ((stringslite_HasPrefix.f a0 a1).bind fun t101 => (some t101)) = some r := h
  clear h
  replace H := Option.bind_eq_some_iff.mp H
  obtain ⟨t101, A30, H⟩ := H
  replace H : (some t101) = some r := H
  have A3 := Aside0.mk A30
  clear A30
  obtain rfl := Option.some.inj H
  go_enter Tryz.func104, Tryz.ntmps104
  go_wp2_with (first | ((with_reducible refine gate_callee (f := 146) rfl ?_); refine goesL_ (some 7) rfl rfl Tryz.func146 (by kernel_rfl) rfl #[.string a0, .string a1] rfl (by (try simp only [List.map_toArray, List.map_cons, List.map_nil]); first | done | rfl | (simp only [List.length_drop, List.length_take]; rfl)) ?_; (with_reducible refine (stringslite_HasPrefix.calls a0 a1 t101 _ A3.out).mono ?_); rintro e w' ⟨rfl, ⟨nd, rfl⟩⟩; refine ⟨_, rfl, ?_⟩))
  go_ret
  exact ⟨by first | rfl | (simp; done) | (simp [*]; done), by repeat (first | exact Drawn0.refl _ | apply Drawn0.step)⟩




end

section
mutual
def utf_tail.j0 : Nat → Int → Int → Int → Bool → Option (Int × Int × Int)
  | 0, _, _, _, _ => none
  | k + 1, x0, x2, x3, x5 => if x5 = true then (some (0, 0, 0)) else (if x0 < 224 then (some (x2, x3, 1)) else (if x0 = 224 then (some (160, x3, 2)) else (if x0 = 237 then (some (x2, 159, 2)) else (if x0 = 240 then (some (144, x3, 3)) else (if x0 = 241 then (utf_tail.j1 k x2 x3 x0 (x0 == 241)) else (if x0 = 242 then (utf_tail.j1 k x2 x3 x0 (x0 == 242)) else (utf_tail.j1 k x2 x3 x0 (x0 == 243))))))))
def utf_tail.j1 : Nat → Int → Int → Int → Bool → Option (Int × Int × Int)
  | 0, _, _, _, _ => none
  | k + 1, x2, x3, x15, x22 => if x22 = true then (some (x2, x3, 3)) else (if x15 = 244 then (some (x2, 143, 3)) else (some (x2, x3, 2)))
end
def utf_tail.f (k : Nat) (a0 : Int) : Option (Int × Int × Int) := if a0 < 194 then (utf_tail.j0 k a0 128 191 (decide (a0 < 194))) else (utf_tail.j0 k a0 128 191 (decide (a0 > 244)))
set_option maxHeartbeats 8000000 in
set_option maxRecDepth 100000 in
theorem utf_tail.calls (k : Nat) (a0 : Int) (r1 : Int) (r2 : Int) (r3 : Int) (w : World) (h : utf_tail.f k a0 = some (r1, r2, r3)) :
    Calls Tryz.prog 173 #[.int .u8 a0] w fun e w' => e = .returned (.tuple #[.int .u8 r1, .int .u8 r2, .int .i64 r3]) ∧ Drawn0 w w' := by
  have H : (if a0 < 194 then (utf_tail.j0 k a0 128 191 (decide (a0 < 194))) else (utf_tail.j0 k a0 128 191 (decide (a0 > 244)))) = some (r1, r2, r3) := h
  clear h
  have HC2 := Aside0.mk H
  clear H
  go_enter Tryz.func173, Tryz.ntmps173
  go_upto_if 5 with (fail)
  go_cut [5] (fun v5 wc => ∃ (kq : Nat) (x5_1 : Bool), v5 = .bool x5_1 ∧ Aside0 (utf_tail.j0 kq a0 128 191 x5_1 = some (r1, r2, r3)) ∧ Aside0 (kq ≤ k) ∧ Drawn0 w wc)
  case first =>
    have H := HC2.out
    clear HC2
    by_cases c3 : a0 < 194
    · rw [if_pos c3] at H
      have c3b0 : decide (a0 < 194) = true := decide_eq_true c3
      clear c3
      (first | rw [c3b0] | (simp only [i64_w, i32_w]; rw [c3b0]) | skip)
      have H' := Aside0.mk H
      clear H
      go_wp2
      go_meet
      case rel => exact ⟨_, (decide (a0 < 194)), (by first | rfl | (simp; done) | (simp [*]; done)), H', ⟨by first | omega | exact Nat.le_refl _⟩, by repeat (first | exact Drawn0.refl _ | apply Drawn0.step)⟩
    · rw [if_neg c3] at H
      have c3b0 : decide (a0 < 194) = false := decide_eq_false c3
      clear c3
      (first | rw [c3b0] | (simp only [i64_w, i32_w]; rw [c3b0]) | skip)
      have H' := Aside0.mk H
      clear H
      go_wp2
      go_meet
      case rel => exact ⟨_, (decide (a0 > 244)), (by first | rfl | (simp; done) | (simp [*]; done)), H', ⟨by first | omega | exact Nat.le_refl _⟩, by repeat (first | exact Drawn0.refl _ | apply Drawn0.step)⟩
  case rest =>
    clear HC2
    try clear c1
    try clear p2
    try clear c3
    try clear c3b0
    obtain ⟨kq, x5_1, rfl, HA, HJ1, ⟨mc1, rfl⟩⟩ := hcut
    cases kq with
    | zero => exact absurd HA.out (by simp [utf_tail.j0])
    | succ kj1 =>
      have H := HA.out
      clear HA
      simp only [utf_tail.j0] at H
      by_cases c4 : x5_1 = true
      · subst c4
        have H1 : (some (0, 0, 0)) = some (r1, r2, r3) := by rw [if_pos rfl] at H; exact H
        clear H
        have H := H1
        clear H1
        simp only [Option.some.injEq, Prod.mk.injEq] at H
        obtain ⟨rfl, rfl, rfl⟩ := H
        go_wp2
        go_ret3
        exact ⟨by first | rfl | (simp; done) | (simp [*]; done), by repeat (first | exact Drawn0.refl _ | apply Drawn0.step)⟩
      · replace c4 := Bool.eq_false_iff.mpr c4
        subst c4
        have H1 : (if a0 < 224 then (some (128, 191, 1)) else (if a0 = 224 then (some (160, 191, 2)) else (if a0 = 237 then (some (128, 159, 2)) else (if a0 = 240 then (some (144, 191, 3)) else (if a0 = 241 then (utf_tail.j1 kj1 128 191 a0 (a0 == 241)) else (if a0 = 242 then (utf_tail.j1 kj1 128 191 a0 (a0 == 242)) else (utf_tail.j1 kj1 128 191 a0 (a0 == 243)))))))) = some (r1, r2, r3) := by rw [if_neg (show ¬ (false = true) by decide)] at H; exact H
        clear H
        have H := H1
        clear H1
        by_cases c5 : a0 < 224
        · rw [if_pos c5] at H
          have c5b0 : decide (a0 < 224) = true := decide_eq_true c5
          clear c5
          simp only [Option.some.injEq, Prod.mk.injEq] at H
          obtain ⟨rfl, rfl, rfl⟩ := H
          go_wp2
          go_ret3
          exact ⟨by first | rfl | (simp; done) | (simp [*]; done), by repeat (first | exact Drawn0.refl _ | apply Drawn0.step)⟩
        · rw [if_neg c5] at H
          have c5b0 : decide (a0 < 224) = false := decide_eq_false c5
          clear c5
          by_cases c6 : a0 = 224
          · rw [if_pos c6] at H
            have c6b0 : (a0 == 224) = true := beq_iff_eq.mpr c6
            have c6b1 : (a0 != 224) = false := bne_eq_false_iff_eq.mpr c6
            clear c6
            simp only [Option.some.injEq, Prod.mk.injEq] at H
            obtain ⟨rfl, rfl, rfl⟩ := H
            go_wp2
            go_ret3
            exact ⟨by first | rfl | (simp; done) | (simp [*]; done), by repeat (first | exact Drawn0.refl _ | apply Drawn0.step)⟩
          · rw [if_neg c6] at H
            have c6b0 : (a0 == 224) = false := beq_eq_false_iff_ne.mpr c6
            have c6b1 : (a0 != 224) = true := bne_iff_ne.mpr c6
            by_cases c7 : a0 = 237
            · rw [if_pos c7] at H
              have c7b0 : (a0 == 237) = true := beq_iff_eq.mpr c7
              have c7b1 : (a0 != 237) = false := bne_eq_false_iff_eq.mpr c7
              clear c7
              simp only [Option.some.injEq, Prod.mk.injEq] at H
              obtain ⟨rfl, rfl, rfl⟩ := H
              go_wp2
              go_ret3
              exact ⟨by first | rfl | (simp; done) | (simp [*]; done), by repeat (first | exact Drawn0.refl _ | apply Drawn0.step)⟩
            · rw [if_neg c7] at H
              have c7b0 : (a0 == 237) = false := beq_eq_false_iff_ne.mpr c7
              have c7b1 : (a0 != 237) = true := bne_iff_ne.mpr c7
              by_cases c8 : a0 = 240
              · rw [if_pos c8] at H
                have c8b0 : (a0 == 240) = true := beq_iff_eq.mpr c8
                have c8b1 : (a0 != 240) = false := bne_eq_false_iff_eq.mpr c8
                clear c8
                simp only [Option.some.injEq, Prod.mk.injEq] at H
                obtain ⟨rfl, rfl, rfl⟩ := H
                go_wp2
                go_ret3
                exact ⟨by first | rfl | (simp; done) | (simp [*]; done), by repeat (first | exact Drawn0.refl _ | apply Drawn0.step)⟩
              · rw [if_neg c8] at H
                have c8b0 : (a0 == 240) = false := beq_eq_false_iff_ne.mpr c8
                have c8b1 : (a0 != 240) = true := bne_iff_ne.mpr c8
                have HC9 := Aside0.mk H
                clear H
                go_upto_if 22 with (fail)
                go_cut [22] (fun v22 wc => ∃ (kq : Nat) (x22_8 : Bool), v22 = .bool x22_8 ∧ Aside0 (utf_tail.j1 kq 128 191 a0 x22_8 = some (r1, r2, r3)) ∧ Aside0 (kq ≤ kj1) ∧ Drawn0 w wc)
                case first =>
                  have H := HC9.out
                  clear HC9
                  by_cases c10 : a0 = 241
                  · rw [if_pos c10] at H
                    have c10b0 : (a0 == 241) = true := beq_iff_eq.mpr c10
                    have c10b1 : (a0 != 241) = false := bne_eq_false_iff_eq.mpr c10
                    clear c10
                    (first | rw [c10b0] | (simp only [i64_w, i32_w]; rw [c10b0]) | skip)
                    have H' := Aside0.mk H
                    clear H
                    go_wp2
                    go_meet
                    case rel => exact ⟨_, ((a0 == 241)), (by first | rfl | (simp; done) | (simp [*]; done)), H', ⟨by have := HJ1.out; first | omega | exact Nat.le_refl _⟩, by repeat (first | exact Drawn0.refl _ | apply Drawn0.step)⟩
                  · rw [if_neg c10] at H
                    have c10b0 : (a0 == 241) = false := beq_eq_false_iff_ne.mpr c10
                    have c10b1 : (a0 != 241) = true := bne_iff_ne.mpr c10
                    (first | rw [c10b0] | (simp only [i64_w, i32_w]; rw [c10b0]) | skip)
                    by_cases c11 : a0 = 242
                    · rw [if_pos c11] at H
                      have c11b0 : (a0 == 242) = true := beq_iff_eq.mpr c11
                      have c11b1 : (a0 != 242) = false := bne_eq_false_iff_eq.mpr c11
                      clear c11
                      have H' := Aside0.mk H
                      clear H
                      go_wp2
                      go_meet
                      case rel => exact ⟨_, ((a0 == 242)), (by first | rfl | (simp; done) | (simp [*]; done)), H', ⟨by have := HJ1.out; first | omega | exact Nat.le_refl _⟩, by repeat (first | exact Drawn0.refl _ | apply Drawn0.step)⟩
                    · rw [if_neg c11] at H
                      have c11b0 : (a0 == 242) = false := beq_eq_false_iff_ne.mpr c11
                      have c11b1 : (a0 != 242) = true := bne_iff_ne.mpr c11
                      have H' := Aside0.mk H
                      clear H
                      go_wp2
                      go_meet
                      case rel => exact ⟨_, ((a0 == 243)), (by first | rfl | (simp; done) | (simp [*]; done)), H', ⟨by have := HJ1.out; first | omega | exact Nat.le_refl _⟩, by repeat (first | exact Drawn0.refl _ | apply Drawn0.step)⟩
                case rest =>
                  clear HC9
                  try clear c1
                  try clear p2
                  try clear c3
                  try clear c3b0
                  try clear c4
                  try clear c5
                  try clear c5b0
                  try clear c6
                  try clear c6b0
                  try clear c6b1
                  try clear c7
                  try clear c7b0
                  try clear c7b1
                  try clear c8
                  try clear c8b0
                  try clear c8b1
                  try clear c10
                  try clear c10b0
                  try clear c10b1
                  try clear c11
                  try clear c11b0
                  try clear c11b1
                  try clear p2
                  obtain ⟨kq, x22_8, rfl, HA, HJ8, ⟨mc8, rfl⟩⟩ := hcut
                  cases kq with
                  | zero => exact absurd HA.out (by simp [utf_tail.j1])
                  | succ kj8 =>
                    have H := HA.out
                    clear HA
                    simp only [utf_tail.j1] at H
                    by_cases c12 : x22_8 = true
                    · subst c12
                      have H1 : (some (128, 191, 3)) = some (r1, r2, r3) := by rw [if_pos rfl] at H; exact H
                      clear H
                      have H := H1
                      clear H1
                      simp only [Option.some.injEq, Prod.mk.injEq] at H
                      obtain ⟨rfl, rfl, rfl⟩ := H
                      go_wp2
                      go_ret3
                      exact ⟨by first | rfl | (simp; done) | (simp [*]; done), by repeat (first | exact Drawn0.refl _ | apply Drawn0.step)⟩
                    · replace c12 := Bool.eq_false_iff.mpr c12
                      subst c12
                      have H1 : (if a0 = 244 then (some (128, 143, 3)) else (some (128, 191, 2))) = some (r1, r2, r3) := by rw [if_neg (show ¬ (false = true) by decide)] at H; exact H
                      clear H
                      have H := H1
                      clear H1
                      by_cases c13 : a0 = 244
                      · rw [if_pos c13] at H
                        have c13b0 : (a0 == 244) = true := beq_iff_eq.mpr c13
                        have c13b1 : (a0 != 244) = false := bne_eq_false_iff_eq.mpr c13
                        clear c13
                        simp only [Option.some.injEq, Prod.mk.injEq] at H
                        obtain ⟨rfl, rfl, rfl⟩ := H
                        go_wp2
                        go_ret3
                        exact ⟨by first | rfl | (simp; done) | (simp [*]; done), by repeat (first | exact Drawn0.refl _ | apply Drawn0.step)⟩
                      · rw [if_neg c13] at H
                        have c13b0 : (a0 == 244) = false := beq_eq_false_iff_ne.mpr c13
                        have c13b1 : (a0 != 244) = true := bne_iff_ne.mpr c13
                        simp only [Option.some.injEq, Prod.mk.injEq] at H
                        obtain ⟨rfl, rfl, rfl⟩ := H
                        go_wp2
                        go_ret3
                        exact ⟨by first | rfl | (simp; done) | (simp [*]; done), by repeat (first | exact Drawn0.refl _ | apply Drawn0.step)⟩







end

section
def token_letter.f (a0 : Int) : Option (Bool) := if (Go.bits .or .u8 a0 32) ≥ 97 then (some (decide ((Go.bits .or .u8 a0 32) ≤ 122))) else (some false)
set_option maxHeartbeats 8000000 in
set_option maxRecDepth 100000 in
theorem token_letter.calls (a0 : Int) (r : Bool) (w : World) (h : token_letter.f a0 = some r) :
    Calls Tryz.prog 108 #[.int .u8 a0] w fun e w' => e = .returned (.bool r) ∧ Drawn0 w w' := by
  have H : (if (Go.bits .or .u8 a0 32) ≥ 97 then (some (decide ((Go.bits .or .u8 a0 32) ≤ 122))) else (some false)) = some r := h
  clear h
  by_cases c2 : (Go.bits .or .u8 a0 32) ≥ 97
  · rw [if_pos c2] at H
    have c2b0 : decide (97 ≤ (Go.bits .or .u8 a0 32)) = true := decide_eq_true c2
    clear c2
    obtain rfl := Option.some.inj H
    go_enter Tryz.func108, Tryz.ntmps108
    go_wp2
    go_ret
    exact ⟨by first | rfl | (simp; done) | (simp [*]; done), by repeat (first | exact Drawn0.refl _ | apply Drawn0.step)⟩
  · rw [if_neg c2] at H
    have c2b0 : decide (97 ≤ (Go.bits .or .u8 a0 32)) = false := decide_eq_false c2
    clear c2
    obtain rfl := Option.some.inj H
    go_enter Tryz.func108, Tryz.ntmps108
    go_wp2
    go_ret
    exact ⟨by first | rfl | (simp; done) | (simp [*]; done), by repeat (first | exact Drawn0.refl _ | apply Drawn0.step)⟩


end

section
def token_digit.f (a0 : Int) : Option (Bool) := if a0 ≥ 48 then (some (decide (a0 ≤ 57))) else (some false)
set_option maxHeartbeats 8000000 in
set_option maxRecDepth 100000 in
theorem token_digit.calls (a0 : Int) (r : Bool) (w : World) (h : token_digit.f a0 = some r) :
    Calls Tryz.prog 109 #[.int .u8 a0] w fun e w' => e = .returned (.bool r) ∧ Drawn0 w w' := by
  have H : (if a0 ≥ 48 then (some (decide (a0 ≤ 57))) else (some false)) = some r := h
  clear h
  by_cases c2 : a0 ≥ 48
  · rw [if_pos c2] at H
    have c2b0 : decide (48 ≤ a0) = true := decide_eq_true c2
    clear c2
    obtain rfl := Option.some.inj H
    go_enter Tryz.func109, Tryz.ntmps109
    go_wp2
    go_ret
    exact ⟨by first | rfl | (simp; done) | (simp [*]; done), by repeat (first | exact Drawn0.refl _ | apply Drawn0.step)⟩
  · rw [if_neg c2] at H
    have c2b0 : decide (48 ≤ a0) = false := decide_eq_false c2
    clear c2
    obtain rfl := Option.some.inj H
    go_enter Tryz.func109, Tryz.ntmps109
    go_wp2
    go_ret
    exact ⟨by first | rfl | (simp; done) | (simp [*]; done), by repeat (first | exact Drawn0.refl _ | apply Drawn0.step)⟩






end

section
mutual
def utf_Encode.j0 : Nat → Int → Bool → Option (List Int × Bool)
  | 0, _, _ => none
  | k + 1, x0, x18 => if x18 = true then (some (([] : List Int), false)) else (if x0 < 128 then (some ((([(x0) % 256] : List Int)), true)) else (utf_Encode.l0 k x0 1 2048))
def utf_Encode.j2 : Nat → Int → Int → Option (List Int × Bool)
  | 0, _, _ => none
  | k + 1, x0, x4 => if 0 ≤ (wrap64 (x4 + 1)) then (if (wrap64 (x4 + 1) : Int).toNat ≤ 281474976710656 then (utf_Encode.l1 k x0 x4 (List.replicate (wrap64 (x4 + 1) : Int).toNat 0) x4) else (none)) else (none)
def utf_Encode.l1 : Nat → Int → Int → List Int → Int → Option (List Int × Bool)
  | 0, _, _, _, _ => none
  | k + 1, x0, x4, x6, x7 => if x7 > 0 then (if 0 ≤ x7 then (if x7 < (x6.length : Int) then (utf_Encode.l1 k (x0 / 64) x4 (x6.set (x7 : Int).toNat (Go.bits .or .u8 128 ((Go.bits .and .i64 x0 63) % 256))) (wrap64 (x7 - 1))) else (none)) else (none)) else (if 0 ≤ x4 then (if 0 < (x6.length : Int) then (some ((x6.set (0 : Int).toNat (Go.bits .or .u8 ((Go.bits .and .i64 (shr .i64 3968 x4) 255) % 256) ((x0) % 256))), true)) else (none)) else (none))
def utf_Encode.l0 : Nat → Int → Int → Int → Option (List Int × Bool)
  | 0, _, _, _ => none
  | k + 1, x0, x4, x5 => if x0 ≥ x5 then (if x4 < 3 then (utf_Encode.l0 k x0 (wrap64 (x4 + 1)) (wrap64 (x5 * 32))) else (utf_Encode.j2 k x0 x4)) else (utf_Encode.j2 k x0 x4)
end
def utf_Encode.f (k : Nat) (a0 : Int) : Option (List Int × Bool) := if a0 < 0 then (utf_Encode.j0 k a0 true) else (if a0 > 1114111 then (utf_Encode.j0 k a0 true) else (utf_Encode.j0 k a0 ((a0 / 2048) == 27)))
set_option maxHeartbeats 8000000 in
set_option maxRecDepth 100000 in
theorem utf_Encode.calls (k : Nat) (a0 : Int) (r1 : List Int) (r2 : Bool) (w : World) (h : utf_Encode.f k a0 = some (r1, r2)) :
    Calls Tryz.prog 37 #[.int .i64 a0] w fun e w' => ∃ v0_ : Value, e = .returned (.tuple #[v0_, .bool r2]) ∧ Kd.R (Kd.int .u8) 5 w' w.heap.size (fun _ => True) v0_ r1 ∧ Below w.heap.size w w' := by
  have HB := Aside0.mk (Below.refl w.heap.size w)
  have H : (if a0 < 0 then (utf_Encode.j0 k a0 true) else (if a0 > 1114111 then (utf_Encode.j0 k a0 true) else (utf_Encode.j0 k a0 ((a0 / 2048) == 27)))) = some (r1, r2) := h
  clear h
  have HC2 := Aside0.mk H
  clear H
  go_enter Tryz.func37, Tryz.ntmps37
  go_upto_region 1 with (fail)
  go_cut [18] (fun v18 wc => ∃ (kq : Nat) (x18_1 : Bool), v18 = .bool x18_1 ∧ Aside0 (utf_Encode.j0 kq a0 x18_1 = some (r1, r2)) ∧ Aside0 (kq ≤ k) ∧ Aside0 (Below w.heap.size w wc))
  case first =>
    have H := HC2.out
    clear HC2
    by_cases c3 : a0 < 0
    · rw [if_pos c3] at H
      have c3b0 : decide (a0 < 0) = true := decide_eq_true c3
      clear c3
      (first | rw [c3b0] | (simp only [i64_w, i32_w]; rw [c3b0]) | skip)
      have H' := Aside0.mk H
      clear H
      go_wp2
      go_meet
      case rel => exact ⟨_, (true), (by first | rfl | (simp; done) | (simp [*]; done)), H', ⟨by first | omega | exact Nat.le_refl _⟩, ⟨by repeat (first | (with_reducible first | exact HB.out | apply below_alloc | apply pw_below_drewN | apply below_drew1) | exact HB.out)⟩⟩
    · rw [if_neg c3] at H
      have c3b0 : decide (a0 < 0) = false := decide_eq_false c3
      clear c3
      (first | rw [c3b0] | (simp only [i64_w, i32_w]; rw [c3b0]) | skip)
      by_cases c4 : a0 > 1114111
      · rw [if_pos c4] at H
        have c4b0 : decide (1114111 < a0) = true := decide_eq_true c4
        clear c4
        have H' := Aside0.mk H
        clear H
        go_wp2
        go_meet
        case rel => exact ⟨_, (true), (by first | rfl | (simp; done) | (simp [*]; done)), H', ⟨by first | omega | exact Nat.le_refl _⟩, ⟨by repeat (first | (with_reducible first | exact HB.out | apply below_alloc | apply pw_below_drewN | apply below_drew1) | exact HB.out)⟩⟩
      · rw [if_neg c4] at H
        have c4b0 : decide (1114111 < a0) = false := decide_eq_false c4
        clear c4
        have H' := Aside0.mk H
        clear H
        go_wp2
        go_meet
        case rel => exact ⟨_, (((a0 / 2048) == 27)), (by first | rfl | (simp; done) | (simp [*]; done)), H', ⟨by first | omega | exact Nat.le_refl _⟩, ⟨by repeat (first | (with_reducible first | exact HB.out | apply below_alloc | apply pw_below_drewN | apply below_drew1) | exact HB.out)⟩⟩
  case rest =>
    clear HC2
    try clear p2
    try clear c3
    try clear c3b0
    try clear c4
    try clear c4b0
    obtain ⟨kq, x18_1, rfl, HA, HJ1, HB⟩ := hcut
    cases kq with
    | zero => exact absurd HA.out (by simp [utf_Encode.j0])
    | succ kj1 =>
      have H := HA.out
      clear HA
      simp only [utf_Encode.j0] at H
      by_cases c5 : x18_1 = true
      · subst c5
        have H1 : (some (([] : List Int), false)) = some (r1, r2) := by rw [if_pos rfl] at H; exact H
        clear H
        have H := H1
        clear H1
        simp only [Option.some.injEq, Prod.mk.injEq] at H
        obtain ⟨rfl, rfl⟩ := H
        go_wp2
        go_ret2
        exact ⟨_, by first | rfl | (simp [errW_none, errW_some] <;> rfl) | (simp [*, errW_none, errW_some] <;> rfl), by first | exact Kd.R_nil _ _ _ _ _ | exact Kd.N_nil _ _ _ _ _ | exact Kd.V_nil _ _ _ _ _ | exact Kd.Q_nil _ _ _ _ _ | exact Kd.S_nil _ _ _ _ _, by repeat (first | (with_reducible first | exact HB.out | apply below_alloc | apply pw_below_drewN | apply below_drew1) | exact HB.out)⟩
      · replace c5 := Bool.eq_false_iff.mpr c5
        subst c5
        have H1 : (if a0 < 128 then (some ((([(a0) % 256] : List Int)), true)) else (utf_Encode.l0 kj1 a0 1 2048)) = some (r1, r2) := by rw [if_neg (show ¬ (false = true) by decide)] at H; exact H
        clear H
        have H := H1
        clear H1
        by_cases c6 : a0 < 128
        · rw [if_pos c6] at H
          have c6b0 : decide (a0 < 128) = true := decide_eq_true c6
          clear c6
          obtain ⟨y119, hy119⟩ : ∃ y_ : List Int, y_ = (([(a0) % 256] : List Int)) := ⟨_, rfl⟩
          replace H : (some (y119, true)) = some (r1, r2) := by first | (rw [hy119]; with_reducible exact H) | (have H2_ := (Option.bind_some _ _).symm.trans H; rw [hy119]; with_reducible exact H2_) | (have H2_ := (Option.bind_some _ _).symm.trans H; with_reducible exact H2_) | with_reducible exact H | (rw [hy119]; exact H) | exact H
          have Ny119 := Aside0.mk hy119
          clear hy119
          simp only [Option.some.injEq, Prod.mk.injEq] at H
          obtain ⟨rfl, rfl⟩ := H
          go_wp2_with (first | ((with_reducible refine gate_dst (N := 23) rfl ?_); refine Kd.R_lit (Kd.int .u8) _ 5 ?hg (N := 23) ?hd (xs := ([(a0) % 256] : List Int)) (inner := [.int .u8 ((a0) % 256)]) (ok := fun _ => True) (okp := fun _ => True) ?hr ?hp (fun _ hk => hk) trivial (Below.refl _ _) (Nat.le_refl _) (by simp) ?_; (case hd => rfl); (case hg => rfl); (case hr => first | (go_simp; done) | (go_simp; rfl)); (case hp => exact (Reps.one (show Kd.M (Kd.int .u8) _ _ _ ((a0) % 256) [.int .u8 ((a0) % 256)] from rfl) (Reps.none _ _))); intro v120 w7 ho8 hb hg_ hnew_; clear hg_ hnew_; (first | rw [← Ny119.out] at ho8 | (simp only [Int.reduceToNat] at ho8; rw [← Ny119.out] at ho8)); have n0_ := Aside0.mk (Kd.R_lower ho8 (below_size (by repeat (first | (with_reducible first | exact HB.out | apply below_alloc | apply pw_below_drewN | apply below_drew1) | exact HB.out)))); have n1_ := Aside0.mk (below_step (by repeat (first | (with_reducible first | exact HB.out | apply below_alloc | apply pw_below_drewN | apply below_drew1) | exact HB.out)) hb); clear HB; have HO121 := n0_; have HB := n1_; clear n0_ n1_; clear hb ho8))
          go_ret2
          exact ⟨_, by first | rfl | (simp [errW_none, errW_some] <;> rfl) | (simp [*, errW_none, errW_some] <;> rfl), by (with_reducible repeat (first | apply Kd.R_alloc | apply Kd.R_drewN | apply Kd.R_drew)); exact HO121.out, by repeat (first | (with_reducible first | exact HB.out | apply below_alloc | apply pw_below_drewN | apply below_drew1) | exact HB.out)⟩
        · rw [if_neg c6] at H
          have c6b0 : decide (a0 < 128) = false := decide_eq_false c6
          clear c6
          have HC9 := Aside0.mk H
          clear H
          go_upto_block 0 with (fail)
          go_cut [4] (fun v4 wc => ∃ (kq : Nat) (x4_8 : Int), v4 = .int .i64 x4_8 ∧ Aside0 (utf_Encode.j2 kq a0 x4_8 = some (r1, r2)) ∧ Aside0 (kq ≤ kj1) ∧ Aside0 (Below w.heap.size w wc))
          case first =>
            have H := HC9.out
            clear HC9
            have H' := Aside0.mk H
            clear H
            go_wp2
            go_loopg [4, 5] kj1 (fun kq v4 v5 w' => ∃ (x4_2 : Int) (x5_2 : Int), v4 = .int .i64 x4_2 ∧ v5 = .int .i64 x5_2 ∧ Aside0 (utf_Encode.l0 kq a0 x4_2 x5_2 = some (r1, r2)) ∧ Aside0 (kq ≤ kj1) ∧ Aside0 (Below w.heap.size w w'))
            case atStart => exact ⟨(1), (2048), (by first | rfl | (simp; done) | (simp [*]; done)), (by first | rfl | (simp; done) | (simp [*]; done)), H', ⟨Nat.le_refl _⟩, ⟨by repeat (first | (with_reducible first | exact HB.out | apply below_alloc | apply pw_below_drewN | apply below_drew1) | exact HB.out)⟩⟩
            case round =>
              clear H'
              try clear p2
              try clear c3
              try clear c3b0
              try clear c4
              try clear c4b0
              try clear c5
              try clear c6
              try clear c6b0
              try clear p2
              obtain ⟨x4_2, x5_2, rfl, rfl, HA, HK2, HB⟩ := hrel
              cases gk with
              | zero => exact absurd HA.out (by simp [utf_Encode.l0])
              | succ k2 =>
                have H := HA.out
                clear HA
                simp only [utf_Encode.l0] at H
                by_cases c10 : a0 ≥ x5_2
                · rw [if_pos c10] at H
                  have c10b0 : decide (x5_2 ≤ a0) = true := decide_eq_true c10
                  clear c10
                  (first | rw [c10b0] | (simp only [i64_w, i32_w]; rw [c10b0]) | skip)
                  by_cases c11 : x4_2 < 3
                  · rw [if_pos c11] at H
                    have c11b0 : decide (x4_2 < 3) = true := decide_eq_true c11
                    clear c11
                    have H' := Aside0.mk H
                    clear H
                    go_wp2
                    go_roundg k2
                    case measure => have := HJ1.out; have := HK2.out; omega
                    case rel => exact ⟨(wrap64 (x4_2 + 1)), (wrap64 (x5_2 * 32)), (by first | rfl | (simp; done) | (simp [*]; done)), (by first | rfl | (simp; done) | (simp [*]; done)), H', ⟨by have := HJ1.out; have := HK2.out; omega⟩, ⟨by repeat (first | (with_reducible first | exact HB.out | apply below_alloc | apply pw_below_drewN | apply below_drew1) | exact HB.out)⟩⟩
                  · rw [if_neg c11] at H
                    have c11b0 : decide (x4_2 < 3) = false := decide_eq_false c11
                    clear c11
                    have H' := Aside0.mk H
                    clear H
                    go_wp2
                    go_meet
                    case rel => exact ⟨_, (x4_2), (by first | rfl | (simp; done) | (simp [*]; done)), H', ⟨by have := HJ1.out; have := HK2.out; first | omega | exact Nat.le_refl _⟩, ⟨by repeat (first | (with_reducible first | exact HB.out | apply below_alloc | apply pw_below_drewN | apply below_drew1) | exact HB.out)⟩⟩
                · rw [if_neg c10] at H
                  have c10b0 : decide (x5_2 ≤ a0) = false := decide_eq_false c10
                  clear c10
                  (first | rw [c10b0] | (simp only [i64_w, i32_w]; rw [c10b0]) | skip)
                  have H' := Aside0.mk H
                  clear H
                  go_wp2
                  go_meet
                  case rel => exact ⟨_, (x4_2), (by first | rfl | (simp; done) | (simp [*]; done)), H', ⟨by have := HJ1.out; have := HK2.out; first | omega | exact Nat.le_refl _⟩, ⟨by repeat (first | (with_reducible first | exact HB.out | apply below_alloc | apply pw_below_drewN | apply below_drew1) | exact HB.out)⟩⟩
          case rest =>
            clear HC9
            try clear c1
            try clear p2
            try clear c3
            try clear c3b0
            try clear c4
            try clear c4b0
            try clear c5
            try clear c6
            try clear c6b0
            try clear p6
            try clear c10
            try clear c10b0
            try clear c11
            try clear c11b0
            try clear p2
            obtain ⟨kq, x4_8, rfl, HA, HJ8, HB⟩ := hcut
            cases kq with
            | zero => exact absurd HA.out (by simp [utf_Encode.j2])
            | succ kj8 =>
              have H := HA.out
              clear HA
              simp only [utf_Encode.j2] at H
              obtain ⟨ji12, hji12⟩ : ∃ j_ : Int, (wrap64 (x4_8 + 1)) = j_ := ⟨_, rfl⟩
              replace H : (if 0 ≤ (ji12) then (if (ji12 : Int).toNat ≤ 281474976710656 then (utf_Encode.l1 kj8 a0 x4_8 (List.replicate (ji12 : Int).toNat 0) x4_8) else (none)) else (none)) = some (r1, r2) := by first | (rw [hji12] at H; exact H) | (simp only [hji12] at H ⊢; exact H)
              have hji12w : (IntKind.i64.wrap (x4_8 + 1)) = ji12 := (i64_w _).trans hji12
              by_cases c13 : 0 ≤ (ji12)
              · rw [if_pos c13] at H
                have c13b0 := eq_true c13
                have c13b1 : decide (0 ≤ (ji12)) = true := decide_eq_true c13
                clear c13
                by_cases c14 : (ji12 : Int).toNat ≤ 281474976710656
                · rw [if_pos c14] at H
                  have c14b0 := eq_true c14
                  have c14b1 : decide ((ji12 : Int).toNat ≤ 281474976710656) = true := decide_eq_true c14
                  clear c14
                  obtain ⟨y122, hy122⟩ : ∃ y_ : List Int, y_ = (List.replicate (ji12 : Int).toNat 0) := ⟨_, rfl⟩
                  replace H : (utf_Encode.l1 kj8 a0 x4_8 y122 x4_8) = some (r1, r2) := by first | (rw [hy122]; with_reducible exact H) | (have H2_ := (Option.bind_some _ _).symm.trans H; rw [hy122]; with_reducible exact H2_) | (have H2_ := (Option.bind_some _ _).symm.trans H; with_reducible exact H2_) | with_reducible exact H | (rw [hy122]; exact H) | exact H
                  have Ny122 := Aside0.mk hy122
                  clear hy122
                  have H' := Aside0.mk H
                  clear H
                  go_wp2_with (first | ((with_reducible refine gate_dst (N := 37) rfl ?_); refine Kd.R_make (Kd.int .u8) _ 5 rfl (N := 37) rfl 34 _ _ rfl ji12 rfl rfl Tryz.underlying34 (.int .u8 0) 1 info5 rfl (by decide) (by omega) 0 (ok := fun _ => True) (okp := fun _ => True) rfl (fun _ hk => hk) trivial (of_decide_eq_true (by first | (with_reducible assumption) | assumption)) (Nat.le_trans (Nat.mul_le_mul_right _ (of_decide_eq_true (by first | (with_reducible assumption) | assumption) : ji12.toNat ≤ 281474976710656)) (by omega)) (Below.refl _ _) (Nat.le_refl _) ?_; intro v123 w15 ho16 hb hg_ hnew_; clear hg_ hnew_; (first | rw [← Ny122.out] at ho16 | (simp only [Int.reduceToNat] at ho16; rw [← Ny122.out] at ho16)); have n0_ := Aside0.mk (Kd.R_lower ho16 (below_size (by repeat (first | (with_reducible first | exact HB.out | apply below_alloc | apply pw_below_drewN | apply below_drew1) | exact HB.out)))); have n1_ := Aside0.mk (below_step (by repeat (first | (with_reducible first | exact HB.out | apply below_alloc | apply pw_below_drewN | apply below_drew1) | exact HB.out)) hb); clear HB; have HO124 := n0_; have HB := n1_; clear n0_ n1_; clear hb ho16))
                  go_loopg [0, 7] kj8 (fun kq v0 v7 w' => ∃ (x0_3 : Int) (x6_3 : List Int) (x7_3 : Int), v0 = .int .i64 x0_3 ∧ v7 = .int .i64 x7_3 ∧ Aside0 (utf_Encode.l1 kq x0_3 x4_8 x6_3 x7_3 = some (r1, r2)) ∧ Aside0 (kq ≤ kj8) ∧ Aside0 (Kd.R (Kd.int .u8) 5 w' w.heap.size (fun _ => True) v123 x6_3) ∧ Aside0 (Below w.heap.size w w'))
                  case atStart => exact ⟨(a0), (y122), (x4_8), (by first | rfl | (simp; done) | (simp [*]; done)), (by first | rfl | (simp; done) | (simp [*]; done)), H', ⟨Nat.le_refl _⟩, ⟨by (with_reducible repeat (first | apply Kd.R_alloc | apply Kd.R_drewN | apply Kd.R_drew)); exact HO124.out⟩, ⟨by repeat (first | (with_reducible first | exact HB.out | apply below_alloc | apply pw_below_drewN | apply below_drew1) | exact HB.out)⟩⟩
                  case round =>
                    clear H'
                    try clear c1
                    try clear p2
                    try clear c3
                    try clear c3b0
                    try clear c4
                    try clear c4b0
                    try clear c5
                    try clear c6
                    try clear c6b0
                    try clear p6
                    try clear c10
                    try clear c10b0
                    try clear c11
                    try clear c11b0
                    try clear c13
                    try clear c13b0
                    try clear c13b1
                    try clear c14
                    try clear c14b0
                    try clear c14b1
                    try clear p2
                    try clear p6
                    obtain ⟨x0_3, x6_3, x7_3, rfl, rfl, HA, HK3, HO_6, HB⟩ := hrel
                    cases gk with
                    | zero => exact absurd HA.out (by simp [utf_Encode.l1])
                    | succ k3 =>
                      have H := HA.out
                      clear HA
                      simp only [utf_Encode.l1] at H
                      by_cases c17 : x7_3 > 0
                      · rw [if_pos c17] at H
                        have c17b0 : decide (0 < x7_3) = true := decide_eq_true c17
                        clear c17
                        by_cases c18 : 0 ≤ x7_3
                        · rw [if_pos c18] at H
                          have c18b0 : decide (0 ≤ x7_3) = true := decide_eq_true c18
                          clear c18
                          by_cases c19 : x7_3 < (x6_3.length : Int)
                          · rw [if_pos c19] at H
                            have c19b0 : decide (x7_3 < (x6_3.length : Int)) = true := decide_eq_true c19
                            clear c19
                            obtain ⟨y125, hy125⟩ : ∃ y_ : List Int, y_ = (x6_3.set (x7_3 : Int).toNat (Go.bits .or .u8 128 ((Go.bits .and .i64 x0_3 63) % 256))) := ⟨_, rfl⟩
                            replace H : (utf_Encode.l1 k3 (x0_3 / 64) x4_8 y125 (wrap64 (x7_3 - 1))) = some (r1, r2) := by first | (rw [hy125]; with_reducible exact H) | (have H2_ := (Option.bind_some _ _).symm.trans H; rw [hy125]; with_reducible exact H2_) | (have H2_ := (Option.bind_some _ _).symm.trans H; with_reducible exact H2_) | with_reducible exact H | (rw [hy125]; exact H) | exact H
                            have Ny125 := Aside0.mk hy125
                            clear hy125
                            have H' := Aside0.mk H
                            clear H
                            have p20 : 0 ≤ (x7_3 : Int) := of_decide_eq_true (by first | (with_reducible assumption) | assumption)
                            have q20 : (x7_3 : Int) < ((x6_3.length : Int) : Int) := of_decide_eq_true (by first | (with_reducible assumption) | assumption)
                            obtain ⟨go20, co20, eo20, gb20, gl20, cl20, HG20⟩ := Kd.R_form HO_6.out (by omega)
                            (first | cases eo20 | (injection eo20 with ea_ en_ ec_; (first | subst ea_ | (injection ea_ with ea_; subst ea_)); subst ec_; clear en_))
                            have GB20 := Aside0.mk gb20
                            have GG20 := Aside0.mk HG20
                            clear gb20 gl20 HG20
                            obtain ⟨hx20_0, hf20_0⟩ := Kd.R_celln 0 HO_6.out (x7_3 : Int) p20 q20
                            replace p20 := eq_true p20
                            replace q20 := eq_true q20
                            have HP21 := Kd.R_putg HO_6.out (x7_3 : Int) (Go.bits .or .u8 128 ((Go.bits .and .i64 x0_3 63) % 256))
                            go_wp2_with (first | ((with_reducible refine gate_store (t := 5) (p := 49) rfl ?_); refine store_event (t := 5) (p := 49) (v := ?vo_w22) (w1 := (wr.setCell ⟨go20, (x7_3 : Int).toNat, none⟩ (.int .u8 (Go.bits .or .u8 128 ((Go.bits .and .i64 x0_3 63) % 256))))) ?hg ?ho ?hn ?hr ?_; (case ho => rfl); (case hg => rfl); (case hn => rfl); (case hr => first | (go_simp; done) | (go_simp; rfl)); intro w22 hw; have hg : wr.grownBy w22 (some go20) := (by rw [hw]; exact HP21.2); have hp_ : Kd.R (Kd.int .u8) 5 w22 w.heap.size (fun _ => True) (.slice (some ⟨go20, 0, none⟩) x6_3.length co20) y125 := (by rw [hw, Ny125.out]; exact HP21.1); clear HP21; have n0_ := Aside0.mk (hp_); have n1_ := Aside0.mk ((by rw [hw]; exact below_set (HB.out) GB20.out : Below w.heap.size w w22)); clear HO_6; clear HB; have HO_6 := n0_; have HB := n1_; clear n0_ n1_; clear hg hw hp_))
                            go_roundg k3
                            case measure => have := HJ1.out; have := HJ8.out; have := HK3.out; omega
                            case rel => exact ⟨(x0_3 / 64), (y125), (wrap64 (x7_3 - 1)), (by first | rfl | (simp; done) | (simp [*]; done)), (by first | rfl | (simp; done) | (simp [*]; done)), H', ⟨by have := HJ1.out; have := HJ8.out; have := HK3.out; omega⟩, ⟨by (with_reducible repeat (first | apply Kd.R_alloc | apply Kd.R_drewN | apply Kd.R_drew)); exact HO_6.out⟩, ⟨by repeat (first | (with_reducible first | exact HB.out | apply below_alloc | apply pw_below_drewN | apply below_drew1) | exact HB.out)⟩⟩
                          · rw [if_neg c19] at H
                            exact absurd H (by simp)
                        · rw [if_neg c18] at H
                          exact absurd H (by simp)
                      · rw [if_neg c17] at H
                        have c17b0 : decide (0 < x7_3) = false := decide_eq_false c17
                        clear c17
                        by_cases c23 : 0 ≤ x4_8
                        · rw [if_pos c23] at H
                          have c23b0 := eq_true c23
                          have c23b1 : decide (0 ≤ x4_8) = true := decide_eq_true c23
                          clear c23
                          obtain ⟨ji24, hji24⟩ : ∃ j_ : Int, (shr .i64 3968 x4_8) = j_ := ⟨_, rfl⟩
                          replace H : (if 0 < (x6_3.length : Int) then (some ((x6_3.set (0 : Int).toNat (Go.bits .or .u8 ((Go.bits .and .i64 (ji24) 255) % 256) ((x0_3) % 256))), true)) else (none)) = some (r1, r2) := by first | (rw [hji24] at H; exact H) | (simp only [hji24] at H ⊢; exact H)
                          have hji24_ : (3968 / 2 ^ min x4_8.toNat 64) = ji24 := hji24
                          have hji24z : x4_8 ≤ 64 → (3968 / 2 ^ x4_8.toNat) = ji24 := shr_small hji24
                          by_cases c25 : 0 < (x6_3.length : Int)
                          · rw [if_pos c25] at H
                            have c25b0 : decide (0 < (x6_3.length : Int)) = true := decide_eq_true c25
                            have c25b1 : decide (0 < x6_3.length) = true := decide_eq_true (by omega)
                            clear c25
                            obtain ⟨y126, hy126⟩ : ∃ y_ : List Int, y_ = (x6_3.set (0 : Int).toNat (Go.bits .or .u8 ((Go.bits .and .i64 (ji24) 255) % 256) ((x0_3) % 256))) := ⟨_, rfl⟩
                            replace H : (some (y126, true)) = some (r1, r2) := by first | (rw [hy126]; with_reducible exact H) | (have H2_ := (Option.bind_some _ _).symm.trans H; rw [hy126]; with_reducible exact H2_) | (have H2_ := (Option.bind_some _ _).symm.trans H; with_reducible exact H2_) | with_reducible exact H | (rw [hy126]; exact H) | exact H
                            have Ny126 := Aside0.mk hy126
                            clear hy126
                            simp only [Option.some.injEq, Prod.mk.injEq] at H
                            obtain ⟨rfl, rfl⟩ := H
                            have p26 : 0 ≤ (0 : Int) := (by omega)
                            have q26 : (0 : Int) < ((x6_3.length : Int) : Int) := of_decide_eq_true (by first | (with_reducible assumption) | assumption)
                            have qi26 : (0 < x6_3.length) = True := eq_true (by omega)
                            obtain ⟨go26, co26, eo26, gb26, gl26, cl26, HG26⟩ := Kd.R_form HO_6.out (by omega)
                            (first | cases eo26 | (injection eo26 with ea_ en_ ec_; (first | subst ea_ | (injection ea_ with ea_; subst ea_)); subst ec_; clear en_))
                            have GB26 := Aside0.mk gb26
                            have GG26 := Aside0.mk HG26
                            clear gb26 gl26 HG26
                            obtain ⟨hx26_0, hf26_0⟩ := Kd.R_celln 0 HO_6.out (0 : Int) p26 q26
                            (try rw [show ((0 : Int)).toNat = 0 from rfl] at hx26_0)
                            (try simp only [Nat.reduceMul, Nat.zero_mul, Nat.zero_add, Nat.reduceAdd] at hx26_0)
                            (try rw [show ((0 : Int)).toNat = 0 from rfl] at hf26_0)
                            (try simp only [Nat.reduceMul, Nat.zero_mul, Nat.zero_add, Nat.reduceAdd] at hf26_0)
                            replace p26 := eq_true p26
                            replace q26 := eq_true q26
                            have HP27 := Kd.R_putg HO_6.out (0 : Int) (Go.bits .or .u8 ((Go.bits .and .i64 (ji24) 255) % 256) ((x0_3) % 256))
                            go_wp2_with (first | ((with_reducible refine gate_store (t := 5) (p := 60) rfl ?_); refine store_event (t := 5) (p := 60) (v := ?vo_w28) (w1 := (wr.setCell ⟨go26, (0 : Int).toNat, none⟩ (.int .u8 (Go.bits .or .u8 ((Go.bits .and .i64 (ji24) 255) % 256) ((x0_3) % 256))))) ?hg ?ho ?hn ?hr ?_; (case ho => rfl); (case hg => rfl); (case hn => rfl); (case hr => first | (go_simp; done) | (go_simp; rfl)); intro w28 hw; have hg : wr.grownBy w28 (some go26) := (by rw [hw]; exact HP27.2); have hp_ : Kd.R (Kd.int .u8) 5 w28 w.heap.size (fun _ => True) (.slice (some ⟨go26, 0, none⟩) x6_3.length co26) y126 := (by rw [hw, Ny126.out]; exact HP27.1); clear HP27; have n0_ := Aside0.mk (hp_); have n1_ := Aside0.mk ((by rw [hw]; exact below_set (HB.out) GB26.out : Below w.heap.size w w28)); clear HO_6; clear HB; have HO_6 := n0_; have HB := n1_; clear n0_ n1_; clear hg hw hp_))
                            go_ret2
                            exact ⟨_, by first | rfl | (simp [errW_none, errW_some] <;> rfl) | (simp only [← hji12, ← hji24]; first | rfl | (simp [errW_none, errW_some] <;> rfl)) | (simp [*, errW_none, errW_some] <;> rfl), by (with_reducible repeat (first | apply Kd.R_alloc | apply Kd.R_drewN | apply Kd.R_drew)); exact HO_6.out, by repeat (first | (with_reducible first | exact HB.out | apply below_alloc | apply pw_below_drewN | apply below_drew1) | exact HB.out)⟩
                          · rw [if_neg c25] at H
                            exact absurd H (by simp)
                        · rw [if_neg c23] at H
                          exact absurd H (by simp)
                · rw [if_neg c14] at H
                  exact absurd H (by simp)
              · rw [if_neg c13] at H
                exact absurd H (by simp)



end

section
def token_hex.f (a0 : Int) : Option (Bool) := (token_digit.f a0).bind fun t127 => (if t127 = true then (some true) else (if (Go.bits .or .u8 a0 32) ≥ 97 then (some (decide ((Go.bits .or .u8 a0 32) ≤ 102))) else (some false)))
set_option maxHeartbeats 8000000 in
set_option maxRecDepth 100000 in
theorem token_hex.calls (a0 : Int) (r : Bool) (w : World) (h : token_hex.f a0 = some r) :
    Calls Tryz.prog 150 #[.int .u8 a0] w fun e w' => e = .returned (.bool r) ∧ Drawn0 w w' := by
  have H : ((token_digit.f a0).bind fun t127 => (if t127 = true then (some true) else (if (Go.bits .or .u8 a0 32) ≥ 97 then (some (decide ((Go.bits .or .u8 a0 32) ≤ 102))) else (some false)))) = some r := h
  clear h
  replace H := Option.bind_eq_some_iff.mp H
  obtain ⟨t127, A20, H⟩ := H
  replace H : (if t127 = true then (some true) else (if (Go.bits .or .u8 a0 32) ≥ 97 then (some (decide ((Go.bits .or .u8 a0 32) ≤ 102))) else (some false))) = some r := H
  have A2 := Aside0.mk A20
  clear A20
  by_cases c3 : t127 = true
  · subst c3
    have H1 : (some true) = some r := by rw [if_pos rfl] at H; exact H
    clear H
    have H := H1
    clear H1
    obtain rfl := Option.some.inj H
    go_enter Tryz.func150, Tryz.ntmps150
    go_wp2_with (first | ((with_reducible refine gate_callee (f := 109) rfl ?_); refine goesL_ (some 4) rfl rfl Tryz.func109 (by kernel_rfl) rfl #[.int .u8 a0] rfl (by (try simp only [List.map_toArray, List.map_cons, List.map_nil]); first | done | rfl | (simp only [List.length_drop, List.length_take]; rfl)) ?_; (with_reducible refine (token_digit.calls a0 true _ A2.out).mono ?_); rintro e w' ⟨rfl, ⟨nd, rfl⟩⟩; refine ⟨_, rfl, ?_⟩))
    go_ret
    exact ⟨by first | rfl | (simp; done) | (simp [*]; done), by repeat (first | exact Drawn0.refl _ | apply Drawn0.step)⟩
  · replace c3 := Bool.eq_false_iff.mpr c3
    subst c3
    have H1 : (if (Go.bits .or .u8 a0 32) ≥ 97 then (some (decide ((Go.bits .or .u8 a0 32) ≤ 102))) else (some false)) = some r := by rw [if_neg (show ¬ (false = true) by decide)] at H; exact H
    clear H
    have H := H1
    clear H1
    by_cases c4 : (Go.bits .or .u8 a0 32) ≥ 97
    · rw [if_pos c4] at H
      have c4b0 : decide (97 ≤ (Go.bits .or .u8 a0 32)) = true := decide_eq_true c4
      clear c4
      obtain rfl := Option.some.inj H
      go_enter Tryz.func150, Tryz.ntmps150
      go_wp2_with (first | ((with_reducible refine gate_callee (f := 109) rfl ?_); refine goesL_ (some 4) rfl rfl Tryz.func109 (by kernel_rfl) rfl #[.int .u8 a0] rfl (by (try simp only [List.map_toArray, List.map_cons, List.map_nil]); first | done | rfl | (simp only [List.length_drop, List.length_take]; rfl)) ?_; (with_reducible refine (token_digit.calls a0 false _ A2.out).mono ?_); rintro e w' ⟨rfl, ⟨nd, rfl⟩⟩; refine ⟨_, rfl, ?_⟩))
      go_ret
      exact ⟨by first | rfl | (simp; done) | (simp [*]; done), by repeat (first | exact Drawn0.refl _ | apply Drawn0.step)⟩
    · rw [if_neg c4] at H
      have c4b0 : decide (97 ≤ (Go.bits .or .u8 a0 32)) = false := decide_eq_false c4
      clear c4
      obtain rfl := Option.some.inj H
      go_enter Tryz.func150, Tryz.ntmps150
      go_wp2_with (first | ((with_reducible refine gate_callee (f := 109) rfl ?_); refine goesL_ (some 4) rfl rfl Tryz.func109 (by kernel_rfl) rfl #[.int .u8 a0] rfl (by (try simp only [List.map_toArray, List.map_cons, List.map_nil]); first | done | rfl | (simp only [List.length_drop, List.length_take]; rfl)) ?_; (with_reducible refine (token_digit.calls a0 false _ A2.out).mono ?_); rintro e w' ⟨rfl, ⟨nd, rfl⟩⟩; refine ⟨_, rfl, ?_⟩))
      go_ret
      exact ⟨by first | rfl | (simp; done) | (simp [*]; done), by repeat (first | exact Drawn0.refl _ | apply Drawn0.step)⟩


end

end Go.Proofs.YtkipjalfgdfaiaaGreatDoor.PTk
namespace Go.Proofs.YtkipjalfgdfaiaaGreatDoor
set_option linter.unusedVariables false
set_option linter.unusedSimpArgs false
open Go.RowKit Go.Proofs.YtkipjalfgdfaiaaGreatDoorW.PrintWords

/-- A row of one's own since 'base', of whatever blocks. -/
abbrev Own {α : Type} (d : Kd α) (e : Nat) (w : World) (base : Nat) (v : Value) (l : List α) : Prop := d.R e w base (fun _ => True) v l

theorem below_to {w w1 w2 : World} (h : Below w.heap.size w w1) (k : Below w1.heap.size w1 w2) : Below w.heap.size w w2 := h.trans (k.mono h.size)

theorem int_mkM (k : IntKind) (w : World) (base : Nat) (ok : Nat → Prop) (x : Int) : (Kd.int k).M w base ok x [.int k x] := rfl
end Go.Proofs.YtkipjalfgdfaiaaGreatDoor
namespace Go.Proofs.YtkipjalfgdfaiaaGreatDoor
set_option linter.unusedVariables false
set_option linter.unusedSimpArgs false

/-- What may stand behind a first byte, and how many bytes. -/
def tailL (f : Int) : Int × Int × Nat :=
  if f < 194 ∨ 244 < f then (0, 0, 0)
  else if f < 224 then (128, 191, 1)
  else if f = 224 then (160, 191, 2)
  else if f = 237 then (128, 159, 2)
  else if f = 240 then (144, 191, 3)
  else if f = 241 ∨ f = 242 ∨ f = 243 then (128, 191, 3)
  else if f = 244 then (128, 143, 3)
  else (128, 191, 2)
/-- The bytes behind the first one: so many are wanted. -/
def moreL (lo hi : Int) : Nat → List Int → Int → Nat → Int × Nat
  | 0, _, r, at_ => (r, at_)
  | _ + 1, [], r, at_ => (r, at_)
  | m + 1, c :: t, r, at_ => if c < lo ∨ hi < c then (r, at_) else moreL 128 191 m t (r * 64 + c % 64) (at_ + 1)
/-- The first item of bytes. -/
def readL : List Int → Int × Nat × Bool
  | [] => (0, 0, false)
  | f :: t =>
    if f < 128 then (f, 1, true)
    else match tailL f with
      | (lo, hi, n) =>
        if n = 0 then (65533, 1, false)
        else match moreL lo hi n t (f % (2 ^ (6 - n) : Nat)) 1 with
          | (r, at_) => if at_ ≤ n then (65533, at_, false) else (r, at_, true)
theorem tailL_n (f : Int) : (tailL f).2.2 ≤ 3 := by
  unfold tailL
  repeat' split
  all_goals decide
theorem moreL_le : ∀ (n : Nat) (lo hi : Int) (t : List Int) (r : Int) (a : Nat), a ≤ (moreL lo hi n t r a).2 ∧ (moreL lo hi n t r a).2 ≤ a + n ∧ (moreL lo hi n t r a).2 ≤ a + t.length
  | 0, lo, hi, t, r, a => by simp [moreL]
  | n + 1, lo, hi, [], r, a => by simp [moreL]
  | n + 1, lo, hi, c :: t, r, a => by
    unfold moreL
    split
    · simp
    · have := moreL_le n 128 191 t (r * 64 + c % 64) (a + 1)
      simp only [List.length_cons]
      omega
theorem readL_pos {b : List Int} (h : b ≠ []) : 1 ≤ (readL b).2.1 ∧ (readL b).2.1 ≤ b.length ∧ (readL b).2.1 ≤ 4 := by
  cases b with
  | nil => exact absurd rfl h
  | cons f t =>
    simp only [readL]
    split
    · simp
    · have hn := tailL_n f
      rcases ht : tailL f with ⟨lo, hi, n⟩
      rw [ht] at hn
      have hm := moreL_le n lo hi t (f % (2 ^ (6 - n) : Nat)) 1
      simp only [List.length_cons]
      by_cases h0 : n = 0
      · rw [if_pos h0]
        simp
      · rw [if_neg h0]
        rcases hr : moreL lo hi n t (f % (2 ^ (6 - n) : Nat)) 1 with ⟨r, a⟩
        rw [hr] at hm
        simp only at hm hn
        by_cases ha : a ≤ n
        · simp only [if_pos ha]
          omega
        · simp only [if_neg ha]
          omega
theorem moreL_take : ∀ (n : Nat) (lo hi : Int) (t : List Int) (r : Int) (a m : Nat), (moreL lo hi n t r a).2 ≤ a + m → moreL lo hi n (t.take m) r a = moreL lo hi n t r a
  | 0, lo, hi, t, r, a, m, h => by simp [moreL]
  | n + 1, lo, hi, [], r, a, m, h => by simp
  | n + 1, lo, hi, c :: t, r, a, 0, h => by
    unfold moreL at h ⊢
    simp only [List.take_zero]
    split at h
    · rename_i hc
      rw [if_pos hc]
    · have := moreL_le n 128 191 t (r * 64 + c % 64) (a + 1)
      omega
  | n + 1, lo, hi, c :: t, r, a, m + 1, h => by
    rw [List.take_succ_cons]
    unfold moreL at h ⊢
    split
    · rfl
    · rename_i hc
      rw [if_neg hc] at h
      exact moreL_take n 128 191 t (r * 64 + c % 64) (a + 1) m (by omega)
/-- The bytes of the first item are read as they were. -/
theorem readL_take (b : List Int) : readL (b.take (readL b).2.1) = readL b := by
  cases b with
  | nil => rfl
  | cons f t =>
    by_cases h1 : f < 128
    · have e : readL (f :: t) = (f, 1, true) := by simp only [readL]; rw [if_pos h1]
      rw [e]
      show readL [f] = _
      simp only [readL]
      rw [if_pos h1]
    · have e : ∀ u, readL (f :: u) = match tailL f with
        | (lo, hi, n) =>
          if n = 0 then (65533, 1, false)
          else match moreL lo hi n u (f % (2 ^ (6 - n) : Nat)) 1 with
            | (r, at_) => if at_ ≤ n then (65533, at_, false) else (r, at_, true) := fun u => by simp only [readL]; rw [if_neg h1]
      have hp := readL_pos (b := f :: t) (by simp)
      obtain ⟨m, hm⟩ : ∃ m, (readL (f :: t)).2.1 = m + 1 := ⟨(readL (f :: t)).2.1 - 1, by omega⟩
      rw [hm, List.take_succ_cons, e, e]
      rw [e] at hm
      rcases htl : tailL f with ⟨lo, hi, n⟩
      rw [htl] at hm
      simp only at hm ⊢
      by_cases h0 : n = 0
      · rw [if_pos h0, if_pos h0]
      · rw [if_neg h0] at hm ⊢
        rw [if_neg h0]
        have hle : (moreL lo hi n t (f % (2 ^ (6 - n) : Nat)) 1).2 ≤ 1 + m := by
          rcases hmm : moreL lo hi n t (f % (2 ^ (6 - n) : Nat)) 1 with ⟨r, a⟩
          rw [hmm] at hm
          simp only at hm ⊢
          split at hm <;> simp only at hm <;> omega
        rw [moreL_take n lo hi t _ 1 m hle]

end Go.Proofs.YtkipjalfgdfaiaaGreatDoor
namespace Go.Proofs.YtkipjalfgdfaiaaGreatDoor
set_option linter.unusedVariables false
set_option linter.unusedSimpArgs false
open Go.RowKit Go.Proofs.YtkipjalfgdfaiaaGreatDoorW.PrintWords

/-- Whatever stood in w stands in w', but for some blocks. -/
structure But (ex : Nat → Prop) (w w' : World) : Prop where
  os : w'.os = w.os
  tape : w'.tape = w.tape
  output : w'.output = w.output
  size : w.heap.size ≤ w'.heap.size
  block : ∀ k, k < w.heap.size → ¬ ex k → w'.heap[k]? = w.heap[k]?
section
variable {ex ex' : Nat → Prop} {w w1 w2 : World}
theorem But.refl (ex : Nat → Prop) (w : World) : But ex w w := ⟨rfl, rfl, rfl, Nat.le_refl _, fun _ _ _ => rfl⟩
theorem But.trans (h : But ex w w1) (k : But ex w1 w2) : But ex w w2 :=
  ⟨k.os.trans h.os, k.tape.trans h.tape, k.output.trans h.output, Nat.le_trans h.size k.size, fun b hb hn => (k.block b (Nat.lt_of_lt_of_le hb h.size) hn).trans (h.block b hb hn)⟩
theorem But.mono (h : But ex w w1) (he : ∀ k, ex k → ex' k) : But ex' w w1 := ⟨h.os, h.tape, h.output, h.size, fun b hb hn => h.block b hb (fun e => hn (he b e))⟩
theorem But.of_below (h : Below w.heap.size w w1) : But ex w w1 := ⟨h.os, h.tape, h.output, h.size, fun b hb _ => h.block b hb⟩
theorem But.below (h : But ex w w1) {B : Nat} (hB : B ≤ w.heap.size) (he : ∀ k, k < B → ¬ ex k) : Below B w w1 := ⟨h.os, h.tape, h.output, h.size, fun b hb => h.block b (Nat.lt_of_lt_of_le hb hB) (he b hb)⟩
theorem But.set (h : But ex w w1) (g j : Nat) (hg : ex g) (u : Value) : But ex w (w1.setCell ⟨g, j, none⟩ u) := by
  have hb := Below.setCell (Below.refl 0 w1) (p := ⟨g, j, none⟩) (Nat.zero_le _) u
  refine ⟨hb.os.trans h.os, hb.tape.trans h.tape, hb.output.trans h.output, Nat.le_trans h.size hb.size, fun b hbl hn => ?_⟩
  rw [Below.heap_setCell w1 ⟨g, j, none⟩ u b (fun e => hn (by rw [e]; exact hg))]
  exact h.block b hbl hn
end
/-- A token. -/
structure Tk where
  kind : Int
  mode : Int := 0
  a : Int := 0
  b : Int := 0
  name : ByteArray := ⟨#[]⟩
  neg : Bool := false
  st : Nat
  en : Nat := 0
def tkC (t : Tk) : Array Value := #[.int .i64 t.kind, .int .i64 t.mode, .int .i64 t.a, .int .i64 t.b, .string t.name, .bool t.neg, .int .i64 (t.st : Int), .int .i64 (t.en : Int)]
/-- The scanner's variable. -/
def ScP (w : World) (g : Nat) (vp : Value) (k st ne : Nat) : Prop := w.heap[g]? = some (.cells #[vp, .int .i64 (k : Int), .int .i64 (st : Int), .int .i64 (ne : Int)] 77 (0, 0))
/-- The token's variable. -/
def TkP (w : World) (h : Nat) (t : Tk) : Prop := w.heap[h]? = some (.cells (tkC t) 41 (0, 0))
theorem rowc {w : World} {g : Nat} {cs : Array Value} {t : TypeId} {fr : Nat × Nat} (h : w.heap[g]? = some (.cells cs t fr)) (j : Nat) (v : Value) (hj : cs[j]? = some v) : w.cell? ⟨g, j, none⟩ = some v := by
  simp [World.cell?, h, hj]

end Go.Proofs.YtkipjalfgdfaiaaGreatDoor
namespace Go.Proofs.YtkipjalfgdfaiaaGreatDoor
set_option linter.unusedVariables false
set_option linter.unusedSimpArgs false

/-- A code point's bytes. -/
def encL (r : Int) : List Int :=
  if r < 128 then [r]
  else if r < 2048 then [192 + r / 64, 128 + r % 64]
  else if r < 65536 then [224 + r / 4096, 128 + r / 64 % 64, 128 + r % 64]
  else [240 + r / 262144, 128 + r / 4096 % 64, 128 + r / 64 % 64, 128 + r % 64]
def runeB (r : Int) : Bool := decide (0 ≤ r) && decide (r ≤ 1114111) && !(decide (55296 ≤ r) && decide (r ≤ 57343))
theorem runeB_iff (r : Int) : runeB r = true ↔ 0 ≤ r ∧ r ≤ 1114111 ∧ ¬ (55296 ≤ r ∧ r ≤ 57343) := by
  unfold runeB
  simp only [Bool.and_eq_true, Bool.not_eq_true', decide_eq_true_eq, Bool.and_eq_false_iff, decide_eq_false_iff_not]
  omega
theorem tailL_2 {f : Int} (h1 : 194 ≤ f) (h2 : f < 224) : tailL f = (128, 191, 1) := by
  unfold tailL
  rw [if_neg (by omega), if_pos h2]
theorem tailL_3 {f : Int} (h1 : 224 ≤ f) (h2 : f < 240) : tailL f = (if f = 224 then 160 else 128, if f = 237 then 159 else 191, 2) := by
  unfold tailL
  rw [if_neg (by omega), if_neg (by omega)]
  by_cases a : f = 224
  · subst a; rfl
  · rw [if_neg a, if_neg a]
    by_cases b : f = 237
    · subst b; rfl
    · rw [if_neg b, if_neg b, if_neg (by omega), if_neg (by omega), if_neg (by omega)]
theorem tailL_4 {f : Int} (h1 : 240 ≤ f) (h2 : f ≤ 244) : tailL f = (if f = 240 then 144 else 128, if f = 244 then 143 else 191, 3) := by
  unfold tailL
  rw [if_neg (by omega), if_neg (by omega), if_neg (by omega), if_neg (by omega)]
  by_cases a : f = 240
  · subst a; rfl
  · rw [if_neg a, if_neg a]
    by_cases b : f = 244
    · subst b; rfl
    · rw [if_neg b, if_neg b, if_pos (by omega)]
theorem moreL_nil (lo hi : Int) (n : Nat) (r : Int) (a : Nat) : moreL lo hi n [] r a = (r, a) := by
  cases n <;> rfl
theorem readL_hi {f : Int} {t : List Int} (h : ¬ f < 128) {lo hi : Int} {n : Nat} (ht : tailL f = (lo, hi, n)) (hn : n ≠ 0) {r : Int} {a : Nat} (hm : moreL lo hi n t (f % (2 ^ (6 - n) : Nat)) 1 = (r, a)) : readL (f :: t) = if a ≤ n then (65533, a, false) else (r, a, true) := by
  simp only [readL]
  rw [if_neg h, ht]
  simp only
  rw [if_neg hn, hm]
theorem moreL_ok {lo hi c : Int} (h1 : lo ≤ c) (h2 : c ≤ hi) (m : Nat) (t : List Int) (r : Int) (a : Nat) : moreL lo hi (m + 1) (c :: t) r a = moreL 128 191 m t (r * 64 + c % 64) (a + 1) := by
  rw [moreL, if_neg (by omega)]
theorem moreL_bad {lo hi c : Int} (h : c < lo ∨ hi < c) (m : Nat) (t : List Int) (r : Int) (a : Nat) : moreL lo hi (m + 1) (c :: t) r a = (r, a) := by
  rw [moreL, if_pos h]
theorem readL_enc (r : Int) (hr : runeB r = true) (t : List Int) : readL (encL r ++ t) = (r, (encL r).length, true) := by
  rw [runeB_iff] at hr
  obtain ⟨h0, h1, h2⟩ := hr
  unfold encL
  by_cases a : r < 128
  · rw [if_pos a]
    simp only [List.cons_append, List.nil_append, readL]
    rw [if_pos a]
    rfl
  · rw [if_neg a]
    by_cases b : r < 2048
    · rw [if_pos b]
      simp only [List.cons_append, List.nil_append]
      rw [readL_hi (by omega) (tailL_2 (by omega) (by omega)) (by decide) (moreL_ok (by omega) (by omega) _ _ _ _)]
      rw [if_neg (by decide)]
      refine Prod.ext ?_ rfl
      show (192 + r / 64) % ((2 ^ (6 - 1) : Nat) : Int) * 64 + (128 + r % 64) % 64 = r
      omega
    · rw [if_neg b]
      by_cases c : r < 65536
      · rw [if_pos c]
        simp only [List.cons_append, List.nil_append]
        rw [readL_hi (by omega) (tailL_3 (by omega) (by omega)) (by decide) ((moreL_ok (by split <;> omega) (by split <;> omega) _ _ _ _).trans (moreL_ok (by omega) (by omega) _ _ _ _))]
        rw [if_neg (by decide)]
        refine Prod.ext ?_ rfl
        show ((224 + r / 4096) % ((2 ^ (6 - 2) : Nat) : Int) * 64 + (128 + r / 64 % 64) % 64) * 64 + (128 + r % 64) % 64 = r
        omega
      · rw [if_neg c]
        simp only [List.cons_append, List.nil_append]
        rw [readL_hi (by omega) (tailL_4 (by omega) (by omega)) (by decide) ((moreL_ok (by split <;> omega) (by split <;> omega) _ _ _ _).trans ((moreL_ok (by omega) (by omega) _ _ _ _).trans (moreL_ok (by omega) (by omega) _ _ _ _)))]
        rw [if_neg (by decide)]
        refine Prod.ext ?_ rfl
        show (((240 + r / 262144) % ((2 ^ (6 - 3) : Nat) : Int) * 64 + (128 + r / 4096 % 64) % 64) * 64 + (128 + r / 64 % 64) % 64) * 64 + (128 + r % 64) % 64 = r
        omega
/-- What was read well is a code point, and its bytes are those that were read. -/
theorem enc_readL {b : List Int} (hb : ∀ x ∈ b, 0 ≤ x ∧ x ≤ 255) {r : Int} {n : Nat} (h : readL b = (r, n, true)) : runeB r = true ∧ b.take n = encL r := by
  cases b with
  | nil => simp [readL] at h
  | cons f t =>
    have hf := hb f List.mem_cons_self
    by_cases a : f < 128
    · simp only [readL] at h
      rw [if_pos a] at h
      obtain ⟨rfl, rfl, _⟩ : f = r ∧ 1 = n ∧ True := by simpa using h
      refine ⟨(runeB_iff _).2 (by omega), ?_⟩
      unfold encL
      rw [if_pos a]
      rfl
    · have hlow : ¬ (f < 194 ∨ 244 < f) := by
        intro hc
        simp only [readL] at h
        rw [if_neg a] at h
        have e : tailL f = (0, 0, 0) := by unfold tailL; rw [if_pos hc]
        rw [e] at h
        simp at h
      by_cases h2 : f < 224
      · have e := tailL_2 (f := f) (by omega) h2
        cases t with
        | nil => rw [readL_hi a e (by decide) (r := f % ((2 ^ (6 - 1) : Nat) : Int)) (a := 1) rfl] at h; simp at h
        | cons c t =>
          have hc := hb c (List.mem_cons_of_mem _ List.mem_cons_self)
          by_cases g : c < 128 ∨ 191 < c
          · rw [readL_hi a e (by decide) (moreL_bad g _ _ _ _)] at h; simp at h
          · rw [readL_hi a e (by decide) (moreL_ok (by omega) (by omega) _ _ _ _), if_neg (by decide)] at h
            have h3 : f % ((2 ^ (6 - 1) : Nat) : Int) * 64 + c % 64 = r ∧ 2 = n := by
              have := (Prod.mk.inj h); exact ⟨this.1, (Prod.mk.inj this.2).1⟩
            obtain ⟨h3, rfl⟩ := h3
            have h4 : ((2 ^ (6 - 1) : Nat) : Int) = 32 := rfl
            rw [h4] at h3
            refine ⟨(runeB_iff _).2 (by omega), ?_⟩
            unfold encL
            rw [if_neg (by omega), if_pos (by omega)]
            simp only [List.take_succ_cons, List.take_zero, List.cons.injEq, and_true]
            omega
      · by_cases h3 : f < 240
        · have e := tailL_3 (f := f) (by omega) h3
          cases t with
          | nil => rw [readL_hi a e (by decide) (r := f % ((2 ^ (6 - 2) : Nat) : Int)) (a := 1) rfl] at h; simp at h
          | cons c t =>
            have hc := hb c (List.mem_cons_of_mem _ List.mem_cons_self)
            by_cases g : c < (if f = 224 then 160 else 128) ∨ (if f = 237 then 159 else 191) < c
            · rw [readL_hi a e (by decide) (moreL_bad g _ _ _ _)] at h; simp at h
            · cases t with
              | nil => rw [readL_hi a e (by decide) ((moreL_ok (by omega) (by omega) _ _ _ _).trans (moreL_nil _ _ _ _ _))] at h; simp at h
              | cons d t =>
                have hd := hb d (List.mem_cons_of_mem _ (List.mem_cons_of_mem _ List.mem_cons_self))
                by_cases g2 : d < 128 ∨ 191 < d
                · rw [readL_hi a e (by decide) ((moreL_ok (by omega) (by omega) _ _ _ _).trans (moreL_bad g2 _ _ _ _))] at h; simp at h
                · rw [readL_hi a e (by decide) ((moreL_ok (by omega) (by omega) _ _ _ _).trans (moreL_ok (by omega) (by omega) _ _ _ _)), if_neg (by decide)] at h
                  have h5 : (f % ((2 ^ (6 - 2) : Nat) : Int) * 64 + c % 64) * 64 + d % 64 = r ∧ 3 = n := by
                    have := (Prod.mk.inj h); exact ⟨this.1, (Prod.mk.inj this.2).1⟩
                  obtain ⟨h5, rfl⟩ := h5
                  have h4 : ((2 ^ (6 - 2) : Nat) : Int) = 16 := rfl
                  rw [h4] at h5
                  have g3 : (f = 224 → 160 ≤ c) ∧ (f = 237 → c ≤ 159) ∧ 128 ≤ c ∧ c ≤ 191 := by
                    refine ⟨fun q => ?_, fun q => ?_, ?_, ?_⟩
                    · rw [if_pos q] at g; omega
                    · rw [if_pos q] at g; omega
                    · by_cases q : f = 224
                      · rw [if_pos q] at g; omega
                      · rw [if_neg q] at g; omega
                    · by_cases q : f = 237
                      · rw [if_pos q] at g; omega
                      · rw [if_neg q] at g; omega
                  clear g h
                  refine ⟨(runeB_iff _).2 (by omega), ?_⟩
                  unfold encL
                  rw [if_neg (by omega), if_neg (by omega), if_pos (by omega)]
                  simp only [List.take_succ_cons, List.take_zero, List.cons.injEq, and_true]
                  omega
        · have e := tailL_4 (f := f) (by omega) (by omega)
          cases t with
          | nil => rw [readL_hi a e (by decide) (r := f % ((2 ^ (6 - 3) : Nat) : Int)) (a := 1) rfl] at h; simp at h
          | cons c t =>
            have hc := hb c (List.mem_cons_of_mem _ List.mem_cons_self)
            by_cases g : c < (if f = 240 then 144 else 128) ∨ (if f = 244 then 143 else 191) < c
            · rw [readL_hi a e (by decide) (moreL_bad g _ _ _ _)] at h; simp at h
            · cases t with
              | nil => rw [readL_hi a e (by decide) ((moreL_ok (by omega) (by omega) _ _ _ _).trans (moreL_nil _ _ _ _ _))] at h; simp at h
              | cons d t =>
                have hd := hb d (List.mem_cons_of_mem _ (List.mem_cons_of_mem _ List.mem_cons_self))
                by_cases g2 : d < 128 ∨ 191 < d
                · rw [readL_hi a e (by decide) ((moreL_ok (by omega) (by omega) _ _ _ _).trans (moreL_bad g2 _ _ _ _))] at h; simp at h
                · cases t with
                  | nil => rw [readL_hi a e (by decide) ((moreL_ok (by omega) (by omega) _ _ _ _).trans ((moreL_ok (by omega) (by omega) _ _ _ _).trans (moreL_nil _ _ _ _ _)))] at h; simp at h
                  | cons d2 t =>
                    have hd2 := hb d2 (List.mem_cons_of_mem _ (List.mem_cons_of_mem _ (List.mem_cons_of_mem _ List.mem_cons_self)))
                    by_cases g4 : d2 < 128 ∨ 191 < d2
                    · rw [readL_hi a e (by decide) ((moreL_ok (by omega) (by omega) _ _ _ _).trans ((moreL_ok (by omega) (by omega) _ _ _ _).trans (moreL_bad g4 _ _ _ _)))] at h; simp at h
                    · rw [readL_hi a e (by decide) ((moreL_ok (by omega) (by omega) _ _ _ _).trans ((moreL_ok (by omega) (by omega) _ _ _ _).trans (moreL_ok (by omega) (by omega) _ _ _ _))), if_neg (by decide)] at h
                      have h5 : ((f % ((2 ^ (6 - 3) : Nat) : Int) * 64 + c % 64) * 64 + d % 64) * 64 + d2 % 64 = r ∧ 4 = n := by
                        have := (Prod.mk.inj h); exact ⟨this.1, (Prod.mk.inj this.2).1⟩
                      obtain ⟨h5, rfl⟩ := h5
                      have h4 : ((2 ^ (6 - 3) : Nat) : Int) = 8 := rfl
                      rw [h4] at h5
                      have g3 : (f = 240 → 144 ≤ c) ∧ (f = 244 → c ≤ 143) ∧ 128 ≤ c ∧ c ≤ 191 := by
                        refine ⟨fun q => ?_, fun q => ?_, ?_, ?_⟩
                        · rw [if_pos q] at g; omega
                        · rw [if_pos q] at g; omega
                        · by_cases q : f = 240
                          · rw [if_pos q] at g; omega
                          · rw [if_neg q] at g; omega
                        · by_cases q : f = 244
                          · rw [if_pos q] at g; omega
                          · rw [if_neg q] at g; omega
                      clear g h
                      refine ⟨(runeB_iff _).2 (by omega), ?_⟩
                      unfold encL
                      rw [if_neg (by omega), if_neg (by omega), if_neg (by omega)]
                      simp only [List.take_succ_cons, List.take_zero, List.cons.injEq, and_true]
                      omega
theorem moreL_full : ∀ (n : Nat) (lo hi : Int) (t : List Int) (r : Int) (a m : Nat), a + n ≤ (moreL lo hi n (t.take m) r a).2 → moreL lo hi n t r a = moreL lo hi n (t.take m) r a
  | 0, lo, hi, t, r, a, m, _ => by simp [moreL]
  | n + 1, lo, hi, [], r, a, m, _ => by simp
  | n + 1, lo, hi, c :: t, r, a, 0, h => by
    simp only [List.take_zero, moreL] at h
    omega
  | n + 1, lo, hi, c :: t, r, a, m + 1, h => by
    rw [List.take_succ_cons] at h ⊢
    unfold moreL at h ⊢
    split
    · rfl
    · rename_i hc
      rw [if_neg hc] at h
      exact moreL_full n 128 191 t (r * 64 + c % 64) (a + 1) m (by omega)
/-- Bytes behind a whole item play no part. -/
theorem readL_more {b : List Int} {r : Int} {n m : Nat} (h : readL (b.take m) = (r, n, true)) : readL b = (r, n, true) := by
  cases b with
  | nil => simpa using h
  | cons f t =>
    cases m with
    | zero => simp [readL] at h
    | succ m =>
      rw [List.take_succ_cons] at h
      by_cases a : f < 128
      · simp only [readL] at h ⊢
        rw [if_pos a] at h ⊢
        exact h
      · rcases ht : tailL f with ⟨lo, hi, k⟩
        by_cases h0 : k = 0
        · simp only [readL] at h
          rw [if_neg a, ht] at h
          simp only at h
          rw [if_pos h0] at h
          simp at h
        · rcases hm : moreL lo hi k (t.take m) (f % (2 ^ (6 - k) : Nat)) 1 with ⟨r2, a2⟩
          rw [readL_hi a ht h0 hm] at h
          by_cases h3 : a2 ≤ k
          · rw [if_pos h3] at h; simp at h
          · have h4 := moreL_full k lo hi t (f % (2 ^ (6 - k) : Nat)) 1 m (by rw [hm]; simp only; omega)
            rw [hm] at h4
            rw [readL_hi a ht h0 h4]
            exact h
theorem encL_pos (r : Int) : 1 ≤ (encL r).length ∧ (encL r).length ≤ 4 := by
  unfold encL
  repeat' split
  all_goals simp
theorem encL_rng {r : Int} (hr : runeB r = true) : ∀ x ∈ encL r, 0 ≤ x ∧ x ≤ 255 := by
  rw [runeB_iff] at hr
  unfold encL
  intro x hx
  split at hx
  · simp at hx; omega
  · split at hx
    · simp at hx; omega
    · split at hx
      · simp at hx; omega
      · simp at hx; omega
theorem encL_ascii {r : Int} (h : r < 128) : encL r = [r] := if_pos h
theorem encL_high {r : Int} (hr : runeB r = true) (h : 128 ≤ r) : ∀ x ∈ encL r, 128 ≤ x := by
  rw [runeB_iff] at hr
  unfold encL
  intro x hx
  rw [if_neg (by omega)] at hx
  split at hx
  · simp at hx; omega
  · split at hx
    · simp at hx; omega
    · simp at hx; omega

end Go.Proofs.YtkipjalfgdfaiaaGreatDoor
namespace Go.Proofs.YtkipjalfgdfaiaaGreatDoor
set_option linter.unusedVariables false
set_option linter.unusedSimpArgs false
open Go.RowKit Go.Proofs.YtkipjalfgdfaiaaGreatDoorW.PrintWords

/-- What comes, or the fault: its code, its place. -/
abbrev Fl (α : Type) := Except (Int × Nat) α
def digB (c : Int) : Bool := decide (48 ≤ c) && decide (c ≤ 57)
def letB (c : Int) : Bool := (decide (97 ≤ c) && decide (c ≤ 122)) || (decide (65 ≤ c) && decide (c ≤ 90))
def hexB (c : Int) : Bool := digB c || (decide (97 ≤ c) && decide (c ≤ 102)) || (decide (65 ≤ c) && decide (c ≤ 70))
def namB (c : Int) : Bool := digB c || letB c || c == 95
def peekL (p : List Int) (k : Nat) : Fl Int := match p[k]? with
  | some b => .ok b
  | none => .error (130, k)
/-- Whether a text stands there. -/
def hasL (p : List Int) (k : Nat) (t : List Int) : Bool := t.isPrefixOf (p.drop k)
def eatL (p : List Int) (k : Nat) (t : List Int) : Nat := if hasL p k t then k + t.length else k
def needL (p : List Int) (st k : Nat) (c e : Int) : Fl Nat := match peekL p k with
  | .ok b => if b = c then .ok (k + 1) else .error (e, st)
  | .error x => .error x
def charL (p : List Int) (k : Nat) : Fl (Int × Nat) := match readL (p.drop k) with
  | (r, n, true) => .ok (r, k + n)
  | (_, _, false) => .error (131, k)
/-- How many bytes of a kind stand ahead, so many at most. -/
def runN (of_ : Int → Bool) : Nat → List Int → Nat
  | 0, _ => 0
  | _ + 1, [] => 0
  | m + 1, c :: t => if of_ c then runN of_ m t + 1 else 0
/-- One step behind the other. -/
def thenF {α β : Type} (x : Fl α) (f : α → Fl β) : Fl β := match x with
  | .error e => .error e
  | .ok a => f a
theorem thenF_ok {α β : Type} (a : α) (f : α → Fl β) : thenF (.ok a) f = f a := rfl
theorem thenF_err {α β : Type} (x : Int × Nat) (f : α → Fl β) : thenF (.error x) f = .error x := rfl
def nameL (p : List Int) (st k : Nat) (e : Int) : Fl (List Int × Nat) :=
  thenF (peekL p k) fun c =>
    if digB c then .error (e, st)
    else thenF (peekL p (k + runN namB 20 (p.drop k))) fun _ =>
      if runN namB 20 (p.drop k) = 0 then .error (e, st)
      else thenF (needL p st (k + runN namB 20 (p.drop k)) 62 e) fun k' => .ok ((p.drop k).take (runN namB 20 (p.drop k)), k')
def numD (l : List Int) : Int := l.foldl (fun n c => 10 * n + (c - 48)) 0
def numberL (p : List Int) (k most : Nat) : Int × Nat :=
  (if runN digB most (p.drop k) = 0 then -1 else numD ((p.drop k).take (runN digB most (p.drop k))), k + runN digB most (p.drop k))
/-- Behind a (?<. -/
def openN (p : List Int) (k : Nat) (t : Tk) : Fl (Tk × Nat) :=
  thenF (peekL p k) fun d =>
    if d = 61 then .ok ({ t with kind := 3, mode := 5 }, k + 1)
    else if d = 33 then .ok ({ t with kind := 3, mode := 6 }, k + 1)
    else thenF (nameL p t.st k 133) fun a => .ok ({ t with kind := 3, mode := 2, name := strOfNums a.1 }, a.2)
/-- Behind a (. -/
def openL (p : List Int) (k : Nat) (t : Tk) : Fl (Tk × Nat) :=
  if hasL p k [63] = false then .ok ({ t with kind := 3 }, k)
  else thenF (peekL p (k + 1)) fun c =>
      if c = 58 then .ok ({ t with kind := 3, mode := 1 }, k + 2)
      else if c = 61 then .ok ({ t with kind := 3, mode := 3 }, k + 2)
      else if c = 33 then .ok ({ t with kind := 3, mode := 4 }, k + 2)
      else if c = 62 then .ok ({ t with kind := 3, mode := 7 }, k + 2)
      else if c = 60 then openN p (k + 2) t
      else .error (133, t.st)
/-- The second number of a repetition. -/
def countS (p : List Int) (a : Int) (k1 : Nat) : Int × Nat := if 0 ≤ a ∧ hasL p k1 [44] = true then numberL p (k1 + 1) 3 else (a, k1)
/-- The brace behind the numbers of a repetition. -/
def countE (p : List Int) (t : Tk) (a b : Int) (k2 : Nat) : Fl (Tk × Nat) :=
  thenF (peekL p k2) fun _ =>
    if a < 0 ∨ 100 < a ∨ 100 < b ∨ (0 ≤ b ∧ b < a) then .error (150, t.st)
    else thenF (needL p t.st k2 125 150) fun k' => .ok ({ t with kind := 6, a := a, b := b }, k')
/-- The numbers of a repetition, and their brace. -/
def countsL (p : List Int) (k : Nat) (t : Tk) : Fl (Tk × Nat) :=
  countE p t (numberL p k 3).1 (countS p (numberL p k 3).1 (numberL p k 3).2).1 (countS p (numberL p k 3).1 (numberL p k 3).2).2
/-- What stands behind a repetition. -/
def modeL (p : List Int) (k : Nat) (t : Tk) : Tk × Nat :=
  if hasL p k [63] = true then ({ t with mode := 1 }, k + 1)
  else if hasL p k [43] = true then ({ t with mode := 2 }, k + 1)
  else (t, k)
def countL (p : List Int) (k : Nat) (t : Tk) (c : Int) : Fl (Tk × Nat) :=
  if c = 43 then .ok ({ t with kind := 6, a := 1, b := -1 }, k) else if c = 63 then .ok ({ t with kind := 6, b := 1 }, k) else if c = 123 then countsL p k t else .ok ({ t with kind := 6, b := -1 }, k)
def repeatL (p : List Int) (k : Nat) (t : Tk) (c : Int) : Fl (Tk × Nat) :=
  thenF (countL p k t c) fun a => .ok (modeL p a.2 a.1)
def canonL (res : ByteArray → Int × ByteArray × Int) (x : ByteArray) : ByteArray × Int :=
  match res x with
  | (kind, v, e) => if e ≠ 0 then (⟨#[]⟩, e) else if kind = 1 then (⟨#[103, 99, 61]⟩ ++ v, e) else if kind = 2 then (⟨#[115, 99, 61]⟩ ++ v, e) else (v, e)
/-- Code points up to a }. -/
def uptoL (p : List Int) : Nat → Nat → Fl Nat
  | 0, k => .ok k
  | m + 1, k => thenF (peekL p k) fun b => if b = 125 then .ok k else thenF (charL p k) fun a => uptoL p m a.2
/-- What a property's expression comes to. -/
def propE (res : ByteArray → Int × ByteArray × Int) (x : ByteArray) (k2 : Nat) (t : Tk) : Fl (Tk × Nat) :=
  if (canonL res x).2 ≠ 0 then .error ((canonL res x).2, t.st) else .ok ({ t with kind := 8, name := (canonL res x).1 }, k2 + 1)
def propL (res : ByteArray → Int × ByteArray × Int) (p : List Int) (k : Nat) (t : Tk) : Fl (Tk × Nat) :=
  thenF (needL p t.st k 123 132) fun k1 => thenF (uptoL p p.length k1) fun k2 => propE res (strOfNums ((p.drop k1).take (k2 - k1))) k2 t
def hexV (c : Int) : Int := if c ≤ 57 then c - 48 else if c ≤ 70 then c - 55 else c - 87
def hexN (l : List Int) : Int := l.foldl (fun n c => 16 * n + hexV c) 0
/-- The brace behind a code point's digits. -/
def pointE (p : List Int) (k2 : Nat) (d : List Int) (t : Tk) : Fl (Tk × Nat) :=
  thenF (peekL p k2) fun _ =>
    if d = [] ∨ runeB (hexN d) = false then .error (132, t.st)
    else thenF (needL p t.st k2 125 132) fun k' => .ok ({ t with kind := 1, a := hexN d }, k')
def pointL (p : List Int) (k : Nat) (t : Tk) : Fl (Tk × Nat) :=
  thenF (needL p t.st k 123 132) fun k1 => pointE p (k1 + runN hexB 6 (p.drop k1)) ((p.drop k1).take (runN hexB 6 (p.drop k1))) t
/-- The brace behind a group's number. -/
def backE (p : List Int) (x : Int × Nat) (t : Tk) : Fl (Tk × Nat) :=
  thenF (peekL p x.2) fun _ =>
    if x.1 < 1 then .error (132, t.st)
    else thenF (needL p t.st x.2 125 132) fun k' => .ok ({ t with kind := 9, a := x.1 }, k')
def backL (p : List Int) (k : Nat) (t : Tk) : Fl (Tk × Nat) :=
  thenF (peekL p k) fun c =>
    if c = 60 then thenF (nameL p t.st (k + 1) 132) fun a => .ok ({ t with kind := 9, name := strOfNums a.1 }, a.2)
    else thenF (needL p t.st k 123 132) fun k1 => backE p (numberL p k1 2) t
def edgeL (p : List Int) (k : Nat) (t : Tk) (not_ : Bool) : Fl (Tk × Nat) :=
  if hasL p k [123] = false then .ok ({ t with kind := 7, mode := if not_ then 6 else 5 }, k)
  else thenF (peekL p (k + 1)) fun c =>
      if c = 103 ∨ c = 119 then thenF (needL p t.st (k + 2) 125 132) fun k' => .ok ({ t with kind := 7, mode := (if c = 103 then 7 else 9) + (if not_ then 1 else 0) }, k')
      else .error (132, t.st)
def chB (c : Int) : ByteArray := strOfNums [c]
/-- What a code point behind a backslash says. -/
def escL (res : ByteArray → Int × ByteArray × Int) (p : List Int) (ne : Nat) (c : Int) (k1 : Nat) (t : Tk) : Fl (Tk × Nat) :=
  if 128 ≤ c ∨ (letB c = false ∧ digB c = false) then .ok ({ t with kind := 1, a := c }, k1)
  else if c = 100 ∨ c = 119 ∨ c = 115 ∨ c = 68 ∨ c = 87 ∨ c = 83 then .ok ({ t with kind := 8, name := chB (if c < 97 then c + 32 else c), neg := decide (c < 97) }, k1)
  else if c = 112 ∨ c = 80 then propL res p k1 { t with kind := 1, neg := decide (c = 80) }
  else if c = 120 then pointL p k1 { t with kind := 1 }
  else if c = 110 then .ok ({ t with kind := 1, a := 10 }, k1)
  else if c = 116 then .ok ({ t with kind := 1, a := 9 }, k1)
  else if c = 114 then .ok ({ t with kind := 1, a := 13 }, k1)
  else if ne ≠ 0 then .error (132, t.st)
  else if c = 65 then .ok ({ t with kind := 7, mode := 3 }, k1)
  else if c = 122 then .ok ({ t with kind := 7, mode := 4 }, k1)
  else if c = 98 ∨ c = 66 then edgeL p k1 { t with kind := 1 } (decide (c = 66))
  else if c = 88 then .ok ({ t with kind := 10 }, k1)
  else if c = 107 then backL p k1 { t with kind := 1 }
  else if 49 ≤ c ∧ c ≤ 57 then .ok ({ t with kind := 9, a := c - 48 }, k1)
  else .error (132, t.st)
/-- Behind a backslash. -/
def escapeL (res : ByteArray → Int × ByteArray × Int) (p : List Int) (ne k : Nat) (t : Tk) : Fl (Tk × Nat) :=
  thenF (peekL p k) fun _ => thenF (charL p k) fun a => escL res p ne a.1 a.2 t
/-- A mark that begins a class, or stands within one: the token, the place behind it, how deep. -/
def withinL (p : List Int) (ne k : Nat) (t : Tk) : Option (Tk × Nat × Nat) :=
  if hasL p k [91] = true then some ({ t with kind := 11, neg := hasL p (k + 1) [94] }, eatL p (k + 1) [94], ne + 1)
  else if ne = 0 then none
  else if hasL p k [93] = true then some ({ t with kind := 12 }, k + 1, ne - 1)
  else if hasL p k [38, 38] = true then some ({ t with kind := 14, mode := 1 }, k + 2, ne)
  else if hasL p k [45, 45] = true then some ({ t with kind := 14, mode := 2 }, k + 2, ne)
  else if hasL p k [126, 126] = true then some ({ t with kind := 14, mode := 3 }, k + 2, ne)
  else if hasL p k [45] = true then some ({ t with kind := 13 }, k + 1, ne)
  else none
/-- What a code point says that is no mark of classes. -/
def othL (res : ByteArray → Int × ByteArray × Int) (p : List Int) (ne : Nat) (c : Int) (k1 : Nat) (t : Tk) : Fl (Tk × Nat) :=
  if c = 92 then escapeL res p ne k1 t
  else if ne ≠ 0 then .ok ({ t with kind := 1, a := c }, k1)
  else if c = 46 then .ok ({ t with kind := 2 }, k1)
  else if c = 124 then .ok ({ t with kind := 5 }, k1)
  else if c = 40 then openL p k1 t
  else if c = 41 then .ok ({ t with kind := 4 }, k1)
  else if c = 94 then .ok ({ t with kind := 7, mode := 1 }, k1)
  else if c = 36 then .ok ({ t with kind := 7, mode := 2 }, k1)
  else if c = 42 ∨ c = 43 ∨ c = 63 ∨ c = 123 then repeatL p k1 t c
  else .ok ({ t with kind := 1, a := c }, k1)
def otherL (res : ByteArray → Int × ByteArray × Int) (p : List Int) (ne k : Nat) (t : Tk) : Fl (Tk × Nat) :=
  thenF (charL p k) fun a => othL res p ne a.1 a.2 t
def nextL (res : ByteArray → Int × ByteArray × Int) (p : List Int) (ne k : Nat) : Fl (Tk × Nat × Nat) :=
  match withinL p ne k { kind := 0, st := k } with
  | some a => .ok ({ a.1 with en := a.2.1 }, a.2.1, a.2.2)
  | none => thenF (otherL res p ne k { kind := 0, st := k }) fun a => .ok ({ a.1 with en := a.2 }, a.2, ne)
/-- The tokens from a place on, behind those that were read; so many rounds. -/
def scanR (res : ByteArray → Int × ByteArray × Int) (p : List Int) : Nat → Nat → Nat → List Tk → List Tk × Int × Nat
  | 0, _, _, out => (out, 0, 0)
  | m + 1, ne, k, out => if k < p.length then match nextL res p ne k with
      | .error x => (out, x.1, x.2)
      | .ok a => scanR res p m a.2.2 a.2.1 (out ++ [a.1])
    else (out, 0, 0)
def scanL (res : ByteArray → Int × ByteArray × Int) (p : List Int) : List Tk × Int × Nat := if 2000 < p.length then ([], 4, 2000) else scanR res p p.length 0 0 []

end Go.Proofs.YtkipjalfgdfaiaaGreatDoor
namespace Go.Proofs.YtkipjalfgdfaiaaGreatDoor
set_option linter.unusedVariables false
set_option linter.unusedSimpArgs false
open Go.RowKit Go.Proofs.YtkipjalfgdfaiaaGreatDoorW.PrintWords

abbrev kB := Kd.int .u8
/-- A fault, as a panic holds it. -/
def faultV (c a : Int) : Value := .iface 37 (.agg #[.int .i64 c, .int .i64 a])
abbrev dies (c a : Int) : Ending := .panicked [{ v := faultV c a, recovered := false }]
/-- The scanner's variable, and its pattern's bytes, which stand below 'base'. -/
structure Sv (w : World) (base g : Nat) (A : Option Addr) (c : Nat) (p : List Int) (k st ne : Nat) : Prop where
  sc : ScP w g (.slice A p.length c) k st ne
  rd : ∀ W, Below base w W → Kd.C kB W A p.length p
  le : k ≤ p.length
  cap : p.length ≤ c
  len : p.length ≤ 2000
  rng : ∀ b ∈ p, 0 ≤ b ∧ b ≤ 255
  hb : base ≤ g
section
variable {w w' : World} {base g : Nat} {A : Option Addr} {c : Nat} {p : List Int} {k st ne k' st' ne' : Nat}
theorem Sv.lt (h : Sv w base g A c p k st ne) : g < w.heap.size := by
  have h1 : w.heap[g]? = some _ := h.sc
  exact (Array.getElem?_eq_some_iff.1 h1).1
theorem Sv.row (h : Sv w base g A c p k st ne) : Kd.C kB w A p.length p := h.rd w (Below.refl _ _)
theorem Sv.move (h : Sv w base g A c p k st ne) {ex : Nat → Prop} (hB : But ex w w') (he : ∀ k, ex k → base ≤ k) (hS : ScP w' g (.slice A p.length c) k' st' ne') (hk : k' ≤ p.length) : Sv w' base g A c p k' st' ne' := by
  have hb : Below base w w' := hB.below (by have := h.lt; have := h.hb; omega) (fun k hk hx => by have := he k hx; omega)
  exact ⟨hS, fun W hW => h.rd W (hb.trans hW), hk, h.cap, h.len, h.rng, h.hb⟩
theorem Sv.stay (h : Sv w base g A c p k st ne) (hb : Below w.heap.size w w') : Sv w' base g A c p k st ne :=
  h.move (ex := fun _ => False) (But.of_below hb) (fun _ hx => hx.elim) ((hb.block g h.lt).trans h.sc) h.le
end
/-- A byte is handed back, or the call gives up. -/
def RetB (w : World) : Fl Int → Ending → World → Prop
  | .ok b, e, w' => e = .returned (.int .u8 b) ∧ Below w.heap.size w w'
  | .error x, e, w' => e = dies x.1 x.2 ∧ Below w.heap.size w w'
/-- The scanner is moved, or the call gives up. -/
def RetK (w : World) (g : Nat) (vp : Value) (st ne : Nat) : Fl Nat → Ending → World → Prop
  | .ok k, e, w' => e = .returned (.tuple #[]) ∧ ScP w' g vp k st ne ∧ But (· = g) w w'
  | .error x, e, w' => e = dies x.1 x.2 ∧ But (· = g) w w'
set_option maxHeartbeats 4000000 in
set_option maxRecDepth 100000 in
theorem fail_any (w : World) (g : Nat) (vp : Value) (k st ne : Nat) (c : Int) (hS : ScP w g vp k st ne) :
    Calls Tryz.prog 113 #[.pointer (some ⟨g, 0, none⟩), .int .i64 c] w fun e w' => e = dies c st ∧ Below w.heap.size w w' := by
  have c2 := rowc hS 2 _ rfl
  clear hS
  go_enter Tryz.func113, Tryz.ntmps113
  go_wp2
  exact ⟨rfl, rfl, Below.refl _ _⟩
theorem peekL_lt {p : List Int} {k : Nat} (h : k < p.length) : peekL p k = .ok p[k] := by
  unfold peekL
  rw [List.getElem?_eq_getElem h]
theorem peekL_end {p : List Int} {k : Nat} (h : p.length ≤ k) : peekL p k = .error (130, k) := by
  unfold peekL
  rw [List.getElem?_eq_none h]
set_option maxHeartbeats 4000000 in
set_option maxRecDepth 100000 in
theorem peek_any (w : World) (base g : Nat) (A : Option Addr) (c : Nat) (p : List Int) (k st ne : Nat) (hV : Sv w base g A c p k st ne) :
    Calls Tryz.prog 107 #[.pointer (some ⟨g, 0, none⟩)] w (RetB w (peekL p k)) := by
  have c0 := rowc hV.sc 0 _ rfl
  have c1 := rowc hV.sc 1 _ rfl
  by_cases h : k < p.length
  · rw [peekL_lt h]
    obtain ⟨ad, e, hx⟩ := Kd.at_int hV.row (k : Int) (by omega) (by omega)
    subst e
    have hrd : rd p (k : Int) = p[k] := by simp [rd, h]
    rw [hrd] at hx
    obtain ⟨b, hb⟩ : ∃ b, p[k] = b := ⟨_, rfl⟩
    rw [hb] at hx ⊢
    have h63 := hV.row.2.1
    simp only [Int.toNat_natCast] at hx
    clear hV hb hrd
    go_enter Tryz.func107, Tryz.ntmps107
    go_wp2
    go_quiet (fail)
    go_wp2
    go_quiet (fail)
    go_wp2
    go_ret
    exact ⟨rfl, by repeat (first | exact Below.refl _ _ | apply pw_below_drewN)⟩
  · rw [peekL_end (Nat.le_of_not_lt h)]
    have hkn : p.length = k := by have := hV.le; omega
    clear hV h
    rw [hkn] at c0
    clear hkn
    go_enter Tryz.func107, Tryz.ntmps107
    go_wp2
    go_quiet (fail)
    go_wp2
    exact ⟨rfl, rfl, by repeat (first | exact Below.refl _ _ | apply pw_below_drewN)⟩
theorem peekL_rng {p : List Int} {k : Nat} {b : Int} (h : peekL p k = .ok b) : k < p.length ∧ b ∈ p := by
  unfold peekL at h
  split at h
  · rename_i b' hb
    cases h
    obtain ⟨h1, rfl⟩ := List.getElem?_eq_some_iff.1 hb
    exact ⟨h1, List.getElem_mem h1⟩
  · cases h
set_option maxHeartbeats 4000000 in
set_option maxRecDepth 100000 in
theorem need_any (w : World) (base g : Nat) (A : Option Addr) (c : Nat) (p : List Int) (k st ne : Nat) (b er : Int) (hV : Sv w base g A c p k st ne) :
    Calls Tryz.prog 119 #[.pointer (some ⟨g, 0, none⟩), .int .u8 b, .int .i64 er] w (RetK w g (.slice A p.length c) st ne (needL p st k b er)) := by
  have HP := Aside0.mk (peek_any w base g A c p k st ne hV)
  have HV := Aside0.mk hV
  have hkl : k ≤ 9223372036854775800 := by have := hV.le; have := hV.len; omega
  unfold needL
  cases hp : peekL p k with
  | error x =>
    rw [hp] at HP
    clear hV hp
    go_enter Tryz.func119, Tryz.ntmps119
    go_wp2_with fail
    refine HP.out.mono ?_
    rintro e w1 ⟨rfl, hb1⟩
    go_wp2
    exact ⟨rfl, rfl, But.of_below hb1⟩
  | ok d =>
    rw [hp] at HP
    clear hV hp
    by_cases hd : d = b
    · subst hd
      simp only [if_pos]
      go_enter Tryz.func119, Tryz.ntmps119
      go_wp2_with fail
      refine HP.out.mono ?_
      rintro e w1 ⟨rfl, hb1⟩
      have HV1 := Aside0.mk (HV.out.stay hb1)
      have HB1 := Aside0.mk hb1
      have c1 := rowc HV1.out.sc 1 _ rfl
      have f1 := blk_frozen HV1.out.sc 1
      clear hb1
      go_wp2
      go_end0
      exact ⟨rfl, blk_put HV1.out.sc 1 _ rfl, But.set (ex := (· = g)) (But.of_below HB1.out) g 1 rfl _⟩
    · have hne : (d != b) = true := by rw [bne_iff_ne]; exact hd
      simp only [if_neg hd]
      go_enter Tryz.func119, Tryz.ntmps119
      go_wp2_with fail
      refine HP.out.mono ?_
      rintro e w1 ⟨rfl, hb1⟩
      have HB1 := Aside0.mk hb1
      have HF := Aside0.mk (fail_any w1 g (.slice A p.length c) k st ne er (HV.out.stay hb1).sc)
      clear hb1
      go_wp2_with fail
      refine HF.out.mono ?_
      rintro e w2 ⟨rfl, hb2⟩
      go_wp2
      exact ⟨rfl, rfl, But.of_below (below_to HB1.out hb2)⟩

end Go.Proofs.YtkipjalfgdfaiaaGreatDoor
namespace Go.Proofs.YtkipjalfgdfaiaaGreatDoor
set_option linter.unusedVariables false
set_option linter.unusedSimpArgs false
open Go.RowKit Go.Proofs.YtkipjalfgdfaiaaGreatDoorW.PrintWords Go.Proofs.YtkipjalfgdfaiaaGreatDoorW.PrintLast Go.Proofs.YtkipjalfgdfaiaaGreatDoorW.PrintMore Go.Proofs.YtkipjalfgdfaiaaGreatDoor.PTk

theorem digit_f (c : Int) : token_digit.f c = some (digB c) := by
  unfold token_digit.f digB
  by_cases h : 48 ≤ c
  · simp [h]
  · simp [h]
theorem letter_f (c : Int) (h0 : 0 ≤ c) (h1 : c ≤ 255) : token_letter.f c = some (letB c) := by
  obtain ⟨n, rfl⟩ : ∃ n : Nat, c = (n : Int) := ⟨c.toNat, by omega⟩
  have hn : n < 256 := by omega
  clear h0 h1
  revert n
  decide +kernel
theorem hex_f (c : Int) (h0 : 0 ≤ c) (h1 : c ≤ 255) : token_hex.f c = some (hexB c) := by
  obtain ⟨n, rfl⟩ : ∃ n : Nat, c = (n : Int) := ⟨c.toNat, by omega⟩
  have hn : n < 256 := by omega
  clear h0 h1
  revert n
  decide +kernel
theorem ofNat_inj {a b : Int} (ha : 0 ≤ a ∧ a ≤ 255) (hb : 0 ≤ b ∧ b ≤ 255) : (UInt8.ofNat a.toNat == UInt8.ofNat b.toNat) = (a == b) := by
  rw [Bool.eq_iff_iff, beq_iff_eq, beq_iff_eq]
  constructor
  · intro h
    have h2 := congrArg UInt8.toNat h
    rw [UInt8.toNat_ofNat', UInt8.toNat_ofNat', Nat.mod_eq_of_lt (by omega), Nat.mod_eq_of_lt (by omega)] at h2
    omega
  · intro h
    rw [h]
theorem prefix_l : ∀ (T l : List Int), (∀ b ∈ T, 0 ≤ b ∧ b ≤ 255) → (∀ b ∈ l, 0 ≤ b ∧ b ≤ 255) → ((l.take T.length).map (fun n => UInt8.ofNat n.toNat) == T.map (fun n => UInt8.ofNat n.toNat)) = T.isPrefixOf l
  | [], l, _, _ => by simp
  | a :: T, [], _, _ => rfl
  | a :: T, b :: l, hT, hl => by
    have ih := prefix_l T l (fun x hx => hT x (List.mem_cons_of_mem _ hx)) (fun x hx => hl x (List.mem_cons_of_mem _ hx))
    have h1 := ofNat_inj (hl b List.mem_cons_self) (hT a List.mem_cons_self)
    simp only [List.length_cons, List.take_succ_cons, List.map_cons, List.cons_beq_cons, List.isPrefixOf, ih, h1]
    congr 1
    rw [Bool.eq_iff_iff, beq_iff_eq, beq_iff_eq]
    exact eq_comm
theorem str_data (l : List Int) : (strOfNums l).data.toList = l.map fun n => UInt8.ofNat n.toNat := rfl
theorem strN_size (l : List Int) : (strOfNums l).size = l.length := by
  show (l.map fun n => UInt8.ofNat n.toNat).toArray.size = _
  simp
theorem prefix_f (T l : List Int) (hT : ∀ b ∈ T, 0 ≤ b ∧ b ≤ 255) (hl : ∀ b ∈ l, 0 ≤ b ∧ b ≤ 255) : strings_HasPrefix.f (strOfNums l) (strOfNums T) = some (T.isPrefixOf l) := by
  unfold strings_HasPrefix.f stringslite_HasPrefix.f
  rw [strN_size, strN_size]
  by_cases h : T.length ≤ l.length
  · rw [if_pos (by omega), if_pos (by omega), if_pos (by omega)]
    have e : ((strOfNums l).extract 0 ((T.length : Int)).toNat).toList = (l.take T.length).map (fun n => UInt8.ofNat n.toNat) := by
      rw [Lib.toList_data, ByteArray.data_extract, Array.toList_extract, str_data]
      simp [List.extract, List.map_take]
    rw [e, Lib.toList_data, str_data, prefix_l T l hT hl]
    rfl
  · rw [if_neg (by omega)]
    have e : T.isPrefixOf l = false := by
      rw [Bool.eq_false_iff]
      intro h2
      rw [List.isPrefixOf_iff_prefix] at h2
      have := h2.length_le
      omega
    rw [e]
    rfl
theorem hasL_le {p : List Int} {k : Nat} {T : List Int} (h : hasL p k T = true) (hk : k ≤ p.length) : k + T.length ≤ p.length := by
  unfold hasL at h
  rw [List.isPrefixOf_iff_prefix] at h
  have := h.length_le
  rw [List.length_drop] at this
  omega
/-- A text is taken, if it stands there. -/
def RetE (w : World) (g : Nat) (vp : Value) (p : List Int) (k st ne : Nat) (T : List Int) (e : Ending) (w' : World) : Prop :=
  e = .returned (.bool (hasL p k T)) ∧ ScP w' g vp (eatL p k T) st ne ∧ But (· = g) w w'
set_option maxHeartbeats 4000000 in
set_option maxRecDepth 100000 in
theorem eat_any (w : World) (base g : Nat) (A : Option Addr) (c : Nat) (p : List Int) (k st ne : Nat) (T : List Int) (hV : Sv w base g A c p k st ne) (hT : ∀ b ∈ T, 0 ≤ b ∧ b ≤ 255) (hTl : T.length ≤ 2000) :
    Calls Tryz.prog 74 #[.pointer (some ⟨g, 0, none⟩), .string (strOfNums T)] w (RetE w g (.slice A p.length c) p k st ne T) := by
  have c0 := rowc hV.sc 0 _ rfl
  have c1 := rowc hV.sc 1 _ rfl
  have HV := Aside0.mk hV
  obtain ⟨i0, hi0, _, hsz, _⟩ := info_parts info5
  have hct := cut_from (P := Tryz.prog) 34 5 .i64 Tryz.underlying34 hi0 1 hsz A p.length c (k : Int) (by omega) (by have := hV.le; omega)
  have hC : ∀ n, Kd.C kB (w.drewN n) (if c = k then A else A.map (·.add (k * 1))) (p.drop k).length (p.drop k) := fun n => Kd.C_drop (c := c) (m := k) (hV.rd _ (pw_below_drewN (Below.refl _ _) _)) hV.le hV.cap
  obtain ⟨A', hA'⟩ : ∃ A', (if c = k then A else A.map (·.add (k * 1))) = A' := ⟨_, rfl⟩
  have e1 : (p.drop k).length = p.length - k := List.length_drop ..
  rw [Int.toNat_natCast, hA', ← e1] at hct
  rw [hA'] at hC
  have hcv := fun n => Kd.C_string (P := Tryz.prog) (c := c - k) Tryz.underlying34 Tryz.underlying5 Tryz.underlying9 (hC n)
  have hpr := prefix_f T (p.drop k) hT (fun b hb => hV.rng b (List.mem_of_mem_drop hb))
  have HPX := Aside0.mk (fun W => strings_HasPrefix.calls (strOfNums (p.drop k)) (strOfNums T) _ W hpr)
  obtain ⟨sT, hsT⟩ : ∃ sT, strOfNums T = sT := ⟨_, rfl⟩
  have hsz2 : sT.size = T.length := by rw [← hsT, strN_size]
  rw [hsT] at HPX ⊢
  have HH : Aside0 (hasL p k T = T.isPrefixOf (p.drop k)) := ⟨rfl⟩
  have HE : Aside0 (eatL p k T = if hasL p k T then k + T.length else k) := ⟨rfl⟩
  have hlk : k + T.length ≤ 9223372036854775807 := by have := hV.le; have := hV.len; omega
  obtain ⟨q, hq⟩ : ∃ q, p.drop k = q := ⟨_, rfl⟩
  obtain ⟨c', hc'⟩ : ∃ c', c - k = c' := ⟨_, rfl⟩
  rw [hq] at hct hcv HPX HH
  rw [hc'] at hct hcv
  obtain ⟨b, hb⟩ : ∃ b, T.isPrefixOf q = b := ⟨_, rfl⟩
  rw [hb] at HPX HH
  clear hV hT hpr hA' hC hi0 hsz hsT e1 hq hc' hb
  go_enter Tryz.func74, Tryz.ntmps74
  go_wp2
  go_quiet (first | (go_at_call 104; refine (HPX.out _).mono ?_; rintro e w' ⟨rfl, nd, rfl⟩; first | exact ⟨rfl, _, rfl⟩ | exact ⟨rfl, 0, rfl⟩ | exact ⟨rfl, _, World.drewN_drewN _ _ _⟩))
  have HV2 := Aside0.mk (HV.out.stay (pw_below_drewN (Below.refl w.heap.size w) nq))
  have HB2 : Aside0 (But (· = g) w (w.drewN nq)) := ⟨But.of_below (pw_below_drewN (Below.refl w.heap.size w) nq)⟩
  rw [HH.out] at HE
  cases b with
  | false =>
    go_wp2
    go_ret
    refine ⟨by rw [HH.out]; rfl, ?_, HB2.out⟩
    rw [HE.out]
    exact HV2.out.sc
  | true =>
    have f1 := blk_frozen HV2.out.sc 1
    go_wp2
    go_ret
    refine ⟨by rw [HH.out]; rfl, ?_, But.set (ex := (· = g)) HB2.out g 1 rfl _⟩
    rw [HE.out]
    simp only [if_true]
    exact blk_put HV2.out.sc 1 _ (by first | rfl | simp [hsz2])

end Go.Proofs.YtkipjalfgdfaiaaGreatDoor
namespace Go.Proofs.YtkipjalfgdfaiaaGreatDoor
set_option linter.unusedVariables false
set_option linter.unusedSimpArgs false
open Go.RowKit Go.Proofs.YtkipjalfgdfaiaaGreatDoorW.PrintWords Go.Proofs.YtkipjalfgdfaiaaGreatDoorW.PrintLast Go.Proofs.YtkipjalfgdfaiaaGreatDoorW.PrintMore Go.Proofs.YtkipjalfgdfaiaaGreatDoor.PTk

theorem tail_f (f : Int) : ∃ k, utf_tail.f k f = some ((tailL f).1, (tailL f).2.1, ((tailL f).2.2 : Int)) := by
  refine ⟨2, ?_⟩
  unfold utf_tail.f tailL utf_tail.j0 utf_tail.j1
  by_cases h1 : f < 194
  · simp [h1]
  · by_cases h2 : 244 < f
    · simp [h1, h2]
    · by_cases h3 : f < 224
      · simp [h1, h2, h3]
      · by_cases h4 : f = 224
        · simp [h4]
        · by_cases h5 : f = 237
          · simp [h5]
          · by_cases h6 : f = 240
            · simp [h6]
            · by_cases h7 : f = 241
              · simp [h7]
              · by_cases h8 : f = 242
                · simp [h8]
                · by_cases h9 : f = 243
                  · simp [h9]
                  · by_cases h10 : f = 244
                    · simp [h10]
                    · simp [h1, h2, h3, h4, h5, h6, h7, h8, h9, h10]
theorem and_first (f : Int) (n : Nat) (h0 : 0 ≤ f) (h1 : f ≤ 255) (hn : n ≤ 3) : bits .and .i64 f (63 / 2 ^ n) = f % (2 ^ (6 - n) : Nat) := by
  have h : ∀ n : Nat, n < 4 → ∀ m : Nat, m < 256 → bits .and .i64 (m : Int) (63 / 2 ^ n) = (m : Int) % (2 ^ (6 - n) : Nat) := by decide +kernel
  obtain ⟨m, rfl⟩ : ∃ m : Nat, f = (m : Int) := ⟨f.toNat, by omega⟩
  exact h n (by omega) m (by omega)
theorem or_more2 (r c : Int) (h0 : 0 ≤ r) (h1 : r < 16777216) (h2 : 0 ≤ c) (h3 : c ≤ 255) : bits .or .i64 (r * 64) (c % 64) = r * 64 + c % 64 :=
  bits_join .i64 62 (by decide) (fun n h0 h1 => by rw [IntKind.wrap_i64]; omega) 6 (r * 64) (c % 64) (by omega) (by omega) (by omega) (by omega) (by omega) (by omega)
set_option maxHeartbeats 4000000 in
set_option maxRecDepth 100000 in
theorem read_any (w : World) (A : Option Addr) (c : Nat) (b : List Int) (hC : Kd.C kB w A b.length b) (hr : ∀ x ∈ b, 0 ≤ x ∧ x ≤ 255) (hne : b ≠ []) (hl : b.length ≤ 4000) :
    Calls Tryz.prog 147 #[.slice A b.length c] w fun e w' => e = .returned (.tuple #[.int .i64 (readL b).1, .int .i64 ((readL b).2.1 : Int), .bool (readL b).2.2]) ∧ Drawn0 w w' := by
  cases b with
  | nil => exact absurd rfl hne
  | cons f t =>
    obtain ⟨ad, e, hx0⟩ := Kd.at_int hC 0 (by omega) (by simp only [List.length_cons]; omega)
    subst e
    have hx : w.cell? ad = some (.int .u8 f) := by
      have h : w.cell? (ad.add 0) = some (.int .u8 f) := hx0
      rwa [Addr.add_zero'] at h
    have hf := hr f List.mem_cons_self
    have HC := Aside0.mk hC
    have HR := Aside0.mk hr
    clear hx0 hC hr hne
    by_cases h1 : f < 128
    · have HL : Aside0 (readL (f :: t) = (f, 1, true)) := ⟨by simp only [readL]; rw [if_pos h1]⟩
      go_enter Tryz.func147, Tryz.ntmps147
      go_wp2
      go_step3
      go_wp2
      rw [Exit.noGoto_ret]
      go_ret3
      rw [HL.out]
      exact ⟨rfl, Drawn0.refl _⟩
    · obtain ⟨k, hk⟩ := tail_f f
      have HT := Aside0.mk (fun W => utf_tail.calls k f _ _ _ W hk)
      have HL : Aside0 (readL (f :: t) = match tailL f with
        | (lo, hi, n) =>
          if n = 0 then (65533, 1, false)
          else match moreL lo hi n t (f % (2 ^ (6 - n) : Nat)) 1 with
            | (r, at_) => if at_ ≤ n then (65533, at_, false) else (r, at_, true)) := ⟨by simp only [readL]; rw [if_neg h1]⟩
      have hn3 := tailL_n f
      rcases htl : tailL f with ⟨lo, hi, n⟩
      rw [htl] at HT HL hn3
      simp only at HT HL hn3
      clear hk htl
      go_enter Tryz.func147, Tryz.ntmps147
      go_wp2
      go_step3
      go_wp2_with fail
      refine (HT.out _).mono ?_
      rintro e w1 ⟨rfl, hb1⟩
      have HB1 := Aside0.mk hb1
      replace hx := pw_cell_below hb1.below hx
      clear hb1
      by_cases h0 : n = 0
      · subst h0
        go_wp2
        rw [Exit.noGoto_ret]
        go_ret3
        rw [HL.out]
        exact ⟨rfl, HB1.out⟩
      · have hn0 : ((n : Int) == 0) = false := by rw [beq_eq_false_iff_ne]; omega
        rw [if_neg h0] at HL
        go_wp2
        go_quiet (fail)
        rw [and_first f n hf.1 hf.2 hn3]
        obtain ⟨r0, hr0⟩ : ∃ r0, f % (2 ^ (6 - n) : Nat) = r0 := ⟨_, rfl⟩
        have hr0b : 0 ≤ r0 ∧ r0 < 64 := by
          rw [← hr0]
          have h2 : (2 ^ (6 - n) : Nat) ≤ 64 := by
            have : 6 - n ≤ 6 := by omega
            calc 2 ^ (6 - n) ≤ 2 ^ 6 := Nat.pow_le_pow_right (by decide) this
              _ = 64 := rfl
          have h3 : 0 < (2 ^ (6 - n) : Nat) := Nat.pow_pos (by decide)
          constructor
          · exact Int.emod_nonneg _ (by omega)
          · have := Int.emod_lt_of_pos f (b := ((2 ^ (6 - n) : Nat) : Int)) (by omega)
            omega
        rw [hr0] at HL ⊢
        clear hr0
        have HRR := Aside0.mk hr0b
        obtain ⟨M, hM⟩ : ∃ M, moreL lo hi n t r0 1 = M := ⟨_, rfl⟩
        rw [hM] at HL
        have HMM := Aside0.mk hM
        have HBQ : Aside0 (Drawn0 w (w1.drewN nq)) := ⟨HB1.out.step _⟩
        have hl2 : t.length + 1 ≤ 4000 := hl
        clear hr0b hM hx
        go_wp2
        go_step3
        go_wp2
        go_loopg [5, 6, 8, 9] n (fun gk vlo vhi vr vat w' => ∃ (j : Nat) (lo' hi' r' : Int), vlo = .int .u8 lo' ∧ vhi = .int .u8 hi' ∧ vr = .int .i64 r' ∧ vat = .int .i64 (j : Int) ∧ Aside0 (1 ≤ j ∧ j ≤ n + 1 ∧ j ≤ t.length + 1 ∧ gk = n + 1 - j) ∧ Aside0 (moreL lo' hi' (n + 1 - j) (t.drop (j - 1)) r' j = M) ∧ Aside0 (0 ≤ r' ∧ r' < 64 ^ j) ∧ Aside0 (Drawn0 w w'))
        case atStart => exact ⟨1, lo, hi, r0, rfl, rfl, rfl, by first | rfl | simp, ⟨Nat.le_refl _, by omega, by omega, by omega⟩, ⟨HMM.out⟩, ⟨HRR.out.1, HRR.out.2⟩, HBQ⟩
        case round =>
          obtain ⟨j, lo', hi', r', rfl, rfl, rfl, rfl, HJ, HM, HRB, HB⟩ := hrel
          by_cases hjn : j ≤ n
          · by_cases hjt : j < t.length + 1
            · obtain ⟨ad2, e, hy⟩ := Kd.at_int (HC.out) (j : Int) (by omega) (by simp only [List.length_cons]; omega)
              cases e
              have hrd : rd (f :: t) (j : Int) = t[j - 1]'(by have := HJ.out; omega) := by
                obtain ⟨m, rfl⟩ : ∃ m, j = m + 1 := ⟨j - 1, by have := HJ.out; omega⟩
                have : m < t.length := by omega
                simp [rd, this]
              rw [hrd, Int.toNat_natCast] at hy
              have hdr : t.drop (j - 1) = t[j - 1]'(by have := HJ.out; omega) :: t.drop j := by
                have h2 := List.drop_eq_getElem_cons (l := t) (i := j - 1) (by have := HJ.out; omega)
                rw [h2]
                congr 2
                have := HJ.out
                omega
              have hcr := HR.out (t[j - 1]'(by have := HJ.out; omega)) (List.mem_cons_of_mem _ (List.getElem_mem _))
              obtain ⟨d, hd⟩ : ∃ d, t[j - 1]'(by have := HJ.out; omega) = d := ⟨_, rfl⟩
              rw [hd] at hy hdr hcr
              have hM := HM.out
              rw [hdr, show n + 1 - j = (n - j) + 1 by omega, moreL] at hM
              replace hy := pw_cell_below HB.out.below hy
              clear hrd hdr hd
              have hj1 : decide ((j : Int) ≤ (n : Int)) = true := decide_eq_true (by omega)
              by_cases hlo : d < lo'
              · rw [if_pos (.inl hlo)] at hM
                have HLL : Aside0 (readL (f :: t) = (65533, j, false)) := ⟨by rw [HL.out, ← hM]; exact if_pos hjn⟩
                clear hM
                go_wp2
                first | rw [Exit.noGoto_ret] | skip
                go_ret3
                rw [HLL.out]
                exact ⟨rfl, HB.out⟩
              · by_cases hhi : hi' < d
                · rw [if_pos (.inr hhi)] at hM
                  have HLL : Aside0 (readL (f :: t) = (65533, j, false)) := ⟨by rw [HL.out, ← hM]; exact if_pos hjn⟩
                  clear hM
                  go_wp2
                  first | rw [Exit.noGoto_ret] | skip
                  go_ret3
                  rw [HLL.out]
                  exact ⟨rfl, HB.out⟩
                · rw [if_neg (fun h => h.elim hlo hhi)] at hM
                  have HM2 : Aside0 (moreL 128 191 (n + 1 - (j + 1)) (t.drop j) (r' * 64 + d % 64) (j + 1) = M) := ⟨by rw [Nat.add_sub_add_right]; exact hM⟩
                  have hpw : (64 : Int) ^ j ≤ 262144 := by
                    have hj3 : j ≤ 3 := by omega
                    obtain h | h | h | h : j = 0 ∨ j = 1 ∨ j = 2 ∨ j = 3 := by omega
                    all_goals (rw [h]; decide)
                  have hps : (64 : Int) ^ (j + 1) = 64 ^ j * 64 := Int.pow_succ ..
                  have HRB2 : Aside0 (0 ≤ r' * 64 + d % 64 ∧ r' * 64 + d % 64 < 64 ^ (j + 1)) := ⟨by have := HRB.out; omega⟩
                  have hor := or_more2 r' d HRB.out.1 (by have := HRB.out; omega) hcr.1 hcr.2
                  have hrb : 0 ≤ r' ∧ r' < 16777216 := by have := HRB.out; omega
                  clear hM hpw hps
                  go_wp2
                  go_roundg (n - j)
                  case measure => have := HJ.out; omega
                  case rel => exact ⟨j + 1, 128, 191, r' * 64 + d % 64, rfl, rfl, by first | rfl | (rw [hor]) | trace_state, by go_num, ⟨by omega, by omega, by omega, by have := HJ.out; omega⟩, HM2, HRB2, HB⟩
            · have hje : j = t.length + 1 := by have := HJ.out; omega
              have hdr : t.drop (j - 1) = [] := List.drop_of_length_le (by omega)
              have hM := HM.out
              rw [hdr, show n + 1 - j = (n - j) + 1 by omega, moreL] at hM
              have HLL : Aside0 (readL (f :: t) = (65533, j, false)) := ⟨by rw [HL.out, ← hM]; exact if_pos hjn⟩
              have hj1 : decide ((j : Int) ≤ (n : Int)) = true := decide_eq_true (by omega)
              have hj2 : decide ((j : Int) < (t.length : Int) + 1) = false := decide_eq_false (by omega)
              clear hM hdr hje hjt
              go_wp2
              first | rw [Exit.noGoto_ret] | skip
              go_ret3
              rw [HLL.out]
              exact ⟨rfl, HB.out⟩
          · have hM := HM.out
            rw [show n + 1 - j = 0 by have := HJ.out; omega, moreL] at hM
            have HLL : Aside0 (readL (f :: t) = (r', j, true)) := ⟨by rw [HL.out, ← hM]; exact if_neg hjn⟩
            have hj1 : decide ((j : Int) ≤ (n : Int)) = false := decide_eq_false (by omega)
            clear hM
            go_wp2
            first | rw [Exit.noGoto_ret] | skip
            go_ret3
            rw [HLL.out]
            exact ⟨rfl, HB.out⟩

end Go.Proofs.YtkipjalfgdfaiaaGreatDoor
namespace Go.Proofs.YtkipjalfgdfaiaaGreatDoor
set_option linter.unusedVariables false
set_option linter.unusedSimpArgs false
open Go.RowKit Go.Proofs.YtkipjalfgdfaiaaGreatDoorW.PrintWords Go.Proofs.YtkipjalfgdfaiaaGreatDoorW.PrintLast Go.Proofs.YtkipjalfgdfaiaaGreatDoorW.PrintMore Go.Proofs.YtkipjalfgdfaiaaGreatDoor.PTk

set_option maxHeartbeats 4000000 in
set_option maxRecDepth 100000 in
theorem next_any (w : World) (A : Option Addr) (c : Nat) (p : List Int) (k : Nat) (hC : Kd.C kB w A p.length p) (hr : ∀ x ∈ p, 0 ≤ x ∧ x ≤ 255) (hk : k < p.length) (hc : p.length ≤ c) (hl : p.length ≤ 2000) :
    Calls Tryz.prog 105 #[.slice A p.length c, .int .i64 (k : Int)] w fun e w' => e = .returned (.tuple #[.agg #[.int .i64 (readL (p.drop k)).1, .int .i64 (k : Int), .int .i64 ((k + (readL (p.drop k)).2.1 : Nat) : Int)], .bool true]) ∧ Below w.heap.size w w' := by
  obtain ⟨wA, hwA⟩ : ∃ wA, w.alloc (.cells #[.int .i64 0, .int .i64 0, .int .i64 0] 122) = wA := ⟨_, rfl⟩
  have hbA : Below w.heap.size w wA := by rw [← hwA]; exact below_alloc (Below.refl _ _) _
  have hzA : wA.heap.size = w.heap.size + 1 := by rw [← hwA]; simp
  have hgA : wA.heap[w.heap.size]? = some (.cells #[.int .i64 0, .int .i64 0, .int .i64 0] 122 (0, 0)) := by rw [← hwA]; exact heap_alloc_new _ _
  obtain ⟨i0, hi0, _, hsz, _⟩ := info_parts info5
  have hct := cut_from (P := Tryz.prog) 34 5 .i64 Tryz.underlying34 hi0 1 hsz A p.length c (k : Int) (by omega) (by omega)
  have hC2 : Kd.C kB wA (if c = k then A else A.map (·.add (k * 1))) (p.drop k).length (p.drop k) := Kd.C_drop (c := c) (m := k) (Kd.C_below hC hbA) (by omega) hc
  have e1 : (p.drop k).length = p.length - k := List.length_drop ..
  rw [Int.toNat_natCast, ← e1] at hct
  have hp := readL_pos (b := p.drop k) (by intro h; rw [h] at e1; simp at e1; omega)
  have hRD := read_any wA (if c = k then A else A.map (·.add (k * 1))) (c - k) (p.drop k) hC2 (fun b hb => hr b (List.mem_of_mem_drop hb)) (by intro h; rw [h] at e1; simp at e1; omega) (by omega)
  obtain ⟨A', hA'⟩ : ∃ A', (if c = k then A else A.map (·.add (k * 1))) = A' := ⟨_, rfl⟩
  obtain ⟨c', hc'⟩ : ∃ c', c - k = c' := ⟨_, rfl⟩
  rw [hA', hc'] at hct hRD
  obtain ⟨q, hq⟩ : ∃ q, p.drop k = q := ⟨_, rfl⟩
  rw [hq] at hct hRD hp e1 ⊢
  rcases hrl : readL q with ⟨r, n, ok⟩
  rw [hrl] at hRD hp
  have hn4 : n ≤ 4 := hp.2.2
  have HRD := Aside0.mk hRD
  have HBA := Aside0.mk hbA
  have HGA := Aside0.mk hgA
  have hkk : ((k : Int) < 0) = False := by simp
  have hkl : decide ((p.length : Int) ≤ (k : Int)) = false := decide_eq_false (by omega)
  clear hC hr hc hbA hgA hi0 hsz hC2 e1 hRD hA' hc' hq hrl hp
  go_enter Tryz.func105, Tryz.ntmps105
  go_wp2_with fail
  refine HRD.out.mono ?_
  rintro e w1 ⟨rfl, hb1d⟩
  have hb1 := hb1d.below
  clear hb1d
  have hg1 := (hb1.block w.heap.size (by omega)).trans HGA.out
  have HB1 : Aside0 (Below w.heap.size w w1) := ⟨below_to HBA.out hb1⟩
  have f0 := blk_frozen hg1 0
  have f1 := blk_frozen hg1 1
  have f2 := blk_frozen hg1 2
  have v0 := rowc hg1 0 _ rfl
  have v1 := rowc hg1 1 _ rfl
  have v2 := rowc hg1 2 _ rfl
  have HG1 := Aside0.mk hg1
  clear hb1 hg1
  go_wp2
  refine bodyPost_ret (results_ct rfl _ _ w.heap.size 122 #[.int .i64 r, .int .i64 (k : Int), .int .i64 ((k : Int) + (n : Int))] (0, 0) _ rfl (blk_put (blk_put (blk_put HG1.out 0 _ rfl) 1 _ rfl) 2 _ rfl) Tryz.underlying122 rfl (by kernel_rfl)) rfl ?_
  exact ⟨by first | rfl | simp, ((HB1.out.setCell (Nat.le_refl _) _).setCell (Nat.le_refl _) _).setCell (Nat.le_refl _) _⟩
set_option maxHeartbeats 4000000 in
set_option maxRecDepth 100000 in
/-- Bytes of one item, well-formed or not. -/
theorem valid_any (w : World) (A : Option Addr) (c : Nat) (b : List Int) (hC : Kd.C kB w A b.length b) (hr : ∀ x ∈ b, 0 ≤ x ∧ x ≤ 255) (hne : b ≠ []) (hc : b.length ≤ c) (hl : b.length ≤ 2000) (hone : (readL b).2.1 = b.length) :
    Calls Tryz.prog 106 #[.slice A b.length c] w fun e w' => e = .returned (.bool (readL b).2.2) ∧ Drawn0 w w' := by
  have HR := Aside0.mk (read_any w A c b hC hr hne (by omega))
  obtain ⟨n, hn⟩ : ∃ n, b.length = n := ⟨_, rfl⟩
  have hn0 : 0 < n := by
    have := List.length_pos_iff.2 hne
    omega
  obtain ⟨i0, hi0, _, hsz, _⟩ := info_parts info5
  have hct := cut_from (P := Tryz.prog) 34 5 .i64 Tryz.underlying34 hi0 1 hsz A n c (n : Int) (by omega) (by omega)
  rw [Int.toNat_natCast, Nat.sub_self] at hct
  obtain ⟨A2, hA2⟩ : ∃ A2, (if c = n then A else A.map (·.add (n * 1))) = A2 := ⟨_, rfl⟩
  obtain ⟨c2, hc2⟩ : ∃ c2, c - n = c2 := ⟨_, rfl⟩
  rw [hA2, hc2] at hct
  rcases hrl : readL b with ⟨r, m, ok⟩
  rw [hrl] at HR hone
  simp only at hone
  subst hone
  rw [hn] at HR hl
  rw [hn]
  have hnp : decide (0 < (n : Int)) = true := decide_eq_true (by omega)
  clear hC hr hne hc hn hi0 hsz hA2 hc2 hrl
  go_enter Tryz.func106, Tryz.ntmps106
  go_wp2
  go_loopg [0] 1 (fun gk v w' => (v = .slice A n c ∧ Aside0 (gk = 1) ∧ w' = w) ∨ (v = .slice A2 0 c2 ∧ Aside0 (gk = 0) ∧ ok = true ∧ Aside0 (Drawn0 w w')))
  case atStart => exact .inl ⟨rfl, ⟨rfl⟩, rfl⟩
  case round =>
    rcases hrel with ⟨rfl, HG, rfl⟩ | ⟨rfl, HG, hok, HB⟩
    · go_wp2_with fail
      refine HR.out.mono ?_
      rintro e w1 ⟨rfl, hb1⟩
      have HB1 := Aside0.mk hb1
      clear hb1
      cases ok with
      | false =>
        go_wp2
        go_ret
        exact ⟨rfl, HB1.out⟩
      | true =>
        go_wp2
        go_roundg 0
        case measure => have := HG.out; omega
        case rel => exact .inr ⟨rfl, ⟨rfl⟩, by first | rfl | trivial, HB1⟩
    · subst hok
      go_wp2
      go_ret
      exact ⟨rfl, HB.out⟩

end Go.Proofs.YtkipjalfgdfaiaaGreatDoor
namespace Go.Proofs.YtkipjalfgdfaiaaGreatDoor
set_option linter.unusedVariables false
set_option linter.unusedSimpArgs false
open Go.RowKit Go.Proofs.YtkipjalfgdfaiaaGreatDoorW.PrintWords Go.Proofs.YtkipjalfgdfaiaaGreatDoorW.PrintLast Go.Proofs.YtkipjalfgdfaiaaGreatDoorW.PrintMore Go.Proofs.YtkipjalfgdfaiaaGreatDoor.PTk

/-- A code point is taken, or the call gives up. -/
def RetCh (w : World) (g : Nat) (vp : Value) (st ne : Nat) : Fl (Int × Nat) → Ending → World → Prop
  | .ok (r, k), e, w' => e = .returned (.int .i64 r) ∧ ScP w' g vp k st ne ∧ But (· = g) w w'
  | .error x, e, w' => e = dies x.1 x.2 ∧ But (· = g) w w'
set_option maxHeartbeats 8000000 in
set_option maxRecDepth 100000 in
theorem char_any (w : World) (base g : Nat) (A : Option Addr) (c : Nat) (p : List Int) (k st ne : Nat) (hV : Sv w base g A c p k st ne) (hk : k < p.length) :
    Calls Tryz.prog 75 #[.pointer (some ⟨g, 0, none⟩)] w (RetCh w g (.slice A p.length c) st ne (charL p k)) := by
  have c0 := rowc hV.sc 0 _ rfl
  have c1 := rowc hV.sc 1 _ rfl
  have HV := Aside0.mk hV
  have HN := Aside0.mk (fun W (hW : Below w.heap.size w W) => next_any W A c p k (Kd.C_below hV.row hW) hV.rng hk hV.cap hV.len)
  rcases hrl : readL (p.drop k) with ⟨r, n, ok⟩
  rw [hrl] at HN
  have HRL := Aside0.mk hrl
  have hp := readL_pos (b := p.drop k) (by intro h; have h2 : (p.drop k).length = p.length - k := List.length_drop ..; rw [h] at h2; simp at h2; omega)
  rw [hrl] at hp
  simp only at hp
  have e1 : (p.drop k).length = p.length - k := List.length_drop ..
  obtain ⟨q, hq⟩ : ∃ q, (p.take (k + n)).drop k = q := ⟨_, rfl⟩
  have hq2 : q = (p.drop k).take n := by rw [← hq, List.drop_take, Nat.add_sub_cancel_left]
  have hql : q.length = n := by rw [hq2, List.length_take]; omega
  have hrq : readL q = (r, n, ok) := by
    have h := readL_take (p.drop k)
    rw [hrl] at h
    rw [hq2]
    exact h
  obtain ⟨i0, hi0, _, hsz, _⟩ := info_parts info5
  have hct := cut_mid (P := Tryz.prog) 34 5 .i64 .i64 Tryz.underlying34 hi0 1 hsz A p.length c (k : Int) ((k : Int) + (n : Int)) (by omega) (by omega) (by omega) hV.cap
  have hC : ∀ W, Below w.heap.size w W → Kd.C kB W (if c = k then A else A.map (·.add (k * 1))) n q := fun W hW => by
    have h := Kd.C_mid (lo := k) (hi := k + n) (Kd.C_below hV.row hW) (by omega) (by omega) hV.cap
    rw [hq, hql] at h
    exact h
  obtain ⟨A', hA'⟩ : ∃ A', (if c = k then A else A.map (·.add (k * 1))) = A' := ⟨_, rfl⟩
  obtain ⟨c', hc'⟩ : ∃ c', c - k = c' := ⟨_, rfl⟩
  rw [show ((k : Int) + (n : Int)).toNat = k + n by omega, Int.toNat_natCast, Nat.add_sub_cancel_left, hA', hc'] at hct
  rw [hA'] at hC
  have HVA : Aside0 (∀ W, Below w.heap.size w W → Calls Tryz.prog 106 #[.slice A' n c'] W fun e w' => e = .returned (.bool ok) ∧ Drawn0 W w') := ⟨fun W hW => by
    have h := valid_any W A' c' q (by rw [hql]; exact hC W hW) (fun b hb => hV.rng b (by rw [hq2] at hb; exact List.mem_of_mem_drop (List.mem_of_mem_take hb))) (by intro h; rw [h] at hql; simp at hql; omega) (by have := hV.cap; omega) (by have := hV.len; omega) (by rw [hrq, hql])
    rw [hrq, hql] at h
    exact h⟩
  have hnk : k + n ≤ p.length := by omega
  have HNK := Aside0.mk hnk
  have HCT := Aside0.mk hct
  clear hV hrl hp e1 hq hq2 hql hrq hi0 hsz hC hA' hc' hnk hct
  go_enter Tryz.func75, Tryz.ntmps75
  go_upto_region 1 with (fail)
  go_cut [3] (fun v3 wc => ∃ gx : Nat, v3 = .pointer (some ⟨gx, 0, none⟩) ∧ Aside0 (wc.heap[gx]? = some (.cells #[.int .i64 r, .int .i64 (k : Int), .int .i64 ((k : Int) + (n : Int))] 122 (0, 0))) ∧ Aside0 (w.heap.size ≤ gx) ∧ Aside0 (Below w.heap.size w wc))
  case first =>
    have a0 := pw_cell_below (below_alloc (Below.refl w.heap.size w) (.cells #[.int .i64 0, .int .i64 0, .int .i64 0] 122)) c0
    have a1 := pw_cell_below (below_alloc (Below.refl w.heap.size w) (.cells #[.int .i64 0, .int .i64 0, .int .i64 0] 122)) c1
    go_region_with (go_at_call 105; refine (HN.out _ ?_).mono ?_; (first | exact below_drew (Below.refl _ _) | exact below_alloc (below_drew (Below.refl _ _)) _); rintro e w1 ⟨rfl, hb1⟩; try (have hgx : w1.heap[w.heap.size]? = some (.cells #[.int .i64 0, .int .i64 0, .int .i64 0] 122 (0, 0)) := (hb1.block _ (by simp)).trans (heap_alloc_new w.drew _); have v0 : w1.cell? ⟨w.heap.size, 0, none⟩ = some (.int .i64 0) := rowc hgx 0 _ rfl; have v1 : w1.cell? ⟨w.heap.size, 1, none⟩ = some (.int .i64 0) := rowc hgx 1 _ rfl; have v2 : w1.cell? ⟨w.heap.size, 2, none⟩ = some (.int .i64 0) := rowc hgx 2 _ rfl; have f0 := blk_frozen hgx 0; have f1 := blk_frozen hgx 1; have f2 := blk_frozen hgx 2))
    all_goals (go_wp2_with fail; go_meet)
    all_goals first
      | exact ⟨w1.heap.size, rfl, ⟨heap_alloc_new _ _⟩, ⟨hb1.size⟩, ⟨below_alloc (below_to (below_drew (Below.refl _ _)) hb1) _⟩⟩
      | exact ⟨w.heap.size, rfl, ⟨blk_put (blk_put (blk_put hgx 0 _ rfl) 1 _ rfl) 2 _ rfl⟩, ⟨Nat.le_refl _⟩, ⟨(((below_to (below_drew (below_alloc (Below.refl _ _) _)) hb1).setCell (Nat.le_refl _) _).setCell (Nat.le_refl _) _).setCell (Nat.le_refl _) _⟩⟩
  case rest =>
    obtain ⟨gx, rfl, HG, HGX, HB⟩ := hcut
    have hct := HCT.out
    replace c0 := pw_cell_below HB.out c0
    replace c1 := pw_cell_below HB.out c1
    have g0 := rowc HG.out 0 _ rfl
    have g1 := rowc HG.out 1 _ rfl
    have g2 := rowc HG.out 2 _ rfl
    go_wp2
    go_quiet (first | (go_at_call 106; refine (HVA.out _ ?_).mono ?_; (first | exact pw_below_drewN HB.out _ | exact HB.out); rintro e w' ⟨rfl, ⟨nd, rfl⟩⟩; first | exact ⟨rfl, _, rfl⟩ | exact ⟨rfl, _, World.drewN_drewN _ _ _⟩))
    have hbq : Below w.heap.size w (wc.drewN nq) := pw_below_drewN HB.out _
    have HBQ := Aside0.mk hbq
    have HSQ : Aside0 (ScP (wc.drewN nq) g (.slice A p.length c) k st ne) := ⟨(hbq.block g HV.out.lt).trans HV.out.sc⟩
    have HBT : Aside0 (But (· = g) w (wc.drewN nq)) := ⟨But.of_below hbq⟩
    cases ok with
    | false =>
      have hch : charL p k = .error (131, k) := by unfold charL; rw [HRL.out]
      have HCH := Aside0.mk hch
      clear hch hbq
      go_wp2
      refine ⟨rfl, ?_⟩
      rw [HCH.out]
      exact ⟨rfl, HBT.out⟩
    | true =>
      have hch : charL p k = .ok (r, k + n) := by unfold charL; rw [HRL.out]
      have HCH := Aside0.mk hch
      have f1 := blk_frozen HSQ.out 1
      have hgne : g ≠ gx := by have := HV.out.lt; have := HGX.out; omega
      clear hch hbq
      go_wp2
      go_ret
      rw [HCH.out]
      exact ⟨rfl, blk_put HSQ.out 1 _ rfl, But.set (ex := (· = g)) HBT.out g 1 rfl _⟩

end Go.Proofs.YtkipjalfgdfaiaaGreatDoor
namespace Go.Proofs.YtkipjalfgdfaiaaGreatDoor
set_option linter.unusedVariables false
set_option linter.unusedSimpArgs false

theorem runN_le (of_ : Int → Bool) : ∀ (m : Nat) (l : List Int), runN of_ m l ≤ m ∧ runN of_ m l ≤ l.length
  | 0, l => by simp [runN]
  | m + 1, [] => by simp [runN]
  | m + 1, c :: t => by
    have := runN_le of_ m t
    unfold runN
    split
    · simp only [List.length_cons]; omega
    · simp
theorem runN_lt (of_ : Int → Bool) : ∀ (m : Nat) (l : List Int) (j : Nat) (h : j < runN of_ m l), of_ (l[j]'(by have := runN_le of_ m l; omega)) = true
  | 0, l, j, h => by simp [runN] at h
  | m + 1, [], j, h => by simp [runN] at h
  | m + 1, c :: t, j, h => by
    have hc : of_ c = true := by
      cases hb : of_ c with
      | true => rfl
      | false => unfold runN at h; rw [hb] at h; simp at h
    cases j with
    | zero => exact hc
    | succ j =>
      have h2 : j < runN of_ m t := by unfold runN at h; rw [if_pos hc] at h; omega
      exact runN_lt of_ m t j h2
theorem runN_end (of_ : Int → Bool) : ∀ (m : Nat) (l : List Int) (h1 : runN of_ m l < m) (h2 : runN of_ m l < l.length), of_ (l[runN of_ m l]'h2) = false
  | 0, l, h1, _ => by omega
  | m + 1, [], _, h2 => by simp at h2
  | m + 1, c :: t, h1, h2 => by
    cases hb : of_ c with
    | true =>
      have e : runN of_ (m + 1) (c :: t) = runN of_ m t + 1 := by rw [runN, if_pos hb]
      have h3 := runN_end of_ m t (by omega) (by simp only [List.length_cons] at h2; omega)
      simp only [e, List.getElem_cons_succ]
      exact h3
    | false =>
      have e : runN of_ (m + 1) (c :: t) = 0 := by rw [runN, hb]; rfl
      simp only [e, List.getElem_cons_zero]
      exact hb

end Go.Proofs.YtkipjalfgdfaiaaGreatDoor
namespace Go.Proofs.YtkipjalfgdfaiaaGreatDoor
set_option linter.unusedVariables false
set_option linter.unusedSimpArgs false
open Go.RowKit Go.Proofs.YtkipjalfgdfaiaaGreatDoorW.PrintWords Go.Proofs.YtkipjalfgdfaiaaGreatDoorW.PrintLast Go.Proofs.YtkipjalfgdfaiaaGreatDoorW.PrintMore Go.Proofs.YtkipjalfgdfaiaaGreatDoor.PTk

/-- Bytes of a kind are taken. -/
def RetN (w : World) (g : Nat) (vp : Value) (p : List Int) (k st ne : Nat) (of_ : Int → Bool) (most : Nat) (e : Ending) (w' : World) : Prop :=
  e = .returned (.string (strOfNums ((p.drop k).take (runN of_ most (p.drop k))))) ∧ ScP w' g vp (k + runN of_ most (p.drop k)) st ne ∧ But (· = g) w w'
set_option maxHeartbeats 8000000 in
set_option maxRecDepth 100000 in
theorem run_any (F : FuncId) (of_ : Int → Bool) (hcf : ∀ (args : Array Value) (W : World), (callFunc F args).run Tryz.prog W = .ok (.enter F args) W) (HF : ∀ (W : World) (b : Int), 0 ≤ b → b ≤ 255 → Calls Tryz.prog F #[.int .u8 b] W fun e w' => e = .returned (.bool (of_ b)) ∧ Drawn0 W w') (w : World) (base g : Nat) (A : Option Addr) (c : Nat) (p : List Int) (k st ne most : Nat) (hV : Sv w base g A c p k st ne) (hm : most ≤ 100) :
    Calls Tryz.prog 149 #[.pointer (some ⟨g, 0, none⟩), .int .i64 (most : Int), .func (.func F) #[] #[]] w (RetN w g (.slice A p.length c) p k st ne of_ most) := by
  have c1 := rowc hV.sc 1 _ rfl
  have HV := Aside0.mk hV
  have HDG := Aside0.mk HF
  have hle := runN_le of_ most (p.drop k)
  have e1 : (p.drop k).length = p.length - k := List.length_drop ..
  obtain ⟨N, hN⟩ : ∃ N, runN of_ most (p.drop k) = N := ⟨_, rfl⟩
  have hlen := hV.len
  have hkle := hV.le
  have HLT : Aside0 (∀ j, j < N → ∃ h : k + j < p.length, of_ (p[k + j]'h) = true) := ⟨fun j hj => by
    have h := runN_lt of_ most (p.drop k) j (by omega)
    rw [List.getElem_drop] at h
    exact ⟨by omega, h⟩⟩
  have HEN : Aside0 (N < most → ∀ h : k + N < p.length, of_ (p[k + N]'h) = false) := ⟨fun h1 h2 => by
    have h := runN_end of_ most (p.drop k) (by omega) (by omega)
    rw [List.getElem_drop] at h
    simp only [hN] at h
    exact h⟩
  have hNm : N ≤ most := by omega
  have hNl : k + N ≤ p.length := by omega
  unfold RetN
  rw [hN]
  clear HF hV hle e1 hN
  go_enter Tryz.func149, Tryz.ntmps149
  go_wp2
  go_loopg [12] N (fun gk d w' => ∃ j : Nat, Aside0 (j ≤ N ∧ gk = N - j) ∧ Aside0 (ScP w' g (.slice A p.length c) (k + j) st ne) ∧ Aside0 (But (· = g) w w'))
  case atStart => exact ⟨0, ⟨Nat.zero_le _, rfl⟩, ⟨HV.out.sc⟩, ⟨But.refl _ _⟩⟩
  case round =>
    clear c1
    obtain ⟨j, HJ, HS, HB⟩ := hrel
    have c0 : wr.cell? ⟨g, 0, none⟩ = some (.slice A p.length c) := rowc HS.out 0 _ rfl
    have c1 : wr.cell? ⟨g, 1, none⟩ = some (.int .i64 ((k : Int) + (j : Int))) := rowc HS.out 1 _ (by simp)
    have hjN : j ≤ N := HJ.out.1
    have hmv : decide ((k : Int) + (j : Int) - (k : Int) < (most : Int)) = decide (j < most) := by rw [decide_eq_decide]; omega
    have HV2 : Aside0 (Sv wr base g A c p (k + j) st ne) := ⟨HV.out.move (k' := k + j) HB.out (fun x hx => by rw [hx]; exact HV.out.hb) HS.out (by omega)⟩
    by_cases hj : j < N
    · obtain ⟨hjl, hdg⟩ := HLT.out j hj
      obtain ⟨ad, e, hx⟩ := Kd.at_int HV2.out.row ((k + j : Nat) : Int) (by omega) (by omega)
      cases e
      have hrd : rd p ((k + j : Nat) : Int) = p[k + j] := by
        unfold rd
        rw [Int.toNat_natCast]
        simp [hjl]
      rw [hrd, Int.toNat_natCast] at hx
      have hrg := HV.out.rng _ (List.getElem_mem hjl)
      obtain ⟨b, hb⟩ : ∃ b, p[k + j] = b := ⟨_, rfl⟩
      rw [hb] at hx hdg hrg
      have HD2 := Aside0.mk (fun W => HDG.out W b hrg.1 hrg.2)
      rw [hdg] at HD2
      have f1 := blk_frozen HS.out 1
      clear hrd hb hdg
      have l1 : decide ((k : Int) + (j : Int) < (p.length : Int)) = true := decide_eq_true (by omega)
      have l2 : decide (j < most) = true := decide_eq_true (by omega)
      go_wp2
      go_quiet (first | (refine (HD2.out _).mono ?_; rintro e w' ⟨rfl, ⟨nd, rfl⟩⟩; first | exact ⟨rfl, _, rfl⟩ | exact ⟨rfl, _, World.drewN_drewN _ _ _⟩))
      have hbq : But (· = g) w (wr.drewN nq) := HB.out.trans (But.of_below (pw_below_drewN (Below.refl _ _) _))
      have hsq : ScP (wr.drewN nq) g (.slice (some ad) p.length c) (k + j) st ne := ((pw_below_drewN (Below.refl wr.heap.size wr) nq).block g (by have h1 : wr.heap[g]? = some _ := HS.out; exact (Array.getElem?_eq_some_iff.1 h1).1)).trans HS.out
      have HBQ := Aside0.mk hbq
      have HSQ := Aside0.mk hsq
      clear hbq hsq
      go_wp2
      go_roundg (N - j - 1)
      case measure => have := HJ.out; omega
      case rel => exact ⟨j + 1, ⟨by omega, by have := HJ.out; omega⟩, ⟨blk_put HSQ.out 1 _ (by simp [Int.add_assoc])⟩, ⟨But.set (ex := (· = g)) HBQ.out g 1 rfl _⟩⟩
    · obtain rfl : j = N := by omega
      obtain ⟨i0, hi0, _, hsz, _⟩ := info_parts info5
      have hct := cut_mid (P := Tryz.prog) 34 5 .i64 .i64 Tryz.underlying34 hi0 1 hsz A p.length c (k : Int) ((k : Int) + (j : Int)) (by omega) (by omega) (by omega) HV.out.cap
      rw [show ((k : Int) + (j : Int)).toNat = k + j by omega, Int.toNat_natCast, Nat.add_sub_cancel_left] at hct
      have hCm : ∀ W, Below base wr W → Kd.C kB W (if c = k then A else A.map (·.add (k * 1))) ((p.drop k).take j).length ((p.drop k).take j) := fun W hW => by
        have h := Kd.C_mid (lo := k) (hi := k + j) (HV2.out.rd W hW) (by omega) (by omega) HV.out.cap
        rw [List.drop_take, Nat.add_sub_cancel_left] at h
        exact h
      have hql : ((p.drop k).take j).length = j := by rw [List.length_take, List.length_drop]; omega
      obtain ⟨q, hq⟩ : ∃ q, (p.drop k).take j = q := ⟨_, rfl⟩
      rw [hql] at hCm
      rw [hq] at hCm hql
      obtain ⟨A', hA'⟩ : ∃ A', (if c = k then A else A.map (·.add (k * 1))) = A' := ⟨_, rfl⟩
      obtain ⟨c', hc'⟩ : ∃ c', c - k = c' := ⟨_, rfl⟩
      rw [hA'] at hCm
      rw [hA', hc'] at hct
      have HBL : Aside0 (Below base wr wr) := ⟨Below.refl _ _⟩
      have HQ : Aside0 ((p.drop k).take j = q) := ⟨hq⟩
      have hcv := fun n => Kd.C_string (P := Tryz.prog) (c := c') Tryz.underlying34 Tryz.underlying5 Tryz.underlying9 (hCm (wr.drewN n) (pw_below_drewN (Below.refl _ _) n))
      have HBD : Aside0 (∀ n, But (· = g) w (wr.drewN n)) := ⟨fun n => HB.out.trans (But.of_below (pw_below_drewN (Below.refl _ _) _))⟩
      have HSD : Aside0 (∀ n, ScP (wr.drewN n) g (.slice A p.length c) (k + j) st ne) := ⟨fun n => ((pw_below_drewN (Below.refl wr.heap.size wr) n).block g (by have h1 : wr.heap[g]? = some _ := HS.out; exact (Array.getElem?_eq_some_iff.1 h1).1)).trans HS.out⟩
      clear hi0 hsz hCm hA' hc' hq hql
      have HDQ : Aside0 (∀ (b : Int) (h : k + j < p.length), p[k + j]'h = b → j < most → ∀ W, Calls Tryz.prog F #[.int .u8 b] W fun e w' => e = .returned (.bool false) ∧ Drawn0 W w') := ⟨fun b h e hm W => by
        have h1 := HEN.out hm h
        have h2 := HDG.out W b (by rw [← e]; exact (HV.out.rng _ (List.getElem_mem h)).1) (by rw [← e]; exact (HV.out.rng _ (List.getElem_mem h)).2)
        rw [e] at h1
        rw [h1] at h2
        exact h2⟩
      by_cases hl : k + j < p.length
      · have l1 : decide ((k : Int) + (j : Int) < (p.length : Int)) = true := decide_eq_true (by omega)
        by_cases h2 : j < most
        · have l2 : decide (j < most) = true := decide_eq_true h2
          obtain ⟨ad, e, hx⟩ := Kd.at_int HV2.out.row ((k + j : Nat) : Int) (by omega) (by omega)
          cases e
          have hrd : rd p ((k + j : Nat) : Int) = p[k + j] := by
            unfold rd
            rw [Int.toNat_natCast]
            simp [hl]
          rw [hrd, Int.toNat_natCast] at hx
          obtain ⟨b, hb⟩ : ∃ b, p[k + j] = b := ⟨_, rfl⟩
          have HD2 := Aside0.mk (HDQ.out b hl hb h2)
          rw [hb] at hx
          clear hrd hb
          go_wp2
          go_quiet (first | (refine (HD2.out _).mono ?_; rintro e w' ⟨rfl, ⟨nd, rfl⟩⟩; first | exact ⟨rfl, _, rfl⟩ | exact ⟨rfl, _, World.drewN_drewN _ _ _⟩))
          go_wp2
          go_quiet (fail)
          go_wp2
          go_ret
          rw [HQ.out]
          first | exact ⟨rfl, HSD.out _, HBD.out _⟩ | (rw [World.drewN_drewN]; exact ⟨rfl, HSD.out _, HBD.out _⟩)
        · have l2 : decide (j < most) = false := decide_eq_false h2
          go_wp2
          go_quiet (fail)
          go_wp2
          go_quiet (fail)
          go_wp2
          go_ret
          rw [HQ.out]
          first | exact ⟨rfl, HSD.out _, HBD.out _⟩ | (rw [World.drewN_drewN]; exact ⟨rfl, HSD.out _, HBD.out _⟩)
      · have l1 : decide ((k : Int) + (j : Int) < (p.length : Int)) = false := decide_eq_false (by omega)
        go_wp2
        go_quiet (fail)
        go_wp2
        go_quiet (fail)
        go_wp2
        go_ret
        rw [HQ.out]
        first | exact ⟨rfl, HSD.out _, HBD.out _⟩ | (rw [World.drewN_drewN]; exact ⟨rfl, HSD.out _, HBD.out _⟩)

end Go.Proofs.YtkipjalfgdfaiaaGreatDoor
