/- Records as a text. Pure: no program. -/
import Derived.Test.YtooehjbbphokbaaDoorLnP
namespace Go.Proofs.YtooehjbbphokbaaDoor
set_option linter.unusedVariables false
set_option linter.unusedSimpArgs false

def hexC (d : Nat) : UInt8 := if d < 10 then UInt8.ofNat (48 + d) else UInt8.ofNat (55 + d)
/-- Digits ahead of digits, to where none is left and there are four. -/
def hexL : Nat → Nat → List UInt8 → List UInt8
  | 0, _, acc => acc
  | k + 1, n, acc => if n = 0 ∧ 4 ≤ acc.length then acc else hexL k (n / 16) (hexC (n % 16) :: acc)
def pointL (n : Nat) : List UInt8 := hexL 6 n []
theorem hexL_end {k n : Nat} {acc : List UInt8} (h0 : n = 0) (h4 : 4 ≤ acc.length) : hexL k n acc = acc := by
  cases k with
  | zero => rfl
  | succ k => rw [hexL, if_pos ⟨h0, h4⟩]
theorem hexL_go {k n : Nat} {acc : List UInt8} (h : 0 < n ∨ acc.length < 4) : hexL (k + 1) n acc = hexL k (n / 16) (hexC (n % 16) :: acc) := by
  rw [hexL, if_neg (by omega)]
theorem hexL_length : ∀ (k n : Nat) (acc : List UInt8), (hexL k n acc).length ≤ acc.length + k
  | 0, _, acc => Nat.le_refl _
  | k + 1, n, acc => by
    unfold hexL
    split
    · omega
    · have := hexL_length k (n / 16) (hexC (n % 16) :: acc)
      simp only [List.length_cons] at this
      omega
theorem pointL_length (n : Nat) : (pointL n).length ≤ 6 := hexL_length 6 n []

/-- Whether a field can be written. -/
def fieldOk (f : ByteArray) : Bool := decide (trimB f = f) && !(f.data.toList.contains 59) && !(f.data.toList.contains 35) && !(f.data.toList.contains 10)
def recOk (r : Rc) : Bool := decide (0 ≤ r.f0) && decide (r.f0 ≤ r.f1) && decide (r.f1 ≤ 1114111) && decide (0 < r.f2.length) && r.f2.all fieldOk
def fieldT (f : ByteArray) : List UInt8 := [32, 59, 32] ++ f.data.toList
def headT (r : Rc) : List UInt8 := pointL r.f0.toNat ++ (if r.f0 < r.f1 then [46, 46] ++ pointL r.f1.toNat else [])
def recT (r : Rc) : List UInt8 := headT r ++ r.f2.flatMap fieldT ++ [10]
def textT (l : List Rc) : List UInt8 := l.flatMap recT
def printL (l : List Rc) : ByteArray × Int := if l.all recOk = true then (bsL (textT l), 0) else (⟨#[]⟩, 1)
theorem printL_bad {l : List Rc} {r : Rc} (h : r ∈ l) (hr : recOk r = false) : printL l = (⟨#[]⟩, 1) := by
  unfold printL
  rw [if_neg]
  rw [List.all_eq_true]
  intro ha
  rw [ha r h] at hr
  cases hr
theorem printL_good {l : List Rc} (h : ∀ r ∈ l, recOk r = true) : printL l = (bsL (textT l), 0) := by
  unfold printL
  rw [if_pos (List.all_eq_true.2 h)]
theorem recOk_iff (r : Rc) : recOk r = true ↔ 0 ≤ r.f0 ∧ r.f0 ≤ r.f1 ∧ r.f1 ≤ 1114111 ∧ 0 < r.f2.length ∧ ∀ f ∈ r.f2, fieldOk f = true := by
  unfold recOk
  simp only [Bool.and_eq_true, decide_eq_true_eq, List.all_eq_true, and_assoc]
theorem recOk_no {r : Rc} (h : ¬ (0 ≤ r.f0 ∧ r.f0 ≤ r.f1 ∧ r.f1 ≤ 1114111 ∧ 0 < r.f2.length ∧ ∀ f ∈ r.f2, fieldOk f = true)) : recOk r = false := by
  cases hh : recOk r with
  | false => rfl
  | true => exact absurd ((recOk_iff r).1 hh) h
theorem headT_length (r : Rc) : (headT r).length ≤ 14 := by
  unfold headT
  have h0 := pointL_length r.f0.toNat
  have h1 := pointL_length r.f1.toNat
  split
  · simp only [List.length_append, List.length_cons, List.length_nil]
    omega
  · simp only [List.length_append, List.length_nil]
    omega
theorem textT_take {l : List Rc} {i : Nat} (hi : i < l.length) : textT (l.take (i + 1)) = textT (l.take i) ++ recT l[i] := by
  unfold textT
  rw [List.take_succ_eq_append_getElem hi, List.flatMap_append]
  simp
theorem fieldsT_take {l : List ByteArray} {i : Nat} (hi : i < l.length) : (l.take (i + 1)).flatMap fieldT = (l.take i).flatMap fieldT ++ fieldT l[i] := by
  rw [List.take_succ_eq_append_getElem hi, List.flatMap_append]
  simp
theorem flatMap_le {α : Type} (g : α → List UInt8) (l : List α) (i : Nat) : ((l.take i).flatMap g).length ≤ (l.flatMap g).length := by
  conv => rhs; rw [← List.take_append_drop i l, List.flatMap_append]
  simp
theorem flatMap_mem {α : Type} (g : α → List UInt8) (l : List α) (i : Nat) (hi : i < l.length) : ((l.take i).flatMap g).length + (g l[i]).length ≤ (l.flatMap g).length := by
  have h := flatMap_le g l (i + 1)
  rw [List.take_succ_eq_append_getElem hi, List.flatMap_append] at h
  simpa using h

end Go.Proofs.YtooehjbbphokbaaDoor
