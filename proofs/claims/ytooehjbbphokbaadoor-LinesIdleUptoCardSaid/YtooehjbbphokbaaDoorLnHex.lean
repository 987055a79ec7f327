/- The code point of digits, by bytes; a byte that is a digit is a code point that is one. Pure: no program. -/
import Derived.Laws.RangeAny
import Derived.Laws.RangeString
import Derived.IntWalk
import Derived.RowKit
namespace Go.Proofs.YtooehjbbphokbaaDoor
set_option linter.unusedVariables false
set_option linter.unusedSimpArgs false

/-- A digit's value; -1: it is none. -/
def hexD (c : Int) : Int := if 48 ≤ c ∧ c ≤ 57 then c - 48 else if 65 ≤ c ∧ c ≤ 70 then c - 65 + 10 else if 97 ≤ c ∧ c ≤ 102 then c - 97 + 10 else -1
theorem hexD_le (c : Int) : -1 ≤ hexD c ∧ hexD c ≤ 15 := by
  unfold hexD
  split
  · omega
  · split
    · omega
    · split <;> omega
theorem hexD_high {c : Int} (h : 128 ≤ c) : hexD c = -1 := by
  unfold hexD
  rw [if_neg (by omega), if_neg (by omega), if_neg (by omega)]
/-- The number of the digits from pos on, behind n; none: a byte is no digit. -/
def hexFrom (s : ByteArray) (n : Int) (pos : Nat) : Option Int :=
  if h : pos < s.size then if hexD ((s[pos]'h).toNat : Int) < 0 then none else hexFrom s (16 * n + hexD ((s[pos]'h).toNat : Int)) (pos + 1) else some n
termination_by s.size - pos
theorem hexFrom_end {s : ByteArray} {n : Int} {pos : Nat} (h : ¬ pos < s.size) : hexFrom s n pos = some n := by
  unfold hexFrom
  rw [dif_neg h]
theorem hexFrom_bad {s : ByteArray} {n : Int} {pos : Nat} (h : pos < s.size) (hd : hexD ((s[pos]'h).toNat : Int) < 0) : hexFrom s n pos = none := by
  unfold hexFrom
  rw [dif_pos h, if_pos hd]
theorem hexFrom_step {s : ByteArray} {n : Int} {pos : Nat} (h : pos < s.size) (hd : ¬ hexD ((s[pos]'h).toNat : Int) < 0) : hexFrom s n pos = hexFrom s (16 * n + hexD ((s[pos]'h).toNat : Int)) (pos + 1) := by
  rw [hexFrom, dif_pos h, if_neg hd]
/-- What lines.Hex and the reference's Hex answer. -/
def hexAns (s : ByteArray) : Int × Bool :=
  if s.size < 4 ∨ 6 < s.size then (0, false) else match hexFrom s 0 0 with
    | none => (0, false)
    | some n => if 1114111 < n then (0, false) else (n, true)
theorem rune_digit (s : ByteArray) (pos : Nat) (h : pos < s.size) : hexD ((Utf8.decode s pos).1 : Int) = hexD ((s[pos]'h).toNat : Int) ∧ (0 ≤ hexD ((s[pos]'h).toNat : Int) → (Utf8.decode s pos).2 = 1) := by
  by_cases ha : (s[pos]'h).toNat < 128
  · rw [decode_ascii s pos h ha]
    exact ⟨rfl, fun _ => rfl⟩
  · have h1 := (decode_high s pos h (by omega)).1
    rw [hexD_high (by omega), hexD_high (by omega)]
    exact ⟨rfl, fun h => absurd h (by decide)⟩
theorem or16 {n d : Int} (h0 : 0 ≤ n) (h1 : n ≤ 1099511627776) (d0 : 0 ≤ d) (d1 : d ≤ 15) : bits .or .i64 (16 * n) d = 16 * n + d := by
  obtain ⟨n, rfl⟩ : ∃ m : Nat, n = (m : Int) := ⟨n.toNat, by omega⟩
  obtain ⟨d, rfl⟩ : ∃ m : Nat, d = (m : Int) := ⟨d.toNat, by omega⟩
  have e1 : (BitVec.ofInt 64 (16 * (n : Int))).toNat = n * 16 := by rw [BitVec.toNat_ofInt]; omega
  have e3 : (BitVec.ofInt 64 (d : Int)).toNat = d := by rw [BitVec.toNat_ofInt]; omega
  have e2 : n * 16 ||| d = n * 16 + d := by
    have := Nat.two_pow_add_eq_or_of_lt (i := 4) (b := d) (by omega) n
    rw [Nat.mul_comm]
    exact this.symm
  show IntKind.i64.wrap (BitVec.ofInt 64 (16 * (n : Int)) ||| BitVec.ofInt 64 (d : Int)).toNat = _
  rw [BitVec.toNat_or, e1, e3, e2]
  exact (IntWalk.i64_in _ (by omega)).trans (by omega)
/-- The loops' numbers stay small: behind pos digits n is less than 16 to the pos. -/
theorem hex_small {n d : Int} {pos : Nat} (hp : pos < 6) (h0 : 0 ≤ n) (h1 : n < 16 ^ pos) (d0 : 0 ≤ d) (d1 : d ≤ 15) : 0 ≤ 16 * n + d ∧ 16 * n + d < 16 ^ (pos + 1) := by
  have e : (16 : Int) ^ (pos + 1) = 16 ^ pos * 16 := Int.pow_succ ..
  omega
theorem hex_max {n : Int} {pos : Nat} (hp : pos ≤ 6) (h1 : n < 16 ^ pos) : n < 16777216 := by
  have : (16 : Int) ^ pos ≤ 16 ^ 6 := by
    rcases (show pos = 0 ∨ pos = 1 ∨ pos = 2 ∨ pos = 3 ∨ pos = 4 ∨ pos = 5 ∨ pos = 6 by omega) with rfl | rfl | rfl | rfl | rfl | rfl | rfl <;> decide
  have e : (16 : Int) ^ 6 = 16777216 := by decide
  omega

open Go.RowKit in
theorem hex_round {s : ByteArray} {n dg : Int} {pos : Nat} (hp : pos < s.size) (h6 : (s.size : Int) ≤ 6) (h0 : 0 ≤ n) (h1 : n < 16 ^ pos) (hf : hexFrom s n pos = hexFrom s 0 0) (hd : hexD ((s[pos]'hp).toNat : Int) = dg) (d0 : 0 ≤ dg) :
    pos + 1 ≤ s.size ∧ 0 ≤ bits .or .i64 (wrap64 (n * 16)) dg ∧ bits .or .i64 (wrap64 (n * 16)) dg < 16 ^ (pos + 1) ∧ hexFrom s (bits .or .i64 (wrap64 (n * 16)) dg) (pos + 1) = hexFrom s 0 0 := by
  have hm := hex_max (n := n) (pos := pos) (by omega) h1
  have hb := hexD_le ((s[pos]'hp).toNat : Int)
  rw [hd] at hb
  have hw : wrap64 (n * 16) = 16 * n := by unfold wrap64; omega
  have hs := hex_small (n := n) (d := dg) (pos := pos) (by omega) h0 h1 d0 hb.2
  rw [hw, or16 h0 (by omega) d0 hb.2]
  refine ⟨by omega, hs.1, hs.2, ?_⟩
  have h := hexFrom_step (n := n) hp (by rw [hd]; omega)
  rw [hd] at h
  rw [← h]
  exact hf

theorem hex_round2 {s : ByteArray} {n N : Int} {pos gk : Nat} (hp : pos < s.size) (h6 : (s.size : Int) ≤ 6) (hc : gk = s.size - pos ∧ pos ≤ s.size ∧ 0 ≤ n ∧ n < 16 ^ pos ∧ hexFrom s n pos = hexFrom s 0 0) (d0 : 0 ≤ hexD ((s[pos]'hp).toNat : Int)) (hN : n < 16777216 → N = 16 * n + hexD ((s[pos]'hp).toNat : Int)) :
    gk - 1 = s.size - (pos + 1) ∧ pos + 1 ≤ s.size ∧ 0 ≤ N ∧ N < 16 ^ (pos + 1) ∧ hexFrom s N (pos + 1) = hexFrom s 0 0 := by
  obtain ⟨e, _, h0, h1, hf⟩ := hc
  have hm := hex_max (n := n) (pos := pos) (by omega) h1
  have hb := hexD_le ((s[pos]'hp).toNat : Int)
  have hs := hex_small (n := n) (d := hexD ((s[pos]'hp).toNat : Int)) (pos := pos) (by omega) h0 h1 d0 hb.2
  rw [hN hm]
  refine ⟨by omega, by omega, hs.1, hs.2, ?_⟩
  rw [← hexFrom_step (n := n) hp (by omega)]
  exact hf

end Go.Proofs.YtooehjbbphokbaaDoor
