/- The trie in memory: its block, its map, its blocks of cells. -/
import Derived.Test.YtpgnfccamcefgaaMapF
import Derived.Test.YtpgnfccamcefgaaWArr
import Derived.Test.YtpgnfccamcefgaaWLast
import Derived.Test.YtpgnfccamcefgaaWMore
import Derived.Test.YtpgnfccamcefgaaProg
namespace Go.Proofs.Ytpgnfccamcefgaa
set_option linter.unusedVariables false
set_option linter.unusedSimpArgs false
open Go.RowKit Go.Proofs.YtpgnfccamcefgaaW.PrintWords

abbrev kC : Kd (List Int) := Kd.arr 256 (Kd.int .i32) (by decide)
theorem Try.mtF : MTy Try.prog 68 3 3 .i64 .i64 := ⟨Try.underlying68, Try.underlying3, Try.underlying3, fun w => by kernel_rfl⟩
theorem Try.mtH : MTy Try.prog 91 21 3 .i32 .i64 := ⟨Try.underlying91, Try.underlying21, Try.underlying3, fun w => by kernel_rfl⟩
theorem Try.infoC : (Try.prog.info? 88).map (fun i => (i.zero, i.size, i.bytes)) = some (some (.agg (Array.replicate 256 (.int .i32 0))), 256, 1024) := by kernel_rfl
abbrev FMap (w : World) (m n : Nat) (F : Int → Option Int) : Prop := MapF Try.prog 3 3 .i64 .i64 w m n F
abbrev HMap (w : World) (m n : Nat) (H : Int → Option Int) : Prop := MapF Try.prog 21 3 .i32 .i64 w m n H

theorem kC_open {w : World} {x : List Int} {cs : List Value} (h : kC.K w x cs) : x.length = 256 ∧ cs = nums .i32 x := Kd.arr_cells h
theorem kC_mkM (w : World) (base : Nat) (ok : Nat → Prop) {x : List Int} (h : x.length = 256) : kC.M w base ok x (nums .i32 x) := Kd.arr_of_cells h
/-- Cell j of block k. -/
theorem at_C {w : World} {A : Option Addr} {B : List (List Int)} (h : Kd.C kC w A B.length B) (k j : Nat) (hk : k < B.length) (hj : j < 256) :
    ∃ ad, A = some ad ∧ w.cell? ((ad.add (k * 256)).add j) = some (.int .i32 ((B.getD k []).getD j 0)) := by
  obtain ⟨ad, c, e, _, hK, hc⟩ := Kd.C_get h ([] : List Int) (k : Int) (by omega) (by omega)
  obtain ⟨hl, rfl⟩ := kC_open hK
  refine ⟨ad, e, ?_⟩
  simp only [Int.toNat_natCast] at hl hc
  obtain ⟨x, hx⟩ : ∃ x, B.getD k [] = x := ⟨_, rfl⟩
  rw [hx] at hl hc ⊢
  have h1 := hc j (.int .i32 (x.getD j 0)) (by
    have : j < x.length := by omega
    simp [nums, this])
  have hs : kC.sz = 256 := rfl
  rw [hs] at h1
  have e2 : (ad.add (k * 256)).add j = ad.add (k * 256 + j) := by
    unfold Addr.add
    split <;> split <;> simp_all <;> omega
  rw [e2]
  exact h1

/-- The trie whose block is T, as it is read. -/
structure TrieR {α : Type} (kd : Kd α) (tT : TypeId) (w : World) (T : Nat) (vals : List α) (F : Int → Option Int) (B : List (List Int)) : Prop where mk ::
  out : ∃ V m n bl, w.heap[T]? = some (.cells #[V, .map (some m), bl] tT (0, 0)) ∧ RdS kd w V vals ∧ FMap w m n F ∧ RdS kC w bl B
theorem TrieR.below {α : Type} {kd : Kd α} {tT : TypeId} {w w1 : World} {T : Nat} {vals : List α} {F : Int → Option Int} {B : List (List Int)} (h : TrieR kd tT w T vals F B) (hb : Below w.heap.size w w1) : TrieR kd tT w1 T vals F B := by
  obtain ⟨V, m, n, bl, h1, h2, h3, h4⟩ := h.out
  exact ⟨V, m, n, bl, (hb.block T (Array.getElem?_eq_some_iff.1 h1).1).trans h1, h2.below hb, h3.below hb, h4.below hb⟩
theorem row_cell {w : World} {g : Nat} {cs : Array Value} {t : TypeId} {fr : Nat × Nat} (h : w.heap[g]? = some (.cells cs t fr)) (j : Nat) (v : Value) (hj : cs[j]? = some v) : w.cell? ⟨g, j, none⟩ = some v := by
  simp [World.cell?, h, hj]
theorem row_free {w : World} {g : Nat} {cs : Array Value} {t : TypeId} (h : w.heap[g]? = some (.cells cs t (0, 0))) (j : Nat) : w.frozen? ⟨g, j, none⟩ = false := by
  simp [World.frozen?, h]

/-- The cell of any number; -1: of none. -/
def cellAt (F : Int → Option Int) (B : List (List Int)) (r : Int) : Int := if 0 ≤ r ∧ r ≤ 1114111 then cellOf F B r else -1
theorem add0 (a : Addr) : a.add 0 = a := by simp [Addr.add]
theorem and255 {r : Int} (h0 : 0 ≤ r) (h1 : r ≤ 9223372036854775807) : bits .and .i64 r 255 = r % 256 := by
  obtain ⟨n, rfl⟩ : ∃ n : Nat, r = (n : Int) := ⟨r.toNat, by omega⟩
  have e1 : (BitVec.ofInt 64 (n : Int)).toNat = n := by rw [BitVec.toNat_ofInt]; omega
  have e2 : n &&& 255 = n % 256 := Nat.and_two_pow_sub_one_eq_mod n 8
  show IntKind.i64.wrap (BitVec.ofInt 64 (n : Int) &&& BitVec.ofInt 64 255).toNat = _
  rw [BitVec.toNat_and, e1, show (BitVec.ofInt 64 255).toNat = 255 from rfl, e2]
  exact IntWalk.i64_in _ (by omega)
theorem or255 {b : Int} (h0 : 0 ≤ b) (h1 : b ≤ 100000) : bits .or .i64 (b * 256) 255 = b * 256 + 255 := by
  obtain ⟨n, rfl⟩ : ∃ n : Nat, b = (n : Int) := ⟨b.toNat, by omega⟩
  have e1 : (BitVec.ofInt 64 ((n : Int) * 256)).toNat = n * 256 := by rw [BitVec.toNat_ofInt]; omega
  have e2 : n * 256 ||| 255 = n * 256 + 255 := by
    have := Nat.two_pow_add_eq_or_of_lt (i := 8) (b := 255) (by decide) n
    rw [Nat.mul_comm]
    exact this.symm
  show IntKind.i64.wrap (BitVec.ofInt 64 ((n : Int) * 256) ||| BitVec.ofInt 64 255).toNat = _
  rw [BitVec.toNat_or, e1, show (BitVec.ofInt 64 255).toNat = 255 from rfl, e2]
  exact (IntWalk.i64_in _ (by omega)).trans (by omega)

end Go.Proofs.Ytpgnfccamcefgaa
