/- The trie's Ranges: what its walk needs. -/
import Derived.Test.YtpgnfccamcefgabTrCore
import Derived.Test.YtpgnfccamcefgabRgSort
import Derived.WalkKit
namespace Go.Proofs.Ytpgnfccamcefgab
set_option linter.unusedVariables false
set_option linter.unusedSimpArgs false
open Go.RowKit Go.Proofs.YtpgnfccamcefgabW.PrintWords

/-- Whether a cell's value is v. -/
def hitC (vals : List Int) (v c : Int) : Prop := 0 ≤ c ∧ vals.getD c.toNat 0 = v
instance (vals : List Int) (v c : Int) : Decidable (hitC vals v c) := by unfold hitC; exact inferInstance
/-- What the row 'want' says behind k rounds. -/
def WantTo (vals : List Int) (v : Int) (k : Nat) (ys : List Bool) : Prop := ys.length = vals.length + 1 ∧ ys.getD 0 false = false ∧ ∀ j, j < k → ys.getD (j + 1) false = decide (vals.getD j 0 = v)
theorem WantTo.start (vals : List Int) (v : Int) : WantTo vals v 0 (List.replicate (vals.length + 1) false) := ⟨by simp, by simp, fun j hj => absurd hj (Nat.not_lt_zero j)⟩
theorem WantTo.step {vals : List Int} {v : Int} {k : Nat} {ys : List Bool} (h : WantTo vals v k ys) (hk : k < vals.length) {b : Bool} (hb : b = decide (vals.getD k 0 = v)) : WantTo vals v (k + 1) (ys.set (k + 1) b) := by
  refine ⟨by rw [List.length_set]; exact h.1, ?_, fun j hj => ?_⟩
  · have := h.2.1
    simpa [List.getElem?_set] using this
  · by_cases e : j = k
    · subst e
      have : j + 1 < ys.length := by have := h.1; omega
      simp [this, hb]
    · have h3 := h.2.2 j (by omega)
      have : ¬ k = j := fun e2 => e e2.symm
      simpa [List.getElem?_set, this] using h3
theorem WantTo.at_ {vals : List Int} {v : Int} {ys : List Bool} (h : WantTo vals v vals.length ys) {c : Int} (h0 : -1 ≤ c) (h1 : c < vals.length) : ys.getD (c + 1).toNat false = decide (hitC vals v c) := by
  by_cases e : c = -1
  · subst e
    have : ¬ hitC vals v (-1) := fun h => by have := h.1; omega
    rw [decide_eq_false this]
    exact h.2.1
  · obtain ⟨j, rfl⟩ : ∃ j : Nat, c = (j : Int) := ⟨c.toNat, by omega⟩
    have h3 := h.2.2 j (by omega)
    have e2 : ((j : Int) + 1).toNat = j + 1 := by omega
    rw [e2, h3]
    unfold hitC
    simp

/-- The state of the loops: the range r0 over the map m, the row want, the ranges so far. -/
structure RSt (F : Int → Option Int) (w w' : World) (m r0 n : Nat) (wv : Value) (ys : List Bool) (lv : Value) (L : List Rg) (left : Int → Prop) (cnt : Nat) : Prop where
  hR : RangeF Try.prog 3 3 .i64 .i64 w' m r0 n F left cnt
  hW : Own Kd.bool 4 w' w.heap.size wv ys
  hL : Own kR 49 w' w.heap.size lv L
  hB : Below w.heap.size w w'
  hm : m < w.heap.size
  hr : w.heap.size ≤ r0
section
variable {F : Int → Option Int} {w w' w1 : World} {m r0 n cnt cnt' : Nat} {wv lv lv' : Value} {ys : List Bool} {L L' : List Rg} {left left' : Int → Prop}
theorem RSt.drewN (h : RSt F w w' m r0 n wv ys lv L left cnt) (q : Nat) : RSt F w (w'.drewN q) m r0 n wv ys lv L left cnt :=
  ⟨h.hR.grown (grown_of_below (pw_below_drewN (Below.refl _ _) q) none) (by simp) (by simp), Kd.R_drewN h.hW q, Kd.R_drewN h.hL q, pw_below_drewN h.hB q, h.hm, h.hr⟩
theorem RSt.next (h : RSt F w w' m r0 n wv ys lv L left cnt) (hR : RangeF Try.prog 3 3 .i64 .i64 w1 m r0 n F left' cnt') (hg : w'.grownBy w1 (some r0)) : RSt F w w1 m r0 n wv ys lv L left' cnt' := by
  have hn : ∀ (l : List Nat), ∀ q ∈ l, ∀ cs, w'.heap[r0]? ≠ some (.cells cs q (0, 0)) := fun l q _ cs e => h.hR.not_cells e rfl
  exact ⟨hR, own_other_blk h.hW hg (hn _), own_other_blk h.hL hg (hn _), below_grown1 h.hB hg h.hB.size h.hr, h.hm, h.hr⟩
theorem RSt.put (h : RSt F w w' m r0 n wv ys lv L left cnt) (hg : w'.grownBy w1 lv.ownBlock) (hL : Own kR 49 w1 w.heap.size lv' L') (hB : Below w.heap.size w w1) : RSt F w w1 m r0 n wv ys lv' L' left cnt := by
  refine ⟨h.hR.grown hg (fun e => ?_) (fun e => ?_), Kd.R_over h.hW h.hL (by decide) hg, hL, hB, h.hm, h.hr⟩
  · have := Kd.R_base h.hL m e.symm
    have := h.hm
    omega
  · obtain ⟨cs, hcs⟩ := Kd.R_typed h.hL r0 e.symm
    exact h.hR.not_cells hcs rfl
/-- The last range's end is written. -/
theorem RSt.setHi {g c : Nat} (h : RSt F w w' m r0 n wv ys (.slice (some ⟨g, 0, none⟩) L.length c) L left cnt) (k : Nat) (hk : k < L.length) (u : Int) : RSt F w (w'.setCell ⟨g, k * 2 + 1, none⟩ (.int .i64 u)) m r0 n wv ys (.slice (some ⟨g, 0, none⟩) L.length c) (L.set k (L[k].1, u)) left cnt :=
  h.put (grown_setCell w' g (k * 2 + 1) _) (own_setR h.hL k hk u) (below_grown1 h.hB (grown_setCell w' g (k * 2 + 1) _) h.hB.size (Kd.R_base h.hL g rfl))
end

/-- What the ranges hold behind the first i cells of place b. -/
def RgTo (F : Int → Option Int) (B : List (List Int)) (vals : List Int) (v : Int) (left : Int → Prop) (L : List Rg) : Prop :=
  (∀ p ∈ L, p.1 ≤ p.2) ∧ ∀ x, Mem x L ↔ F (x / 256) ≠ none ∧ ¬ left (x / 256) ∧ hitC vals v (cellOf F B x)
def RgIn (F : Int → Option Int) (B : List (List Int)) (vals : List Int) (v : Int) (left : Int → Prop) (b : Int) (i : Nat) (L : List Rg) : Prop :=
  (∀ p ∈ L, p.1 ≤ p.2) ∧ ∀ x, Mem x L ↔ (F (x / 256) ≠ none ∧ ¬ left (x / 256) ∧ hitC vals v (cellOf F B x)) ∨ (x / 256 = b ∧ x % 256 < i ∧ hitC vals v (cellOf F B x))
section
variable {F : Int → Option Int} {B : List (List Int)} {vals : List Int} {v : Int} {left : Int → Prop} {b : Int} {i : Nat} {L : List Rg}
theorem RgTo.start (F : Int → Option Int) (B : List (List Int)) (vals : List Int) (v : Int) : RgTo F B vals v (fun x => F x ≠ none) [] :=
  ⟨fun p h => (by cases h), fun x => ⟨fun h => absurd h (mem_nil x), fun h => absurd h.1 h.2.1⟩⟩
theorem RgTo.in_ (h : RgTo F B vals v left L) (b : Int) : RgIn F B vals v left b 0 L := ⟨h.1, fun x => (h.2 x).trans ⟨.inl, fun h => h.elim id (fun h => by have := h.2.1; omega)⟩⟩
theorem RgIn.out_ (h : RgIn F B vals v left b 256 L) (hb : F b ≠ none) : RgTo F B vals v (fun z => left z ∧ z ≠ b) L := ⟨h.1, fun x => (h.2 x).trans ⟨fun h => by
  rcases h with ⟨h1, h2, h3⟩ | ⟨h1, h2, h3⟩
  · exact ⟨h1, fun h => h2 h.1, h3⟩
  · exact ⟨by rw [h1]; exact hb, fun h => h.2 h1, h3⟩, fun ⟨h1, h2, h3⟩ => by
    by_cases e : x / 256 = b
    · exact .inr ⟨e, by omega, h3⟩
    · exact .inl ⟨h1, fun h => h2 ⟨h, e⟩, h3⟩⟩⟩
theorem RgIn.miss (h : RgIn F B vals v left b i L) (hi : i < 256) (hn : ¬ hitC vals v (cellOf F B (b * 256 + i))) : RgIn F B vals v left b (i + 1) L := ⟨h.1, fun x => (h.2 x).trans (or_congr_right ⟨fun ⟨h1, h2, h3⟩ => ⟨h1, by omega, h3⟩, fun ⟨h1, h2, h3⟩ => ⟨h1, by
  by_cases e : x = b * 256 + i
  · rw [e] at h3; exact absurd h3 hn
  · omega, h3⟩⟩)⟩
theorem RgIn.hit (h : RgIn F B vals v left b i L) (hi : i < 256) (hy : hitC vals v (cellOf F B (b * 256 + i))) {L' : List Rg} (hp : ∀ p ∈ L', p.1 ≤ p.2) (hm : ∀ x, Mem x L' ↔ Mem x L ∨ x = b * 256 + i) : RgIn F B vals v left b (i + 1) L' := ⟨hp, fun x => by
  rw [hm x, h.2 x, or_assoc]
  refine or_congr_right ⟨fun h => ?_, fun ⟨h1, h2, h3⟩ => ?_⟩
  · rcases h with ⟨h1, h2, h3⟩ | rfl
    · exact ⟨h1, by omega, h3⟩
    · exact ⟨by omega, by omega, hy⟩
  · by_cases e : x = b * 256 + i
    · exact .inr e
    · exact .inl ⟨h1, by omega, h3⟩⟩
theorem RgIn.snoc (h : RgIn F B vals v left b i L) (hi : i < 256) (hy : hitC vals v (cellOf F B (b * 256 + i))) : RgIn F B vals v left b (i + 1) (L ++ [(b * 256 + i, b * 256 + i)]) :=
  h.hit hi hy (fun p hp => by
    rcases List.mem_append.1 hp with hp | hp
    · exact h.1 p hp
    · rw [List.mem_singleton.1 hp]; exact Int.le_refl _) (fun x => by
    rw [mem_snoc]
    exact or_congr_right ⟨fun h => by have := h.1; have := h.2; simp only at *; omega, fun h => ⟨by simp only; omega, by simp only; omega⟩⟩)
theorem RgIn.grow {s : List Rg} {p : Rg} (h : RgIn F B vals v left b i (s ++ [p])) (hi : i < 256) (hy : hitC vals v (cellOf F B (b * 256 + i))) (he : p.2 = b * 256 + i - 1) : RgIn F B vals v left b (i + 1) (s ++ [(p.1, b * 256 + i)]) :=
  h.hit hi hy (fun q hq => by
    rcases List.mem_append.1 hq with hq | hq
    · exact h.1 q (List.mem_append_left _ hq)
    · rw [List.mem_singleton.1 hq]
      have := h.1 p (List.mem_append_right _ (List.mem_singleton.2 rfl))
      simp only
      omega) (fun x => by
    rw [mem_snoc, mem_snoc, or_assoc]
    have := h.1 p (List.mem_append_right _ (List.mem_singleton.2 rfl))
    refine or_congr_right ⟨fun h => ?_, fun h => ?_⟩
    · obtain ⟨h1, h2⟩ := h
      simp only at h1 h2
      omega
    · simp only
      omega)
end

theorem or_lt {b : Int} {i : Nat} (h0 : 0 ≤ b) (h1 : b ≤ 100000) (hi : i < 256) : bits .or .i64 (b * 256) (i : Int) = b * 256 + i := by
  obtain ⟨n, rfl⟩ : ∃ n : Nat, b = (n : Int) := ⟨b.toNat, by omega⟩
  have e1 : (BitVec.ofInt 64 ((n : Int) * 256)).toNat = n * 256 := by rw [BitVec.toNat_ofInt]; omega
  have e3 : (BitVec.ofInt 64 (i : Int)).toNat = i := by rw [BitVec.toNat_ofInt]; omega
  have e2 : n * 256 ||| i = n * 256 + i := by
    have := Nat.two_pow_add_eq_or_of_lt (i := 8) (b := i) (by simpa using hi) n
    rw [Nat.mul_comm]
    exact this.symm
  show IntKind.i64.wrap (BitVec.ofInt 64 ((n : Int) * 256) ||| BitVec.ofInt 64 (i : Int)).toNat = _
  rw [BitVec.toNat_or, e1, e3, e2]
  exact (IntWalk.i64_in _ (by omega)).trans (by omega)
theorem cell_blk {F : Int → Option Int} {B : List (List Int)} {b : Int} {k i : Nat} (hF : F b = some (k : Int)) (hi : i < 256) : cellOf F B (b * 256 + i) = (B.getD k []).getD i 0 := by
  unfold cellOf
  have e1 : (b * 256 + (i : Int)) / 256 = b := by omega
  have e2 : (b * 256 + (i : Int)) % 256 = i := by omega
  rw [e1, e2, hF]
  simp
/-- An element of an array of cells. -/
theorem index_C (w : World) {x : List Int} (hx : x.length = 256) {i : Nat} (hi : i < 256) : (Instr.index 36 (.agg (nums .i32 x).toArray) (.int .i64 (i : Int))).run Try.prog w = .ok (.int .i32 (x.getD i 0)) w := by
  have hu := run_underlying (P := Try.prog) Try.underlying36 w
  have hs : (sizeOf 21).run Try.prog w = .ok 1 w := by kernel_rfl
  have ha : (isAgg 21).run Try.prog w = .ok false w := by kernel_rfl
  have hc : (nums .i32 x).toArray[i]? = some (.int .i32 (x.getD i 0)) := by rw [List.getElem?_toArray]; simp [nums, show i < x.length by omega]
  have h0 : (0 : Int) ≤ i ∧ (i : Int) < (256 : Nat) := ⟨by omega, by omega⟩
  unfold Instr.index
  simp only [asIntOf, Sem.run_bind, Sem.run_pure, Result.andThen_ok, hu]
  rw [if_pos h0]
  simp only [Sem.run_bind, hs, Result.andThen_ok, part, ha, Int.toNat_natCast, Nat.mul_one, hc, Sem.run_pure, Bool.false_eq_true, if_false]


theorem exec_index {P : Program} {w : World} {ev : Operand → Value} {o : Oper} {ty : TypeId} {x i : Operand} {vx vi v : Value} (ho : o.op = .index ty x i) (hx : ev x = vx) (hi : ev i = vi) (hr : (Instr.index ty vx vi).run P w = .ok v w) : (execOp ev o).run P w = .ok (.value v) w := by
  unfold execOp
  simp only [ho, hx, hi, Sem.run_bind, hr, Result.andThen_ok, Sem.run_pure]


theorem snoc_last {α : Type} (s : List α) (p : α) {h : s.length < (s ++ [p]).length} : (s ++ [p])[s.length]'h = p := by simp


end Go.Proofs.Ytpgnfccamcefgab
