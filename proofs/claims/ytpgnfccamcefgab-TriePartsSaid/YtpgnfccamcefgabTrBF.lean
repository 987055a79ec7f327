/- The trie's parts, made in whatever order: what is known of them. -/
import Derived.Test.YtpgnfccamcefgabTrCore
import Derived.Test.YtpgnfccamcefgabWInvWords
namespace Go.Proofs.Ytpgnfccamcefgab
set_option linter.unusedVariables false
set_option linter.unusedSimpArgs false
open Go.RowKit Go.Proofs.YtpgnfccamcefgabW.PrintWords Go.Proofs.YtpgnfccamcefgabW.PrintLast Go.Proofs.YtpgnfccamcefgabW.PrintMore

structure BF {α : Type} (kd : Kd α) (eT tT : TypeId) (w0 : World) (c : Nat) (b : Nat → Bool) (w : World) (v22 v24 v25 v27 v29 : Value) (vals : List α) : Prop where
  below : Below w0.heap.size w0 w
  hc : w.heap[c]? = some (.cells (nums .i32 (part256 (-1) 256)).toArray 36 (0, 0))
  h0 : b 0 = true → b 2 = false → Own kd eT w w0.heap.size v22 []
  h2 : b 2 = true → Own kd eT w w0.heap.size v24 vals
  h3 : b 3 = true → ∃ m, v25 = .map (some m) ∧ FMap w m 0 (fun _ => none) ∧ w0.heap.size ≤ m
  h5 : b 5 = true → Own kC 36 w w0.heap.size v27 [part256 (-1) 256]
  h7 : b 7 = true → ∃ T, v29 = .pointer (some ⟨T, 0, none⟩) ∧ w.heap[T]? = some (.cells #[v24, v25, v27] tT (0, 0)) ∧ w0.heap.size ≤ T
section
variable {α : Type} {kd : Kd α} {eT tT : TypeId} {w0 w w1 : World} {c : Nat} {b : Nat → Bool} {v22 v24 v25 v27 v29 : Value} {vals : List α}
theorem BF.to (h : BF kd eT tT w0 c b w v22 v24 v25 v27 v29 vals) (k : Below w.heap.size w w1) : BF kd eT tT w0 c b w1 v22 v24 v25 v27 v29 vals where
  below := below_to h.below k
  hc := (k.block c (Array.getElem?_eq_some_iff.1 h.hc).1).trans h.hc
  h0 := fun a d => Kd.R_below (h.h0 a d) k
  h2 := fun a => Kd.R_below (h.h2 a) k
  h3 := fun a => by obtain ⟨m, e, hm, hb⟩ := h.h3 a; exact ⟨m, e, hm.below k, hb⟩
  h5 := fun a => Kd.R_below (h.h5 a) k
  h7 := fun a => by obtain ⟨T, e, hm, hb⟩ := h.h7 a; exact ⟨T, e, (k.block T (Array.getElem?_eq_some_iff.1 hm).1).trans hm, hb⟩
theorem BF.alloc (h : BF kd eT tT w0 c b w v22 v24 v25 v27 v29 vals) (o : Obj) : BF kd eT tT w0 c b (w.alloc o) v22 v24 v25 v27 v29 vals := h.to (below_alloc (Below.refl _ _) o)
/-- Number i is listed, and it is none of which anything is said. -/
theorem BF.up_ (h : BF kd eT tT w0 c b w v22 v24 v25 v27 v29 vals) (i : Nat) (h0 : i ≠ 0) (h2 : i ≠ 2) (h3 : i ≠ 3) (h5 : i ≠ 5) (h7 : i ≠ 7) : BF kd eT tT w0 c (up b i) w v22 v24 v25 v27 v29 vals where
  below := h.below
  hc := h.hc
  h0 := fun a d => h.h0 (by rw [up_ne (Ne.symm h0)] at a; exact a) (by rw [up_ne (Ne.symm h2)] at d; exact d)
  h2 := fun a => h.h2 (by rw [up_ne (Ne.symm h2)] at a; exact a)
  h3 := fun a => h.h3 (by rw [up_ne (Ne.symm h3)] at a; exact a)
  h5 := fun a => h.h5 (by rw [up_ne (Ne.symm h5)] at a; exact a)
  h7 := fun a => h.h7 (by rw [up_ne (Ne.symm h7)] at a; exact a)
theorem BF.up0 (h : BF kd eT tT w0 c b w v22 v24 v25 v27 v29 vals) {v : Value} (hv : Own kd eT w w0.heap.size v []) : BF kd eT tT w0 c (up b 0) w v v24 v25 v27 v29 vals where
  below := h.below
  hc := h.hc
  h0 := fun _ _ => hv
  h2 := fun a => h.h2 (by rw [up_ne (by decide)] at a; exact a)
  h3 := fun a => h.h3 (by rw [up_ne (by decide)] at a; exact a)
  h5 := fun a => h.h5 (by rw [up_ne (by decide)] at a; exact a)
  h7 := fun a => h.h7 (by rw [up_ne (by decide)] at a; exact a)
theorem BF.up3 (h : BF kd eT tT w0 c b w v22 v24 v25 v27 v29 vals) {m : Nat} (hm : FMap w m 0 (fun _ => none)) (hb : w0.heap.size ≤ m) (h7 : b 7 = false) : BF kd eT tT w0 c (up b 3) w v22 v24 (.map (some m)) v27 v29 vals where
  below := h.below
  hc := h.hc
  h0 := fun a d => h.h0 (by rw [up_ne (by decide)] at a; exact a) (by rw [up_ne (by decide)] at d; exact d)
  h2 := fun a => h.h2 (by rw [up_ne (by decide)] at a; exact a)
  h3 := fun _ => ⟨m, rfl, hm, hb⟩
  h5 := fun a => h.h5 (by rw [up_ne (by decide)] at a; exact a)
  h7 := fun a => by rw [up_ne (by decide), h7] at a; cases a
theorem BF.up5 (h : BF kd eT tT w0 c b w v22 v24 v25 v27 v29 vals) {v : Value} (hv : Own kC 36 w w0.heap.size v [part256 (-1) 256]) (h7 : b 7 = false) : BF kd eT tT w0 c (up b 5) w v22 v24 v25 v v29 vals where
  below := h.below
  hc := h.hc
  h0 := fun a d => h.h0 (by rw [up_ne (by decide)] at a; exact a) (by rw [up_ne (by decide)] at d; exact d)
  h2 := fun a => h.h2 (by rw [up_ne (by decide)] at a; exact a)
  h3 := fun a => h.h3 (by rw [up_ne (by decide)] at a; exact a)
  h5 := fun _ => hv
  h7 := fun a => by rw [up_ne (by decide), h7] at a; cases a
theorem BF.up7 (h : BF kd eT tT w0 c b w v22 v24 v25 v27 v29 vals) {T : Nat} (hT : w.heap[T]? = some (.cells #[v24, v25, v27] tT (0, 0))) (hb : w0.heap.size ≤ T) : BF kd eT tT w0 c (up b 7) w v22 v24 v25 v27 (.pointer (some ⟨T, 0, none⟩)) vals where
  below := h.below
  hc := h.hc
  h0 := fun a d => h.h0 (by rw [up_ne (by decide)] at a; exact a) (by rw [up_ne (by decide)] at d; exact d)
  h2 := fun a => h.h2 (by rw [up_ne (by decide)] at a; exact a)
  h3 := fun a => h.h3 (by rw [up_ne (by decide)] at a; exact a)
  h5 := fun a => h.h5 (by rw [up_ne (by decide)] at a; exact a)
  h7 := fun _ => ⟨T, rfl, hT, hb⟩
/-- The values have been appended. -/
theorem BF.up2 (h : BF kd eT tT w0 c b w v22 v24 v25 v27 v29 vals) {u : Value} {xs : List α} (hu : Own kd eT w w0.heap.size u xs) (ht : ∀ q ∈ (36 : Nat) :: [], q ≠ eT) {v : Value} (hg : w.grownBy w1 u.ownBlock) (hv : Own kd eT w1 w0.heap.size v vals) (k : Below w0.heap.size w0 w1) (h7 : b 7 = false) : BF kd eT tT w0 c (up b 2) w1 v22 v v25 v27 v29 vals where
  below := k
  hc := by
    refine (hg.block c (Array.getElem?_eq_some_iff.1 h.hc).1 (fun e => ?_)).trans h.hc
    obtain ⟨cs, hcs⟩ := Kd.R_typed hu c e.symm
    have := h.hc
    rw [hcs] at this
    cases this
    exact ht _ (List.mem_cons_self ..) rfl
  h0 := fun _ d => by rw [up_self] at d; cases d
  h2 := fun _ => hv
  h3 := fun a => by
    obtain ⟨m, e1, hm, hb⟩ := h.h3 (by rw [up_ne (by decide)] at a; exact a)
    refine ⟨m, e1, hm.grown hg (fun e => ?_), hb⟩
    obtain ⟨cs, hcs⟩ := Kd.R_typed hu m e.symm
    exact hm.not_cells hcs rfl
  h5 := fun a => Kd.R_over (h.h5 (by rw [up_ne (by decide)] at a; exact a)) hu ht hg
  h7 := fun a => by rw [up_ne (by decide), h7] at a; cases a
/-- A literal of one block of cells. -/
theorem own_litC {w : World} {base : Nat} (hb : base ≤ w.heap.size) {x : List Int} (hx : x.length = 256) : Own kC 36 (w.alloc (.cells (nums .i32 x).toArray 36)) base (.slice (some ⟨w.heap.size, 0, none⟩) 1 1) [x] := by
  have hM : kC.M w base (fun _ => True) x (nums .i32 x) := kC_mkM _ _ _ hx
  refine ⟨fun _ _ => trivial, nums .i32 x, ?_, ?_⟩
  · refine ⟨by show (nums .i32 x).length = 1 * 256; rw [nums_length, hx], .inr ⟨w.heap.size, 1, (nums .i32 x).toArray, rfl, hb, heap_alloc_new w _, Nat.le_refl _, by decide, by show _ = 1 * 256; rw [List.size_toArray, nums_length, hx], ?_⟩⟩
    show (nums .i32 x).take (1 * 256) = nums .i32 x
    exact List.take_of_length_le (by rw [nums_length, hx]; exact Nat.le_refl 256)
  · refine ⟨by show (nums .i32 x).length = 1 * 256; rw [nums_length, hx], fun m p hm => ?_⟩
    match m, hm with
    | 0, hm =>
      cases hm
      have : ((nums .i32 x).drop (0 * kC.sz)).take kC.sz = nums .i32 x := by
        rw [Nat.zero_mul, List.drop_zero, List.take_of_length_le (by rw [nums_length, hx]; exact Nat.le_refl 256)]
      rw [this]
      exact kC_mkM _ _ _ hx
end

end Go.Proofs.Ytpgnfccamcefgab
