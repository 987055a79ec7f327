/- The trie in the making: what each write leaves. -/
import Derived.Test.YtpgnfccamcefgaaTrBase
namespace Go.Proofs.Ytpgnfccamcefgaa
set_option linter.unusedVariables false
set_option linter.unusedSimpArgs false
open Go.RowKit Go.Proofs.YtpgnfccamcefgaaW.PrintWords

/-- A row of one's own stays while a block of another kind is written. -/
theorem own_other_blk {α : Type} {d : Kd α} {e : Nat} {w w1 : World} {base : Nat} {v : Value} {xs : List α} (h : Own d e w base v xs) {g : Nat} (hg : w.grownBy w1 (some g)) (hne : ∀ q ∈ e :: d.E, ∀ cs, w.heap[g]? ≠ some (.cells cs q (0, 0))) : Own d e w1 base v xs := by
  refine Kd.R_mono (Kd.R_move (Kd.R_bound h) fun k hk => ?_) (fun _ _ => trivial)
  obtain ⟨_, _, hlt, q, hq, cs, hcs⟩ := hk
  exact hg.block k hlt (fun e1 => by cases e1; exact hne q hq cs hcs)
theorem grown_setCell (w : World) (g j : Nat) (v : Value) : w.grownBy (w.setCell ⟨g, j, none⟩ v) (some g) :=
  ⟨rfl, rfl, rfl, by simp [World.setCell], fun i _ hi => heap_setCell_other w ⟨g, j, none⟩ i v (fun e => hi (by rw [e]))⟩
theorem below_grown1 {base : Nat} {w0 w w1 : World} (h : Below base w0 w) {g : Nat} (hg : w.grownBy w1 (some g)) (hs : base ≤ w.heap.size) (hb : base ≤ g) : Below base w0 w1 := h.grown hg hs (fun k e => by cases e; exact hb)

theorem seg_at (l : List Value) (j : Nat) (v : Value) (hj : j < l.length) (i : Nat) : (l.take j ++ [v] ++ l.drop (j + 1))[i]? = if i = j then some v else l[i]? := by
  rcases Nat.lt_trichotomy i j with h | h | h
  · rw [if_neg (by omega), List.append_assoc, List.getElem?_append_left (by rw [List.length_take]; omega), List.getElem?_take, if_pos h]
  · subst h
    rw [if_pos rfl, List.append_assoc, List.getElem?_append_right (by rw [List.length_take]; omega)]
    rw [List.length_take, Nat.min_eq_left (by omega), Nat.sub_self]
    rfl
  · rw [if_neg (by omega), List.getElem?_append_right (by rw [List.length_append, List.length_take]; simp; omega), List.getElem?_drop]
    congr 1
    rw [List.length_append, List.length_take]
    simp
    omega
theorem keys_upd {F : Int → Option Int} {b k : Int} (h : ∀ x, F x ≠ none → 0 ≤ x ∧ x ≤ 4351) (hb : 0 ≤ b ∧ b ≤ 4351) : ∀ x, upd F b k x ≠ none → 0 ≤ x ∧ x ≤ 4351 := fun x hx => by
  by_cases e : x = b
  · subst e; exact hb
  · rw [upd_other _ _ e] at hx; exact h x hx
/-- Blocks of cells of other kinds stay. -/
def KeepT (tT : TypeId) (wk w : World) : Prop := ∀ (k : Nat) (cs : Array Value) (q : TypeId), wk.heap[k]? = some (.cells cs q (0, 0)) → q ≠ tT → q ≠ 88 → w.heap[k]? = some (.cells cs q (0, 0))
theorem KeepT.refl (tT : TypeId) (w : World) : KeepT tT w w := fun _ _ _ h _ _ => h
theorem KeepT.grown {tT : TypeId} {wk w w1 : World} {row : Option Nat} (h : KeepT tT wk w) (hg : w.grownBy w1 row) (hr : ∀ g, row = some g → ∀ cs q, w.heap[g]? = some (.cells cs q (0, 0)) → q = tT ∨ q = 88) : KeepT tT wk w1 := fun k cs q hk h1 h2 => by
  have h3 := h k cs q hk h1 h2
  refine (hg.block k (Array.getElem?_eq_some_iff.1 h3).1 (fun e => ?_)).trans h3
  rcases hr k e.symm cs q h3 with h | h
  · exact h1 h
  · exact h2 h
/-- The trie in the making: T its block, m its map, bl its blocks, h the map of whole blocks, V the values. -/
structure FS {α : Type} (kd : Kd α) (eT tT : TypeId) (wk w0 : World) (base : Nat) (w : World) (T m hb : Nat) (V bl : Value) (vals : List α) (nf nh : Nat) (F H : Int → Option Int) (B : List (List Int)) : Prop where
  hT : w.heap[T]? = some (.cells #[V, .map (some m), bl] tT (0, 0))
  hF : FMap w m nf F
  hH : HMap w hb nh H
  hB : Own kC 88 w base bl B
  hV : Own kd eT w base V vals
  bT : base ≤ T
  bm : base ≤ m
  bh : base ≤ hb
  ne : m ≠ hb
  below : Below base w0 w
  size : base ≤ w.heap.size
  keep : KeepT tT wk w
  keys : ∀ b, F b ≠ none → 0 ≤ b ∧ b ≤ 4351

section
variable {α : Type} {kd : Kd α} {eT tT : TypeId} {wk w0 w w1 : World} {base T m hb : Nat} {V bl : Value} {vals : List α} {nf nh : Nat} {F H : Int → Option Int} {B : List (List Int)}
theorem FS.to (h : FS kd eT tT wk w0 base w T m hb V bl vals nf nh F H B) (k : Below w.heap.size w w1) : FS kd eT tT wk w0 base w1 T m hb V bl vals nf nh F H B :=
  ⟨(k.block T (Array.getElem?_eq_some_iff.1 h.hT).1).trans h.hT, h.hF.below k, h.hH.below k, Kd.R_below h.hB k, Kd.R_below h.hV k, h.bT, h.bm, h.bh, h.ne, below_then h.below h.size k, Nat.le_trans h.size k.size, h.keep.grown (grown_of_below k none) (fun g e => by cases e), h.keys⟩
theorem FS.alloc (h : FS kd eT tT wk w0 base w T m hb V bl vals nf nh F H B) (o : Obj) : FS kd eT tT wk w0 base (w.alloc o) T m hb V bl vals nf nh F H B := h.to (below_alloc (Below.refl _ _) o)
theorem FS.drewN (h : FS kd eT tT wk w0 base w T m hb V bl vals nf nh F H B) (q : Nat) : FS kd eT tT wk w0 base (w.drewN q) T m hb V bl vals nf nh F H B := h.to (pw_below_drewN (Below.refl _ _) q)
theorem FS.mNT (h : FS kd eT tT wk w0 base w T m hb V bl vals nf nh F H B) : m ≠ T := h.hF.not_cells h.hT
theorem FS.hNT (h : FS kd eT tT wk w0 base w T m hb V bl vals nf nh F H B) : hb ≠ T := h.hH.not_cells h.hT
theorem FS.rekey {wk' : World} (h : FS kd eT tT wk w0 base w T m hb V bl vals nf nh F H B) (k : KeepT tT wk' w) : FS kd eT tT wk' w0 base w T m hb V bl vals nf nh F H B := ⟨h.hT, h.hF, h.hH, h.hB, h.hV, h.bT, h.bm, h.bh, h.ne, h.below, h.size, k, h.keys⟩
theorem map_not {t k e : TypeId} {P : Program} {qk qe : IntKind} {b n : Nat} {F : Int → Option Int} (h : MapF P k e qk qe w b n F) (l : List TypeId) : ∀ q ∈ l, ∀ cs, w.heap[b]? ≠ some (.cells cs q (0, 0)) := fun q _ cs e => h.not_cells e rfl
/-- The map of whole blocks has been written. -/
theorem FS.putH (h : FS kd eT tT wk w0 base w T m hb V bl vals nf nh F H B) {H' : Int → Option Int} (hg : w.grownBy w1 (some hb)) (hH : HMap w1 hb (nh + 1) H') : FS kd eT tT wk w0 base w1 T m hb V bl vals nf (nh + 1) F H' B :=
  ⟨(hg.block T (Array.getElem?_eq_some_iff.1 h.hT).1 (fun e => h.hNT (by cases e; rfl))).trans h.hT, h.hF.grown hg (fun e => h.ne (by cases e; rfl)), hH, own_other_blk h.hB hg (map_not (t := 0) h.hH _), own_other_blk h.hV hg (map_not (t := 0) h.hH _), h.bT, h.bm, h.bh, h.ne, below_grown1 h.below hg h.size h.bh, Nat.le_trans h.size hg.size, h.keep.grown hg (fun g e cs q hq => by cases e; exact (h.hH.not_cells hq rfl).elim), h.keys⟩
/-- The trie's map has been written. -/
theorem FS.putF (h : FS kd eT tT wk w0 base w T m hb V bl vals nf nh F H B) {b k : Int} (hg : w.grownBy w1 (some m)) (hF : FMap w1 m (nf + 1) (upd F b k)) (hb0 : 0 ≤ b ∧ b ≤ 4351) : FS kd eT tT wk w0 base w1 T m hb V bl vals (nf + 1) nh (upd F b k) H B :=
  ⟨(hg.block T (Array.getElem?_eq_some_iff.1 h.hT).1 (fun e => h.mNT (by cases e; rfl))).trans h.hT, hF, h.hH.grown hg (fun e => h.ne (by cases e; rfl)), own_other_blk h.hB hg (map_not (t := 0) h.hF _), own_other_blk h.hV hg (map_not (t := 0) h.hF _), h.bT, h.bm, h.bh, h.ne, below_grown1 h.below hg h.size h.bm, Nat.le_trans h.size hg.size, h.keep.grown hg (fun g e cs q hq => by cases e; exact (h.hF.not_cells hq rfl).elim), keys_upd h.keys hb0⟩
/-- A block has been appended, and the new blocks are the trie's. -/
theorem FS.putB (h : FS kd eT tT wk w0 base w T m hb V bl vals nf nh F H B) (ht : tT ≠ 88) (hte : ∀ q ∈ eT :: kd.E, q ≠ tT ∧ q ≠ 88) {bl' : Value} {B' : List (List Int)} (hg : w.grownBy w1 bl.ownBlock) (hB : Own kC 88 w1 base bl' B') (k : Below base w0 w1) :
    FS kd eT tT wk w0 base (w1.setCell ⟨T, 2, none⟩ bl') T m hb V bl' vals nf nh F H B' := by
  have hne : ∀ g cs q, w.heap[g]? = some (.cells cs q (0, 0)) → q ≠ 88 → some g ≠ bl.ownBlock := fun g cs q hg hq e => by
    obtain ⟨cs', hcs⟩ := Kd.R_typed h.hB g e.symm
    rw [hcs] at hg
    cases hg
    exact hq rfl
  have hmap : ∀ g es cl, w.heap[g]? = some (.map es cl) → some g ≠ bl.ownBlock := fun g es cl hg e => by
    obtain ⟨cs', hcs⟩ := Kd.R_typed h.hB g e.symm
    rw [hcs] at hg
    cases hg
  have h1 : w1.heap[T]? = some (.cells #[V, .map (some m), bl] tT (0, 0)) := (hg.block T (Array.getElem?_eq_some_iff.1 h.hT).1 (hne T _ tT h.hT ht)).trans h.hT
  have hF1 : FMap w1 m nf F := by
    have hF := h.hF
    obtain ⟨D, ⟨es, cl, hx, _⟩, _⟩ := hF
    exact h.hF.grown hg (hmap _ _ _ hx)
  have hH1 : HMap w1 hb nh H := by
    have hF := h.hH
    obtain ⟨D, ⟨es, cl, hx, _⟩, _⟩ := hF
    exact h.hH.grown hg (hmap _ _ _ hx)
  have hV1 : Own kd eT w1 base V vals := Kd.R_over h.hV h.hB (fun q hq => (hte q hq).2) hg
  have hg2 := grown_setCell w1 T 2 bl'
  have hT2 : ∀ (l : List Nat), (∀ q ∈ l, q ≠ tT) → ∀ q ∈ l, ∀ cs, w1.heap[T]? ≠ some (.cells cs q (0, 0)) := fun l hl q hq cs e => by
    rw [h1] at e
    cases e
    exact hl tT hq rfl
  refine ⟨?_, hF1.grown hg2 (fun e => h.mNT (by cases e; rfl)), hH1.grown hg2 (fun e => h.hNT (by cases e; rfl)), own_other_blk hB hg2 (hT2 _ (fun q hq => ?_)), own_other_blk hV1 hg2 (hT2 _ (fun q hq => (hte q hq).1)), h.bT, h.bm, h.bh, h.ne, below_grown1 k hg2 (Nat.le_trans h.size hg.size) h.bT, Nat.le_trans (Nat.le_trans h.size hg.size) hg2.size, (h.keep.grown hg (fun g e cs q hq => ?_)).grown hg2 (fun g e cs q hq => ?_), h.keys⟩
  · rw [heap_setCell_same w1 T 2 _ _ bl' h1]
    rfl
  · rcases List.mem_cons.1 hq with rfl | hq
    · exact ht.symm
    · cases hq
  · obtain ⟨cs', hcs⟩ := Kd.R_typed h.hB g e
    rw [hcs] at hq
    cases hq
    exact .inr rfl
  · cases e
    rw [h1] at hq
    cases hq
    exact .inl rfl
/-- A cell of a block is written. -/
theorem FS.putC (h : FS kd eT tT wk w0 base w T m hb V bl vals nf nh F H B) (ht : tT ≠ 88) (hte : ∀ q ∈ eT :: kd.E, q ≠ tT ∧ q ≠ 88) {g n cap : Nat} (hbl : bl = .slice (some ⟨g, 0, none⟩) n cap) (k j : Nat) (hk : k < B.length) (hj : j < 256) (v : Int) :
    FS kd eT tT wk w0 base (w.setCell ⟨g, k * 256 + j, none⟩ (.int .i32 v)) T m hb V bl vals nf nh F H (B.set k ((B.getD k []).set j v)) := by
  subst hbl
  have hn := (Kd.R_reads' h.hB).1
  obtain ⟨c, hcl, hM, hcc, hf⟩ := Kd.R_elem h.hB [] (k : Int) (by omega) (by omega)
  obtain ⟨hl, rfl⟩ := kC_open (kC.K_of_M hM)
  have hs : kC.sz = 256 := rfl
  simp only [Int.toNat_natCast] at hl hcc hM hcl
  obtain ⟨x, hx⟩ : ∃ x, B.getD k [] = x := ⟨_, rfl⟩
  rw [hx] at hl hcc hM hcl ⊢
  have hsplit : (nums .i32 x).take j ++ [.int .i32 v] ++ (nums .i32 x).drop (j + 1) = nums .i32 (x.set j v) := by
    refine List.ext_getElem? fun i => ?_
    have hnl : (nums .i32 x).length = x.length := nums_length _ _
    rw [seg_at _ _ _ (by omega) _]
    simp only [nums, List.getElem?_map, List.getElem?_set]
    by_cases e : i = j
    · subst e
      have : i < x.length := by omega
      simp [this]
    · rw [if_neg e, if_neg (Ne.symm e)]
  have h2 := Kd.R_seg (seg := [.int .i32 v]) (j := j) h.hB (k : Int) (by omega) (by omega) (x' := x.set j v) hcl (by simpa using hcc) (by show j + 1 ≤ 256; omega) (okp := fun _ => False) (by
    show kC.M _ _ _ _ ((nums .i32 x).take j ++ [.int .i32 v] ++ (nums .i32 x).drop (j + 1))
    rw [hsplit]
    exact kC_mkM _ _ _ (by rw [List.length_set]; exact hl)) (fun _ hh => hh.elim)
  simp only [hs, Int.toNat_natCast] at h2
  obtain ⟨h3, h4⟩ := h2
  have hgrow : w.grownBy (w.setCell ⟨g, k * 256 + j, none⟩ (.int .i32 v)) (some g) := h4
  obtain ⟨cs0, hcs0⟩ := Kd.R_typed h.hB g rfl
  have hTg : some T ≠ some g := fun e => by
    cases e
    have := h.hT
    rw [hcs0] at this
    cases this
    exact ht rfl
  refine ⟨(h4.block T (Array.getElem?_eq_some_iff.1 h.hT).1 hTg).trans h.hT, h.hF.grown h4 (fun e => h.hF.not_cells hcs0 (by cases e; rfl)), h.hH.grown h4 (fun e => h.hH.not_cells hcs0 (by cases e; rfl)), h3, Kd.R_over h.hV h.hB (fun q hq => (hte q hq).2) h4, h.bT, h.bm, h.bh, h.ne, below_grown1 h.below h4 h.size ?_, Nat.le_trans h.size h4.size, h.keep.grown h4 (fun g' e cs q hq => ?_), h.keys⟩
  · exact Kd.R_base h.hB g rfl
  · cases e
    rw [hcs0] at hq
    cases hq
    exact .inr rfl
end

section
variable {P : Program} {w : World}
theorem run_load_part (ty : TypeId) (a : Addr) (cs : List Value) {d : TypeDesc} (hu : P.underlying ty = some d) (hd : (match d with | .struct _ | .array _ _ => true | _ => false) = true) (hi : (P.info? ty).map (·.size) = some cs.length)
    (hc : ∀ j v, cs[j]? = some v → w.cell? (a.add j) = some v) : (loadVar ty a).run P w = .ok (.agg cs.toArray) w := by
  have hl : (loadCells a cs.length).run P w = .ok cs.toArray w := run_loadCells_list (P := P) w a cs hc
  cases hq : P.info? ty with
  | none => simp [hq] at hi
  | some i =>
    have hs : i.size = cs.length := by simpa [hq] using hi
    have hagg : (isAgg ty).run P w = .ok true w := by
      unfold isAgg
      rw [Sem.run_bind, run_underlying hu w]
      cases d <;> simp_all
    simp [loadVar, Sem.run_bind, hagg, sizeOf, typeInfo, hq, hs, hl]
theorem exec_load {ev : Operand → Value} {o : Oper} {ty : TypeId} {x : Operand} {a : Addr} {v : Value} (ho : o.op = .load ty x) (hx : ev x = .pointer (some a)) (hl : (loadVar ty a).run P w = .ok v w) : (execOp ev o).run P w = .ok (.value v) w := by
  unfold execOp
  simp only [ho, hx, Instr.loadAt, Instr.sureAddr, Sem.run_bind, Sem.run_pure, Result.andThen_ok, hl]
end
theorem Try.sizeC : (Try.prog.info? 88).map (·.size) = some 256 := by kernel_rfl
/-- A block of cells, read whole. -/
theorem load_C {w : World} {a : Addr} {x : List Int} (hx : x.length = 256) (hc : ∀ j u, (nums .i32 x)[j]? = some u → w.cell? (a.add j) = some u) : (loadVar 88 a).run Try.prog w = .ok (.agg (nums .i32 x).toArray) w :=
  run_load_part _ a _ Try.underlying88 rfl (by rw [Try.sizeC, nums_length, hx]) hc


section
variable {P : Program} {w : World}
theorem fill_fold : ∀ (l : List Value) (n : Nat) (cs : Array Value) (i : Nat), n + l.length ≤ cs.size → ((l.zipIdx n).foldl (fun cs (p : Value × Nat) => cs.setIfInBounds (0 + p.2) p.1) cs)[i]? = if n ≤ i ∧ i < n + l.length then l[i - n]? else cs[i]?
  | [], n, cs, i, _ => by simp; omega
  | x :: r, n, cs, i, h => by
    rw [List.zipIdx_cons, List.foldl_cons, fill_fold r (n + 1) _ i (by simp at h ⊢; omega)]
    simp only [List.length_cons] at h ⊢
    by_cases h1 : n = i
    · subst h1
      rw [if_neg (by omega), if_pos (by omega), Nat.sub_self]
      have : n < cs.size := by omega
      simp [this]
    · by_cases h2 : n ≤ i ∧ i < n + (r.length + 1)
      · rw [if_pos (by omega), if_pos h2]
        obtain ⟨j, hj⟩ : ∃ j, i - n = j + 1 := ⟨i - n - 1, by omega⟩
        rw [hj, show i - (n + 1) = j by omega]
        rfl
      · rw [if_neg (by omega), if_neg h2]
        simp [Array.getElem?_setIfInBounds, h1]
/-- A slice literal of one element that is a row of cells. -/
theorem run_buildSlice1 (t e : TypeId) (cs : Array Value) {i : TypeInfo} {z : Value} (ht : P.underlying t = some (.slice e)) (hi : P.info? e = some i) (hz : i.zero = some z) (hs : i.size = cs.size) (h0 : 0 < cs.size) (hm : cs.size ≤ 16777216) :
    (Instr.buildSlice t 1 #[(0, .agg cs)]).run P w = .ok (.slice (some ⟨w.heap.size, 0, none⟩) 1 1) (w.alloc (.cells cs e)) := by
  have hfill : Instr.fill (fun i => some (i * cs.size, cs.size)) ((Array.range cs.size).map (z.cells[· % z.cells.size]!)) [(0, .agg cs)] = some cs := by
    unfold Instr.fill
    have hc : (Value.agg cs).cells = cs := rfl
    simp only [hc, Nat.zero_mul]
    rw [if_neg (by simp)]
    unfold Instr.fill
    congr 1
    apply Array.ext_getElem?
    intro j
    have h1 := fill_fold cs.toList 0 ((Array.range cs.size).map (z.cells[· % z.cells.size]!)) j (by simp)
    have e1 : cs.zipIdx.foldl (fun cs (x : Value × Nat) => cs.setIfInBounds (0 + x.2) x.1) ((Array.range cs.size).map (z.cells[· % z.cells.size]!)) = (cs.toList.zipIdx 0).foldl (fun cs (p : Value × Nat) => cs.setIfInBounds (0 + p.2) p.1) ((Array.range cs.size).map (z.cells[· % z.cells.size]!)) := by
      rw [← Array.foldl_toList]
      simp
    rw [e1, h1]
    by_cases hj : j < cs.size
    · simp [hj]
    · simp [hj]
  have h3 : ¬ (1 * cs.size > 2 ^ 24) := by omega
  have h4 : ¬ (1 * cs.size = 0) := by omega
  rw [Nat.one_mul] at h3 h4
  have hu := run_underlying ht w
  simp [Instr.buildSlice, Sem.run_bind, hu, sizeOf, zeroValue, typeInfo, hi, hz, hs, h3, h4, hfill, newRow]
theorem exec_build1 {ev : Operand → Value} {o : Oper} {t e : TypeId} {x : Operand} {cs : Array Value} {i : TypeInfo} {z : Value} (ho : o.op = .buildSlice t 1 #[(0, x)]) (hx : ev x = .agg cs) (ht : P.underlying t = some (.slice e)) (hi : P.info? e = some i) (hz : i.zero = some z) (hs : i.size = cs.size) (h0 : 0 < cs.size) (hm : cs.size ≤ 16777216) :
    (execOp ev o).run P w = .ok (.value (.slice (some ⟨w.heap.size, 0, none⟩) 1 1)) (w.alloc (.cells cs e)) := by
  unfold execOp
  have h := run_buildSlice1 (w := w) t e cs ht hi hz hs h0 hm
  simp only [ho, List.map_toArray, List.map_cons, List.map_nil, hx, Sem.run_bind, h, Result.andThen_ok, Sem.run_pure]
end
theorem build_C {ev : Operand → Value} {o : Oper} {x : Operand} {w : World} {l : List Int} (ho : o.op = .buildSlice 69 1 #[(0, x)]) (hx : ev x = .agg (nums .i32 l).toArray) (hl : l.length = 256) :
    (execOp ev o).run Try.prog w = .ok (.value (.slice (some ⟨w.heap.size, 0, none⟩) 1 1)) (w.alloc (.cells (nums .i32 l).toArray 88)) := by
  obtain ⟨i, hi, hz, hs, _⟩ := info_parts Try.infoC
  have hn : (nums .i32 l).toArray.size = 256 := by rw [List.size_toArray, nums_length, hl]
  exact exec_build1 ho hx Try.underlying69 hi hz (by rw [hn]; exact hs) (by omega) (by omega)


end Go.Proofs.Ytpgnfccamcefgaa
