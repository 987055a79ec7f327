/- Merged: TrPure, MapF, TrBase, TrFS, TrV, TrE, TrG. -/
import Derived.Test.YtpgnfccamcefgabZero
import Derived.Test.YtpgnfccamcefgabBase
import Derived.Maps.RangeWalk
import Derived.Maps.OwnOps
import Derived.Test.YtpgnfccamcefgabWArr
import Derived.Test.YtpgnfccamcefgabWLast
import Derived.Test.YtpgnfccamcefgabWMore
import Derived.Test.YtpgnfccamcefgabProg
import Derived.Deep.RegionLaw
import Derived.Deep.DeepCutAuto
import Derived.WalkSpells
import Derived.WalkLawsBesides
/- The trie as plain functions: which block, whole blocks, blocks; what a fill does to a code point's cell. Pure: no program. -/
namespace Go.Proofs.Ytpgnfccamcefgab
set_option linter.unusedVariables false
set_option linter.unusedSimpArgs false

theorem rep_at {n j : Nat} (v : Int) (h : j < n) : (List.replicate n v).getD j 0 = v := by simp [h]
theorem len1 {α : Type} (c : α) : ([c] : List α).length = 1 := rfl

def upd (F : Int → Option Int) (b : Int) (k : Int) : Int → Option Int := fun x => if x = b then some k else F x
theorem upd_same (F : Int → Option Int) (b k : Int) : upd F b k b = some k := by simp [upd]
theorem upd_other (F : Int → Option Int) {b x : Int} (k : Int) (h : x ≠ b) : upd F b k x = F x := by simp [upd, h]

/-- The cell of a code point. -/
def cellOf (F : Int → Option Int) (B : List (List Int)) (r : Int) : Int := (B.getD ((F (r / 256)).getD 0).toNat []).getD (r % 256).toNat 0

structure TInv (F H : Int → Option Int) (B : List (List Int)) : Prop where
  len : ∀ c ∈ B, c.length = 256
  zero : 0 < B.length ∧ H (-1) = some 0
  firstIn : ∀ b k, F b = some k → 0 ≤ k ∧ k.toNat < B.length
  wholeIn : ∀ v k, H v = some k → 0 ≤ k ∧ k.toNat < B.length ∧ ∀ j, j < 256 → (B.getD k.toNat []).getD j 0 = v
  alone : ∀ b b' k, F b = some k → F b' = some k → b ≠ b' → ∃ v, H v = some k

/-- The block of a place: which it is. -/
def blkOf (F : Int → Option Int) (b : Int) : Int := (F b).getD 0
theorem TInv.blk_in {F H : Int → Option Int} {B : List (List Int)} (h : TInv F H B) (b : Int) : 0 ≤ blkOf F b ∧ (blkOf F b).toNat < B.length := by
  unfold blkOf
  cases e : F b with
  | none => exact ⟨Int.le_refl _, h.zero.1⟩
  | some k => exact h.firstIn b k e
theorem TInv.start : TInv (fun _ => none) (upd (fun _ => none) (-1) 0) [List.replicate 256 (-1)] where
  len := fun c hc => by rw [List.mem_singleton.1 hc]; exact List.length_replicate
  zero := ⟨Nat.one_pos, upd_same _ _ _⟩
  firstIn := fun b k h => by cases h
  wholeIn := fun v k h => by
    unfold upd at h
    split at h
    · cases h
      subst v
      exact ⟨Int.le_refl _, Nat.one_pos, fun j hj => rep_at _ hj⟩
    · cases h
  alone := fun b b' k h => by cases h
theorem cell_start (r : Int) : cellOf (fun _ => none) [List.replicate 256 (-1)] r = -1 := by
  have : (r % 256).toNat < 256 := by omega
  exact rep_at _ this

/-- A block is shared just if it is told as whole. -/
theorem TInv.shared {F H : Int → Option Int} {B : List (List Int)} (h : TInv F H B) {k : Int} (h0 : 0 ≤ k) (hk : k.toNat < B.length) : H ((B.getD k.toNat []).getD 0 0) = some k ↔ ∃ v, H v = some k := by
  constructor
  · exact fun e => ⟨_, e⟩
  · rintro ⟨v, e⟩
    rw [(h.wholeIn v k e).2.2 0 (by omega)]
    exact e

theorem getD_snoc_old {α : Type} {B : List α} {c d : α} {i : Nat} (h : i < B.length) : (B ++ [c]).getD i d = B.getD i d := by simp [List.getElem?_append_left h]
theorem getD_snoc_new {α : Type} {B : List α} {c d : α} : (B ++ [c]).getD B.length d = c := by simp

/-- All of a place has one value, and there is a block of it. -/
theorem TInv.whole_old {F H : Int → Option Int} {B : List (List Int)} (h : TInv F H B) {b v k : Int} (hv : H v = some k) : TInv (upd F b k) H B ∧ ∀ r, cellOf (upd F b k) B r = if r / 256 = b then v else cellOf F B r := by
  obtain ⟨h0, h1, h2⟩ := h.wholeIn v k hv
  refine ⟨⟨h.len, h.zero, fun x y e => ?_, h.wholeIn, fun x x' y e e' hne => ?_⟩, fun r => ?_⟩
  · unfold upd at e
    split at e
    · cases e; exact ⟨h0, h1⟩
    · exact h.firstIn x y e
  · by_cases hx : x = b
    · subst hx
      rw [upd_same] at e
      cases e
      exact ⟨v, hv⟩
    · by_cases hx' : x' = b
      · subst hx'
        rw [upd_same] at e'
        cases e'
        exact ⟨v, hv⟩
      · rw [upd_other _ _ hx] at e
        rw [upd_other _ _ hx'] at e'
        exact h.alone x x' y e e' hne
  · unfold cellOf
    by_cases hr : r / 256 = b
    · rw [if_pos hr, hr, upd_same]
      exact h2 _ (by omega)
    · rw [if_neg hr, upd_other _ _ hr]

theorem cellOf_snoc {F H : Int → Option Int} {B : List (List Int)} (h : TInv F H B) (c : List Int) (r : Int) : cellOf F (B ++ [c]) r = cellOf F B r := by
  have h1 := getD_snoc_old (c := c) (d := []) (h.blk_in (r / 256)).2
  unfold blkOf at h1
  unfold cellOf
  rw [h1]

/-- .. and there is none yet. -/
theorem TInv.whole_new {F H : Int → Option Int} {B : List (List Int)} (h : TInv F H B) {b v : Int} (hv : H v = none) : TInv (upd F b B.length) (upd H v B.length) (B ++ [List.replicate 256 v]) ∧ ∀ r, cellOf (upd F b B.length) (B ++ [List.replicate 256 v]) r = if r / 256 = b then v else cellOf F B r := by
  have hv1 : v ≠ -1 := fun e => by rw [e, h.zero.2] at hv; cases hv
  have hin : TInv F (upd H v B.length) (B ++ [List.replicate 256 v]) := by
    refine ⟨fun c hc => ?_, ⟨by rw [List.length_append, len1]; omega, ?_⟩, fun x y e => ?_, fun x y e => ?_, fun x x' y e e' hne => ?_⟩
    · rcases List.mem_append.1 hc with hc | hc
      · exact h.len c hc
      · rw [List.mem_singleton.1 hc]; exact List.length_replicate
    · rw [upd_other _ _ (Ne.symm hv1)]; exact h.zero.2
    · have := h.firstIn x y e
      exact ⟨this.1, by rw [List.length_append, len1]; omega⟩
    · unfold upd at e
      split at e
      · cases e
        subst x
        refine ⟨by omega, by rw [List.length_append, len1]; omega, fun j hj => ?_⟩
        rw [Int.toNat_natCast, getD_snoc_new]
        exact rep_at _ hj
      · have := h.wholeIn x y e
        refine ⟨this.1, by rw [List.length_append, len1]; omega, fun j hj => ?_⟩
        rw [getD_snoc_old this.2.1]
        exact this.2.2 j hj
    · obtain ⟨u, hu⟩ := h.alone x x' y e e' hne
      refine ⟨u, ?_⟩
      rw [upd_other _ _ (fun e2 => by rw [e2, hv] at hu; cases hu)]
      exact hu
  have h2 := hin.whole_old (b := b) (upd_same H v B.length)
  exact ⟨h2.1, fun r => by rw [h2.2 r, cellOf_snoc h]⟩

/-- A block of its own is written. -/
def paint (old : List Int) (f c : Nat) (v : Int) : List Int := (List.range 256).map fun j => if f ≤ j ∧ j < c then v else old.getD j 0
theorem paint_len (old : List Int) (f c : Nat) (v : Int) : (paint old f c v).length = 256 := by simp [paint]
theorem paint_at (old : List Int) (f c : Nat) (v : Int) {j : Nat} (h : j < 256) : (paint old f c v).getD j 0 = if f ≤ j ∧ j < c then v else old.getD j 0 := by simp [paint, h]
theorem paint_none (old : List Int) (f : Nat) (v : Int) (h : old.length = 256) : paint old f f v = old := by
  refine List.ext_getElem (by simp [paint, h]) fun i h1 h2 => ?_
  have : ¬ (f ≤ i ∧ i < f) := by omega
  simp [paint, this, h2]
theorem paint_step (old : List Int) (f c : Nat) (v : Int) (h : f ≤ c) (hc : c < 256) : (paint old f c v).set c v = paint old f (c + 1) v := by
  refine List.ext_getElem (by simp [paint]) fun i h1 h2 => ?_
  rw [List.getElem_set]
  by_cases e : c = i
  · subst e
    have : f ≤ c ∧ c < c + 1 := ⟨h, by omega⟩
    simp [paint, this]
  · have h3 : (f ≤ i ∧ i < c) ↔ (f ≤ i ∧ i < c + 1) := by omega
    simp [paint, e, h3]

/-- A place's block becomes a copy of its own. -/
theorem TInv.copy {F H : Int → Option Int} {B : List (List Int)} (h : TInv F H B) (b : Int) : TInv (upd F b B.length) H (B ++ [B.getD (blkOf F b).toNat []]) ∧ (∀ r, cellOf (upd F b B.length) (B ++ [B.getD (blkOf F b).toNat []]) r = cellOf F B r) ∧ ∀ v, H v ≠ some (B.length : Int) := by
  have hb := h.blk_in b
  have hcl : (B.getD (blkOf F b).toNat []).length = 256 := h.len _ (by
    have : B.getD (blkOf F b).toNat [] = B[(blkOf F b).toNat]'hb.2 := by simp [hb.2]
    rw [this]; exact List.getElem_mem hb.2)
  have hnone : ∀ v, H v ≠ some (B.length : Int) := fun v e => by have := (h.wholeIn v _ e).2.1; simp at this
  refine ⟨⟨fun c hc => ?_, ⟨by simp, h.zero.2⟩, fun x y e => ?_, fun x y e => ?_, fun x x' y e e' hne => ?_⟩, fun r => ?_, hnone⟩
  · rcases List.mem_append.1 hc with hc | hc
    · exact h.len c hc
    · rw [List.mem_singleton.1 hc]; exact hcl
  · unfold upd at e
    split at e
    · cases e; exact ⟨by omega, by simp⟩
    · have := h.firstIn x y e
      exact ⟨this.1, by rw [List.length_append, len1]; omega⟩
  · have := h.wholeIn x y e
    refine ⟨this.1, by rw [List.length_append, len1]; omega, fun j hj => ?_⟩
    rw [getD_snoc_old this.2.1]
    exact this.2.2 j hj
  · have hold : ∀ x y, x ≠ b → upd F b B.length x = some y → y.toNat < B.length := fun x y hx e => by
      rw [upd_other _ _ hx] at e
      exact (h.firstIn x y e).2
    by_cases hx : x = b
    · subst hx
      rw [upd_same] at e
      cases e
      have := hold x' _ (Ne.symm hne) e'
      simp at this
    · by_cases hx' : x' = b
      · subst hx'
        rw [upd_same] at e'
        cases e'
        have := hold x _ hne e
        simp at this
      · rw [upd_other _ _ hx] at e
        rw [upd_other _ _ hx'] at e'
        exact h.alone x x' y e e' hne
  · unfold cellOf
    by_cases hr : r / 256 = b
    · rw [hr, upd_same]
      show ((B ++ [_]).getD ((B.length : Int)).toNat []).getD _ _ = _
      rw [Int.toNat_natCast, getD_snoc_new]
      rfl
    · have h1 := getD_snoc_old (c := B.getD (blkOf F b).toNat []) (d := []) (h.blk_in (r / 256)).2
      unfold blkOf at h1 ⊢
      rw [upd_other _ _ hr, h1]

/-- A part of a place, whose block is its own, has one value. -/
theorem TInv.part {F H : Int → Option Int} {B : List (List Int)} (h : TInv F H B) {b k v : Int} {f c : Nat} (hF : F b = some k) (hH : ∀ v, H v ≠ some k) (hf : f < 256) (hc : c ≤ 256) :
    TInv F H (B.set k.toNat (paint (B.getD k.toNat []) f c v)) ∧ ∀ r, cellOf F (B.set k.toNat (paint (B.getD k.toNat []) f c v)) r = if r / 256 = b ∧ (f : Int) ≤ r % 256 ∧ r % 256 < c then v else cellOf F B r := by
  obtain ⟨k0, k1⟩ := h.firstIn b k hF
  have hother : ∀ (i : Nat) (d : List Int), i ≠ k.toNat → (B.set k.toNat d).getD i [] = B.getD i [] := fun i d hi => by simp [List.getElem?_set, Ne.symm hi]
  have hsame : ∀ d : List Int, (B.set k.toNat d).getD k.toNat [] = d := fun d => by simp [List.getElem?_set, k1]
  refine ⟨⟨fun c hc => ?_, ⟨by simpa using h.zero.1, h.zero.2⟩, fun x y e => by simpa using h.firstIn x y e, fun x y e => ?_, h.alone⟩, fun r => ?_⟩
  · rcases List.mem_or_eq_of_mem_set hc with hc | rfl
    · exact h.len c hc
    · exact paint_len _ _ _ _
  · have := h.wholeIn x y e
    have hne : y.toNat ≠ k.toNat := fun e2 => by
      have : y = k := by omega
      exact hH x (this ▸ e)
    rw [hother _ _ hne]
    exact ⟨this.1, by simpa using this.2.1, this.2.2⟩
  · unfold cellOf
    by_cases hr : r / 256 = b
    · rw [hr, hF]
      show ((B.set k.toNat _).getD k.toNat []).getD _ _ = _
      rw [hsame, paint_at _ _ _ _ (by omega)]
      have hm : 0 ≤ r % 256 := Int.emod_nonneg _ (by omega)
      by_cases e : (f : Int) ≤ r % 256 ∧ r % 256 < c
      · rw [if_pos (show f ≤ (r % 256).toNat ∧ (r % 256).toNat < c by omega), if_pos ⟨rfl, e⟩]
      · rw [if_neg (show ¬ (f ≤ (r % 256).toNat ∧ (r % 256).toNat < c) by omega), if_neg (fun h => e h.2)]
        rfl
    · have hne : ((F (r / 256)).getD 0).toNat ≠ k.toNat := fun e2 => by
        have hi := h.blk_in (r / 256)
        have e3 : blkOf F (r / 256) = k := by
          have : ((F (r / 256)).getD 0) = k := by unfold blkOf at hi; omega
          exact this
        unfold blkOf at e3
        cases e4 : F (r / 256) with
        | none =>
          rw [e4] at e3
          have : (0 : Int) = k := e3
          exact hH (-1) (this ▸ h.zero.2)
        | some y =>
          rw [e4] at e3
          have : y = k := e3
          subst this
          obtain ⟨u, hu⟩ := h.alone _ _ _ e4 hF hr
          exact hH u hu
      rw [hother _ _ hne]
      have : ¬ (r / 256 = b ∧ (f : Int) ≤ r % 256 ∧ r % 256 < c) := fun e => hr e.1
      rw [if_neg this]

end Go.Proofs.Ytpgnfccamcefgab

/- Maps whose keys and elements are whole numbers, as functions: what the operations on them do. -/
namespace Go.Proofs.Ytpgnfccamcefgab
set_option linter.unusedVariables false
set_option linter.unusedSimpArgs false
open Go.RowKit Go.Maps

/-- The types of a map from whole numbers to whole numbers. -/
structure MTy (P : Program) (t k e : TypeId) (qk qe : IntKind) : Prop where
  ht : P.underlying t = some (.map k e)
  hk : P.underlying k = some (.int qk)
  he : P.underlying e = some (.int qe)
  hz : ∀ w, (zeroValue e).run P w = .ok (.int qe 0) w


/-- D reads as F. -/
structure ReadF (qk qe : IntKind) (D : DataW Unit) (F : Int → Option Int) : Prop where
  isMap : IsMap D
  hit : ∀ x c, F x = some c → Maps.has D (.int qk x) = true ∧ (∀ zd, D.atKey (.int qk x) zd = .lit (.int qe c)) ∧ (Lit.int qk x).wf = true
  miss : ∀ x, F x = none → Maps.has D (.int qk x) = false
theorem ReadF.nil (qk qe : IntKind) : ReadF qk qe (.map []) (fun _ => none) := ⟨isMap_empty, fun x c h => by (cases h), fun x _ => rfl⟩
theorem ReadF.put {qk qe : IntKind} {D : DataW Unit} {F : Int → Option Int} (h : ReadF qk qe D F) {x c : Int} (hx : (Lit.int qk x).wf = true) : ReadF qk qe (D.put (.int qk x) (.lit (.int qe c))) (upd F x c) := by
  refine ⟨h.isMap.put _ _, fun y d hy => ?_, fun y hy => ?_⟩
  · by_cases e : y = x
    · subst e
      rw [upd_same] at hy
      cases hy
      exact ⟨has_put_same h.isMap (show WideAt.IsKeyLit (.int qk y) from trivial) _, fun zd => atKey_put_same h.isMap (show WideAt.IsKeyLit (.int qk y) from trivial) _ _, hx⟩
    · rw [upd_other _ _ e] at hy
      have hne : Lit.int qk y ≠ Lit.int qk x := fun hh => by cases hh; exact e rfl
      obtain ⟨h1, h2, h3⟩ := h.hit y d hy
      exact ⟨by rw [has_put_other hne]; exact h1, fun zd => by rw [atKey_put_other hne]; exact h2 zd, h3⟩
  · by_cases e : y = x
    · subst e
      rw [upd_same] at hy
      cases hy
    · rw [upd_other _ _ e] at hy
      have hne : Lit.int qk y ≠ Lit.int qk x := fun hh => by cases hh; exact e rfl
      rw [has_put_other hne]
      exact h.miss y hy

/-- Block b is a map that reads as F, of at most n entries. -/
def MapF (P : Program) (k e : TypeId) (qk qe : IntKind) (w : World) (b n : Nat) (F : Int → Option Int) : Prop :=
  ∃ D : DataW Unit, w.ownsMap P k (plainElem P e) b n D ∧ ReadF qk qe D F

section
variable {P : Program} {t k e : TypeId} {qk qe : IntKind} {w w1 : World} {b n : Nat} {F : Int → Option Int}
theorem MapF.lt (h : MapF P k e qk qe w b n F) : b < w.heap.size := by obtain ⟨D, h, _⟩ := h; exact h.lt
theorem MapF.mono (h : MapF P k e qk qe w b n F) {m : Nat} (hm : n ≤ m) : MapF P k e qk qe w b m F := by obtain ⟨D, h, h2⟩ := h; exact ⟨D, h.mono hm, h2⟩
theorem MapF.move (h : MapF P k e qk qe w b n F) (hb : w1.heap[b]? = w.heap[b]?) : MapF P k e qk qe w1 b n F := by
  obtain ⟨D, ⟨es, clock, h1, h2, h3, h4⟩, h5⟩ := h
  exact ⟨D, ⟨es, clock, hb.trans h1, h2, h3, h4⟩, h5⟩
theorem MapF.below (h : MapF P k e qk qe w b n F) (hb : Below w.heap.size w w1) : MapF P k e qk qe w1 b n F := h.move (hb.block b h.lt)
theorem MapF.grown (h : MapF P k e qk qe w b n F) {row : Option Nat} (hg : w.grownBy w1 row) (hne : some b ≠ row) : MapF P k e qk qe w1 b n F := h.move (hg.block b h.lt hne)
theorem MapF.alloc (h : MapF P k e qk qe w b n F) (o : Obj) : MapF P k e qk qe (w.alloc o) b n F := h.below ((Below.refl _ _).alloc (Nat.le_refl _) o)
theorem MapF.drewN (h : MapF P k e qk qe w b n F) (m : Nat) : MapF P k e qk qe (w.drewN m) b n F := h.move rfl
theorem MapF.setCell (h : MapF P k e qk qe w b n F) {a : Addr} (ha : b ≠ a.block) (u : Value) : MapF P k e qk qe (w.setCell a u) b n F := h.move (Below.heap_setCell w a u b ha)
theorem MapF.made (P : Program) (k e : TypeId) (qk qe : IntKind) (w : World) : MapF P k e qk qe (w.alloc (.map #[] 0)) w.heap.size 0 (fun _ => none) := ⟨_, World.ownsMap_made _ _ _ _, ReadF.nil _ _⟩
/-- A map's block is no row of cells. -/
theorem MapF.not_cells (h : MapF P k e qk qe w b n F) {g : Nat} {cs : Array Value} {u : TypeId} {fr : Nat × Nat} (hg : w.heap[g]? = some (.cells cs u fr)) : b ≠ g := by
  obtain ⟨D, ⟨es, clock, hb, _⟩, _⟩ := h
  rintro rfl
  rw [hb] at hg
  cases hg

/-- 'm[x]', as an equation. -/
theorem MapF.run_lookup (T : MTy P t k e qk qe) (h : MapF P k e qk qe w b n F) (i : Int) (hw : (Lit.int qk i).wf = true) : (Instr.lookup t (.map (some b)) (.int qk i) false).run P w = .ok (.int qe ((F i).getD 0)) w := by
  obtain ⟨D, h, hF⟩ := h
  obtain ⟨c, hrun, hat, _⟩ := h.lookup_int (int_keyed T.hk) T.ht T.he (T.hz w) (keyOf_int_mk T.hk hw)
  have : (F i).getD 0 = c := by
    cases hFi : F i with
    | none => have h2 := atKey_of_not_has (hF.miss i hFi) (.lit (.int qe 0)); rw [h2] at hat; cases hat; rfl
    | some y => have h2 := (hF.hit i y hFi).2.1 (.lit (.int qe 0)); rw [h2] at hat; cases hat; rfl
  rw [this]
  exact hrun
variable {ops : Array Oper} {rest : List Oper} {o : Oper} {a : Act} {Q : Exit → Act → World → Prop}
/-- 'm[x]'. -/
theorem lookupF (T : MTy P t k e qk qe) (hg : o.guard = none) (m x : Operand) (hop : o.op = Op.lookup t m x false) (hm : a.eval m = .map (some b)) (h : MapF P k e qk qe w b n F) (i : Int) (hx : a.eval x = .int qk i) (hw : (Lit.int qk i).wf = true)
    (hK : wpList P ops Q rest (a.put o.dst (.int qe ((F i).getD 0))) w) : wpList P ops Q (o :: rest) a w := by
  obtain ⟨D, h, hF⟩ := h
  refine wpList_lookup_own_int w hg m x t hop k e qe (int_keyed T.hk) T.ht T.he (T.hz w) b n D hm h _ _ hx (keyOf_int_mk T.hk hw) ?_
  intro c hat _
  have : (F i).getD 0 = c := by
    cases hFi : F i with
    | none => have h2 := atKey_of_not_has (hF.miss i hFi) (.lit (.int qe 0)); rw [h2] at hat; cases hat; rfl
    | some y => have h2 := (hF.hit i y hFi).2.1 (.lit (.int qe 0)); rw [h2] at hat; cases hat; rfl
  rw [← this]
  exact hK
/-- 'v, ok := m[x]'. -/
theorem lookupF_ok (T : MTy P t k e qk qe) (hg : o.guard = none) (m x : Operand) (hop : o.op = Op.lookup t m x true) (hm : a.eval m = .map (some b)) (h : MapF P k e qk qe w b n F) (i : Int) (hx : a.eval x = .int qk i) (hw : (Lit.int qk i).wf = true)
    (hK : wpList P ops Q rest (a.put o.dst (.tuple #[.int qe ((F i).getD 0), .bool (F i).isSome])) w) : wpList P ops Q (o :: rest) a w := by
  obtain ⟨D, h, hF⟩ := h
  refine wpList_lookup_own_ok_int w hg m x t hop k e qe (int_keyed T.hk) T.ht T.he (T.hz w) b n D hm h _ _ hx (keyOf_int_mk T.hk hw) ?_
  intro c hat _
  have : (F i).getD 0 = c ∧ (F i).isSome = Maps.has D (.int qk i) := by
    cases hFi : F i with
    | none => have h2 := atKey_of_not_has (hF.miss i hFi) (.lit (.int qe 0)); rw [h2] at hat; cases hat; exact ⟨rfl, (hF.miss i hFi).symm⟩
    | some y => have h2 := (hF.hit i y hFi).2.1 (.lit (.int qe 0)); rw [h2] at hat; cases hat; exact ⟨rfl, (hF.hit i _ hFi).1.symm⟩
  rw [← this.1, ← this.2]
  exact hK
/-- 'm[x] = v'. -/
theorem storeF (T : MTy P t k e qk qe) (hg : o.guard = none) (m x v : Operand) (hop : o.op = Op.mapUpdate t m x v) (hm : a.eval m = .map (some b)) (h : MapF P k e qk qe w b n F) (hn : n < 9223372036854775807) (i c : Int) (hx : a.eval x = .int qk i) (hv : a.eval v = .int qe c) (hw : (Lit.int qk i).wf = true) (hc : (Lit.int qe c).wf = true)
    (hK : ∀ w', MapF P k e qk qe w' b (n + 1) (upd F i c) → w.grownBy w' (some b) → wpList P ops Q rest (a.put o.dst undef) w') : wpList P ops Q (o :: rest) a w := by
  obtain ⟨D, h, hF⟩ := h
  refine wpList_mapUpdate_own w hg m x v t hop k e (int_keyed T.hk) T.ht _ b n D hm h (by unfold maxLen; omega) _ _ _ hx hv (keyOf_int_mk T.hk hw) _ [] (plainElem_int T.he hc) ?_
  intro w' h1 h2
  exact hK w' ⟨_, h1, hF.put hw⟩ h2

/-- A range over the map under way: which keys are still to come, and how many. -/
def RangeF (P : Program) (k e : TypeId) (qk qe : IntKind) (w : World) (b r n : Nat) (F : Int → Option Int) (left : Int → Prop) (cnt : Nat) : Prop :=
  ∃ (D : DataW Unit) (lf : Lit → Bool), w.ranges P k (plainElem P e) b r n D lf cnt ∧ ReadF qk qe D F ∧ ∀ x, left x ↔ lf (.int qk x) = true
theorem RangeF.map {r cnt : Nat} {left : Int → Prop} (h : RangeF P k e qk qe w b r n F left cnt) : MapF P k e qk qe w b n F := by obtain ⟨D, lf, h, hF, _⟩ := h; exact ⟨D, h.owns, hF⟩
theorem RangeF.left_eq {r cnt : Nat} {left : Int → Prop} (h : RangeF P k e qk qe w b r n F left cnt) : w.rangeLeft b r = cnt := by obtain ⟨D, lf, h, _⟩ := h; exact h.left_eq
theorem RangeF.grown {r cnt : Nat} {left : Int → Prop} (h : RangeF P k e qk qe w b r n F left cnt) {row : Option Nat} (hg : w.grownBy w1 row) (hb : some b ≠ row) (hr : some r ≠ row) : RangeF P k e qk qe w1 b r n F left cnt := by
  obtain ⟨D, lf, h, h2⟩ := h
  exact ⟨D, lf, h.kept hg hb hr, h2⟩
theorem RangeF.lt {r cnt : Nat} {left : Int → Prop} (h : RangeF P k e qk qe w b r n F left cnt) : r < w.heap.size := by obtain ⟨D, lf, h, _⟩ := h; exact h.lt
/-- An iterator's block is no row of cells. -/
theorem RangeF.not_cells {r cnt : Nat} {left : Int → Prop} (h : RangeF P k e qk qe w b r n F left cnt) {g : Nat} {cs : Array Value} {u : TypeId} {fr : Nat × Nat} (hg : w.heap[g]? = some (.cells cs u fr)) : r ≠ g := by
  obtain ⟨D, lf, ⟨es, clock, since, seen, c0, _, _, _, _, hr, _⟩, _⟩ := h
  rintro rfl
  rw [hr] at hg
  cases hg
/-- 'range m'. -/
theorem rangeF (T : MTy P t k e qk qe) (hg : o.guard = none) (m : Operand) (hop : o.op = Op.range t m) (hm : a.eval m = .map (some b)) (h : MapF P k e qk qe w b n F)
    (hK : ∀ w' cnt, RangeF P k e qk qe w' b w.heap.size n F (fun x => F x ≠ none) cnt → cnt ≤ n → w.grownBy w' none → w'.heap.size = w.heap.size + 1 → wpList P ops Q rest (a.put o.dst (.pointer (some ⟨w.heap.size, 0, none⟩))) w') : wpList P ops Q (o :: rest) a w := by
  obtain ⟨D, h, hF⟩ := h
  refine wpList_range_own w hg m t hop k e (int_keyed T.hk) T.ht _ b n D hm h ?_
  intro w' h1 h2 h3
  refine hK w' _ ⟨D, _, h1, hF, fun x => ?_⟩ h.size_le h2 h3
  cases hx : F x with
  | none => rw [hF.miss x hx]; simp [hx]
  | some c => rw [(hF.hit x c hx).1]; simp [hx]
/-- The next key, whichever it is. -/
theorem nextF (T : MTy P t k e qk qe) (hg : o.guard = none) (it : Operand) (hop : o.op = Op.next it false) {r cnt : Nat} {left : Int → Prop} (hit : a.eval it = .pointer (some ⟨r, 0, none⟩)) (h : RangeF P k e qk qe w b r n F left cnt)
    (hDone : (∀ x, (Lit.int qk x).wf = true → ¬ left x) → wpList P ops Q rest (a.put o.dst (.tuple #[.bool false])) w)
    (hMore : ∀ (x c : Int) (w' : World) (cnt' : Nat), (Lit.int qk x).wf = true → (Lit.int qe c).wf = true → left x → F x = some c → RangeF P k e qk qe w' b r n F (fun z => left z ∧ z ≠ x) cnt' → cnt' < cnt → w.grownBy w' (some r) → w'.heap.size = w.heap.size →
      (Instr.entry (.pointer (some ⟨r, 0, none⟩))).run P w' = .ok (.tuple #[.int qk x, .int qe c]) w' → wpList P ops Q rest (a.put o.dst (.tuple #[.bool true, .int qk x, .int qe c])) w') : wpList P ops Q (o :: rest) a w := by
  obtain ⟨D, lf, h, hF, hl⟩ := h
  refine wpList_next_ranges_ii w hg it hop k e qk qe (int_keyed T.hk) T.hk T.he b r n D lf cnt hit h ?_ ?_
  · intro _ h0
    exact hDone fun x _ hx => by have := (hl x).1 hx; rw [h0] at this; cases this
  · intro x c w' cnt' hwx hwc hlx hat hrg hlt hg1 hs1 hen
    have hFx : F x = some c := by
      cases hx : F x with
      | none => have h2 := atKey_of_not_has (hF.miss x hx) (.map []); rw [hat] at h2; cases h2
      | some d => have h2 := (hF.hit x d hx).2.1 (.map []); rw [hat] at h2; cases h2; rfl
    refine hMore x c w' cnt' hwx hwc ((hl x).2 hlx) hFx ⟨D, _, hrg, hF, fun z => ?_⟩ hlt hg1 hs1 hen
    show left z ∧ z ≠ x ↔ (lf (.int qk z) && !(Lit.int qk z).sameKey (.int qk x)) = true
    rw [hl z, Bool.and_eq_true]
    by_cases e : z = x
    · subst e
      have : (Lit.int qk z).sameKey (.int qk z) = true := WideAt.sameKey_self trivial
      rw [this]
      simp
    · have : (Lit.int qk z).sameKey (.int qk x) = false := sameKey_ne (fun hh => by cases hh; exact e rfl)
      rw [this]
      simp [e]
end

section
variable {P : Program} {t k e : TypeId} {qk qe : IntKind} {w w1 : World} {b n : Nat} {F : Int → Option Int}
variable {ops : Array Oper} {rest : List Oper} {o : Oper} {a : Act} {Q : Exit → Act → World → Prop}
/-- 'm[x] = v' of a literal. -/
theorem insertF (T : MTy P t k e qk qe) (hg : o.guard = none) (m x v : Operand) (hop : o.op = Op.insert t m x v) (hm : a.eval m = .map (some b)) (h : MapF P k e qk qe w b n F) (hn : n < 9223372036854775807) (i c : Int) (hx : a.eval x = .int qk i) (hv : a.eval v = .int qe c) (hw : (Lit.int qk i).wf = true) (hc : (Lit.int qe c).wf = true)
    (hK : ∀ w', MapF P k e qk qe w' b (n + 1) (upd F i c) → w.grownBy w' (some b) → wpList P ops Q rest (a.put o.dst undef) w') : wpList P ops Q (o :: rest) a w := by
  obtain ⟨D, h, hF⟩ := h
  refine wpList_plain hg fun K' hK' => ?_
  obtain ⟨w', hrun, r1, r2⟩ := h.update (int_keyed T.hk) T.ht (by unfold maxLen; omega) (keyOf_int_mk T.hk hw) (plainElem_int T.he hc)
  unfold Oper.wp
  simp [execOp, hop, hm, hx, hv, hrun, Result.andThen]
  exact hK' _ _ (hK w' ⟨_, r1, hF.put hw⟩ r2)
end


end Go.Proofs.Ytpgnfccamcefgab

/- The trie in memory: its block, its map, its blocks of cells. -/
namespace Go.Proofs.Ytpgnfccamcefgab
set_option linter.unusedVariables false
set_option linter.unusedSimpArgs false
open Go.RowKit Go.Proofs.YtpgnfccamcefgabW.PrintWords

abbrev kC : Kd (List Int) := Kd.arr 256 (Kd.int .i32) (by decide)
theorem Try.mtF : MTy Try.prog 37 3 3 .i64 .i64 := ⟨Try.underlying37, Try.underlying3, Try.underlying3, fun w => by kernel_rfl⟩
theorem Try.mtH : MTy Try.prog 41 21 3 .i32 .i64 := ⟨Try.underlying41, Try.underlying21, Try.underlying3, fun w => by kernel_rfl⟩
theorem Try.infoC : (Try.prog.info? 36).map (fun i => (i.zero, i.size, i.bytes)) = some (some (.agg (Array.replicate 256 (.int .i32 0))), 256, 1024) := by kernel_rfl
abbrev FMap (w : World) (m n : Nat) (F : Int → Option Int) : Prop := MapF Try.prog 3 3 .i64 .i64 w m n F
abbrev HMap (w : World) (m n : Nat) (H : Int → Option Int) : Prop := MapF Try.prog 21 3 .i32 .i64 w m n H

theorem kC_open {w : World} {x : List Int} {cs : List Value} (h : kC.K w x cs) : x.length = 256 ∧ cs = nums .i32 x := Kd.arr_cells h
theorem kC_mkM (w : World) (base : Nat) (ok : Nat → Prop) {x : List Int} (h : x.length = 256) : kC.M w base ok x (nums .i32 x) := Kd.arr_of_cells h
/-- Cell j of block k. -/
theorem at_C {w : World} {A : Option Addr} {B : List (List Int)} (h : Kd.C kC w A B.length B) (k j : Nat) (hk : k < B.length) (hj : j < 256) :
    ∃ ad, A = some ad ∧ w.cell? ((ad.add (k * 256)).add j) = some (.int .i32 ((B.getD k []).getD j 0)) := by
  obtain ⟨ad, c, e, _, hK, hc⟩ := Kd.C_get h ([] : List Int) (k : Int) (by omega) (by omega)
  obtain ⟨hl, rfl⟩ := kC_open hK
  refine ⟨ad, e, ?_⟩
  simp only [Int.toNat_natCast] at hl hc
  obtain ⟨x, hx⟩ : ∃ x, B.getD k [] = x := ⟨_, rfl⟩
  rw [hx] at hl hc ⊢
  have h1 := hc j (.int .i32 (x.getD j 0)) (by
    have : j < x.length := by omega
    simp [nums, this])
  have hs : kC.sz = 256 := rfl
  rw [hs] at h1
  have e2 : (ad.add (k * 256)).add j = ad.add (k * 256 + j) := by
    unfold Addr.add
    split <;> split <;> simp_all <;> omega
  rw [e2]
  exact h1

/-- The trie whose block is T, as it is read. -/
structure TrieR {α : Type} (kd : Kd α) (tT : TypeId) (w : World) (T : Nat) (vals : List α) (F : Int → Option Int) (B : List (List Int)) : Prop where mk ::
  out : ∃ V m n bl, w.heap[T]? = some (.cells #[V, .map (some m), bl] tT (0, 0)) ∧ RdS kd w V vals ∧ FMap w m n F ∧ RdS kC w bl B
theorem TrieR.below {α : Type} {kd : Kd α} {tT : TypeId} {w w1 : World} {T : Nat} {vals : List α} {F : Int → Option Int} {B : List (List Int)} (h : TrieR kd tT w T vals F B) (hb : Below w.heap.size w w1) : TrieR kd tT w1 T vals F B := by
  obtain ⟨V, m, n, bl, h1, h2, h3, h4⟩ := h.out
  exact ⟨V, m, n, bl, (hb.block T (Array.getElem?_eq_some_iff.1 h1).1).trans h1, h2.below hb, h3.below hb, h4.below hb⟩
theorem row_cell {w : World} {g : Nat} {cs : Array Value} {t : TypeId} {fr : Nat × Nat} (h : w.heap[g]? = some (.cells cs t fr)) (j : Nat) (v : Value) (hj : cs[j]? = some v) : w.cell? ⟨g, j, none⟩ = some v := by
  simp [World.cell?, h, hj]
theorem row_free {w : World} {g : Nat} {cs : Array Value} {t : TypeId} (h : w.heap[g]? = some (.cells cs t (0, 0))) (j : Nat) : w.frozen? ⟨g, j, none⟩ = false := by
  simp [World.frozen?, h]

/-- The cell of any number; -1: of none. -/
def cellAt (F : Int → Option Int) (B : List (List Int)) (r : Int) : Int := if 0 ≤ r ∧ r ≤ 1114111 then cellOf F B r else -1
theorem add0 (a : Addr) : a.add 0 = a := by simp [Addr.add]
theorem and255 {r : Int} (h0 : 0 ≤ r) (h1 : r ≤ 9223372036854775807) : bits .and .i64 r 255 = r % 256 := by
  obtain ⟨n, rfl⟩ : ∃ n : Nat, r = (n : Int) := ⟨r.toNat, by omega⟩
  have e1 : (BitVec.ofInt 64 (n : Int)).toNat = n := by rw [BitVec.toNat_ofInt]; omega
  have e2 : n &&& 255 = n % 256 := Nat.and_two_pow_sub_one_eq_mod n 8
  show IntKind.i64.wrap (BitVec.ofInt 64 (n : Int) &&& BitVec.ofInt 64 255).toNat = _
  rw [BitVec.toNat_and, e1, show (BitVec.ofInt 64 255).toNat = 255 from rfl, e2]
  exact IntWalk.i64_in _ (by omega)
theorem or255 {b : Int} (h0 : 0 ≤ b) (h1 : b ≤ 100000) : bits .or .i64 (b * 256) 255 = b * 256 + 255 := by
  obtain ⟨n, rfl⟩ : ∃ n : Nat, b = (n : Int) := ⟨b.toNat, by omega⟩
  have e1 : (BitVec.ofInt 64 ((n : Int) * 256)).toNat = n * 256 := by rw [BitVec.toNat_ofInt]; omega
  have e2 : n * 256 ||| 255 = n * 256 + 255 := by
    have := Nat.two_pow_add_eq_or_of_lt (i := 8) (b := 255) (by decide) n
    rw [Nat.mul_comm]
    exact this.symm
  show IntKind.i64.wrap (BitVec.ofInt 64 ((n : Int) * 256) ||| BitVec.ofInt 64 255).toNat = _
  rw [BitVec.toNat_or, e1, show (BitVec.ofInt 64 255).toNat = 255 from rfl, e2]
  exact (IntWalk.i64_in _ (by omega)).trans (by omega)

end Go.Proofs.Ytpgnfccamcefgab

/- The trie in the making: what each write leaves. -/
namespace Go.Proofs.Ytpgnfccamcefgab
set_option linter.unusedVariables false
set_option linter.unusedSimpArgs false
open Go.RowKit Go.Proofs.YtpgnfccamcefgabW.PrintWords

/-- A row of one's own stays while a block of another kind is written. -/
theorem own_other_blk {α : Type} {d : Kd α} {e : Nat} {w w1 : World} {base : Nat} {v : Value} {xs : List α} (h : Own d e w base v xs) {g : Nat} (hg : w.grownBy w1 (some g)) (hne : ∀ q ∈ e :: d.E, ∀ cs, w.heap[g]? ≠ some (.cells cs q (0, 0))) : Own d e w1 base v xs := by
  refine Kd.R_mono (Kd.R_move (Kd.R_bound h) fun k hk => ?_) (fun _ _ => trivial)
  obtain ⟨_, _, hlt, q, hq, cs, hcs⟩ := hk
  exact hg.block k hlt (fun e1 => by cases e1; exact hne q hq cs hcs)
theorem grown_setCell (w : World) (g j : Nat) (v : Value) : w.grownBy (w.setCell ⟨g, j, none⟩ v) (some g) :=
  ⟨rfl, rfl, rfl, by simp [World.setCell], fun i _ hi => heap_setCell_other w ⟨g, j, none⟩ i v (fun e => hi (by rw [e]))⟩
theorem below_grown1 {base : Nat} {w0 w w1 : World} (h : Below base w0 w) {g : Nat} (hg : w.grownBy w1 (some g)) (hs : base ≤ w.heap.size) (hb : base ≤ g) : Below base w0 w1 := h.grown hg hs (fun k e => by cases e; exact hb)

theorem seg_at (l : List Value) (j : Nat) (v : Value) (hj : j < l.length) (i : Nat) : (l.take j ++ [v] ++ l.drop (j + 1))[i]? = if i = j then some v else l[i]? := by
  rcases Nat.lt_trichotomy i j with h | h | h
  · rw [if_neg (by omega), List.append_assoc, List.getElem?_append_left (by rw [List.length_take]; omega), List.getElem?_take, if_pos h]
  · subst h
    rw [if_pos rfl, List.append_assoc, List.getElem?_append_right (by rw [List.length_take]; omega)]
    rw [List.length_take, Nat.min_eq_left (by omega), Nat.sub_self]
    rfl
  · rw [if_neg (by omega), List.getElem?_append_right (by rw [List.length_append, List.length_take]; simp; omega), List.getElem?_drop]
    congr 1
    rw [List.length_append, List.length_take]
    simp
    omega
theorem keys_upd {F : Int → Option Int} {b k : Int} (h : ∀ x, F x ≠ none → 0 ≤ x ∧ x ≤ 4351) (hb : 0 ≤ b ∧ b ≤ 4351) : ∀ x, upd F b k x ≠ none → 0 ≤ x ∧ x ≤ 4351 := fun x hx => by
  by_cases e : x = b
  · subst e; exact hb
  · rw [upd_other _ _ e] at hx; exact h x hx
/-- Blocks of cells of other kinds stay. -/
def KeepT (tT : TypeId) (wk w : World) : Prop := ∀ (k : Nat) (cs : Array Value) (q : TypeId), wk.heap[k]? = some (.cells cs q (0, 0)) → q ≠ tT → q ≠ 36 → w.heap[k]? = some (.cells cs q (0, 0))
theorem KeepT.refl (tT : TypeId) (w : World) : KeepT tT w w := fun _ _ _ h _ _ => h
theorem KeepT.grown {tT : TypeId} {wk w w1 : World} {row : Option Nat} (h : KeepT tT wk w) (hg : w.grownBy w1 row) (hr : ∀ g, row = some g → ∀ cs q, w.heap[g]? = some (.cells cs q (0, 0)) → q = tT ∨ q = 36) : KeepT tT wk w1 := fun k cs q hk h1 h2 => by
  have h3 := h k cs q hk h1 h2
  refine (hg.block k (Array.getElem?_eq_some_iff.1 h3).1 (fun e => ?_)).trans h3
  rcases hr k e.symm cs q h3 with h | h
  · exact h1 h
  · exact h2 h
/-- The trie in the making: T its block, m its map, bl its blocks, h the map of whole blocks, V the values. -/
structure FS {α : Type} (kd : Kd α) (eT tT : TypeId) (wk w0 : World) (base : Nat) (w : World) (T m hb : Nat) (V bl : Value) (vals : List α) (nf nh : Nat) (F H : Int → Option Int) (B : List (List Int)) : Prop where
  hT : w.heap[T]? = some (.cells #[V, .map (some m), bl] tT (0, 0))
  hF : FMap w m nf F
  hH : HMap w hb nh H
  hB : Own kC 36 w base bl B
  hV : Own kd eT w base V vals
  bT : base ≤ T
  bm : base ≤ m
  bh : base ≤ hb
  ne : m ≠ hb
  below : Below base w0 w
  size : base ≤ w.heap.size
  keep : KeepT tT wk w
  keys : ∀ b, F b ≠ none → 0 ≤ b ∧ b ≤ 4351

section
variable {α : Type} {kd : Kd α} {eT tT : TypeId} {wk w0 w w1 : World} {base T m hb : Nat} {V bl : Value} {vals : List α} {nf nh : Nat} {F H : Int → Option Int} {B : List (List Int)}
theorem FS.to (h : FS kd eT tT wk w0 base w T m hb V bl vals nf nh F H B) (k : Below w.heap.size w w1) : FS kd eT tT wk w0 base w1 T m hb V bl vals nf nh F H B :=
  ⟨(k.block T (Array.getElem?_eq_some_iff.1 h.hT).1).trans h.hT, h.hF.below k, h.hH.below k, Kd.R_below h.hB k, Kd.R_below h.hV k, h.bT, h.bm, h.bh, h.ne, below_then h.below h.size k, Nat.le_trans h.size k.size, h.keep.grown (grown_of_below k none) (fun g e => by cases e), h.keys⟩
theorem FS.alloc (h : FS kd eT tT wk w0 base w T m hb V bl vals nf nh F H B) (o : Obj) : FS kd eT tT wk w0 base (w.alloc o) T m hb V bl vals nf nh F H B := h.to (below_alloc (Below.refl _ _) o)
theorem FS.drewN (h : FS kd eT tT wk w0 base w T m hb V bl vals nf nh F H B) (q : Nat) : FS kd eT tT wk w0 base (w.drewN q) T m hb V bl vals nf nh F H B := h.to (pw_below_drewN (Below.refl _ _) q)
theorem FS.mNT (h : FS kd eT tT wk w0 base w T m hb V bl vals nf nh F H B) : m ≠ T := h.hF.not_cells h.hT
theorem FS.hNT (h : FS kd eT tT wk w0 base w T m hb V bl vals nf nh F H B) : hb ≠ T := h.hH.not_cells h.hT
theorem FS.rekey {wk' : World} (h : FS kd eT tT wk w0 base w T m hb V bl vals nf nh F H B) (k : KeepT tT wk' w) : FS kd eT tT wk' w0 base w T m hb V bl vals nf nh F H B := ⟨h.hT, h.hF, h.hH, h.hB, h.hV, h.bT, h.bm, h.bh, h.ne, h.below, h.size, k, h.keys⟩
theorem map_not {t k e : TypeId} {P : Program} {qk qe : IntKind} {b n : Nat} {F : Int → Option Int} (h : MapF P k e qk qe w b n F) (l : List TypeId) : ∀ q ∈ l, ∀ cs, w.heap[b]? ≠ some (.cells cs q (0, 0)) := fun q _ cs e => h.not_cells e rfl
/-- The map of whole blocks has been written. -/
theorem FS.putH (h : FS kd eT tT wk w0 base w T m hb V bl vals nf nh F H B) {H' : Int → Option Int} (hg : w.grownBy w1 (some hb)) (hH : HMap w1 hb (nh + 1) H') : FS kd eT tT wk w0 base w1 T m hb V bl vals nf (nh + 1) F H' B :=
  ⟨(hg.block T (Array.getElem?_eq_some_iff.1 h.hT).1 (fun e => h.hNT (by cases e; rfl))).trans h.hT, h.hF.grown hg (fun e => h.ne (by cases e; rfl)), hH, own_other_blk h.hB hg (map_not (t := 0) h.hH _), own_other_blk h.hV hg (map_not (t := 0) h.hH _), h.bT, h.bm, h.bh, h.ne, below_grown1 h.below hg h.size h.bh, Nat.le_trans h.size hg.size, h.keep.grown hg (fun g e cs q hq => by cases e; exact (h.hH.not_cells hq rfl).elim), h.keys⟩
/-- The trie's map has been written. -/
theorem FS.putF (h : FS kd eT tT wk w0 base w T m hb V bl vals nf nh F H B) {b k : Int} (hg : w.grownBy w1 (some m)) (hF : FMap w1 m (nf + 1) (upd F b k)) (hb0 : 0 ≤ b ∧ b ≤ 4351) : FS kd eT tT wk w0 base w1 T m hb V bl vals (nf + 1) nh (upd F b k) H B :=
  ⟨(hg.block T (Array.getElem?_eq_some_iff.1 h.hT).1 (fun e => h.mNT (by cases e; rfl))).trans h.hT, hF, h.hH.grown hg (fun e => h.ne (by cases e; rfl)), own_other_blk h.hB hg (map_not (t := 0) h.hF _), own_other_blk h.hV hg (map_not (t := 0) h.hF _), h.bT, h.bm, h.bh, h.ne, below_grown1 h.below hg h.size h.bm, Nat.le_trans h.size hg.size, h.keep.grown hg (fun g e cs q hq => by cases e; exact (h.hF.not_cells hq rfl).elim), keys_upd h.keys hb0⟩
/-- A block has been appended, and the new blocks are the trie's. -/
theorem FS.putB (h : FS kd eT tT wk w0 base w T m hb V bl vals nf nh F H B) (ht : tT ≠ 36) (hte : ∀ q ∈ eT :: kd.E, q ≠ tT ∧ q ≠ 36) {bl' : Value} {B' : List (List Int)} (hg : w.grownBy w1 bl.ownBlock) (hB : Own kC 36 w1 base bl' B') (k : Below base w0 w1) :
    FS kd eT tT wk w0 base (w1.setCell ⟨T, 2, none⟩ bl') T m hb V bl' vals nf nh F H B' := by
  have hne : ∀ g cs q, w.heap[g]? = some (.cells cs q (0, 0)) → q ≠ 36 → some g ≠ bl.ownBlock := fun g cs q hg hq e => by
    obtain ⟨cs', hcs⟩ := Kd.R_typed h.hB g e.symm
    rw [hcs] at hg
    cases hg
    exact hq rfl
  have hmap : ∀ g es cl, w.heap[g]? = some (.map es cl) → some g ≠ bl.ownBlock := fun g es cl hg e => by
    obtain ⟨cs', hcs⟩ := Kd.R_typed h.hB g e.symm
    rw [hcs] at hg
    cases hg
  have h1 : w1.heap[T]? = some (.cells #[V, .map (some m), bl] tT (0, 0)) := (hg.block T (Array.getElem?_eq_some_iff.1 h.hT).1 (hne T _ tT h.hT ht)).trans h.hT
  have hF1 : FMap w1 m nf F := by
    have hF := h.hF
    obtain ⟨D, ⟨es, cl, hx, _⟩, _⟩ := hF
    exact h.hF.grown hg (hmap _ _ _ hx)
  have hH1 : HMap w1 hb nh H := by
    have hF := h.hH
    obtain ⟨D, ⟨es, cl, hx, _⟩, _⟩ := hF
    exact h.hH.grown hg (hmap _ _ _ hx)
  have hV1 : Own kd eT w1 base V vals := Kd.R_over h.hV h.hB (fun q hq => (hte q hq).2) hg
  have hg2 := grown_setCell w1 T 2 bl'
  have hT2 : ∀ (l : List Nat), (∀ q ∈ l, q ≠ tT) → ∀ q ∈ l, ∀ cs, w1.heap[T]? ≠ some (.cells cs q (0, 0)) := fun l hl q hq cs e => by
    rw [h1] at e
    cases e
    exact hl tT hq rfl
  refine ⟨?_, hF1.grown hg2 (fun e => h.mNT (by cases e; rfl)), hH1.grown hg2 (fun e => h.hNT (by cases e; rfl)), own_other_blk hB hg2 (hT2 _ (fun q hq => ?_)), own_other_blk hV1 hg2 (hT2 _ (fun q hq => (hte q hq).1)), h.bT, h.bm, h.bh, h.ne, below_grown1 k hg2 (Nat.le_trans h.size hg.size) h.bT, Nat.le_trans (Nat.le_trans h.size hg.size) hg2.size, (h.keep.grown hg (fun g e cs q hq => ?_)).grown hg2 (fun g e cs q hq => ?_), h.keys⟩
  · rw [heap_setCell_same w1 T 2 _ _ bl' h1]
    rfl
  · rcases List.mem_cons.1 hq with rfl | hq
    · exact ht.symm
    · cases hq
  · obtain ⟨cs', hcs⟩ := Kd.R_typed h.hB g e
    rw [hcs] at hq
    cases hq
    exact .inr rfl
  · cases e
    rw [h1] at hq
    cases hq
    exact .inl rfl
/-- A cell of a block is written. -/
theorem FS.putC (h : FS kd eT tT wk w0 base w T m hb V bl vals nf nh F H B) (ht : tT ≠ 36) (hte : ∀ q ∈ eT :: kd.E, q ≠ tT ∧ q ≠ 36) {g n cap : Nat} (hbl : bl = .slice (some ⟨g, 0, none⟩) n cap) (k j : Nat) (hk : k < B.length) (hj : j < 256) (v : Int) :
    FS kd eT tT wk w0 base (w.setCell ⟨g, k * 256 + j, none⟩ (.int .i32 v)) T m hb V bl vals nf nh F H (B.set k ((B.getD k []).set j v)) := by
  subst hbl
  have hn := (Kd.R_reads' h.hB).1
  obtain ⟨c, hcl, hM, hcc, hf⟩ := Kd.R_elem h.hB [] (k : Int) (by omega) (by omega)
  obtain ⟨hl, rfl⟩ := kC_open (kC.K_of_M hM)
  have hs : kC.sz = 256 := rfl
  simp only [Int.toNat_natCast] at hl hcc hM hcl
  obtain ⟨x, hx⟩ : ∃ x, B.getD k [] = x := ⟨_, rfl⟩
  rw [hx] at hl hcc hM hcl ⊢
  have hsplit : (nums .i32 x).take j ++ [.int .i32 v] ++ (nums .i32 x).drop (j + 1) = nums .i32 (x.set j v) := by
    refine List.ext_getElem? fun i => ?_
    have hnl : (nums .i32 x).length = x.length := nums_length _ _
    rw [seg_at _ _ _ (by omega) _]
    simp only [nums, List.getElem?_map, List.getElem?_set]
    by_cases e : i = j
    · subst e
      have : i < x.length := by omega
      simp [this]
    · rw [if_neg e, if_neg (Ne.symm e)]
  have h2 := Kd.R_seg (seg := [.int .i32 v]) (j := j) h.hB (k : Int) (by omega) (by omega) (x' := x.set j v) hcl (by simpa using hcc) (by show j + 1 ≤ 256; omega) (okp := fun _ => False) (by
    show kC.M _ _ _ _ ((nums .i32 x).take j ++ [.int .i32 v] ++ (nums .i32 x).drop (j + 1))
    rw [hsplit]
    exact kC_mkM _ _ _ (by rw [List.length_set]; exact hl)) (fun _ hh => hh.elim)
  simp only [hs, Int.toNat_natCast] at h2
  obtain ⟨h3, h4⟩ := h2
  have hgrow : w.grownBy (w.setCell ⟨g, k * 256 + j, none⟩ (.int .i32 v)) (some g) := h4
  obtain ⟨cs0, hcs0⟩ := Kd.R_typed h.hB g rfl
  have hTg : some T ≠ some g := fun e => by
    cases e
    have := h.hT
    rw [hcs0] at this
    cases this
    exact ht rfl
  refine ⟨(h4.block T (Array.getElem?_eq_some_iff.1 h.hT).1 hTg).trans h.hT, h.hF.grown h4 (fun e => h.hF.not_cells hcs0 (by cases e; rfl)), h.hH.grown h4 (fun e => h.hH.not_cells hcs0 (by cases e; rfl)), h3, Kd.R_over h.hV h.hB (fun q hq => (hte q hq).2) h4, h.bT, h.bm, h.bh, h.ne, below_grown1 h.below h4 h.size ?_, Nat.le_trans h.size h4.size, h.keep.grown h4 (fun g' e cs q hq => ?_), h.keys⟩
  · exact Kd.R_base h.hB g rfl
  · cases e
    rw [hcs0] at hq
    cases hq
    exact .inr rfl
end

section
variable {P : Program} {w : World}
theorem run_load_part (ty : TypeId) (a : Addr) (cs : List Value) {d : TypeDesc} (hu : P.underlying ty = some d) (hd : (match d with | .struct _ | .array _ _ => true | _ => false) = true) (hi : (P.info? ty).map (·.size) = some cs.length)
    (hc : ∀ j v, cs[j]? = some v → w.cell? (a.add j) = some v) : (loadVar ty a).run P w = .ok (.agg cs.toArray) w := by
  have hl : (loadCells a cs.length).run P w = .ok cs.toArray w := run_loadCells_list (P := P) w a cs hc
  cases hq : P.info? ty with
  | none => simp [hq] at hi
  | some i =>
    have hs : i.size = cs.length := by simpa [hq] using hi
    have hagg : (isAgg ty).run P w = .ok true w := by
      unfold isAgg
      rw [Sem.run_bind, run_underlying hu w]
      cases d <;> simp_all
    simp [loadVar, Sem.run_bind, hagg, sizeOf, typeInfo, hq, hs, hl]
theorem exec_load {ev : Operand → Value} {o : Oper} {ty : TypeId} {x : Operand} {a : Addr} {v : Value} (ho : o.op = .load ty x) (hx : ev x = .pointer (some a)) (hl : (loadVar ty a).run P w = .ok v w) : (execOp ev o).run P w = .ok (.value v) w := by
  unfold execOp
  simp only [ho, hx, Instr.loadAt, Instr.sureAddr, Sem.run_bind, Sem.run_pure, Result.andThen_ok, hl]
end
theorem Try.sizeC : (Try.prog.info? 36).map (·.size) = some 256 := by kernel_rfl
/-- A block of cells, read whole. -/
theorem load_C {w : World} {a : Addr} {x : List Int} (hx : x.length = 256) (hc : ∀ j u, (nums .i32 x)[j]? = some u → w.cell? (a.add j) = some u) : (loadVar 36 a).run Try.prog w = .ok (.agg (nums .i32 x).toArray) w :=
  run_load_part _ a _ Try.underlying36 rfl (by rw [Try.sizeC, nums_length, hx]) hc


section
variable {P : Program} {w : World}
theorem fill_fold : ∀ (l : List Value) (n : Nat) (cs : Array Value) (i : Nat), n + l.length ≤ cs.size → ((l.zipIdx n).foldl (fun cs (p : Value × Nat) => cs.setIfInBounds (0 + p.2) p.1) cs)[i]? = if n ≤ i ∧ i < n + l.length then l[i - n]? else cs[i]?
  | [], n, cs, i, _ => by simp; omega
  | x :: r, n, cs, i, h => by
    rw [List.zipIdx_cons, List.foldl_cons, fill_fold r (n + 1) _ i (by simp at h ⊢; omega)]
    simp only [List.length_cons] at h ⊢
    by_cases h1 : n = i
    · subst h1
      rw [if_neg (by omega), if_pos (by omega), Nat.sub_self]
      have : n < cs.size := by omega
      simp [this]
    · by_cases h2 : n ≤ i ∧ i < n + (r.length + 1)
      · rw [if_pos (by omega), if_pos h2]
        obtain ⟨j, hj⟩ : ∃ j, i - n = j + 1 := ⟨i - n - 1, by omega⟩
        rw [hj, show i - (n + 1) = j by omega]
        rfl
      · rw [if_neg (by omega), if_neg h2]
        simp [Array.getElem?_setIfInBounds, h1]
/-- A slice literal of one element that is a row of cells. -/
theorem run_buildSlice1 (t e : TypeId) (cs : Array Value) {i : TypeInfo} {z : Value} (ht : P.underlying t = some (.slice e)) (hi : P.info? e = some i) (hz : i.zero = some z) (hs : i.size = cs.size) (h0 : 0 < cs.size) (hm : cs.size ≤ 16777216) :
    (Instr.buildSlice t 1 #[(0, .agg cs)]).run P w = .ok (.slice (some ⟨w.heap.size, 0, none⟩) 1 1) (w.alloc (.cells cs e)) := by
  have hfill : Instr.fill (fun i => some (i * cs.size, cs.size)) ((Array.range cs.size).map (z.cells[· % z.cells.size]!)) [(0, .agg cs)] = some cs := by
    unfold Instr.fill
    have hc : (Value.agg cs).cells = cs := rfl
    simp only [hc, Nat.zero_mul]
    rw [if_neg (by simp)]
    unfold Instr.fill
    congr 1
    apply Array.ext_getElem?
    intro j
    have h1 := fill_fold cs.toList 0 ((Array.range cs.size).map (z.cells[· % z.cells.size]!)) j (by simp)
    have e1 : cs.zipIdx.foldl (fun cs (x : Value × Nat) => cs.setIfInBounds (0 + x.2) x.1) ((Array.range cs.size).map (z.cells[· % z.cells.size]!)) = (cs.toList.zipIdx 0).foldl (fun cs (p : Value × Nat) => cs.setIfInBounds (0 + p.2) p.1) ((Array.range cs.size).map (z.cells[· % z.cells.size]!)) := by
      rw [← Array.foldl_toList]
      simp
    rw [e1, h1]
    by_cases hj : j < cs.size
    · simp [hj]
    · simp [hj]
  have h3 : ¬ (1 * cs.size > 2 ^ 24) := by omega
  have h4 : ¬ (1 * cs.size = 0) := by omega
  rw [Nat.one_mul] at h3 h4
  have hu := run_underlying ht w
  simp [Instr.buildSlice, Sem.run_bind, hu, sizeOf, zeroValue, typeInfo, hi, hz, hs, h3, h4, hfill, newRow]
theorem exec_build1 {ev : Operand → Value} {o : Oper} {t e : TypeId} {x : Operand} {cs : Array Value} {i : TypeInfo} {z : Value} (ho : o.op = .buildSlice t 1 #[(0, x)]) (hx : ev x = .agg cs) (ht : P.underlying t = some (.slice e)) (hi : P.info? e = some i) (hz : i.zero = some z) (hs : i.size = cs.size) (h0 : 0 < cs.size) (hm : cs.size ≤ 16777216) :
    (execOp ev o).run P w = .ok (.value (.slice (some ⟨w.heap.size, 0, none⟩) 1 1)) (w.alloc (.cells cs e)) := by
  unfold execOp
  have h := run_buildSlice1 (w := w) t e cs ht hi hz hs h0 hm
  simp only [ho, List.map_toArray, List.map_cons, List.map_nil, hx, Sem.run_bind, h, Result.andThen_ok, Sem.run_pure]
end
theorem build_C {ev : Operand → Value} {o : Oper} {x : Operand} {w : World} {l : List Int} (ho : o.op = .buildSlice 38 1 #[(0, x)]) (hx : ev x = .agg (nums .i32 l).toArray) (hl : l.length = 256) :
    (execOp ev o).run Try.prog w = .ok (.value (.slice (some ⟨w.heap.size, 0, none⟩) 1 1)) (w.alloc (.cells (nums .i32 l).toArray 36)) := by
  obtain ⟨i, hi, hz, hs, _⟩ := info_parts Try.infoC
  have hn : (nums .i32 l).toArray.size = 256 := by rw [List.size_toArray, nums_length, hl]
  exact exec_build1 ho hx Try.underlying38 hi hz (by rw [hn]; exact hs) (by omega) (by omega)


end Go.Proofs.Ytpgnfccamcefgab

/- The trie in the making: what the walks of fill need. -/
namespace Go.Proofs.Ytpgnfccamcefgab
set_option linter.unusedVariables false
set_option linter.unusedSimpArgs false
open Go.RowKit Go.Proofs.YtpgnfccamcefgabW.PrintWords Go.Proofs.YtpgnfccamcefgabW.PrintLast Go.Proofs.YtpgnfccamcefgabW.PrintMore

theorem cell_later {w : World} {o : Obj} {a : Addr} {v : Value} (h : w.cell? a = some v) : (w.alloc o).cell? a = some v := pw_cell_below (below_alloc (Below.refl _ _) o) h
theorem getD_mem {B : List (List Int)} {k : Nat} (h : k < B.length) : B.getD k [] ∈ B := by
  have : B.getD k [] = B[k] := by simp [h]
  rw [this]
  exact List.getElem_mem h
/-- All that a block's cells hold are places, or -1. -/
def VInv (nv : Nat) (B : List (List Int)) : Prop := ∀ c ∈ B, ∀ x ∈ c, -1 ≤ x ∧ x < nv
theorem VInv.at_ {nv : Nat} {B : List (List Int)} (h : VInv nv B) {k j : Nat} (hk : k < B.length) (hl : (B.getD k []).length = 256) (hj : j < 256) : -1 ≤ (B.getD k []).getD j 0 ∧ (B.getD k []).getD j 0 < nv := by
  have hj2 : j < (B.getD k []).length := by omega
  have : (B.getD k []).getD j 0 = (B.getD k [])[j] := by
    rw [List.getD_eq_getElem?_getD, List.getElem?_eq_getElem hj2]
    rfl
  rw [this]
  exact h _ (getD_mem hk) _ (List.getElem_mem hj2)
theorem VInv.snoc {nv : Nat} {B : List (List Int)} (h : VInv nv B) {c : List Int} (hc : ∀ x ∈ c, -1 ≤ x ∧ x < nv) : VInv nv (B ++ [c]) := fun d hd => by
  rcases List.mem_append.1 hd with hd | hd
  · exact h d hd
  · rw [List.mem_singleton.1 hd]; exact hc
theorem VInv.paint {nv : Nat} {B : List (List Int)} (h : VInv nv B) {k f c : Nat} {v : Int} (hk : k < B.length) (hl : (B.getD k []).length = 256) (h0 : 0 ≤ v) (h1 : v < nv) : VInv nv (B.set k (paint (B.getD k []) f c v)) := fun d hd x hx => by
  rcases List.mem_or_eq_of_mem_set hd with hd | rfl
  · exact h d hd x hx
  · unfold Go.Proofs.Ytpgnfccamcefgab.paint at hx
    obtain ⟨j, hj, rfl⟩ := List.mem_map.1 hx
    split
    · exact ⟨by omega, h1⟩
    · exact h.at_ hk hl (List.mem_range.1 hj)
section
variable {α : Type} {kd : Kd α} {eT tT : TypeId} {wk w0 w w1 : World} {base T m hb : Nat} {V bl : Value} {vals : List α} {nf nh : Nat} {F H : Int → Option Int} {B : List (List Int)}
theorem FS.read (h : FS kd eT tT wk w0 base w T m hb V bl vals nf nh F H B) : TrieR kd tT w T vals F B := ⟨⟨V, m, nf, bl, h.hT, RdS.of_R h.hV, h.hF, RdS.of_R h.hB⟩⟩
theorem FS.form (h : FS kd eT tT wk w0 base w T m hb V bl vals nf nh F H B) (hp : 0 < B.length) : ∃ g cap, bl = .slice (some ⟨g, 0, none⟩) B.length cap := by
  obtain ⟨g, cap, e, _⟩ := Kd.R_form h.hB hp
  exact ⟨g, cap, e⟩
theorem FS.more (h : FS kd eT tT wk w0 base w T m hb V bl vals nf nh F H B) {a b : Nat} (ha : nf ≤ a) (hb2 : nh ≤ b) : FS kd eT tT wk w0 base w T m hb V bl vals a b F H B := ⟨h.hT, h.hF.mono ha, h.hH.mono hb2, h.hB, h.hV, h.bT, h.bm, h.bh, h.ne, h.below, h.size, h.keep, h.keys⟩
theorem FS.keepT (h : FS kd eT tT wk w0 base w T m hb V bl vals nf nh F H B) (ht : tT ≠ 36) (hg : w.grownBy w1 bl.ownBlock) : w1.heap[T]? = some (.cells #[V, .map (some m), bl] tT (0, 0)) := by
  refine (hg.block T (Array.getElem?_eq_some_iff.1 h.hT).1 (fun e => ?_)).trans h.hT
  obtain ⟨cs', hcs⟩ := Kd.R_typed h.hB T e.symm
  have := h.hT
  rw [hcs] at this
  cases this
  exact ht rfl
theorem FS.part {g cap n : Nat} (h : FS kd eT tT wk w0 base w T m hb V (.slice (some ⟨g, 0, none⟩) n cap) vals nf nh F H B) {k : Nat} (hk : k < B.length) : ∀ j u, (nums .i32 (B.getD k []))[j]? = some u → w.cell? ((⟨g, k * 256, none⟩ : Addr).add j) = some u := by
  have hn := (Kd.R_reads' h.hB).1
  obtain ⟨c, hcl, hM, hcc, hf⟩ := Kd.R_elem h.hB [] (k : Int) (by omega) (by omega)
  obtain ⟨hl, rfl⟩ := kC_open (kC.K_of_M hM)
  have hs : kC.sz = 256 := rfl
  rw [hs] at hcc
  simp only [Int.toNat_natCast] at hcc
  intro j u hu
  rw [add_at]
  exact hcc j u hu
theorem FS.free {g cap n : Nat} (h : FS kd eT tT wk w0 base w T m hb V (.slice (some ⟨g, 0, none⟩) n cap) vals nf nh F H B) (i : Nat) : w.frozen? ⟨g, i, none⟩ = false := by
  obtain ⟨cs', hcs⟩ := Kd.R_typed h.hB g rfl
  exact row_free hcs i
end
/-- What fill leaves. -/
def FillRet {α : Type} (kd : Kd α) (eT tT : TypeId) (wk w0 : World) (base : Nat) (T m hb : Nat) (V : Value) (vals : List α) (n nv : Nat) (len : Nat) (Q : (Int → Option Int) → List (List Int) → Prop) (e : Ending) (w' : World) : Prop :=
  e = .returned (.tuple #[]) ∧ ∃ bl' F' H' B', FS kd eT tT wk w0 base w' T m hb V bl' vals (n + 1) (n + 1) F' H' B' ∧ TInv F' H' B' ∧ VInv nv B' ∧ B'.length ≤ len + 1 ∧ Q F' B'

theorem TInv.own_blk {F H : Int → Option Int} {B : List (List Int)} {b : Int} {k : Nat} (h : TInv F H B) (hk : (F b).getD 0 = (k : Int)) (hkl : k < B.length) (hq : decide (H ((B.getD k []).getD 0 0) = some (k : Int)) = false) : F b = some (k : Int) ∧ ∀ y, H y ≠ some (k : Int) := by
  have hno : ∀ y, H y ≠ some (k : Int) := fun y e => by
    have h1 := (h.shared (k := (k : Int)) (by omega) (by simpa using hkl)).2 ⟨y, e⟩
    rw [Int.toNat_natCast] at h1
    exact of_decide_eq_false hq h1
  refine ⟨?_, hno⟩
  cases e : F b with
  | none =>
    rw [e] at hk
    have h2 : (k : Int) = 0 := hk.symm
    exact (hno (-1) (by rw [h.zero.2, h2])).elim
  | some y =>
    rw [e] at hk
    have h2 : y = (k : Int) := hk
    rw [h2]
theorem set_self {B : List (List Int)} {k : Nat} {x : List Int} (hk : k < B.length) (h : x = B.getD k []) : B.set k x = B := by
  subst h
  have : B.getD k [] = B[k] := by simp [hk]
  rw [this]
  exact List.set_getElem_self hk
theorem set_twice {B : List (List Int)} {k : Nat} {x : List Int} {j : Nat} {v : Int} (hk : k < B.length) : (B.set k x).set k (((B.set k x).getD k []).set j v) = B.set k (x.set j v) := by
  have : (B.set k x).getD k [] = x := by simp [hk]
  rw [this, List.set_set]


theorem nums_at {k : IntKind} {x : List Int} {j : Nat} (h : j < x.length) : (nums k x)[j]? = some (.int k (x.getD j 0)) := by simp [nums, h]
theorem set_at {B : List (List Int)} {k : Nat} {x : List Int} (hk : k < B.length) : (B.set k x).getD k [] = x := by simp [hk]


/-- The cells of a block under way: the first i hold v. -/
def part256 (v : Int) (i : Nat) : List Int := paint (List.replicate 256 0) 0 i v
theorem part256_len {v : Int} {i : Nat} : (part256 v i).length = 256 := paint_len _ _ _ _
theorem paint_all (old : List Int) (v : Int) : paint old 0 256 v = List.replicate 256 v := by
  have h0 : ∀ n, ∀ x ∈ List.range n, (if 0 ≤ x ∧ x < n then v else old.getD x 0) = v := fun n x hx => if_pos ⟨Nat.zero_le _, List.mem_range.1 hx⟩
  have h1 : ∀ n, (List.range n).map (fun _ => v) = List.replicate n v := fun n => by simp [List.map_const']
  unfold paint
  rw [List.map_congr_left (g := fun _ => v) (h0 256)]
  exact h1 256
theorem part256_all (v : Int) : part256 v 256 = List.replicate 256 v := paint_all _ _
theorem zeros_nums : Try.zeroCells36 = (nums .i32 (List.replicate 256 0)).toArray := by kernel_rfl
theorem zeros256 (v : Int) : Try.zeroCells36 = (nums .i32 (part256 v 0)).toArray := by
  unfold part256
  rw [paint_none _ _ _ (by rw [List.length_replicate]), zeros_nums]
theorem part256_step {v : Int} {i : Nat} (h : i < 256) : (nums .i32 (part256 v i)).toArray.setIfInBounds i (.int .i32 v) = (nums .i32 (part256 v (i + 1))).toArray := by
  unfold part256
  rw [← paint_step _ _ _ _ (Nat.zero_le _) h]
  obtain ⟨x, hx⟩ : ∃ x, paint (List.replicate 256 0) 0 i v = x := ⟨_, rfl⟩
  rw [hx]
  simp [nums, List.map_set]

theorem VInv.start (nv : Nat) : VInv nv [List.replicate 256 (-1)] := fun c hc x hx => by
  rw [List.mem_singleton.1 hc] at hx
  rw [List.eq_of_mem_replicate hx]
  omega


end Go.Proofs.Ytpgnfccamcefgab

/- api.Entry as three numbers; what entries say of a code point. -/
namespace Go.Proofs.Ytpgnfccamcefgab
set_option linter.unusedVariables false
set_option linter.unusedSimpArgs false
open Go.RowKit Go.Proofs.YtpgnfccamcefgabW.PrintWords

/-- From, to, value. -/
abbrev En := Int × Int × Int
def kE : Kd En := Kd.pair (Kd.int .i64) (Kd.pair (Kd.int .i64) (Kd.int .i64))
theorem kE_open {w : World} {x : En} {cs : List Value} (h : kE.K w x cs) : cs = [.int .i64 x.1, .int .i64 x.2.1, .int .i64 x.2.2] := by
  obtain ⟨_, _, rfl, rfl, _, _, rfl, rfl, rfl⟩ := h
  exact rfl
theorem kE_mkM (w : World) (base : Nat) (ok : Nat → Prop) (x : En) : kE.M w base ok x [.int .i64 x.1, .int .i64 x.2.1, .int .i64 x.2.2] := ⟨[.int .i64 x.1], [.int .i64 x.2.1, .int .i64 x.2.2], rfl, rfl, [.int .i64 x.2.1], [.int .i64 x.2.2], rfl, rfl, rfl⟩
theorem kE_mk (w : World) (x : En) : kE.K w x [.int .i64 x.1, .int .i64 x.2.1, .int .i64 x.2.2] := ⟨[.int .i64 x.1], [.int .i64 x.2.1, .int .i64 x.2.2], rfl, rfl, [.int .i64 x.2.1], [.int .i64 x.2.2], rfl, rfl, rfl⟩
theorem Try.infoE : (Try.prog.info? 43).map (fun i => (i.zero, i.size, i.bytes)) = some (some (.agg #[(.int .i64 0), (.int .i64 0), (.int .i64 0)]), 3, 24) := by kernel_rfl
theorem at_En {w : World} {A : Option Addr} {xs : List En} (h : Kd.C kE w A xs.length xs) (k : Nat) (hk : k < xs.length) :
    ∃ ad, A = some ad ∧ w.cell? (ad.add (k * 3)) = some (.int .i64 xs[k].1) ∧ w.cell? ⟨(ad.add (k * 3)).block, (ad.add (k * 3)).off + 1, none⟩ = some (.int .i64 xs[k].2.1) ∧ w.cell? ⟨(ad.add (k * 3)).block, (ad.add (k * 3)).off + 2, none⟩ = some (.int .i64 xs[k].2.2) := by
  obtain ⟨ad, c, e, _, hK, hc0⟩ := Kd.C_get h (0, 0, 0) (k : Int) (by omega) (by omega)
  obtain rfl := kE_open hK
  have e1 : xs.getD ((k : Int).toNat) (0, 0, 0) = xs[k] := by simp [hk]
  rw [e1] at hc0
  have hs : kE.sz = 3 := rfl
  rw [hs, Int.toNat_natCast] at hc0
  exact ⟨ad, e, hc0 0 _ rfl, by rw [← add_field _ _ 1 (by omega)]; exact hc0 1 _ rfl, by rw [← add_field _ _ 2 (by omega)]; exact hc0 2 _ rfl⟩

/-- Whether an entry speaks of a code point, for so many values. -/
def onE (nv : Nat) (e : En) (r : Int) : Prop := 0 ≤ e.2.2 ∧ e.2.2 < nv ∧ e.1 ≤ r ∧ r ≤ e.2.1
instance (nv : Nat) (e : En) (r : Int) : Decidable (onE nv e r) := by unfold onE; exact inferInstance
/-- The place of a code point's value, -1: it has none. -/
def valE (nv : Nat) (l : List En) (r : Int) : Int := l.foldl (fun v e => if onE nv e r then e.2.2 else v) (-1)
theorem valE_snoc (nv : Nat) (l : List En) (e : En) (r : Int) : valE nv (l ++ [e]) r = if onE nv e r then e.2.2 else valE nv l r := by
  unfold valE
  rw [List.foldl_append]
  rfl
theorem valE_in (nv : Nat) (l : List En) (r : Int) : -1 ≤ valE nv l r ∧ valE nv l r < nv := by
  rcases List.eq_nil_or_concat l with rfl | ⟨s, e, rfl⟩
  · exact ⟨Int.le_refl _, by show (-1 : Int) < nv; omega⟩
  · rw [List.concat_eq_append, valE_snoc]
    split
    · rename_i h
      exact ⟨by have := h.1; omega, h.2.1⟩
    · exact valE_in nv s r
termination_by l.length
decreasing_by subst_vars; simp
/-- A trie of one's own: all its blocks are base's or younger. -/
structure TrieO {α : Type} (kd : Kd α) (tT : TypeId) (base : Nat) (w : World) (T : Nat) (vals : List α) (F : Int → Option Int) (B : List (List Int)) : Prop where mk ::
  out : ∃ V m n bl eT, w.heap[T]? = some (.cells #[V, .map (some m), bl] tT (0, 0)) ∧ base ≤ T ∧ Own kd eT w base V vals ∧ FMap w m n F ∧ base ≤ m ∧ Own kC 36 w base bl B ∧ n ≤ 100000 ∧ ∀ b, F b ≠ none → 0 ≤ b ∧ b ≤ 4351
section
variable {α : Type} {kd : Kd α} {tT : TypeId} {base : Nat} {w w1 : World} {T : Nat} {vals : List α} {F : Int → Option Int} {B : List (List Int)}
theorem TrieO.read (h : TrieO kd tT base w T vals F B) : TrieR kd tT w T vals F B := by
  obtain ⟨V, m, n, bl, eT, h1, h2, h3, h4, h5, h6, h7⟩ := h.out
  exact ⟨V, m, n, bl, h1, RdS.of_R h3, h4, RdS.of_R h6⟩
theorem own_move_base {d : Kd α} {e : Nat} {v : Value} {xs : List α} (h : Own d e w base v xs) (hm : ∀ k, base ≤ k → k < w.heap.size → w1.heap[k]? = w.heap[k]?) : Own d e w1 base v xs :=
  Kd.R_mono (Kd.R_move (Kd.R_bound h) (fun k hk => hm k hk.2.1 hk.2.2.1)) (fun _ _ => trivial)
theorem TrieO.move (h : TrieO kd tT base w T vals F B) (hm : ∀ k, base ≤ k → k < w.heap.size → w1.heap[k]? = w.heap[k]?) : TrieO kd tT base w1 T vals F B := by
  obtain ⟨V, m, n, bl, eT, h1, h2, h3, h4, h5, h6, h7⟩ := h.out
  exact ⟨V, m, n, bl, eT, (hm T h2 (Array.getElem?_eq_some_iff.1 h1).1).trans h1, h2, own_move_base h3 hm, h4.move (hm m h5 h4.lt), h5, own_move_base h6 hm, h7⟩
theorem TrieO.below (h : TrieO kd tT base w T vals F B) (hb : Below w.heap.size w w1) : TrieO kd tT base w1 T vals F B := h.move (fun k _ hk => hb.block k hk)
theorem FS.own {eT : TypeId} {wk w0 : World} {m hb : Nat} {V bl : Value} {nf nh : Nat} {H : Int → Option Int} (h : FS kd eT tT wk w0 base w T m hb V bl vals nf nh F H B) (hn : nf ≤ 100000) : TrieO kd tT base w T vals F B := ⟨⟨V, m, nf, bl, eT, h.hT, h.bT, h.hV, h.hF, h.bm, h.hB, hn, h.keys⟩⟩
end
/-- What Build leaves: a trie of its own. -/
def BuildRet {α : Type} (kd : Kd α) (tT : TypeId) (w : World) (l : List En) (vals : List α) (e : Ending) (w' : World) : Prop :=
  ∃ T F H B, e = .returned (.pointer (some ⟨T, 0, none⟩)) ∧ TrieO kd tT w.heap.size w' T vals F B ∧ TInv F H B ∧ VInv vals.length B ∧ (∀ r, 0 ≤ r → r ≤ 1114111 → cellOf F B r = valE vals.length l r) ∧ Below w.heap.size w w'
theorem onE_cut {nv : Nat} {a b v lo hi r : Int} (hlo : (if a < 0 then 0 else a) = lo) (hhi : (if 1114111 < b then 1114111 else b) = hi) (h0 : 0 ≤ r) (h1 : r ≤ 1114111) : onE nv (a, b, v) r ↔ 0 ≤ v ∧ v < nv ∧ lo ≤ r ∧ r ≤ hi := by
  unfold onE
  show (0 ≤ v ∧ v < nv ∧ a ≤ r ∧ r ≤ b) ↔ _
  rw [← hlo, ← hhi]
  constructor
  · rintro ⟨p, q, s, t⟩
    refine ⟨p, q, ?_, ?_⟩ <;> split <;> omega
  · rintro ⟨p, q, s, t⟩
    refine ⟨p, q, ?_, ?_⟩
    · split at s <;> omega
    · split at t <;> omega


end Go.Proofs.Ytpgnfccamcefgab

/- Walks of the laws' helpers over entries: few, slices.Clone. -/
namespace Go.Proofs.Ytpgnfccamcefgab
set_option linter.unusedVariables false
set_option linter.unusedSimpArgs false
open Go.RowKit Go.Proofs.YtpgnfccamcefgabW.PrintWords Go.Proofs.YtpgnfccamcefgabW.PrintLast Go.Proofs.YtpgnfccamcefgabW.PrintMore
attribute [local go_sem] max2_int min2_int max_two min_two

set_option maxHeartbeats 400000 in
set_option maxRecDepth 100000 in
theorem few_any (w : World) (v : Value) (l : List En) (h : RdS kE w v l) :
    Calls Try.prog 4 #[v] w fun e w' => ∃ v', e = .returned v' ∧ RdS kE w v' (l.take 12) ∧ w = w' := by
  obtain ⟨A, c, rfl, hc, hr⟩ := h
  obtain ⟨i0, hi0, _, hsz, _⟩ := info_parts Try.infoE
  obtain ⟨m, hm, hm2⟩ : ∃ m : Nat, (if (12 : Int) < (l.length : Int) then (12 : Int) else (l.length : Int)) = (m : Int) ∧ m = min 12 l.length := by
    by_cases h : (12 : Int) < (l.length : Int)
    · exact ⟨12, by rw [if_pos h]; rfl, by omega⟩
    · exact ⟨l.length, by rw [if_neg h], by omega⟩
  have hcut := cut_to (P := Try.prog) 22 43 .i64 Try.underlying22 hi0 A l.length c (m : Int) (by omega) (by omega) hc
  have hfin : RdS kE w (.slice A m c) (l.take 12) := by
    have hl : (l.take 12).length = m := by rw [List.length_take]; omega
    refine ⟨A, c, by rw [hl], by omega, ?_⟩
    have h3 : l.take 12 = l.take m := by
      rcases Nat.le_total 12 l.length with h | h
      · rw [hm2, Nat.min_eq_left h]
      · rw [List.take_of_length_le h, hm2, Nat.min_eq_right h, List.take_length]
    rw [h3]
    exact Kd.C_take hr (by omega)
  have HF := Aside0.mk hfin
  clear hfin hr hm2
  go_enter Try.func4, Try.ntmps4
  go_wp2
  go_ret
  exact ⟨_, rfl, by simpa using HF.out, rfl⟩

end Go.Proofs.Ytpgnfccamcefgab
