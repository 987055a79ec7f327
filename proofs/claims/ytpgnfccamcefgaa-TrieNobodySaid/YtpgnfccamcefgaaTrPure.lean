/- The trie as plain functions: which block, whole blocks, blocks; what a fill does to a code point's cell. Pure: no program. -/
namespace Go.Proofs.Ytpgnfccamcefgaa
set_option linter.unusedVariables false
set_option linter.unusedSimpArgs false

theorem rep_at {n j : Nat} (v : Int) (h : j < n) : (List.replicate n v).getD j 0 = v := by simp [h]
theorem len1 {α : Type} (c : α) : ([c] : List α).length = 1 := rfl

def upd (F : Int → Option Int) (b : Int) (k : Int) : Int → Option Int := fun x => if x = b then some k else F x
theorem upd_same (F : Int → Option Int) (b k : Int) : upd F b k b = some k := by simp [upd]
theorem upd_other (F : Int → Option Int) {b x : Int} (k : Int) (h : x ≠ b) : upd F b k x = F x := by simp [upd, h]

/-- The cell of a code point. -/
def cellOf (F : Int → Option Int) (B : List (List Int)) (r : Int) : Int := (B.getD ((F (r / 256)).getD 0).toNat []).getD (r % 256).toNat 0

structure TInv (F H : Int → Option Int) (B : List (List Int)) : Prop where
  len : ∀ c ∈ B, c.length = 256
  zero : 0 < B.length ∧ H (-1) = some 0
  firstIn : ∀ b k, F b = some k → 0 ≤ k ∧ k.toNat < B.length
  wholeIn : ∀ v k, H v = some k → 0 ≤ k ∧ k.toNat < B.length ∧ ∀ j, j < 256 → (B.getD k.toNat []).getD j 0 = v
  alone : ∀ b b' k, F b = some k → F b' = some k → b ≠ b' → ∃ v, H v = some k

/-- The block of a place: which it is. -/
def blkOf (F : Int → Option Int) (b : Int) : Int := (F b).getD 0
theorem TInv.blk_in {F H : Int → Option Int} {B : List (List Int)} (h : TInv F H B) (b : Int) : 0 ≤ blkOf F b ∧ (blkOf F b).toNat < B.length := by
  unfold blkOf
  cases e : F b with
  | none => exact ⟨Int.le_refl _, h.zero.1⟩
  | some k => exact h.firstIn b k e
theorem TInv.start : TInv (fun _ => none) (upd (fun _ => none) (-1) 0) [List.replicate 256 (-1)] where
  len := fun c hc => by rw [List.mem_singleton.1 hc]; exact List.length_replicate
  zero := ⟨Nat.one_pos, upd_same _ _ _⟩
  firstIn := fun b k h => by cases h
  wholeIn := fun v k h => by
    unfold upd at h
    split at h
    · cases h
      subst v
      exact ⟨Int.le_refl _, Nat.one_pos, fun j hj => rep_at _ hj⟩
    · cases h
  alone := fun b b' k h => by cases h
theorem cell_start (r : Int) : cellOf (fun _ => none) [List.replicate 256 (-1)] r = -1 := by
  have : (r % 256).toNat < 256 := by omega
  exact rep_at _ this

/-- A block is shared just if it is told as whole. -/
theorem TInv.shared {F H : Int → Option Int} {B : List (List Int)} (h : TInv F H B) {k : Int} (h0 : 0 ≤ k) (hk : k.toNat < B.length) : H ((B.getD k.toNat []).getD 0 0) = some k ↔ ∃ v, H v = some k := by
  constructor
  · exact fun e => ⟨_, e⟩
  · rintro ⟨v, e⟩
    rw [(h.wholeIn v k e).2.2 0 (by omega)]
    exact e

theorem getD_snoc_old {α : Type} {B : List α} {c d : α} {i : Nat} (h : i < B.length) : (B ++ [c]).getD i d = B.getD i d := by simp [List.getElem?_append_left h]
theorem getD_snoc_new {α : Type} {B : List α} {c d : α} : (B ++ [c]).getD B.length d = c := by simp

/-- All of a place has one value, and there is a block of it. -/
theorem TInv.whole_old {F H : Int → Option Int} {B : List (List Int)} (h : TInv F H B) {b v k : Int} (hv : H v = some k) : TInv (upd F b k) H B ∧ ∀ r, cellOf (upd F b k) B r = if r / 256 = b then v else cellOf F B r := by
  obtain ⟨h0, h1, h2⟩ := h.wholeIn v k hv
  refine ⟨⟨h.len, h.zero, fun x y e => ?_, h.wholeIn, fun x x' y e e' hne => ?_⟩, fun r => ?_⟩
  · unfold upd at e
    split at e
    · cases e; exact ⟨h0, h1⟩
    · exact h.firstIn x y e
  · by_cases hx : x = b
    · subst hx
      rw [upd_same] at e
      cases e
      exact ⟨v, hv⟩
    · by_cases hx' : x' = b
      · subst hx'
        rw [upd_same] at e'
        cases e'
        exact ⟨v, hv⟩
      · rw [upd_other _ _ hx] at e
        rw [upd_other _ _ hx'] at e'
        exact h.alone x x' y e e' hne
  · unfold cellOf
    by_cases hr : r / 256 = b
    · rw [if_pos hr, hr, upd_same]
      exact h2 _ (by omega)
    · rw [if_neg hr, upd_other _ _ hr]

theorem cellOf_snoc {F H : Int → Option Int} {B : List (List Int)} (h : TInv F H B) (c : List Int) (r : Int) : cellOf F (B ++ [c]) r = cellOf F B r := by
  have h1 := getD_snoc_old (c := c) (d := []) (h.blk_in (r / 256)).2
  unfold blkOf at h1
  unfold cellOf
  rw [h1]

/-- .. and there is none yet. -/
theorem TInv.whole_new {F H : Int → Option Int} {B : List (List Int)} (h : TInv F H B) {b v : Int} (hv : H v = none) : TInv (upd F b B.length) (upd H v B.length) (B ++ [List.replicate 256 v]) ∧ ∀ r, cellOf (upd F b B.length) (B ++ [List.replicate 256 v]) r = if r / 256 = b then v else cellOf F B r := by
  have hv1 : v ≠ -1 := fun e => by rw [e, h.zero.2] at hv; cases hv
  have hin : TInv F (upd H v B.length) (B ++ [List.replicate 256 v]) := by
    refine ⟨fun c hc => ?_, ⟨by rw [List.length_append, len1]; omega, ?_⟩, fun x y e => ?_, fun x y e => ?_, fun x x' y e e' hne => ?_⟩
    · rcases List.mem_append.1 hc with hc | hc
      · exact h.len c hc
      · rw [List.mem_singleton.1 hc]; exact List.length_replicate
    · rw [upd_other _ _ (Ne.symm hv1)]; exact h.zero.2
    · have := h.firstIn x y e
      exact ⟨this.1, by rw [List.length_append, len1]; omega⟩
    · unfold upd at e
      split at e
      · cases e
        subst x
        refine ⟨by omega, by rw [List.length_append, len1]; omega, fun j hj => ?_⟩
        rw [Int.toNat_natCast, getD_snoc_new]
        exact rep_at _ hj
      · have := h.wholeIn x y e
        refine ⟨this.1, by rw [List.length_append, len1]; omega, fun j hj => ?_⟩
        rw [getD_snoc_old this.2.1]
        exact this.2.2 j hj
    · obtain ⟨u, hu⟩ := h.alone x x' y e e' hne
      refine ⟨u, ?_⟩
      rw [upd_other _ _ (fun e2 => by rw [e2, hv] at hu; cases hu)]
      exact hu
  have h2 := hin.whole_old (b := b) (upd_same H v B.length)
  exact ⟨h2.1, fun r => by rw [h2.2 r, cellOf_snoc h]⟩

/-- A block of its own is written. -/
def paint (old : List Int) (f c : Nat) (v : Int) : List Int := (List.range 256).map fun j => if f ≤ j ∧ j < c then v else old.getD j 0
theorem paint_len (old : List Int) (f c : Nat) (v : Int) : (paint old f c v).length = 256 := by simp [paint]
theorem paint_at (old : List Int) (f c : Nat) (v : Int) {j : Nat} (h : j < 256) : (paint old f c v).getD j 0 = if f ≤ j ∧ j < c then v else old.getD j 0 := by simp [paint, h]
theorem paint_none (old : List Int) (f : Nat) (v : Int) (h : old.length = 256) : paint old f f v = old := by
  refine List.ext_getElem (by simp [paint, h]) fun i h1 h2 => ?_
  have : ¬ (f ≤ i ∧ i < f) := by omega
  simp [paint, this, h2]
theorem paint_step (old : List Int) (f c : Nat) (v : Int) (h : f ≤ c) (hc : c < 256) : (paint old f c v).set c v = paint old f (c + 1) v := by
  refine List.ext_getElem (by simp [paint]) fun i h1 h2 => ?_
  rw [List.getElem_set]
  by_cases e : c = i
  · subst e
    have : f ≤ c ∧ c < c + 1 := ⟨h, by omega⟩
    simp [paint, this]
  · have h3 : (f ≤ i ∧ i < c) ↔ (f ≤ i ∧ i < c + 1) := by omega
    simp [paint, e, h3]

/-- A place's block becomes a copy of its own. -/
theorem TInv.copy {F H : Int → Option Int} {B : List (List Int)} (h : TInv F H B) (b : Int) : TInv (upd F b B.length) H (B ++ [B.getD (blkOf F b).toNat []]) ∧ (∀ r, cellOf (upd F b B.length) (B ++ [B.getD (blkOf F b).toNat []]) r = cellOf F B r) ∧ ∀ v, H v ≠ some (B.length : Int) := by
  have hb := h.blk_in b
  have hcl : (B.getD (blkOf F b).toNat []).length = 256 := h.len _ (by
    have : B.getD (blkOf F b).toNat [] = B[(blkOf F b).toNat]'hb.2 := by simp [hb.2]
    rw [this]; exact List.getElem_mem hb.2)
  have hnone : ∀ v, H v ≠ some (B.length : Int) := fun v e => by have := (h.wholeIn v _ e).2.1; simp at this
  refine ⟨⟨fun c hc => ?_, ⟨by simp, h.zero.2⟩, fun x y e => ?_, fun x y e => ?_, fun x x' y e e' hne => ?_⟩, fun r => ?_, hnone⟩
  · rcases List.mem_append.1 hc with hc | hc
    · exact h.len c hc
    · rw [List.mem_singleton.1 hc]; exact hcl
  · unfold upd at e
    split at e
    · cases e; exact ⟨by omega, by simp⟩
    · have := h.firstIn x y e
      exact ⟨this.1, by rw [List.length_append, len1]; omega⟩
  · have := h.wholeIn x y e
    refine ⟨this.1, by rw [List.length_append, len1]; omega, fun j hj => ?_⟩
    rw [getD_snoc_old this.2.1]
    exact this.2.2 j hj
  · have hold : ∀ x y, x ≠ b → upd F b B.length x = some y → y.toNat < B.length := fun x y hx e => by
      rw [upd_other _ _ hx] at e
      exact (h.firstIn x y e).2
    by_cases hx : x = b
    · subst hx
      rw [upd_same] at e
      cases e
      have := hold x' _ (Ne.symm hne) e'
      simp at this
    · by_cases hx' : x' = b
      · subst hx'
        rw [upd_same] at e'
        cases e'
        have := hold x _ hne e
        simp at this
      · rw [upd_other _ _ hx] at e
        rw [upd_other _ _ hx'] at e'
        exact h.alone x x' y e e' hne
  · unfold cellOf
    by_cases hr : r / 256 = b
    · rw [hr, upd_same]
      show ((B ++ [_]).getD ((B.length : Int)).toNat []).getD _ _ = _
      rw [Int.toNat_natCast, getD_snoc_new]
      rfl
    · have h1 := getD_snoc_old (c := B.getD (blkOf F b).toNat []) (d := []) (h.blk_in (r / 256)).2
      unfold blkOf at h1 ⊢
      rw [upd_other _ _ hr, h1]

/-- A part of a place, whose block is its own, has one value. -/
theorem TInv.part {F H : Int → Option Int} {B : List (List Int)} (h : TInv F H B) {b k v : Int} {f c : Nat} (hF : F b = some k) (hH : ∀ v, H v ≠ some k) (hf : f < 256) (hc : c ≤ 256) :
    TInv F H (B.set k.toNat (paint (B.getD k.toNat []) f c v)) ∧ ∀ r, cellOf F (B.set k.toNat (paint (B.getD k.toNat []) f c v)) r = if r / 256 = b ∧ (f : Int) ≤ r % 256 ∧ r % 256 < c then v else cellOf F B r := by
  obtain ⟨k0, k1⟩ := h.firstIn b k hF
  have hother : ∀ (i : Nat) (d : List Int), i ≠ k.toNat → (B.set k.toNat d).getD i [] = B.getD i [] := fun i d hi => by simp [List.getElem?_set, Ne.symm hi]
  have hsame : ∀ d : List Int, (B.set k.toNat d).getD k.toNat [] = d := fun d => by simp [List.getElem?_set, k1]
  refine ⟨⟨fun c hc => ?_, ⟨by simpa using h.zero.1, h.zero.2⟩, fun x y e => by simpa using h.firstIn x y e, fun x y e => ?_, h.alone⟩, fun r => ?_⟩
  · rcases List.mem_or_eq_of_mem_set hc with hc | rfl
    · exact h.len c hc
    · exact paint_len _ _ _ _
  · have := h.wholeIn x y e
    have hne : y.toNat ≠ k.toNat := fun e2 => by
      have : y = k := by omega
      exact hH x (this ▸ e)
    rw [hother _ _ hne]
    exact ⟨this.1, by simpa using this.2.1, this.2.2⟩
  · unfold cellOf
    by_cases hr : r / 256 = b
    · rw [hr, hF]
      show ((B.set k.toNat _).getD k.toNat []).getD _ _ = _
      rw [hsame, paint_at _ _ _ _ (by omega)]
      have hm : 0 ≤ r % 256 := Int.emod_nonneg _ (by omega)
      by_cases e : (f : Int) ≤ r % 256 ∧ r % 256 < c
      · rw [if_pos (show f ≤ (r % 256).toNat ∧ (r % 256).toNat < c by omega), if_pos ⟨rfl, e⟩]
      · rw [if_neg (show ¬ (f ≤ (r % 256).toNat ∧ (r % 256).toNat < c) by omega), if_neg (fun h => e h.2)]
        rfl
    · have hne : ((F (r / 256)).getD 0).toNat ≠ k.toNat := fun e2 => by
        have hi := h.blk_in (r / 256)
        have e3 : blkOf F (r / 256) = k := by
          have : ((F (r / 256)).getD 0) = k := by unfold blkOf at hi; omega
          exact this
        unfold blkOf at e3
        cases e4 : F (r / 256) with
        | none =>
          rw [e4] at e3
          have : (0 : Int) = k := e3
          exact hH (-1) (this ▸ h.zero.2)
        | some y =>
          rw [e4] at e3
          have : y = k := e3
          subst this
          obtain ⟨u, hu⟩ := h.alone _ _ _ e4 hF hr
          exact hH u hu
      rw [hother _ _ hne]
      have : ¬ (r / 256 = b ∧ (f : Int) ≤ r % 256 ∧ r % 256 < c) := fun e => hr e.1
      rw [if_neg this]

end Go.Proofs.Ytpgnfccamcefgaa
