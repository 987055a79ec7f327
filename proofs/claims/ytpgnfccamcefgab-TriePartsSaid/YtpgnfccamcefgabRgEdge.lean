/- The reference's sets of two: edges, between which nothing changes; ranges laid one behind the other. Pure: no program. -/
import Derived.Test.YtpgnfccamcefgabRgMk
namespace Go.Proofs.Ytpgnfccamcefgab
set_option linter.unusedVariables false
set_option linter.unusedSimpArgs false

def edgeLo (p : Rg) : List Int := if 0 < p.1 ∧ p.1 ≤ 1114111 then [p.1] else []
def edgeHi (p : Rg) : List Int := if 0 ≤ p.2 ∧ p.2 < 1114111 then [p.2 + 1] else []
def edgesL (l : List Rg) : List Int := 0 :: l.flatMap fun p => edgeLo p ++ edgeHi p
theorem edgesL_snoc (l : List Rg) (p : Rg) : edgesL (l ++ [p]) = edgesL l ++ edgeLo p ++ edgeHi p := by
  unfold edgesL
  simp [List.flatMap_append]
theorem edgeLo_len (p : Rg) : (edgeLo p).length ≤ 1 := by unfold edgeLo; split <;> simp
theorem edgeHi_len (p : Rg) : (edgeHi p).length ≤ 1 := by unfold edgeHi; split <;> simp
theorem edgesL_len (l : List Rg) : (edgesL l).length ≤ 2 * l.length + 1 := by
  unfold edgesL
  induction l with
  | nil => simp
  | cons p t ih =>
    have := edgeLo_len p
    have := edgeHi_len p
    simp only [List.flatMap_cons, List.length_cons, List.length_append] at ih ⊢
    omega
theorem edgeLo_mem {l : List Rg} {p : Rg} (hp : p ∈ l) (h0 : 0 < p.1) (h1 : p.1 ≤ 1114111) : p.1 ∈ edgesL l :=
  List.mem_cons_of_mem _ (List.mem_flatMap.2 ⟨p, hp, List.mem_append_left _ (by unfold edgeLo; rw [if_pos ⟨h0, h1⟩]; exact List.mem_singleton.2 rfl)⟩)
theorem edgeHi_mem {l : List Rg} {p : Rg} (hp : p ∈ l) (h0 : 0 ≤ p.2) (h1 : p.2 < 1114111) : p.2 + 1 ∈ edgesL l :=
  List.mem_cons_of_mem _ (List.mem_flatMap.2 ⟨p, hp, List.mem_append_right _ (by unfold edgeHi; rw [if_pos ⟨h0, h1⟩]; exact List.mem_singleton.2 rfl)⟩)
theorem edgesL_range {l : List Rg} {e : Int} (h : e ∈ edgesL l) : 0 ≤ e ∧ e ≤ 1114111 := by
  rcases List.mem_cons.1 h with rfl | h
  · omega
  · obtain ⟨p, _, hp⟩ := List.mem_flatMap.1 h
    rcases List.mem_append.1 hp with hp | hp
    · unfold edgeLo at hp
      split at hp
      · have := List.mem_singleton.1 hp; omega
      · cases hp
    · unfold edgeHi at hp
      split at hp
      · have := List.mem_singleton.1 hp; omega
      · cases hp

/-- Where no edge lies between, a list holds both code points, or neither. -/
theorem mem_same {l L : List Rg} {a x : Int} (hl : ∀ p ∈ l, p ∈ L) (h0 : 0 ≤ a) (hax : a ≤ x) (h1 : x ≤ 1114111) (he : ∀ e ∈ edgesL L, e ≤ a ∨ x < e) : Mem x l ↔ Mem a l := by
  constructor
  · rintro ⟨p, hp, h2, h3⟩
    refine ⟨p, hp, ?_, by omega⟩
    rcases Int.lt_or_le a p.1 with h | h
    · have := he _ (edgeLo_mem (hl p hp) (by omega) (by omega))
      omega
    · exact h
  · rintro ⟨p, hp, h2, h3⟩
    refine ⟨p, hp, by omega, ?_⟩
    rcases Int.lt_or_le p.2 x with h | h
    · have := he _ (edgeHi_mem (hl p hp) (by omega) (by omega))
      omega
    · exact h
theorem hasB_same {l L : List Rg} {a x : Int} (hl : ∀ p ∈ l, p ∈ L) (h0 : 0 ≤ a) (hax : a ≤ x) (h1 : x ≤ 1114111) (he : ∀ e ∈ edgesL L, e ≤ a ∨ x < e) : hasB l x = hasB l a := by
  rw [Bool.eq_iff_iff, hasB_iff, hasB_iff, mem_same hl h0 hax h1 he]
  constructor
  · rintro ⟨_, _, h⟩; exact ⟨h0, by omega, h⟩
  · rintro ⟨_, _, h⟩; exact ⟨by omega, h1, h⟩

/-- Up to E the ranges are the set of what P tells. -/
structure BInv (P : Int → Bool) (E : Int) (out : List Rg) : Prop where
  canon : Canon out
  mem : ∀ x, Mem x out ↔ 0 ≤ x ∧ x < E ∧ P x = true
theorem BInv.start (P : Int → Bool) : BInv P 0 [] := ⟨trivial, fun x => ⟨fun h => absurd h (mem_nil x), fun h => by omega⟩⟩
theorem BInv.skip {P : Int → Bool} {lo hi : Int} {out : List Rg} (h : BInv P lo out) (hc : ∀ x, lo ≤ x → x ≤ hi → P x = P lo) (hp : P lo = false) (hl : lo ≤ hi) : BInv P (hi + 1) out :=
  ⟨h.canon, fun x => by
    rw [h.mem x]
    constructor
    · rintro ⟨h0, h1, h2⟩; exact ⟨h0, by omega, h2⟩
    · rintro ⟨h0, h1, h2⟩
      refine ⟨h0, ?_, h2⟩
      rcases Int.lt_or_le x lo with h3 | h3
      · exact h3
      · rw [hc x h3 (by omega), hp] at h2; cases h2⟩
theorem BInv.tells {P : Int → Bool} {lo hi : Int} {out : List Rg} (h : BInv P lo out) (hc : ∀ x, lo ≤ x → x ≤ hi → P x = P lo) (hp : P lo = true) (h0 : 0 ≤ lo) (hl : lo ≤ hi) (x : Int) : (Mem x out ∨ (lo ≤ x ∧ x ≤ hi)) ↔ 0 ≤ x ∧ x < hi + 1 ∧ P x = true := by
  rw [h.mem x]
  constructor
  · rintro (⟨h1, h2, h3⟩ | ⟨h1, h2⟩)
    · exact ⟨h1, by omega, h3⟩
    · exact ⟨by omega, by omega, by rw [hc x h1 h2, hp]⟩
  · rintro ⟨h1, h2, h3⟩
    rcases Int.lt_or_le x lo with h4 | h4
    · exact .inl ⟨h1, h4, h3⟩
    · exact .inr ⟨h4, by omega⟩
theorem BInv.first {P : Int → Bool} {lo hi : Int} (h : BInv P lo []) (hc : ∀ x, lo ≤ x → x ≤ hi → P x = P lo) (hp : P lo = true) (h0 : 0 ≤ lo) (hl : lo ≤ hi) (hh : hi ≤ 1114111) : BInv P (hi + 1) [(lo, hi)] := by
  refine ⟨⟨by omega, hl, hh, trivial⟩, fun x => ?_⟩
  rw [← BInv.tells h hc hp h0 hl x, mem_cons]
  have := mem_nil x
  constructor
  · rintro (h | h)
    · exact .inr h
    · exact absurd h this
  · rintro (h | h)
    · exact absurd h this
    · exact .inl h
theorem BInv.more {P : Int → Bool} {lo hi : Int} {t : List Rg} {q : Rg} (h : BInv P lo (t ++ [q])) (hc : ∀ x, lo ≤ x → x ≤ hi → P x = P lo) (hp : P lo = true) (h0 : 0 ≤ lo) (hl : lo ≤ hi) (hh : hi ≤ 1114111) (hq : q.2 ≠ lo - 1) : BInv P (hi + 1) (t ++ [q] ++ [(lo, hi)]) := by
  refine ⟨(canonFrom_snoc 0 (t ++ [q]) (lo, hi)).2 ⟨h.canon, ?_, hl, hh⟩, fun x => by rw [mem_snoc]; exact BInv.tells h hc hp h0 hl x⟩
  rw [lastHi_snoc]
  have hk := (canonFrom_snoc 0 t q).1 h.canon
  have h2 : Mem q.2 (t ++ [q]) := (mem_snoc _ _ _).2 (.inr ⟨hk.2.2.1, Int.le_refl _⟩)
  have h3 := (h.mem q.2).1 h2
  show q.2 + 2 ≤ lo
  omega
theorem BInv.join {P : Int → Bool} {lo hi : Int} {t : List Rg} {q : Rg} (h : BInv P lo (t ++ [q])) (hc : ∀ x, lo ≤ x → x ≤ hi → P x = P lo) (hp : P lo = true) (h0 : 0 ≤ lo) (hl : lo ≤ hi) (hh : hi ≤ 1114111) (hq : q.2 = lo - 1) : BInv P (hi + 1) (t ++ [(q.1, hi)]) := by
  have hk := (canonFrom_snoc 0 t q).1 h.canon
  have hk1 := hk.2.2.1
  refine ⟨(canonFrom_snoc 0 t (q.1, hi)).2 ⟨hk.1, hk.2.1, by show q.1 ≤ hi; omega, hh⟩, fun x => ?_⟩
  rw [← BInv.tells h hc hp h0 hl x, mem_snoc, mem_snoc]
  show Mem x t ∨ (q.1 ≤ x ∧ x ≤ hi) ↔ (Mem x t ∨ (q.1 ≤ x ∧ x ≤ q.2)) ∨ (lo ≤ x ∧ x ≤ hi)
  constructor
  · rintro (h | h)
    · exact .inl (.inl h)
    · rcases Int.lt_or_le x lo with h4 | h4
      · exact .inl (.inr ⟨h.1, by omega⟩)
      · exact .inr ⟨h4, h.2⟩
  · rintro ((h | h) | h)
    · exact .inl h
    · exact .inr ⟨h.1, by omega⟩
    · exact .inr ⟨by omega, h.2⟩
/-- The edge behind edge k, or the end. -/
def nextE (s : List Int) (k : Nat) : Int := s.getD k 1114112
theorem nextE_lt {s : List Int} {k : Nat} (h : k < s.length) : nextE s k = s[k] := by simp [nextE, h]
theorem nextE_ge {s : List Int} {k : Nat} (h : ¬ k < s.length) : nextE s k = 1114112 := by simp [nextE]; rw [List.getElem?_eq_none (by omega)]; rfl
theorem between {L : List Rg} {s : List Int} (hs : s.Pairwise (· < ·)) (hm : ∀ y, y ∈ s ↔ y ∈ edgesL L) (k : Nat) (hk : k < s.length) : 0 ≤ s[k] ∧ s[k] ≤ nextE s (k + 1) - 1 ∧ nextE s (k + 1) - 1 ≤ 1114111 ∧
    ∀ x, s[k] ≤ x → x ≤ nextE s (k + 1) - 1 → ∀ e ∈ edgesL L, e ≤ s[k] ∨ x < e := by
  have hr := edgesL_range ((hm _).1 (List.getElem_mem hk))
  have hlt : ∀ i j (hi : i < s.length) (hj : j < s.length), i < j → s[i] < s[j] := fun i j hi hj h => List.pairwise_iff_getElem.1 hs i j hi hj h
  have hall : ∀ e ∈ edgesL L, e ≤ s[k] ∨ nextE s (k + 1) ≤ e := by
    intro e he
    obtain ⟨i, hi, rfl⟩ := List.getElem_of_mem ((hm e).2 he)
    rcases Nat.lt_trichotomy i k with h | h | h
    · have := hlt i k hi hk h; exact .inl (by omega)
    · subst h; exact .inl (Int.le_refl _)
    · refine .inr ?_
      rw [nextE_lt (show k + 1 < s.length by omega)]
      rcases Nat.lt_or_ge (k + 1) i with h2 | h2
      · have := hlt (k + 1) i (by omega) hi h2; omega
      · have : i = k + 1 := by omega
        subst this; exact Int.le_refl _
  refine ⟨hr.1, ?_, ?_, fun x h1 h2 e he => by rcases hall e he with h | h; exact .inl h; exact .inr (by omega)⟩
  · by_cases h : k + 1 < s.length
    · rw [nextE_lt h]; have := hlt k (k + 1) hk h (by omega); omega
    · rw [nextE_ge h]; omega
  · by_cases h : k + 1 < s.length
    · rw [nextE_lt h]; have := edgesL_range ((hm _).1 (List.getElem_mem h)); omega
    · rw [nextE_ge h]; omega
theorem first0 {L : List Rg} {s : List Int} (hs : s.Pairwise (· < ·)) (hm : ∀ y, y ∈ s ↔ y ∈ edgesL L) : nextE s 0 = 0 := by
  obtain ⟨i, hi, h⟩ := List.getElem_of_mem ((hm 0).2 (List.mem_cons_self ..))
  rw [nextE_lt (show 0 < s.length by omega)]
  rcases Nat.eq_zero_or_pos i with h0 | h0
  · subst h0; exact h
  · have h1 := List.pairwise_iff_getElem.1 hs 0 i (by omega) hi h0
    have h2 := (edgesL_range ((hm _).1 (List.getElem_mem (show 0 < s.length by omega)))).1
    omega

end Go.Proofs.Ytpgnfccamcefgab
