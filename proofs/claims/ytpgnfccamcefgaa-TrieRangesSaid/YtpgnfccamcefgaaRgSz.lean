/- How many code points a set has: the sum over its ranges is the number of those that it holds. Pure: no program. -/
import Derived.Test.YtpgnfccamcefgaaRgMk
namespace Go.Proofs.Ytpgnfccamcefgaa
set_option linter.unusedVariables false
set_option linter.unusedSimpArgs false

def sizeL : List Rg → Int
  | [] => 0
  | p :: t => (p.2 - p.1 + 1) + sizeL t
theorem sizeL_snoc (l : List Rg) (p : Rg) : sizeL (l ++ [p]) = sizeL l + (p.2 - p.1 + 1) := by
  induction l with
  | nil => simp [sizeL]
  | cons q t ih => rw [List.cons_append, sizeL, sizeL, ih]; omega
theorem sizeL_bound : ∀ (l : List Rg) (a : Int), a ≤ 1114114 → CanonFrom a l → 0 ≤ sizeL l ∧ sizeL l ≤ 1114114 - a
  | [], a, h, _ => ⟨Int.le_refl _, by show (0 : Int) ≤ _; omega⟩
  | p :: t, a, h, hc => by
    obtain ⟨h1, h2, h3, h4⟩ := hc
    have := sizeL_bound t (p.2 + 2) (by omega) h4
    rw [sizeL]
    omega
theorem canonFrom_take {l : List Rg} {a : Int} (h : CanonFrom a l) (k : Nat) : CanonFrom a (l.take k) := by
  induction l generalizing a k with
  | nil => simp [CanonFrom]
  | cons p t ih =>
    cases k with
    | zero => trivial
    | succ k => exact ⟨h.1, h.2.1, h.2.2.1, ih h.2.2.2 k⟩
theorem sizeL_take {l : List Rg} (h : Canon l) (k : Nat) : 0 ≤ sizeL (l.take k) ∧ sizeL (l.take k) ≤ 1114114 := by
  have := sizeL_bound (l.take k) 0 (by omega) (canonFrom_take h k)
  omega

/-- How many of the n numbers from a on p holds. -/
def cnt (p : Int → Bool) : Nat → Int → Int
  | 0, _ => 0
  | n + 1, a => (bif p a then 1 else 0) + cnt p n (a + 1)
theorem cnt_congr {p q : Int → Bool} : ∀ (n : Nat) (a : Int), (∀ x, a ≤ x → x < a + n → p x = q x) → cnt p n a = cnt q n a
  | 0, _, _ => rfl
  | n + 1, a, h => by
    rw [cnt, cnt, h a (Int.le_refl _) (by omega), cnt_congr n (a + 1) (fun x h1 h2 => h x (by omega) (by omega))]
theorem cnt_add (p : Int → Bool) : ∀ (m n : Nat) (a : Int), cnt p (m + n) a = cnt p m a + cnt p n (a + m)
  | 0, n, a => by rw [Nat.zero_add, cnt]; simp
  | m + 1, n, a => by
    have e : m + 1 + n = (m + n) + 1 := by omega
    rw [e, cnt, cnt, cnt_add p m n (a + 1)]
    have e2 : a + 1 + (m : Int) = a + ((m + 1 : Nat) : Int) := by omega
    rw [e2]
    omega
theorem cnt_none {p : Int → Bool} : ∀ (n : Nat) (a : Int), (∀ x, a ≤ x → x < a + n → p x = false) → cnt p n a = 0
  | 0, _, _ => rfl
  | n + 1, a, h => by
    rw [cnt, h a (Int.le_refl _) (by omega), cnt_none n (a + 1) (fun x h1 h2 => h x (by omega) (by omega))]
    rfl
theorem cnt_all {p : Int → Bool} : ∀ (n : Nat) (a : Int), (∀ x, a ≤ x → x < a + n → p x = true) → cnt p n a = n
  | 0, _, _ => rfl
  | n + 1, a, h => by
    rw [cnt, h a (Int.le_refl _) (by omega), cnt_all n (a + 1) (fun x h1 h2 => h x (by omega) (by omega))]
    simp
    omega
theorem cnt_or (p q : Int → Bool) : ∀ (n : Nat) (a : Int), cnt (fun x => p x || q x) n a + cnt (fun x => p x && q x) n a = cnt p n a + cnt q n a
  | 0, _ => rfl
  | n + 1, a => by
    have := cnt_or p q n (a + 1)
    simp only [cnt]
    cases p a <;> cases q a <;> simp <;> omega
theorem cnt_not (p : Int → Bool) : ∀ (n : Nat) (a : Int), cnt (fun x => !p x) n a = n - cnt p n a
  | 0, _ => rfl
  | n + 1, a => by
    have := cnt_not p n (a + 1)
    simp only [cnt]
    cases p a <;> simp <;> omega

def memB (l : List Rg) (x : Int) : Bool := l.any (fun p => decide (p.1 ≤ x) && decide (x ≤ p.2))
theorem memB_iff (l : List Rg) (x : Int) : memB l x = true ↔ Mem x l := by unfold memB Mem; simp
theorem memB_cons (p : Rg) (t : List Rg) (x : Int) : memB (p :: t) x = ((decide (p.1 ≤ x) && decide (x ≤ p.2)) || memB t x) := rfl

/-- A set's size is how many it holds. -/
theorem sizeL_cnt : ∀ (l : List Rg) (a : Int) (n : Nat), CanonFrom a l → a + n = 1114112 → sizeL l = cnt (memB l) n a
  | [], a, n, _, _ => by rw [cnt_none (p := memB []) n a (fun x _ _ => rfl)]; rfl
  | p :: t, a, n, hc, hn => by
    obtain ⟨h1, h2, h3, h4⟩ := hc
    obtain ⟨i, hi⟩ : ∃ i : Nat, (i : Int) = p.1 - a := ⟨(p.1 - a).toNat, by omega⟩
    obtain ⟨j, hj⟩ : ∃ j : Nat, (j : Int) = p.2 - p.1 + 1 := ⟨(p.2 - p.1 + 1).toNat, by omega⟩
    obtain ⟨k, hk⟩ : ∃ k : Nat, n = i + (j + k) := ⟨n - i - j, by omega⟩
    have hno : ∀ x, x < p.2 + 2 → memB t x = false := fun x hx => by
      cases h : memB t x with
      | false => rfl
      | true => have := canonFrom_lo h4 ((memB_iff t x).1 h); omega
    rw [hk, cnt_add, cnt_add, cnt_none i a (fun x g1 g2 => by rw [memB_cons, hno x (by omega)]; simp; omega), cnt_all j (a + i) (fun x g1 g2 => by rw [memB_cons]; simp; omega)]
    have e : cnt (memB (p :: t)) k (a + i + j) = cnt (memB t) k (a + i + j) := cnt_congr k _ (fun x g1 g2 => by rw [memB_cons]; simp; omega)
    rw [e, sizeL]
    have ha : a + (i : Int) + j = p.2 + 1 := by omega
    rw [ha]
    by_cases hk0 : k = 0
    · subst hk0
      have ht : t = [] := by
        cases t with
        | nil => rfl
        | cons q s => have := h4.1; have := h4.2.1; have := h4.2.2.1; omega
      subst ht
      simp [sizeL, cnt]
      omega
    · obtain ⟨m, rfl⟩ : ∃ m, k = m + 1 := ⟨k - 1, by omega⟩
      rw [cnt, hno (p.2 + 1) (by omega)]
      have e2 : p.2 + 1 + 1 = p.2 + 2 := by omega
      rw [e2, ← sizeL_cnt t (p.2 + 2) m h4 (by omega)]
      simp
      omega
theorem size_of_set {P : Int → Prop} {r : List Rg} (h : SetOf P r) : sizeL r = cnt (memB r) 1114112 0 := sizeL_cnt r 0 1114112 h.1 (by decide)

theorem memB_of {P : Int → Prop} {r : List Rg} (h : SetOf P r) {x : Int} (h0 : 0 ≤ x) (h1 : x ≤ 1114111) : memB r x = true ↔ P x := by
  rw [memB_iff, h.2 x]
  exact ⟨fun k => k.2.2, fun k => ⟨h0, h1, k⟩⟩
/-- The sizes of a union and of what is common, together, are both sizes. -/
theorem size_or_and {P Q : Int → Prop} {a b u m : List Rg} (ha : SetOf P a) (hb : SetOf Q b) (hu : SetOf (fun x => P x ∨ Q x) u) (hm : SetOf (fun x => P x ∧ Q x) m) : sizeL u + sizeL m = sizeL a + sizeL b := by
  rw [size_of_set ha, size_of_set hb, size_of_set hu, size_of_set hm, ← cnt_or (memB a) (memB b) 1114112 0]
  congr 1
  · refine cnt_congr _ _ fun x h0 h1 => ?_
    rw [Bool.eq_iff_iff, memB_of hu h0 (by omega), Bool.or_eq_true, memB_of ha h0 (by omega), memB_of hb h0 (by omega)]
  · refine cnt_congr _ _ fun x h0 h1 => ?_
    rw [Bool.eq_iff_iff, memB_of hm h0 (by omega), Bool.and_eq_true, memB_of ha h0 (by omega), memB_of hb h0 (by omega)]
theorem size_not {P : Int → Prop} {a n : List Rg} (ha : SetOf P a) (hn : SetOf (fun x => ¬ P x) n) : sizeL n = 1114112 - sizeL a := by
  have h := cnt_not (memB a) 1114112 0
  rw [size_of_set ha, size_of_set hn]
  have e : cnt (memB n) 1114112 0 = cnt (fun x => !memB a x) 1114112 0 := by
    refine cnt_congr _ _ fun x h0 h1 => ?_
    rw [Bool.eq_iff_iff, memB_of hn h0 (by omega), Bool.not_eq_true', Bool.eq_false_iff, ne_eq, memB_of ha h0 (by omega)]
  rw [e, h]
  rfl

end Go.Proofs.Ytpgnfccamcefgaa
