/- What Make, Not and Meet come to, as plain functions on lists, and that they are the sets. Pure: no program. -/
import Derived.Test.YtpgnfccamcefgabRgPure
namespace Go.Proofs.Ytpgnfccamcefgab
set_option linter.unusedVariables false
set_option linter.unusedSimpArgs false

def clampR (r : Rg) : Rg := (if r.1 < 0 then 0 else r.1, if 1114111 < r.2 then 1114111 else r.2)
def keepR (r : Rg) : Bool := decide ((clampR r).1 ≤ (clampR r).2)
/-- The ranges within 0..1114111 that hold something. -/
def clampL (l : List Rg) : List Rg := (l.filter keepR).map clampR
theorem clampL_snoc (l : List Rg) (r : Rg) : clampL (l ++ [r]) = if (clampR r).1 ≤ (clampR r).2 then clampL l ++ [clampR r] else clampL l := by
  unfold clampL
  rw [List.filter_append]
  by_cases h : (clampR r).1 ≤ (clampR r).2
  · rw [if_pos h]; simp [keepR, h]
  · rw [if_neg h]; simp [keepR, h]
theorem clampL_len (l : List Rg) : (clampL l).length ≤ l.length := by
  unfold clampL
  rw [List.length_map]
  exact List.length_filter_le _ _
def OkR (p : Rg) : Prop := 0 ≤ p.1 ∧ p.1 ≤ p.2 ∧ p.2 ≤ 1114111
theorem clampL_ok {l : List Rg} {p : Rg} (h : p ∈ clampL l) : OkR p := by
  unfold clampL at h
  obtain ⟨r, hr, rfl⟩ := List.mem_map.1 h
  have h2 := (List.mem_filter.1 hr).2
  have h3 : (clampR r).1 ≤ (clampR r).2 := of_decide_eq_true h2
  refine ⟨?_, h3, ?_⟩
  · unfold clampR; show 0 ≤ (if r.1 < 0 then 0 else r.1); split <;> omega
  · unfold clampR; show (if 1114111 < r.2 then 1114111 else r.2) ≤ 1114111; split <;> omega
theorem clampR_iff (r : Rg) (x : Int) : ((clampR r).1 ≤ x ∧ x ≤ (clampR r).2) ↔ (0 ≤ x ∧ x ≤ 1114111 ∧ r.1 ≤ x ∧ x ≤ r.2) := by
  unfold clampR
  show ((if r.1 < 0 then 0 else r.1) ≤ x ∧ x ≤ (if 1114111 < r.2 then 1114111 else r.2)) ↔ _
  split <;> split <;> omega
theorem mem_clampL (l : List Rg) (x : Int) : Mem x (clampL l) ↔ (0 ≤ x ∧ x ≤ 1114111 ∧ Mem x l) := by
  constructor
  · rintro ⟨p, hp, hx⟩
    unfold clampL at hp
    obtain ⟨r, hr, rfl⟩ := List.mem_map.1 hp
    have h := (clampR_iff r x).1 hx
    exact ⟨h.1, h.2.1, r, (List.mem_filter.1 hr).1, h.2.2⟩
  · rintro ⟨h0, h1, r, hr, hx⟩
    have h := (clampR_iff r x).2 ⟨h0, h1, hx⟩
    refine ⟨clampR r, ?_, h⟩
    unfold clampL
    exact List.mem_map.2 ⟨r, List.mem_filter.2 ⟨hr, decide_eq_true (by omega)⟩, rfl⟩

/-! ### ranges that come in order, joined -/
def mergeStep (out : List Rg) (r : Rg) : List Rg :=
  if 0 < out.length ∧ r.1 ≤ (out.getD (out.length - 1) (0, 0)).2 + 1 then
    out.set (out.length - 1) ((out.getD (out.length - 1) (0, 0)).1, if (out.getD (out.length - 1) (0, 0)).2 < r.2 then r.2 else (out.getD (out.length - 1) (0, 0)).2)
  else out ++ [r]
def mergeL (l : List Rg) : List Rg := l.foldl mergeStep []
theorem mergeL_snoc (l : List Rg) (r : Rg) : mergeL (l ++ [r]) = mergeStep (mergeL l) r := by unfold mergeL; rw [List.foldl_append]; rfl
theorem mergeStep_nil (r : Rg) : mergeStep [] r = [r] := by unfold mergeStep; simp
theorem mergeStep_snoc (t : List Rg) (q r : Rg) : mergeStep (t ++ [q]) r = if r.1 ≤ q.2 + 1 then t ++ [(q.1, if q.2 < r.2 then r.2 else q.2)] else t ++ [q] ++ [r] := by
  have hl : (t ++ [q]).length - 1 = t.length := by simp
  have hg : (t ++ [q]).getD t.length (0, 0) = q := by simp
  unfold mergeStep
  rw [hl, hg]
  have hp : 0 < (t ++ [q]).length := by simp
  by_cases h : r.1 ≤ q.2 + 1
  · rw [if_pos ⟨hp, h⟩, if_pos h]
    simp
  · rw [if_neg (fun hh => h hh.2), if_neg h]
theorem mergeStep_len (out : List Rg) (r : Rg) : (mergeStep out r).length ≤ out.length + 1 := by
  unfold mergeStep
  split
  · simp
  · simp
theorem mergeL_len (l : List Rg) : (mergeL l).length ≤ l.length := by
  unfold mergeL
  have : ∀ (l out : List Rg), (l.foldl mergeStep out).length ≤ out.length + l.length := by
    intro l
    induction l with
    | nil => intro out; simp
    | cons r t ih =>
      intro out
      have h1 := ih (mergeStep out r)
      have h2 := mergeStep_len out r
      rw [List.foldl_cons, List.length_cons]
      omega
  simpa using this l []

/-- Rising beginnings. -/
def Rising (l : List Rg) : Prop := l.Pairwise (fun p q => p.1 ≤ q.1)

theorem mergeL_set (l : List Rg) (hs : Rising l) (hok : ∀ p ∈ l, OkR p) : Canon (mergeL l) ∧ (∀ x, Mem x (mergeL l) ↔ Mem x l) ∧ (∀ p, p ∈ mergeL l → ∃ q ∈ l, p.1 = q.1) := by
  have key : ∀ (n : Nat) (l : List Rg), l.length = n → Rising l → (∀ p ∈ l, OkR p) → Canon (mergeL l) ∧ (∀ x, Mem x (mergeL l) ↔ Mem x l) ∧ (∀ p, p ∈ mergeL l → ∃ q ∈ l, p.1 = q.1) := by
    intro n
    induction n with
    | zero =>
      intro l hl _ _
      obtain rfl := List.length_eq_zero_iff.1 hl
      exact ⟨trivial, fun x => Iff.rfl, fun p hp => absurd hp (by simp [mergeL])⟩
    | succ n ih =>
      intro l hl hs hok
      obtain ⟨s, r, rfl⟩ : ∃ s r, l = s ++ [r] := by
        rcases List.eq_nil_or_concat l with he | ⟨s, r, he⟩
        · rw [he] at hl; simp at hl
        · exact ⟨s, r, by rw [he, List.concat_eq_append]⟩
      have hsl : s.length = n := by simpa using hl
      have hp := List.pairwise_append.1 hs
      obtain ⟨hc, hm, hb⟩ := ih s hsl hp.1 (fun p h => hok p (List.mem_append_left _ h))
      have hr := hok r (by simp)
      have hle : ∀ p ∈ mergeL s, p.1 ≤ r.1 := by
        intro p h
        obtain ⟨q, hq, he⟩ := hb p h
        have := hp.2.2 q hq r (by simp)
        omega
      rw [mergeL_snoc]
      rcases List.eq_nil_or_concat (mergeL s) with he | ⟨t, q, he⟩
      · rw [he, mergeStep_nil]
        refine ⟨⟨hr.1, hr.2.1, hr.2.2, trivial⟩, fun x => ?_, fun p h => ⟨r, by simp, by simp at h; rw [h]⟩⟩
        rw [mem_snoc, ← hm x, he, mem_cons]
        exact ⟨fun h => h.elim (fun h => .inr h) (fun h => absurd h (mem_nil x)), fun h => h.elim (fun h => absurd h (mem_nil x)) (fun h => .inl h)⟩
      · rw [List.concat_eq_append] at he
        rw [he] at hc hm hb hle ⊢
        rw [mergeStep_snoc]
        have hq := hle q (by simp)
        have hc1 := (canonFrom_snoc 0 t q).1 hc
        by_cases hlt : r.1 ≤ q.2 + 1
        · rw [if_pos hlt]
          obtain ⟨z, hz, hz1, hz2, hz3⟩ : ∃ z, (if q.2 < r.2 then r.2 else q.2) = z ∧ q.2 ≤ z ∧ r.2 ≤ z ∧ (z = q.2 ∨ z = r.2) := by
            split
            · exact ⟨_, rfl, by omega, by omega, .inr rfl⟩
            · exact ⟨_, rfl, by omega, by omega, .inl rfl⟩
          rw [hz]
          refine ⟨(canonFrom_snoc 0 t (q.1, z)).2 ⟨hc1.1, hc1.2.1, by show q.1 ≤ z; omega, by show z ≤ 1114111; have := hr.2.2; omega⟩, fun x => ?_, fun p h => ?_⟩
          · rw [mem_snoc, mem_snoc, ← hm x, mem_snoc]
            show (Mem x t ∨ q.1 ≤ x ∧ x ≤ z) ↔ (Mem x t ∨ q.1 ≤ x ∧ x ≤ q.2) ∨ r.1 ≤ x ∧ x ≤ r.2
            constructor
            · rintro (h | h)
              · exact .inl (.inl h)
              · by_cases hx : x ≤ q.2
                · exact .inl (.inr ⟨h.1, hx⟩)
                · refine .inr ⟨by omega, ?_⟩
                  rcases hz3 with h3 | h3 <;> omega
            · rintro ((h | h) | h)
              · exact .inl h
              · exact .inr ⟨h.1, by omega⟩
              · exact .inr ⟨by omega, by omega⟩
          · rcases List.mem_append.1 h with h | h
            · obtain ⟨y, hy, e⟩ := hb p (List.mem_append_left _ h)
              exact ⟨y, List.mem_append_left _ hy, e⟩
            · obtain ⟨y, hy, e⟩ := hb q (by simp)
              refine ⟨y, List.mem_append_left _ hy, ?_⟩
              rw [List.mem_singleton] at h
              rw [h]
              exact e
        · rw [if_neg hlt]
          refine ⟨(canonFrom_snoc 0 (t ++ [q]) r).2 ⟨hc, by rw [lastHi_snoc]; omega, hr.2.1, hr.2.2⟩, fun x => ?_, fun p h => ?_⟩
          · rw [mem_snoc, mem_snoc x s, hm x]
          · rcases List.mem_append.1 h with h | h
            · obtain ⟨y, hy, e⟩ := hb p h
              exact ⟨y, List.mem_append_left _ hy, e⟩
            · rw [List.mem_singleton] at h
              exact ⟨r, by simp, by rw [h]⟩
  exact key l.length l rfl hs hok

/-- What Make comes to: of the ranges, clamped, in some order in which their beginnings rise. -/
theorem make_set {l s : List Rg} (hp : (clampL l).Perm s) (hs : Rising s) : SetOf (fun x => Mem x l) (mergeL s) := by
  have h := mergeL_set s hs (fun p h => clampL_ok (hp.mem_iff.2 h))
  refine ⟨h.1, fun x => ?_⟩
  rw [h.2.1 x, ← mem_perm hp x, mem_clampL]

theorem mergeL_ok (l : List Rg) (hok : ∀ p ∈ l, OkR p) : ∀ q ∈ mergeL l, OkR q := by
  have key : ∀ (l out : List Rg), (∀ p ∈ l, OkR p) → (∀ p ∈ out, OkR p) → ∀ q ∈ l.foldl mergeStep out, OkR q := by
    intro l
    induction l with
    | nil => intro out _ h; exact h
    | cons r t ih =>
      intro out h1 h2
      refine ih _ (fun p hp => h1 p (List.mem_cons_of_mem _ hp)) ?_
      have hr := h1 r List.mem_cons_self
      rcases List.eq_nil_or_concat out with he | ⟨s, q, he⟩
      · rw [he, mergeStep_nil]
        intro p hp
        rw [List.mem_singleton] at hp
        exact hp ▸ hr
      · rw [List.concat_eq_append] at he
        rw [he] at h2 ⊢
        rw [mergeStep_snoc]
        have hq := h2 q (by simp)
        split
        · intro p hp
          rcases List.mem_append.1 hp with hp | hp
          · exact h2 p (List.mem_append_left _ hp)
          · rw [List.mem_singleton] at hp
            subst hp
            obtain ⟨a, b, c⟩ := hq
            obtain ⟨d, e, f⟩ := hr
            refine ⟨a, ?_, ?_⟩
            · show q.1 ≤ (if q.2 < r.2 then r.2 else q.2); split <;> omega
            · show (if q.2 < r.2 then r.2 else q.2) ≤ 1114111; split <;> omega
        · intro p hp
          rcases List.mem_append.1 hp with hp | hp
          · exact h2 p hp
          · rw [List.mem_singleton] at hp
            exact hp ▸ hr
  exact key l [] hok (fun p h => absurd h (by simp))

/-! ### all others -/
def notStep (s : List Rg × Int) (r : Rg) : List Rg × Int := (if s.2 < r.1 then s.1 ++ [(s.2, r.1 - 1)] else s.1, r.2 + 1)
def notTo (l : List Rg) : List Rg × Int := l.foldl notStep ([], 0)
def notL (l : List Rg) : List Rg := if (notTo l).2 ≤ 1114111 then (notTo l).1 ++ [((notTo l).2, 1114111)] else (notTo l).1
theorem notTo_snoc (l : List Rg) (r : Rg) : notTo (l ++ [r]) = notStep (notTo l) r := by unfold notTo; rw [List.foldl_append]; rfl
theorem notTo_len (l : List Rg) : (notTo l).1.length ≤ l.length := by
  have : ∀ (l : List Rg) (s : List Rg × Int), (l.foldl notStep s).1.length ≤ s.1.length + l.length := by
    intro l
    induction l with
    | nil => intro s; simp
    | cons r t ih =>
      intro s
      have h1 := ih (notStep s r)
      have h2 : (notStep s r).1.length ≤ s.1.length + 1 := by
        unfold notStep
        show (if s.2 < r.1 then s.1 ++ [(s.2, r.1 - 1)] else s.1).length ≤ _
        split <;> simp
      rw [List.foldl_cons, List.length_cons]
      omega
  simpa [notTo] using this l ([], 0)
theorem snoc_cases {l : List Rg} : l = [] ∨ ∃ s r, l = s ++ [r] := by
  rcases List.eq_nil_or_concat l with he | ⟨s, r, he⟩
  · exact .inl he
  · exact .inr ⟨s, r, by rw [he, List.concat_eq_append]⟩
theorem snoc_ind {motive : List Rg → Prop} (h0 : motive []) (h1 : ∀ s r, motive s → motive (s ++ [r])) (l : List Rg) : motive l := by
  have key : ∀ (n : Nat) (l : List Rg), l.length = n → motive l := by
    intro n
    induction n with
    | zero => intro l hl; rw [List.length_eq_zero_iff.1 hl]; exact h0
    | succ n ih =>
      intro l hl
      rcases snoc_cases (l := l) with rfl | ⟨s, r, rfl⟩
      · simp at hl
      · exact h1 s r (ih s (by simpa using hl))
  exact key _ l rfl
/-- Behind a set's ranges: where the next one may begin, what has been told. -/
theorem notTo_says (l : List Rg) (hc : Canon l) : lastHi 0 l + 1 ≤ (notTo l).2 ∧ (notTo l).2 ≤ lastHi 0 l + 2 ∧ 0 ≤ (notTo l).2 ∧ (notTo l).2 ≤ 1114112 ∧ Canon (notTo l).1 ∧ lastHi 0 (notTo l).1 + 2 ≤ (notTo l).2 ∧ ∀ x, Mem x (notTo l).1 ↔ (0 ≤ x ∧ x < (notTo l).2 ∧ ¬ Mem x l) := by
  induction l using snoc_ind with
  | h0 =>
    refine ⟨by decide, by decide, by decide, by decide, trivial, by decide, fun x => ⟨fun h => absurd h (mem_nil x), ?_⟩⟩
    show 0 ≤ x ∧ x < 0 ∧ _ → _
    omega
  | h1 s r ih =>
    obtain ⟨c1, c2, c3, c4⟩ := (canonFrom_snoc 0 s r).1 hc
    obtain ⟨i1, i2, i3, i4, i5, i6, i7⟩ := ih c1
    rw [notTo_snoc, lastHi_snoc]
    obtain ⟨o, at_, ho⟩ : ∃ o a, notTo s = (o, a) := ⟨_, _, rfl⟩
    rw [ho] at i1 i2 i3 i4 i5 i6 i7 ⊢
    simp only [] at i1 i2 i3 i4 i5 i6 i7
    unfold notStep
    show r.2 + 1 ≤ r.2 + 1 ∧ r.2 + 1 ≤ r.2 + 2 ∧ 0 ≤ r.2 + 1 ∧ r.2 + 1 ≤ 1114112 ∧ Canon (if at_ < r.1 then o ++ [(at_, r.1 - 1)] else o) ∧ lastHi 0 (if at_ < r.1 then o ++ [(at_, r.1 - 1)] else o) + 2 ≤ r.2 + 1 ∧ ∀ x, Mem x (if at_ < r.1 then o ++ [(at_, r.1 - 1)] else o) ↔ (0 ≤ x ∧ x < r.2 + 1 ∧ ¬ Mem x (s ++ [r]))
    have hs : ∀ x, Mem x s → x < at_ := fun x hx => by have := lastHi_ge 0 s c1 hx; omega
    refine ⟨by omega, by omega, by omega, by omega, ?_⟩
    by_cases hlt : at_ < r.1
    · rw [if_pos hlt]
      refine ⟨(canonFrom_snoc 0 o _).2 ⟨i5, i6, by show at_ ≤ r.1 - 1; omega, by show r.1 - 1 ≤ 1114111; omega⟩, by rw [lastHi_snoc]; show r.1 - 1 + 2 ≤ r.2 + 1; omega, fun x => ?_⟩
      rw [mem_snoc, mem_snoc, i7 x]
      show (0 ≤ x ∧ x < at_ ∧ ¬ Mem x s) ∨ (at_ ≤ x ∧ x ≤ r.1 - 1) ↔ 0 ≤ x ∧ x < r.2 + 1 ∧ ¬ (Mem x s ∨ r.1 ≤ x ∧ x ≤ r.2)
      constructor
      · rintro (⟨h1, h2, h3⟩ | ⟨h1, h2⟩)
        · exact ⟨h1, by omega, fun h => h.elim h3 (fun h => by omega)⟩
        · exact ⟨by omega, by omega, fun h => h.elim (fun h => by have := hs x h; omega) (fun h => by omega)⟩
      · rintro ⟨h1, h2, h3⟩
        by_cases hx : x < at_
        · exact .inl ⟨h1, hx, fun h => h3 (.inl h)⟩
        · refine .inr ⟨by omega, ?_⟩
          refine Int.not_lt.1 fun h => h3 (.inr ⟨by omega, by omega⟩)
    · rw [if_neg hlt]
      refine ⟨i5, by omega, fun x => ?_⟩
      rw [mem_snoc, i7 x]
      constructor
      · rintro ⟨h1, h2, h3⟩
        exact ⟨h1, by omega, fun h => h.elim h3 (fun h => by omega)⟩
      · rintro ⟨h1, h2, h3⟩
        refine ⟨h1, ?_, fun h => h3 (.inl h)⟩
        refine Int.not_le.1 fun h => h3 (.inr ⟨by omega, by omega⟩)
theorem notL_set {l : List Rg} (hc : Canon l) : SetOf (fun x => ¬ Mem x l) (notL l) := by
  obtain ⟨i1, i2, i3, i4, i5, i6, i7⟩ := notTo_says l hc
  have hs : ∀ x, Mem x l → x < (notTo l).2 := fun x hx => by have := lastHi_ge 0 l hc hx; omega
  unfold notL
  by_cases h : (notTo l).2 ≤ 1114111
  · rw [if_pos h]
    refine ⟨(canonFrom_snoc 0 _ _).2 ⟨i5, i6, h, Int.le_refl _⟩, fun x => ?_⟩
    rw [mem_snoc, i7 x]
    show (0 ≤ x ∧ x < (notTo l).2 ∧ ¬ Mem x l) ∨ ((notTo l).2 ≤ x ∧ x ≤ 1114111) ↔ _
    constructor
    · rintro (⟨h1, h2, h3⟩ | ⟨h1, h2⟩)
      · exact ⟨h1, by omega, h3⟩
      · exact ⟨by omega, h2, fun h => by have := hs x h; omega⟩
    · rintro ⟨h1, h2, h3⟩
      by_cases hx : x < (notTo l).2
      · exact .inl ⟨h1, hx, h3⟩
      · exact .inr ⟨by omega, h2⟩
  · rw [if_neg h]
    refine ⟨i5, fun x => ?_⟩
    rw [i7 x]
    exact ⟨fun ⟨h1, h2, h3⟩ => ⟨h1, by omega, h3⟩, fun ⟨h1, h2, h3⟩ => ⟨h1, by omega, h3⟩⟩
theorem notL_len (l : List Rg) : (notL l).length ≤ l.length + 1 := by
  have := notTo_len l
  unfold notL
  split
  · simp; omega
  · omega

/-! ### what is in both: two sets gone through side by side -/
def meetL : Nat → List Rg → List Rg → List Rg
  | n + 1, p :: s, q :: t =>
    (if (if p.1 < q.1 then q.1 else p.1) ≤ (if q.2 < p.2 then q.2 else p.2) then [((if p.1 < q.1 then q.1 else p.1), (if q.2 < p.2 then q.2 else p.2))] else []) ++ (if p.2 < q.2 then meetL n s (q :: t) else meetL n (p :: s) t)
  | _, _, _ => []
theorem meetL_set : ∀ (n : Nat) (a b : List Rg) (c d : Int), a.length + b.length ≤ n → CanonFrom c a → CanonFrom d b → CanonFrom (if c < d then d else c) (meetL n a b) ∧ ∀ x, Mem x (meetL n a b) ↔ Mem x a ∧ Mem x b
  | 0, a, b, c, d, hl, _, _ => by
    obtain rfl : a = [] := List.length_eq_zero_iff.1 (by omega)
    exact ⟨trivial, fun x => ⟨fun h => absurd h (mem_nil x), fun h => absurd h.1 (mem_nil x)⟩⟩
  | n + 1, [], b, c, d, hl, _, _ => ⟨trivial, fun x => ⟨fun h => absurd h (mem_nil x), fun h => absurd h.1 (mem_nil x)⟩⟩
  | n + 1, p :: s, [], c, d, hl, _, _ => ⟨trivial, fun x => ⟨fun h => absurd h (mem_nil x), fun h => absurd h.2 (mem_nil x)⟩⟩
  | n + 1, p :: s, q :: t, c, d, hl, ha, hb => by
    obtain ⟨a1, a2, a3, a4⟩ := ha
    obtain ⟨b1, b2, b3, b4⟩ := hb
    simp only [List.length_cons] at hl
    have hsl : ∀ x, Mem x s → p.2 + 2 ≤ x := fun x hx => canonFrom_lo a4 hx
    have htl : ∀ x, Mem x t → q.2 + 2 ≤ x := fun x hx => canonFrom_lo b4 hx
    obtain ⟨lo, hlo, hlo1, hlo2, hlo3⟩ : ∃ lo, (if p.1 < q.1 then q.1 else p.1) = lo ∧ p.1 ≤ lo ∧ q.1 ≤ lo ∧ (lo = p.1 ∨ lo = q.1) := by split <;> exact ⟨_, rfl, by omega, by omega, by omega⟩
    obtain ⟨hi, hhi, hhi1, hhi2, hhi3⟩ : ∃ hi, (if q.2 < p.2 then q.2 else p.2) = hi ∧ hi ≤ p.2 ∧ hi ≤ q.2 ∧ (hi = p.2 ∨ hi = q.2) := by split <;> exact ⟨_, rfl, by omega, by omega, by omega⟩
    obtain ⟨e, he, he1, he2, he3⟩ : ∃ e, (if c < d then d else c) = e ∧ c ≤ e ∧ d ≤ e ∧ (e = c ∨ e = d) := by split <;> exact ⟨_, rfl, by omega, by omega, by omega⟩
    unfold meetL
    rw [hlo, hhi, he]
    -- what follows, whichever is left behind
    have rest : ∃ r, (if p.2 < q.2 then meetL n s (q :: t) else meetL n (p :: s) t) = r ∧ CanonFrom (hi + 2) r ∧ CanonFrom e r ∧ ∀ x, (lo ≤ x ∧ x ≤ hi) ∨ Mem x r ↔ Mem x (p :: s) ∧ Mem x (q :: t) := by
      by_cases hpq : p.2 < q.2
      · rw [if_pos hpq]
        obtain ⟨r1, r2⟩ := meetL_set n s (q :: t) (p.2 + 2) q.1 (by simp; omega) a4 ⟨Int.le_refl _, b2, b3, b4⟩
        have hh : hi = p.2 := by omega
        refine ⟨_, rfl, canonFrom_mono r1 (by split <;> omega), canonFrom_mono r1 (by split <;> omega), fun x => ?_⟩
        rw [r2 x, mem_cons x p s, mem_cons x q t]
        constructor
        · rintro (h | ⟨h1, h2⟩)
          · exact ⟨.inl (by omega), .inl (by omega)⟩
          · exact ⟨.inr h1, h2⟩
        · rintro ⟨h1 | h1, h2⟩
          · rcases h2 with h2 | h2
            · left
              rcases hlo3 with h3 | h3 <;> omega
            · have := htl x h2
              omega
          · exact .inr ⟨h1, h2⟩
      · rw [if_neg hpq]
        obtain ⟨r1, r2⟩ := meetL_set n (p :: s) t p.1 (q.2 + 2) (by simp; omega) ⟨Int.le_refl _, a2, a3, a4⟩ b4
        have hh : hi = q.2 := by omega
        refine ⟨_, rfl, canonFrom_mono r1 (by split <;> omega), canonFrom_mono r1 (by split <;> omega), fun x => ?_⟩
        rw [r2 x, mem_cons x p s, mem_cons x q t]
        constructor
        · rintro (h | ⟨h1, h2⟩)
          · exact ⟨.inl (by omega), .inl (by omega)⟩
          · exact ⟨h1, .inr h2⟩
        · rintro ⟨h1, h2 | h2⟩
          · rcases h1 with h1 | h1
            · left
              rcases hlo3 with h3 | h3 <;> omega
            · have := hsl x h1
              omega
          · exact .inr ⟨h1, h2⟩
    obtain ⟨r, hr, c1, c2, c3⟩ := rest
    rw [hr]
    by_cases hlh : lo ≤ hi
    · rw [if_pos hlh]
      refine ⟨⟨by show e ≤ lo; omega, hlh, by show hi ≤ 1114111; omega, c1⟩, fun x => ?_⟩
      rw [← c3 x]
      show Mem x ((lo, hi) :: r) ↔ _
      rw [mem_cons]
    · rw [if_neg hlh]
      refine ⟨c2, fun x => ?_⟩
      rw [← c3 x]
      show Mem x r ↔ _
      exact ⟨.inr, fun h => h.elim (fun h => by omega) id⟩
theorem meetL_len : ∀ (n : Nat) (a b : List Rg), (meetL n a b).length ≤ n
  | 0, a, b => by cases a <;> cases b <;> simp [meetL]
  | n + 1, [], b => by simp [meetL]
  | n + 1, p :: s, [] => by simp [meetL]
  | n + 1, p :: s, q :: t => by
    have h1 := meetL_len n s (q :: t)
    have h2 := meetL_len n (p :: s) t
    unfold meetL
    rw [List.length_append]
    have e1 : (if (if p.1 < q.1 then q.1 else p.1) ≤ (if q.2 < p.2 then q.2 else p.2) then [((if p.1 < q.1 then q.1 else p.1), (if q.2 < p.2 then q.2 else p.2))] else ([] : List Rg)).length ≤ 1 := by
      generalize (if p.1 < q.1 then q.1 else p.1) = u
      generalize (if q.2 < p.2 then q.2 else p.2) = v
      split <;> simp
    have e2 : (if p.2 < q.2 then meetL n s (q :: t) else meetL n (p :: s) t).length ≤ n := by split <;> assumption
    omega

theorem canon_ok {l : List Rg} (h : Canon l) : ∀ p ∈ l, OkR p := by
  have key : ∀ (l : List Rg) (a : Int), 0 ≤ a → CanonFrom a l → ∀ p ∈ l, OkR p := by
    intro l
    induction l with
    | nil => intro a _ _ p hp; cases hp
    | cons q t ih =>
      intro a ha hc p hp
      obtain ⟨h1, h2, h3, h4⟩ := hc
      rcases List.mem_cons.1 hp with rfl | hp
      · exact ⟨by omega, h2, h3⟩
      · exact ih (q.2 + 2) (by omega) h4 p hp
  exact key l 0 (Int.le_refl _) h

def hasB (l : List Rg) (r : Int) : Bool := decide (0 ≤ r) && (decide (r ≤ 1114111) && l.any (fun x => decide (x.1 ≤ r) && decide (r ≤ x.2)))
theorem hasB_iff (l : List Rg) (r : Int) : hasB l r = true ↔ 0 ≤ r ∧ r ≤ 1114111 ∧ Mem r l := by
  unfold hasB Mem
  simp

end Go.Proofs.Ytpgnfccamcefgab
