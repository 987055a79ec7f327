/- TkS, TkR2, TkR3, ShelfT, TkR4, TkR5, TkR6. -/
import Derived.Shelf.Strings.OnBuilder
import Derived.Shelf.Strings.IndexAnyAll
import Derived.Shelf.Strings.Runes
import Derived.Shelf.Small.Utf8
import Derived.Shelf.Small.Strs
import Derived.Shelf.Strconv.ErrVar
import Derived.Shelf.Strconv.ParseIntEmpty
import Derived.Shelf.Strconv.Atoi
import Derived.Shelf.Strings.Search3
import Derived.Test.YtkipjalfgdfaiaaGreatDoorProg
import Derived.Test.YtkipjalfgdfaiaaGreatDoorSJ1
namespace Go.Proofs.YtkipjalfgdfaiaaGreatDoor
set_option linter.unusedVariables false
set_option linter.unusedSimpArgs false
open Go.RowKit Go.Proofs.YtkipjalfgdfaiaaGreatDoorW.PrintWords

/-- A fault stands between a token's beginning and the end. -/
def FaultAt (p : List Int) (st : Nat) (x : Int × Nat) : Prop := x.1 ≠ 0 ∧ st ≤ x.2 ∧ x.2 ≤ p.length
/-- What a step of the scanner comes to: the place behind it; the same of what stands ahead of any place behind that. -/
def Step {α : Type} (p : List Int) (st k : Nat) (at_ : α → Nat) (P : α → Prop) (F : List Int → Fl α) : Prop :=
  (∀ a, F p = .ok a → (k ≤ at_ a ∧ at_ a ≤ p.length ∧ ∀ m, at_ a < m → m ≤ p.length → F (p.take m) = .ok a) ∧ P a) ∧ ∀ x, F p = .error x → FaultAt p st x
section
variable {α β γ : Type} {p : List Int} {st k k' : Nat} {at_ : α → Nat} {at' : β → Nat} {P : α → Prop} {P' : β → Prop}
theorem Step.mono {F : List Int → Fl α} (h : Step p st k' at_ P F) (hk : k ≤ k') : Step p st k at_ P F :=
  ⟨fun a e => ⟨⟨Nat.le_trans hk (h.1 a e).1.1, (h.1 a e).1.2⟩, (h.1 a e).2⟩, h.2⟩
theorem Step.ok (a : α) (h1 : k ≤ at_ a) (h2 : at_ a ≤ p.length) (h3 : P a) : Step p st k at_ P (fun _ => .ok a) :=
  ⟨fun b e => (by cases e; exact ⟨⟨h1, h2, fun _ _ _ => rfl⟩, h3⟩), fun x e => (by cases e)⟩
theorem Step.err (x : Int × Nat) (h : FaultAt p st x) : Step p st k at_ P (fun _ => .error x) :=
  ⟨fun b e => (by cases e), fun y e => (by cases e; exact h)⟩
theorem Step.ite {F G : List Int → Fl α} (c : Prop) [Decidable c] (hF : c → Step p st k at_ P F) (hG : ¬ c → Step p st k at_ P G) : Step p st k at_ P (fun q => if c then F q else G q) := by
  by_cases h : c
  · simp only [if_pos h]; exact hF h
  · simp only [if_neg h]; exact hG h
theorem Step.bind {F : List Int → Fl α} {G : List Int → α → Fl β} (hF : Step p st k at_ P F) (hG : ∀ a, F p = .ok a → P a → k ≤ at_ a → at_ a ≤ p.length → Step p st (at_ a) at' P' (fun q => G q a)) : Step p st k at' P' (fun q => thenF (F q) (G q)) := by
  constructor
  · intro b e
    simp only at e
    cases hp : F p with
    | error x => rw [hp] at e; cases e
    | ok a =>
      rw [hp, thenF_ok] at e
      obtain ⟨⟨h1, h2, h3⟩, hP⟩ := hF.1 a hp
      obtain ⟨⟨g1, g2, g3⟩, hP'⟩ := (hG a hp hP h1 h2).1 b e
      refine ⟨⟨Nat.le_trans h1 g1, g2, fun m hm hl => ?_⟩, hP'⟩
      simp only
      rw [h3 m (Nat.lt_of_le_of_lt g1 hm) hl, thenF_ok]
      exact g3 m hm hl
  · intro x e
    simp only at e
    cases hp : F p with
    | error y =>
      rw [hp] at e
      cases e
      exact hF.2 _ hp
    | ok a =>
      rw [hp, thenF_ok] at e
      obtain ⟨⟨h1, h2, h3⟩, hP⟩ := hF.1 a hp
      exact (hG a hp hP h1 h2).2 x e
/-- A part that can't fail. -/
theorem Step.tot (g : List Int → γ) (atg : γ → Nat) {G : γ → List Int → Fl β} (h1 : k ≤ atg (g p)) (h2 : ∀ m, atg (g p) < m → m ≤ p.length → g (p.take m) = g p) (hG : Step p st (atg (g p)) at' P' (G (g p))) : Step p st k at' P' (fun q => G (g q) q) := by
  constructor
  · intro b e
    simp only at e
    obtain ⟨⟨g1, g2, g3⟩, hP'⟩ := hG.1 b e
    refine ⟨⟨Nat.le_trans h1 g1, g2, fun m hm hl => ?_⟩, hP'⟩
    simp only
    rw [h2 m (Nat.lt_of_le_of_lt g1 hm) hl]
    exact g3 m hm hl
  · intro x e
    simp only at e
    exact hG.2 x e
end
theorem peek_ok {p : List Int} {k : Nat} {b : Int} (h : peekL p k = .ok b) : k < p.length ∧ p[k]? = some b := by
  unfold peekL at h
  split at h
  · rename_i c hc
    cases h
    exact ⟨(List.getElem?_eq_some_iff.1 hc).1, hc⟩
  · cases h
theorem peek_take {p : List Int} {k : Nat} {b : Int} (h : peekL p k = .ok b) {m : Nat} (hm : k < m) : peekL (p.take m) k = .ok b := by
  have := peek_ok h
  unfold peekL
  rw [List.getElem?_take_of_lt hm, this.2]
theorem peek_err {p : List Int} {k : Nat} {x : Int × Nat} (h : peekL p k = .error x) (hk : k ≤ p.length) {st : Nat} (hs : st ≤ k) : FaultAt p st x := by
  unfold peekL at h
  split at h
  · cases h
  · cases h
    exact ⟨by simp, hs, hk⟩
theorem drop_take' (p : List Int) (m k : Nat) : (p.take m).drop k = (p.drop k).take (m - k) := by rw [List.drop_take]
theorem prefix_take {T l : List Int} {n : Nat} (h : T.length ≤ n) : T.isPrefixOf (l.take n) = T.isPrefixOf l := by
  rw [Bool.eq_iff_iff, List.isPrefixOf_iff_prefix, List.isPrefixOf_iff_prefix]
  constructor
  · exact fun h => h.trans (List.take_prefix _ _)
  · intro hp
    obtain ⟨u, rfl⟩ := hp
    rw [List.take_append, List.take_of_length_le h]
    exact List.prefix_append _ _
theorem has_take {p T : List Int} {k m : Nat} (h : k + T.length ≤ m) : hasL (p.take m) k T = hasL p k T := by
  unfold hasL
  rw [drop_take', prefix_take (by omega)]
theorem need_ok {p : List Int} {st k k' : Nat} {c e : Int} (h : needL p st k c e = .ok k') : k' = k + 1 ∧ k < p.length ∧ p[k]? = some c := by
  unfold needL at h
  split at h
  · rename_i b hb
    split at h
    · rename_i hc
      cases h
      subst hc
      exact ⟨rfl, peek_ok hb⟩
    · cases h
  · cases h
theorem need_of {p : List Int} {st k : Nat} {c e : Int} (h : peekL p k = .ok c) : needL p st k c e = .ok (k + 1) := by
  unfold needL
  rw [h]
  simp
theorem need_take {p : List Int} {st k k' : Nat} {c e : Int} (h : needL p st k c e = .ok k') {m : Nat} (hm : k < m) : needL (p.take m) st k c e = .ok k' := by
  have h1 := need_ok h
  have h2 : peekL p k = .ok c := by unfold peekL; rw [h1.2.2]
  rw [need_of (peek_take h2 hm), h1.1]
theorem need_err {p : List Int} {st k : Nat} {c e : Int} {x : Int × Nat} (h : needL p st k c e = .error x) (hk : k ≤ p.length) (hs : st ≤ k) (he : e ≠ 0) : FaultAt p st x := by
  unfold needL at h
  split at h
  · split at h
    · cases h
    · cases h
      exact ⟨he, Nat.le_refl _, Nat.le_trans hs hk⟩
  · rename_i y hy
    cases h
    exact peek_err hy hk hs
theorem char_ok {p : List Int} {k k' : Nat} {r : Int} (h : charL p k = .ok (r, k')) : ∃ n, readL (p.drop k) = (r, n, true) ∧ k' = k + n ∧ 1 ≤ n ∧ k + n ≤ p.length := by
  unfold charL at h
  split at h
  · rename_i r' n hr
    cases h
    refine ⟨n, hr, rfl, ?_⟩
    have hne : p.drop k ≠ [] := by intro he; rw [he] at hr; simp [readL] at hr
    have h2 := readL_pos hne
    rw [hr, List.length_drop] at h2
    simp only at h2
    omega
  · cases h
theorem char_take {p : List Int} {k k' : Nat} {r : Int} (h : charL p k = .ok (r, k')) {m : Nat} (hm : k' ≤ m) : charL (p.take m) k = .ok (r, k') := by
  obtain ⟨n, hr, rfl, hn, hl⟩ := char_ok h
  unfold charL
  have e : readL ((p.take m).drop k) = (r, n, true) := by
    rw [drop_take']
    have h2 := readL_take (p.drop k)
    rw [hr] at h2
    simp only at h2
    have h3 : (p.drop k).take n = ((p.drop k).take (m - k)).take n := by rw [List.take_take]; congr 1; omega
    have h4 : readL (((p.drop k).take (m - k)).take n) = (r, n, true) := by rw [← h3]; exact h2
    exact readL_more h4
  rw [e]
theorem char_err {p : List Int} {k : Nat} {x : Int × Nat} (h : charL p k = .error x) (hk : k ≤ p.length) {st : Nat} (hs : st ≤ k) : FaultAt p st x := by
  unfold charL at h
  split at h
  · cases h
  · cases h
    exact ⟨by simp, hs, hk⟩
theorem run_take (of_ : Int → Bool) : ∀ (M : Nat) (l : List Int) (n : Nat), runN of_ M l < n → runN of_ M (l.take n) = runN of_ M l
  | 0, l, n, _ => by simp [runN]
  | M + 1, [], n, _ => by simp
  | M + 1, c :: t, 0, h => by omega
  | M + 1, c :: t, n + 1, h => by
    rw [List.take_succ_cons]
    unfold runN at h ⊢
    split
    · rename_i hc
      rw [if_pos hc] at h
      rw [run_take of_ M t n (by omega)]
    · rfl
theorem run_take' (of_ : Int → Bool) {M : Nat} {p : List Int} {k m : Nat} (h : k + runN of_ M (p.drop k) < m) : runN of_ M ((p.take m).drop k) = runN of_ M (p.drop k) := by
  rw [drop_take']
  exact run_take of_ M _ _ (by omega)
theorem run_le' (of_ : Int → Bool) {M : Nat} {p : List Int} {k : Nat} (hk : k ≤ p.length) : k + runN of_ M (p.drop k) ≤ p.length := by
  have := runN_le of_ M (p.drop k)
  rw [List.length_drop] at this
  omega
theorem cut_take {p : List Int} {k n m : Nat} (h : k + n ≤ m) : ((p.take m).drop k).take n = (p.drop k).take n := by
  rw [drop_take', List.take_take]
  congr 1
  omega
theorem has_ok {p T : List Int} {k : Nat} (h : hasL p k T = true) (hT : 0 < T.length) : k + T.length ≤ p.length := by
  unfold hasL at h
  rw [List.isPrefixOf_iff_prefix] at h
  have := h.length_le
  rw [List.length_drop] at this
  omega
theorem Step.has {α : Type} {p : List Int} {st k k' : Nat} {at_ : α → Nat} {P : α → Prop} {F G : List Int → Fl α} (T : List Int) (hT : k + T.length ≤ k' + 1) (hF : hasL p k T = true → Step p st k' at_ P F) (hG : hasL p k T = false → Step p st k' at_ P G) : Step p st k' at_ P (fun q => if hasL q k T = true then F q else G q) := by
  refine Step.tot (g := fun q => hasL q k T) (atg := fun _ => k') (G := fun b q => if b = true then F q else G q) (Nat.le_refl _) (fun m hm hl => has_take (by omega)) ?_
  cases h : hasL p k T with
  | true => simp only [if_true]; exact hF h
  | false => simp only [Bool.false_eq_true, if_false]; exact hG h
theorem Step.hasNot {α : Type} {p : List Int} {st k k' : Nat} {at_ : α → Nat} {P : α → Prop} {F G : List Int → Fl α} (T : List Int) (hT : k + T.length ≤ k' + 1) (hF : hasL p k T = true → Step p st k' at_ P F) (hG : hasL p k T = false → Step p st k' at_ P G) : Step p st k' at_ P (fun q => if hasL q k T = false then G q else F q) := by
  refine Step.tot (g := fun q => hasL q k T) (atg := fun _ => k') (G := fun b q => if b = false then G q else F q) (Nat.le_refl _) (fun m hm hl => has_take (by omega)) ?_
  cases h : hasL p k T with
  | true => simp only [Bool.true_eq_false, if_false]; exact hF h
  | false => simp only [if_true]; exact hG h
theorem peek_step (p : List Int) {st k : Nat} (hk : k ≤ p.length) (hs : st ≤ k) : Step p st k (fun _ => k) (fun _ : Int => k < p.length) (fun q => peekL q k) :=
  ⟨fun b h => ⟨⟨Nat.le_refl _, hk, fun m hm hl => peek_take h hm⟩, (peek_ok h).1⟩, fun x h => peek_err h hk hs⟩
theorem need_step (p : List Int) {st k : Nat} {c e : Int} (hk : k ≤ p.length) (hs : st ≤ k) (he : e ≠ 0) : Step p st k (fun a => a) (fun a : Nat => a = k + 1) (fun q => needL q st k c e) :=
  ⟨fun a h => ⟨⟨show k ≤ a by have := need_ok h; omega, show a ≤ p.length by have := need_ok h; omega, fun m (hm : a < m) hl => need_take h (by have := need_ok h; omega)⟩, (need_ok h).1⟩, fun x h => need_err h hk hs he⟩
theorem char_step (p : List Int) {st k : Nat} (hk : k ≤ p.length) (hs : st ≤ k) : Step p st k (fun a : Int × Nat => a.2) (fun a => k < a.2) (fun q => charL q k) :=
  ⟨fun ⟨r, k'⟩ h => by
    obtain ⟨n, h1, h2, h3, h4⟩ := char_ok h
    exact ⟨⟨show k ≤ k' by omega, show k' ≤ p.length by omega, fun m hm hl => char_take h (Nat.le_of_lt hm)⟩, show k < k' by omega⟩, fun x h => char_err h hk hs⟩
theorem st_at {p : List Int} {st : Nat} {e : Int} (he : e ≠ 0) (h : st ≤ p.length) : FaultAt p st (e, st) := ⟨he, Nat.le_refl _, h⟩
theorem Step.tot' {α γ : Type} {p : List Int} {st k : Nat} {at_ : α → Nat} {P : α → Prop} {H : List Int → Fl α} (g : List Int → γ) (atg : γ → Nat) (G : γ → List Int → Fl α) (hH : ∀ q, H q = G (g q) q) (h1 : k ≤ atg (g p)) (h2 : ∀ m, atg (g p) < m → m ≤ p.length → g (p.take m) = g p) (hG : ∀ x, g p = x → Step p st (atg x) at_ P (G x)) : Step p st k at_ P H := by
  have e : H = fun q => G (g q) q := funext hH
  rw [e]
  exact Step.tot g atg h1 h2 (hG _ rfl)
theorem name_step (p : List Int) (st k : Nat) (e : Int) (he : e ≠ 0) (hk : k ≤ p.length) (hs : st ≤ k) : Step p st k (fun a : List Int × Nat => a.2) (fun a => True) (fun q => nameL q st k e) := by
  have hrl := run_le' namB (M := 20) hk
  unfold nameL
  refine (peek_step p hk hs).bind (fun c hc hlt _ _ => ?_)
  refine Step.ite _ (fun _ => Step.err _ (st_at he (by omega))) (fun _ => ?_)
  refine Step.tot' (g := fun q => (runN namB 20 (q.drop k), (q.drop k).take (runN namB 20 (q.drop k)))) (atg := fun x => k + x.1) (G := fun x q => thenF (peekL q (k + x.1)) fun _ => if x.1 = 0 then .error (e, st) else thenF (needL q st (k + x.1) 62 e) fun k' => .ok (x.2, k')) (fun q => rfl) (by simp) (fun m hm hl => by simp only at hm ⊢; rw [run_take' namB hm, cut_take (by omega)]) (fun x hx => ?_)
  obtain ⟨N, X⟩ := x
  have hN : runN namB 20 (p.drop k) = N := (Prod.mk.inj hx).1
  rw [hN] at hrl
  simp only
  refine (peek_step p hrl (by omega)).bind (fun d hd hlt2 _ _ => ?_)
  refine Step.ite _ (fun _ => Step.err _ (st_at he (by omega))) (fun _ => ?_)
  exact (need_step p (c := 62) hrl (by omega) he).bind (fun a ha hP h1 h2 => Step.ok _ (Nat.le_refl _) h2 trivial)
theorem number_take {p : List Int} {k most m : Nat} (h : (numberL p k most).2 < m) : numberL (p.take m) k most = numberL p k most := by
  unfold numberL at h ⊢
  simp only at h
  rw [run_take' digB h, cut_take (by omega)]
theorem number_ge (p : List Int) (k most : Nat) (hk : k ≤ p.length) : k ≤ (numberL p k most).2 ∧ (numberL p k most).2 ≤ p.length := by
  have := run_le' digB (M := most) hk
  unfold numberL
  exact ⟨by simp, this⟩
/-- What a token's step comes to. -/
abbrev TokP (st : Nat) (a : Tk × Nat) : Prop := a.1.st = st ∧ 1 ≤ a.1.kind ∧ a.1.kind ≤ 14
abbrev TStep (p : List Int) (st k : Nat) (F : List Int → Fl (Tk × Nat)) : Prop := Step p st k (fun a => a.2) (TokP st) F
theorem TStep.tok {p : List Int} {st k k' : Nat} (t : Tk) (h1 : k ≤ k') (h2 : k' ≤ p.length) (h3 : t.st = st) (h4 : 1 ≤ t.kind) (h5 : t.kind ≤ 14) : TStep p st k (fun _ => .ok (t, k')) := Step.ok _ h1 h2 ⟨h3, h4, h5⟩
theorem openN_step (p : List Int) (k : Nat) (t : Tk) (hk : k ≤ p.length) (hs : t.st ≤ k) : TStep p t.st k (fun q => openN q k t) := by
  unfold openN
  refine (peek_step p hk hs).bind (fun d hd hlt2 _ _ => ?_)
  refine Step.ite _ (fun _ => TStep.tok _ (by omega) (by omega) rfl (by simp) (by simp)) (fun _ => ?_)
  refine Step.ite _ (fun _ => TStep.tok _ (by omega) (by omega) rfl (by simp) (by simp)) (fun _ => ?_)
  exact (name_step p t.st k 133 (by decide) hk hs).bind (fun a ha _ h1 h2 => TStep.tok _ (Nat.le_refl _) h2 rfl (by simp) (by simp))
theorem open_step (p : List Int) (k : Nat) (t : Tk) (hk : k ≤ p.length) (hs : t.st ≤ k) : TStep p t.st k (fun q => openL q k t) := by
  unfold openL
  refine Step.hasNot [63] (by simp) (fun hh => ?_) (fun hh => TStep.tok _ (Nat.le_refl _) hk rfl (by simp) (by simp))
  have hk1 : k + 1 ≤ p.length := has_ok hh (by simp)
  refine Step.mono (k' := k + 1) ((peek_step p (k := k + 1) hk1 (by omega)).bind (fun c hc hlt _ _ => ?_)) (Nat.le_succ _)
  refine Step.ite _ (fun _ => TStep.tok _ (by omega) (by omega) rfl (by simp) (by simp)) (fun _ => ?_)
  refine Step.ite _ (fun _ => TStep.tok _ (by omega) (by omega) rfl (by simp) (by simp)) (fun _ => ?_)
  refine Step.ite _ (fun _ => TStep.tok _ (by omega) (by omega) rfl (by simp) (by simp)) (fun _ => ?_)
  refine Step.ite _ (fun _ => TStep.tok _ (by omega) (by omega) rfl (by simp) (by simp)) (fun _ => ?_)
  exact Step.ite _ (fun _ => Step.mono (openN_step p (k + 2) t (by omega) (by omega)) (Nat.le_succ _)) (fun _ => Step.err _ (st_at (by simp) (by omega)))
theorem countS_ge (p : List Int) (a : Int) (k1 : Nat) (hk : k1 ≤ p.length) : k1 ≤ (countS p a k1).2 ∧ (countS p a k1).2 ≤ p.length := by
  unfold countS
  split
  · rename_i h
    have h3 : k1 + 1 ≤ p.length := has_ok h.2 (by simp)
    have h4 := number_ge p (k1 + 1) 3 h3
    omega
  · exact ⟨Nat.le_refl _, hk⟩
theorem countS_take (p : List Int) (a : Int) (k1 : Nat) (hk : k1 ≤ p.length) {m : Nat} (hm : (countS p a k1).2 < m) : countS (p.take m) a k1 = countS p a k1 := by
  have hg := countS_ge p a k1 hk
  unfold countS at hm ⊢
  have e : hasL (p.take m) k1 [44] = hasL p k1 [44] := has_take (by unfold countS at hg; simp only [List.length_cons, List.length_nil]; omega)
  rw [e]
  by_cases hc : 0 ≤ a ∧ hasL p k1 [44] = true
  · rw [if_pos hc] at hm ⊢
    rw [if_pos hc]
    exact number_take hm
  · rw [if_neg hc, if_neg hc]
theorem countE_step (p : List Int) (t : Tk) (a b : Int) (k2 : Nat) (hk : k2 ≤ p.length) (hs : t.st ≤ k2) : TStep p t.st k2 (fun q => countE q t a b k2) := by
  unfold countE
  refine (peek_step p hk hs).bind (fun d hd hlt2 _ _ => ?_)
  refine Step.ite _ (fun _ => Step.err _ (st_at (by simp) (by omega))) (fun _ => ?_)
  exact (need_step p (c := 125) (e := 150) hk hs (by decide)).bind (fun a ha hP h1 h2 => TStep.tok _ (Nat.le_refl _) h2 rfl (by simp) (by simp))
theorem counts_step (p : List Int) (k : Nat) (t : Tk) (hk : k ≤ p.length) (hs : t.st ≤ k) : TStep p t.st k (fun q => countsL q k t) := by
  have h1 := number_ge p k 3 hk
  have h2 := countS_ge p (numberL p k 3).1 (numberL p k 3).2 h1.2
  refine Step.tot' (g := fun q => numberL q k 3) (atg := fun x => x.2) (G := fun x q => countE q t x.1 (countS q x.1 x.2).1 (countS q x.1 x.2).2) (fun q => rfl) h1.1 (fun m hm _ => number_take hm) (fun x hx => ?_)
  have hx' : numberL p k 3 = x := hx
  rw [hx'] at h1 h2
  refine Step.tot' (g := fun q => countS q x.1 x.2) (atg := fun y => y.2) (G := fun y q => countE q t x.1 y.1 y.2) (fun q => rfl) h2.1 (fun m hm _ => countS_take p x.1 x.2 h1.2 hm) (fun y hy => ?_)
  have hy' : countS p x.1 x.2 = y := hy
  rw [hy'] at h2
  exact countE_step p t x.1 y.1 y.2 h2.2 (by omega)
theorem mode_step (p : List Int) (st k : Nat) (t : Tk) (hk : k ≤ p.length) (hs : st ≤ k) (ht : t.st = st) (h1 : 1 ≤ t.kind) (h2 : t.kind ≤ 14) : TStep p st k (fun q => .ok (modeL q k t)) := by
  have e : ∀ q, (Except.ok (modeL q k t) : Fl (Tk × Nat)) = if hasL q k [63] = true then .ok ({ t with mode := 1 }, k + 1) else if hasL q k [43] = true then .ok ({ t with mode := 2 }, k + 1) else .ok (t, k) := fun q => by
    unfold modeL
    split
    · rfl
    · split <;> rfl
  simp only [e]
  refine Step.has [63] (by simp) (fun h => TStep.tok _ (by omega) (by have := has_ok h (by simp); simpa using this) ht h1 h2) (fun _ => ?_)
  exact Step.has [43] (by simp) (fun h => TStep.tok _ (by omega) (by have := has_ok h (by simp); simpa using this) ht h1 h2) (fun _ => TStep.tok _ (Nat.le_refl _) hk ht h1 h2)
theorem repeat_step (p : List Int) (k : Nat) (t : Tk) (c : Int) (hk : k ≤ p.length) (hs : t.st ≤ k) : TStep p t.st k (fun q => repeatL q k t c) := by
  unfold repeatL
  refine Step.bind (at_ := fun a => a.2) (P := TokP t.st) (F := fun q => countL q k t c) ?_ (fun a ha hP h1 h2 => mode_step p t.st a.2 a.1 h2 (by omega) hP.1 hP.2.1 hP.2.2)
  unfold countL
  refine Step.ite _ (fun _ => TStep.tok _ (Nat.le_refl _) hk rfl (by simp) (by simp)) (fun _ => ?_)
  refine Step.ite _ (fun _ => TStep.tok _ (Nat.le_refl _) hk rfl (by simp) (by simp)) (fun _ => ?_)
  exact Step.ite _ (fun _ => counts_step p k t hk hs) (fun _ => TStep.tok _ (Nat.le_refl _) hk rfl (by simp) (by simp))
theorem uptoL_succ (p : List Int) (m k : Nat) : uptoL p (m + 1) k = thenF (peekL p k) fun b => if b = 125 then .ok k else thenF (charL p k) fun a => uptoL p m a.2 := rfl
theorem upto_step (p : List Int) (st : Nat) : ∀ (f k : Nat), k ≤ p.length → st ≤ k → p.length < f + k →
    (∀ k', uptoL p f k = .ok k' → k ≤ k' ∧ k' < p.length ∧ ∀ m, k' < m → m ≤ p.length → ∀ f', m < f' + k → uptoL (p.take m) f' k = .ok k') ∧ ∀ x, uptoL p f k = .error x → FaultAt p st x
  | 0, k, hk, _, hf => by omega
  | f + 1, k, hk, hs, hf => by
    have hp := peek_step p (st := st) hk hs
    rw [uptoL_succ]
    cases hb : peekL p k with
    | error x => exact ⟨fun k' h => (by cases h), fun y h => (by cases h; exact hp.2 _ hb)⟩
    | ok b =>
      have hb1 := peek_ok hb
      simp only [thenF_ok]
      by_cases h1 : b = 125
      · rw [if_pos h1]
        refine ⟨fun k' h => ?_, fun y h => (by cases h)⟩
        cases h
        refine ⟨Nat.le_refl _, hb1.1, fun m hm hl f' hf' => ?_⟩
        obtain ⟨g, rfl⟩ : ∃ g, f' = g + 1 := ⟨f' - 1, by omega⟩
        rw [uptoL_succ, peek_take hb hm, thenF_ok, if_pos h1]
      · rw [if_neg h1]
        cases hc : charL p k with
        | error x => exact ⟨fun k' h => (by cases h), fun y h => (by cases h; exact char_err hc hk hs)⟩
        | ok a =>
          obtain ⟨r, k2⟩ := a
          obtain ⟨n, _, h3, h4, h5⟩ := char_ok hc
          have ih := upto_step p st f k2 (by omega) (by omega) (by omega)
          simp only [thenF_ok]
          refine ⟨fun k' h => ?_, fun y h => ih.2 y h⟩
          obtain ⟨g1, g2, g3⟩ := ih.1 k' h
          refine ⟨by omega, g2, fun m hm hl f' hf' => ?_⟩
          obtain ⟨g, rfl⟩ : ∃ g, f' = g + 1 := ⟨f' - 1, by omega⟩
          rw [uptoL_succ, peek_take hb (by omega), thenF_ok, if_neg h1, char_take hc (by omega), thenF_ok]
          exact g3 m hm hl g (by omega)
theorem propE_step (res : ByteArray → Int × ByteArray × Int) (p : List Int) (x : ByteArray) (k2 : Nat) (t : Tk) (hk : k2 + 1 ≤ p.length) (hs : t.st ≤ k2) : TStep p t.st (k2 + 1) (fun _ => propE res x k2 t) := by
  unfold propE
  exact Step.ite _ (fun he => Step.err _ (st_at he (by omega))) (fun _ => TStep.tok _ (Nat.le_refl _) hk rfl (by simp) (by simp))
theorem prop_step (res : ByteArray → Int × ByteArray × Int) (p : List Int) (k : Nat) (t : Tk) (hk : k ≤ p.length) (hs : t.st ≤ k) : TStep p t.st k (fun q => propL res q k t) := by
  unfold propL
  refine (need_step p (c := 123) (e := 132) hk hs (by decide)).bind (fun k1 _ e1 h1 h2 => ?_)
  subst e1
  have hU := upto_step p t.st p.length (k + 1) h2 (by omega) (by omega)
  have hS : Step p t.st (k + 1) (fun k2 => k2 + 1) (fun k2 : Nat => k + 1 ≤ k2 ∧ k2 < p.length) (fun q => uptoL q q.length (k + 1)) :=
    ⟨fun k2 h => by
      obtain ⟨g1, g2, g3⟩ := hU.1 k2 h
      refine ⟨⟨show k + 1 ≤ k2 + 1 by omega, show k2 + 1 ≤ p.length by omega, fun m (hm : k2 + 1 < m) hl => ?_⟩, g1, g2⟩
      have e : (p.take m).length = m := by rw [List.length_take]; omega
      simp only [e]
      exact g3 m (by omega) hl m (by omega), hU.2⟩
  refine hS.bind (fun k2 _ hk2 h3 h4 => ?_)
  exact Step.tot' (g := fun q => (q.drop (k + 1)).take (k2 - (k + 1))) (atg := fun _ => k2 + 1) (G := fun x q => propE res (strOfNums x) k2 t) (fun q => rfl) (Nat.le_refl _) (fun m hm hl => cut_take (by omega)) (fun x _ => propE_step res p _ k2 t h4 (by omega))
theorem pointE_step (p : List Int) (k2 : Nat) (d : List Int) (t : Tk) (hk : k2 ≤ p.length) (hs : t.st ≤ k2) : TStep p t.st k2 (fun q => pointE q k2 d t) := by
  unfold pointE
  refine (peek_step p hk hs).bind (fun _ hd hlt2 _ _ => ?_)
  refine Step.ite _ (fun _ => Step.err _ (st_at (by simp) (by omega))) (fun _ => ?_)
  exact (need_step p (c := 125) (e := 132) hk hs (by decide)).bind (fun a ha hP h1 h2 => TStep.tok _ (Nat.le_refl _) h2 rfl (by simp) (by simp))
theorem point_step (p : List Int) (k : Nat) (t : Tk) (hk : k ≤ p.length) (hs : t.st ≤ k) : TStep p t.st k (fun q => pointL q k t) := by
  unfold pointL
  refine (need_step p (c := 123) (e := 132) hk hs (by decide)).bind (fun k1 _ e1 h1 h2 => ?_)
  subst e1
  have hrl := run_le' hexB (M := 6) h2
  refine Step.tot' (g := fun q => (runN hexB 6 (q.drop (k + 1)), (q.drop (k + 1)).take (runN hexB 6 (q.drop (k + 1))))) (atg := fun x => k + 1 + x.1) (G := fun x q => pointE q (k + 1 + x.1) x.2 t) (fun q => rfl) (by simp) (fun m hm hl => by simp only at hm ⊢; rw [run_take' hexB hm, cut_take (by omega)]) (fun x hx => ?_)
  obtain ⟨N, X⟩ := x
  have hN : runN hexB 6 (p.drop (k + 1)) = N := (Prod.mk.inj hx).1
  rw [hN] at hrl
  exact pointE_step p (k + 1 + N) X t hrl (by omega)
theorem backE_step (p : List Int) (x : Int × Nat) (t : Tk) (hk : x.2 ≤ p.length) (hs : t.st ≤ x.2) : TStep p t.st x.2 (fun q => backE q x t) := by
  unfold backE
  refine (peek_step p hk hs).bind (fun _ hd hlt2 _ _ => ?_)
  refine Step.ite _ (fun _ => Step.err _ (st_at (by simp) (by omega))) (fun _ => ?_)
  exact (need_step p (c := 125) (e := 132) hk hs (by decide)).bind (fun a ha hP h1 h2 => TStep.tok _ (Nat.le_refl _) h2 rfl (by simp) (by simp))
theorem back_step (p : List Int) (k : Nat) (t : Tk) (hk : k ≤ p.length) (hs : t.st ≤ k) : TStep p t.st k (fun q => backL q k t) := by
  unfold backL
  refine (peek_step p hk hs).bind (fun c hc hlt _ _ => ?_)
  refine Step.ite _ (fun _ => ?_) (fun _ => ?_)
  · exact Step.mono ((name_step p t.st (k + 1) 132 (by decide) (by omega) (by omega)).bind (fun a ha _ h1 h2 => TStep.tok _ (Nat.le_refl _) h2 rfl (by simp) (by simp))) (Nat.le_succ _)
  · refine (need_step p (c := 123) (e := 132) hk hs (by decide)).bind (fun k1 _ e1 h1 h2 => ?_)
    subst e1
    have hn := number_ge p (k + 1) 2 h2
    refine Step.tot' (g := fun q => numberL q (k + 1) 2) (atg := fun x => x.2) (G := fun x q => backE q x t) (fun q => rfl) hn.1 (fun m hm _ => number_take hm) (fun x hx => ?_)
    have hx' : numberL p (k + 1) 2 = x := hx
    rw [hx'] at hn
    exact backE_step p x t hn.2 (by omega)
theorem edge_step (p : List Int) (k : Nat) (t : Tk) (not_ : Bool) (hk : k ≤ p.length) (hs : t.st ≤ k) : TStep p t.st k (fun q => edgeL q k t not_) := by
  unfold edgeL
  refine Step.hasNot [123] (by simp) (fun hh => ?_) (fun hh => TStep.tok _ (Nat.le_refl _) hk rfl (by simp) (by simp))
  have hk1 : k + 1 ≤ p.length := has_ok hh (by simp)
  refine Step.mono (k' := k + 1) ((peek_step p (k := k + 1) hk1 (by omega)).bind (fun c hc hlt _ _ => ?_)) (Nat.le_succ _)
  refine Step.ite _ (fun _ => ?_) (fun _ => Step.err _ (st_at (by simp) (by omega)))
  exact Step.mono (k' := k + 2) ((need_step p (k := k + 2) (c := 125) (e := 132) (by omega) (by omega) (by decide)).bind (fun a ha hP h1 h2 => TStep.tok _ (Nat.le_refl _) h2 rfl (by simp) (by simp))) (Nat.le_succ _)
theorem esc_step (res : ByteArray → Int × ByteArray × Int) (p : List Int) (ne : Nat) (c : Int) (k1 : Nat) (t : Tk) (h2 : k1 ≤ p.length) (hs : t.st ≤ k1) : TStep p t.st k1 (fun q => escL res q ne c k1 t) := by
  unfold escL
  refine Step.ite _ (fun _ => TStep.tok _ (Nat.le_refl _) h2 rfl (by simp) (by simp)) (fun _ => ?_)
  refine Step.ite _ (fun _ => TStep.tok _ (Nat.le_refl _) h2 rfl (by simp) (by simp)) (fun _ => ?_)
  refine Step.ite _ (fun _ => prop_step res p k1 { t with kind := 1, neg := decide (c = 80) } h2 hs) (fun _ => ?_)
  refine Step.ite _ (fun _ => point_step p k1 { t with kind := 1 } h2 hs) (fun _ => ?_)
  refine Step.ite _ (fun _ => TStep.tok _ (Nat.le_refl _) h2 rfl (by simp) (by simp)) (fun _ => ?_)
  refine Step.ite _ (fun _ => TStep.tok _ (Nat.le_refl _) h2 rfl (by simp) (by simp)) (fun _ => ?_)
  refine Step.ite _ (fun _ => TStep.tok _ (Nat.le_refl _) h2 rfl (by simp) (by simp)) (fun _ => ?_)
  refine Step.ite _ (fun _ => Step.err _ (st_at (by simp) (by omega))) (fun _ => ?_)
  refine Step.ite _ (fun _ => TStep.tok _ (Nat.le_refl _) h2 rfl (by simp) (by simp)) (fun _ => ?_)
  refine Step.ite _ (fun _ => TStep.tok _ (Nat.le_refl _) h2 rfl (by simp) (by simp)) (fun _ => ?_)
  refine Step.ite _ (fun _ => edge_step p k1 { t with kind := 1 } _ h2 hs) (fun _ => ?_)
  refine Step.ite _ (fun _ => TStep.tok _ (Nat.le_refl _) h2 rfl (by simp) (by simp)) (fun _ => ?_)
  refine Step.ite _ (fun _ => back_step p k1 { t with kind := 1 } h2 hs) (fun _ => ?_)
  exact Step.ite _ (fun _ => TStep.tok _ (Nat.le_refl _) h2 rfl (by simp) (by simp)) (fun _ => Step.err _ (st_at (by simp) (by omega)))
theorem escape_step (res : ByteArray → Int × ByteArray × Int) (p : List Int) (ne k : Nat) (t : Tk) (hk : k ≤ p.length) (hs : t.st ≤ k) : TStep p t.st k (fun q => escapeL res q ne k t) := by
  unfold escapeL
  refine (peek_step p hk hs).bind (fun b hb hlt _ _ => ?_)
  exact (char_step p hk hs).bind (fun a ha hlt2 h1 h2 => esc_step res p ne a.1 a.2 t h2 (by omega))
theorem other_step (res : ByteArray → Int × ByteArray × Int) (p : List Int) (ne k : Nat) (t : Tk) (hk : k ≤ p.length) (hs : t.st ≤ k) : Step p t.st k (fun a => a.2) (fun a => TokP t.st a ∧ k < a.2) (fun q => otherL res q ne k t) := by
  unfold otherL
  refine (char_step p hk hs).bind (fun a ha hlt2 h1 h2 => ?_)
  rcases a with ⟨c, k1⟩
  simp only at h1 h2 hlt2 ⊢
  have key : ∀ F, TStep p t.st k1 F → Step p t.st k1 (fun a => a.2) (fun a => TokP t.st a ∧ k < a.2) F := fun F h => ⟨fun a e => ⟨(h.1 a e).1, (h.1 a e).2, by have := (h.1 a e).1.1; simp only at this; omega⟩, h.2⟩
  apply key
  unfold othL
  refine Step.ite _ (fun _ => escape_step res p ne k1 t h2 (by omega)) (fun _ => ?_)
  refine Step.ite _ (fun _ => TStep.tok _ (Nat.le_refl _) h2 rfl (by simp) (by simp)) (fun _ => ?_)
  refine Step.ite _ (fun _ => TStep.tok _ (Nat.le_refl _) h2 rfl (by simp) (by simp)) (fun _ => ?_)
  refine Step.ite _ (fun _ => TStep.tok _ (Nat.le_refl _) h2 rfl (by simp) (by simp)) (fun _ => ?_)
  refine Step.ite _ (fun _ => open_step p k1 t h2 (by omega)) (fun _ => ?_)
  refine Step.ite _ (fun _ => TStep.tok _ (Nat.le_refl _) h2 rfl (by simp) (by simp)) (fun _ => ?_)
  refine Step.ite _ (fun _ => TStep.tok _ (Nat.le_refl _) h2 rfl (by simp) (by simp)) (fun _ => ?_)
  refine Step.ite _ (fun _ => TStep.tok _ (Nat.le_refl _) h2 rfl (by simp) (by simp)) (fun _ => ?_)
  exact Step.ite _ (fun _ => repeat_step p k1 t c h2 (by omega)) (fun _ => TStep.tok _ (Nat.le_refl _) h2 rfl (by simp) (by simp))
/-- A token, the place behind it, how deep: what a step comes to. -/
abbrev NexP (k : Nat) (a : Tk × Nat × Nat) : Prop := a.1.st = k ∧ a.1.en = a.2.1 ∧ k < a.2.1 ∧ 1 ≤ a.1.kind ∧ a.1.kind ≤ 14
theorem within_step (p : List Int) (ne k : Nat) (t : Tk) (hk : k ≤ p.length) (hs : t.st = k) : Step p k (k + 1) (fun a : Tk × Nat × Nat => a.2.1) (fun a => a.1.st = k ∧ 1 ≤ a.1.kind ∧ a.1.kind ≤ 14) (fun q => match withinL q ne k t with | some a => .ok a | none => .error (1, k)) := by
  have e : ∀ q, (match withinL q ne k t with | some a => (.ok a : Fl (Tk × Nat × Nat)) | none => .error (1, k)) =
      if hasL q k [91] = true then (if hasL q (k + 1) [94] = true then .ok ({ t with kind := 11, neg := true }, k + 2, ne + 1) else .ok ({ t with kind := 11, neg := false }, k + 1, ne + 1))
      else if ne = 0 then .error (1, k)
      else if hasL q k [93] = true then .ok ({ t with kind := 12 }, k + 1, ne - 1)
      else if hasL q k [38, 38] = true then .ok ({ t with kind := 14, mode := 1 }, k + 2, ne)
      else if hasL q k [45, 45] = true then .ok ({ t with kind := 14, mode := 2 }, k + 2, ne)
      else if hasL q k [126, 126] = true then .ok ({ t with kind := 14, mode := 3 }, k + 2, ne)
      else if hasL q k [45] = true then .ok ({ t with kind := 13 }, k + 1, ne)
      else .error (1, k) := fun q => by
    unfold withinL eatL
    repeat' split
    all_goals simp_all
  simp only [e]
  have hst : FaultAt p k (1, k) := ⟨by simp, Nat.le_refl _, hk⟩
  have tok : ∀ (t : Tk) (k' n : Nat), k + 1 ≤ k' → k' ≤ p.length → t.st = k → 1 ≤ t.kind → t.kind ≤ 14 → Step p k (k + 1) (fun a : Tk × Nat × Nat => a.2.1) (fun a => a.1.st = k ∧ 1 ≤ a.1.kind ∧ a.1.kind ≤ 14) (fun _ => .ok (t, k', n)) := fun t k' n h1 h2 h3 h4 h5 => Step.ok _ h1 h2 ⟨h3, h4, h5⟩
  have one : ∀ {b : Int}, hasL p k [b] = true → k + 1 ≤ p.length := fun h => by have := has_ok h (by simp); simpa using this
  refine Step.has [91] (by simp) (fun h => ?_) (fun _ => ?_)
  · have h1 := one h
    exact Step.has [94] (by simp) (fun h2 => tok _ _ _ (by omega) (by have := has_ok h2 (by simp); simp only [List.length_cons, List.length_nil] at this; omega) hs (by simp) (by simp)) (fun _ => tok _ _ _ (Nat.le_refl _) h1 hs (by simp) (by simp))
  refine Step.ite _ (fun _ => Step.err _ hst) (fun _ => ?_)
  refine Step.has [93] (by simp) (fun h => tok _ _ _ (Nat.le_refl _) (one h) hs (by simp) (by simp)) (fun _ => ?_)
  refine Step.has [38, 38] (by simp) (fun h => tok _ _ _ (by omega) (by have := has_ok h (by simp); simpa using this) hs (by simp) (by simp)) (fun _ => ?_)
  refine Step.has [45, 45] (by simp) (fun h => tok _ _ _ (by omega) (by have := has_ok h (by simp); simpa using this) hs (by simp) (by simp)) (fun _ => ?_)
  refine Step.has [126, 126] (by simp) (fun h => tok _ _ _ (by omega) (by have := has_ok h (by simp); simpa using this) hs (by simp) (by simp)) (fun _ => ?_)
  exact Step.has [45] (by simp) (fun h => tok _ _ _ (Nat.le_refl _) (one h) hs (by simp) (by simp)) (fun _ => Step.err _ hst)

theorem next_step (res : ByteArray → Int × ByteArray × Int) (p : List Int) (ne k : Nat) (hk : k ≤ p.length) : Step p k (k + 1) (fun a : Tk × Nat × Nat => a.2.1) (NexP k) (fun q => nextL res q ne k) := by
  have hw := within_step p ne k { kind := 0, st := k } hk rfl
  have ho := other_step res p ne k { kind := 0, st := k } hk (Nat.le_refl _)
  have eS : ∀ q a, withinL q ne k { kind := 0, st := k } = some a → nextL res q ne k = .ok ({ a.1 with en := a.2.1 }, a.2.1, a.2.2) := fun q a h => by
    unfold nextL
    rw [h]
  cases h : withinL p ne k { kind := 0, st := k } with
  | some a =>
    obtain ⟨⟨h1, h2, h3⟩, h4⟩ := hw.1 a (by simp only [h])
    constructor
    · intro b hb
      have hb' : nextL res p ne k = .ok b := hb
      rw [eS p a h] at hb'
      cases hb'
      refine ⟨⟨h1, h2, fun m hm hl => ?_⟩, h4.1, rfl, h1, h4.2⟩
      have h5 := h3 m hm hl
      simp only at h5
      cases h6 : withinL (p.take m) ne k { kind := 0, st := k } with
      | some b => rw [h6] at h5; cases h5; exact eS _ _ h6
      | none => rw [h6] at h5; cases h5
    · intro x hx
      have hx' : nextL res p ne k = .error x := hx
      rw [eS p a h] at hx'
      cases hx'
  | none =>
    have e : nextL res p ne k = thenF (otherL res p ne k { kind := 0, st := k }) fun a => .ok ({ a.1 with en := a.2 }, a.2, ne) := by
      unfold nextL
      rw [h]
    constructor
    · intro b hb
      simp only at hb
      rw [e] at hb
      cases h6 : otherL res p ne k { kind := 0, st := k } with
      | error x => rw [h6] at hb; cases hb
      | ok a =>
        rw [h6] at hb
        cases hb
        obtain ⟨⟨h1, h2, h3⟩, h4, h5⟩ := ho.1 a h6
        refine ⟨⟨h5, h2, fun m hm hl => ?_⟩, h4.1, rfl, h5, h4.2⟩
        simp only at hm
        have h7 : withinL (p.take m) ne k { kind := 0, st := k } = none := by
          have hk2 : k + 2 ≤ m := by omega
          have e1 : ∀ b, hasL (p.take m) k [b] = hasL p k [b] := fun b => has_take (by simp only [List.length_cons, List.length_nil]; omega)
          have e2 : ∀ b c, hasL (p.take m) k [b, c] = hasL p k [b, c] := fun b c => has_take (by simp only [List.length_cons, List.length_nil]; omega)
          unfold withinL at h ⊢
          simp only [e1, e2]
          split at h
          · cases h
          · rename_i g0
            rw [if_neg g0]
            split at h
            · rename_i g1
              rw [if_pos g1]
            · rename_i g1
              rw [if_neg g1]
              split at h
              · cases h
              · rename_i g2
                rw [if_neg g2]
                split at h
                · cases h
                · rename_i g3
                  rw [if_neg g3]
                  split at h
                  · cases h
                  · rename_i g4
                    rw [if_neg g4]
                    split at h
                    · cases h
                    · rename_i g5
                      rw [if_neg g5]
                      split at h
                      · cases h
                      · rename_i g6
                        rw [if_neg g6]
        have h8 : otherL res (p.take m) ne k { kind := 0, st := k } = .ok a := h3 m hm hl
        show nextL res (p.take m) ne k = _
        unfold nextL
        rw [h7]
        show thenF (otherL res (p.take m) ne k { kind := 0, st := k }) _ = _
        rw [h8]
        rfl
    · intro x hx
      simp only at hx
      rw [e] at hx
      cases h6 : otherL res p ne k { kind := 0, st := k } with
      | error y =>
        rw [h6] at hx
        cases hx
        exact ho.2 _ h6
      | ok a => rw [h6] at hx; cases hx

end Go.Proofs.YtkipjalfgdfaiaaGreatDoor
namespace Go.Proofs.YtkipjalfgdfaiaaGreatDoor
set_option linter.unusedVariables false
set_option linter.unusedSimpArgs false
open Go.RowKit Go.Proofs.YtkipjalfgdfaiaaGreatDoorW.PrintWords Go.Proofs.YtkipjalfgdfaiaaGreatDoorW.PrintLast Go.Proofs.YtkipjalfgdfaiaaGreatDoorW.PrintMore Go.Proofs.YtkipjalfgdfaiaaGreatDoor.PTk

theorem dig_pays (W : World) (b : Int) (h0 : 0 ≤ b) (h1 : b ≤ 255) : Calls Tryz.prog 109 #[.int .u8 b] W fun e w' => e = .returned (.bool (digB b)) ∧ Drawn0 W w' := token_digit.calls b (digB b) W (digit_f b)
theorem let_pays (W : World) (b : Int) (h0 : 0 ≤ b) (h1 : b ≤ 255) : Calls Tryz.prog 108 #[.int .u8 b] W fun e w' => e = .returned (.bool (letB b)) ∧ Drawn0 W w' := token_letter.calls b (letB b) W (letter_f b h0 h1)
theorem hex_pays (W : World) (b : Int) (h0 : 0 ≤ b) (h1 : b ≤ 255) : Calls Tryz.prog 150 #[.int .u8 b] W fun e w' => e = .returned (.bool (hexB b)) ∧ Drawn0 W w' := token_hex.calls b (hexB b) W (hex_f b h0 h1)
set_option maxHeartbeats 4000000 in
set_option maxRecDepth 100000 in
theorem nam_pays (W : World) (b : Int) (h0 : 0 ≤ b) (h1 : b ≤ 255) : Calls Tryz.prog 152 #[.int .u8 b] W fun e w' => e = .returned (.bool (namB b)) ∧ Drawn0 W w' := by
  have HD := Aside0.mk (fun W => dig_pays W b h0 h1)
  have HL := Aside0.mk (fun W => let_pays W b h0 h1)
  have HN : Aside0 (namB b = (digB b || letB b || b == 95)) := ⟨rfl⟩
  obtain ⟨x, hx⟩ : ∃ x, digB b = x := ⟨_, rfl⟩
  obtain ⟨y, hy⟩ : ∃ y, letB b = y := ⟨_, rfl⟩
  rw [hx] at HD HN
  rw [hy] at HL HN
  clear hx hy
  by_cases hz : b = 95
  · have hz2 : (b == 95) = true := by rw [beq_iff_eq]; exact hz
    rw [hz2] at HN
    subst hz
    cases x <;> cases y
    all_goals
      go_enter Tryz.func152, Tryz.ntmps152
      go_wp2_with (first | (go_at_call 109; refine (HD.out _).mono ?_; rintro e w' ⟨rfl, ⟨nd, rfl⟩⟩) | (go_at_call 108; refine (HL.out _).mono ?_; rintro e w' ⟨rfl, ⟨nd, rfl⟩⟩))
      go_ret
      rw [HN.out]
      first | exact ⟨rfl, _, rfl⟩ | exact ⟨rfl, _, World.drewN_drewN _ _ _⟩
  · have hz2 : (b == 95) = false := by rw [beq_eq_false_iff_ne]; exact hz
    rw [hz2] at HN
    cases x <;> cases y
    all_goals
      go_enter Tryz.func152, Tryz.ntmps152
      go_wp2_with (first | (go_at_call 109; refine (HD.out _).mono ?_; rintro e w' ⟨rfl, ⟨nd, rfl⟩⟩) | (go_at_call 108; refine (HL.out _).mono ?_; rintro e w' ⟨rfl, ⟨nd, rfl⟩⟩))
      go_ret
      rw [HN.out]
      first | exact ⟨rfl, _, rfl⟩ | exact ⟨rfl, _, World.drewN_drewN _ _ _⟩
theorem cf_dig (args : Array Value) (W : World) : (callFunc 109 args).run Tryz.prog W = .ok (.enter 109 args) W := by kernel_rfl
theorem cf_hex (args : Array Value) (W : World) : (callFunc 150 args).run Tryz.prog W = .ok (.enter 150 args) W := by kernel_rfl
theorem cf_nam (args : Array Value) (W : World) : (callFunc 152 args).run Tryz.prog W = .ok (.enter 152 args) W := by kernel_rfl
/-- What a step of the scanner hands back. -/
def RetX {α : Type} (w : World) (g : Nat) (vp : Value) (st ne : Nat) (val : α → Value) (at_ : α → Nat) : Fl α → Ending → World → Prop
  | .ok a, e, w' => e = .returned (val a) ∧ ScP w' g vp (at_ a) st ne ∧ But (· = g) w w'
  | .error x, e, w' => e = dies x.1 x.2 ∧ But (· = g) w w'
theorem Sv.go {w w' : World} {base g : Nat} {A : Option Addr} {c : Nat} {p : List Int} {k st ne k' st' ne' : Nat} (h : Sv w base g A c p k st ne) (hB : But (· = g) w w') (hS : ScP w' g (.slice A p.length c) k' st' ne') (hk : k' ≤ p.length) : Sv w' base g A c p k' st' ne' :=
  h.move hB (fun x hx => by rw [hx]; exact h.hb) hS hk
theorem strN_nil {l : List Int} (h : l ≠ []) : (strOfNums l).toList = [] → False := by
  intro e
  rw [Lib.toList_data, str_data, List.map_eq_nil_iff] at e
  exact h e
set_option maxHeartbeats 8000000 in
set_option maxRecDepth 100000 in
theorem name_any (w : World) (base g : Nat) (A : Option Addr) (c : Nat) (p : List Int) (k st ne : Nat) (er : Int) (hV : Sv w base g A c p k st ne) :
    Calls Tryz.prog 117 #[.pointer (some ⟨g, 0, none⟩), .int .i64 er] w (RetX w g (.slice A p.length c) st ne (fun a : List Int × Nat => .string (strOfNums a.1)) (fun a => a.2) (nameL p st k er)) := by
  have HP := Aside0.mk (peek_any w base g A c p k st ne hV)
  have HV := Aside0.mk hV
  have HL : Aside0 (nameL p st k er = thenF (peekL p k) fun c =>
    if digB c then .error (er, st)
    else thenF (peekL p (k + runN namB 20 (p.drop k))) fun _ =>
      if runN namB 20 (p.drop k) = 0 then .error (er, st)
      else thenF (needL p st (k + runN namB 20 (p.drop k)) 62 er) fun k' => .ok ((p.drop k).take (runN namB 20 (p.drop k)), k')) := ⟨rfl⟩
  cases hp : peekL p k with
  | error x =>
    rw [hp] at HP HL
    clear hV hp
    go_enter Tryz.func117, Tryz.ntmps117
    go_wp2_with fail
    refine HP.out.mono ?_
    rintro e w1 ⟨rfl, hb1⟩
    go_wp2
    rw [HL.out]
    exact ⟨rfl, rfl, But.of_below hb1⟩
  | ok d =>
    rw [hp, thenF_ok] at HL
    rw [hp] at HP
    have hd := hV.rng _ (peekL_rng hp).2
    have hkl : k + runN namB 20 (p.drop k) ≤ p.length := run_le' namB hV.le
    have HD := Aside0.mk (fun W => dig_pays W d hd.1 hd.2)
    obtain ⟨x, hx⟩ : ∃ x, digB d = x := ⟨_, rfl⟩
    rw [hx] at HD HL
    have HKL := Aside0.mk hkl
    clear hV hp hx hd hkl
    cases x with
    | true =>
      simp only [if_true] at HL
      go_enter Tryz.func117, Tryz.ntmps117
      go_wp2_with fail
      refine HP.out.mono ?_
      rintro e w1 ⟨rfl, hb1⟩
      have HF := Aside0.mk (fun n => fail_any (w1.drewN n) g (.slice A p.length c) k st ne er (HV.out.stay (pw_below_drewN hb1 n)).sc)
      have HB1 := Aside0.mk hb1
      clear hb1
      go_wp2_with fail
      refine (HD.out _).mono ?_
      rintro e w2 ⟨rfl, ⟨nd, rfl⟩⟩
      go_wp2_with fail
      refine (HF.out _).mono ?_
      rintro e w3 ⟨rfl, hb3⟩
      have HB3 : Aside0 (But (· = g) w w3) := ⟨But.of_below (below_to (pw_below_drewN HB1.out _) hb3)⟩
      clear hb3
      go_wp2
      rw [HL.out]
      exact ⟨rfl, rfl, HB3.out⟩
    | false =>
      simp only [Bool.false_eq_true, if_false] at HL
      have HRUN := Aside0.mk (fun W (hB : Below w.heap.size w W) => run_any _ namB cf_nam nam_pays W base g A c p k st ne 20 (HV.out.stay hB) (by omega))
      obtain ⟨N, hN⟩ : ∃ N, runN namB 20 (p.drop k) = N := ⟨_, rfl⟩
      unfold RetN at HRUN
      rw [hN] at HL HKL HRUN
      obtain ⟨X, hX⟩ : ∃ X, (p.drop k).take N = X := ⟨_, rfl⟩
      have hXl : X.length = N := by rw [← hX, List.length_take, List.length_drop]; have := HKL.out; have h2 := runN_le namB 20 (p.drop k); rw [hN, List.length_drop] at h2; omega
      rw [hX] at HL HRUN
      clear hX hN
      have HW := Aside0.mk (fun W => peek_any W base g A c p (k + N) st ne)
      obtain ⟨s, hs⟩ : ∃ s, strOfNums X = s := ⟨_, rfl⟩
      rw [hs] at HRUN
      have HS := Aside0.mk hs
      cases hp2 : peekL p (k + N) with
      | error y =>
        rw [hp2] at HL HW
        clear hp2 hs hXl
        go_enter Tryz.func117, Tryz.ntmps117
        go_wp2_with fail
        refine HP.out.mono ?_
        rintro e w1 ⟨rfl, hb1⟩
        have HB1 := Aside0.mk hb1
        clear hb1
        go_wp2_with fail
        refine (HD.out _).mono ?_
        rintro e w2 ⟨rfl, ⟨nd, rfl⟩⟩
        go_wp2_with fail
        refine (HRUN.out _ (pw_below_drewN HB1.out _)).mono ?_
        rintro e w3 ⟨rfl, hS3, hB3⟩
        have HB3 : Aside0 (But (· = g) w w3) := ⟨(But.of_below (pw_below_drewN HB1.out _)).trans hB3⟩
        have HS3 := Aside0.mk hS3
        clear hS3 hB3
        go_wp2_with fail
        refine (HW.out _ (HV.out.go HB3.out HS3.out HKL.out)).mono ?_
        rintro e w4 ⟨rfl, hb4⟩
        have HB4 := Aside0.mk hb4
        clear hb4
        go_wp2
        rw [HL.out]
        exact ⟨rfl, rfl, HB3.out.trans (But.of_below HB4.out)⟩
      | ok y =>
        rw [hp2, thenF_ok] at HL
        rw [hp2] at HW
        clear hp2
        by_cases h0 : N = 0
        · rw [if_pos h0] at HL
          have hX0 : X = [] := List.eq_nil_iff_length_eq_zero.2 (by omega)
          subst hX0
          have hs2 : s = ⟨#[]⟩ := by rw [← hs]; rfl
          subst hs2
          clear hs h0 hXl
          go_enter Tryz.func117, Tryz.ntmps117
          go_wp2_with fail
          refine HP.out.mono ?_
          rintro e w1 ⟨rfl, hb1⟩
          have HB1 := Aside0.mk hb1
          clear hb1
          go_wp2_with fail
          refine (HD.out _).mono ?_
          rintro e w2 ⟨rfl, ⟨nd, rfl⟩⟩
          go_wp2_with fail
          refine (HRUN.out _ (pw_below_drewN HB1.out _)).mono ?_
          rintro e w3 ⟨rfl, hS3, hB3⟩
          have HB3 : Aside0 (But (· = g) w w3) := ⟨(But.of_below (pw_below_drewN HB1.out _)).trans hB3⟩
          have HS3 := Aside0.mk hS3
          clear hS3 hB3
          go_wp2_with fail
          refine (HW.out _ (HV.out.go HB3.out HS3.out HKL.out)).mono ?_
          rintro e w4 ⟨rfl, hb4⟩
          have HB4 : Aside0 (Below w3.heap.size w3 w4) := ⟨hb4⟩
          have HF := Aside0.mk (fail_any w4 g (.slice A p.length c) (k + N) st ne er ((HV.out.go HB3.out HS3.out HKL.out).stay hb4).sc)
          clear hb4
          go_wp2_with fail
          refine HF.out.mono ?_
          rintro e w5 ⟨rfl, hb5⟩
          have HB5 : Aside0 (But (· = g) w w5) := ⟨HB3.out.trans (But.of_below (below_to HB4.out hb5))⟩
          clear hb5
          go_wp2
          rw [HL.out]
          exact ⟨rfl, rfl, HB5.out⟩
        · rw [if_neg h0] at HL
          have hX0 : X ≠ [] := fun e => by rw [e] at hXl; exact h0 hXl.symm
          have hne : s.toList.isEmpty = false := by
            cases he : s.toList with
            | nil => exact absurd he (by rw [← hs]; exact fun e => strN_nil hX0 e)
            | cons a r => rfl
          clear hs h0 hXl hX0
          have HND := Aside0.mk (fun W hV => need_any W base g A c p (k + N) st ne 62 er hV)
          obtain ⟨z, hz⟩ : ∃ z, needL p st (k + N) 62 er = z := ⟨_, rfl⟩
          rw [hz] at HL HND
          clear hz
          go_enter Tryz.func117, Tryz.ntmps117
          go_wp2_with fail
          refine HP.out.mono ?_
          rintro e w1 ⟨rfl, hb1⟩
          have HB1 := Aside0.mk hb1
          clear hb1
          go_wp2_with fail
          refine (HD.out _).mono ?_
          rintro e w2 ⟨rfl, ⟨nd, rfl⟩⟩
          go_wp2_with fail
          refine (HRUN.out _ (pw_below_drewN HB1.out _)).mono ?_
          rintro e w3 ⟨rfl, hS3, hB3⟩
          have HB3 : Aside0 (But (· = g) w w3) := ⟨(But.of_below (pw_below_drewN HB1.out _)).trans hB3⟩
          have HS3 := Aside0.mk hS3
          clear hS3 hB3
          go_wp2_with fail
          refine (HW.out _ (HV.out.go HB3.out HS3.out HKL.out)).mono ?_
          rintro e w4 ⟨rfl, hb4⟩
          have HB4 : Aside0 (But (· = g) w w4) := ⟨HB3.out.trans (But.of_below hb4)⟩
          have HN4 := Aside0.mk (HND.out w4 ((HV.out.go HB3.out HS3.out HKL.out).stay hb4))
          clear hb4 HND
          cases z with
          | error z =>
            go_wp2_with fail
            refine HN4.out.mono ?_
            rintro e w5 ⟨rfl, hb5⟩
            have HB5 : Aside0 (But (· = g) w w5) := ⟨HB4.out.trans hb5⟩
            clear hb5
            go_wp2
            rw [HL.out]
            exact ⟨rfl, rfl, HB5.out⟩
          | ok k' =>
            go_wp2_with fail
            refine HN4.out.mono ?_
            rintro e w5 ⟨rfl, hS5, hb5⟩
            have HB5 : Aside0 (But (· = g) w w5) := ⟨HB4.out.trans hb5⟩
            have HS5 := Aside0.mk hS5
            clear hb5 hS5
            go_wp2
            go_ret
            rw [HL.out]
            exact ⟨by rw [← HS.out]; rfl, HS5.out, HB5.out⟩

end Go.Proofs.YtkipjalfgdfaiaaGreatDoor
namespace Go.Proofs.YtkipjalfgdfaiaaGreatDoor
set_option linter.unusedVariables false
set_option linter.unusedSimpArgs false
open Go.RowKit Go.Proofs.YtkipjalfgdfaiaaGreatDoorW.PrintWords Go.Proofs.YtkipjalfgdfaiaaGreatDoorW.PrintLast Go.Proofs.YtkipjalfgdfaiaaGreatDoorW.PrintMore Go.Proofs.YtkipjalfgdfaiaaGreatDoor.PTk

/-- What the library's variables hold that the scanner reaches, below 'base'. -/
structure Vars (base : Nat) (w : World) (m : Int) : Prop where
  mx : w.cell? ⟨2, 0, none⟩ = some (.int .i64 m)
  syn : ∃ ev, w.cell? ⟨7, 0, none⟩ = some ev ∧ (ev = .nilIface ∨ ∃ te pe, ev = .iface te pe)
  hb : 2 < base ∧ 7 < base
theorem cell_kept {w w' : World} {base g : Nat} {v : Value} (h : w.cell? ⟨g, 0, none⟩ = some v) (hb : Below base w w') (hg : g < base) : w'.cell? ⟨g, 0, none⟩ = some v := by
  rw [← h]
  exact hb.cell (p := ⟨g, 0, none⟩) hg
theorem Vars.move {base : Nat} {w w' : World} {m : Int} (h : Vars base w m) (hb : Below base w w') : Vars base w' m :=
  ⟨cell_kept h.mx hb h.hb.1, by obtain ⟨ev, hs, he⟩ := h.syn; exact ⟨ev, cell_kept hs hb h.hb.2, he⟩, h.hb⟩
theorem Vars.up {base base' : Nat} {w : World} {m : Int} (h : Vars base w m) (hb : base ≤ base') : Vars base' w m := ⟨h.mx, h.syn, Nat.lt_of_lt_of_le h.hb.1 hb, Nat.lt_of_lt_of_le h.hb.2 hb⟩
/-- The blocks that the scanner writes. -/
abbrev Two (g h : Nat) (x : Nat) : Prop := x = g ∨ x = h
structure St (W0 : World) (m : Int) (base g h : Nat) (A : Option Addr) (c : Nat) (p : List Int) (st ne : Nat) (t : Tk) (k : Nat) (w : World) : Prop where
  sv : Sv w base g A c p k st ne
  tk : TkP w h t
  bt : But (Two g h) W0 w
  vr : Vars base w m
  hh : base ≤ h
  hn : h ≠ g
section
variable {W0 w w' : World} {m : Int} {base g h : Nat} {A : Option Addr} {c : Nat} {p : List Int} {st ne k k' : Nat} {t t' : Tk}
theorem St.start (sv : Sv w base g A c p k st ne) (tk : TkP w h t) (vr : Vars base w m) (hh : base ≤ h) (hn : h ≠ g) : St w m base g h A c p st ne t k w := ⟨sv, tk, But.refl _ _, vr, hh, hn⟩
theorem St.hlt (S : St W0 m base g h A c p st ne t k w) : h < w.heap.size := by
  have h1 : w.heap[h]? = some _ := S.tk
  exact (Array.getElem?_eq_some_iff.1 h1).1
theorem St.bb (S : St W0 m base g h A c p st ne t k w) : base ≤ w.heap.size := by have := S.hlt; have := S.hh; omega
theorem St.stay (S : St W0 m base g h A c p st ne t k w) (hb : Below w.heap.size w w') : St W0 m base g h A c p st ne t k w' :=
  ⟨S.sv.stay hb, (hb.block h S.hlt).trans S.tk, S.bt.trans (But.of_below hb), S.vr.move (hb.mono S.bb), S.hh, S.hn⟩
theorem St.draw (S : St W0 m base g h A c p st ne t k w) (n : Nat) : St W0 m base g h A c p st ne t k (w.drewN n) := S.stay (pw_below_drewN (Below.refl _ _) n)
theorem St.goes (S : St W0 m base g h A c p st ne t k w) (hB : But (· = g) w w') (hP : ScP w' g (.slice A p.length c) k' st ne) (hk : k' ≤ p.length) : St W0 m base g h A c p st ne t k' w' :=
  ⟨S.sv.go hB hP hk, (hB.block h S.hlt S.hn).trans S.tk, S.bt.trans (hB.mono fun x e => .inl e), S.vr.move (hB.below S.bb fun x hx e => by have := S.sv.hb; omega), S.hh, S.hn⟩
theorem St.setT (S : St W0 m base g h A c p st ne t k w) (i : Nat) (v : Value) (t' : Tk) (ht : (tkC t).setIfInBounds i v = tkC t') : St W0 m base g h A c p st ne t' k (w.setCell ⟨h, i, none⟩ v) := by
  have hb : But (· = h) w (w.setCell ⟨h, i, none⟩ v) := But.set (ex := (· = h)) (But.refl _ _) h i rfl v
  have hg : (w.setCell ⟨h, i, none⟩ v).heap[g]? = w.heap[g]? := hb.block g S.sv.lt (fun e => S.hn e.symm)
  have hB : But (Two g h) w (w.setCell ⟨h, i, none⟩ v) := hb.mono fun x e => .inr e
  exact ⟨S.sv.move hB (fun x hx => by rcases hx with hx | hx <;> rw [hx]; exact S.sv.hb; exact S.hh) (hg.trans S.sv.sc) S.sv.le, blk_put S.tk i v ht, S.bt.trans hB, S.vr.move (hb.below S.bb fun x hx e => by have := S.hh; omega), S.hh, S.hn⟩
theorem St.setK (S : St W0 m base g h A c p st ne t k w) (v : Value) (k' : Nat) (hv : v = .int .i64 (k' : Int)) (hk : k' ≤ p.length) : St W0 m base g h A c p st ne t k' (w.setCell ⟨g, 1, none⟩ v) := by
  subst hv
  exact S.goes (But.set (ex := (· = g)) (But.refl _ _) g 1 rfl _) (blk_put S.sv.sc 1 _ rfl) hk
theorem St.setN (S : St W0 m base g h A c p st ne t k w) (v : Value) (ne' : Nat) (hv : v = .int .i64 (ne' : Int)) : St W0 m base g h A c p st ne' t k (w.setCell ⟨g, 3, none⟩ v) := by
  subst hv
  have hB : But (· = g) w (w.setCell ⟨g, 3, none⟩ (.int .i64 (ne' : Int))) := But.set (ex := (· = g)) (But.refl _ _) g 3 rfl _
  exact ⟨S.sv.move hB (fun x e => by rw [e]; exact S.sv.hb) (blk_put S.sv.sc 3 _ rfl) S.sv.le, (hB.block h S.hlt S.hn).trans S.tk, S.bt.trans (hB.mono fun x e => .inl e), S.vr.move (hB.below S.bb fun x hx e => by have := S.sv.hb; omega), S.hh, S.hn⟩
/-- What stands in the token's variable. -/
theorem St.cell (S : St W0 m base g h A c p st ne t k w) (i : Nat) (v : Value) (hv : (tkC t)[i]? = some v) : w.cell? ⟨h, i, none⟩ = some v := rowc S.tk i v hv
theorem St.free (S : St W0 m base g h A c p st ne t k w) (i : Nat) : w.frozen? ⟨h, i, none⟩ = false := blk_frozen S.tk i
theorem St.freeS (S : St W0 m base g h A c p st ne t k w) (i : Nat) : w.frozen? ⟨g, i, none⟩ = false := blk_frozen S.sv.sc i
theorem St.at_ (S : St W0 m base g h A c p st ne t k w) : w.cell? ⟨g, 1, none⟩ = some (.int .i64 (k : Int)) := rowc S.sv.sc 1 _ rfl
theorem St.nest (S : St W0 m base g h A c p st ne t k w) : w.cell? ⟨g, 3, none⟩ = some (.int .i64 (ne : Int)) := rowc S.sv.sc 3 _ rfl
end
/-- What a step hands back: the state behind it, or a fault. -/
def RS {α : Type} (W0 : World) (g h : Nat) (S : Nat → World → Prop) (val : α → Value) (at_ : α → Nat) : Fl α → Ending → World → Prop
  | .ok a, e, w' => e = .returned (val a) ∧ S (at_ a) w'
  | .error x, e, w' => e = dies x.1 x.2 ∧ But (Two g h) W0 w'
/-- A step that moves the scanner alone, over the state. -/
theorem St.x {α : Type} {W0 w : World} {m : Int} {base g h : Nat} {A : Option Addr} {c : Nat} {p : List Int} {st ne k : Nat} {t : Tk} {f : FuncId} {args : Array Value} {val : α → Value} {at_ : α → Nat} {F : Fl α}
    (S : St W0 m base g h A c p st ne t k w) (hc : Calls Tryz.prog f args w (RetX w g (.slice A p.length c) st ne val at_ F)) (hk : ∀ a, F = .ok a → at_ a ≤ p.length) : Calls Tryz.prog f args w (RS W0 g h (St W0 m base g h A c p st ne t) val at_ F) :=
  hc.mono fun e w' hr => by
    cases F with
    | error x => exact ⟨hr.1, S.bt.trans (hr.2.mono fun x e => .inl e)⟩
    | ok a => exact ⟨hr.1, S.goes hr.2.2 hr.2.1 (hk a rfl)⟩
section
variable {W0 w w' : World} {m : Int} {base g h : Nat} {A : Option Addr} {c : Nat} {p : List Int} {st ne k k' : Nat} {t t' : Tk}
theorem sFail (S : St W0 m base g h A c p st ne t k w) (er : Int) : Calls Tryz.prog 113 #[.pointer (some ⟨g, 0, none⟩), .int .i64 er] w fun e w' => e = dies er st ∧ But (Two g h) W0 w' :=
  (fail_any w g _ k st ne er S.sv.sc).mono fun e w' hr => ⟨hr.1, S.bt.trans (But.of_below hr.2)⟩
theorem sPeek (S : St W0 m base g h A c p st ne t k w) : Calls Tryz.prog 107 #[.pointer (some ⟨g, 0, none⟩)] w (RS W0 g h (St W0 m base g h A c p st ne t) (fun b : Int => .int .u8 b) (fun _ => k) (peekL p k)) :=
  (peek_any w base g A c p k st ne S.sv).mono fun e w' hr => by
    cases hp : peekL p k with
    | error x => rw [hp] at hr; exact ⟨hr.1, S.bt.trans (But.of_below hr.2)⟩
    | ok b => rw [hp] at hr; exact ⟨hr.1, S.stay hr.2⟩
theorem sNeed (S : St W0 m base g h A c p st ne t k w) (b er : Int) : Calls Tryz.prog 119 #[.pointer (some ⟨g, 0, none⟩), .int .u8 b, .int .i64 er] w (RS W0 g h (St W0 m base g h A c p st ne t) (fun _ : Nat => .tuple #[]) (fun k' => k') (needL p st k b er)) :=
  (need_any w base g A c p k st ne b er S.sv).mono fun e w' hr => by
    cases hp : needL p st k b er with
    | error x => rw [hp] at hr; exact ⟨hr.1, S.bt.trans (hr.2.mono fun x e => .inl e)⟩
    | ok k' =>
      rw [hp] at hr
      exact ⟨hr.1, S.goes hr.2.2 hr.2.1 (show k' ≤ p.length by have := need_ok hp; omega)⟩
theorem eatL_le {p T : List Int} {k : Nat} (hk : k ≤ p.length) : eatL p k T ≤ p.length := by
  unfold eatL
  split
  · rename_i hh
    exact hasL_le hh hk
  · exact hk
theorem sEat (S : St W0 m base g h A c p st ne t k w) (T : List Int) (hT : ∀ b ∈ T, 0 ≤ b ∧ b ≤ 255) (hTl : T.length ≤ 2000) : Calls Tryz.prog 74 #[.pointer (some ⟨g, 0, none⟩), .string (strOfNums T)] w fun e w' => e = .returned (.bool (hasL p k T)) ∧ St W0 m base g h A c p st ne t (eatL p k T) w' :=
  (eat_any w base g A c p k st ne T S.sv hT hTl).mono fun e w' hr => ⟨hr.1, S.goes hr.2.2 hr.2.1 (eatL_le S.sv.le)⟩
theorem sEatS (S : St W0 m base g h A c p st ne t k w) (T : List Int) (s : ByteArray) (hs : strOfNums T = s) (hT : ∀ b ∈ T, 0 ≤ b ∧ b ≤ 255) (hTl : T.length ≤ 2000) : Calls Tryz.prog 74 #[.pointer (some ⟨g, 0, none⟩), .string s] w fun e w' => e = .returned (.bool (hasL p k T)) ∧ St W0 m base g h A c p st ne t (eatL p k T) w' := by
  subst hs
  exact sEat S T hT hTl
theorem sChar (S : St W0 m base g h A c p st ne t k w) (hk : k < p.length) : Calls Tryz.prog 75 #[.pointer (some ⟨g, 0, none⟩)] w (RS W0 g h (St W0 m base g h A c p st ne t) (fun a : Int × Nat => .int .i64 a.1) (fun a => a.2) (charL p k)) :=
  (char_any w base g A c p k st ne S.sv hk).mono fun e w' hr => by
    cases hp : charL p k with
    | error x => rw [hp] at hr; exact ⟨hr.1, S.bt.trans (hr.2.mono fun x e => .inl e)⟩
    | ok a =>
      rw [hp] at hr
      obtain ⟨r, k'⟩ := a
      obtain ⟨n, h1, h2, h3, h4⟩ := char_ok hp
      exact ⟨hr.1, S.goes hr.2.2 hr.2.1 (show k' ≤ p.length by omega)⟩
theorem sName (S : St W0 m base g h A c p st ne t k w) (er : Int) (he : er ≠ 0) (hs : st ≤ k) : Calls Tryz.prog 117 #[.pointer (some ⟨g, 0, none⟩), .int .i64 er] w (RS W0 g h (St W0 m base g h A c p st ne t) (fun a : List Int × Nat => .string (strOfNums a.1)) (fun a => a.2) (nameL p st k er)) :=
  S.x (name_any w base g A c p k st ne er S.sv) fun a ha => ((name_step p st k er he S.sv.le hs).1 a ha).1.2.1
theorem sRun (S : St W0 m base g h A c p st ne t k w) (F : FuncId) (of_ : Int → Bool) (most : Nat) (hm : most ≤ 100) (hcf : ∀ (args : Array Value) (W : World), (callFunc F args).run Tryz.prog W = .ok (.enter F args) W) (HF : ∀ (W : World) (b : Int), 0 ≤ b → b ≤ 255 → Calls Tryz.prog F #[.int .u8 b] W fun e w' => e = .returned (.bool (of_ b)) ∧ Drawn0 W w') :
    Calls Tryz.prog 149 #[.pointer (some ⟨g, 0, none⟩), .int .i64 (most : Int), .func (.func F) #[] #[]] w fun e w' => e = .returned (.string (strOfNums ((p.drop k).take (runN of_ most (p.drop k))))) ∧ St W0 m base g h A c p st ne t (k + runN of_ most (p.drop k)) w' :=
  (run_any F of_ hcf HF w base g A c p k st ne most S.sv hm).mono fun e w' hr => ⟨hr.1, S.goes hr.2.2 hr.2.1 (run_le' of_ S.sv.le)⟩
end

end Go.Proofs.YtkipjalfgdfaiaaGreatDoor
namespace Go.Proofs
open Go.Shelf
def Tryz.lays119_ren : Go.Shelf.Ren := ⟨fun | 119 => 179 | n => n, fun | 21 => 21 | 4 => 4 | n => n, fun | n => n⟩
theorem Tryz.lays119 : Go.Proofs.Lays.n119 Tryz.prog Tryz.lays119_ren := {
  mixed := by kernel_rfl
  f119 := Tryz.func179.trans (congrArg some (by kernel_rfl))
  t4 := Tryz.underlying4
  a4 := Tryz.isAgg4
  z4 := Tryz.sizeOf4
  v4 := Tryz.zeroValue4
  t21 := Tryz.underlying21
  a21 := Tryz.isAgg21
  z21 := Tryz.sizeOf21
  v21 := Tryz.zeroValue21 }
/-- utf8.ValidRune: "ValidRune reports whether r can be legally encoded as UTF-8. Code points that are out of range or a surrogate half are illegal.": IT RETURNS 'Lib.validRune r'; the world is as it was. (LAID: no walk: one application.) -/
theorem Tryz.utf8_ValidRune (r : Int) (w : World) :
    Calls Tryz.prog 179 #[.int .i32 r] w fun e w' => e = .returned (.bool (Lib.validRune r)) ∧ w' = w := Any.utf8_ValidRune Tryz.lays119 r w
def Tryz.lays137_ren : Go.Shelf.Ren := ⟨fun | 137 => 116 | 217 => 137 | 266 => 164 | n => n, fun | 9 => 9 | 5 => 5 | 3 => 3 | n => n, fun | n => n⟩
theorem Tryz.lays137 : Go.Proofs.Lays.n137 Tryz.prog Tryz.lays137_ren := {
  mixed := by kernel_rfl
  f137 := Tryz.func116.trans (congrArg some (by kernel_rfl))
  f217 := Tryz.func137.trans (congrArg some (by kernel_rfl))
  f266 := Tryz.func164.trans (congrArg some (by kernel_rfl))
  t3 := Tryz.underlying3
  a3 := Tryz.isAgg3
  z3 := Tryz.sizeOf3
  v3 := Tryz.zeroValue3
  t5 := Tryz.underlying5
  a5 := Tryz.isAgg5
  z5 := Tryz.sizeOf5
  v5 := Tryz.zeroValue5
  t9 := Tryz.underlying9
  a9 := Tryz.isAgg9
  z9 := Tryz.sizeOf9
  v9 := Tryz.zeroValue9 }
open Go.RowKit in
/-- strings.IndexByte: "IndexByte returns the index of the first instance of c in s, or -1 if c is not present in s.": IT RETURNS 'Lib.indexByte s c'; the world is as it was. (LAID: no walk: one application.) -/
theorem Tryz.strings_IndexByte (s : ByteArray) (c : Int) (w : World) :
    Calls Tryz.prog 116 #[.string s, .int .u8 c] w fun e w' => e = .returned (.int .i64 (Lib.indexByte s.data.toList c.toNat.toUInt8)) ∧ w' = w := Any.strings_IndexByte Tryz.lays137 s c w
def Tryz.lays152_ren : Go.Shelf.Ren := ⟨fun | 152 => 166 | 137 => 116 | 119 => 179 | 224 => 139 | 225 => 138 | 217 => 137 | 266 => 164 | n => n, fun | 9 => 9 | 21 => 21 | 3 => 3 | 4 => 4 | 5 => 5 | 0 => 0 | 46 => 43 | n => n, fun | n => n⟩
theorem Tryz.lays152 : Go.Proofs.Lays.n152 Tryz.prog Tryz.lays152_ren := {
  mixed := by kernel_rfl
  f119 := Tryz.func179.trans (congrArg some (by kernel_rfl))
  f137 := Tryz.func116.trans (congrArg some (by kernel_rfl))
  f152 := Tryz.func166.trans (congrArg some (by kernel_rfl))
  f217 := Tryz.func137.trans (congrArg some (by kernel_rfl))
  f224 := Tryz.func139.trans (congrArg some (by kernel_rfl))
  f225 := Tryz.func138.trans (congrArg some (by kernel_rfl))
  f266 := Tryz.func164.trans (congrArg some (by kernel_rfl))
  t0 := Tryz.underlying0
  a0 := Tryz.isAgg0
  z0 := Tryz.sizeOf0
  v0 := Tryz.zeroValue0
  t3 := Tryz.underlying3
  a3 := Tryz.isAgg3
  z3 := Tryz.sizeOf3
  v3 := Tryz.zeroValue3
  t4 := Tryz.underlying4
  a4 := Tryz.isAgg4
  z4 := Tryz.sizeOf4
  v4 := Tryz.zeroValue4
  t5 := Tryz.underlying5
  a5 := Tryz.isAgg5
  z5 := Tryz.sizeOf5
  v5 := Tryz.zeroValue5
  t9 := Tryz.underlying9
  a9 := Tryz.isAgg9
  z9 := Tryz.sizeOf9
  v9 := Tryz.zeroValue9
  t21 := Tryz.underlying21
  a21 := Tryz.isAgg21
  z21 := Tryz.sizeOf21
  v21 := Tryz.zeroValue21
  t46 := Tryz.underlying43
  a46 := Tryz.isAgg43
  z46 := Tryz.sizeOf43
  v46 := Tryz.zeroValue43 }
open Go.RowKit Go.Lib in
theorem Tryz.strings_IndexRune_ascii (s : ByteArray) (r : Int) (w : World) (h0 : 0 ≤ r) (h1 : r < 128) :
    Calls Tryz.prog 166 #[.string s, .int .i32 r] w fun e w' => e = .returned (.int .i64 (Lib.indexByte s.data.toList r.toNat.toUInt8)) ∧ w' = w := Any.strings_IndexRune_ascii Tryz.lays152 s r w h0 h1
def Tryz.lays226_ren : Go.Shelf.Ren := ⟨fun | 226 => 167 | n => n, fun | 3 => 3 | 4 => 4 | n => n, fun | n => n⟩
theorem Tryz.lays226 : Go.Proofs.Lays.n226 Tryz.prog Tryz.lays226_ren := {
  mixed := by kernel_rfl
  f226 := Tryz.func167.trans (congrArg some (by kernel_rfl))
  t3 := Tryz.underlying3
  a3 := Tryz.isAgg3
  z3 := Tryz.sizeOf3
  v3 := Tryz.zeroValue3
  t4 := Tryz.underlying4
  a4 := Tryz.isAgg4
  z4 := Tryz.sizeOf4
  v4 := Tryz.zeroValue4 }
open Go.RowKit Go.Lib in
theorem Tryz.strings_shouldUseASCIISet (n : Int) (w : World) :
    Calls Tryz.prog 167 #[.int .i64 n] w fun e w' => e = .returned (.bool (decide (8 < n))) ∧ w' = w := Any.strings_shouldUseASCIISet Tryz.lays226 n w
def Tryz.lays153_ren : Go.Shelf.Ren := ⟨fun | 153 => 142 | 152 => 166 | 226 => 167 | 227 => 168 | 228 => 169 | 137 => 116 | 119 => 179 | 224 => 139 | 225 => 138 | 217 => 137 | 266 => 164 | n => n, fun | 9 => 9 | 3 => 3 | 4 => 4 | 5 => 5 | 21 => 21 | 117 => 189 | 116 => 188 | 0 => 0 | 46 => 43 | 124 => 203 | n => n, fun | n => n⟩
theorem Tryz.lays153 : Go.Proofs.Lays.n153 Tryz.prog Tryz.lays153_ren := {
  mixed := by kernel_rfl
  f119 := Tryz.func179.trans (congrArg some (by kernel_rfl))
  f137 := Tryz.func116.trans (congrArg some (by kernel_rfl))
  f152 := Tryz.func166.trans (congrArg some (by kernel_rfl))
  f153 := Tryz.func142.trans (congrArg some (by kernel_rfl))
  f217 := Tryz.func137.trans (congrArg some (by kernel_rfl))
  f224 := Tryz.func139.trans (congrArg some (by kernel_rfl))
  f225 := Tryz.func138.trans (congrArg some (by kernel_rfl))
  f226 := Tryz.func167.trans (congrArg some (by kernel_rfl))
  f227 := Tryz.func168.trans (congrArg some (by kernel_rfl))
  f228 := Tryz.func169.trans (congrArg some (by kernel_rfl))
  f266 := Tryz.func164.trans (congrArg some (by kernel_rfl))
  t0 := Tryz.underlying0
  a0 := Tryz.isAgg0
  z0 := Tryz.sizeOf0
  v0 := Tryz.zeroValue0
  t3 := Tryz.underlying3
  a3 := Tryz.isAgg3
  z3 := Tryz.sizeOf3
  v3 := Tryz.zeroValue3
  t4 := Tryz.underlying4
  a4 := Tryz.isAgg4
  z4 := Tryz.sizeOf4
  v4 := Tryz.zeroValue4
  t5 := Tryz.underlying5
  a5 := Tryz.isAgg5
  z5 := Tryz.sizeOf5
  v5 := Tryz.zeroValue5
  t9 := Tryz.underlying9
  a9 := Tryz.isAgg9
  z9 := Tryz.sizeOf9
  v9 := Tryz.zeroValue9
  t21 := Tryz.underlying21
  a21 := Tryz.isAgg21
  z21 := Tryz.sizeOf21
  v21 := Tryz.zeroValue21
  t46 := Tryz.underlying43
  a46 := Tryz.isAgg43
  z46 := Tryz.sizeOf43
  v46 := Tryz.zeroValue43
  t116 := Tryz.underlying188
  a116 := Tryz.isAgg188
  z116 := Tryz.sizeOf188
  t117 := Tryz.underlying189
  a117 := Tryz.isAgg189
  z117 := Tryz.sizeOf189
  v117 := Tryz.zeroValue189
  t124 := Tryz.underlying203
  a124 := Tryz.isAgg203
  z124 := Tryz.sizeOf203
  v124 := Tryz.zeroValue203 }
open Go.RowKit Go.Lib in
theorem Tryz.strings_IndexAny_long (hv116 : ∀ w, (zeroValue 188).run Tryz.prog w = .ok (.agg (Array.replicate 256 (.bool false))) w) (s chars : ByteArray) (w : World) (h2 : 2 ≤ chars.size) (h8 : 8 < s.size) (hs : s.size < 4294967281) (hcs : chars.size < 4294967281) (hascii : ∀ (j : Nat) b, chars.data.toList[j]? = some b → b.toNat < 128) :
    Calls Tryz.prog 142 #[.string s, .string chars] w fun e w' => e = .returned (.int .i64 (Lib.indexAny s.data.toList chars.data.toList)) ∧ w' = ((w.alloc (.cells (Lib.setCells chars.data.toList) 188)).alloc (.cells (Lib.setCells chars.data.toList) 188)) := Any.strings_IndexAny_long Tryz.lays153 hv116 (by kernel_rfl) s chars w h2 h8 hs hcs hascii
open Go.RowKit Go.Lib in
def Tryz.lays150_ren : Go.Shelf.Ren := ⟨fun | 150 => 110 | 153 => 142 | 152 => 166 | 226 => 167 | 227 => 168 | 228 => 169 | 137 => 116 | 119 => 179 | 224 => 139 | 225 => 138 | 217 => 137 | 266 => 164 | n => n, fun | 9 => 9 | 4 => 4 | 3 => 3 | 5 => 5 | 21 => 21 | 117 => 189 | 116 => 188 | 0 => 0 | 46 => 43 | 124 => 203 | n => n, fun | n => n⟩
theorem Tryz.lays150 : Go.Proofs.Lays.n150 Tryz.prog Tryz.lays150_ren := {
  mixed := by kernel_rfl
  f119 := Tryz.func179.trans (congrArg some (by kernel_rfl))
  f137 := Tryz.func116.trans (congrArg some (by kernel_rfl))
  f150 := Tryz.func110.trans (congrArg some (by kernel_rfl))
  f152 := Tryz.func166.trans (congrArg some (by kernel_rfl))
  f153 := Tryz.func142.trans (congrArg some (by kernel_rfl))
  f217 := Tryz.func137.trans (congrArg some (by kernel_rfl))
  f224 := Tryz.func139.trans (congrArg some (by kernel_rfl))
  f225 := Tryz.func138.trans (congrArg some (by kernel_rfl))
  f226 := Tryz.func167.trans (congrArg some (by kernel_rfl))
  f227 := Tryz.func168.trans (congrArg some (by kernel_rfl))
  f228 := Tryz.func169.trans (congrArg some (by kernel_rfl))
  f266 := Tryz.func164.trans (congrArg some (by kernel_rfl))
  t0 := Tryz.underlying0
  a0 := Tryz.isAgg0
  z0 := Tryz.sizeOf0
  v0 := Tryz.zeroValue0
  t3 := Tryz.underlying3
  a3 := Tryz.isAgg3
  z3 := Tryz.sizeOf3
  v3 := Tryz.zeroValue3
  t4 := Tryz.underlying4
  a4 := Tryz.isAgg4
  z4 := Tryz.sizeOf4
  v4 := Tryz.zeroValue4
  t5 := Tryz.underlying5
  a5 := Tryz.isAgg5
  z5 := Tryz.sizeOf5
  v5 := Tryz.zeroValue5
  t9 := Tryz.underlying9
  a9 := Tryz.isAgg9
  z9 := Tryz.sizeOf9
  v9 := Tryz.zeroValue9
  t21 := Tryz.underlying21
  a21 := Tryz.isAgg21
  z21 := Tryz.sizeOf21
  v21 := Tryz.zeroValue21
  t46 := Tryz.underlying43
  a46 := Tryz.isAgg43
  z46 := Tryz.sizeOf43
  v46 := Tryz.zeroValue43
  t116 := Tryz.underlying188
  a116 := Tryz.isAgg188
  z116 := Tryz.sizeOf188
  t117 := Tryz.underlying189
  a117 := Tryz.isAgg189
  z117 := Tryz.sizeOf189
  v117 := Tryz.zeroValue189
  t124 := Tryz.underlying203
  a124 := Tryz.isAgg203
  z124 := Tryz.sizeOf203
  v124 := Tryz.zeroValue203 }
open Go.RowKit Go.Lib in
theorem Tryz.strings_ContainsAny_laid (s chars : ByteArray) (w : World) (hs : s.size < 4294967281) (hcs : chars.size < 4294967281) (has : ∀ (j : Nat) b, s.data.toList[j]? = some b → b.toNat < 128) (hac : ∀ (j : Nat) b, chars.data.toList[j]? = some b → b.toNat < 128) :
    Calls Tryz.prog 110 #[.string s, .string chars] w fun e w' => e = .returned (.bool (Lib.containsAny s.data.toList chars.data.toList)) ∧ Below w.heap.size w w' := Any.strings_ContainsAny_laid Tryz.lays150 (by kernel_rfl) s chars w hs hcs has hac
def Tryz.lays144_ren : Go.Shelf.Ren := ⟨fun | 144 => 40 | 143 => 64 | 219 => 99 | 217 => 137 | 225 => 138 | 224 => 139 | 267 => 140 | 266 => 164 | 314 => 165 | n => n, fun | 9 => 9 | 4 => 4 | 3 => 3 | 5 => 5 | 46 => 43 | 146 => 184 | 51 => 160 | n => n, fun | 1 => 2 | n => n⟩
theorem Tryz.lays144 : Go.Proofs.Lays.n144 Tryz.prog Tryz.lays144_ren := {
  mixed := by kernel_rfl
  f143 := Tryz.func64.trans (congrArg some (by kernel_rfl))
  f144 := Tryz.func40.trans (congrArg some (by kernel_rfl))
  f217 := Tryz.func137.trans (congrArg some (by kernel_rfl))
  f219 := Tryz.func99.trans (congrArg some (by kernel_rfl))
  f224 := Tryz.func139.trans (congrArg some (by kernel_rfl))
  f225 := Tryz.func138.trans (congrArg some (by kernel_rfl))
  f266 := Tryz.func164.trans (congrArg some (by kernel_rfl))
  f267 := Tryz.func140.trans (congrArg some (by kernel_rfl))
  f314 := Tryz.func165.trans (congrArg some (by kernel_rfl))
  t3 := Tryz.underlying3
  a3 := Tryz.isAgg3
  z3 := Tryz.sizeOf3
  v3 := Tryz.zeroValue3
  t4 := Tryz.underlying4
  a4 := Tryz.isAgg4
  z4 := Tryz.sizeOf4
  v4 := Tryz.zeroValue4
  t5 := Tryz.underlying5
  a5 := Tryz.isAgg5
  z5 := Tryz.sizeOf5
  v5 := Tryz.zeroValue5
  t9 := Tryz.underlying9
  a9 := Tryz.isAgg9
  z9 := Tryz.sizeOf9
  v9 := Tryz.zeroValue9
  t46 := Tryz.underlying43
  a46 := Tryz.isAgg43
  z46 := Tryz.sizeOf43
  v46 := Tryz.zeroValue43
  t51 := Tryz.underlying160
  a51 := Tryz.isAgg160
  z51 := Tryz.sizeOf160
  v51 := Tryz.zeroValue160
  t146 := Tryz.underlying184
  a146 := Tryz.isAgg184
  z146 := Tryz.sizeOf184
  v146 := Tryz.zeroValue184
  g1 := by kernel_rfl }
open Go.RowKit Go.Lib in
/-- strings.Contains: "Contains reports whether substr is within s.": IT RETURNS 'Lib.contains s substr'; the world is as it was. (LAID: no walk: one application.) -/
theorem Tryz.strings_Contains (s sub : ByteArray) (m : Int) (w : World) (hs : s.size < 4294967281) (hm : w.cell? ⟨2, 0, none⟩ = some (.int .i64 m)) :
    Calls Tryz.prog 40 #[.string s, .string sub] w fun e w' => e = .returned (.bool (Lib.contains s.data.toList sub.data.toList)) ∧ w' = w := Any.strings_Contains Tryz.lays144 s sub m w hs hm
def Tryz.lays172_ren : Go.Shelf.Ren := ⟨fun | 172 => 153 | 244 => 176 | 245 => 175 | 247 => 174 | 279 => 184 | 280 => 185 | 281 => 186 | 282 => 187 | 287 => 183 | 316 => 196 | 171 => 48 | 205 => 197 | 321 => 194 | 322 => 195 | 243 => 67 | 246 => 63 | 283 => 95 | 284 => 96 | 285 => 97 | 286 => 98 | 129 => 133 | 317 => 132 | 318 => 134 | 319 => 135 | 320 => 136 | 337 => 162 | 338 => 163 | n => n, fun | 9 => 9 | 3 => 3 | 75 => 90 | 76 => 91 | 4 => 4 | 5 => 5 | 167 => 206 | 37 => 34 | 0 => 0 | 85 => 171 | 2 => 2 | 168 => 209 | 53 => 131 | 175 => 207 | 46 => 43 | 210 => 217 | 127 => 97 | 145 => 225 | 143 => 223 | 21 => 21 | 171 => 130 | 173 => 134 | 212 => 159 | 51 => 160 | 20 => 20 | 213 => 161 | 232 => 201 | 233 => 202 | 80 => 61 | n => n, fun | 15 => 7 | 16 => 8 | 17 => 1 | 18 => 5 | 19 => 6 | n => n⟩
theorem Tryz.lays172 : Go.Proofs.Lays.n172 Tryz.prog Tryz.lays172_ren := {
  mixed := by kernel_rfl
  f129 := Tryz.func133.trans (congrArg some (by kernel_rfl))
  f171 := Tryz.func48.trans (congrArg some (by kernel_rfl))
  f172 := Tryz.func153.trans (congrArg some (by kernel_rfl))
  f205 := Tryz.func197.trans (congrArg some (by kernel_rfl))
  f243 := Tryz.func67.trans (congrArg some (by kernel_rfl))
  f244 := Tryz.func176.trans (congrArg some (by kernel_rfl))
  f245 := Tryz.func175.trans (congrArg some (by kernel_rfl))
  f246 := Tryz.func63.trans (congrArg some (by kernel_rfl))
  f247 := Tryz.func174.trans (congrArg some (by kernel_rfl))
  f279 := Tryz.func184.trans (congrArg some (by kernel_rfl))
  f280 := Tryz.func185.trans (congrArg some (by kernel_rfl))
  f281 := Tryz.func186.trans (congrArg some (by kernel_rfl))
  f282 := Tryz.func187.trans (congrArg some (by kernel_rfl))
  f283 := Tryz.func95.trans (congrArg some (by kernel_rfl))
  f284 := Tryz.func96.trans (congrArg some (by kernel_rfl))
  f285 := Tryz.func97.trans (congrArg some (by kernel_rfl))
  f286 := Tryz.func98.trans (congrArg some (by kernel_rfl))
  f287 := Tryz.func183.trans (congrArg some (by kernel_rfl))
  f316 := Tryz.func196.trans (congrArg some (by kernel_rfl))
  f317 := Tryz.func132.trans (congrArg some (by kernel_rfl))
  f318 := Tryz.func134.trans (congrArg some (by kernel_rfl))
  f319 := Tryz.func135.trans (congrArg some (by kernel_rfl))
  f320 := Tryz.func136.trans (congrArg some (by kernel_rfl))
  f321 := Tryz.func194.trans (congrArg some (by kernel_rfl))
  f322 := Tryz.func195.trans (congrArg some (by kernel_rfl))
  f337 := Tryz.func162.trans (congrArg some (by kernel_rfl))
  f338 := Tryz.func163.trans (congrArg some (by kernel_rfl))
  t0 := Tryz.underlying0
  a0 := Tryz.isAgg0
  z0 := Tryz.sizeOf0
  v0 := Tryz.zeroValue0
  t2 := Tryz.underlying2
  a2 := Tryz.isAgg2
  z2 := Tryz.sizeOf2
  v2 := Tryz.zeroValue2
  t3 := Tryz.underlying3
  a3 := Tryz.isAgg3
  z3 := Tryz.sizeOf3
  v3 := Tryz.zeroValue3
  t4 := Tryz.underlying4
  a4 := Tryz.isAgg4
  z4 := Tryz.sizeOf4
  v4 := Tryz.zeroValue4
  t5 := Tryz.underlying5
  a5 := Tryz.isAgg5
  z5 := Tryz.sizeOf5
  v5 := Tryz.zeroValue5
  t9 := Tryz.underlying9
  a9 := Tryz.isAgg9
  z9 := Tryz.sizeOf9
  v9 := Tryz.zeroValue9
  t20 := Tryz.underlying20
  a20 := Tryz.isAgg20
  z20 := Tryz.sizeOf20
  v20 := Tryz.zeroValue20
  t21 := Tryz.underlying21
  a21 := Tryz.isAgg21
  z21 := Tryz.sizeOf21
  v21 := Tryz.zeroValue21
  t37 := Tryz.underlying34
  a37 := Tryz.isAgg34
  z37 := Tryz.sizeOf34
  v37 := Tryz.zeroValue34
  t46 := Tryz.underlying43
  a46 := Tryz.isAgg43
  z46 := Tryz.sizeOf43
  v46 := Tryz.zeroValue43
  t51 := Tryz.underlying160
  a51 := Tryz.isAgg160
  z51 := Tryz.sizeOf160
  v51 := Tryz.zeroValue160
  t53 := Tryz.underlying131
  a53 := Tryz.isAgg131
  z53 := Tryz.sizeOf131
  v53 := Tryz.zeroValue131
  t75 := Tryz.underlying90
  a75 := Tryz.isAgg90
  z75 := Tryz.sizeOf90
  v75 := Tryz.zeroValue90
  t76 := Tryz.underlying91
  a76 := Tryz.isAgg91
  z76 := Tryz.sizeOf91
  v76 := Tryz.zeroValue91
  t85 := Tryz.underlying171
  a85 := Tryz.isAgg171
  z85 := Tryz.sizeOf171
  v85 := Tryz.zeroValue171
  t127 := Tryz.underlying97
  a127 := Tryz.isAgg97
  z127 := Tryz.sizeOf97
  v127 := Tryz.zeroValue97
  t143 := Tryz.underlying223
  a143 := Tryz.isAgg223
  z143 := Tryz.sizeOf223
  v143 := Tryz.zeroValue223
  t145 := Tryz.underlying225
  a145 := Tryz.isAgg225
  z145 := Tryz.sizeOf225
  v145 := Tryz.zeroValue225
  t167 := Tryz.underlying206
  a167 := Tryz.isAgg206
  z167 := Tryz.sizeOf206
  v167 := Tryz.zeroValue206
  t168 := Tryz.underlying209
  a168 := Tryz.isAgg209
  z168 := Tryz.sizeOf209
  v168 := Tryz.zeroValue209
  t171 := Tryz.underlying130
  a171 := Tryz.isAgg130
  z171 := Tryz.sizeOf130
  v171 := Tryz.zeroValue130
  t173 := Tryz.underlying134
  a173 := Tryz.isAgg134
  z173 := Tryz.sizeOf134
  v173 := Tryz.zeroValue134
  t175 := Tryz.underlying207
  a175 := Tryz.isAgg207
  z175 := Tryz.sizeOf207
  v175 := Tryz.zeroValue207
  t210 := Tryz.underlying217
  a210 := Tryz.isAgg217
  z210 := Tryz.sizeOf217
  v210 := Tryz.zeroValue217
  t212 := Tryz.underlying159
  a212 := Tryz.isAgg159
  z212 := Tryz.sizeOf159
  v212 := Tryz.zeroValue159
  t213 := Tryz.underlying161
  a213 := Tryz.isAgg161
  z213 := Tryz.sizeOf161
  t232 := Tryz.underlying201
  a232 := Tryz.isAgg201
  z232 := Tryz.sizeOf201
  v232 := Tryz.zeroValue201
  t233 := Tryz.underlying202
  a233 := Tryz.isAgg202
  z233 := Tryz.sizeOf202
  v233 := Tryz.zeroValue202
  g15 := by kernel_rfl
  g16 := by kernel_rfl
  g17 := by kernel_rfl
  g18 := by kernel_rfl
  g19 := by kernel_rfl }
open Go.RowKit in
/-- strconv.Atoi: "Atoi is equivalent to ParseInt(s, 10, 0), converted to type int.": AT A DECIMAL NUMERAL OF AT MOST 18 BYTES: its value, and a nil error. The world behind the call: the one new row that the library's '[]byte(s)' lays. (LAID: no walk: one application.) -/
theorem Tryz.strconv_Atoi (s : ByteArray) (n : Int) (hl : s.size ≤ 18) (h : Lib.atoi s.data.toList = some n) (w : World) :
    Calls Tryz.prog 153 #[.string s] w fun e w' => e = .returned (.tuple #[.int .i64 n, .nilIface]) ∧ ∃ t, w' = Lib.bytesWorld w 5 t := Any.strconv_Atoi Tryz.lays172 s n hl h w
def Tryz.laysC172_ren : Go.Shelf.Ren := ⟨fun | 172 => 153 | 244 => 176 | 245 => 175 | 247 => 174 | 279 => 184 | 280 => 185 | 281 => 186 | 282 => 187 | 287 => 183 | 316 => 196 | 171 => 48 | 205 => 197 | 321 => 194 | 322 => 195 | 243 => 67 | 246 => 63 | 283 => 95 | 284 => 96 | 285 => 97 | 286 => 98 | 129 => 133 | 317 => 132 | 318 => 134 | 319 => 135 | 320 => 136 | 337 => 162 | 338 => 163 | n => n, fun | 9 => 9 | 3 => 3 | 75 => 90 | 76 => 91 | 4 => 4 | 5 => 5 | 167 => 206 | 37 => 34 | 0 => 0 | 85 => 171 | 2 => 2 | 168 => 209 | 53 => 131 | 175 => 207 | 46 => 43 | 210 => 217 | 127 => 97 | 145 => 225 | 143 => 223 | 21 => 21 | 171 => 130 | 173 => 134 | 212 => 159 | 51 => 160 | 20 => 20 | 213 => 161 | 232 => 201 | 233 => 202 | 80 => 61 | n => n, fun | 15 => 7 | 16 => 8 | 17 => 1 | 18 => 5 | 19 => 6 | n => n⟩
theorem Tryz.laysC172 : Go.Proofs.LaysC.n172 Tryz.prog Tryz.laysC172_ren := {
  mixed := by kernel_rfl
  f129 := Tryz.func133.trans (congrArg some (by kernel_rfl))
  f171 := Tryz.func48.trans (congrArg some (by kernel_rfl))
  f172 := Tryz.func153.trans (congrArg some (by kernel_rfl))
  f205 := Tryz.func197.trans (congrArg some (by kernel_rfl))
  f243 := Tryz.func67.trans (congrArg some (by kernel_rfl))
  f244 := Tryz.func176.trans (congrArg some (by kernel_rfl))
  f245 := Tryz.func175.trans (congrArg some (by kernel_rfl))
  f246 := Tryz.func63.trans (congrArg some (by kernel_rfl))
  f247 := Tryz.func174.trans (congrArg some (by kernel_rfl))
  f279 := Tryz.func184.trans (congrArg some (by kernel_rfl))
  f280 := Tryz.func185.trans (congrArg some (by kernel_rfl))
  f281 := Tryz.func186.trans (congrArg some (by kernel_rfl))
  f282 := Tryz.func187.trans (congrArg some (by kernel_rfl))
  f283 := Tryz.func95.trans (congrArg some (by kernel_rfl))
  f284 := Tryz.func96.trans (congrArg some (by kernel_rfl))
  f285 := Tryz.func97.trans (congrArg some (by kernel_rfl))
  f286 := Tryz.func98.trans (congrArg some (by kernel_rfl))
  f287 := Tryz.func183.trans (congrArg some (by kernel_rfl))
  f316 := Tryz.func196.trans (congrArg some (by kernel_rfl))
  f317 := Tryz.func132.trans (congrArg some (by kernel_rfl))
  f318 := Tryz.func134.trans (congrArg some (by kernel_rfl))
  f319 := Tryz.func135.trans (congrArg some (by kernel_rfl))
  f320 := Tryz.func136.trans (congrArg some (by kernel_rfl))
  f321 := Tryz.func194.trans (congrArg some (by kernel_rfl))
  f322 := Tryz.func195.trans (congrArg some (by kernel_rfl))
  f337 := Tryz.func162.trans (congrArg some (by kernel_rfl))
  f338 := Tryz.func163.trans (congrArg some (by kernel_rfl))
  t0 := Tryz.underlying0
  a0 := Tryz.isAgg0
  z0 := Tryz.sizeOf0
  v0 := Tryz.zeroValue0
  t2 := Tryz.underlying2
  a2 := Tryz.isAgg2
  z2 := Tryz.sizeOf2
  v2 := Tryz.zeroValue2
  t3 := Tryz.underlying3
  a3 := Tryz.isAgg3
  z3 := Tryz.sizeOf3
  v3 := Tryz.zeroValue3
  t4 := Tryz.underlying4
  a4 := Tryz.isAgg4
  z4 := Tryz.sizeOf4
  v4 := Tryz.zeroValue4
  t5 := Tryz.underlying5
  a5 := Tryz.isAgg5
  z5 := Tryz.sizeOf5
  v5 := Tryz.zeroValue5
  t9 := Tryz.underlying9
  a9 := Tryz.isAgg9
  z9 := Tryz.sizeOf9
  v9 := Tryz.zeroValue9
  t20 := Tryz.underlying20
  a20 := Tryz.isAgg20
  z20 := Tryz.sizeOf20
  v20 := Tryz.zeroValue20
  t21 := Tryz.underlying21
  a21 := Tryz.isAgg21
  z21 := Tryz.sizeOf21
  v21 := Tryz.zeroValue21
  t37 := Tryz.underlying34
  a37 := Tryz.isAgg34
  z37 := Tryz.sizeOf34
  v37 := Tryz.zeroValue34
  t46 := Tryz.underlying43
  a46 := Tryz.isAgg43
  z46 := Tryz.sizeOf43
  v46 := Tryz.zeroValue43
  t51 := Tryz.underlying160
  a51 := Tryz.isAgg160
  z51 := Tryz.sizeOf160
  v51 := Tryz.zeroValue160
  t53 := Tryz.underlying131
  a53 := Tryz.isAgg131
  z53 := Tryz.sizeOf131
  v53 := Tryz.zeroValue131
  t75 := Tryz.underlying90
  a75 := Tryz.isAgg90
  z75 := Tryz.sizeOf90
  v75 := Tryz.zeroValue90
  t76 := Tryz.underlying91
  a76 := Tryz.isAgg91
  z76 := Tryz.sizeOf91
  v76 := Tryz.zeroValue91
  t85 := Tryz.underlying171
  a85 := Tryz.isAgg171
  z85 := Tryz.sizeOf171
  v85 := Tryz.zeroValue171
  t127 := Tryz.underlying97
  a127 := Tryz.isAgg97
  z127 := Tryz.sizeOf97
  v127 := Tryz.zeroValue97
  t143 := Tryz.underlying223
  a143 := Tryz.isAgg223
  z143 := Tryz.sizeOf223
  v143 := Tryz.zeroValue223
  t145 := Tryz.underlying225
  a145 := Tryz.isAgg225
  z145 := Tryz.sizeOf225
  v145 := Tryz.zeroValue225
  t167 := Tryz.underlying206
  a167 := Tryz.isAgg206
  z167 := Tryz.sizeOf206
  v167 := Tryz.zeroValue206
  t168 := Tryz.underlying209
  a168 := Tryz.isAgg209
  z168 := Tryz.sizeOf209
  v168 := Tryz.zeroValue209
  t171 := Tryz.underlying130
  a171 := Tryz.isAgg130
  z171 := Tryz.sizeOf130
  v171 := Tryz.zeroValue130
  t173 := Tryz.underlying134
  a173 := Tryz.isAgg134
  z173 := Tryz.sizeOf134
  v173 := Tryz.zeroValue134
  t175 := Tryz.underlying207
  a175 := Tryz.isAgg207
  z175 := Tryz.sizeOf207
  v175 := Tryz.zeroValue207
  t210 := Tryz.underlying217
  a210 := Tryz.isAgg217
  z210 := Tryz.sizeOf217
  v210 := Tryz.zeroValue217
  t212 := Tryz.underlying159
  a212 := Tryz.isAgg159
  z212 := Tryz.sizeOf159
  v212 := Tryz.zeroValue159
  t213 := Tryz.underlying161
  a213 := Tryz.isAgg161
  z213 := Tryz.sizeOf161
  t232 := Tryz.underlying201
  a232 := Tryz.isAgg201
  z232 := Tryz.sizeOf201
  v232 := Tryz.zeroValue201
  t233 := Tryz.underlying202
  a233 := Tryz.isAgg202
  z233 := Tryz.sizeOf202
  v233 := Tryz.zeroValue202
  g15 := by kernel_rfl
  g16 := by kernel_rfl
  g17 := by kernel_rfl
  g18 := by kernel_rfl
  g19 := by kernel_rfl
  t80 := Tryz.underlying61
  a80 := Tryz.isAgg61
  z80 := Tryz.sizeOf61
  v80 := Tryz.zeroValue61
  i0 := by kernel_rfl
  i2 := by kernel_rfl
  i3 := by kernel_rfl
  i4 := by kernel_rfl
  i5 := by kernel_rfl
  i9 := by kernel_rfl
  i20 := by kernel_rfl
  i21 := by kernel_rfl
  i37 := by kernel_rfl
  i46 := by kernel_rfl
  i51 := by kernel_rfl
  i53 := by kernel_rfl
  i75 := by kernel_rfl
  i76 := by kernel_rfl
  i80 := by kernel_rfl
  i85 := by kernel_rfl
  i127 := by kernel_rfl
  i143 := by kernel_rfl
  i145 := by kernel_rfl
  i167 := by kernel_rfl
  i168 := by kernel_rfl
  i171 := by kernel_rfl
  i173 := by kernel_rfl
  i175 := by kernel_rfl
  i210 := by kernel_rfl
  i212 := by kernel_rfl
  i232 := by kernel_rfl
  i233 := by kernel_rfl
  m15 := by kernel_rfl
  m16 := by kernel_rfl
  m17 := by kernel_rfl
  m18 := by kernel_rfl
  m19 := by kernel_rfl
  c0 := by kernel_rfl
  c2 := by kernel_rfl
  c3 := by kernel_rfl
  c4 := by kernel_rfl
  c5 := by kernel_rfl
  c9 := by kernel_rfl
  c20 := by kernel_rfl
  c21 := by kernel_rfl
  c37 := by kernel_rfl
  c46 := by kernel_rfl
  c51 := by kernel_rfl
  c53 := by kernel_rfl
  c75 := by kernel_rfl
  c76 := by kernel_rfl
  c80 := by kernel_rfl
  c85 := by kernel_rfl
  c127 := by kernel_rfl
  c143 := by kernel_rfl
  c145 := by kernel_rfl
  c167 := by kernel_rfl
  c168 := by kernel_rfl
  c171 := by kernel_rfl
  c173 := by kernel_rfl
  c175 := by kernel_rfl
  c210 := by kernel_rfl
  c212 := by kernel_rfl
  c213 := by kernel_rfl
  c232 := by kernel_rfl
  c233 := by kernel_rfl }
open Go.RowKit in
/-- strconv.Atoi, AT EVERY STRING OF AT MOST 18 BYTES THAT IS NO DECIMAL NUMERAL (the empty one too): 0, AND AN ERROR THAT IS NOT nil: a *NumError in a new block N: {Func: "Atoi", Num: s's bytes, Err: what the variable ErrSyntax holds}. Of what was there nothing has turned. (LAID: no walk: one application.) -/
theorem Tryz.strconv_Atoi_err (s : ByteArray) (hl : s.size ≤ 18) (h : Lib.atoi s.data.toList = none) (ev : Value) (w : World) (hv : w.cell? ⟨7, 0, none⟩ = some ev) (hev : ev = .nilIface ∨ ∃ te pe, ev = .iface te pe) :
    Calls Tryz.prog 153 #[.string s] w fun e w' => ∃ N, e = .returned (.tuple #[.int .i64 0, .iface 209 (.pointer (some ⟨N, 0, none⟩))]) ∧ w.heap.size ≤ N ∧ w'.heap[N]? = some (.cells #[.string ⟨#[65, 116, 111, 105]⟩, .string s, ev] 217 (0, 0)) ∧ Below w.heap.size w w' := Any.strconv_Atoi_err Tryz.laysC172 s hl h ev w hv hev
def Tryz.lays247_ren : Go.Shelf.Ren := ⟨fun | 247 => 174 | 287 => 183 | 321 => 194 | 322 => 195 | n => n, fun | 9 => 9 | 3 => 3 | 2 => 2 | 75 => 90 | 4 => 4 | 167 => 206 | 5 => 5 | 53 => 131 | 175 => 207 | 46 => 43 | 37 => 34 | 0 => 0 | 21 => 21 | 80 => 61 | n => n, fun | n => n⟩
theorem Tryz.lays247 : Go.Proofs.Lays.n247 Tryz.prog Tryz.lays247_ren := {
  mixed := by kernel_rfl
  f247 := Tryz.func174.trans (congrArg some (by kernel_rfl))
  f287 := Tryz.func183.trans (congrArg some (by kernel_rfl))
  f321 := Tryz.func194.trans (congrArg some (by kernel_rfl))
  f322 := Tryz.func195.trans (congrArg some (by kernel_rfl))
  t0 := Tryz.underlying0
  a0 := Tryz.isAgg0
  z0 := Tryz.sizeOf0
  v0 := Tryz.zeroValue0
  t2 := Tryz.underlying2
  a2 := Tryz.isAgg2
  z2 := Tryz.sizeOf2
  v2 := Tryz.zeroValue2
  t3 := Tryz.underlying3
  a3 := Tryz.isAgg3
  z3 := Tryz.sizeOf3
  v3 := Tryz.zeroValue3
  t4 := Tryz.underlying4
  a4 := Tryz.isAgg4
  z4 := Tryz.sizeOf4
  v4 := Tryz.zeroValue4
  t5 := Tryz.underlying5
  a5 := Tryz.isAgg5
  z5 := Tryz.sizeOf5
  v5 := Tryz.zeroValue5
  t9 := Tryz.underlying9
  a9 := Tryz.isAgg9
  z9 := Tryz.sizeOf9
  v9 := Tryz.zeroValue9
  t21 := Tryz.underlying21
  a21 := Tryz.isAgg21
  z21 := Tryz.sizeOf21
  v21 := Tryz.zeroValue21
  t37 := Tryz.underlying34
  a37 := Tryz.isAgg34
  z37 := Tryz.sizeOf34
  v37 := Tryz.zeroValue34
  t46 := Tryz.underlying43
  a46 := Tryz.isAgg43
  z46 := Tryz.sizeOf43
  v46 := Tryz.zeroValue43
  t53 := Tryz.underlying131
  a53 := Tryz.isAgg131
  z53 := Tryz.sizeOf131
  v53 := Tryz.zeroValue131
  t75 := Tryz.underlying90
  a75 := Tryz.isAgg90
  z75 := Tryz.sizeOf90
  v75 := Tryz.zeroValue90
  t167 := Tryz.underlying206
  a167 := Tryz.isAgg206
  z167 := Tryz.sizeOf206
  v167 := Tryz.zeroValue206
  t175 := Tryz.underlying207
  a175 := Tryz.isAgg207
  z175 := Tryz.sizeOf207
  v175 := Tryz.zeroValue207 }
open Go.RowKit in
/-- internal/strconv.ParseInt at "": 'if s == "" { return 0, ErrSyntax }'. The world is as it was. (LAID: no walk: one application.) -/
theorem Tryz.internal_strconv_ParseInt_empty (base bits : Int) (w : World) :
    Calls Tryz.prog 174 #[.string ⟨#[]⟩, .int .i64 base, .int .i64 bits] w fun e w' => e = .returned (.tuple #[.int .i64 0, (.iface 206 (.int .i64 2))]) ∧ w' = w := Any.internal_strconv_ParseInt_empty Tryz.lays247 base bits w
open Go.RowKit in
def Tryz.laysC245_ren : Go.Shelf.Ren := ⟨fun | 245 => 175 | 279 => 184 | 280 => 185 | 281 => 186 | 282 => 187 | 316 => 196 | 171 => 48 | 205 => 197 | 243 => 67 | 246 => 63 | 283 => 95 | 284 => 96 | 285 => 97 | 286 => 98 | 129 => 133 | 317 => 132 | 318 => 134 | 319 => 135 | 320 => 136 | 337 => 162 | 338 => 163 | n => n, fun | 9 => 9 | 3 => 3 | 75 => 90 | 167 => 206 | 4 => 4 | 168 => 209 | 210 => 217 | 37 => 34 | 0 => 0 | 127 => 97 | 145 => 225 | 143 => 223 | 2 => 2 | 171 => 130 | 53 => 131 | 5 => 5 | 173 => 134 | 212 => 159 | 51 => 160 | 20 => 20 | 213 => 161 | 46 => 43 | 232 => 201 | 233 => 202 | 80 => 61 | n => n, fun | 15 => 7 | 16 => 8 | 17 => 1 | 18 => 5 | 19 => 6 | n => n⟩
theorem Tryz.laysC245 : Go.Proofs.LaysC.n245 Tryz.prog Tryz.laysC245_ren := {
  mixed := by kernel_rfl
  f129 := Tryz.func133.trans (congrArg some (by kernel_rfl))
  f171 := Tryz.func48.trans (congrArg some (by kernel_rfl))
  f205 := Tryz.func197.trans (congrArg some (by kernel_rfl))
  f243 := Tryz.func67.trans (congrArg some (by kernel_rfl))
  f245 := Tryz.func175.trans (congrArg some (by kernel_rfl))
  f246 := Tryz.func63.trans (congrArg some (by kernel_rfl))
  f279 := Tryz.func184.trans (congrArg some (by kernel_rfl))
  f280 := Tryz.func185.trans (congrArg some (by kernel_rfl))
  f281 := Tryz.func186.trans (congrArg some (by kernel_rfl))
  f282 := Tryz.func187.trans (congrArg some (by kernel_rfl))
  f283 := Tryz.func95.trans (congrArg some (by kernel_rfl))
  f284 := Tryz.func96.trans (congrArg some (by kernel_rfl))
  f285 := Tryz.func97.trans (congrArg some (by kernel_rfl))
  f286 := Tryz.func98.trans (congrArg some (by kernel_rfl))
  f316 := Tryz.func196.trans (congrArg some (by kernel_rfl))
  f317 := Tryz.func132.trans (congrArg some (by kernel_rfl))
  f318 := Tryz.func134.trans (congrArg some (by kernel_rfl))
  f319 := Tryz.func135.trans (congrArg some (by kernel_rfl))
  f320 := Tryz.func136.trans (congrArg some (by kernel_rfl))
  f337 := Tryz.func162.trans (congrArg some (by kernel_rfl))
  f338 := Tryz.func163.trans (congrArg some (by kernel_rfl))
  t0 := Tryz.underlying0
  a0 := Tryz.isAgg0
  z0 := Tryz.sizeOf0
  v0 := Tryz.zeroValue0
  t2 := Tryz.underlying2
  a2 := Tryz.isAgg2
  z2 := Tryz.sizeOf2
  v2 := Tryz.zeroValue2
  t3 := Tryz.underlying3
  a3 := Tryz.isAgg3
  z3 := Tryz.sizeOf3
  v3 := Tryz.zeroValue3
  t4 := Tryz.underlying4
  a4 := Tryz.isAgg4
  z4 := Tryz.sizeOf4
  v4 := Tryz.zeroValue4
  t5 := Tryz.underlying5
  a5 := Tryz.isAgg5
  z5 := Tryz.sizeOf5
  v5 := Tryz.zeroValue5
  t9 := Tryz.underlying9
  a9 := Tryz.isAgg9
  z9 := Tryz.sizeOf9
  v9 := Tryz.zeroValue9
  t20 := Tryz.underlying20
  a20 := Tryz.isAgg20
  z20 := Tryz.sizeOf20
  v20 := Tryz.zeroValue20
  t37 := Tryz.underlying34
  a37 := Tryz.isAgg34
  z37 := Tryz.sizeOf34
  v37 := Tryz.zeroValue34
  t46 := Tryz.underlying43
  a46 := Tryz.isAgg43
  z46 := Tryz.sizeOf43
  v46 := Tryz.zeroValue43
  t51 := Tryz.underlying160
  a51 := Tryz.isAgg160
  z51 := Tryz.sizeOf160
  v51 := Tryz.zeroValue160
  t53 := Tryz.underlying131
  a53 := Tryz.isAgg131
  z53 := Tryz.sizeOf131
  v53 := Tryz.zeroValue131
  t75 := Tryz.underlying90
  a75 := Tryz.isAgg90
  z75 := Tryz.sizeOf90
  v75 := Tryz.zeroValue90
  t127 := Tryz.underlying97
  a127 := Tryz.isAgg97
  z127 := Tryz.sizeOf97
  v127 := Tryz.zeroValue97
  t143 := Tryz.underlying223
  a143 := Tryz.isAgg223
  z143 := Tryz.sizeOf223
  v143 := Tryz.zeroValue223
  t145 := Tryz.underlying225
  a145 := Tryz.isAgg225
  z145 := Tryz.sizeOf225
  v145 := Tryz.zeroValue225
  t167 := Tryz.underlying206
  a167 := Tryz.isAgg206
  z167 := Tryz.sizeOf206
  v167 := Tryz.zeroValue206
  t168 := Tryz.underlying209
  a168 := Tryz.isAgg209
  z168 := Tryz.sizeOf209
  v168 := Tryz.zeroValue209
  t171 := Tryz.underlying130
  a171 := Tryz.isAgg130
  z171 := Tryz.sizeOf130
  v171 := Tryz.zeroValue130
  t173 := Tryz.underlying134
  a173 := Tryz.isAgg134
  z173 := Tryz.sizeOf134
  v173 := Tryz.zeroValue134
  t210 := Tryz.underlying217
  a210 := Tryz.isAgg217
  z210 := Tryz.sizeOf217
  v210 := Tryz.zeroValue217
  t212 := Tryz.underlying159
  a212 := Tryz.isAgg159
  z212 := Tryz.sizeOf159
  v212 := Tryz.zeroValue159
  t213 := Tryz.underlying161
  a213 := Tryz.isAgg161
  z213 := Tryz.sizeOf161
  t232 := Tryz.underlying201
  a232 := Tryz.isAgg201
  z232 := Tryz.sizeOf201
  v232 := Tryz.zeroValue201
  t233 := Tryz.underlying202
  a233 := Tryz.isAgg202
  z233 := Tryz.sizeOf202
  v233 := Tryz.zeroValue202
  g15 := by kernel_rfl
  g16 := by kernel_rfl
  g17 := by kernel_rfl
  g18 := by kernel_rfl
  g19 := by kernel_rfl
  t80 := Tryz.underlying61
  a80 := Tryz.isAgg61
  z80 := Tryz.sizeOf61
  v80 := Tryz.zeroValue61
  i0 := by kernel_rfl
  i2 := by kernel_rfl
  i3 := by kernel_rfl
  i4 := by kernel_rfl
  i5 := by kernel_rfl
  i9 := by kernel_rfl
  i20 := by kernel_rfl
  i37 := by kernel_rfl
  i46 := by kernel_rfl
  i51 := by kernel_rfl
  i53 := by kernel_rfl
  i75 := by kernel_rfl
  i80 := by kernel_rfl
  i127 := by kernel_rfl
  i143 := by kernel_rfl
  i145 := by kernel_rfl
  i167 := by kernel_rfl
  i168 := by kernel_rfl
  i171 := by kernel_rfl
  i173 := by kernel_rfl
  i210 := by kernel_rfl
  i212 := by kernel_rfl
  i232 := by kernel_rfl
  i233 := by kernel_rfl
  m15 := by kernel_rfl
  m16 := by kernel_rfl
  m17 := by kernel_rfl
  m18 := by kernel_rfl
  m19 := by kernel_rfl
  c0 := by kernel_rfl
  c2 := by kernel_rfl
  c3 := by kernel_rfl
  c4 := by kernel_rfl
  c5 := by kernel_rfl
  c9 := by kernel_rfl
  c20 := by kernel_rfl
  c37 := by kernel_rfl
  c46 := by kernel_rfl
  c51 := by kernel_rfl
  c53 := by kernel_rfl
  c75 := by kernel_rfl
  c80 := by kernel_rfl
  c127 := by kernel_rfl
  c143 := by kernel_rfl
  c145 := by kernel_rfl
  c167 := by kernel_rfl
  c168 := by kernel_rfl
  c171 := by kernel_rfl
  c173 := by kernel_rfl
  c210 := by kernel_rfl
  c212 := by kernel_rfl
  c213 := by kernel_rfl
  c232 := by kernel_rfl
  c233 := by kernel_rfl }
open Go.RowKit in
/-- strconv.toError, at the inner package's ErrSyntax: 'syntaxError(fn, s)' as an error: A *NumError IN A NEW BLOCK. (LAID: no walk: one application.) -/
theorem Tryz.strconv_toError_syntax (fn s : ByteArray) (base bits : Int) (ev : Value) (w : World) (hlim : s.size ≤ 281474976710656) (hv : w.cell? ⟨7, 0, none⟩ = some ev) (hev : ev = .nilIface ∨ ∃ te pe, ev = .iface te pe) :
    Calls Tryz.prog 175 #[.string fn, .string s, .int .i64 base, .int .i64 bits, .iface 206 (.int .i64 2)] w fun e w' => ∃ N, e = .returned (.iface 209 (.pointer (some ⟨N, 0, none⟩))) ∧ w.heap.size ≤ N ∧ w'.heap[N]? = some (.cells #[.string fn, .string s, ev] 217 (0, 0)) ∧ Below w.heap.size w w' := Any.strconv_toError_syntax Tryz.laysC245 fn s base bits ev w hlim hv hev
def Tryz.lays158_ren : Go.Shelf.Ren := ⟨fun | 158 => 38 | 165 => 59 | 166 => 42 | 167 => 60 | 169 => 29 | 230 => 61 | 203 => 62 | 240 => 65 | 241 => 89 | 197 => 90 | 118 => 91 | 168 => 92 | 270 => 93 | 262 => 94 | 276 => 100 | 277 => 128 | 260 => 129 | 242 => 130 | 313 => 131 | 278 => 159 | 274 => 160 | 275 => 161 | n => n, fun | 9 => 9 | 4 => 4 | 3 => 3 | 5 => 5 | 72 => 59 | 0 => 0 | 76 => 91 | 75 => 90 | 107 => 111 | 70 => 57 | 20 => 20 | 37 => 34 | 127 => 97 | 21 => 21 | 105 => 125 | 164 => 136 | 162 => 157 | 203 => 155 | 119 => 176 | 46 => 43 | 139 => 179 | 138 => 178 | 51 => 160 | 160 => 180 | 208 => 200 | 206 => 198 | 80 => 61 | n => n, fun | 13 => 0 | 3 => 3 | 4 => 4 | n => n⟩
theorem Tryz.lays158 : Go.Proofs.Lays.n158 Tryz.prog Tryz.lays158_ren := {
  mixed := by kernel_rfl
  f118 := Tryz.func91.trans (congrArg some (by kernel_rfl))
  f158 := Tryz.func38.trans (congrArg some (by kernel_rfl))
  f165 := Tryz.func59.trans (congrArg some (by kernel_rfl))
  f166 := Tryz.func42.trans (congrArg some (by kernel_rfl))
  f167 := Tryz.func60.trans (congrArg some (by kernel_rfl))
  f168 := Tryz.func92.trans (congrArg some (by kernel_rfl))
  f169 := Tryz.func29.trans (congrArg some (by kernel_rfl))
  f197 := Tryz.func90.trans (congrArg some (by kernel_rfl))
  f203 := Tryz.func62.trans (congrArg some (by kernel_rfl))
  f230 := Tryz.func61.trans (congrArg some (by kernel_rfl))
  f240 := Tryz.func65.trans (congrArg some (by kernel_rfl))
  f241 := Tryz.func89.trans (congrArg some (by kernel_rfl))
  f242 := Tryz.func130.trans (congrArg some (by kernel_rfl))
  f260 := Tryz.func129.trans (congrArg some (by kernel_rfl))
  f262 := Tryz.func94.trans (congrArg some (by kernel_rfl))
  f270 := Tryz.func93.trans (congrArg some (by kernel_rfl))
  f274 := Tryz.func160.trans (congrArg some (by kernel_rfl))
  f275 := Tryz.func161.trans (congrArg some (by kernel_rfl))
  f276 := Tryz.func100.trans (congrArg some (by kernel_rfl))
  f277 := Tryz.func128.trans (congrArg some (by kernel_rfl))
  f278 := Tryz.func159.trans (congrArg some (by kernel_rfl))
  f313 := Tryz.func131.trans (congrArg some (by kernel_rfl))
  t0 := Tryz.underlying0
  a0 := Tryz.isAgg0
  z0 := Tryz.sizeOf0
  v0 := Tryz.zeroValue0
  t3 := Tryz.underlying3
  a3 := Tryz.isAgg3
  z3 := Tryz.sizeOf3
  v3 := Tryz.zeroValue3
  t4 := Tryz.underlying4
  a4 := Tryz.isAgg4
  z4 := Tryz.sizeOf4
  v4 := Tryz.zeroValue4
  t5 := Tryz.underlying5
  a5 := Tryz.isAgg5
  z5 := Tryz.sizeOf5
  v5 := Tryz.zeroValue5
  t9 := Tryz.underlying9
  a9 := Tryz.isAgg9
  z9 := Tryz.sizeOf9
  v9 := Tryz.zeroValue9
  t20 := Tryz.underlying20
  a20 := Tryz.isAgg20
  z20 := Tryz.sizeOf20
  v20 := Tryz.zeroValue20
  t21 := Tryz.underlying21
  a21 := Tryz.isAgg21
  z21 := Tryz.sizeOf21
  v21 := Tryz.zeroValue21
  t37 := Tryz.underlying34
  a37 := Tryz.isAgg34
  z37 := Tryz.sizeOf34
  v37 := Tryz.zeroValue34
  t46 := Tryz.underlying43
  a46 := Tryz.isAgg43
  z46 := Tryz.sizeOf43
  v46 := Tryz.zeroValue43
  t51 := Tryz.underlying160
  a51 := Tryz.isAgg160
  z51 := Tryz.sizeOf160
  v51 := Tryz.zeroValue160
  t70 := Tryz.underlying57
  a70 := Tryz.isAgg57
  z70 := Tryz.sizeOf57
  v70 := Tryz.zeroValue57
  t72 := Tryz.underlying59
  a72 := Tryz.isAgg59
  z72 := Tryz.sizeOf59
  v72 := Tryz.zeroValue59
  t75 := Tryz.underlying90
  a75 := Tryz.isAgg90
  z75 := Tryz.sizeOf90
  v75 := Tryz.zeroValue90
  t76 := Tryz.underlying91
  a76 := Tryz.isAgg91
  z76 := Tryz.sizeOf91
  v76 := Tryz.zeroValue91
  t105 := Tryz.underlying125
  a105 := Tryz.isAgg125
  z105 := Tryz.sizeOf125
  v105 := Tryz.zeroValue125
  t107 := Tryz.underlying111
  a107 := Tryz.isAgg111
  z107 := Tryz.sizeOf111
  v107 := Tryz.zeroValue111
  t119 := Tryz.underlying176
  a119 := Tryz.isAgg176
  z119 := Tryz.sizeOf176
  t127 := Tryz.underlying97
  a127 := Tryz.isAgg97
  z127 := Tryz.sizeOf97
  v127 := Tryz.zeroValue97
  t138 := Tryz.underlying178
  a138 := Tryz.isAgg178
  z138 := Tryz.sizeOf178
  v138 := Tryz.zeroValue178
  t139 := Tryz.underlying179
  a139 := Tryz.isAgg179
  z139 := Tryz.sizeOf179
  v139 := Tryz.zeroValue179
  t160 := Tryz.underlying180
  a160 := Tryz.isAgg180
  z160 := Tryz.sizeOf180
  v160 := Tryz.zeroValue180
  t162 := Tryz.underlying157
  a162 := Tryz.isAgg157
  z162 := Tryz.sizeOf157
  v162 := Tryz.zeroValue157
  t164 := Tryz.underlying136
  a164 := Tryz.isAgg136
  z164 := Tryz.sizeOf136
  v164 := Tryz.zeroValue136
  t203 := Tryz.underlying155
  a203 := Tryz.isAgg155
  z203 := Tryz.sizeOf155
  v203 := Tryz.zeroValue155
  t206 := Tryz.underlying198
  a206 := Tryz.isAgg198
  z206 := Tryz.sizeOf198
  v206 := Tryz.zeroValue198
  t208 := Tryz.underlying200
  a208 := Tryz.isAgg200
  z208 := Tryz.sizeOf200
  v208 := Tryz.zeroValue200
  g3 := by kernel_rfl
  g4 := by kernel_rfl
  g13 := by kernel_rfl }
end Go.Proofs
namespace Go.Proofs.YtkipjalfgdfaiaaGreatDoor
set_option linter.unusedVariables false
set_option linter.unusedSimpArgs false
open Go.RowKit Go.Proofs.YtkipjalfgdfaiaaGreatDoorW.PrintWords Go.Proofs.YtkipjalfgdfaiaaGreatDoorW.PrintLast Go.Proofs.YtkipjalfgdfaiaaGreatDoorW.PrintMore Go.Proofs.YtkipjalfgdfaiaaGreatDoor.PTk

/-- What a token's step hands back. -/
def RT (W0 : World) (g h : Nat) (S : Tk → Nat → World → Prop) : Fl (Tk × Nat) → Ending → World → Prop
  | .ok a, e, w' => e = .returned (.tuple #[]) ∧ S a.1 a.2 w'
  | .error x, e, w' => e = dies x.1 x.2 ∧ But (Two g h) W0 w'
theorem byte_at (c : Int) (h : c = 58 ∨ c = 61 ∨ c = 33 ∨ c = 62) (w : World) : Calls Tryz.prog 116 #[.string ⟨#[61, 33, 46, 46, 62]⟩, .int .u8 c] w fun e w' => e = .returned (.int .i64 (if c = 58 then -1 else if c = 61 then 0 else if c = 33 then 1 else 4)) ∧ w' = w := by
  refine (Tryz.strings_IndexByte _ _ _).mono ?_
  rintro e w' ⟨rfl, rfl⟩
  refine ⟨?_, rfl⟩
  rcases h with rfl | rfl | rfl | rfl <;> rfl
section
variable {W0 w : World} {m : Int} {base g h : Nat} {A : Option Addr} {c : Nat} {p : List Int} {st ne k : Nat} {t : Tk}
set_option maxHeartbeats 8000000 in
set_option maxRecDepth 100000 in
theorem open_none (S : St W0 m base g h A c p st ne t k w) (hst : t.st = st) (hk : st ≤ k) (hh : hasL p k [63] = false) :
    Calls Tryz.prog 77 #[.pointer (some ⟨g, 0, none⟩), .pointer (some ⟨h, 0, none⟩)] w (RT W0 g h (fun t k w' => St W0 m base g h A c p st ne t k w') (openL p k t)) := by
  have HS0 := Aside0.mk S
  have fr0 := S.free 0
  have fc0 := S.cell 0 _ rfl
  have hn := S.hn
  have hn2 := Ne.symm S.hn
  have hkb : k ≤ 2000 := Nat.le_trans S.sv.le S.sv.len
  have HL : Aside0 (openL p k t = .ok ({ t with kind := 3 }, k)) := ⟨by unfold openL; rw [if_pos hh]⟩
  have HH := Aside0.mk hh
  have he : eatL p k [63] = k := by unfold eatL; rw [hh]; rfl
  have HE := Aside0.mk he
  clear S hst hk hh he
  go_enter Tryz.func77, Tryz.ntmps77
  go_wp2_with fail
  refine (sEatS (HS0.out.setT 0 _ { t with kind := 3 } rfl) [63] ⟨#[63]⟩ rfl (by decide) (by decide)).mono ?_
  intro e w1 hr
  rw [HH.out, HE.out] at hr
  obtain ⟨rfl, hS⟩ := hr
  have HS1 := Aside0.mk hS
  clear hS
  go_wp2
  go_end0
  rw [HL.out]
  exact ⟨rfl, HS1.out⟩
set_option maxHeartbeats 8000000 in
set_option maxRecDepth 100000 in
theorem open_end (S : St W0 m base g h A c p st ne t k w) (hst : t.st = st) (hk : st ≤ k) (hh : hasL p k [63] = true) (x : Int × Nat) (hp : peekL p (k + 1) = .error x) :
    Calls Tryz.prog 77 #[.pointer (some ⟨g, 0, none⟩), .pointer (some ⟨h, 0, none⟩)] w (RT W0 g h (fun t k w' => St W0 m base g h A c p st ne t k w') (openL p k t)) := by
  have HS0 := Aside0.mk S
  have fr0 := S.free 0
  have fc0 := S.cell 0 _ rfl
  have hn := S.hn
  have hn2 := Ne.symm S.hn
  have hkb : k ≤ 2000 := Nat.le_trans S.sv.le S.sv.len
  have HL : Aside0 (openL p k t = .error x) := ⟨by unfold openL; rw [if_neg (by rw [hh]; decide), hp, thenF_err]⟩
  have HH := Aside0.mk hh
  have he : eatL p k [63] = k + 1 := by unfold eatL; rw [hh]; rfl
  have HE := Aside0.mk he
  have HP := Aside0.mk hp
  clear S hst hk hh he hp
  go_enter Tryz.func77, Tryz.ntmps77
  go_wp2_with fail
  refine (sEatS (HS0.out.setT 0 _ { t with kind := 3 } rfl) [63] ⟨#[63]⟩ rfl (by decide) (by decide)).mono ?_
  intro e w1 hr
  rw [HH.out, HE.out] at hr
  obtain ⟨rfl, hS⟩ := hr
  have HS1 := Aside0.mk hS
  clear hS
  go_wp2_with fail
  refine (sPeek HS1.out).mono ?_
  intro e w2 hr
  rw [HP.out] at hr
  obtain ⟨rfl, hB⟩ := hr
  have HBE := Aside0.mk hB
  clear hB
  go_wp2
  rw [HL.out]
  exact ⟨rfl, rfl, HBE.out⟩
set_option maxHeartbeats 8000000 in
set_option maxRecDepth 100000 in
theorem open_colon (S : St W0 m base g h A c p st ne t k w) (hst : t.st = st) (hk : st ≤ k) (hh : hasL p k [63] = true) (hp : peekL p (k + 1) = .ok 58) :
    Calls Tryz.prog 77 #[.pointer (some ⟨g, 0, none⟩), .pointer (some ⟨h, 0, none⟩)] w (RT W0 g h (fun t k w' => St W0 m base g h A c p st ne t k w') (openL p k t)) := by
  have HS0 := Aside0.mk S
  have fr0 := S.free 0
  have fc0 := S.cell 0 _ rfl
  have hn := S.hn
  have hn2 := Ne.symm S.hn
  have hkb : k ≤ 2000 := Nat.le_trans S.sv.le S.sv.len
  have HL : Aside0 (openL p k t = .ok ({ t with kind := 3, mode := 1 }, k + 2)) := ⟨by unfold openL; rw [if_neg (by rw [hh]; decide), hp, thenF_ok, if_pos rfl]⟩
  have HH := Aside0.mk hh
  have he : eatL p k [63] = k + 1 := by unfold eatL; rw [hh]; rfl
  have HE := Aside0.mk he
  have HP := Aside0.mk hp
  have hkl := (peek_ok hp).1
  have HB := Aside0.mk (byte_at 58 (by omega))
  clear S hst hk hh he hp
  go_enter Tryz.func77, Tryz.ntmps77
  go_wp2_with fail
  refine (sEatS (HS0.out.setT 0 _ { t with kind := 3 } rfl) [63] ⟨#[63]⟩ rfl (by decide) (by decide)).mono ?_
  intro e w1 hr
  rw [HH.out, HE.out] at hr
  obtain ⟨rfl, hS⟩ := hr
  have HS1 := Aside0.mk hS
  clear hS
  go_wp2_with fail
  refine (sPeek HS1.out).mono ?_
  intro e w2 hr
  rw [HP.out] at hr
  obtain ⟨rfl, hS⟩ := hr
  have HS2 := Aside0.mk hS
  clear hS
  have fc2_0 := HS2.out.cell 1 _ rfl
  have fr2_0 := HS2.out.free 1
  have fr2_1 := HS2.out.freeS 1
  have ce2_0 := HS2.out.at_
  go_wp2_with fail
  refine (HB.out _).mono ?_
  rintro e w9 ⟨rfl, rfl⟩
  go_wp2
  go_end0
  rw [HL.out]
  exact ⟨rfl, ((HS2.out.setK _ (k + 2) (by first | rfl | simp; omega) (by omega)).setT 1 _ { t with kind := 3, mode := 1 } rfl)⟩
set_option maxHeartbeats 8000000 in
set_option maxRecDepth 100000 in
theorem open_eq (S : St W0 m base g h A c p st ne t k w) (hst : t.st = st) (hk : st ≤ k) (hh : hasL p k [63] = true) (hp : peekL p (k + 1) = .ok 61) :
    Calls Tryz.prog 77 #[.pointer (some ⟨g, 0, none⟩), .pointer (some ⟨h, 0, none⟩)] w (RT W0 g h (fun t k w' => St W0 m base g h A c p st ne t k w') (openL p k t)) := by
  have HS0 := Aside0.mk S
  have fr0 := S.free 0
  have fc0 := S.cell 0 _ rfl
  have hn := S.hn
  have hn2 := Ne.symm S.hn
  have hkb : k ≤ 2000 := Nat.le_trans S.sv.le S.sv.len
  have HL : Aside0 (openL p k t = .ok ({ t with kind := 3, mode := 3 }, k + 2)) := ⟨by unfold openL; rw [if_neg (by rw [hh]; decide), hp, thenF_ok, if_neg (by decide), if_pos rfl]⟩
  have HH := Aside0.mk hh
  have he : eatL p k [63] = k + 1 := by unfold eatL; rw [hh]; rfl
  have HE := Aside0.mk he
  have HP := Aside0.mk hp
  have hkl := (peek_ok hp).1
  have HB := Aside0.mk (byte_at 61 (by omega))
  clear S hst hk hh he hp
  go_enter Tryz.func77, Tryz.ntmps77
  go_wp2_with fail
  refine (sEatS (HS0.out.setT 0 _ { t with kind := 3 } rfl) [63] ⟨#[63]⟩ rfl (by decide) (by decide)).mono ?_
  intro e w1 hr
  rw [HH.out, HE.out] at hr
  obtain ⟨rfl, hS⟩ := hr
  have HS1 := Aside0.mk hS
  clear hS
  go_wp2_with fail
  refine (sPeek HS1.out).mono ?_
  intro e w2 hr
  rw [HP.out] at hr
  obtain ⟨rfl, hS⟩ := hr
  have HS2 := Aside0.mk hS
  clear hS
  have fc2_0 := HS2.out.cell 1 _ rfl
  have fr2_0 := HS2.out.free 1
  have fr2_1 := HS2.out.freeS 1
  have ce2_0 := HS2.out.at_
  go_wp2_with fail
  refine (HB.out _).mono ?_
  rintro e w9 ⟨rfl, rfl⟩
  go_wp2
  go_end0
  rw [HL.out]
  exact ⟨rfl, (((HS2.out.setK _ (k + 2) (by first | rfl | simp; omega) (by omega)).setT 1 _ { t with kind := 3, mode := 1 } rfl).setT 1 _ { t with kind := 3, mode := 3 } rfl)⟩
set_option maxHeartbeats 8000000 in
set_option maxRecDepth 100000 in
theorem open_bang (S : St W0 m base g h A c p st ne t k w) (hst : t.st = st) (hk : st ≤ k) (hh : hasL p k [63] = true) (hp : peekL p (k + 1) = .ok 33) :
    Calls Tryz.prog 77 #[.pointer (some ⟨g, 0, none⟩), .pointer (some ⟨h, 0, none⟩)] w (RT W0 g h (fun t k w' => St W0 m base g h A c p st ne t k w') (openL p k t)) := by
  have HS0 := Aside0.mk S
  have fr0 := S.free 0
  have fc0 := S.cell 0 _ rfl
  have hn := S.hn
  have hn2 := Ne.symm S.hn
  have hkb : k ≤ 2000 := Nat.le_trans S.sv.le S.sv.len
  have HL : Aside0 (openL p k t = .ok ({ t with kind := 3, mode := 4 }, k + 2)) := ⟨by unfold openL; rw [if_neg (by rw [hh]; decide), hp, thenF_ok, if_neg (by decide), if_neg (by decide), if_pos rfl]⟩
  have HH := Aside0.mk hh
  have he : eatL p k [63] = k + 1 := by unfold eatL; rw [hh]; rfl
  have HE := Aside0.mk he
  have HP := Aside0.mk hp
  have hkl := (peek_ok hp).1
  have HB := Aside0.mk (byte_at 33 (by omega))
  clear S hst hk hh he hp
  go_enter Tryz.func77, Tryz.ntmps77
  go_wp2_with fail
  refine (sEatS (HS0.out.setT 0 _ { t with kind := 3 } rfl) [63] ⟨#[63]⟩ rfl (by decide) (by decide)).mono ?_
  intro e w1 hr
  rw [HH.out, HE.out] at hr
  obtain ⟨rfl, hS⟩ := hr
  have HS1 := Aside0.mk hS
  clear hS
  go_wp2_with fail
  refine (sPeek HS1.out).mono ?_
  intro e w2 hr
  rw [HP.out] at hr
  obtain ⟨rfl, hS⟩ := hr
  have HS2 := Aside0.mk hS
  clear hS
  have fc2_0 := HS2.out.cell 1 _ rfl
  have fr2_0 := HS2.out.free 1
  have fr2_1 := HS2.out.freeS 1
  have ce2_0 := HS2.out.at_
  go_wp2_with fail
  refine (HB.out _).mono ?_
  rintro e w9 ⟨rfl, rfl⟩
  go_wp2
  go_end0
  rw [HL.out]
  exact ⟨rfl, (((HS2.out.setK _ (k + 2) (by first | rfl | simp; omega) (by omega)).setT 1 _ { t with kind := 3, mode := 1 } rfl).setT 1 _ { t with kind := 3, mode := 4 } rfl)⟩
set_option maxHeartbeats 8000000 in
set_option maxRecDepth 100000 in
theorem open_gt (S : St W0 m base g h A c p st ne t k w) (hst : t.st = st) (hk : st ≤ k) (hh : hasL p k [63] = true) (hp : peekL p (k + 1) = .ok 62) :
    Calls Tryz.prog 77 #[.pointer (some ⟨g, 0, none⟩), .pointer (some ⟨h, 0, none⟩)] w (RT W0 g h (fun t k w' => St W0 m base g h A c p st ne t k w') (openL p k t)) := by
  have HS0 := Aside0.mk S
  have fr0 := S.free 0
  have fc0 := S.cell 0 _ rfl
  have hn := S.hn
  have hn2 := Ne.symm S.hn
  have hkb : k ≤ 2000 := Nat.le_trans S.sv.le S.sv.len
  have HL : Aside0 (openL p k t = .ok ({ t with kind := 3, mode := 7 }, k + 2)) := ⟨by unfold openL; rw [if_neg (by rw [hh]; decide), hp, thenF_ok, if_neg (by decide), if_neg (by decide), if_neg (by decide), if_pos rfl]⟩
  have HH := Aside0.mk hh
  have he : eatL p k [63] = k + 1 := by unfold eatL; rw [hh]; rfl
  have HE := Aside0.mk he
  have HP := Aside0.mk hp
  have hkl := (peek_ok hp).1
  have HB := Aside0.mk (byte_at 62 (by omega))
  clear S hst hk hh he hp
  go_enter Tryz.func77, Tryz.ntmps77
  go_wp2_with fail
  refine (sEatS (HS0.out.setT 0 _ { t with kind := 3 } rfl) [63] ⟨#[63]⟩ rfl (by decide) (by decide)).mono ?_
  intro e w1 hr
  rw [HH.out, HE.out] at hr
  obtain ⟨rfl, hS⟩ := hr
  have HS1 := Aside0.mk hS
  clear hS
  go_wp2_with fail
  refine (sPeek HS1.out).mono ?_
  intro e w2 hr
  rw [HP.out] at hr
  obtain ⟨rfl, hS⟩ := hr
  have HS2 := Aside0.mk hS
  clear hS
  have fc2_0 := HS2.out.cell 1 _ rfl
  have fr2_0 := HS2.out.free 1
  have fr2_1 := HS2.out.freeS 1
  have ce2_0 := HS2.out.at_
  go_wp2_with fail
  refine (HB.out _).mono ?_
  rintro e w9 ⟨rfl, rfl⟩
  go_wp2
  go_end0
  rw [HL.out]
  exact ⟨rfl, (((HS2.out.setK _ (k + 2) (by first | rfl | simp; omega) (by omega)).setT 1 _ { t with kind := 3, mode := 1 } rfl).setT 1 _ { t with kind := 3, mode := 7 } rfl)⟩
set_option maxHeartbeats 8000000 in
set_option maxRecDepth 100000 in
theorem open_ltend (S : St W0 m base g h A c p st ne t k w) (hst : t.st = st) (hk : st ≤ k) (hh : hasL p k [63] = true) (hp : peekL p (k + 1) = .ok 60) (x : Int × Nat) (hq : peekL p (k + 2) = .error x) :
    Calls Tryz.prog 77 #[.pointer (some ⟨g, 0, none⟩), .pointer (some ⟨h, 0, none⟩)] w (RT W0 g h (fun t k w' => St W0 m base g h A c p st ne t k w') (openL p k t)) := by
  have HS0 := Aside0.mk S
  have fr0 := S.free 0
  have fc0 := S.cell 0 _ rfl
  have hn := S.hn
  have hn2 := Ne.symm S.hn
  have hkb : k ≤ 2000 := Nat.le_trans S.sv.le S.sv.len
  have HL : Aside0 (openL p k t = .error x) := ⟨by unfold openL; rw [if_neg (by rw [hh]; decide), hp, thenF_ok, if_neg (by decide), if_neg (by decide), if_neg (by decide), if_neg (by decide), if_pos rfl]; unfold openN; rw [hq, thenF_err]⟩
  have HH := Aside0.mk hh
  have he : eatL p k [63] = k + 1 := by unfold eatL; rw [hh]; rfl
  have HE := Aside0.mk he
  have HP := Aside0.mk hp
  have hkl := (peek_ok hp).1
  have HQ := Aside0.mk hq
  clear S hst hk hh he hp hq
  go_enter Tryz.func77, Tryz.ntmps77
  go_wp2_with fail
  refine (sEatS (HS0.out.setT 0 _ { t with kind := 3 } rfl) [63] ⟨#[63]⟩ rfl (by decide) (by decide)).mono ?_
  intro e w1 hr
  rw [HH.out, HE.out] at hr
  obtain ⟨rfl, hS⟩ := hr
  have HS1 := Aside0.mk hS
  clear hS
  go_wp2_with fail
  refine (sPeek HS1.out).mono ?_
  intro e w2 hr
  rw [HP.out] at hr
  obtain ⟨rfl, hS⟩ := hr
  have HS2 := Aside0.mk hS
  clear hS
  have fr2_0 := HS2.out.freeS 1
  have ce2_0 := HS2.out.at_
  go_wp2_with fail
  refine (sPeek (HS2.out.setK _ (k + 2) (by first | rfl | simp; omega) (by omega))).mono ?_
  intro e w3 hr
  rw [HQ.out] at hr
  obtain ⟨rfl, hB⟩ := hr
  have HBE := Aside0.mk hB
  clear hB
  go_wp2
  rw [HL.out]
  exact ⟨rfl, rfl, HBE.out⟩
set_option maxHeartbeats 8000000 in
set_option maxRecDepth 100000 in
theorem open_lteq (S : St W0 m base g h A c p st ne t k w) (hst : t.st = st) (hk : st ≤ k) (hh : hasL p k [63] = true) (hp : peekL p (k + 1) = .ok 60) (hq : peekL p (k + 2) = .ok 61) :
    Calls Tryz.prog 77 #[.pointer (some ⟨g, 0, none⟩), .pointer (some ⟨h, 0, none⟩)] w (RT W0 g h (fun t k w' => St W0 m base g h A c p st ne t k w') (openL p k t)) := by
  have HS0 := Aside0.mk S
  have fr0 := S.free 0
  have fc0 := S.cell 0 _ rfl
  have hn := S.hn
  have hn2 := Ne.symm S.hn
  have hkb : k ≤ 2000 := Nat.le_trans S.sv.le S.sv.len
  have HL : Aside0 (openL p k t = .ok ({ t with kind := 3, mode := 5 }, k + 3)) := ⟨by unfold openL; rw [if_neg (by rw [hh]; decide), hp, thenF_ok, if_neg (by decide), if_neg (by decide), if_neg (by decide), if_neg (by decide), if_pos rfl]; unfold openN; rw [hq, thenF_ok, if_pos rfl]⟩
  have HH := Aside0.mk hh
  have he : eatL p k [63] = k + 1 := by unfold eatL; rw [hh]; rfl
  have HE := Aside0.mk he
  have HP := Aside0.mk hp
  have hkl := (peek_ok hp).1
  have HQ := Aside0.mk hq
  have hql := (peek_ok hq).1
  clear S hst hk hh he hp hq
  go_enter Tryz.func77, Tryz.ntmps77
  go_wp2_with fail
  refine (sEatS (HS0.out.setT 0 _ { t with kind := 3 } rfl) [63] ⟨#[63]⟩ rfl (by decide) (by decide)).mono ?_
  intro e w1 hr
  rw [HH.out, HE.out] at hr
  obtain ⟨rfl, hS⟩ := hr
  have HS1 := Aside0.mk hS
  clear hS
  go_wp2_with fail
  refine (sPeek HS1.out).mono ?_
  intro e w2 hr
  rw [HP.out] at hr
  obtain ⟨rfl, hS⟩ := hr
  have HS2 := Aside0.mk hS
  clear hS
  have fr2_0 := HS2.out.freeS 1
  have ce2_0 := HS2.out.at_
  go_wp2_with fail
  refine (sPeek (HS2.out.setK _ (k + 2) (by first | rfl | simp; omega) (by omega))).mono ?_
  intro e w3 hr
  rw [HQ.out] at hr
  obtain ⟨rfl, hS⟩ := hr
  have HS3 := Aside0.mk hS
  clear hS
  have fc3_0 := HS3.out.cell 1 _ rfl
  have fr3_0 := HS3.out.free 1
  have fr3_1 := HS3.out.freeS 1
  have ce3_0 := HS3.out.at_
  go_wp2
  go_end0
  rw [HL.out]
  exact ⟨rfl, ((HS3.out.setK _ (k + 3) (by first | rfl | simp; omega) (by omega)).setT 1 _ { t with kind := 3, mode := 5 } rfl)⟩
set_option maxHeartbeats 8000000 in
set_option maxRecDepth 100000 in
theorem open_ltbang (S : St W0 m base g h A c p st ne t k w) (hst : t.st = st) (hk : st ≤ k) (hh : hasL p k [63] = true) (hp : peekL p (k + 1) = .ok 60) (hq : peekL p (k + 2) = .ok 33) :
    Calls Tryz.prog 77 #[.pointer (some ⟨g, 0, none⟩), .pointer (some ⟨h, 0, none⟩)] w (RT W0 g h (fun t k w' => St W0 m base g h A c p st ne t k w') (openL p k t)) := by
  have HS0 := Aside0.mk S
  have fr0 := S.free 0
  have fc0 := S.cell 0 _ rfl
  have hn := S.hn
  have hn2 := Ne.symm S.hn
  have hkb : k ≤ 2000 := Nat.le_trans S.sv.le S.sv.len
  have HL : Aside0 (openL p k t = .ok ({ t with kind := 3, mode := 6 }, k + 3)) := ⟨by unfold openL; rw [if_neg (by rw [hh]; decide), hp, thenF_ok, if_neg (by decide), if_neg (by decide), if_neg (by decide), if_neg (by decide), if_pos rfl]; unfold openN; rw [hq, thenF_ok, if_neg (by decide), if_pos rfl]⟩
  have HH := Aside0.mk hh
  have he : eatL p k [63] = k + 1 := by unfold eatL; rw [hh]; rfl
  have HE := Aside0.mk he
  have HP := Aside0.mk hp
  have hkl := (peek_ok hp).1
  have HQ := Aside0.mk hq
  have hql := (peek_ok hq).1
  clear S hst hk hh he hp hq
  go_enter Tryz.func77, Tryz.ntmps77
  go_wp2_with fail
  refine (sEatS (HS0.out.setT 0 _ { t with kind := 3 } rfl) [63] ⟨#[63]⟩ rfl (by decide) (by decide)).mono ?_
  intro e w1 hr
  rw [HH.out, HE.out] at hr
  obtain ⟨rfl, hS⟩ := hr
  have HS1 := Aside0.mk hS
  clear hS
  go_wp2_with fail
  refine (sPeek HS1.out).mono ?_
  intro e w2 hr
  rw [HP.out] at hr
  obtain ⟨rfl, hS⟩ := hr
  have HS2 := Aside0.mk hS
  clear hS
  have fr2_0 := HS2.out.freeS 1
  have ce2_0 := HS2.out.at_
  go_wp2_with fail
  refine (sPeek (HS2.out.setK _ (k + 2) (by first | rfl | simp; omega) (by omega))).mono ?_
  intro e w3 hr
  rw [HQ.out] at hr
  obtain ⟨rfl, hS⟩ := hr
  have HS3 := Aside0.mk hS
  clear hS
  have fc3_0 := HS3.out.cell 1 _ rfl
  have fr3_0 := HS3.out.free 1
  have fr3_1 := HS3.out.freeS 1
  have ce3_0 := HS3.out.at_
  go_wp2
  go_end0
  rw [HL.out]
  exact ⟨rfl, (((HS3.out.setK _ (k + 3) (by first | rfl | simp; omega) (by omega)).setT 1 _ { t with kind := 3, mode := 5 } rfl).setT 1 _ { t with kind := 3, mode := 6 } rfl)⟩
set_option maxHeartbeats 8000000 in
set_option maxRecDepth 100000 in
theorem open_ltbad (S : St W0 m base g h A c p st ne t k w) (hst : t.st = st) (hk : st ≤ k) (hh : hasL p k [63] = true) (hp : peekL p (k + 1) = .ok 60) (d : Int) (hq : peekL p (k + 2) = .ok d) (h1 : d ≠ 61) (h2 : d ≠ 33) (x : Int × Nat) (hn3 : nameL p st (k + 2) 133 = .error x) :
    Calls Tryz.prog 77 #[.pointer (some ⟨g, 0, none⟩), .pointer (some ⟨h, 0, none⟩)] w (RT W0 g h (fun t k w' => St W0 m base g h A c p st ne t k w') (openL p k t)) := by
  have HS0 := Aside0.mk S
  have fr0 := S.free 0
  have fc0 := S.cell 0 _ rfl
  have hn := S.hn
  have hn2 := Ne.symm S.hn
  have hkb : k ≤ 2000 := Nat.le_trans S.sv.le S.sv.len
  have HL : Aside0 (openL p k t = .error x) := ⟨by unfold openL; rw [if_neg (by rw [hh]; decide), hp, thenF_ok, if_neg (by decide), if_neg (by decide), if_neg (by decide), if_neg (by decide), if_pos rfl]; unfold openN; rw [hq, thenF_ok, if_neg h1, if_neg h2, hst, hn3, thenF_err]⟩
  have HH := Aside0.mk hh
  have he : eatL p k [63] = k + 1 := by unfold eatL; rw [hh]; rfl
  have HE := Aside0.mk he
  have HP := Aside0.mk hp
  have hkl := (peek_ok hp).1
  have HQ := Aside0.mk hq
  have hql := (peek_ok hq).1
  have hd1 : (d == 61) = false := by rw [beq_eq_false_iff_ne]; exact h1
  have hd2 : (d == 33) = false := by rw [beq_eq_false_iff_ne]; exact h2
  have hd3 : (61 == d) = false := by rw [beq_eq_false_iff_ne]; exact fun e => h1 e.symm
  have hd4 : (33 == d) = false := by rw [beq_eq_false_iff_ne]; exact fun e => h2 e.symm
  have hks : st ≤ k + 2 := by omega
  have HKS := Aside0.mk hks
  have HN := Aside0.mk hn3
  clear S hst hk hh he hp hq h1 h2 hks hn3
  go_enter Tryz.func77, Tryz.ntmps77
  go_wp2_with fail
  refine (sEatS (HS0.out.setT 0 _ { t with kind := 3 } rfl) [63] ⟨#[63]⟩ rfl (by decide) (by decide)).mono ?_
  intro e w1 hr
  rw [HH.out, HE.out] at hr
  obtain ⟨rfl, hS⟩ := hr
  have HS1 := Aside0.mk hS
  clear hS
  go_wp2_with fail
  refine (sPeek HS1.out).mono ?_
  intro e w2 hr
  rw [HP.out] at hr
  obtain ⟨rfl, hS⟩ := hr
  have HS2 := Aside0.mk hS
  clear hS
  have fr2_0 := HS2.out.freeS 1
  have ce2_0 := HS2.out.at_
  go_wp2_with fail
  refine (sPeek (HS2.out.setK _ (k + 2) (by first | rfl | simp; omega) (by omega))).mono ?_
  intro e w3 hr
  rw [HQ.out] at hr
  obtain ⟨rfl, hS⟩ := hr
  have HS3 := Aside0.mk hS
  clear hS
  have fc3_0 := HS3.out.cell 1 _ rfl
  have fr3_0 := HS3.out.free 1
  have fc3_1 := HS3.out.cell 4 _ rfl
  have fr3_1 := HS3.out.free 4
  go_wp2_with fail
  refine (sName HS3.out 133 (by decide) HKS.out).mono ?_
  intro e w4 hr
  rw [HN.out] at hr
  obtain ⟨rfl, hB⟩ := hr
  have HBE := Aside0.mk hB
  clear hB
  go_wp2
  rw [HL.out]
  exact ⟨rfl, rfl, HBE.out⟩
set_option maxHeartbeats 8000000 in
set_option maxRecDepth 100000 in
theorem open_ltname (S : St W0 m base g h A c p st ne t k w) (hst : t.st = st) (hk : st ≤ k) (hh : hasL p k [63] = true) (hp : peekL p (k + 1) = .ok 60) (d : Int) (hq : peekL p (k + 2) = .ok d) (h1 : d ≠ 61) (h2 : d ≠ 33) (b : List Int × Nat) (hn3 : nameL p st (k + 2) 133 = .ok b) :
    Calls Tryz.prog 77 #[.pointer (some ⟨g, 0, none⟩), .pointer (some ⟨h, 0, none⟩)] w (RT W0 g h (fun t k w' => St W0 m base g h A c p st ne t k w') (openL p k t)) := by
  have HS0 := Aside0.mk S
  have fr0 := S.free 0
  have fc0 := S.cell 0 _ rfl
  have hn := S.hn
  have hn2 := Ne.symm S.hn
  have hkb : k ≤ 2000 := Nat.le_trans S.sv.le S.sv.len
  have HL : Aside0 (openL p k t = .ok ({ t with kind := 3, mode := 2, name := strOfNums b.1 }, b.2)) := ⟨by unfold openL; rw [if_neg (by rw [hh]; decide), hp, thenF_ok, if_neg (by decide), if_neg (by decide), if_neg (by decide), if_neg (by decide), if_pos rfl]; unfold openN; rw [hq, thenF_ok, if_neg h1, if_neg h2, hst, hn3, thenF_ok]⟩
  have HH := Aside0.mk hh
  have he : eatL p k [63] = k + 1 := by unfold eatL; rw [hh]; rfl
  have HE := Aside0.mk he
  have HP := Aside0.mk hp
  have hkl := (peek_ok hp).1
  have HQ := Aside0.mk hq
  have hql := (peek_ok hq).1
  have hd1 : (d == 61) = false := by rw [beq_eq_false_iff_ne]; exact h1
  have hd2 : (d == 33) = false := by rw [beq_eq_false_iff_ne]; exact h2
  have hd3 : (61 == d) = false := by rw [beq_eq_false_iff_ne]; exact fun e => h1 e.symm
  have hd4 : (33 == d) = false := by rw [beq_eq_false_iff_ne]; exact fun e => h2 e.symm
  have hks : st ≤ k + 2 := by omega
  have HKS := Aside0.mk hks
  have HN := Aside0.mk hn3
  clear S hst hk hh he hp hq h1 h2 hks hn3
  go_enter Tryz.func77, Tryz.ntmps77
  go_wp2_with fail
  refine (sEatS (HS0.out.setT 0 _ { t with kind := 3 } rfl) [63] ⟨#[63]⟩ rfl (by decide) (by decide)).mono ?_
  intro e w1 hr
  rw [HH.out, HE.out] at hr
  obtain ⟨rfl, hS⟩ := hr
  have HS1 := Aside0.mk hS
  clear hS
  go_wp2_with fail
  refine (sPeek HS1.out).mono ?_
  intro e w2 hr
  rw [HP.out] at hr
  obtain ⟨rfl, hS⟩ := hr
  have HS2 := Aside0.mk hS
  clear hS
  have fr2_0 := HS2.out.freeS 1
  have ce2_0 := HS2.out.at_
  go_wp2_with fail
  refine (sPeek (HS2.out.setK _ (k + 2) (by first | rfl | simp; omega) (by omega))).mono ?_
  intro e w3 hr
  rw [HQ.out] at hr
  obtain ⟨rfl, hS⟩ := hr
  have HS3 := Aside0.mk hS
  clear hS
  go_wp2_with fail
  refine (sName HS3.out 133 (by decide) HKS.out).mono ?_
  intro e w4 hr
  rw [HN.out] at hr
  obtain ⟨rfl, hS⟩ := hr
  have HS4 := Aside0.mk hS
  clear hS
  have fc4_0 := HS4.out.cell 1 _ rfl
  have fr4_0 := HS4.out.free 1
  have fc4_1 := HS4.out.cell 4 _ rfl
  have fr4_1 := HS4.out.free 4
  go_wp2
  go_end0
  rw [HL.out]
  exact ⟨rfl, ((HS4.out.setT 1 _ { t with kind := 3, mode := 2 } rfl).setT 4 _ { t with kind := 3, mode := 2, name := strOfNums b.1 } rfl)⟩
set_option maxHeartbeats 8000000 in
set_option maxRecDepth 100000 in
theorem open_bad (S : St W0 m base g h A c p st ne t k w) (hst : t.st = st) (hk : st ≤ k) (hh : hasL p k [63] = true) (d : Int) (hp : peekL p (k + 1) = .ok d) (h1 : d ≠ 58) (h2 : d ≠ 61) (h3 : d ≠ 33) (h4 : d ≠ 62) (h5 : d ≠ 60) :
    Calls Tryz.prog 77 #[.pointer (some ⟨g, 0, none⟩), .pointer (some ⟨h, 0, none⟩)] w (RT W0 g h (fun t k w' => St W0 m base g h A c p st ne t k w') (openL p k t)) := by
  have HS0 := Aside0.mk S
  have fr0 := S.free 0
  have fc0 := S.cell 0 _ rfl
  have hn := S.hn
  have hn2 := Ne.symm S.hn
  have hkb : k ≤ 2000 := Nat.le_trans S.sv.le S.sv.len
  have HL : Aside0 (openL p k t = .error (133, st)) := ⟨by unfold openL; rw [if_neg (by rw [hh]; decide), hp, thenF_ok, if_neg h1, if_neg h2, if_neg h3, if_neg h4, if_neg h5, hst]⟩
  have HH := Aside0.mk hh
  have he : eatL p k [63] = k + 1 := by unfold eatL; rw [hh]; rfl
  have HE := Aside0.mk he
  have HP := Aside0.mk hp
  have ha0 : (d == 58) = false := by rw [beq_eq_false_iff_ne]; exact h1
  have hb0 : (58 == d) = false := by rw [beq_eq_false_iff_ne]; exact fun e => h1 e.symm
  have ha1 : (d == 61) = false := by rw [beq_eq_false_iff_ne]; exact h2
  have hb1 : (61 == d) = false := by rw [beq_eq_false_iff_ne]; exact fun e => h2 e.symm
  have ha2 : (d == 33) = false := by rw [beq_eq_false_iff_ne]; exact h3
  have hb2 : (33 == d) = false := by rw [beq_eq_false_iff_ne]; exact fun e => h3 e.symm
  have ha3 : (d == 62) = false := by rw [beq_eq_false_iff_ne]; exact h4
  have hb3 : (62 == d) = false := by rw [beq_eq_false_iff_ne]; exact fun e => h4 e.symm
  have ha4 : (d == 60) = false := by rw [beq_eq_false_iff_ne]; exact h5
  have hb4 : (60 == d) = false := by rw [beq_eq_false_iff_ne]; exact fun e => h5 e.symm
  clear S hst hk hh he hp h1 h2 h3 h4 h5
  go_enter Tryz.func77, Tryz.ntmps77
  go_wp2_with fail
  refine (sEatS (HS0.out.setT 0 _ { t with kind := 3 } rfl) [63] ⟨#[63]⟩ rfl (by decide) (by decide)).mono ?_
  intro e w1 hr
  rw [HH.out, HE.out] at hr
  obtain ⟨rfl, hS⟩ := hr
  have HS1 := Aside0.mk hS
  clear hS
  go_wp2_with fail
  refine (sPeek HS1.out).mono ?_
  intro e w2 hr
  rw [HP.out] at hr
  obtain ⟨rfl, hS⟩ := hr
  have HS2 := Aside0.mk hS
  clear hS
  go_wp2_with fail
  refine (sFail HS2.out 133).mono ?_
  intro e w3 hr
  obtain ⟨rfl, hB⟩ := hr
  have HBE := Aside0.mk hB
  clear hB
  go_wp2
  rw [HL.out]
  exact ⟨rfl, rfl, HBE.out⟩
theorem open_any (S : St W0 m base g h A c p st ne t k w) (hst : t.st = st) (hk : st ≤ k) :
    Calls Tryz.prog 77 #[.pointer (some ⟨g, 0, none⟩), .pointer (some ⟨h, 0, none⟩)] w (RT W0 g h (fun t k w' => St W0 m base g h A c p st ne t k w') (openL p k t)) := by
  cases hh : hasL p k [63] with
  | false => exact open_none S hst hk hh
  | true =>
    cases hp : peekL p (k + 1) with
    | error x => exact open_end S hst hk hh x hp
    | ok d =>
      by_cases h1 : d = 58
      · subst h1; exact open_colon S hst hk hh hp
      by_cases h2 : d = 61
      · subst h2; exact open_eq S hst hk hh hp
      by_cases h3 : d = 33
      · subst h3; exact open_bang S hst hk hh hp
      by_cases h4 : d = 62
      · subst h4; exact open_gt S hst hk hh hp
      by_cases h5 : d = 60
      · subst h5
        cases hq : peekL p (k + 2) with
        | error x => exact open_ltend S hst hk hh hp x hq
        | ok d =>
          by_cases h6 : d = 61
          · subst h6; exact open_lteq S hst hk hh hp hq
          by_cases h7 : d = 33
          · subst h7; exact open_ltbang S hst hk hh hp hq
          cases hn : nameL p st (k + 2) 133 with
          | error x => exact open_ltbad S hst hk hh hp d hq h6 h7 x hn
          | ok b => exact open_ltname S hst hk hh hp d hq h6 h7 b hn
      · exact open_bad S hst hk hh d hp h1 h2 h3 h4 h5
end

end Go.Proofs.YtkipjalfgdfaiaaGreatDoor
namespace Go.Proofs.YtkipjalfgdfaiaaGreatDoor
set_option linter.unusedVariables false
set_option linter.unusedSimpArgs false
open Go.RowKit Go.Proofs.YtkipjalfgdfaiaaGreatDoorW.PrintWords Go.Proofs.YtkipjalfgdfaiaaGreatDoorW.PrintLast Go.Proofs.YtkipjalfgdfaiaaGreatDoorW.PrintMore Go.Proofs.YtkipjalfgdfaiaaGreatDoor.PTk

theorem digV {c : Int} (h : digB c = true) : (UInt8.ofNat c.toNat).toNat = c.toNat ∧ 48 ≤ c ∧ c ≤ 57 := by
  unfold digB at h
  rw [Bool.and_eq_true, decide_eq_true_eq, decide_eq_true_eq] at h
  exact ⟨by rw [UInt8.toNat_ofNat']; omega, h⟩
theorem dec_digits : ∀ (l : List Int) (acc : Nat), (∀ c ∈ l, digB c = true) → ∃ m, Lib.decFrom acc (l.map fun n => UInt8.ofNat n.toNat) = some m ∧ (m : Int) = l.foldl (fun n c => 10 * n + (c - 48)) (acc : Int)
  | [], acc, _ => ⟨acc, rfl, rfl⟩
  | c :: r, acc, h => by
    obtain ⟨h1, h2, h3⟩ := digV (h c List.mem_cons_self)
    obtain ⟨m, hm, he⟩ := dec_digits r (acc * 10 + (c.toNat - 48)) (fun x hx => h x (List.mem_cons_of_mem _ hx))
    refine ⟨m, ?_, ?_⟩
    · have hd : Lib.digitVal (UInt8.ofNat c.toNat) = some (c.toNat - 48) := by
        unfold Lib.digitVal
        rw [h1, if_pos (by omega)]
      rw [List.map_cons, Lib.decFrom, hd]
      exact hm
    · rw [he, List.foldl_cons]
      congr 1
      omega
theorem atoi_digits (l : List Int) (h0 : l ≠ []) (h : ∀ c ∈ l, digB c = true) : Lib.atoi (strOfNums l).data.toList = some (numD l) := by
  rw [str_data]
  cases l with
  | nil => exact absurd rfl h0
  | cons c r =>
    obtain ⟨h1, h2, h3⟩ := digV (h c List.mem_cons_self)
    have n45 : (UInt8.ofNat c.toNat == 45) = false := by
      rw [beq_eq_false_iff_ne]
      intro e
      have e2 := congrArg UInt8.toNat e
      rw [h1] at e2
      have e3 : c.toNat = 45 := e2
      omega
    have n43 : (UInt8.ofNat c.toNat == 43) = false := by
      rw [beq_eq_false_iff_ne]
      intro e
      have e2 := congrArg UInt8.toNat e
      rw [h1] at e2
      have e3 : c.toNat = 43 := e2
      omega
    obtain ⟨m, hm, he⟩ := dec_digits (c :: r) 0 h
    have hd : Lib.decNat (UInt8.ofNat c.toNat :: r.map fun n => UInt8.ofNat n.toNat) = some m := hm
    rw [List.map_cons]
    show (if (UInt8.ofNat c.toNat == 45) = true then _ else if (UInt8.ofNat c.toNat == 43) = true then _ else (Lib.decNat (UInt8.ofNat c.toNat :: r.map fun n => UInt8.ofNat n.toNat)).map fun (m : Nat) => (m : Int)) = _
    rw [n45, n43, if_neg (by decide), if_neg (by decide), hd]
    show some (m : Int) = _
    rw [he]
    rfl
theorem run_digits (of_ : Int → Bool) (m : Nat) (l : List Int) : ∀ c ∈ l.take (runN of_ m l), of_ c = true := by
  intro c hc
  obtain ⟨j, hj, rfl⟩ := List.getElem_of_mem hc
  rw [List.getElem_take]
  exact runN_lt of_ m l j (by rw [List.length_take] at hj; omega)
theorem take_ne {l : List Int} {n : Nat} (h : n ≠ 0) (hl : n ≤ l.length) : l.take n ≠ [] := by
  intro e
  have := congrArg List.length e
  rw [List.length_take] at this
  simp at this
  rcases this with h2 | h2
  · exact h h2
  · rw [h2] at hl; simp at hl; exact h hl
theorem numD_bound (l : List Int) (h : ∀ c ∈ l, digB c = true) (hl : l.length ≤ 3) : 0 ≤ numD l ∧ numD l ≤ 999 := by
  match l, hl, h with
  | [], _, _ => exact ⟨Int.le_refl _, by decide⟩
  | [a], _, h =>
    have := digV (h a (by simp))
    simp only [numD, List.foldl]; omega
  | [a, b], _, h =>
    have := digV (h a (by simp))
    have := digV (h b (by simp))
    simp only [numD, List.foldl]; omega
  | [a, b, d], _, h =>
    have := digV (h a (by simp))
    have := digV (h b (by simp))
    have := digV (h d (by simp))
    simp only [numD, List.foldl]; omega
  | _ :: _ :: _ :: _ :: _, hl, _ => simp at hl
theorem number_bound (p : List Int) (k most : Nat) (hm : most ≤ 3) : -1 ≤ (numberL p k most).1 ∧ (numberL p k most).1 ≤ 999 := by
  unfold numberL
  simp only
  split
  · omega
  · have := numD_bound ((p.drop k).take (runN digB most (p.drop k))) (run_digits digB most _) (by rw [List.length_take]; have := runN_le digB most (p.drop k); omega)
    omega
section
variable {W0 w : World} {m : Int} {base g h : Nat} {A : Option Addr} {c : Nat} {p : List Int} {st ne k : Nat} {t : Tk}
set_option maxHeartbeats 8000000 in
set_option maxRecDepth 100000 in
theorem sNumber (S : St W0 m base g h A c p st ne t k w) (most : Nat) (hm : most ≤ 3) :
    Calls Tryz.prog 118 #[.pointer (some ⟨g, 0, none⟩), .int .i64 (most : Int)] w fun e w' => e = .returned (.int .i64 (numberL p k most).1) ∧ St W0 m base g h A c p st ne t (numberL p k most).2 w' := by
  have HR := Aside0.mk (sRun S _ digB most (by omega) cf_dig dig_pays)
  have hrl := runN_le digB most (p.drop k)
  have hds := run_digits digB most (p.drop k)
  have HL : Aside0 (numberL p k most = (if runN digB most (p.drop k) = 0 then -1 else numD ((p.drop k).take (runN digB most (p.drop k))), k + runN digB most (p.drop k))) := ⟨rfl⟩
  have hnb := number_bound p k most hm
  rw [HL.out] at hnb
  by_cases h0 : runN digB most (p.drop k) = 0
  · rw [h0] at HR HL
    rw [if_pos rfl] at HL
    have HA := Aside0.mk (fun (ev : Value) (W : World) => Tryz.strconv_Atoi_err ⟨#[]⟩ (by decide) rfl ev W)
    clear S h0 hrl hds hnb
    go_enter Tryz.func118, Tryz.ntmps118
    go_wp2_with fail
    refine HR.out.mono ?_
    rintro e w1 ⟨rfl, hS⟩
    have HS1 := Aside0.mk hS
    clear hS
    obtain ⟨ev, hv, hev⟩ := HS1.out.vr.syn
    have HV := Aside0.mk hv
    have HEV := Aside0.mk hev
    clear hv hev
    go_wp2_with fail
    refine (HA.out _ _ HV.out HEV.out).mono ?_
    rintro e w2 ⟨N, rfl, hN, -, hb⟩
    have HS2 := Aside0.mk (HS1.out.stay hb)
    clear hb hN
    go_wp2
    go_ret
    rw [HL.out]
    exact ⟨rfl, HS2.out⟩
  · rw [if_neg h0] at HL hnb
    have HA := Aside0.mk (fun (W : World) => Tryz.strconv_Atoi (strOfNums ((p.drop k).take (runN digB most (p.drop k)))) _ (by rw [strN_size, List.length_take]; omega) (atoi_digits _ (take_ne h0 hrl.2) hds) W)
    obtain ⟨N, hN⟩ : ∃ N, runN digB most (p.drop k) = N := ⟨_, rfl⟩
    rw [hN] at HR HA HL hnb
    obtain ⟨X, hX⟩ : ∃ X, (p.drop k).take N = X := ⟨_, rfl⟩
    rw [hX] at HR HA HL hnb
    obtain ⟨v, hv⟩ : ∃ v, numD X = v := ⟨_, rfl⟩
    rw [hv] at HA HL hnb
    obtain ⟨s, hs⟩ : ∃ s, strOfNums X = s := ⟨_, rfl⟩
    rw [hs] at HR HA
    clear S h0 hrl hds hN hX hv hs
    go_enter Tryz.func118, Tryz.ntmps118
    go_wp2_with fail
    refine HR.out.mono ?_
    rintro e w1 ⟨rfl, hS⟩
    have HS1 := Aside0.mk hS
    clear hS
    go_wp2_with fail
    refine (HA.out _).mono ?_
    rintro e w2 ⟨rfl, t2, hw2⟩
    have HS2 := Aside0.mk (HS1.out.stay (w' := w2) (by rw [hw2]; exact bytes_below (Below.refl _ _) (Nat.le_refl _) _ _))
    clear hw2
    go_wp2
    go_ret
    rw [HL.out]
    exact ⟨rfl, HS2.out⟩
end

end Go.Proofs.YtkipjalfgdfaiaaGreatDoor
namespace Go.Proofs.YtkipjalfgdfaiaaGreatDoor
set_option linter.unusedVariables false
set_option linter.unusedSimpArgs false
open Go.RowKit Go.Proofs.YtkipjalfgdfaiaaGreatDoorW.PrintWords Go.Proofs.YtkipjalfgdfaiaaGreatDoorW.PrintLast Go.Proofs.YtkipjalfgdfaiaaGreatDoorW.PrintMore Go.Proofs.YtkipjalfgdfaiaaGreatDoor.PTk

section
variable {W0 w : World} {m : Int} {base g h : Nat} {A : Option Addr} {c : Nat} {p : List Int} {st ne k : Nat} {t : Tk}
set_option maxHeartbeats 16000000 in
set_option maxRecDepth 100000 in
theorem repeat_any (S : St W0 m base g h A c p st ne t k w) (hst : t.st = st) (hk : st ≤ k) (ch : Int) :
    Calls Tryz.prog 78 #[.pointer (some ⟨g, 0, none⟩), .pointer (some ⟨h, 0, none⟩), .int .u8 ch] w (RT W0 g h (fun t k w' => St W0 m base g h A c p st ne t k w') (repeatL p k t ch)) := by
  have HS0 := Aside0.mk S
  have fr0 := S.free 0
  have fc0 := S.cell 0 _ rfl
  have fr3 := S.free 3
  have fc3 := S.cell 3 _ rfl
  have hn := S.hn
  have hn2 := Ne.symm S.hn
  have HL : Aside0 (repeatL p k t ch = thenF (countL p k t ch) fun a => .ok (modeL p a.2 a.1)) := ⟨rfl⟩
  have HK := Aside0.mk hk
  have HT := Aside0.mk hst
  clear S hst hk
  go_enter Tryz.func78, Tryz.ntmps78
  go_upto_block 0 with (fail)
  go_cut [2] (fun v2 wc => ∃ (t1 : Tk) (k1 : Nat), Aside0 (v2 = .int .u8 ch) ∧ Aside0 (countL p k t ch = .ok (t1, k1)) ∧ Aside0 (St W0 m base g h A c p st ne t1 k1 wc))
  case first =>
    by_cases h1 : ch = 43
    · have h1b : (ch == 43) = true := by rw [beq_iff_eq]; exact h1
      have HC : Aside0 (countL p k t ch = .ok ({ t with kind := 6, a := 1, b := -1 }, k)) := ⟨if_pos h1⟩
      have fr2 := HS0.out.free 2
      have fc2 := HS0.out.cell 2 _ rfl
      subst h1
      clear h1b
      go_wp2_with fail
      go_meet
      case rel => exact ⟨_, k, ⟨rfl⟩, HC, ⟨((HS0.out.setT 0 _ { t with kind := 6 } rfl).setT 3 _ { t with kind := 6, b := -1 } rfl).setT 2 _ { t with kind := 6, a := 1, b := -1 } rfl⟩⟩
    · by_cases h2 : ch = 63
      · have HC : Aside0 (countL p k t ch = .ok ({ t with kind := 6, b := 1 }, k)) := ⟨by unfold countL; rw [if_neg h1, if_pos h2]⟩
        subst h2
        clear h1
        go_wp2_with fail
        go_meet
        case rel => exact ⟨_, k, ⟨rfl⟩, HC, ⟨((HS0.out.setT 0 _ { t with kind := 6 } rfl).setT 3 _ { t with kind := 6, b := -1 } rfl).setT 3 _ { t with kind := 6, b := 1 } rfl⟩⟩
      · by_cases h3 : ch = 123
        · have HC : Aside0 (countL p k t ch = countsL p k t) := ⟨by unfold countL; rw [if_neg h1, if_neg h2, if_pos h3]⟩
          subst h3
          clear h1 h2
          have HNB := Aside0.mk (number_bound p k 3 (by omega))
          have HCN0 : Aside0 (countsL p k t = countE p t (numberL p k 3).1 (countS p (numberL p k 3).1 (numberL p k 3).2).1 (countS p (numberL p k 3).1 (numberL p k 3).2).2) := ⟨rfl⟩
          have HNU := Aside0.mk (fun W (hS : St W0 m base g h A c p st ne { t with kind := 6, b := -1 } k W) => sNumber hS 3 (by omega))
          obtain ⟨x, hx⟩ : ∃ x, numberL p k 3 = x := ⟨_, rfl⟩
          rw [hx] at HNB HCN0 HNU
          obtain ⟨a, k1⟩ := x
          have hab := HNB.out
          simp only at HCN0 HNU hab
          clear HNB hx
          by_cases ha : a < 0
          · have hcs : countS p a k1 = (a, k1) := by unfold countS; rw [if_neg (fun hh => absurd hh.1 (by omega))]
            have da : decide (0 ≤ a) = false := decide_eq_false (by omega)
            obtain ⟨b, hb⟩ : ∃ b, a = b := ⟨a, rfl⟩
            obtain ⟨k2, hk2⟩ : ∃ k2, k1 = k2 := ⟨k1, rfl⟩
            have HCE : Aside0 (countsL p k t = countE p t a a k1) := ⟨by rw [HCN0.out, hcs]⟩
            clear hcs hb hk2
            go_wp2_with fail
            refine (HNU.out _ ((HS0.out.setT 0 _ { t with kind := 6 } rfl).setT 3 _ { t with kind := 6, b := -1 } rfl)).mono ?_
            intro e w10 hr
            obtain ⟨rfl, hS⟩ := hr
            have HS10 := Aside0.mk hS
            have ga := hS.free 2
            have gb := hS.free 3
            have gc := hS.cell 2 _ rfl
            have gd := hS.cell 3 _ rfl
            have HS11 : Aside0 (∀ W, W = (w10.setCell ⟨h, 2, none⟩ (.int .i64 a)).setCell ⟨h, 3, none⟩ (.int .i64 a) → St W0 m base g h A c p st ne { t with kind := 6, a := a, b := a } k1 W) := ⟨fun W hW => by rw [hW]; exact (hS.setT 2 _ { t with kind := 6, a := a, b := -1 } rfl).setT 3 _ { t with kind := 6, a := a, b := a } rfl⟩
            clear hS
            cases hp : peekL p k1 with
            | error x =>
              have HP := Aside0.mk hp
              have HLE : Aside0 (repeatL p k t 123 = .error x) := ⟨by rw [HL.out, HC.out, HCE.out]; unfold countE; rw [hp]; rfl⟩
              clear hp
              go_wp2_with fail
              refine (sPeek (HS11.out _ rfl)).mono ?_
              intro e w21 hr
              rw [HP.out] at hr
              obtain ⟨rfl, hB⟩ := hr
              have HBE := Aside0.mk hB
              clear hB
              go_wp2
              rw [HLE.out]
              exact ⟨rfl, rfl, HBE.out⟩
            | ok d =>
              have HP := Aside0.mk hp
              have HLE : Aside0 (repeatL p k t 123 = .error (150, st)) := ⟨by rw [HL.out, HC.out, HCE.out]; unfold countE; rw [hp, thenF_ok, if_pos (.inl ha), HT.out]; rfl⟩
              have d1 : decide (a < 0) = true := decide_eq_true (by omega)
              clear hp
              go_wp2_with fail
              refine (sPeek (HS11.out _ rfl)).mono ?_
              intro e w21 hr
              rw [HP.out] at hr
              obtain ⟨rfl, hS⟩ := hr
              have HS21 := Aside0.mk hS
              clear hS
              have ca := HS21.out.cell 2 (.int .i64 a) rfl
              have cb := HS21.out.cell 3 (.int .i64 a) rfl
              go_wp2
              go_quiet (fail)
              go_wp2_with fail
              refine (sFail (HS21.out.draw _) 150).mono ?_
              intro e w22 hr
              obtain ⟨rfl, hB⟩ := hr
              have HBE := Aside0.mk hB
              clear hB
              go_wp2
              rw [HLE.out]
              exact ⟨rfl, rfl, HBE.out⟩
          cases hcm : hasL p k1 [44] with
          | true =>
            have da : decide (0 ≤ a) = true := decide_eq_true (by omega)
            have hcs : countS p a k1 = numberL p (k1 + 1) 3 := by unfold countS; rw [if_pos ⟨by omega, hcm⟩]
            have he : eatL p k1 [44] = k1 + 1 := by unfold eatL; rw [hcm]; rfl
            have HCM := Aside0.mk hcm
            have HE := Aside0.mk he
            have HNB2 := Aside0.mk (number_bound p (k1 + 1) 3 (by omega))
            have HNU2 := Aside0.mk (fun W (hS : St W0 m base g h A c p st ne { t with kind := 6, a := a, b := a } (k1 + 1) W) => sNumber hS 3 (by omega))
            have HCE : Aside0 (countsL p k t = countE p t a (numberL p (k1 + 1) 3).1 (numberL p (k1 + 1) 3).2) := ⟨by rw [HCN0.out, hcs]⟩
            obtain ⟨y, hy⟩ : ∃ y, numberL p (k1 + 1) 3 = y := ⟨_, rfl⟩
            rw [hy] at HNB2 HCE HNU2
            obtain ⟨b, k2⟩ := y
            have hbb := HNB2.out
            simp only at HCE HNU2 hbb
            clear HNB2 hy hcs hcm he
            go_wp2_with fail
            refine (HNU.out _ ((HS0.out.setT 0 _ { t with kind := 6 } rfl).setT 3 _ { t with kind := 6, b := -1 } rfl)).mono ?_
            intro e w10 hr
            obtain ⟨rfl, hS⟩ := hr
            have HS10 := Aside0.mk hS
            have ga := hS.free 2
            have gb := hS.free 3
            have gc := hS.cell 2 _ rfl
            have gd := hS.cell 3 _ rfl
            have HS11 : Aside0 (∀ W, W = (w10.setCell ⟨h, 2, none⟩ (.int .i64 a)).setCell ⟨h, 3, none⟩ (.int .i64 a) → St W0 m base g h A c p st ne { t with kind := 6, a := a, b := a } k1 W) := ⟨fun W hW => by rw [hW]; exact (hS.setT 2 _ { t with kind := 6, a := a, b := -1 } rfl).setT 3 _ { t with kind := 6, a := a, b := a } rfl⟩
            clear hS
            go_wp2_with fail
            refine (sEatS (HS11.out _ rfl) [44] ⟨#[44]⟩ rfl (by decide) (by decide)).mono ?_
            intro e w12 hr
            rw [HCM.out, HE.out] at hr
            obtain ⟨rfl, hS⟩ := hr
            have HS12 := Aside0.mk hS
            clear hS
            go_wp2_with fail
            refine (HNU2.out _ HS12.out).mono ?_
            intro e w13 hr
            obtain ⟨rfl, hS⟩ := hr
            have HS13 := Aside0.mk hS
            have hb3 := hS.free 3
            have hd3 := hS.cell 3 _ rfl
            have HS14 : Aside0 (∀ W, W = w13.setCell ⟨h, 3, none⟩ (.int .i64 b) → St W0 m base g h A c p st ne { t with kind := 6, a := a, b := b } k2 W) := ⟨fun W hW => by rw [hW]; exact hS.setT 3 _ { t with kind := 6, a := a, b := b } rfl⟩
            clear hS
            cases hp : peekL p k2 with
            | error x =>
              have HP := Aside0.mk hp
              have HLE : Aside0 (repeatL p k t 123 = .error x) := ⟨by rw [HL.out, HC.out, HCE.out]; unfold countE; rw [hp]; rfl⟩
              clear hp
              go_wp2_with fail
              refine (sPeek (HS14.out _ rfl)).mono ?_
              intro e w21 hr
              rw [HP.out] at hr
              obtain ⟨rfl, hB⟩ := hr
              have HBE := Aside0.mk hB
              clear hB
              go_wp2
              rw [HLE.out]
              exact ⟨rfl, rfl, HBE.out⟩
            | ok d =>
              have HP := Aside0.mk hp
              by_cases g1 : 100 < a
              · skip
                have HLE : Aside0 (repeatL p k t 123 = .error (150, st)) := ⟨by rw [HL.out, HC.out, HCE.out]; unfold countE; rw [hp, thenF_ok, if_pos (.inr (.inl g1)), HT.out]; rfl⟩
                have d1 : decide (a < 0) = false := decide_eq_false (by omega)
                have d2 : decide (100 < a) = true := decide_eq_true (by omega)
                clear hp
                go_wp2_with fail
                refine (sPeek (HS14.out _ rfl)).mono ?_
                intro e w21 hr
                rw [HP.out] at hr
                obtain ⟨rfl, hS⟩ := hr
                have HS21 := Aside0.mk hS
                clear hS
                have ca := HS21.out.cell 2 (.int .i64 a) rfl
                have cb := HS21.out.cell 3 (.int .i64 b) rfl
                go_wp2
                go_quiet (fail)
                go_wp2_with fail
                refine (sFail (HS21.out.draw _) 150).mono ?_
                intro e w22 hr
                obtain ⟨rfl, hB⟩ := hr
                have HBE := Aside0.mk hB
                clear hB
                go_wp2
                rw [HLE.out]
                exact ⟨rfl, rfl, HBE.out⟩
              by_cases g2 : 100 < b
              · skip
                have HLE : Aside0 (repeatL p k t 123 = .error (150, st)) := ⟨by rw [HL.out, HC.out, HCE.out]; unfold countE; rw [hp, thenF_ok, if_pos (.inr (.inr (.inl g2))), HT.out]; rfl⟩
                have d1 : decide (a < 0) = false := decide_eq_false (by omega)
                have d2 : decide (100 < a) = false := decide_eq_false (by omega)
                have d3 : decide (100 < b) = true := decide_eq_true (by omega)
                clear hp
                go_wp2_with fail
                refine (sPeek (HS14.out _ rfl)).mono ?_
                intro e w21 hr
                rw [HP.out] at hr
                obtain ⟨rfl, hS⟩ := hr
                have HS21 := Aside0.mk hS
                clear hS
                have ca := HS21.out.cell 2 (.int .i64 a) rfl
                have cb := HS21.out.cell 3 (.int .i64 b) rfl
                go_wp2
                go_quiet (fail)
                go_wp2_with fail
                refine (sFail (HS21.out.draw _) 150).mono ?_
                intro e w22 hr
                obtain ⟨rfl, hB⟩ := hr
                have HBE := Aside0.mk hB
                clear hB
                go_wp2
                rw [HLE.out]
                exact ⟨rfl, rfl, HBE.out⟩
              by_cases g3 : 0 ≤ b
              · by_cases g4 : b < a
                · skip
                  have HLE : Aside0 (repeatL p k t 123 = .error (150, st)) := ⟨by rw [HL.out, HC.out, HCE.out]; unfold countE; rw [hp, thenF_ok, if_pos (.inr (.inr (.inr ⟨g3, g4⟩))), HT.out]; rfl⟩
                  have d1 : decide (a < 0) = false := decide_eq_false (by omega)
                  have d2 : decide (100 < a) = false := decide_eq_false (by omega)
                  have d3 : decide (100 < b) = false := decide_eq_false (by omega)
                  have d4 : decide (0 ≤ b) = true := decide_eq_true (by omega)
                  have d5 : decide (b < a) = true := decide_eq_true (by omega)
                  clear hp
                  go_wp2_with fail
                  refine (sPeek (HS14.out _ rfl)).mono ?_
                  intro e w21 hr
                  rw [HP.out] at hr
                  obtain ⟨rfl, hS⟩ := hr
                  have HS21 := Aside0.mk hS
                  clear hS
                  have ca := HS21.out.cell 2 (.int .i64 a) rfl
                  have cb := HS21.out.cell 3 (.int .i64 b) rfl
                  go_wp2
                  go_quiet (fail)
                  go_wp2_with fail
                  refine (sFail (HS21.out.draw _) 150).mono ?_
                  intro e w22 hr
                  obtain ⟨rfl, hB⟩ := hr
                  have HBE := Aside0.mk hB
                  clear hB
                  go_wp2
                  rw [HLE.out]
                  exact ⟨rfl, rfl, HBE.out⟩
                · skip
                  have d1 : decide (a < 0) = false := decide_eq_false (by omega)
                  have d2 : decide (100 < a) = false := decide_eq_false (by omega)
                  have d3 : decide (100 < b) = false := decide_eq_false (by omega)
                  have d4 : decide (0 ≤ b) = true := decide_eq_true (by omega)
                  have d5 : decide (b < a) = false := decide_eq_false (by omega)
                  have HCN : Aside0 (countE p t a b k2 = thenF (needL p st k2 125 150) fun k' => .ok ({ t with kind := 6, a := a, b := b }, k')) := ⟨by unfold countE; rw [hp, thenF_ok, if_neg (by omega), HT.out]⟩
                  clear hp
                  cases hq : needL p st k2 125 150 with
                  | error x =>
                    have HQ := Aside0.mk hq
                    have HLE : Aside0 (repeatL p k t 123 = .error x) := ⟨by rw [HL.out, HC.out, HCE.out, HCN.out, hq]; rfl⟩
                    clear hq
                    go_wp2_with fail
                    refine (sPeek (HS14.out _ rfl)).mono ?_
                    intro e w21 hr
                    rw [HP.out] at hr
                    obtain ⟨rfl, hS⟩ := hr
                    have HS21 := Aside0.mk hS
                    clear hS
                    have ca := HS21.out.cell 2 (.int .i64 a) rfl
                    have cb := HS21.out.cell 3 (.int .i64 b) rfl
                    go_wp2
                    go_quiet (fail)
                    go_wp2_with fail
                    refine (sNeed (HS21.out.draw _) 125 150).mono ?_
                    intro e w22 hr
                    rw [HQ.out] at hr
                    obtain ⟨rfl, hB⟩ := hr
                    have HBE := Aside0.mk hB
                    clear hB
                    go_wp2
                    rw [HLE.out]
                    exact ⟨rfl, rfl, HBE.out⟩
                  | ok k3 =>
                    have HQ := Aside0.mk hq
                    have HCO : Aside0 (countL p k t 123 = .ok ({ t with kind := 6, a := a, b := b }, k3)) := ⟨by rw [HC.out, HCE.out, HCN.out, hq]; rfl⟩
                    clear hq
                    go_wp2_with fail
                    refine (sPeek (HS14.out _ rfl)).mono ?_
                    intro e w21 hr
                    rw [HP.out] at hr
                    obtain ⟨rfl, hS⟩ := hr
                    have HS21 := Aside0.mk hS
                    clear hS
                    have ca := HS21.out.cell 2 (.int .i64 a) rfl
                    have cb := HS21.out.cell 3 (.int .i64 b) rfl
                    go_wp2
                    go_quiet (fail)
                    go_wp2_with fail
                    refine (sNeed (HS21.out.draw _) 125 150).mono ?_
                    intro e w22 hr
                    rw [HQ.out] at hr
                    obtain ⟨rfl, hS⟩ := hr
                    have HS22 := Aside0.mk hS
                    clear hS
                    go_wp2_with fail
                    go_meet
                    case rel => exact ⟨_, k3, ⟨rfl⟩, HCO, ⟨HS22.out⟩⟩
              · skip
                have d1 : decide (a < 0) = false := decide_eq_false (by omega)
                have d2 : decide (100 < a) = false := decide_eq_false (by omega)
                have d3 : decide (100 < b) = false := decide_eq_false (by omega)
                have d4 : decide (0 ≤ b) = false := decide_eq_false (by omega)
                have HCN : Aside0 (countE p t a b k2 = thenF (needL p st k2 125 150) fun k' => .ok ({ t with kind := 6, a := a, b := b }, k')) := ⟨by unfold countE; rw [hp, thenF_ok, if_neg (by omega), HT.out]⟩
                clear hp
                cases hq : needL p st k2 125 150 with
                | error x =>
                  have HQ := Aside0.mk hq
                  have HLE : Aside0 (repeatL p k t 123 = .error x) := ⟨by rw [HL.out, HC.out, HCE.out, HCN.out, hq]; rfl⟩
                  clear hq
                  go_wp2_with fail
                  refine (sPeek (HS14.out _ rfl)).mono ?_
                  intro e w21 hr
                  rw [HP.out] at hr
                  obtain ⟨rfl, hS⟩ := hr
                  have HS21 := Aside0.mk hS
                  clear hS
                  have ca := HS21.out.cell 2 (.int .i64 a) rfl
                  have cb := HS21.out.cell 3 (.int .i64 b) rfl
                  go_wp2
                  go_quiet (fail)
                  go_wp2_with fail
                  refine (sNeed (HS21.out.draw _) 125 150).mono ?_
                  intro e w22 hr
                  rw [HQ.out] at hr
                  obtain ⟨rfl, hB⟩ := hr
                  have HBE := Aside0.mk hB
                  clear hB
                  go_wp2
                  rw [HLE.out]
                  exact ⟨rfl, rfl, HBE.out⟩
                | ok k3 =>
                  have HQ := Aside0.mk hq
                  have HCO : Aside0 (countL p k t 123 = .ok ({ t with kind := 6, a := a, b := b }, k3)) := ⟨by rw [HC.out, HCE.out, HCN.out, hq]; rfl⟩
                  clear hq
                  go_wp2_with fail
                  refine (sPeek (HS14.out _ rfl)).mono ?_
                  intro e w21 hr
                  rw [HP.out] at hr
                  obtain ⟨rfl, hS⟩ := hr
                  have HS21 := Aside0.mk hS
                  clear hS
                  have ca := HS21.out.cell 2 (.int .i64 a) rfl
                  have cb := HS21.out.cell 3 (.int .i64 b) rfl
                  go_wp2
                  go_quiet (fail)
                  go_wp2_with fail
                  refine (sNeed (HS21.out.draw _) 125 150).mono ?_
                  intro e w22 hr
                  rw [HQ.out] at hr
                  obtain ⟨rfl, hS⟩ := hr
                  have HS22 := Aside0.mk hS
                  clear hS
                  go_wp2_with fail
                  go_meet
                  case rel => exact ⟨_, k3, ⟨rfl⟩, HCO, ⟨HS22.out⟩⟩
          | false =>
            have da : decide (0 ≤ a) = true := decide_eq_true (by omega)
            have hcs : countS p a k1 = (a, k1) := by unfold countS; rw [if_neg (by rw [hcm]; exact fun hh => absurd hh.2 (by decide))]
            have he : eatL p k1 [44] = k1 := by unfold eatL; rw [hcm]; rfl
            have HCM := Aside0.mk hcm
            have HE := Aside0.mk he
            have HCE : Aside0 (countsL p k t = countE p t a a k1) := ⟨by rw [HCN0.out, hcs]⟩
            clear hcs hcm he
            go_wp2_with fail
            refine (HNU.out _ ((HS0.out.setT 0 _ { t with kind := 6 } rfl).setT 3 _ { t with kind := 6, b := -1 } rfl)).mono ?_
            intro e w10 hr
            obtain ⟨rfl, hS⟩ := hr
            have HS10 := Aside0.mk hS
            have ga := hS.free 2
            have gb := hS.free 3
            have gc := hS.cell 2 _ rfl
            have gd := hS.cell 3 _ rfl
            have HS11 : Aside0 (∀ W, W = (w10.setCell ⟨h, 2, none⟩ (.int .i64 a)).setCell ⟨h, 3, none⟩ (.int .i64 a) → St W0 m base g h A c p st ne { t with kind := 6, a := a, b := a } k1 W) := ⟨fun W hW => by rw [hW]; exact (hS.setT 2 _ { t with kind := 6, a := a, b := -1 } rfl).setT 3 _ { t with kind := 6, a := a, b := a } rfl⟩
            clear hS
            go_wp2_with fail
            refine (sEatS (HS11.out _ rfl) [44] ⟨#[44]⟩ rfl (by decide) (by decide)).mono ?_
            intro e w12 hr
            rw [HCM.out, HE.out] at hr
            obtain ⟨rfl, hS⟩ := hr
            have HS12 := Aside0.mk hS
            clear hS
            cases hp : peekL p k1 with
            | error x =>
              have HP := Aside0.mk hp
              have HLE : Aside0 (repeatL p k t 123 = .error x) := ⟨by rw [HL.out, HC.out, HCE.out]; unfold countE; rw [hp]; rfl⟩
              clear hp
              go_wp2_with fail
              refine (sPeek HS12.out).mono ?_
              intro e w21 hr
              rw [HP.out] at hr
              obtain ⟨rfl, hB⟩ := hr
              have HBE := Aside0.mk hB
              clear hB
              go_wp2
              rw [HLE.out]
              exact ⟨rfl, rfl, HBE.out⟩
            | ok d =>
              have HP := Aside0.mk hp
              by_cases g1 : 100 < a
              · skip
                have HLE : Aside0 (repeatL p k t 123 = .error (150, st)) := ⟨by rw [HL.out, HC.out, HCE.out]; unfold countE; rw [hp, thenF_ok, if_pos (.inr (.inl g1)), HT.out]; rfl⟩
                have d1 : decide (a < 0) = false := decide_eq_false (by omega)
                have d2 : decide (100 < a) = true := decide_eq_true (by omega)
                clear hp
                go_wp2_with fail
                refine (sPeek HS12.out).mono ?_
                intro e w21 hr
                rw [HP.out] at hr
                obtain ⟨rfl, hS⟩ := hr
                have HS21 := Aside0.mk hS
                clear hS
                have ca := HS21.out.cell 2 (.int .i64 a) rfl
                have cb := HS21.out.cell 3 (.int .i64 a) rfl
                go_wp2
                go_quiet (fail)
                go_wp2_with fail
                refine (sFail (HS21.out.draw _) 150).mono ?_
                intro e w22 hr
                obtain ⟨rfl, hB⟩ := hr
                have HBE := Aside0.mk hB
                clear hB
                go_wp2
                rw [HLE.out]
                exact ⟨rfl, rfl, HBE.out⟩
              · skip
                have d1 : decide (a < 0) = false := decide_eq_false (by omega)
                have d2 : decide (100 < a) = false := decide_eq_false (by omega)
                have d4 : decide (0 ≤ a) = true := decide_eq_true (by omega)
                have HCN : Aside0 (countE p t a a k1 = thenF (needL p st k1 125 150) fun k' => .ok ({ t with kind := 6, a := a, b := a }, k')) := ⟨by unfold countE; rw [hp, thenF_ok, if_neg (by omega), HT.out]⟩
                clear hp
                cases hq : needL p st k1 125 150 with
                | error x =>
                  have HQ := Aside0.mk hq
                  have HLE : Aside0 (repeatL p k t 123 = .error x) := ⟨by rw [HL.out, HC.out, HCE.out, HCN.out, hq]; rfl⟩
                  clear hq
                  go_wp2_with fail
                  refine (sPeek HS12.out).mono ?_
                  intro e w21 hr
                  rw [HP.out] at hr
                  obtain ⟨rfl, hS⟩ := hr
                  have HS21 := Aside0.mk hS
                  clear hS
                  have ca := HS21.out.cell 2 (.int .i64 a) rfl
                  have cb := HS21.out.cell 3 (.int .i64 a) rfl
                  go_wp2
                  go_quiet (fail)
                  go_wp2_with fail
                  refine (sNeed (HS21.out.draw _) 125 150).mono ?_
                  intro e w22 hr
                  rw [HQ.out] at hr
                  obtain ⟨rfl, hB⟩ := hr
                  have HBE := Aside0.mk hB
                  clear hB
                  go_wp2
                  rw [HLE.out]
                  exact ⟨rfl, rfl, HBE.out⟩
                | ok k3 =>
                  have HQ := Aside0.mk hq
                  have HCO : Aside0 (countL p k t 123 = .ok ({ t with kind := 6, a := a, b := a }, k3)) := ⟨by rw [HC.out, HCE.out, HCN.out, hq]; rfl⟩
                  clear hq
                  go_wp2_with fail
                  refine (sPeek HS12.out).mono ?_
                  intro e w21 hr
                  rw [HP.out] at hr
                  obtain ⟨rfl, hS⟩ := hr
                  have HS21 := Aside0.mk hS
                  clear hS
                  have ca := HS21.out.cell 2 (.int .i64 a) rfl
                  have cb := HS21.out.cell 3 (.int .i64 a) rfl
                  go_wp2
                  go_quiet (fail)
                  go_wp2_with fail
                  refine (sNeed (HS21.out.draw _) 125 150).mono ?_
                  intro e w22 hr
                  rw [HQ.out] at hr
                  obtain ⟨rfl, hS⟩ := hr
                  have HS22 := Aside0.mk hS
                  clear hS
                  go_wp2_with fail
                  go_meet
                  case rel => exact ⟨_, k3, ⟨rfl⟩, HCO, ⟨HS22.out⟩⟩
        · have HC : Aside0 (countL p k t ch = .ok ({ t with kind := 6, b := -1 }, k)) := ⟨by unfold countL; rw [if_neg h1, if_neg h2, if_neg h3]⟩
          have e1 : (ch == 43) = false := by rw [beq_eq_false_iff_ne]; exact h1
          have e2 : (ch == 63) = false := by rw [beq_eq_false_iff_ne]; exact h2
          have e3 : (ch == 123) = false := by rw [beq_eq_false_iff_ne]; exact h3
          have e4 : (43 == ch) = false := by rw [beq_eq_false_iff_ne]; exact fun e => h1 e.symm
          have e5 : (63 == ch) = false := by rw [beq_eq_false_iff_ne]; exact fun e => h2 e.symm
          have e6 : (123 == ch) = false := by rw [beq_eq_false_iff_ne]; exact fun e => h3 e.symm
          clear h1 h2 h3
          go_wp2_with fail
          go_meet
          case rel => exact ⟨_, k, ⟨rfl⟩, HC, ⟨(HS0.out.setT 0 _ { t with kind := 6 } rfl).setT 3 _ { t with kind := 6, b := -1 } rfl⟩⟩
  case rest =>
    obtain ⟨t1, k1, HV, HC, HS⟩ := hcut
    rw [HC.out, thenF_ok] at HL
    have HM : Aside0 (modeL p k1 t1 = if hasL p k1 [63] = true then ({ t1 with mode := 1 }, k1 + 1) else if hasL p k1 [43] = true then ({ t1 with mode := 2 }, k1 + 1) else (t1, k1)) := ⟨rfl⟩
    have e1 : hasL p k1 [63] = true → eatL p k1 [63] = k1 + 1 := fun hh => by unfold eatL; rw [hh]; rfl
    have e2 : hasL p k1 [63] = false → eatL p k1 [63] = k1 := fun hh => by unfold eatL; rw [hh]; rfl
    have e3 : hasL p k1 [43] = true → eatL p k1 [43] = k1 + 1 := fun hh => by unfold eatL; rw [hh]; rfl
    have e4 : hasL p k1 [43] = false → eatL p k1 [43] = k1 := fun hh => by unfold eatL; rw [hh]; rfl
    cases hh : hasL p k1 [63] with
    | true =>
      have HH := Aside0.mk hh
      have HE := Aside0.mk (e1 hh)
      rw [hh, if_pos rfl] at HM
      clear hh e1 e2 e3 e4 fr0 fc0 fr3 fc3
      go_wp2_with fail
      refine (sEatS HS.out [63] ⟨#[63]⟩ rfl (by decide) (by decide)).mono ?_
      intro e w1 hr
      rw [HH.out, HE.out] at hr
      obtain ⟨rfl, hS⟩ := hr
      have HS1 := Aside0.mk hS
      have fr1 := hS.free 1
      have fc1 := hS.cell 1 _ rfl
      clear hS
      go_wp2
      go_end0
      rw [HL.out, HM.out]
      exact ⟨rfl, HS1.out.setT 1 _ { t1 with mode := 1 } rfl⟩
    | false =>
      have HH := Aside0.mk hh
      have HE := Aside0.mk (e2 hh)
      rw [hh, if_neg (by decide)] at HM
      cases hh2 : hasL p k1 [43] with
      | true =>
        have HH2 := Aside0.mk hh2
        have HE2 := Aside0.mk (e3 hh2)
        rw [hh2, if_pos rfl] at HM
        clear hh hh2 e1 e2 e3 e4 fr0 fc0 fr3 fc3
        go_wp2_with fail
        refine (sEatS HS.out [63] ⟨#[63]⟩ rfl (by decide) (by decide)).mono ?_
        intro e w1 hr
        rw [HH.out, HE.out] at hr
        obtain ⟨rfl, hS⟩ := hr
        have HS1 := Aside0.mk hS
        clear hS
        go_wp2_with fail
        refine (sEatS HS1.out [43] ⟨#[43]⟩ rfl (by decide) (by decide)).mono ?_
        intro e w2 hr
        rw [HH2.out, HE2.out] at hr
        obtain ⟨rfl, hS⟩ := hr
        have HS2 := Aside0.mk hS
        have fr1 := hS.free 1
        have fc1 := hS.cell 1 _ rfl
        clear hS
        go_wp2
        go_end0
        rw [HL.out, HM.out]
        exact ⟨rfl, HS2.out.setT 1 _ { t1 with mode := 2 } rfl⟩
      | false =>
        have HH2 := Aside0.mk hh2
        have HE2 := Aside0.mk (e4 hh2)
        rw [hh2, if_neg (by decide)] at HM
        clear hh hh2 e1 e2 e3 e4 fr0 fc0 fr3 fc3
        go_wp2_with fail
        refine (sEatS HS.out [63] ⟨#[63]⟩ rfl (by decide) (by decide)).mono ?_
        intro e w1 hr
        rw [HH.out, HE.out] at hr
        obtain ⟨rfl, hS⟩ := hr
        have HS1 := Aside0.mk hS
        clear hS
        go_wp2_with fail
        refine (sEatS HS1.out [43] ⟨#[43]⟩ rfl (by decide) (by decide)).mono ?_
        intro e w2 hr
        rw [HH2.out, HE2.out] at hr
        obtain ⟨rfl, hS⟩ := hr
        have HS2 := Aside0.mk hS
        clear hS
        go_wp2
        go_end0
        rw [HL.out, HM.out]
        exact ⟨rfl, HS2.out⟩
end

end Go.Proofs.YtkipjalfgdfaiaaGreatDoor
