/- Two texts with a byte between them: their lines, their records. Pure: no program. -/
import Derived.Test.YtooehjbbphokbaaDoorLnU
namespace Go.Proofs.YtooehjbbphokbaaDoor
set_option linter.unusedVariables false
set_option linter.unusedSimpArgs false

theorem cutL_app (c : UInt8) (r : List UInt8) : ∀ l : List UInt8, cutL c (l ++ c :: r) = cutL c l ++ cutL c r
  | [] => by
    have h : cutL c (c :: r) = [] :: cutL c r := by rw [cutL, if_pos rfl]
    exact h
  | b :: l => by
    have ih := cutL_app c r l
    show cutL c (b :: (l ++ c :: r)) = _
    by_cases h : b = c
    · rw [cutL, if_pos h, cutL, if_pos h, ih]
      rfl
    · rw [cutL, if_neg h, ih, cutL, if_neg h]
      cases hc : cutL c l with
      | nil => exact absurd hc (cutL_ne c l)
      | cons x t => rfl
theorem cutB_app (a b : ByteArray) : cutB 10 (a ++ ⟨#[10]⟩ ++ b) = cutB 10 a ++ cutB 10 b := by
  unfold cutB
  have h : (a ++ (⟨#[10]⟩ : ByteArray) ++ b).data.toList = a.data.toList ++ 10 :: b.data.toList := by
    simp [ByteArray.data_append]
  rw [h, cutL_app, List.map_append]
theorem linesB_err : ∀ (ps : List ByteArray) (i : Nat) (out : List Rc), (linesB ps i out).2.2 = 0 ∨ ((linesB ps i out).2.2 = 20 ∧ 0 < (linesB ps i out).2.1 ∧ (linesB ps i out).1 = [])
  | [], i, out => .inl rfl
  | x :: r, i, out => by
    by_cases h : fieldsB x = []
    · rw [linesB_skip h]
      exact linesB_err r (i + 1) out
    · cases hr : recB (fieldsB x) with
      | none =>
        rw [linesB_bad h hr]
        exact .inr ⟨rfl, by show (0 : Int) < (i : Int) + 1; omega, rfl⟩
      | some q =>
        rw [linesB_good h hr]
        exact linesB_err r (i + 1) (out ++ [q])
theorem linesB_app_bad : ∀ (ps qs : List ByteArray) (i : Nat) (out : List Rc), (linesB ps i out).2.2 ≠ 0 → linesB (ps ++ qs) i out = linesB ps i out
  | [], qs, i, out, h => absurd rfl h
  | x :: r, qs, i, out, h => by
    show linesB (x :: (r ++ qs)) i out = _
    by_cases h0 : fieldsB x = []
    · rw [linesB_skip h0] at h
      rw [linesB_skip h0, linesB_skip h0]
      exact linesB_app_bad r qs (i + 1) out h
    · cases hr : recB (fieldsB x) with
      | none => rw [linesB_bad h0 hr, linesB_bad h0 hr]
      | some q =>
        rw [linesB_good h0 hr] at h
        rw [linesB_good h0 hr, linesB_good h0 hr]
        exact linesB_app_bad r qs (i + 1) (out ++ [q]) h
theorem linesB_app_good : ∀ (ps qs : List ByteArray) (i : Nat) (out : List Rc), (linesB ps i out).2.2 = 0 → linesB (ps ++ qs) i out = linesB qs (i + ps.length) (linesB ps i out).1
  | [], qs, i, out, _ => rfl
  | x :: r, qs, i, out, h => by
    show linesB (x :: (r ++ qs)) i out = _
    have hl : i + (x :: r).length = i + 1 + r.length := by simp only [List.length_cons]; omega
    rw [hl]
    by_cases h0 : fieldsB x = []
    · rw [linesB_skip h0] at h
      rw [linesB_skip h0, linesB_skip h0]
      exact linesB_app_good r qs (i + 1) out h
    · cases hr : recB (fieldsB x) with
      | none =>
        rw [linesB_bad h0 hr] at h
        exact absurd h (show ¬ (20 : Int) = 0 by decide)
      | some q =>
        rw [linesB_good h0 hr] at h
        rw [linesB_good h0 hr, linesB_good h0 hr]
        exact linesB_app_good r qs (i + 1) (out ++ [q]) h
theorem linesB_shift : ∀ (ps : List ByteArray) (i j : Nat) (o o' : List Rc), (linesB ps j o').2.2 = 0 → linesB ps i (o ++ o') = (o ++ (linesB ps j o').1, 0, 0)
  | [], i, j, o, o', _ => rfl
  | x :: r, i, j, o, o', h => by
    by_cases h0 : fieldsB x = []
    · rw [linesB_skip h0] at h
      rw [linesB_skip h0, linesB_skip h0]
      exact linesB_shift r (i + 1) (j + 1) o o' h
    · cases hr : recB (fieldsB x) with
      | none =>
        rw [linesB_bad h0 hr] at h
        exact absurd h (show ¬ (20 : Int) = 0 by decide)
      | some q =>
        rw [linesB_good h0 hr] at h
        rw [linesB_good h0 hr, linesB_good h0 hr, List.append_assoc]
        exact linesB_shift r (i + 1) (j + 1) o (o' ++ [q]) h
theorem linesB_shift_bad : ∀ (ps : List ByteArray) (i j : Nat) (o o' : List Rc), (linesB ps j o').2.2 ≠ 0 → (linesB ps i o).2.2 ≠ 0
  | [], i, j, o, o', h => absurd rfl h
  | x :: r, i, j, o, o', h => by
    by_cases h0 : fieldsB x = []
    · rw [linesB_skip h0] at h
      rw [linesB_skip h0]
      exact linesB_shift_bad r (i + 1) (j + 1) o o' h
    · cases hr : recB (fieldsB x) with
      | none =>
        rw [linesB_bad h0 hr]
        exact show ¬ (20 : Int) = 0 by decide
      | some q =>
        rw [linesB_good h0 hr] at h
        rw [linesB_good h0 hr]
        exact linesB_shift_bad r (i + 1) (j + 1) (o ++ [q]) (o' ++ [q]) h
/-- Two files, one behind the other. -/
theorem parseB_good (a b : ByteArray) (ha : (parseB a).2.2 = 0) (hb : (parseB b).2.2 = 0) : parseB (a ++ ⟨#[10]⟩ ++ b) = ((parseB a).1 ++ (parseB b).1, 0, 0) := by
  unfold parseB at ha hb ⊢
  rw [cutB_app, linesB_app_good _ _ _ _ ha]
  have h := linesB_shift (cutB 10 b) (0 + (cutB 10 a).length) 0 (linesB (cutB 10 a) 0 []).1 [] hb
  rw [List.append_nil] at h
  exact h
theorem parseB_bad (a b : ByteArray) (h : (parseB a).2.2 ≠ 0 ∨ (parseB b).2.2 ≠ 0) : ∃ at_ : Int, 0 < at_ ∧ parseB (a ++ ⟨#[10]⟩ ++ b) = ([], at_, 20) := by
  have hne : (parseB (a ++ ⟨#[10]⟩ ++ b)).2.2 ≠ 0 := by
    unfold parseB at h ⊢
    rw [cutB_app]
    by_cases ha : (linesB (cutB 10 a) 0 []).2.2 = 0
    · rw [linesB_app_good _ _ _ _ ha]
      exact linesB_shift_bad _ _ 0 _ [] (h.resolve_left (fun hn => hn ha))
    · rw [linesB_app_bad _ _ _ _ ha]
      exact ha
  rcases linesB_err (cutB 10 (a ++ ⟨#[10]⟩ ++ b)) 0 [] with h0 | ⟨h1, h2, h3⟩
  · exact absurd h0 hne
  · refine ⟨_, h2, ?_⟩
    show linesB _ 0 [] = _
    exact Prod.ext h3 (Prod.ext rfl h1)
theorem parseB_code (a : ByteArray) : (parseB a).2.2 = 0 ∨ (parseB a).2.2 = 20 := by
  rcases linesB_err (cutB 10 a) 0 [] with h | ⟨h, _⟩
  · exact .inl h
  · exact .inr h

end Go.Proofs.YtooehjbbphokbaaDoor
