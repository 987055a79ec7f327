/- Sizes of what is read. Pure: no program. -/
import Derived.Test.YtooehjbbphokbaaDoorLnR
namespace Go.Proofs.YtooehjbbphokbaaDoor
set_option linter.unusedVariables false
set_option linter.unusedSimpArgs false

theorem recB_f2 {f : List ByteArray} {q : Rc} (h : recB f = some q) : q.f2.length ≤ f.length := by
  by_cases h2 : f.length < 2
  · rw [recB_short h2] at h
    cases h
  · rw [recB_long (by omega)] at h
    split at h
    · cases h
      simp
    · cases h
theorem linesB_len : ∀ (ps : List ByteArray) (i : Nat) (out : List Rc), (linesB ps i out).1.length ≤ out.length + ps.length
  | [], i, out => Nat.le_refl _
  | x :: r, i, out => by
    by_cases h : fieldsB x = []
    · rw [linesB_skip h]
      have := linesB_len r (i + 1) out
      simp only [List.length_cons]
      omega
    · cases hr : recB (fieldsB x) with
      | none =>
        rw [linesB_bad h hr]
        simp
      | some q =>
        rw [linesB_good h hr]
        have := linesB_len r (i + 1) (out ++ [q])
        simp only [List.length_append, List.length_cons, List.length_nil] at this ⊢
        omega
theorem linesB_f2 (N : Nat) : ∀ (ps : List ByteArray) (i : Nat) (out : List Rc), (∀ x ∈ ps, (fieldsB x).length ≤ N) → (∀ q ∈ out, q.f2.length ≤ N) → ∀ q ∈ (linesB ps i out).1, q.f2.length ≤ N
  | [], i, out, _, ho => ho
  | x :: r, i, out, hp, ho => by
    have hp2 : ∀ y ∈ r, (fieldsB y).length ≤ N := fun y hy => hp y (List.mem_cons_of_mem _ hy)
    by_cases h : fieldsB x = []
    · rw [linesB_skip h]
      exact linesB_f2 N r (i + 1) out hp2 ho
    · cases hr : recB (fieldsB x) with
      | none =>
        rw [linesB_bad h hr]
        intro q hq
        cases hq
      | some q =>
        rw [linesB_good h hr]
        refine linesB_f2 N r (i + 1) (out ++ [q]) hp2 (fun y hy => ?_)
        rcases List.mem_append.1 hy with hy | hy
        · exact ho y hy
        · rw [List.mem_singleton.1 hy]
          exact Nat.le_trans (recB_f2 hr) (hp x List.mem_cons_self)
theorem fieldsB_cut {c : UInt8} {s x : ByteArray} (h : x ∈ cutB c s) : (fieldsB x).length ≤ s.size + 1 := Nat.le_trans (fieldsB_length x) (Nat.succ_le_succ (cutB_part h))
theorem parseB_len (s : ByteArray) : (parseB s).1.length ≤ s.size + 1 := by
  have h := linesB_len (cutB 10 s) 0 []
  have h2 := cutB_length 10 s
  simp only [List.length_nil, Nat.zero_add] at h
  exact Nat.le_trans h h2
theorem parseB_f2 (s : ByteArray) : ∀ q ∈ (parseB s).1, q.f2.length ≤ s.size + 1 :=
  linesB_f2 (s.size + 1) (cutB 10 s) 0 [] (fun x hx => fieldsB_cut hx) (fun q hq => by cases hq)
theorem rowsL_len : ∀ (ps : List ByteArray) (out : List (List ByteArray)), (rowsL ps out).length ≤ out.length + ps.length
  | [], out => Nat.le_refl _
  | x :: r, out => by
    by_cases h : fieldsB x = []
    · rw [rowsL_skip h]
      have := rowsL_len r out
      simp only [List.length_cons]
      omega
    · rw [rowsL_take h]
      have := rowsL_len r (out ++ [fieldsB x])
      simp only [List.length_append, List.length_cons, List.length_nil] at this ⊢
      omega
theorem rowsL_f (N : Nat) : ∀ (ps : List ByteArray) (out : List (List ByteArray)), (∀ x ∈ ps, (fieldsB x).length ≤ N) → (∀ q ∈ out, q.length ≤ N) → ∀ q ∈ rowsL ps out, q.length ≤ N
  | [], out, _, ho => ho
  | x :: r, out, hp, ho => by
    have hp2 : ∀ y ∈ r, (fieldsB y).length ≤ N := fun y hy => hp y (List.mem_cons_of_mem _ hy)
    by_cases h : fieldsB x = []
    · rw [rowsL_skip h]
      exact rowsL_f N r out hp2 ho
    · rw [rowsL_take h]
      refine rowsL_f N r (out ++ [fieldsB x]) hp2 (fun y hy => ?_)
      rcases List.mem_append.1 hy with hy | hy
      · exact ho y hy
      · rw [List.mem_singleton.1 hy]
        exact hp x List.mem_cons_self
theorem rowsB_len (s : ByteArray) : (rowsB s).length ≤ s.size + 1 := by
  have h := rowsL_len (cutB 10 s) []
  have h2 := cutB_length 10 s
  simp only [List.length_nil, Nat.zero_add] at h
  exact Nat.le_trans h h2
theorem rowsB_f (s : ByteArray) : ∀ q ∈ rowsB s, q.length ≤ s.size + 1 :=
  rowsL_f (s.size + 1) (cutB 10 s) [] (fun x hx => fieldsB_cut hx) (fun q hq => by cases hq)

end Go.Proofs.YtooehjbbphokbaaDoor
