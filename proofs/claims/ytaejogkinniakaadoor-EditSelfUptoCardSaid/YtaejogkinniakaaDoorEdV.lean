/- Parts, with spans' bytes between them. Pure: no program. -/
import Derived.Test.YtaejogkinniakaaDoorEdGp
namespace Go.Proofs.YtaejogkinniakaaDoor
set_option linter.unusedVariables false
set_option linter.unusedSimpArgs false

/-- What stands behind the first part. -/
def tailJ : List (List Int) → List (List Int) → List Int
  | g :: gs, m :: ms => m ++ g ++ tailJ gs ms
  | _, _ => []
theorem joinL_tail : ∀ (ms gs : List (List Int)) (g : List Int), gs.length = ms.length → joinL (g :: gs) ms = g ++ tailJ gs ms
  | [], gs, g, h => by
    have : gs = [] := List.length_eq_zero_iff.1 h
    subst this
    show g = g ++ []
    rw [List.append_nil]
  | m :: ms, [], g, h => by simp at h
  | m :: ms, g' :: gs, g, h => by
    have ih := joinL_tail ms gs g' (by simpa using h)
    show g ++ m ++ joinL (g' :: gs) ms = g ++ (m ++ g' ++ tailJ gs ms)
    rw [ih]
    simp only [List.append_assoc]
theorem may_fits {n : Int} : ∀ {last : Int} {l : List (List Sp)}, mayL n last l → ∀ s t, (s :: t) ∈ l → fitsS n s
  | _, [], _, s, t, h => by cases h
  | _, [] :: _, hm, _, _, _ => hm.elim
  | last, (s :: t) :: r, hm, s', t', h => by
    rcases List.mem_cons.1 h with h2 | h2
    · cases h2
      exact hm.1.1
    · exact may_fits (l := r) hm.2 s' t' h2
/-- The bytes, out of what stands between spans. -/
theorem tail_start {b : List Int} {L : List (List Sp)} (h : mayL b.length 0 L) : ∃ g gs, gapsL b 0 L = g :: gs ∧ g ++ tailJ gs (L.map (spanL b)) = b := by
  have hj := gaps_join b 0 L (Int.le_refl 0) h
  have hl := gapsL_len b 0 L
  cases hg : gapsL b 0 L with
  | nil => rw [hg] at hl; simp at hl
  | cons g gs =>
    rw [hg] at hj hl
    refine ⟨g, gs, rfl, ?_⟩
    rw [← joinL_tail _ _ _ (by rw [List.length_map]; simpa using hl), hj]
    rfl
theorem tail_step {G M : List (List Int)} {k : Nat} (hk : k < M.length) (hg : k + 1 < G.length) : tailJ (G.drop (k + 1)) (M.drop k) = M[k] ++ G[k + 1] ++ tailJ (G.drop (k + 1 + 1)) (M.drop (k + 1)) := by
  rw [List.drop_eq_getElem_cons hk, List.drop_eq_getElem_cons hg]
  rfl
theorem tail_end {G M : List (List Int)} {k : Nat} (hk : M.length ≤ k) : tailJ (G.drop (k + 1)) (M.drop k) = [] := by
  rw [List.drop_of_length_le hk]
  cases G.drop (k + 1) <;> rfl

end Go.Proofs.YtaejogkinniakaaDoor
