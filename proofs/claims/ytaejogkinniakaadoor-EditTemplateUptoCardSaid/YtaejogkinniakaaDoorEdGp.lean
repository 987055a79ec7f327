/- Matches read one behind the other: what is known of the first ones. Pure: no program. -/
import Derived.Test.YtaejogkinniakaaDoorEdG
namespace Go.Proofs.YtaejogkinniakaaDoor
set_option linter.unusedVariables false
set_option linter.unusedSimpArgs false

/-- One match more: the end of its first span, if it may be. -/
def stepM (n last : Int) : List Sp → Option Int
  | [] => none
  | s :: t => if fitsS n s ∧ last ≤ s.1 ∧ ∀ x ∈ t, x = noneS ∨ fitsS n x then some s.2 else none
def runM (n : Int) : Int → List (List Sp) → Option Int
  | last, [] => some last
  | last, f :: r => (stepM n last f).bind fun e => runM n e r
theorem runM_snoc (n : Int) (f : List Sp) : ∀ (last : Int) (l : List (List Sp)), runM n last (l ++ [f]) = (runM n last l).bind fun e => stepM n e f
  | last, [] => by
    show (stepM n last f).bind (fun e => some e) = stepM n last f
    cases stepM n last f <;> rfl
  | last, g :: r => by
    show (stepM n last g).bind (fun e => runM n e (r ++ [f])) = ((stepM n last g).bind fun e => runM n e r).bind fun e => stepM n e f
    cases stepM n last g with
    | none => rfl
    | some e => exact runM_snoc n f e r
theorem runM_append (n : Int) (m : List (List Sp)) : ∀ (last : Int) (l : List (List Sp)), runM n last (l ++ m) = (runM n last l).bind fun e => runM n e m
  | last, [] => rfl
  | last, g :: r => by
    show (stepM n last g).bind (fun e => runM n e (r ++ m)) = ((stepM n last g).bind fun e => runM n e r).bind fun e => runM n e m
    cases stepM n last g with
    | none => rfl
    | some e => exact runM_append n m e r
theorem may_run (n : Int) : ∀ (last : Int) (l : List (List Sp)), mayL n last l ↔ (runM n last l).isSome = true
  | last, [] => by simp [mayL, runM]
  | last, [] :: r => by simp [mayL, runM, stepM]
  | last, (s :: t) :: r => by
    show _ ∧ mayL n s.2 r ↔ _
    show _ ↔ (((if fitsS n s ∧ last ≤ s.1 ∧ ∀ x ∈ t, x = noneS ∨ fitsS n x then some s.2 else none).bind fun e => runM n e r).isSome = true)
    by_cases h : fitsS n s ∧ last ≤ s.1 ∧ ∀ x ∈ t, x = noneS ∨ fitsS n x
    · rw [if_pos h]
      show _ ↔ (runM n s.2 r).isSome = true
      rw [may_run n s.2 r]
      exact ⟨fun h2 => h2.2, fun h2 => ⟨h, h2⟩⟩
    · rw [if_neg h]
      exact ⟨fun h2 => absurd h2.1 h, fun h2 => by simp at h2⟩
/-- Where a match may not be, the matches may not. -/
theorem may_not {n last : Int} {l : List (List Sp)} {k : Nat} {e : Int} (hk : k < l.length) (hr : runM n last (l.take k) = some e) (hs : stepM n e l[k] = none) : ¬ mayL n last l := by
  rw [may_run]
  have e1 : l = l.take k ++ ([l[k]] ++ l.drop (k + 1)) := by
    rw [List.singleton_append, ← List.drop_eq_getElem_cons hk, List.take_append_drop]
  rw [e1, runM_append, hr]
  show ¬ (((stepM n e l[k]).bind fun e => runM n e (l.drop (k + 1))).isSome = true)
  rw [hs]
  simp
theorem run_one {n last : Int} {l : List (List Sp)} {k : Nat} {e e' : Int} (hk : k < l.length) (hr : runM n last (l.take k) = some e) (hs : stepM n e l[k] = some e') : runM n last (l.take (k + 1)) = some e' := by
  rw [List.take_succ_eq_append_getElem hk, runM_snoc, hr]
  exact hs
theorem stepM_bound {n last e : Int} {f : List Sp} (h : stepM n last f = some e) : 0 ≤ e ∧ e ≤ n := by
  cases f with
  | nil => cases h
  | cons s t =>
    by_cases h2 : fitsS n s ∧ last ≤ s.1 ∧ ∀ x ∈ t, x = noneS ∨ fitsS n x
    · have e1 : stepM n last (s :: t) = some s.2 := if_pos h2
      rw [e1] at h
      cases h
      obtain ⟨⟨a, b, c⟩, _⟩ := h2
      exact ⟨by omega, c⟩
    · have e1 : stepM n last (s :: t) = none := if_neg h2
      rw [e1] at h
      cases h
theorem runM_bound {n : Int} : ∀ {last : Int} {l : List (List Sp)} {e : Int}, runM n last l = some e → 0 ≤ last → last ≤ n → 0 ≤ e ∧ e ≤ n
  | last, [], e, h, h0, h1 => by
    cases h
    exact ⟨h0, h1⟩
  | last, f :: r, e, h, h0, h1 => by
    have h' : (stepM n last f).bind (fun e => runM n e r) = some e := h
    cases hs : stepM n last f with
    | none => rw [hs] at h'; cases h'
    | some e1 =>
      rw [hs] at h'
      obtain ⟨a, b⟩ := stepM_bound hs
      exact runM_bound (l := r) h' a b
/-- What stands ahead of each of these first spans. -/
def preG (b : List Int) : Int → List (List Sp) → List (List Int)
  | last, [] => []
  | last, f :: r => ((b.take (f.headD noneS).1.toNat).drop last.toNat) :: preG b (f.headD noneS).2 r
def endOf : Int → List (List Sp) → Int
  | last, [] => last
  | _, f :: r => endOf (f.headD noneS).2 r
theorem preG_len (b : List Int) : ∀ (last : Int) (l : List (List Sp)), (preG b last l).length = l.length
  | _, [] => rfl
  | last, f :: r => by
    show (preG b _ r).length + 1 = r.length + 1
    rw [preG_len b _ r]
theorem preG_snoc (b : List Int) (f : List Sp) : ∀ (last : Int) (l : List (List Sp)), preG b last (l ++ [f]) = preG b last l ++ [(b.take (f.headD noneS).1.toNat).drop (endOf last l).toNat]
  | last, [] => rfl
  | last, g :: r => by
    show _ :: preG b _ (r ++ [f]) = _ :: (preG b _ r ++ _)
    rw [preG_snoc b f _ r]
    rfl
theorem gaps_pre (b : List Int) : ∀ (last : Int) (l : List (List Sp)), gapsL b last l = preG b last l ++ [b.drop (endOf last l).toNat]
  | last, [] => rfl
  | last, g :: r => by
    show _ :: gapsL b _ r = _ :: (preG b _ r ++ _)
    rw [gaps_pre b _ r]
    rfl
theorem run_end {n : Int} : ∀ {last : Int} {l : List (List Sp)} {e : Int}, runM n last l = some e → endOf last l = e
  | last, [], e, h => by
    cases h
    rfl
  | last, f :: r, e, h => by
    have h' : (stepM n last f).bind (fun e => runM n e r) = some e := h
    cases f with
    | nil => cases h'
    | cons s t =>
      by_cases h2 : fitsS n s ∧ last ≤ s.1 ∧ ∀ x ∈ t, x = noneS ∨ fitsS n x
      · have e1 : stepM n last (s :: t) = some s.2 := if_pos h2
        rw [e1] at h'
        exact run_end (n := n) (last := s.2) (l := r) h'
      · have e1 : stepM n last (s :: t) = none := if_neg h2
        rw [e1] at h'
        cases h'
theorem step_take (b : List Int) {n e : Int} {l : List (List Sp)} {k : Nat} {s : Sp} {t : List Sp} (hk : k < l.length) (hf : l[k] = s :: t) (hr : runM n 0 (l.take k) = some e) :
    preG b 0 (l.take (k + 1)) = preG b 0 (l.take k) ++ [(b.take s.1.toNat).drop e.toNat] := by
  rw [List.take_succ_eq_append_getElem hk, preG_snoc, run_end hr, hf]
  rfl

end Go.Proofs.YtaejogkinniakaaDoor
