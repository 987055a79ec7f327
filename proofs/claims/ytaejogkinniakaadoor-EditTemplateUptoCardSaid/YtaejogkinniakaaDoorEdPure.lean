/- What any parts come to, as a plain function. Pure: no program. -/
namespace Go.Proofs.YtaejogkinniakaaDoor
set_option linter.unusedVariables false
set_option linter.unusedSimpArgs false

/-- A part: a text, and a number (a group's, or less than nought: the text). -/
abbrev Pt := List Int × Int
abbrev Sp := Int × Int
/-- What a span cuts out. -/
def cutL (b : List Int) (s : Sp) : List Int := if 0 ≤ s.1 ∧ s.1 ≤ s.2 ∧ s.2 ≤ b.length then (b.take s.2.toNat).drop s.1.toNat else []
theorem cutL_len (b : List Int) (s : Sp) : (cutL b s).length ≤ b.length := by
  unfold cutL
  split
  · simp only [List.length_drop, List.length_take]; omega
  · simp
/-- What one part comes to. -/
def partL (b : List Int) (f : List Sp) (p : Pt) : List Int := if p.2 < 0 then p.1 else cutL b (f.getD p.2.toNat (-1, -1))
def expandL (b : List Int) (f : List Sp) (l : List Pt) : List Int := l.flatMap (partL b f)
theorem expandL_snoc (b : List Int) (f : List Sp) (l : List Pt) (p : Pt) : expandL b f (l ++ [p]) = expandL b f l ++ partL b f p := by
  unfold expandL
  simp [List.flatMap_append]
theorem partL_len (b : List Int) (f : List Sp) (p : Pt) {n : Nat} (hb : b.length ≤ n) (hp : p.1.length ≤ n) : (partL b f p).length ≤ n := by
  unfold partL
  split
  · exact hp
  · exact Nat.le_trans (cutL_len _ _) hb
theorem expandL_len (b : List Int) (f : List Sp) (l : List Pt) {n : Nat} (hb : b.length ≤ n) (hp : ∀ p ∈ l, p.1.length ≤ n) : (expandL b f l).length ≤ l.length * n := by
  unfold expandL
  induction l with
  | nil => simp
  | cons p t ih =>
    have h1 := partL_len b f p hb (hp p (List.mem_cons_self ..))
    have h2 := ih (fun q hq => hp q (List.mem_cons_of_mem _ hq))
    simp only [List.flatMap_cons, List.length_append, List.length_cons, Nat.add_mul, Nat.one_mul]
    omega

end Go.Proofs.YtaejogkinniakaaDoor
