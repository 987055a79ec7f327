/- Templates as a plain function: bytes, how many groups, names. Pure: no program. -/
import Derived.Test.YtaejogkinniakaaDoorEdGp
import Derived.Test.YtaejogkinniakaaDoorWMore
namespace Go.Proofs.YtaejogkinniakaaDoor
set_option linter.unusedVariables false
set_option linter.unusedSimpArgs false
open Go.RowKit Go.Proofs.YtaejogkinniakaaDoorW.PrintWords

def digB (c : Int) : Bool := decide (48 ≤ c) && decide (c ≤ 57)
def firB (c : Int) : Bool := c == 95 || (decide (97 ≤ c) && decide (c ≤ 122)) || (decide (65 ≤ c) && decide (c ≤ 90))
def worB (c : Int) : Bool := firB c || digB c
def numL (l : List Int) : Int := l.foldl (fun n c => 10 * n + (c - 48)) 0
/-- The first place of a word. -/
def idxS (w : ByteArray) : List ByteArray → Option Nat
  | [] => none
  | x :: r => if x = w then some 0 else (idxS w r).map (· + 1)
/-- The group that a word names, and the error. -/
def groupL (w : ByteArray) (g : Int) (ns : List ByteArray) : Int × Int :=
  if bytesOf w = [] then (0, 220)
  else if (bytesOf w).all digB = true ∧ w.size ≤ 3 then (if numL (bytesOf w) > g then (0, 151) else (numL (bytesOf w), 0))
  else if firB (bt w 0) = true ∧ (bytesOf w).all worB = true then
    match idxS w (ns.drop 1) with
    | none => (0, 151)
    | some i => ((i : Int) + 1, 0)
  else (0, 220)
/-- The first place of a byte. -/
def idxB (c : Int) : List Int → Option Nat
  | [] => none
  | x :: r => if x = c then some 0 else (idxB c r).map (· + 1)
/-- What stands behind a $: how many bytes, and the word; none: a $ for itself. -/
def dolL (s : List Int) : Option (Nat × List Int) :=
  match s with
  | [] => some (0, [])
  | a :: r =>
    if a = 36 then none
    else if a = 123 then
      match idxB 125 r with
      | none => some (0, [])
      | some i => some (i + 2, r.take i)
    else if digB a = true then
      match r with
      | [] => some (1, [a])
      | b :: _ => if digB b = true then some (2, [a, b]) else some (1, [a])
    else some (0, [])
def flL (out : List Pt) (text : List Int) : List Pt := if text = [] then out else out ++ [(text, -1)]
/-- The parts, the error, and its place: from the place k on, with these parts and this text ahead; m: so many rounds. -/
def tmplR (s : List Int) (g : Int) (ns : List ByteArray) : Nat → Nat → List Pt → List Int → List Pt × Int × Int
  | 0, k, out, text => (flL out text, 0, 0)
  | m + 1, k, out, text =>
    match s.drop k with
    | [] => (flL out text, 0, 0)
    | c :: rest =>
      if c ≠ 36 then tmplR s g ns m (k + 1) out (text ++ [c])
      else match dolL rest with
        | none => tmplR s g ns m (k + 2) out (text ++ [36])
        | some (n, w) =>
          if (groupL (strOfNums w) g ns).2 = 0 then tmplR s g ns m (k + 1 + n) (flL out text ++ [([], (groupL (strOfNums w) g ns).1)]) []
          else ([], (groupL (strOfNums w) g ns).2, (k : Int))
def tmplL (s : List Int) (g : Int) (ns : List ByteArray) : List Pt × Int × Int := tmplR s g ns s.length 0 [] []

/-! ### One round -/
theorem tmplR_end {s : List Int} {g : Int} {ns : List ByteArray} {m k : Nat} {out : List Pt} {text : List Int} (hk : s.length ≤ k) : tmplR s g ns m k out text = (flL out text, 0, 0) := by
  cases m with
  | zero => rfl
  | succ m =>
    unfold tmplR
    rw [List.drop_of_length_le hk]
theorem tmplR_char {s : List Int} {g : Int} {ns : List ByteArray} {m k : Nat} {out : List Pt} {text : List Int} (hk : k < s.length) (hc : s[k] ≠ 36) :
    tmplR s g ns (m + 1) k out text = tmplR s g ns m (k + 1) out (text ++ [s[k]]) := by
  rw [tmplR, List.drop_eq_getElem_cons hk]
  show (if s[k] ≠ 36 then _ else _) = _
  rw [if_pos hc]
theorem tmplR_self {s : List Int} {g : Int} {ns : List ByteArray} {m k : Nat} {out : List Pt} {text : List Int} (hk : k < s.length) (hc : s[k] = 36) (hd : dolL (s.drop (k + 1)) = none) :
    tmplR s g ns (m + 1) k out text = tmplR s g ns m (k + 2) out (text ++ [36]) := by
  rw [tmplR, List.drop_eq_getElem_cons hk]
  show (if s[k] ≠ 36 then _ else _) = _
  rw [if_neg (by rw [hc]; simp), hd]
theorem tmplR_group {s : List Int} {g : Int} {ns : List ByteArray} {m k n : Nat} {w : List Int} {out : List Pt} {text : List Int} {a : Int} (hk : k < s.length) (hc : s[k] = 36) (hd : dolL (s.drop (k + 1)) = some (n, w)) (hg : groupL (strOfNums w) g ns = (a, 0)) :
    tmplR s g ns (m + 1) k out text = tmplR s g ns m (k + 1 + n) (flL out text ++ [([], a)]) [] := by
  rw [tmplR, List.drop_eq_getElem_cons hk]
  show (if s[k] ≠ 36 then _ else _) = _
  rw [if_neg (by rw [hc]; simp), hd]
  show (if (groupL (strOfNums w) g ns).2 = 0 then _ else _) = _
  rw [hg]
  rfl
theorem tmplR_bad {s : List Int} {g : Int} {ns : List ByteArray} {m k n : Nat} {w : List Int} {out : List Pt} {text : List Int} {a e : Int} (hk : k < s.length) (hc : s[k] = 36) (hd : dolL (s.drop (k + 1)) = some (n, w)) (hg : groupL (strOfNums w) g ns = (a, e)) (he : e ≠ 0) :
    tmplR s g ns (m + 1) k out text = ([], e, (k : Int)) := by
  rw [tmplR, List.drop_eq_getElem_cons hk]
  show (if s[k] ≠ 36 then _ else _) = _
  rw [if_neg (by rw [hc]; simp), hd]
  show (if (groupL (strOfNums w) g ns).2 = 0 then _ else _) = _
  rw [hg]
  show (if e = 0 then _ else _) = _
  rw [if_neg he]

/-! ### What is known of the words -/
theorem idxB_lt {c : Int} : ∀ {l : List Int} {i : Nat}, idxB c l = some i → i < l.length
  | [], i, h => by cases h
  | x :: r, i, h => by
    unfold idxB at h
    split at h
    · cases h
      simp
    · cases hr : idxB c r with
      | none => rw [hr] at h; cases h
      | some j =>
        rw [hr] at h
        cases h
        have := idxB_lt hr
        simp only [List.length_cons]
        omega
theorem dolL_le {s : List Int} {n : Nat} {w : List Int} (h : dolL s = some (n, w)) : n ≤ s.length := by
  unfold dolL at h
  split at h
  · cases h
    exact Nat.zero_le _
  · rename_i a r
    split at h
    · cases h
    · split at h
      · split at h
        · cases h
          exact Nat.zero_le _
        · rename_i i hi
          cases h
          have := idxB_lt hi
          simp only [List.length_cons]
          omega
      · split at h
        · split at h
          · cases h
            simp
          · split at h <;> cases h <;> simp
        · cases h
          exact Nat.zero_le _
theorem groupL_err {w : ByteArray} {g : Int} {ns : List ByteArray} {a e : Int} (h : groupL w g ns = (a, e)) : e = 0 ∨ (a = 0 ∧ (e = 220 ∨ e = 151)) := by
  unfold groupL at h
  split at h
  · cases h
    exact .inr ⟨rfl, .inl rfl⟩
  · split at h
    · split at h <;> cases h
      · exact .inr ⟨rfl, .inr rfl⟩
      · exact .inl rfl
    · split at h
      · split at h <;> cases h
        · exact .inr ⟨rfl, .inr rfl⟩
        · exact .inl rfl
      · cases h
        exact .inr ⟨rfl, .inl rfl⟩

end Go.Proofs.YtaejogkinniakaaDoor
