/- Texts cut at a byte and trimmed; a line's fields, the records of a text. Pure: no program. -/
import Derived.Lib.SplitLaws
import Derived.Lib.CutLaws
import Derived.Lib.SlTrimSet
import Derived.Test.YtooehjbbphokbaaDoorLnHex
import Derived.Test.YtooehjbbphokbaaDoorPLinesReadx0
namespace Go.Proofs.YtooehjbbphokbaaDoor
set_option linter.unusedVariables false
set_option linter.unusedSimpArgs false

def bsL (l : List UInt8) : ByteArray := ⟨l.toArray⟩
theorem bsL_data (s : ByteArray) : bsL s.data.toList = s := by
  cases s
  simp [bsL]
theorem data_bsL (l : List UInt8) : (bsL l).data.toList = l := by simp [bsL]
theorem size_bsL (l : List UInt8) : (bsL l).size = l.length := by simp [bsL, ByteArray.size]

/-- A text's parts between a byte. -/
def cutL (c : UInt8) : List UInt8 → List (List UInt8)
  | [] => [[]]
  | b :: l => if b = c then [] :: cutL c l else match cutL c l with
    | [] => [[b]]
    | h :: t => (b :: h) :: t
theorem cutL_none {c : UInt8} : ∀ {p : List UInt8}, (∀ b ∈ p, b ≠ c) → cutL c p = [p]
  | [], _ => rfl
  | b :: p, h => by
    have h1 := cutL_none (c := c) (p := p) (fun x hx => h x (List.mem_cons_of_mem _ hx))
    unfold cutL
    rw [if_neg (h b List.mem_cons_self), h1]
theorem cutL_hit {c : UInt8} (l : List UInt8) : ∀ {p : List UInt8}, (∀ b ∈ p, b ≠ c) → cutL c (p ++ c :: l) = p :: cutL c l
  | [], _ => by
    show cutL c (c :: l) = _
    rw [cutL, if_pos rfl]
  | b :: p, h => by
    have h1 := cutL_hit (c := c) l (p := p) (fun x hx => h x (List.mem_cons_of_mem _ hx))
    show cutL c (b :: (p ++ c :: l)) = _
    rw [cutL, if_neg (h b List.mem_cons_self), h1]
theorem cutL_ne (c : UInt8) : ∀ l : List UInt8, cutL c l ≠ []
  | [] => by simp [cutL]
  | b :: l => by
    unfold cutL
    split
    · simp
    · split <;> simp
theorem cutL_length (c : UInt8) : ∀ l : List UInt8, (cutL c l).length ≤ l.length + 1
  | [] => by simp [cutL]
  | b :: l => by
    have h := cutL_length c l
    unfold cutL
    split
    · simp only [List.length_cons]
      omega
    · split
      · simp
      · rename_i h' t e
        rw [e] at h
        simp only [List.length_cons] at h ⊢
        omega
theorem cutL_part (c : UInt8) : ∀ (l : List UInt8) (x : List UInt8), x ∈ cutL c l → x.length ≤ l.length
  | [], x, h => by
    simp [cutL] at h
    subst h
    simp
  | b :: l, x, h => by
    have ih := cutL_part c l
    unfold cutL at h
    split at h
    · rcases List.mem_cons.1 h with rfl | h
      · simp
      · have := ih x h
        simp only [List.length_cons]
        omega
    · split at h
      · simp at h
        subst h
        simp
      · rename_i h' t e
        rcases List.mem_cons.1 h with rfl | h
        · have := ih h' (by rw [e]; exact List.mem_cons_self)
          simp only [List.length_cons]
          omega
        · have := ih x (by rw [e]; exact List.mem_cons_of_mem _ h)
          simp only [List.length_cons]
          omega
def cutB (c : UInt8) (s : ByteArray) : List ByteArray := (cutL c s.data.toList).map bsL
theorem index_split {s : List UInt8} {c : UInt8} {i : Nat} (h : Lib.index s [c] = i) : s = s.take i ++ c :: s.drop (i + 1) ∧ ∀ b ∈ s.take i, b ≠ c := by
  rw [Lib.index_one] at h
  obtain ⟨h1, h2⟩ := Lib.indexByte_some h
  obtain ⟨hlt, he⟩ := List.getElem?_eq_some_iff.1 h1
  refine ⟨?_, fun b hb => ?_⟩
  · have e := List.drop_eq_getElem_cons hlt
    rw [he] at e
    rw [← e, List.take_append_drop]
  · obtain ⟨k, hk, rfl⟩ := List.getElem_of_mem hb
    rw [List.length_take] at hk
    intro hc
    refine h2 k (by omega) ?_
    rw [List.getElem_take] at hc
    rw [List.getElem?_eq_getElem (by omega), hc]
theorem index_miss {s : List UInt8} {c : UInt8} (h : Lib.index s [c] = -1) : ∀ b ∈ s, b ≠ c := by
  rw [Lib.index_one] at h
  intro b hb hc
  obtain ⟨k, hk, rfl⟩ := List.getElem_of_mem hb
  exact Lib.indexByte_none h k (by rw [List.getElem?_eq_getElem hk, hc])
theorem index_or (s : List UInt8) (c : UInt8) : Lib.index s [c] = -1 ∨ ∃ i : Nat, Lib.index s [c] = i := by
  have h := Lib.index_ge s [c]
  by_cases h1 : Lib.index s [c] = -1
  · exact .inl h1
  · exact .inr ⟨(Lib.index s [c]).toNat, by omega⟩
theorem splitK_cut (c : UInt8) : ∀ (k : Nat) (s : List UInt8), s.count c = k → Lib.splitK [c] 0 k s = cutL c s
  | 0, s, h => by
    have h0 : ∀ b ∈ s, b ≠ c := fun b hb hc => by
      subst hc
      have := List.count_pos_iff.2 hb
      omega
    rw [cutL_none h0]
    rfl
  | k + 1, s, h => by
    rcases index_or s c with hm | ⟨i, hi⟩
    · exfalso
      have h0 := index_miss hm
      have : s.count c = 0 := List.count_eq_zero.2 (fun hc => h0 c hc rfl)
      omega
    · obtain ⟨hs, hp⟩ := index_split hi
      have hk : (s.drop (i + 1)).count c = k := by
        have h1 := h
        rw [hs, List.count_append, List.count_cons_self] at h1
        have h2 : (s.take i).count c = 0 := List.count_eq_zero.2 (fun hc => hp c hc rfl)
        omega
      have ih := splitK_cut c k (s.drop (i + 1)) hk
      have e2 : cutL c s = s.take i :: cutL c (s.drop (i + 1)) := by
        have e3 := congrArg (cutL c) hs
        rw [cutL_hit _ hp] at e3
        exact e3
      rw [Lib.splitK, if_neg (by rw [hi]; simp), hi, e2, ← ih]
      simp
theorem splitB_cut (c : UInt8) (s : ByteArray) : Lib.splitB ⟨#[c]⟩ 0 (Lib.countB s ⟨#[c]⟩) s = cutB c s := by
  have h := Lib.splitB_data ⟨#[c]⟩ 0 (Lib.countB s ⟨#[c]⟩) s
  have hc : Lib.countB s ⟨#[c]⟩ = s.data.toList.count c := Lib.count_one c s.data.toList
  have h2 : Lib.splitK [c] 0 (Lib.countB s ⟨#[c]⟩) s.data.toList = cutL c s.data.toList := splitK_cut c _ _ hc.symm
  have h3 := congrArg (List.map bsL) (h.trans h2)
  rw [List.map_map] at h3
  have h4 : (bsL ∘ fun b : ByteArray => b.data.toList) = id := by
    funext b
    exact bsL_data b
  rw [h4, List.map_id] at h3
  exact h3
theorem countB_cut (c : UInt8) (s : ByteArray) : Lib.countB s ⟨#[c]⟩ + 1 = (cutB c s).length := by
  rw [← splitB_cut, Lib.splitB_all ⟨#[c]⟩ (Nat.le_refl 1) 0 _ s rfl]

/-- What stands ahead of a byte. -/
def upL (c : UInt8) (l : List UInt8) : List UInt8 := (cutL c l).headD []
theorem cut_up (c : UInt8) (l : List UInt8) : (Lib.cut l [c]).1 = upL c l := by
  unfold Lib.cut upL
  rcases index_or l c with hm | ⟨i, hi⟩
  · rw [hm, if_neg (by omega), cutL_none (index_miss hm)]
    rfl
  · obtain ⟨hs, hp⟩ := index_split hi
    have e2 : cutL c l = l.take i :: cutL c (l.drop (i + 1)) := by
      have e3 := congrArg (cutL c) hs
      rw [cutL_hit _ hp] at e3
      exact e3
    rw [hi, if_pos (by omega), e2]
    simp
theorem upL_length (c : UInt8) (l : List UInt8) : (upL c l).length ≤ l.length := by
  unfold upL
  cases h : cutL c l with
  | nil => simp
  | cons x r => exact cutL_part c l x (by rw [h]; exact List.mem_cons_self)
def trimL (l : List UInt8) : List UInt8 := Lib.trimS l [32, 9]
theorem dropWhile_length {α : Type} (p : α → Bool) : ∀ l : List α, (l.dropWhile p).length ≤ l.length
  | [] => by simp
  | b :: l => by
    rw [List.dropWhile_cons]
    split
    · have := dropWhile_length p l
      simp only [List.length_cons]
      omega
    · exact Nat.le_refl _
theorem trimL_length (l : List UInt8) : (trimL l).length ≤ l.length := by
  unfold trimL Lib.trimS Lib.trimLeftS Lib.trimRightS
  refine Nat.le_trans (dropWhile_length _ _) ?_
  rw [List.length_reverse]
  refine Nat.le_trans (dropWhile_length _ _) ?_
  rw [List.length_reverse]
  exact Nat.le_refl _
def upB (c : UInt8) (s : ByteArray) : ByteArray := bsL (upL c s.data.toList)
def trimB (s : ByteArray) : ByteArray := bsL (trimL s.data.toList)
theorem upB_size (c : UInt8) (s : ByteArray) : (upB c s).size ≤ s.size := by
  unfold upB
  rw [size_bsL, Lib.size_eq s]
  exact upL_length _ _
theorem trimB_size (s : ByteArray) : (trimB s).size ≤ s.size := by
  unfold trimB
  rw [size_bsL, Lib.size_eq s]
  exact trimL_length _
theorem cutB_ne (c : UInt8) (s : ByteArray) : cutB c s ≠ [] := fun h => cutL_ne c s.data.toList (List.map_eq_nil_iff.1 h)
theorem cutB_length (c : UInt8) (s : ByteArray) : (cutB c s).length ≤ s.size + 1 := by
  unfold cutB
  rw [List.length_map, Lib.size_eq s]
  exact cutL_length _ _
theorem cutB_part {c : UInt8} {s x : ByteArray} (h : x ∈ cutB c s) : x.size ≤ s.size := by
  obtain ⟨l, hl, rfl⟩ := List.mem_map.1 h
  rw [size_bsL, Lib.size_eq s]
  exact cutL_part c _ _ hl

/-- A line's fields; none: it says nothing. -/
def fieldsB (line : ByteArray) : List ByteArray := if (trimB (upB 35 line)).size = 0 then [] else (cutB 59 (trimB (upB 35 line))).map trimB
theorem fieldsB_part {s x : ByteArray} (h : x ∈ fieldsB s) : x.size ≤ s.size := by
  unfold fieldsB at h
  split at h
  · simp at h
  · obtain ⟨y, hy, rfl⟩ := List.mem_map.1 h
    exact Nat.le_trans (trimB_size y) (Nat.le_trans (cutB_part hy) (Nat.le_trans (trimB_size _) (upB_size _ _)))
theorem fieldsB_length (s : ByteArray) : (fieldsB s).length ≤ s.size + 1 := by
  unfold fieldsB
  split
  · simp
  · rw [List.length_map]
    refine Nat.le_trans (cutB_length _ _) ?_
    have := Nat.le_trans (trimB_size (upB 35 s)) (upB_size 35 s)
    omega

abbrev Rc := Go.Proofs.YtooehjbbphokbaaDoor.PLinesRead.S48
/-- The two ends that the first field names. -/
def dotsB (a : ByteArray) : ByteArray × ByteArray := if (Lib.cut a.data.toList [46, 46]).2.2 = true then (bsL (Lib.cut a.data.toList [46, 46]).1, bsL (Lib.cut a.data.toList [46, 46]).2.1) else (bsL (Lib.cut a.data.toList [46, 46]).1, bsL (Lib.cut a.data.toList [46, 46]).1)
def recB : List ByteArray → Option Rc
  | a :: b :: r => if (hexAns (dotsB a).1).2 = true ∧ (hexAns (dotsB a).2).2 = true ∧ (hexAns (dotsB a).1).1 ≤ (hexAns (dotsB a).2).1 then some ⟨(hexAns (dotsB a).1).1, (hexAns (dotsB a).2).1, b :: r⟩ else none
  | _ => none
theorem recB_short {f : List ByteArray} (h : f.length < 2) : recB f = none := by
  match f, h with
  | [], _ => rfl
  | [_], _ => rfl
theorem recB_long {f : List ByteArray} (h : 2 ≤ f.length) : recB f = if (hexAns (dotsB (f[0]'(by omega))).1).2 = true ∧ (hexAns (dotsB (f[0]'(by omega))).2).2 = true ∧ (hexAns (dotsB (f[0]'(by omega))).1).1 ≤ (hexAns (dotsB (f[0]'(by omega))).2).1 then some ⟨(hexAns (dotsB (f[0]'(by omega))).1).1, (hexAns (dotsB (f[0]'(by omega))).2).1, f.drop 1⟩ else none := by
  match f, h with
  | _ :: _ :: _, _ => rfl
/-- The records of lines, or the first that can't be; i lines stand ahead of them. -/
def linesB : List ByteArray → Nat → List Rc → List Rc × Int × Int
  | [], _, out => (out, 0, 0)
  | x :: r, i, out => if fieldsB x = [] then linesB r (i + 1) out else match recB (fieldsB x) with
    | none => ([], (i : Int) + 1, 20)
    | some q => linesB r (i + 1) (out ++ [q])
def parseB (s : ByteArray) : List Rc × Int × Int := linesB (cutB 10 s) 0 []
theorem linesB_nil (i : Nat) (out : List Rc) : linesB [] i out = (out, 0, 0) := rfl
theorem linesB_skip {x : ByteArray} {r : List ByteArray} {i : Nat} {out : List Rc} (h : fieldsB x = []) : linesB (x :: r) i out = linesB r (i + 1) out := by
  rw [linesB, if_pos h]
theorem linesB_bad {x : ByteArray} {r : List ByteArray} {i : Nat} {out : List Rc} (h : fieldsB x ≠ []) (hr : recB (fieldsB x) = none) : linesB (x :: r) i out = ([], (i : Int) + 1, 20) := by
  rw [linesB, if_neg h, hr]
theorem linesB_good {x : ByteArray} {r : List ByteArray} {i : Nat} {out : List Rc} {q : Rc} (h : fieldsB x ≠ []) (hr : recB (fieldsB x) = some q) : linesB (x :: r) i out = linesB r (i + 1) (out ++ [q]) := by
  rw [linesB, if_neg h, hr]

end Go.Proofs.YtooehjbbphokbaaDoor
