/- The reference's digit, word and group, tied to the plain law. -/
import Derived.Test.YtaejogkinniakaaDoorEdT
import Derived.Test.YtaejogkinniakaaDoorEdC
import Derived.Test.YtaejogkinniakaaDoorEdTp
import Derived.Lib.Bytes
namespace Go.Proofs.YtaejogkinniakaaDoor
set_option linter.unusedVariables false
set_option linter.unusedSimpArgs false
open Go.RowKit Go.Proofs.YtaejogkinniakaaDoorW.PrintWords Go.Proofs.YtaejogkinniakaaDoorW.PrintLast Go.Proofs.YtaejogkinniakaaDoorW.PrintMore Go.Proofs.YtaejogkinniakaaDoor.PEd

theorem rdig_f (c : Int) : rubricatorref22_digit.f c = some (digB c) := by
  unfold rubricatorref22_digit.f digB
  by_cases h : 48 ≤ c
  · rw [if_pos h, decide_eq_true h, Bool.true_and]
  · rw [if_neg h, decide_eq_false h, Bool.false_and]
def f10 (n c : Int) : Int := 10 * n + (c - 48)
theorem gl0_step (w : ByteArray) (G : Int) (ns : List ByteArray) (n : Int) (d nm : Bool) (i : Nat) (hi : i < w.size) (hw : w.size ≤ 140737488355328) (hn : d = true → 0 ≤ n ∧ n ≤ 100000) (k : Nat) :
    rubricatorref22_group.l0 (k + 1) w G ns n d nm (i : Int) = rubricatorref22_group.l0 k w G ns (if (d && digB (bt w i)) = true then f10 n (bt w i) else n) (d && digB (bt w i)) (nm && (firB (bt w i) || (digB (bt w i) && decide (0 < i)))) ((i + 1 : Nat) : Int) := by
  have hw1 : wrap64 ((i : Int) + 1) = ((i + 1 : Nat) : Int) := by rw [w64_in _ (by omega)]; omega
  have hbr := bt_range w i
  have hi0 : decide ((i : Int) > 0) = decide (0 < i) := by
    rw [decide_eq_decide]
    omega
  rw [rubricatorref22_group.l0, if_pos (by omega), if_pos (by omega), hw1, hi0, rdig_f]
  obtain ⟨c, hc⟩ : ∃ c, bt w i = c := ⟨_, rfl⟩
  rw [hc] at hbr ⊢
  obtain ⟨F, hF⟩ : ∃ F : Int → Bool → Bool → Option (Int × Int), (fun n d nm => rubricatorref22_group.l0 k w G ns n d nm ((i + 1 : Nat) : Int)) = F := ⟨_, rfl⟩
  have hFF : ∀ n d nm, rubricatorref22_group.l0 k w G ns n d nm ((i + 1 : Nat) : Int) = F n d nm := fun n d nm => congrFun (congrFun (congrFun hF n) d) nm
  simp only [hFF, Option.bind_some]
  have hnum : d = true → digB c = true → wrap64 (wrap64 (10 * n) + (c - 48) % 256) = f10 n c := fun hd hq => by
    have := hn hd
    unfold digB at hq
    rw [Bool.and_eq_true, decide_eq_true_eq, decide_eq_true_eq] at hq
    have e : (c - 48) % 256 = c - 48 := Int.emod_eq_of_lt (by omega) (by omega)
    rw [e, w64_in (10 * n) (by omega), w64_in _ (by omega)]
    rfl
  have hfir : firB c = (c == 95 || (decide (97 ≤ c) && decide (c ≤ 122)) || (decide (65 ≤ c) && decide (c ≤ 90))) := rfl
  rw [hfir]
  have h5b : (c == 95) = decide (c = 95) := by
    rw [Bool.eq_iff_iff, beq_iff_eq, decide_eq_true_eq]
  rw [h5b]
  by_cases h1 : 97 ≤ c
  · by_cases h2 : c ≤ 122
    · cases d <;> cases nm <;> cases hq : digB c <;> simp [h1, h2, hq, hnum]
    · have h4 : ¬ c ≤ 90 := by omega
      have h5 : ¬ c = 95 := by omega
      have h3 : 65 ≤ c := by omega
      cases d <;> cases nm <;> cases hq : digB c <;> simp [h1, h2, h3, h4, h5, hq, hnum]
  · by_cases h3 : 65 ≤ c
    · by_cases h4 : c ≤ 90
      · cases d <;> cases nm <;> cases hq : digB c <;> simp [h1, h3, h4, hq, hnum]
      · by_cases h5 : c = 95
        · subst h5
          have h95 : digB 95 = false := by decide
          cases d <;> cases nm <;> simp [h95]
        · cases d <;> cases nm <;> cases hq : digB c <;> simp [h1, h3, h4, h5, hq, hnum]
    · have h5 : ¬ c = 95 := by omega
      cases d <;> cases nm <;> cases hq : digB c <;> simp [h1, h3, h5, hq, hnum]
theorem ba_ext {a b : ByteArray} (h : a.toList = b.toList) : a = b := by
  rw [Lib.toList_data, Lib.toList_data] at h
  obtain ⟨x⟩ := a
  obtain ⟨y⟩ := b
  have e : x = y := Array.ext' h
  rw [e]
def lkG (base : Int) (o : Option Nat) : Int × Int := match o with | none => (0, 151) | some i => (base + (i : Int), 0)
theorem lkG_succ (j : Nat) (o : Option Nat) : lkG (j : Int) (o.map (· + 1)) = lkG ((j + 1 : Nat) : Int) o := by
  cases o with
  | none => rfl
  | some i =>
    show ((j : Int) + ((i + 1 : Nat) : Int), (0 : Int)) = (((j + 1 : Nat) : Int) + (i : Int), 0)
    rw [show (j : Int) + ((i + 1 : Nat) : Int) = ((j + 1 : Nat) : Int) + (i : Int) by omega]
/-- What is said when all bytes are read. -/
def finG (w : ByteArray) (G : Int) (ns : List ByteArray) (n : Int) (d nm : Bool) : Int × Int :=
  if d = true then (if n > G then (0, 151) else (n, 0))
  else if nm = true then lkG 1 (idxS w (ns.drop 1))
  else (0, 220)
def okN : Bool → List Int → Bool
  | _, [] => true
  | fst, c :: r => (firB c || (digB c && !fst)) && okN false r
theorem gl1_ev (w : ByteArray) (ns : List ByteArray) (hl : ns.length ≤ 9223372036854775807) (m : Nat) : ∀ j, j + m = ns.length → 0 < j → Ev (fun k => rubricatorref22_group.l1 k w ns (ns.length : Int) (j : Int)) (lkG (j : Int) (idxS w (ns.drop j))) := by
  induction m with
  | zero =>
    intro j h h0
    rw [List.drop_of_length_le (by omega)]
    refine Ev.step (fun k => ?_) (Ev.now _)
    rw [rubricatorref22_group.l1, if_neg (by omega)]
    rfl
  | succ m ih =>
    intro j h h0
    have hj : j < ns.length := by omega
    have hrd : rdOf ByteArray.empty ns (j : Int) = ns[j] := by simp [rdOf, hj]
    rw [List.drop_eq_getElem_cons hj]
    have hI : idxS w (ns[j] :: ns.drop (j + 1)) = if ns[j] = w then some 0 else (idxS w (ns.drop (j + 1))).map (· + 1) := rfl
    rw [hI]
    by_cases he : ns[j] = w
    · rw [if_pos he]
      refine Ev.step (fun k => ?_) (Ev.now _)
      rw [rubricatorref22_group.l1, if_pos (by omega), if_pos (by omega), if_pos (by omega), if_pos (by omega), hrd, if_pos (by rw [he])]
      show some ((j : Int), (0 : Int)) = some ((j : Int) + ((0 : Nat) : Int), 0)
      rw [show (j : Int) + ((0 : Nat) : Int) = j by omega]
    · have hne : ¬ ns[j].toList = w.toList := fun e => he (ba_ext e)
      rw [if_neg he, lkG_succ]
      refine Ev.step (fun k => ?_) (ih (j + 1) (by omega) (by omega))
      rw [rubricatorref22_group.l1, if_pos (by omega), if_pos (by omega), if_pos (by omega), if_pos (by omega), hrd, if_neg hne, show wrap64 ((j : Int) + 1) = ((j + 1 : Nat) : Int) by rw [w64_in _ (by omega)]; omega]
theorem gl1_start (w : ByteArray) (ns : List ByteArray) (hl : ns.length ≤ 9223372036854775807) : Ev (fun k => rubricatorref22_group.l1 k w ns (ns.length : Int) 0) (lkG 1 (idxS w (ns.drop 1))) := by
  rcases Nat.eq_zero_or_pos ns.length with h0 | h0
  · have e : ns = [] := List.length_eq_zero_iff.1 h0
    subst e
    refine Ev.step (fun k => ?_) (Ev.now _)
    rw [rubricatorref22_group.l1, if_neg (by simp)]
    rfl
  · have h := gl1_ev w ns hl (ns.length - 1) 1 (by omega) (by omega)
    refine Ev.step (fun k => ?_) h
    rw [rubricatorref22_group.l1, if_pos (by omega), if_pos (by omega), if_pos (by omega), if_neg (by omega), show wrap64 ((0 : Int) + 1) = ((1 : Nat) : Int) from w64_in _ (by omega)]
theorem fin_ind {w : ByteArray} {G : Int} {ns : List ByteArray} (n n' : Int) (nm : Bool) : finG w G ns n false nm = finG w G ns n' false nm := rfl
theorem drop_bytes {w : ByteArray} {i : Nat} (hi : i < w.size) : (bytesOf w).drop i = bt w i :: (bytesOf w).drop (i + 1) := by
  have hl : i < (bytesOf w).length := by rw [bytesOf_length]; exact hi
  rw [List.drop_eq_getElem_cons hl]
  congr 1
  have e : rd (bytesOf w) (i : Int) = (bytesOf w)[i] := by simp [rd, hl]
  rw [← e, rd_bytesOf]
theorem gl0_ev (w : ByteArray) (G : Int) (ns : List ByteArray) (hw : w.size ≤ 140737488355328) (hl : ns.length ≤ 9223372036854775807) (m : Nat) :
    ∀ (i : Nat) (n : Int) (d nm : Bool), i + m = w.size → (d = true → w.size ≤ 3 ∧ 0 ≤ n ∧ n < 10 ^ i) →
      Ev (fun k => rubricatorref22_group.l0 k w G ns n d nm (i : Int)) (finG w G ns (((bytesOf w).drop i).foldl f10 n) (d && ((bytesOf w).drop i).all digB) (nm && okN (decide (i = 0)) ((bytesOf w).drop i))) := by
  induction m with
  | zero =>
    intro i n d nm h hd
    have hdr : (bytesOf w).drop i = [] := List.drop_of_length_le (by rw [bytesOf_length]; omega)
    rw [hdr]
    show Ev _ (finG w G ns n (d && true) (nm && true))
    rw [Bool.and_true, Bool.and_true]
    cases d with
    | true =>
      refine Ev.step (fun k => ?_) (Ev.now _)
      rw [rubricatorref22_group.l0, if_neg (by omega), if_pos rfl]
      unfold finG
      rw [if_pos rfl]
      by_cases h2 : n > G
      · rw [if_pos h2, if_pos h2]
      · rw [if_neg h2, if_neg h2]
    | false =>
      cases nm with
      | true =>
        refine Ev.step (fun k => ?_) (gl1_start w ns hl)
        rw [rubricatorref22_group.l0, if_neg (by omega), if_neg (by decide), if_pos rfl]
      | false =>
        refine Ev.step (fun k => ?_) (Ev.now _)
        rw [rubricatorref22_group.l0, if_neg (by omega), if_neg (by decide), if_neg (by decide)]
        rfl
  | succ m ih =>
    intro i n d nm h hd
    have hi : i < w.size := by omega
    have hbr := bt_range w i
    have hstep := gl0_step w G ns n d nm i hi hw (fun h2 => by
      obtain ⟨h3, h4, h5⟩ := hd h2
      have : (10 : Int) ^ i ≤ 10 ^ 3 := by
        have hi3 : i ≤ 3 := by omega
        rcases (show i = 0 ∨ i = 1 ∨ i = 2 ∨ i = 3 by omega) with rfl | rfl | rfl | rfl <;> decide
      omega)
    have ih2 := ih (i + 1) (if (d && digB (bt w i)) = true then f10 n (bt w i) else n) (d && digB (bt w i)) (nm && (firB (bt w i) || (digB (bt w i) && decide (0 < i)))) (by omega) (fun h2 => by
      rw [if_pos h2]
      rw [Bool.and_eq_true] at h2
      obtain ⟨h3, h4, h5⟩ := hd h2.1
      have hq := h2.2
      unfold digB at hq
      rw [Bool.and_eq_true, decide_eq_true_eq, decide_eq_true_eq] at hq
      refine ⟨h3, by unfold f10; omega, ?_⟩
      unfold f10
      rw [Int.pow_succ]
      omega)
    have hres : finG w G ns (((bytesOf w).drop i).foldl f10 n) (d && ((bytesOf w).drop i).all digB) (nm && okN (decide (i = 0)) ((bytesOf w).drop i)) =
        finG w G ns (((bytesOf w).drop (i + 1)).foldl f10 (if (d && digB (bt w i)) = true then f10 n (bt w i) else n)) (d && digB (bt w i) && ((bytesOf w).drop (i + 1)).all digB) (nm && (firB (bt w i) || (digB (bt w i) && decide (0 < i))) && okN (decide (i + 1 = 0)) ((bytesOf w).drop (i + 1))) := by
      rw [drop_bytes hi]
      have e0 : decide (i + 1 = 0) = false := decide_eq_false (by omega)
      have e1 : decide (0 < i) = !decide (i = 0) := by
        by_cases h0 : i = 0
        · rw [decide_eq_true h0, decide_eq_false (by omega)]; rfl
        · rw [decide_eq_false h0, decide_eq_true (by omega)]; rfl
      rw [e0, e1]
      show finG w G ns (((bytesOf w).drop (i + 1)).foldl f10 (f10 n (bt w i))) (d && (digB (bt w i) && ((bytesOf w).drop (i + 1)).all digB)) (nm && ((firB (bt w i) || (digB (bt w i) && !decide (i = 0))) && okN false ((bytesOf w).drop (i + 1)))) = _
      rw [← Bool.and_assoc, ← Bool.and_assoc nm]
      by_cases hc : (d && digB (bt w i)) = true
      · rw [if_pos hc]
      · rw [if_neg hc, Bool.eq_false_iff.mpr hc, Bool.false_and]
        exact fin_ind _ _ _
    rw [hres]
    exact Ev.step hstep ih2
theorem okN_wor : ∀ l : List Int, okN false l = l.all worB
  | [] => rfl
  | c :: r => by
    show ((firB c || (digB c && !false)) && okN false r) = (worB c && r.all worB)
    rw [okN_wor r]
    unfold worB
    simp
theorem refGroup_f (w : ByteArray) (G : Int) (ns : List ByteArray) (hw : w.size ≤ 140737488355328) (hl : ns.length ≤ 9223372036854775807) : ∃ k, rubricatorref22_group.f k w G ns = some (groupL w G ns) := by
  have hlen := bytesOf_length w
  have hev : ∀ d : Bool, (d = true → w.size ≤ 3) → ∃ k, rubricatorref22_group.j0 k w G ns 0 d (decide ((w.size : Int) ≥ 1)) = some (finG w G ns (numL (bytesOf w)) (d && (bytesOf w).all digB) (decide ((w.size : Int) ≥ 1) && okN true (bytesOf w))) := fun d hd => by
    have h := gl0_ev w G ns hw hl w.size 0 0 d (decide ((w.size : Int) ≥ 1)) (by omega) (fun h => ⟨hd h, Int.le_refl 0, by decide⟩)
    obtain ⟨k, hk⟩ := h.rounds
    refine ⟨k + 1, ?_⟩
    rw [rubricatorref22_group.j0]
    exact hk
  rcases Nat.eq_zero_or_pos w.size with h0 | h0
  · have hb : bytesOf w = [] := List.length_eq_zero_iff.1 (by omega)
    obtain ⟨k, hk⟩ := hev false (fun h => by cases h)
    refine ⟨k, ?_⟩
    unfold rubricatorref22_group.f
    rw [if_neg (by omega), hk, hb]
    have e : decide ((w.size : Int) ≥ 1) = false := decide_eq_false (by omega)
    rw [e]
    unfold groupL
    rw [if_pos hb]
    rfl
  · have hne : bytesOf w ≠ [] := fun e => by rw [e] at hlen; simp at hlen; omega
    obtain ⟨k, hk⟩ := hev (decide ((w.size : Int) ≤ 3)) (fun h => by have := of_decide_eq_true h; omega)
    refine ⟨k, ?_⟩
    unfold rubricatorref22_group.f
    rw [if_pos (by omega), hk]
    have e1 : decide ((w.size : Int) ≥ 1) = true := decide_eq_true (by omega)
    rw [e1, Bool.true_and]
    unfold groupL
    rw [if_neg hne]
    have hd0 : bytesOf w = bt w 0 :: (bytesOf w).drop 1 := by
      have := drop_bytes (w := w) (i := 0) h0
      simpa using this
    have hok : okN true (bytesOf w) = (firB (bt w 0) && (bytesOf w).all worB) := by
      rw [hd0]
      show ((firB (bt w 0) || (digB (bt w 0) && !true)) && okN false ((bytesOf w).drop 1)) = (firB (bt w 0) && (worB (bt w 0) && ((bytesOf w).drop 1).all worB))
      rw [okN_wor]
      unfold worB
      cases firB (bt w 0) <;> simp
    rw [hok]
    unfold finG
    by_cases hc : (bytesOf w).all digB = true ∧ w.size ≤ 3
    · have hc2 : (decide ((w.size : Int) ≤ 3) && (bytesOf w).all digB) = true := by
        rw [hc.1, decide_eq_true (show (w.size : Int) ≤ 3 by omega)]
        rfl
      rw [if_pos hc, if_pos hc2]
    · have hc2 : ¬ (decide ((w.size : Int) ≤ 3) && (bytesOf w).all digB) = true := fun h => by
        rw [Bool.and_eq_true] at h
        exact hc ⟨h.2, by have := of_decide_eq_true h.1; omega⟩
      rw [if_neg hc, if_neg hc2]
      by_cases hf : firB (bt w 0) = true ∧ (bytesOf w).all worB = true
      · have hf2 : (firB (bt w 0) && (bytesOf w).all worB) = true := by rw [hf.1, hf.2]; rfl
        rw [if_pos hf, if_pos hf2]
        cases idxS w (ns.drop 1) with
        | none => rfl
        | some i => show some ((1 : Int) + (i : Int), (0 : Int)) = some ((i : Int) + 1, 0); rw [Int.add_comm]
      · have hf2 : ¬ (firB (bt w 0) && (bytesOf w).all worB) = true := fun h => hf (by rwa [Bool.and_eq_true] at h)
        rw [if_neg hf, if_neg hf2]
/-- The reference's word. -/
def wordL (l : List Int) : ByteArray × Bool := match idxB 125 l with | none => (⟨#[]⟩, false) | some i => (strOfNums (l.take i), true)
theorem word_ev (l : List Int) (hl : l.length ≤ 140737488355328) (m : Nat) : ∀ j, j + m = l.length → Ev (fun k => rubricatorref22_word.l0 k l l (l.length : Int) (j : Int)) (match idxB 125 (l.drop j) with | none => (⟨#[]⟩, false) | some i => (strOfNums (l.take (j + i)), true)) := by
  induction m with
  | zero =>
    intro j h
    rw [List.drop_of_length_le (by omega)]
    refine Ev.step (fun k => ?_) (Ev.now _)
    rw [rubricatorref22_word.l0, if_neg (by omega)]
    rfl
  | succ m ih =>
    intro j h
    have hj : j < l.length := by omega
    have hrd : rd l (j : Int) = l[j] := by simp [rd, hj]
    rw [List.drop_eq_getElem_cons hj]
    have hI : idxB 125 (l[j] :: l.drop (j + 1)) = if l[j] = 125 then some 0 else (idxB 125 (l.drop (j + 1))).map (· + 1) := rfl
    rw [hI]
    by_cases he : l[j] = 125
    · rw [if_pos he]
      refine Ev.step (fun k => ?_) (Ev.now _)
      rw [rubricatorref22_word.l0, if_pos (by omega), if_pos (by omega), if_pos (by omega), hrd, if_pos he, if_pos (by omega)]
      show some (strOfNums (l.take (j : Int).toNat), true) = some (strOfNums (l.take (j + 0)), true)
      rw [Int.toNat_natCast, Nat.add_zero]
    · rw [if_neg he]
      have hr : (match (idxB 125 (l.drop (j + 1))).map (· + 1) with | none => ((⟨#[]⟩ : ByteArray), false) | some i => (strOfNums (l.take (j + i)), true)) = (match idxB 125 (l.drop (j + 1)) with | none => (⟨#[]⟩, false) | some i => (strOfNums (l.take (j + 1 + i)), true)) := by
        cases idxB 125 (l.drop (j + 1)) with
        | none => rfl
        | some i =>
          show (strOfNums (l.take (j + (i + 1))), true) = (strOfNums (l.take (j + 1 + i)), true)
          rw [show j + (i + 1) = j + 1 + i by omega]
      rw [hr]
      refine Ev.step (fun k => ?_) (ih (j + 1) (by omega))
      rw [rubricatorref22_word.l0, if_pos (by omega), if_pos (by omega), if_pos (by omega), hrd, if_neg he, show wrap64 ((j : Int) + 1) = ((j + 1 : Nat) : Int) by rw [w64_in _ (by omega)]; omega]
theorem refWord_f (l : List Int) (hl : l.length ≤ 140737488355328) : ∃ k, rubricatorref22_word.f k l = some (wordL l) := by
  obtain ⟨k, hk⟩ := (word_ev l hl l.length 0 (by omega)).rounds
  refine ⟨k, ?_⟩
  unfold rubricatorref22_word.f
  have e : (match idxB 125 (l.drop 0) with | none => ((⟨#[]⟩ : ByteArray), false) | some i => (strOfNums (l.take (0 + i)), true)) = wordL l := by
    unfold wordL
    rw [List.drop_zero]
    cases idxB 125 l with
    | none => rfl
    | some i => show (strOfNums (l.take (0 + i)), true) = _; rw [Nat.zero_add]
  rw [← e]
  exact hk
theorem refDigit_any (c : Int) (w : World) : Calls Tryd.prog 24 #[.int .u8 c] w fun e w' => e = .returned (.bool (digB c)) ∧ Below w.heap.size w w' :=
  (rubricatorref22_digit.calls c (digB c) w (rdig_f c)).mono fun e w' ⟨e1, hd⟩ => ⟨e1, hd.below⟩
theorem refWord_any (w : World) (A : Option Addr) (c : Nat) (l : List Int) (hr : Kd.C kB w A l.length l) (hc : l.length ≤ c) (hl : l.length ≤ 140737488355328) : Calls Tryd.prog 25 #[.slice A l.length c] w fun e w' => e = .returned (.tuple #[.string (wordL l).1, .bool (wordL l).2]) ∧ Below w.heap.size w w' := by
  obtain ⟨k, hk⟩ := refWord_f l hl
  exact (rubricatorref22_word.calls k A c l _ _ w hr hc hk).mono fun e w' ⟨e1, hd⟩ => ⟨e1, hd.below⟩
theorem refGroup_any (w : World) (s : ByteArray) (G : Int) (A : Option Addr) (c : Nat) (ns : List ByteArray) (hr : Kd.C Kd.string w A ns.length ns) (hc : ns.length ≤ c) (hs : s.size ≤ 140737488355328) : Calls Tryd.prog 26 #[.string s, .int .i64 G, .slice A ns.length c] w fun e w' => e = .returned (.tuple #[.int .i64 (groupL s G ns).1, .int .i64 (groupL s G ns).2]) ∧ Below w.heap.size w w' := by
  obtain ⟨k, hk⟩ := refGroup_f s G ns hs hr.2.1
  exact (rubricatorref22_group.calls k s G A c ns _ _ w hr hc hk).mono fun e w' ⟨e1, hd⟩ => ⟨e1, hd.below⟩

end Go.Proofs.YtaejogkinniakaaDoor
