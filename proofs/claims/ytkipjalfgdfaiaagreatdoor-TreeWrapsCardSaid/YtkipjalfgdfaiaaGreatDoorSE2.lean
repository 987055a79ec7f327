/- CkB, ShelfT, LrP, LnP, LnQ, Shelf, LnC, NmP, NmA, TkP2, TkPa, ShelfU, TkPr, CkA, TkQ, CkC, LnR, LnT, NmC, LnU, NmD, NmE. -/
import Derived.Shelf.Strings.OnBuilder
import Derived.Shelf.Strings.IndexAnyAll
import Derived.Shelf.Strings.Runes
import Derived.Shelf.Small.Utf8
import Derived.Shelf.Small.Strs
import Derived.Shelf.Strconv.ErrVar
import Derived.Shelf.Strconv.ParseIntEmpty
import Derived.Shelf.Strconv.Atoi
import Derived.Shelf.Strings.Search3
import Derived.Test.YtkipjalfgdfaiaaGreatDoorProg
import Derived.Below
import Derived.Deep.Draws
import Derived.Deep.AppendLies
import Derived.Maps.AppendAt
import Derived.OwnWalk
import Derived.Laws.BytesArg
import Derived.Laws.MakeOwn
import Derived.Laws.OwnMore
import Derived.Deep.OwnRows
import Derived.Tactics
import Derived.Lib.ConvBytes
import Derived.Laws.Slices
import Derived.WalkKit
import Derived.KernelRfl
import Derived.RowKit3
import Derived.Deep.LoopGhost
import Derived.Deep.QuietTactic
import Derived.BigQuiet
import Derived.WideLaws
import Derived.Deep.DeepCutAuto
import Derived.Deep.CutBlock
import Derived.Deep.RegionHeld3
import Derived.Laws.Rows
import Derived.Lib.AppendStr
import Derived.ArgAppend
import Derived.Laws.IdiomCopy
import Derived.OrdersHeld
import Derived.Laws.BitsLemmas
import Derived.RowKit
import Derived.Test.YtkipjalfgdfaiaaGreatDoorWWords
import Derived.Test.YtkipjalfgdfaiaaGreatDoorWLast
import Derived.Test.YtkipjalfgdfaiaaGreatDoorWRepsOne
import Derived.Lib.SplitLaws
import Derived.Lib.CutLaws
import Derived.Lib.SlTrimSet
import Derived.Shelf.Strings.Cut
import Derived.Shelf.Strings.Split
import Derived.Shelf.Strings.SlTrimAscii
import Derived.Laws.RangeAny
import Derived.Laws.RangeString
import Derived.LoopTactic
import Derived.WalkSpells
import Derived.Test.YtkipjalfgdfaiaaGreatDoorSE1
namespace Go.Proofs.YtkipjalfgdfaiaaGreatDoor
set_option linter.unusedVariables false
set_option linter.unusedSimpArgs false
open Go.RowKit Go.Proofs.YtkipjalfgdfaiaaGreatDoorW.PrintWords Go.Proofs.YtkipjalfgdfaiaaGreatDoor.PTk

section
variable (res : ByteArray → Int × ByteArray × Int)
theorem classN_eq (n : Nd) (deep : Nat) : classN res n deep = (n.f0 == 3 && decide (deep ≤ 50) && onlyB n n.f1 0 0 n.f4 e0 n.f7.length && (if n.f1 = 0 then (!n.f7.isEmpty && membK res n.f7 deep) else (decide (1 ≤ n.f1) && decide (n.f1 ≤ 3) && sidesK res n.f7 deep))) := by cases n; rw [classN]
theorem membK_nil (deep : Nat) : membK res [] deep = true := by rw [membK]
theorem membK_cons (n : Nd) (ns : List Nd) (deep : Nat) : membK res (n :: ns) deep = ((if n.f0 = 1 then onlyB n 0 n.f2 0 false e0 0 && runeB n.f2
      else if n.f0 = 4 then onlyB n 0 n.f2 n.f3 false e0 0 && runeB n.f2 && runeB n.f3 && decide (n.f2 ≤ n.f3)
      else if n.f0 = 5 then propN res n
      else classN res n (deep + 1)) && membK res ns deep) := by rw [membK]
theorem sidesK_two (a b : Nd) (deep : Nat) : sidesK res [a, b] deep = (!a.f4 && !b.f4 && b.f1 == 0 && classN res a deep && classN res b deep) := by rw [sidesK]
theorem sidesK_ok {ks : List Nd} {deep : Nat} (h : sidesK res ks deep = true) : ∃ a b, ks = [a, b] ∧ a.f4 = false ∧ b.f4 = false ∧ b.f1 = 0 ∧ classN res a deep = true ∧ classN res b deep = true := by
  match ks, h with
  | [a, b], h =>
    rw [sidesK_two] at h
    simp only [Bool.and_eq_true, Bool.not_eq_true', beq_iff_eq] at h
    exact ⟨a, b, rfl, h.1.1.1.1, h.1.1.1.2, h.1.1.2, h.1.2, h.2⟩
  | [], h => rw [sidesK] at h; cases h; intros; contradiction
  | [_], h => rw [sidesK] at h; cases h; intros; contradiction
  | _ :: _ :: _ :: _, h => rw [sidesK] at h; cases h; intros; contradiction
theorem only_kids {n : Nd} {m a b : Int} {ng : Bool} {nm : ByteArray} (h : onlyB n m a b ng nm 0 = true) : n.f7 = [] := by
  unfold onlyB at h
  simp only [Bool.and_eq_true, beq_iff_eq, decide_eq_true_eq] at h
  exact List.length_eq_zero_iff.1 h.2
theorem groups_leaf {n : Nd} (h : n.f7 = []) (hk : n.f0 ≠ 9) : groupsN n = 0 := by
  rw [groupsN_eq, h, groupsK_nil, if_neg (fun h => hk h.1)]
theorem depth_leaf {n : Nd} (h : n.f7 = []) (br : Bool) (hk : n.f0 ≠ 3 ∧ n.f0 ≠ 9 ∧ n.f0 ≠ 10 ∧ n.f0 ≠ 11) : depthN n br = 0 := by
  rw [depthN_eq, h, depthK_nil, if_neg hk.1, if_neg (by omega)]
theorem depthK_le {ns : List Nd} {b : Bool} {acc B : Nat} (ha : acc ≤ B) (h : ∀ n ∈ ns, depthN n b ≤ B) : depthK ns b acc ≤ B := by
  induction ns generalizing acc with
  | nil => rw [depthK_nil]; exact ha
  | cons n ns ih =>
    rw [depthK_cons]
    exact ih (by have := h n List.mem_cons_self; omega) (fun m hm => h m (List.mem_cons_of_mem _ hm))
theorem groupsK_zero {ns : List Nd} (h : ∀ n ∈ ns, groupsN n = 0) : groupsK ns = 0 := by
  induction ns with
  | nil => rw [groupsK_nil]
  | cons n ns ih => rw [groupsK_cons, h n List.mem_cons_self, ih (fun m hm => h m (List.mem_cons_of_mem _ hm))]
/-- A class has no groups; how deep it is. -/
theorem class_bounds : (∀ n deep, classN res n deep = true → groupsN n = 0 ∧ depthN n true + deep ≤ 51 ∧ depthN n false + deep ≤ 50) ∧
    (∀ ns : List Nd, (∀ deep, membK res ns deep = true → deep ≤ 50 → ∀ n ∈ ns, groupsN n = 0 ∧ depthN n true + deep ≤ 50) ∧ ∀ n ∈ ns, ∀ deep, classN res n deep = true → groupsN n = 0 ∧ depthN n true + deep ≤ 51 ∧ depthN n false + deep ≤ 50) := by
  refine Nd.ind (fun n ih deep h => ?_) ⟨fun deep _ _ n hn => (by cases hn), fun n hn => (by cases hn)⟩ (fun n ns hn hns => ⟨fun deep h hd m hm => ?_, fun m hm => ?_⟩)
  · rw [classN_eq] at h
    simp only [Bool.and_eq_true, beq_iff_eq, decide_eq_true_eq] at h
    obtain ⟨⟨⟨hk, hd⟩, _⟩, h⟩ := h
    have key : (∀ m ∈ n.f7, groupsN m = 0) ∧ ∀ m ∈ n.f7, depthN m (n.f1 == 0) + deep ≤ 50 := by
      by_cases hm : n.f1 = 0
      · rw [if_pos hm] at h
        simp only [Bool.and_eq_true] at h
        have := ih.1 deep h.2 hd
        rw [hm]
        exact ⟨fun m hm => (this m hm).1, fun m hm => (this m hm).2⟩
      · rw [if_neg hm] at h
        simp only [Bool.and_eq_true] at h
        obtain ⟨a, b, e, _, _, _, ha, hb⟩ := sidesK_ok res h.2
        have := ih.2
        rw [e] at this ⊢
        have ga := this a (by simp) deep ha
        have gb := this b (by simp) deep hb
        rw [show (n.f1 == 0) = false by rw [beq_eq_false_iff_ne]; exact hm]
        refine ⟨fun m hm => ?_, fun m hm => ?_⟩
        · simp only [List.mem_cons, List.not_mem_nil, or_false] at hm
          rcases hm with hm | hm <;> subst hm
          · exact ga.1
          · exact gb.1
        · simp only [List.mem_cons, List.not_mem_nil, or_false] at hm
          rcases hm with hm | hm <;> subst hm
          · exact ga.2.2
          · exact gb.2.2
    have hdk : depthK n.f7 (n.f1 == 0) 0 ≤ 50 - deep := depthK_le (Nat.zero_le _) (fun m hm => by have := key.2 m hm; omega)
    rw [groupsN_eq, groupsK_zero key.1, if_neg (by omega), depthN_eq, depthN_eq, if_pos hk, if_pos hk, if_pos rfl, if_pos hk, if_neg (by decide)]
    omega
  · rw [membK_cons] at h
    simp only [Bool.and_eq_true] at h
    rcases List.mem_cons.1 hm with e | e
    · subst e
      have h1 := h.1
      split at h1
      · rename_i hk
        simp only [Bool.and_eq_true] at h1
        have := only_kids h1.1
        rw [groups_leaf this (by omega), depth_leaf this true (by omega)]
        omega
      · split at h1
        · simp only [Bool.and_eq_true] at h1
          have := only_kids h1.1.1.1
          rw [groups_leaf this (by omega), depth_leaf this true (by omega)]
          omega
        · split at h1
          · unfold propN at h1
            simp only [Bool.and_eq_true] at h1
            have := only_kids h1.1
            rw [groups_leaf this (by omega), depth_leaf this true (by omega)]
            omega
          · have := hn (deep + 1) h1
            omega
    · exact hns.1 deep h.2 hd m e
  · rcases List.mem_cons.1 hm with e | e
    · subst e; exact hn
    · exact hns.2 m e
theorem partN_eq (n : Nd) (deep : Nat) (c : Gs) : partN res n deep c =
    if n.f0 = 1 then (if (onlyB n 0 n.f2 0 false e0 0 && runeB n.f2) = true then some c else none)
    else if n.f0 = 2 ∨ n.f0 = 14 then (if onlyB n 0 0 0 false e0 0 = true then some c else none)
    else if n.f0 = 3 then (if classN res n (deep + 1) = true then some c else none)
    else if n.f0 = 5 then (if propN res n = true then some c else none)
    else if n.f0 = 12 then (if (onlyB n n.f1 0 0 false e0 0 && decide (1 ≤ n.f1) && decide (n.f1 ≤ 10)) = true then some c else none)
    else if n.f0 = 13 then (if (onlyB n 0 n.f2 0 false e0 0 && decide (0 < n.f2) && decide (n.f2 ≤ (c.1 : Int))) = true then some c else none)
    else if n.f0 = 8 then (if (onlyB n n.f1 n.f2 n.f3 false e0 n.f7.length && decide (0 ≤ n.f1) && decide (n.f1 ≤ 2) && decide (0 ≤ n.f2) && decide (n.f2 ≤ 100) && (n.f3 == -1 || (decide (n.f2 ≤ n.f3) && decide (n.f3 ≤ 100)))) = true then repK res n.f7 deep c else none)
    else if n.f0 = 9 then (if onlyB n 0 n.f2 0 false n.f5 n.f7.length = true then ((groupS n.f2 n.f5 c).bind fun c' => withK res n.f7 deep c') else none)
    else if n.f0 = 10 then (if (onlyB n n.f1 0 0 false e0 n.f7.length && decide (0 ≤ n.f1) && decide (n.f1 ≤ 3)) = true then withK res n.f7 deep c else none)
    else if n.f0 = 11 then (if onlyB n 0 0 0 false e0 n.f7.length = true then withK res n.f7 deep c else none)
    else none := by cases n; rw [partN]
theorem bodyN_eq (n : Nd) (deep : Nat) (c : Gs) : bodyN res n deep c =
    if onlyB n 0 0 0 false e0 n.f7.length = true then (if n.f0 = 7 then (if 1 < n.f7.length then seqK res n.f7 deep c else none) else if n.f0 = 6 then partK res n.f7 deep c else none) else none := by cases n; rw [bodyN]
theorem seqN_eq (n : Nd) (deep : Nat) (c : Gs) : seqN res n deep c = if n.f0 = 6 ∧ onlyB n 0 0 0 false e0 n.f7.length = true then partK res n.f7 deep c else none := by cases n; rw [seqN]
theorem seqK_nil (deep : Nat) (c : Gs) : seqK res [] deep c = some c := by rw [seqK]
theorem seqK_cons (n : Nd) (ns : List Nd) (deep : Nat) (c : Gs) : seqK res (n :: ns) deep c = (seqN res n deep c).bind fun c' => seqK res ns deep c' := by rw [seqK]
theorem partK_nil (deep : Nat) (c : Gs) : partK res [] deep c = some c := by rw [partK]
theorem partK_cons (n : Nd) (ns : List Nd) (deep : Nat) (c : Gs) : partK res (n :: ns) deep c = (partN res n deep c).bind fun c' => partK res ns deep c' := by rw [partK]
theorem repK_ok {ks : List Nd} {deep : Nat} {c c' : Gs} (h : repK res ks deep c = some c') : ∃ m, ks = [m] ∧ m.f0 ≠ 8 ∧ m.f0 ≠ 10 ∧ m.f0 ≠ 12 ∧ partN res m deep c = some c' := by
  match ks, h with
  | [m], h =>
    rw [repK] at h
    by_cases hk : m.f0 = 8 ∨ m.f0 = 10 ∨ m.f0 = 12
    · rw [if_pos hk] at h; cases h
    · rw [if_neg hk] at h; exact ⟨m, rfl, by omega, by omega, by omega, h⟩
  | [], h => rw [repK] at h; cases h; intros; contradiction
  | _ :: _ :: _, h => rw [repK] at h; cases h; intros; contradiction
theorem withK_ok {ks : List Nd} {deep : Nat} {c c' : Gs} (h : withK res ks deep c = some c') : ∃ m, ks = [m] ∧ deep < 50 ∧ bodyN res m (deep + 1) c = some c' := by
  match ks, h with
  | [m], h =>
    rw [withK] at h
    by_cases hk : deep < 50
    · rw [if_pos hk] at h; exact ⟨m, rfl, hk, h⟩
    · rw [if_neg hk] at h; cases h
  | [], h => rw [withK] at h; cases h; intros; contradiction
  | _ :: _ :: _, h => rw [withK] at h; cases h; intros; contradiction
theorem groupS_ok {a : Int} {nm : ByteArray} {c c' : Gs} (h : groupS a nm c = some c') (hc : c.1 ≤ 20) : c'.1 = c.1 + (if 0 < a then 1 else 0) ∧ c'.1 ≤ 20 := by
  unfold groupS at h
  split at h
  · split at h
    · cases h; rw [if_neg (by omega)]; exact ⟨rfl, hc⟩
    · cases h
  · split at h
    · rename_i ha
      have hp : 0 < a := by omega
      rw [if_pos hp]
      split at h
      · cases h; exact ⟨rfl, by show c.1 + 1 ≤ 20; omega⟩
      · split at h
        · cases h; exact ⟨rfl, by show c.1 + 1 ≤ 20; omega⟩
        · cases h
    · cases h
/-- What holds of a part: how many groups, how deep. -/
def Bnd (deep : Nat) (c c' : Gs) (g d : Nat) : Prop := c'.1 = c.1 + g ∧ c'.1 ≤ 20 ∧ d + deep ≤ 50
theorem depth_one {n m : Nd} (h : n.f7 = [m]) (br : Bool) (hk : n.f0 ≠ 3) : depthN n br = depthN m true + (if n.f0 = 9 ∨ n.f0 = 10 ∨ n.f0 = 11 then 1 else 0) := by
  rw [depthN_eq, h, depthK_cons, depthK_nil, if_neg hk, if_neg hk]
  omega
theorem groups_one {n m : Nd} (h : n.f7 = [m]) : groupsN n = groupsN m + (if n.f0 = 9 ∧ 0 < n.f2 then 1 else 0) := by
  rw [groupsN_eq, h, groupsK_cons, groupsK_nil]
  omega
theorem parts_bounds : (∀ n : Nd, (∀ deep c c', partN res n deep c = some c' → deep ≤ 50 → c.1 ≤ 20 → Bnd deep c c' (groupsN n) (depthN n true)) ∧ (∀ deep c c', seqN res n deep c = some c' → deep ≤ 50 → c.1 ≤ 20 → Bnd deep c c' (groupsN n) (depthN n true)) ∧
      (∀ deep c c', bodyN res n deep c = some c' → deep ≤ 50 → c.1 ≤ 20 → Bnd deep c c' (groupsN n) (depthN n true))) ∧
    (∀ ns : List Nd, (∀ deep c c', partK res ns deep c = some c' → deep ≤ 50 → c.1 ≤ 20 → c'.1 = c.1 + groupsK ns ∧ c'.1 ≤ 20 ∧ ∀ n ∈ ns, depthN n true + deep ≤ 50) ∧
      (∀ deep c c', seqK res ns deep c = some c' → deep ≤ 50 → c.1 ≤ 20 → c'.1 = c.1 + groupsK ns ∧ c'.1 ≤ 20 ∧ ∀ n ∈ ns, depthN n true + deep ≤ 50) ∧
      (∀ n, ns = [n] → (∀ deep c c', partN res n deep c = some c' → deep ≤ 50 → c.1 ≤ 20 → Bnd deep c c' (groupsN n) (depthN n true)) ∧ (∀ deep c c', bodyN res n deep c = some c' → deep ≤ 50 → c.1 ≤ 20 → Bnd deep c c' (groupsN n) (depthN n true)))) := by
  refine Nd.ind (fun n ih => ?_) ⟨fun deep c c' h _ hc => ?_, fun deep c c' h _ hc => ?_, fun n h => (by cases h)⟩ (fun n ns hn hns => ⟨fun deep c c' h hd hc => ?_, fun deep c c' h hd hc => ?_, fun m hm => ?_⟩)
  · have hseq : ∀ deep c c', n.f0 = 6 → partK res n.f7 deep c = some c' → deep ≤ 50 → c.1 ≤ 20 → Bnd deep c c' (groupsN n) (depthN n true) := fun deep c c' hk h hd hc => by
      obtain ⟨h1, h2, h3⟩ := ih.1 deep c c' h hd hc
      have := depthK_le (ns := n.f7) (b := true) (acc := 0) (B := 50 - deep) (Nat.zero_le _) (fun m hm => by have := h3 m hm; omega)
      refine ⟨?_, h2, ?_⟩
      · rw [groupsN_eq, if_neg (by omega)]; omega
      · rw [depthN_eq, if_neg (by omega), if_neg (by omega), if_neg (by omega)]; omega
    refine ⟨fun deep c c' h hd hc => ?_, fun deep c c' h hd hc => ?_, fun deep c c' h hd hc => ?_⟩
    · rw [partN_eq] at h
      have leaf : ∀ {m a b : Int} {ng : Bool} {nm : ByteArray}, onlyB n m a b ng nm 0 = true → (n.f0 ≠ 3 ∧ n.f0 ≠ 9 ∧ n.f0 ≠ 10 ∧ n.f0 ≠ 11) → c = c' → Bnd deep c c' (groupsN n) (depthN n true) := fun ho hk e => by
        subst e
        have := only_kids ho
        rw [groups_leaf this hk.2.1, depth_leaf this true hk]
        exact ⟨rfl, hc, by omega⟩
      have wth : ∀ {c1 : Gs}, c1.1 ≤ 20 → withK res n.f7 deep c1 = some c' → (n.f0 = 9 ∨ n.f0 = 10 ∨ n.f0 = 11) → ∃ m, n.f7 = [m] ∧ c'.1 = c1.1 + groupsN m ∧ c'.1 ≤ 20 ∧ depthN n true + deep ≤ 50 := fun hc1 h hk => by
        obtain ⟨m, hm, hd2, hb⟩ := withK_ok res h
        have hb2 := ((ih.2.2 m hm).2) (deep + 1) _ c' hb (by omega) hc1
        refine ⟨m, hm, hb2.1, hb2.2.1, ?_⟩
        rw [depth_one hm true (by omega), if_pos hk]
        have := hb2.2.2
        omega
      by_cases k1 : n.f0 = 1
      · rw [if_pos k1] at h
        split at h
        · rename_i ho
          simp only [Bool.and_eq_true] at ho
          exact leaf ho.1 (by omega) (Option.some.inj h)
        · cases h
      rw [if_neg k1] at h
      by_cases k2 : n.f0 = 2 ∨ n.f0 = 14
      · rw [if_pos k2] at h
        split at h
        · rename_i ho
          exact leaf ho (by omega) (Option.some.inj h)
        · cases h
      rw [if_neg k2] at h
      by_cases k3 : n.f0 = 3
      · rw [if_pos k3] at h
        split at h
        · rename_i ho
          have := (class_bounds res).1 n (deep + 1) ho
          cases h
          exact ⟨by omega, hc, by omega⟩
        · cases h
      rw [if_neg k3] at h
      by_cases k5 : n.f0 = 5
      · rw [if_pos k5] at h
        split at h
        · rename_i ho
          unfold propN at ho
          simp only [Bool.and_eq_true] at ho
          exact leaf ho.1 (by omega) (Option.some.inj h)
        · cases h
      rw [if_neg k5] at h
      by_cases k12 : n.f0 = 12
      · rw [if_pos k12] at h
        split at h
        · rename_i ho
          simp only [Bool.and_eq_true] at ho
          exact leaf ho.1.1 (by omega) (Option.some.inj h)
        · cases h
      rw [if_neg k12] at h
      by_cases k13 : n.f0 = 13
      · rw [if_pos k13] at h
        split at h
        · rename_i ho
          simp only [Bool.and_eq_true] at ho
          exact leaf ho.1.1 (by omega) (Option.some.inj h)
        · cases h
      rw [if_neg k13] at h
      by_cases k8 : n.f0 = 8
      · rw [if_pos k8] at h
        split at h
        · rename_i ho
          obtain ⟨m, hm, _, _, _, hp⟩ := repK_ok res h
          have hb := ((ih.2.2 m hm).1) deep c c' hp hd hc
          refine ⟨?_, hb.2.1, ?_⟩
          · rw [groups_one hm, if_neg (by omega)]; exact hb.1
          · rw [depth_one hm true (by omega), if_neg (by omega)]; exact hb.2.2
        · cases h
      rw [if_neg k8] at h
      by_cases k9 : n.f0 = 9
      · rw [if_pos k9] at h
        split at h
        · rename_i ho
          cases hg : groupS n.f2 n.f5 c with
          | none => rw [hg] at h; cases h
          | some c1 =>
            rw [hg, Option.bind_some] at h
            have hgo := groupS_ok hg hc
            obtain ⟨m, hm, h1, h2, h3⟩ := wth hgo.2 h (.inl k9)
            refine ⟨?_, h2, h3⟩
            rw [groups_one hm]
            by_cases hp : 0 < n.f2
            · rw [if_pos hp] at hgo
              rw [if_pos ⟨k9, hp⟩]; omega
            · rw [if_neg hp] at hgo
              rw [if_neg (fun h => hp h.2)]; omega
        · cases h
      rw [if_neg k9] at h
      by_cases k10 : n.f0 = 10
      · rw [if_pos k10] at h
        split at h
        · rename_i ho
          obtain ⟨m, hm, h1, h2, h3⟩ := wth hc h (.inr (.inl k10))
          refine ⟨?_, h2, h3⟩
          rw [groups_one hm, if_neg (by omega)]; exact h1
        · cases h
      rw [if_neg k10] at h
      by_cases k11 : n.f0 = 11
      · rw [if_pos k11] at h
        split at h
        · rename_i ho
          obtain ⟨m, hm, h1, h2, h3⟩ := wth hc h (.inr (.inr k11))
          refine ⟨?_, h2, h3⟩
          rw [groups_one hm, if_neg (by omega)]; exact h1
        · cases h
      rw [if_neg k11] at h
      cases h
    · rw [seqN_eq] at h
      split at h
      · rename_i hk
        exact hseq deep c c' hk.1 h hd hc
      · cases h
    · rw [bodyN_eq] at h
      split at h
      · split at h
        · split at h
          · rename_i hk _
            obtain ⟨h1, h2, h3⟩ := ih.2.1 deep c c' h hd hc
            have := depthK_le (ns := n.f7) (b := true) (acc := 0) (B := 50 - deep) (Nat.zero_le _) (fun m hm => by have := h3 m hm; omega)
            refine ⟨?_, h2, ?_⟩
            · rw [groupsN_eq, if_neg (by omega)]; omega
            · rw [depthN_eq, if_neg (by omega), if_neg (by omega), if_neg (by omega)]; omega
          · cases h
        · split at h
          · rename_i hk
            exact hseq deep c c' hk h hd hc
          · cases h
      · cases h
  · rw [partK_nil] at h
    cases h
    exact ⟨by rw [groupsK_nil]; rfl, hc, fun n hn => by cases hn⟩
  · rw [seqK_nil] at h
    cases h
    exact ⟨by rw [groupsK_nil]; rfl, hc, fun n hn => by cases hn⟩
  · rw [partK_cons] at h
    cases hp : partN res n deep c with
    | none => rw [hp] at h; cases h
    | some c1 =>
      rw [hp, Option.bind_some] at h
      have h1 := hn.1 deep c c1 hp hd hc
      have h2 := hns.1 deep c1 c' h hd h1.2.1
      refine ⟨by rw [groupsK_cons]; have := h1.1; omega, h2.2.1, fun m hm => ?_⟩
      rcases List.mem_cons.1 hm with e | e
      · subst e; exact h1.2.2
      · exact h2.2.2 m e
  · rw [seqK_cons] at h
    cases hp : seqN res n deep c with
    | none => rw [hp] at h; cases h
    | some c1 =>
      rw [hp, Option.bind_some] at h
      have h1 := hn.2.1 deep c c1 hp hd hc
      have h2 := hns.2.1 deep c1 c' h hd h1.2.1
      refine ⟨by rw [groupsK_cons]; have := h1.1; omega, h2.2.1, fun m hm => ?_⟩
      rcases List.mem_cons.1 hm with e | e
      · subst e; exact h1.2.2
      · exact h2.2.2 m e
  · cases hm
    exact ⟨hn.1, hn.2.2⟩
end

end Go.Proofs.YtkipjalfgdfaiaaGreatDoor
namespace Go.Proofs
open Go.Shelf
def Tryz.lays119_ren : Go.Shelf.Ren := ⟨fun | 119 => 179 | n => n, fun | 21 => 21 | 4 => 4 | n => n, fun | n => n⟩
theorem Tryz.lays119 : Go.Proofs.Lays.n119 Tryz.prog Tryz.lays119_ren := {
  mixed := by kernel_rfl
  f119 := Tryz.func179.trans (congrArg some (by kernel_rfl))
  t4 := Tryz.underlying4
  a4 := Tryz.isAgg4
  z4 := Tryz.sizeOf4
  v4 := Tryz.zeroValue4
  t21 := Tryz.underlying21
  a21 := Tryz.isAgg21
  z21 := Tryz.sizeOf21
  v21 := Tryz.zeroValue21 }
/-- utf8.ValidRune: "ValidRune reports whether r can be legally encoded as UTF-8. Code points that are out of range or a surrogate half are illegal.": IT RETURNS 'Lib.validRune r'; the world is as it was. (LAID: no walk: one application.) -/
theorem Tryz.utf8_ValidRune (r : Int) (w : World) :
    Calls Tryz.prog 179 #[.int .i32 r] w fun e w' => e = .returned (.bool (Lib.validRune r)) ∧ w' = w := Any.utf8_ValidRune Tryz.lays119 r w
def Tryz.lays137_ren : Go.Shelf.Ren := ⟨fun | 137 => 116 | 217 => 137 | 266 => 164 | n => n, fun | 9 => 9 | 5 => 5 | 3 => 3 | n => n, fun | n => n⟩
theorem Tryz.lays137 : Go.Proofs.Lays.n137 Tryz.prog Tryz.lays137_ren := {
  mixed := by kernel_rfl
  f137 := Tryz.func116.trans (congrArg some (by kernel_rfl))
  f217 := Tryz.func137.trans (congrArg some (by kernel_rfl))
  f266 := Tryz.func164.trans (congrArg some (by kernel_rfl))
  t3 := Tryz.underlying3
  a3 := Tryz.isAgg3
  z3 := Tryz.sizeOf3
  v3 := Tryz.zeroValue3
  t5 := Tryz.underlying5
  a5 := Tryz.isAgg5
  z5 := Tryz.sizeOf5
  v5 := Tryz.zeroValue5
  t9 := Tryz.underlying9
  a9 := Tryz.isAgg9
  z9 := Tryz.sizeOf9
  v9 := Tryz.zeroValue9 }
open Go.RowKit in
/-- strings.IndexByte: "IndexByte returns the index of the first instance of c in s, or -1 if c is not present in s.": IT RETURNS 'Lib.indexByte s c'; the world is as it was. (LAID: no walk: one application.) -/
theorem Tryz.strings_IndexByte (s : ByteArray) (c : Int) (w : World) :
    Calls Tryz.prog 116 #[.string s, .int .u8 c] w fun e w' => e = .returned (.int .i64 (Lib.indexByte s.data.toList c.toNat.toUInt8)) ∧ w' = w := Any.strings_IndexByte Tryz.lays137 s c w
def Tryz.lays152_ren : Go.Shelf.Ren := ⟨fun | 152 => 166 | 137 => 116 | 119 => 179 | 224 => 139 | 225 => 138 | 217 => 137 | 266 => 164 | n => n, fun | 9 => 9 | 21 => 21 | 3 => 3 | 4 => 4 | 5 => 5 | 0 => 0 | 46 => 43 | n => n, fun | n => n⟩
theorem Tryz.lays152 : Go.Proofs.Lays.n152 Tryz.prog Tryz.lays152_ren := {
  mixed := by kernel_rfl
  f119 := Tryz.func179.trans (congrArg some (by kernel_rfl))
  f137 := Tryz.func116.trans (congrArg some (by kernel_rfl))
  f152 := Tryz.func166.trans (congrArg some (by kernel_rfl))
  f217 := Tryz.func137.trans (congrArg some (by kernel_rfl))
  f224 := Tryz.func139.trans (congrArg some (by kernel_rfl))
  f225 := Tryz.func138.trans (congrArg some (by kernel_rfl))
  f266 := Tryz.func164.trans (congrArg some (by kernel_rfl))
  t0 := Tryz.underlying0
  a0 := Tryz.isAgg0
  z0 := Tryz.sizeOf0
  v0 := Tryz.zeroValue0
  t3 := Tryz.underlying3
  a3 := Tryz.isAgg3
  z3 := Tryz.sizeOf3
  v3 := Tryz.zeroValue3
  t4 := Tryz.underlying4
  a4 := Tryz.isAgg4
  z4 := Tryz.sizeOf4
  v4 := Tryz.zeroValue4
  t5 := Tryz.underlying5
  a5 := Tryz.isAgg5
  z5 := Tryz.sizeOf5
  v5 := Tryz.zeroValue5
  t9 := Tryz.underlying9
  a9 := Tryz.isAgg9
  z9 := Tryz.sizeOf9
  v9 := Tryz.zeroValue9
  t21 := Tryz.underlying21
  a21 := Tryz.isAgg21
  z21 := Tryz.sizeOf21
  v21 := Tryz.zeroValue21
  t46 := Tryz.underlying43
  a46 := Tryz.isAgg43
  z46 := Tryz.sizeOf43
  v46 := Tryz.zeroValue43 }
open Go.RowKit Go.Lib in
theorem Tryz.strings_IndexRune_ascii (s : ByteArray) (r : Int) (w : World) (h0 : 0 ≤ r) (h1 : r < 128) :
    Calls Tryz.prog 166 #[.string s, .int .i32 r] w fun e w' => e = .returned (.int .i64 (Lib.indexByte s.data.toList r.toNat.toUInt8)) ∧ w' = w := Any.strings_IndexRune_ascii Tryz.lays152 s r w h0 h1
def Tryz.lays226_ren : Go.Shelf.Ren := ⟨fun | 226 => 167 | n => n, fun | 3 => 3 | 4 => 4 | n => n, fun | n => n⟩
theorem Tryz.lays226 : Go.Proofs.Lays.n226 Tryz.prog Tryz.lays226_ren := {
  mixed := by kernel_rfl
  f226 := Tryz.func167.trans (congrArg some (by kernel_rfl))
  t3 := Tryz.underlying3
  a3 := Tryz.isAgg3
  z3 := Tryz.sizeOf3
  v3 := Tryz.zeroValue3
  t4 := Tryz.underlying4
  a4 := Tryz.isAgg4
  z4 := Tryz.sizeOf4
  v4 := Tryz.zeroValue4 }
open Go.RowKit Go.Lib in
theorem Tryz.strings_shouldUseASCIISet (n : Int) (w : World) :
    Calls Tryz.prog 167 #[.int .i64 n] w fun e w' => e = .returned (.bool (decide (8 < n))) ∧ w' = w := Any.strings_shouldUseASCIISet Tryz.lays226 n w
def Tryz.lays153_ren : Go.Shelf.Ren := ⟨fun | 153 => 142 | 152 => 166 | 226 => 167 | 227 => 168 | 228 => 169 | 137 => 116 | 119 => 179 | 224 => 139 | 225 => 138 | 217 => 137 | 266 => 164 | n => n, fun | 9 => 9 | 3 => 3 | 4 => 4 | 5 => 5 | 21 => 21 | 117 => 189 | 116 => 188 | 0 => 0 | 46 => 43 | 124 => 203 | n => n, fun | n => n⟩
theorem Tryz.lays153 : Go.Proofs.Lays.n153 Tryz.prog Tryz.lays153_ren := {
  mixed := by kernel_rfl
  f119 := Tryz.func179.trans (congrArg some (by kernel_rfl))
  f137 := Tryz.func116.trans (congrArg some (by kernel_rfl))
  f152 := Tryz.func166.trans (congrArg some (by kernel_rfl))
  f153 := Tryz.func142.trans (congrArg some (by kernel_rfl))
  f217 := Tryz.func137.trans (congrArg some (by kernel_rfl))
  f224 := Tryz.func139.trans (congrArg some (by kernel_rfl))
  f225 := Tryz.func138.trans (congrArg some (by kernel_rfl))
  f226 := Tryz.func167.trans (congrArg some (by kernel_rfl))
  f227 := Tryz.func168.trans (congrArg some (by kernel_rfl))
  f228 := Tryz.func169.trans (congrArg some (by kernel_rfl))
  f266 := Tryz.func164.trans (congrArg some (by kernel_rfl))
  t0 := Tryz.underlying0
  a0 := Tryz.isAgg0
  z0 := Tryz.sizeOf0
  v0 := Tryz.zeroValue0
  t3 := Tryz.underlying3
  a3 := Tryz.isAgg3
  z3 := Tryz.sizeOf3
  v3 := Tryz.zeroValue3
  t4 := Tryz.underlying4
  a4 := Tryz.isAgg4
  z4 := Tryz.sizeOf4
  v4 := Tryz.zeroValue4
  t5 := Tryz.underlying5
  a5 := Tryz.isAgg5
  z5 := Tryz.sizeOf5
  v5 := Tryz.zeroValue5
  t9 := Tryz.underlying9
  a9 := Tryz.isAgg9
  z9 := Tryz.sizeOf9
  v9 := Tryz.zeroValue9
  t21 := Tryz.underlying21
  a21 := Tryz.isAgg21
  z21 := Tryz.sizeOf21
  v21 := Tryz.zeroValue21
  t46 := Tryz.underlying43
  a46 := Tryz.isAgg43
  z46 := Tryz.sizeOf43
  v46 := Tryz.zeroValue43
  t116 := Tryz.underlying188
  a116 := Tryz.isAgg188
  z116 := Tryz.sizeOf188
  t117 := Tryz.underlying189
  a117 := Tryz.isAgg189
  z117 := Tryz.sizeOf189
  v117 := Tryz.zeroValue189
  t124 := Tryz.underlying203
  a124 := Tryz.isAgg203
  z124 := Tryz.sizeOf203
  v124 := Tryz.zeroValue203 }
open Go.RowKit Go.Lib in
theorem Tryz.strings_IndexAny_long (hv116 : ∀ w, (zeroValue 188).run Tryz.prog w = .ok (.agg (Array.replicate 256 (.bool false))) w) (s chars : ByteArray) (w : World) (h2 : 2 ≤ chars.size) (h8 : 8 < s.size) (hs : s.size < 4294967281) (hcs : chars.size < 4294967281) (hascii : ∀ (j : Nat) b, chars.data.toList[j]? = some b → b.toNat < 128) :
    Calls Tryz.prog 142 #[.string s, .string chars] w fun e w' => e = .returned (.int .i64 (Lib.indexAny s.data.toList chars.data.toList)) ∧ w' = ((w.alloc (.cells (Lib.setCells chars.data.toList) 188)).alloc (.cells (Lib.setCells chars.data.toList) 188)) := Any.strings_IndexAny_long Tryz.lays153 hv116 (by kernel_rfl) s chars w h2 h8 hs hcs hascii
open Go.RowKit Go.Lib in
open Go.RowKit Go.Lib in
def Tryz.lays144_ren : Go.Shelf.Ren := ⟨fun | 144 => 40 | 143 => 64 | 219 => 99 | 217 => 137 | 225 => 138 | 224 => 139 | 267 => 140 | 266 => 164 | 314 => 165 | n => n, fun | 9 => 9 | 4 => 4 | 3 => 3 | 5 => 5 | 46 => 43 | 146 => 184 | 51 => 160 | n => n, fun | 1 => 2 | n => n⟩
theorem Tryz.lays144 : Go.Proofs.Lays.n144 Tryz.prog Tryz.lays144_ren := {
  mixed := by kernel_rfl
  f143 := Tryz.func64.trans (congrArg some (by kernel_rfl))
  f144 := Tryz.func40.trans (congrArg some (by kernel_rfl))
  f217 := Tryz.func137.trans (congrArg some (by kernel_rfl))
  f219 := Tryz.func99.trans (congrArg some (by kernel_rfl))
  f224 := Tryz.func139.trans (congrArg some (by kernel_rfl))
  f225 := Tryz.func138.trans (congrArg some (by kernel_rfl))
  f266 := Tryz.func164.trans (congrArg some (by kernel_rfl))
  f267 := Tryz.func140.trans (congrArg some (by kernel_rfl))
  f314 := Tryz.func165.trans (congrArg some (by kernel_rfl))
  t3 := Tryz.underlying3
  a3 := Tryz.isAgg3
  z3 := Tryz.sizeOf3
  v3 := Tryz.zeroValue3
  t4 := Tryz.underlying4
  a4 := Tryz.isAgg4
  z4 := Tryz.sizeOf4
  v4 := Tryz.zeroValue4
  t5 := Tryz.underlying5
  a5 := Tryz.isAgg5
  z5 := Tryz.sizeOf5
  v5 := Tryz.zeroValue5
  t9 := Tryz.underlying9
  a9 := Tryz.isAgg9
  z9 := Tryz.sizeOf9
  v9 := Tryz.zeroValue9
  t46 := Tryz.underlying43
  a46 := Tryz.isAgg43
  z46 := Tryz.sizeOf43
  v46 := Tryz.zeroValue43
  t51 := Tryz.underlying160
  a51 := Tryz.isAgg160
  z51 := Tryz.sizeOf160
  v51 := Tryz.zeroValue160
  t146 := Tryz.underlying184
  a146 := Tryz.isAgg184
  z146 := Tryz.sizeOf184
  v146 := Tryz.zeroValue184
  g1 := by kernel_rfl }
open Go.RowKit Go.Lib in
/-- strings.Contains: "Contains reports whether substr is within s.": IT RETURNS 'Lib.contains s substr'; the world is as it was. (LAID: no walk: one application.) -/
theorem Tryz.strings_Contains (s sub : ByteArray) (m : Int) (w : World) (hs : s.size < 4294967281) (hm : w.cell? ⟨2, 0, none⟩ = some (.int .i64 m)) :
    Calls Tryz.prog 40 #[.string s, .string sub] w fun e w' => e = .returned (.bool (Lib.contains s.data.toList sub.data.toList)) ∧ w' = w := Any.strings_Contains Tryz.lays144 s sub m w hs hm
open Go.RowKit in
open Go.RowKit in
open Go.RowKit in
open Go.RowKit in
open Go.RowKit in
def Tryz.lays158_ren : Go.Shelf.Ren := ⟨fun | 158 => 38 | 165 => 59 | 166 => 42 | 167 => 60 | 169 => 29 | 230 => 61 | 203 => 62 | 240 => 65 | 241 => 89 | 197 => 90 | 118 => 91 | 168 => 92 | 270 => 93 | 262 => 94 | 276 => 100 | 277 => 128 | 260 => 129 | 242 => 130 | 313 => 131 | 278 => 159 | 274 => 160 | 275 => 161 | n => n, fun | 9 => 9 | 4 => 4 | 3 => 3 | 5 => 5 | 72 => 59 | 0 => 0 | 76 => 91 | 75 => 90 | 107 => 111 | 70 => 57 | 20 => 20 | 37 => 34 | 127 => 97 | 21 => 21 | 105 => 125 | 164 => 136 | 162 => 157 | 203 => 155 | 119 => 176 | 46 => 43 | 139 => 179 | 138 => 178 | 51 => 160 | 160 => 180 | 208 => 200 | 206 => 198 | 80 => 61 | n => n, fun | 13 => 0 | 3 => 3 | 4 => 4 | n => n⟩
theorem Tryz.lays158 : Go.Proofs.Lays.n158 Tryz.prog Tryz.lays158_ren := {
  mixed := by kernel_rfl
  f118 := Tryz.func91.trans (congrArg some (by kernel_rfl))
  f158 := Tryz.func38.trans (congrArg some (by kernel_rfl))
  f165 := Tryz.func59.trans (congrArg some (by kernel_rfl))
  f166 := Tryz.func42.trans (congrArg some (by kernel_rfl))
  f167 := Tryz.func60.trans (congrArg some (by kernel_rfl))
  f168 := Tryz.func92.trans (congrArg some (by kernel_rfl))
  f169 := Tryz.func29.trans (congrArg some (by kernel_rfl))
  f197 := Tryz.func90.trans (congrArg some (by kernel_rfl))
  f203 := Tryz.func62.trans (congrArg some (by kernel_rfl))
  f230 := Tryz.func61.trans (congrArg some (by kernel_rfl))
  f240 := Tryz.func65.trans (congrArg some (by kernel_rfl))
  f241 := Tryz.func89.trans (congrArg some (by kernel_rfl))
  f242 := Tryz.func130.trans (congrArg some (by kernel_rfl))
  f260 := Tryz.func129.trans (congrArg some (by kernel_rfl))
  f262 := Tryz.func94.trans (congrArg some (by kernel_rfl))
  f270 := Tryz.func93.trans (congrArg some (by kernel_rfl))
  f274 := Tryz.func160.trans (congrArg some (by kernel_rfl))
  f275 := Tryz.func161.trans (congrArg some (by kernel_rfl))
  f276 := Tryz.func100.trans (congrArg some (by kernel_rfl))
  f277 := Tryz.func128.trans (congrArg some (by kernel_rfl))
  f278 := Tryz.func159.trans (congrArg some (by kernel_rfl))
  f313 := Tryz.func131.trans (congrArg some (by kernel_rfl))
  t0 := Tryz.underlying0
  a0 := Tryz.isAgg0
  z0 := Tryz.sizeOf0
  v0 := Tryz.zeroValue0
  t3 := Tryz.underlying3
  a3 := Tryz.isAgg3
  z3 := Tryz.sizeOf3
  v3 := Tryz.zeroValue3
  t4 := Tryz.underlying4
  a4 := Tryz.isAgg4
  z4 := Tryz.sizeOf4
  v4 := Tryz.zeroValue4
  t5 := Tryz.underlying5
  a5 := Tryz.isAgg5
  z5 := Tryz.sizeOf5
  v5 := Tryz.zeroValue5
  t9 := Tryz.underlying9
  a9 := Tryz.isAgg9
  z9 := Tryz.sizeOf9
  v9 := Tryz.zeroValue9
  t20 := Tryz.underlying20
  a20 := Tryz.isAgg20
  z20 := Tryz.sizeOf20
  v20 := Tryz.zeroValue20
  t21 := Tryz.underlying21
  a21 := Tryz.isAgg21
  z21 := Tryz.sizeOf21
  v21 := Tryz.zeroValue21
  t37 := Tryz.underlying34
  a37 := Tryz.isAgg34
  z37 := Tryz.sizeOf34
  v37 := Tryz.zeroValue34
  t46 := Tryz.underlying43
  a46 := Tryz.isAgg43
  z46 := Tryz.sizeOf43
  v46 := Tryz.zeroValue43
  t51 := Tryz.underlying160
  a51 := Tryz.isAgg160
  z51 := Tryz.sizeOf160
  v51 := Tryz.zeroValue160
  t70 := Tryz.underlying57
  a70 := Tryz.isAgg57
  z70 := Tryz.sizeOf57
  v70 := Tryz.zeroValue57
  t72 := Tryz.underlying59
  a72 := Tryz.isAgg59
  z72 := Tryz.sizeOf59
  v72 := Tryz.zeroValue59
  t75 := Tryz.underlying90
  a75 := Tryz.isAgg90
  z75 := Tryz.sizeOf90
  v75 := Tryz.zeroValue90
  t76 := Tryz.underlying91
  a76 := Tryz.isAgg91
  z76 := Tryz.sizeOf91
  v76 := Tryz.zeroValue91
  t105 := Tryz.underlying125
  a105 := Tryz.isAgg125
  z105 := Tryz.sizeOf125
  v105 := Tryz.zeroValue125
  t107 := Tryz.underlying111
  a107 := Tryz.isAgg111
  z107 := Tryz.sizeOf111
  v107 := Tryz.zeroValue111
  t119 := Tryz.underlying176
  a119 := Tryz.isAgg176
  z119 := Tryz.sizeOf176
  t127 := Tryz.underlying97
  a127 := Tryz.isAgg97
  z127 := Tryz.sizeOf97
  v127 := Tryz.zeroValue97
  t138 := Tryz.underlying178
  a138 := Tryz.isAgg178
  z138 := Tryz.sizeOf178
  v138 := Tryz.zeroValue178
  t139 := Tryz.underlying179
  a139 := Tryz.isAgg179
  z139 := Tryz.sizeOf179
  v139 := Tryz.zeroValue179
  t160 := Tryz.underlying180
  a160 := Tryz.isAgg180
  z160 := Tryz.sizeOf180
  v160 := Tryz.zeroValue180
  t162 := Tryz.underlying157
  a162 := Tryz.isAgg157
  z162 := Tryz.sizeOf157
  v162 := Tryz.zeroValue157
  t164 := Tryz.underlying136
  a164 := Tryz.isAgg136
  z164 := Tryz.sizeOf136
  v164 := Tryz.zeroValue136
  t203 := Tryz.underlying155
  a203 := Tryz.isAgg155
  z203 := Tryz.sizeOf155
  v203 := Tryz.zeroValue155
  t206 := Tryz.underlying198
  a206 := Tryz.isAgg198
  z206 := Tryz.sizeOf198
  v206 := Tryz.zeroValue198
  t208 := Tryz.underlying200
  a208 := Tryz.isAgg200
  z208 := Tryz.sizeOf200
  v208 := Tryz.zeroValue200
  g3 := by kernel_rfl
  g4 := by kernel_rfl
  g13 := by kernel_rfl }
end Go.Proofs
namespace Go.Proofs.YtkipjalfgdfaiaaGreatDoor.PLinesRead
open Go.RowKit Go.Proofs.YtkipjalfgdfaiaaGreatDoorW.PrintWords Go.Proofs.YtkipjalfgdfaiaaGreatDoorW.PrintLast Go.Proofs.YtkipjalfgdfaiaaGreatDoorW.PrintMore
set_option linter.unusedVariables false
set_option linter.unusedSimpArgs false



theorem info114 : (Tryz.prog.info? 114).map (fun i => (i.zero, i.size, i.bytes)) = some (some (.slice none 0 0), 1, 24) := by kernel_rfl

def rd_L2 (xs : List (List ByteArray)) (i : Int) : (List ByteArray) := xs.getD i.toNat ([] : List ByteArray)
theorem at_L2 {w : World} {A : Option Addr} {n : Nat} {xs : List (List ByteArray)} (h : Kd.C (Kd.slice 9 Kd.string) w A n xs) (i : Int) (h0 : 0 ≤ i) (h1 : i < n) : ∃ ad A0 c0, A = some ad ∧ w.cell? (ad.add i.toNat) = some (.slice A0 (rd_L2 xs i).length c0) ∧ (rd_L2 xs i).length ≤ c0 ∧ Kd.string.C w A0 (rd_L2 xs i).length (rd_L2 xs i) := by
  obtain ⟨ad, c, e, _, hK, hc0⟩ := Kd.C_get h ([] : List ByteArray) i h0 h1
  have hc : ∀ j u, c[j]? = some u → w.cell? (ad.add (i.toNat * 1 + j)) = some u := hc0
  obtain ⟨A0, c0, rfl, l0, g0⟩ := hK
  exact ⟨ad, A0, c0, e, by have hq := hc 0 _ rfl; rwa [Nat.mul_one, Nat.add_zero] at hq, l0, g0⟩







end Go.Proofs.YtkipjalfgdfaiaaGreatDoor.PLinesRead
namespace Go.Proofs.YtkipjalfgdfaiaaGreatDoor
set_option linter.unusedVariables false
set_option linter.unusedSimpArgs false

def bsL (l : List UInt8) : ByteArray := ⟨l.toArray⟩
theorem bsL_data (s : ByteArray) : bsL s.data.toList = s := by
  cases s
  simp [bsL]
theorem data_bsL (l : List UInt8) : (bsL l).data.toList = l := by simp [bsL]
theorem size_bsL (l : List UInt8) : (bsL l).size = l.length := by simp [bsL, ByteArray.size]

/-- A text's parts between a byte. -/
def cutL (c : UInt8) : List UInt8 → List (List UInt8)
  | [] => [[]]
  | b :: l => if b = c then [] :: cutL c l else match cutL c l with
    | [] => [[b]]
    | h :: t => (b :: h) :: t
theorem cutL_none {c : UInt8} : ∀ {p : List UInt8}, (∀ b ∈ p, b ≠ c) → cutL c p = [p]
  | [], _ => rfl
  | b :: p, h => by
    have h1 := cutL_none (c := c) (p := p) (fun x hx => h x (List.mem_cons_of_mem _ hx))
    unfold cutL
    rw [if_neg (h b List.mem_cons_self), h1]
theorem cutL_hit {c : UInt8} (l : List UInt8) : ∀ {p : List UInt8}, (∀ b ∈ p, b ≠ c) → cutL c (p ++ c :: l) = p :: cutL c l
  | [], _ => by
    show cutL c (c :: l) = _
    rw [cutL, if_pos rfl]
  | b :: p, h => by
    have h1 := cutL_hit (c := c) l (p := p) (fun x hx => h x (List.mem_cons_of_mem _ hx))
    show cutL c (b :: (p ++ c :: l)) = _
    rw [cutL, if_neg (h b List.mem_cons_self), h1]
theorem cutL_ne (c : UInt8) : ∀ l : List UInt8, cutL c l ≠ []
  | [] => by simp [cutL]
  | b :: l => by
    unfold cutL
    split
    · simp
    · split <;> simp
theorem cutL_length (c : UInt8) : ∀ l : List UInt8, (cutL c l).length ≤ l.length + 1
  | [] => by simp [cutL]
  | b :: l => by
    have h := cutL_length c l
    unfold cutL
    split
    · simp only [List.length_cons]
      omega
    · split
      · simp
      · rename_i h' t e
        rw [e] at h
        simp only [List.length_cons] at h ⊢
        omega
theorem cutL_part (c : UInt8) : ∀ (l : List UInt8) (x : List UInt8), x ∈ cutL c l → x.length ≤ l.length
  | [], x, h => by
    simp [cutL] at h
    subst h
    simp
  | b :: l, x, h => by
    have ih := cutL_part c l
    unfold cutL at h
    split at h
    · rcases List.mem_cons.1 h with rfl | h
      · simp
      · have := ih x h
        simp only [List.length_cons]
        omega
    · split at h
      · simp at h
        subst h
        simp
      · rename_i h' t e
        rcases List.mem_cons.1 h with rfl | h
        · have := ih h' (by rw [e]; exact List.mem_cons_self)
          simp only [List.length_cons]
          omega
        · have := ih x (by rw [e]; exact List.mem_cons_of_mem _ h)
          simp only [List.length_cons]
          omega
def cutB (c : UInt8) (s : ByteArray) : List ByteArray := (cutL c s.data.toList).map bsL
theorem index_split {s : List UInt8} {c : UInt8} {i : Nat} (h : Lib.index s [c] = i) : s = s.take i ++ c :: s.drop (i + 1) ∧ ∀ b ∈ s.take i, b ≠ c := by
  rw [Lib.index_one] at h
  obtain ⟨h1, h2⟩ := Lib.indexByte_some h
  obtain ⟨hlt, he⟩ := List.getElem?_eq_some_iff.1 h1
  refine ⟨?_, fun b hb => ?_⟩
  · have e := List.drop_eq_getElem_cons hlt
    rw [he] at e
    rw [← e, List.take_append_drop]
  · obtain ⟨k, hk, rfl⟩ := List.getElem_of_mem hb
    rw [List.length_take] at hk
    intro hc
    refine h2 k (by omega) ?_
    rw [List.getElem_take] at hc
    rw [List.getElem?_eq_getElem (by omega), hc]
theorem index_miss {s : List UInt8} {c : UInt8} (h : Lib.index s [c] = -1) : ∀ b ∈ s, b ≠ c := by
  rw [Lib.index_one] at h
  intro b hb hc
  obtain ⟨k, hk, rfl⟩ := List.getElem_of_mem hb
  exact Lib.indexByte_none h k (by rw [List.getElem?_eq_getElem hk, hc])
theorem index_or (s : List UInt8) (c : UInt8) : Lib.index s [c] = -1 ∨ ∃ i : Nat, Lib.index s [c] = i := by
  have h := Lib.index_ge s [c]
  by_cases h1 : Lib.index s [c] = -1
  · exact .inl h1
  · exact .inr ⟨(Lib.index s [c]).toNat, by omega⟩
theorem splitK_cut (c : UInt8) : ∀ (k : Nat) (s : List UInt8), s.count c = k → Lib.splitK [c] 0 k s = cutL c s
  | 0, s, h => by
    have h0 : ∀ b ∈ s, b ≠ c := fun b hb hc => by
      subst hc
      have := List.count_pos_iff.2 hb
      omega
    rw [cutL_none h0]
    rfl
  | k + 1, s, h => by
    rcases index_or s c with hm | ⟨i, hi⟩
    · exfalso
      have h0 := index_miss hm
      have : s.count c = 0 := List.count_eq_zero.2 (fun hc => h0 c hc rfl)
      omega
    · obtain ⟨hs, hp⟩ := index_split hi
      have hk : (s.drop (i + 1)).count c = k := by
        have h1 := h
        rw [hs, List.count_append, List.count_cons_self] at h1
        have h2 : (s.take i).count c = 0 := List.count_eq_zero.2 (fun hc => hp c hc rfl)
        omega
      have ih := splitK_cut c k (s.drop (i + 1)) hk
      have e2 : cutL c s = s.take i :: cutL c (s.drop (i + 1)) := by
        have e3 := congrArg (cutL c) hs
        rw [cutL_hit _ hp] at e3
        exact e3
      rw [Lib.splitK, if_neg (by rw [hi]; simp), hi, e2, ← ih]
      simp
theorem splitB_cut (c : UInt8) (s : ByteArray) : Lib.splitB ⟨#[c]⟩ 0 (Lib.countB s ⟨#[c]⟩) s = cutB c s := by
  have h := Lib.splitB_data ⟨#[c]⟩ 0 (Lib.countB s ⟨#[c]⟩) s
  have hc : Lib.countB s ⟨#[c]⟩ = s.data.toList.count c := Lib.count_one c s.data.toList
  have h2 : Lib.splitK [c] 0 (Lib.countB s ⟨#[c]⟩) s.data.toList = cutL c s.data.toList := splitK_cut c _ _ hc.symm
  have h3 := congrArg (List.map bsL) (h.trans h2)
  rw [List.map_map] at h3
  have h4 : (bsL ∘ fun b : ByteArray => b.data.toList) = id := by
    funext b
    exact bsL_data b
  rw [h4, List.map_id] at h3
  exact h3
theorem countB_cut (c : UInt8) (s : ByteArray) : Lib.countB s ⟨#[c]⟩ + 1 = (cutB c s).length := by
  rw [← splitB_cut, Lib.splitB_all ⟨#[c]⟩ (Nat.le_refl 1) 0 _ s rfl]

/-- What stands ahead of a byte. -/
def upL (c : UInt8) (l : List UInt8) : List UInt8 := (cutL c l).headD []
theorem cut_up (c : UInt8) (l : List UInt8) : (Lib.cut l [c]).1 = upL c l := by
  unfold Lib.cut upL
  rcases index_or l c with hm | ⟨i, hi⟩
  · rw [hm, if_neg (by omega), cutL_none (index_miss hm)]
    rfl
  · obtain ⟨hs, hp⟩ := index_split hi
    have e2 : cutL c l = l.take i :: cutL c (l.drop (i + 1)) := by
      have e3 := congrArg (cutL c) hs
      rw [cutL_hit _ hp] at e3
      exact e3
    rw [hi, if_pos (by omega), e2]
    simp
theorem upL_length (c : UInt8) (l : List UInt8) : (upL c l).length ≤ l.length := by
  unfold upL
  cases h : cutL c l with
  | nil => simp
  | cons x r => exact cutL_part c l x (by rw [h]; exact List.mem_cons_self)
def trimL (l : List UInt8) : List UInt8 := Lib.trimS l [32, 9]
theorem dropWhile_length {α : Type} (p : α → Bool) : ∀ l : List α, (l.dropWhile p).length ≤ l.length
  | [] => by simp
  | b :: l => by
    rw [List.dropWhile_cons]
    split
    · have := dropWhile_length p l
      simp only [List.length_cons]
      omega
    · exact Nat.le_refl _
theorem trimL_length (l : List UInt8) : (trimL l).length ≤ l.length := by
  unfold trimL Lib.trimS Lib.trimLeftS Lib.trimRightS
  refine Nat.le_trans (dropWhile_length _ _) ?_
  rw [List.length_reverse]
  refine Nat.le_trans (dropWhile_length _ _) ?_
  rw [List.length_reverse]
  exact Nat.le_refl _
def upB (c : UInt8) (s : ByteArray) : ByteArray := bsL (upL c s.data.toList)
def trimB (s : ByteArray) : ByteArray := bsL (trimL s.data.toList)
theorem upB_size (c : UInt8) (s : ByteArray) : (upB c s).size ≤ s.size := by
  unfold upB
  rw [size_bsL, Lib.size_eq s]
  exact upL_length _ _
theorem trimB_size (s : ByteArray) : (trimB s).size ≤ s.size := by
  unfold trimB
  rw [size_bsL, Lib.size_eq s]
  exact trimL_length _
theorem cutB_ne (c : UInt8) (s : ByteArray) : cutB c s ≠ [] := fun h => cutL_ne c s.data.toList (List.map_eq_nil_iff.1 h)
theorem cutB_length (c : UInt8) (s : ByteArray) : (cutB c s).length ≤ s.size + 1 := by
  unfold cutB
  rw [List.length_map, Lib.size_eq s]
  exact cutL_length _ _
theorem cutB_part {c : UInt8} {s x : ByteArray} (h : x ∈ cutB c s) : x.size ≤ s.size := by
  obtain ⟨l, hl, rfl⟩ := List.mem_map.1 h
  rw [size_bsL, Lib.size_eq s]
  exact cutL_part c _ _ hl

/-- A line's fields; none: it says nothing. -/
def fieldsB (line : ByteArray) : List ByteArray := if (trimB (upB 35 line)).size = 0 then [] else (cutB 59 (trimB (upB 35 line))).map trimB
theorem fieldsB_length (s : ByteArray) : (fieldsB s).length ≤ s.size + 1 := by
  unfold fieldsB
  split
  · simp
  · rw [List.length_map]
    refine Nat.le_trans (cutB_length _ _) ?_
    have := Nat.le_trans (trimB_size (upB 35 s)) (upB_size 35 s)
    omega

end Go.Proofs.YtkipjalfgdfaiaaGreatDoor
namespace Go.Proofs.YtkipjalfgdfaiaaGreatDoor
set_option linter.unusedVariables false
set_option linter.unusedSimpArgs false
open Go.RowKit Go.Proofs.YtkipjalfgdfaiaaGreatDoorW.PrintWords Go.Proofs.YtkipjalfgdfaiaaGreatDoorW.PrintLast Go.Proofs.YtkipjalfgdfaiaaGreatDoorW.PrintMore Go.Proofs.YtkipjalfgdfaiaaGreatDoor.PLinesRead

theorem ext_bsL (l : List UInt8) (a b : Nat) : (bsL l).extract a b = bsL ((l.drop a).take (b - a)) := by
  rw [Lib.extract_eq, data_bsL]
  rfl
theorem bt_bsL (l : List UInt8) (i : Nat) (h : i < l.length) : bt (bsL l) (i : Int) = (l[i].toNat : Int) := by
  have h1 := bt_at (bsL l) (i : Int) (by rw [Int.toNat_natCast, size_bsL]; exact h)
  rw [← h1]
  rfl
end Go.Proofs.YtkipjalfgdfaiaaGreatDoor
namespace Go.Proofs
open Go.Shelf
def Tryz.lays145_ren : Go.Shelf.Ren := ⟨fun | 145 => 192 | 220 => 202 | 219 => 99 | 217 => 137 | 225 => 138 | 224 => 139 | 267 => 140 | 266 => 164 | 314 => 165 | n => n, fun | 9 => 9 | 4 => 4 | 59 => 213 | 3 => 3 | 5 => 5 | 46 => 43 | 146 => 184 | 51 => 160 | n => n, fun | 1 => 2 | n => n⟩
theorem Tryz.lays145 : Go.Proofs.Lays.n145 Tryz.prog Tryz.lays145_ren := {
  mixed := by kernel_rfl
  f145 := Tryz.func192.trans (congrArg some (by kernel_rfl))
  f217 := Tryz.func137.trans (congrArg some (by kernel_rfl))
  f219 := Tryz.func99.trans (congrArg some (by kernel_rfl))
  f220 := Tryz.func202.trans (congrArg some (by kernel_rfl))
  f224 := Tryz.func139.trans (congrArg some (by kernel_rfl))
  f225 := Tryz.func138.trans (congrArg some (by kernel_rfl))
  f266 := Tryz.func164.trans (congrArg some (by kernel_rfl))
  f267 := Tryz.func140.trans (congrArg some (by kernel_rfl))
  f314 := Tryz.func165.trans (congrArg some (by kernel_rfl))
  t3 := Tryz.underlying3
  a3 := Tryz.isAgg3
  z3 := Tryz.sizeOf3
  v3 := Tryz.zeroValue3
  t4 := Tryz.underlying4
  a4 := Tryz.isAgg4
  z4 := Tryz.sizeOf4
  v4 := Tryz.zeroValue4
  t5 := Tryz.underlying5
  a5 := Tryz.isAgg5
  z5 := Tryz.sizeOf5
  v5 := Tryz.zeroValue5
  t9 := Tryz.underlying9
  a9 := Tryz.isAgg9
  z9 := Tryz.sizeOf9
  v9 := Tryz.zeroValue9
  t46 := Tryz.underlying43
  a46 := Tryz.isAgg43
  z46 := Tryz.sizeOf43
  v46 := Tryz.zeroValue43
  t51 := Tryz.underlying160
  a51 := Tryz.isAgg160
  z51 := Tryz.sizeOf160
  v51 := Tryz.zeroValue160
  t59 := Tryz.underlying213
  a59 := Tryz.isAgg213
  z59 := Tryz.sizeOf213
  v59 := Tryz.zeroValue213
  t146 := Tryz.underlying184
  a146 := Tryz.isAgg184
  z146 := Tryz.sizeOf184
  v146 := Tryz.zeroValue184
  g1 := by kernel_rfl }
open Go.RowKit Go.Lib in
/-- strings.Cut: "Cut slices s around the first instance of sep, returning the text before and after sep. The found result reports whether sep appears in s. If sep does not appear in s, cut returns s, "", false.": IT RETURNS 'Lib.cut s sep'; the world is as it was but for the count of draws. (LAID: no walk: one application.) -/
theorem Tryz.strings_Cut (s sep : ByteArray) (m : Int) (w : World) (hs : s.size < 4294967281) (hm : w.cell? ⟨2, 0, none⟩ = some (.int .i64 m)) :
    Calls Tryz.prog 192 #[.string s, .string sep] w fun e w' => e = .returned (.tuple #[.string ⟨(Lib.cut s.data.toList sep.data.toList).1.toArray⟩, .string ⟨(Lib.cut s.data.toList sep.data.toList).2.1.toArray⟩, .bool (Lib.cut s.data.toList sep.data.toList).2.2]) ∧ ∃ n, w' = w.drewN n := Any.strings_Cut Tryz.lays145 s sep m w hs hm
def Tryz.lays146_ren : Go.Shelf.Ren := ⟨fun | 146 => 181 | 221 => 191 | 268 => 200 | 138 => 201 | 143 => 64 | 195 => 210 | 197 => 90 | 218 => 211 | 219 => 99 | 260 => 129 | 217 => 137 | 225 => 138 | 224 => 139 | 267 => 140 | 266 => 164 | 314 => 165 | n => n, fun | 9 => 9 | 31 => 114 | 3 => 3 | 4 => 4 | 0 => 0 | 105 => 125 | 21 => 21 | 5 => 5 | 46 => 43 | 119 => 176 | 139 => 179 | 138 => 178 | 146 => 184 | 51 => 160 | n => n, fun | 1 => 2 | 3 => 3 | 4 => 4 | n => n⟩
theorem Tryz.lays146 : Go.Proofs.Lays.n146 Tryz.prog Tryz.lays146_ren := {
  mixed := by kernel_rfl
  f138 := Tryz.func201.trans (congrArg some (by kernel_rfl))
  f143 := Tryz.func64.trans (congrArg some (by kernel_rfl))
  f146 := Tryz.func181.trans (congrArg some (by kernel_rfl))
  f195 := Tryz.func210.trans (congrArg some (by kernel_rfl))
  f197 := Tryz.func90.trans (congrArg some (by kernel_rfl))
  f217 := Tryz.func137.trans (congrArg some (by kernel_rfl))
  f218 := Tryz.func211.trans (congrArg some (by kernel_rfl))
  f219 := Tryz.func99.trans (congrArg some (by kernel_rfl))
  f221 := Tryz.func191.trans (congrArg some (by kernel_rfl))
  f224 := Tryz.func139.trans (congrArg some (by kernel_rfl))
  f225 := Tryz.func138.trans (congrArg some (by kernel_rfl))
  f260 := Tryz.func129.trans (congrArg some (by kernel_rfl))
  f266 := Tryz.func164.trans (congrArg some (by kernel_rfl))
  f267 := Tryz.func140.trans (congrArg some (by kernel_rfl))
  f268 := Tryz.func200.trans (congrArg some (by kernel_rfl))
  f314 := Tryz.func165.trans (congrArg some (by kernel_rfl))
  t0 := Tryz.underlying0
  a0 := Tryz.isAgg0
  z0 := Tryz.sizeOf0
  v0 := Tryz.zeroValue0
  t3 := Tryz.underlying3
  a3 := Tryz.isAgg3
  z3 := Tryz.sizeOf3
  v3 := Tryz.zeroValue3
  t4 := Tryz.underlying4
  a4 := Tryz.isAgg4
  z4 := Tryz.sizeOf4
  v4 := Tryz.zeroValue4
  t5 := Tryz.underlying5
  a5 := Tryz.isAgg5
  z5 := Tryz.sizeOf5
  v5 := Tryz.zeroValue5
  t9 := Tryz.underlying9
  a9 := Tryz.isAgg9
  z9 := Tryz.sizeOf9
  v9 := Tryz.zeroValue9
  t21 := Tryz.underlying21
  a21 := Tryz.isAgg21
  z21 := Tryz.sizeOf21
  v21 := Tryz.zeroValue21
  t31 := Tryz.underlying114
  a31 := Tryz.isAgg114
  z31 := Tryz.sizeOf114
  v31 := Tryz.zeroValue114
  t46 := Tryz.underlying43
  a46 := Tryz.isAgg43
  z46 := Tryz.sizeOf43
  v46 := Tryz.zeroValue43
  t51 := Tryz.underlying160
  a51 := Tryz.isAgg160
  z51 := Tryz.sizeOf160
  v51 := Tryz.zeroValue160
  t105 := Tryz.underlying125
  a105 := Tryz.isAgg125
  z105 := Tryz.sizeOf125
  v105 := Tryz.zeroValue125
  t119 := Tryz.underlying176
  a119 := Tryz.isAgg176
  z119 := Tryz.sizeOf176
  t138 := Tryz.underlying178
  a138 := Tryz.isAgg178
  z138 := Tryz.sizeOf178
  v138 := Tryz.zeroValue178
  t139 := Tryz.underlying179
  a139 := Tryz.isAgg179
  z139 := Tryz.sizeOf179
  v139 := Tryz.zeroValue179
  t146 := Tryz.underlying184
  a146 := Tryz.isAgg184
  z146 := Tryz.sizeOf184
  v146 := Tryz.zeroValue184
  g1 := by kernel_rfl
  g3 := by kernel_rfl
  g4 := by kernel_rfl }
open Go.RowKit Go.Lib in
/-- strings.Split. (LAID: no walk: one application.) -/
theorem Tryz.strings_Split (s sep : ByteArray) (m : Int) (w : World) (hs : s.size < 4294967281) (hm : w.cell? ⟨2, 0, none⟩ = some (.int .i64 m)) (h1 : 1 ≤ sep.size) :
    Calls Tryz.prog 181 #[.string s, .string sep] w fun e w' =>
      e = .returned (.slice (some ⟨w.heap.size, 0, none⟩) (Lib.countB s sep + 1) (Lib.countB s sep + 1)) ∧ w' = w.alloc (.cells ((Lib.splitB sep 0 (Lib.countB s sep) s).map Value.string).toArray 9) := Any.strings_Split Tryz.lays146 (by kernel_rfl) s sep m w hs hm h1
def Tryz.lays160_ren : Go.Shelf.Ren := ⟨fun | 160 => 193 | 232 => 204 | 231 => 203 | 227 => 168 | 234 => 206 | 233 => 205 | 236 => 208 | 235 => 207 | 228 => 169 | 271 => 213 | 151 => 212 | 197 => 90 | 120 => 214 | 152 => 166 | 260 => 129 | 137 => 116 | 119 => 179 | 224 => 139 | 225 => 138 | 217 => 137 | 266 => 164 | n => n, fun | 9 => 9 | 4 => 4 | 3 => 3 | 5 => 5 | 117 => 189 | 116 => 188 | 0 => 0 | 124 => 203 | 21 => 21 | 105 => 125 | 46 => 43 | 119 => 176 | 139 => 179 | 138 => 178 | n => n, fun | 3 => 3 | 4 => 4 | n => n⟩
theorem Tryz.lays160 : Go.Proofs.Lays.n160 Tryz.prog Tryz.lays160_ren := {
  mixed := by kernel_rfl
  f119 := Tryz.func179.trans (congrArg some (by kernel_rfl))
  f120 := Tryz.func214.trans (congrArg some (by kernel_rfl))
  f137 := Tryz.func116.trans (congrArg some (by kernel_rfl))
  f151 := Tryz.func212.trans (congrArg some (by kernel_rfl))
  f152 := Tryz.func166.trans (congrArg some (by kernel_rfl))
  f160 := Tryz.func193.trans (congrArg some (by kernel_rfl))
  f197 := Tryz.func90.trans (congrArg some (by kernel_rfl))
  f217 := Tryz.func137.trans (congrArg some (by kernel_rfl))
  f224 := Tryz.func139.trans (congrArg some (by kernel_rfl))
  f225 := Tryz.func138.trans (congrArg some (by kernel_rfl))
  f227 := Tryz.func168.trans (congrArg some (by kernel_rfl))
  f228 := Tryz.func169.trans (congrArg some (by kernel_rfl))
  f231 := Tryz.func203.trans (congrArg some (by kernel_rfl))
  f232 := Tryz.func204.trans (congrArg some (by kernel_rfl))
  f233 := Tryz.func205.trans (congrArg some (by kernel_rfl))
  f234 := Tryz.func206.trans (congrArg some (by kernel_rfl))
  f235 := Tryz.func207.trans (congrArg some (by kernel_rfl))
  f236 := Tryz.func208.trans (congrArg some (by kernel_rfl))
  f260 := Tryz.func129.trans (congrArg some (by kernel_rfl))
  f266 := Tryz.func164.trans (congrArg some (by kernel_rfl))
  f271 := Tryz.func213.trans (congrArg some (by kernel_rfl))
  t0 := Tryz.underlying0
  a0 := Tryz.isAgg0
  z0 := Tryz.sizeOf0
  v0 := Tryz.zeroValue0
  t3 := Tryz.underlying3
  a3 := Tryz.isAgg3
  z3 := Tryz.sizeOf3
  v3 := Tryz.zeroValue3
  t4 := Tryz.underlying4
  a4 := Tryz.isAgg4
  z4 := Tryz.sizeOf4
  v4 := Tryz.zeroValue4
  t5 := Tryz.underlying5
  a5 := Tryz.isAgg5
  z5 := Tryz.sizeOf5
  v5 := Tryz.zeroValue5
  t9 := Tryz.underlying9
  a9 := Tryz.isAgg9
  z9 := Tryz.sizeOf9
  v9 := Tryz.zeroValue9
  t21 := Tryz.underlying21
  a21 := Tryz.isAgg21
  z21 := Tryz.sizeOf21
  v21 := Tryz.zeroValue21
  t46 := Tryz.underlying43
  a46 := Tryz.isAgg43
  z46 := Tryz.sizeOf43
  v46 := Tryz.zeroValue43
  t105 := Tryz.underlying125
  a105 := Tryz.isAgg125
  z105 := Tryz.sizeOf125
  v105 := Tryz.zeroValue125
  t116 := Tryz.underlying188
  a116 := Tryz.isAgg188
  z116 := Tryz.sizeOf188
  t117 := Tryz.underlying189
  a117 := Tryz.isAgg189
  z117 := Tryz.sizeOf189
  v117 := Tryz.zeroValue189
  t119 := Tryz.underlying176
  a119 := Tryz.isAgg176
  z119 := Tryz.sizeOf176
  t124 := Tryz.underlying203
  a124 := Tryz.isAgg203
  z124 := Tryz.sizeOf203
  v124 := Tryz.zeroValue203
  t138 := Tryz.underlying178
  a138 := Tryz.isAgg178
  z138 := Tryz.sizeOf178
  v138 := Tryz.zeroValue178
  t139 := Tryz.underlying179
  a139 := Tryz.isAgg179
  z139 := Tryz.sizeOf179
  v139 := Tryz.zeroValue179
  g3 := by kernel_rfl
  g4 := by kernel_rfl }
open Go.RowKit in
theorem Tryz.strings_Trim_blank (s : ByteArray) (w : World) (hs : s.size ≤ 9223372036854775807) :
    Calls Tryz.prog 193 #[.string s, .string ⟨#[32, 9]⟩] w fun e w' => e = .returned (.string ⟨(Lib.trimS s.data.toList [32, 9]).toArray⟩) ∧ Below w.heap.size w w' := Any.strings_Trim_laid Tryz.lays160 (by kernel_rfl) s ⟨#[32, 9]⟩ w hs (by decide) (ascii_of_all (by decide))
end Go.Proofs
namespace Go.Proofs.YtkipjalfgdfaiaaGreatDoor
set_option linter.unusedVariables false
set_option linter.unusedSimpArgs false
open Go.RowKit Go.Proofs.YtkipjalfgdfaiaaGreatDoorW.PrintWords Go.Proofs.YtkipjalfgdfaiaaGreatDoorW.PrintLast Go.Proofs.YtkipjalfgdfaiaaGreatDoorW.PrintMore

/-- The library's variable bytealg.MaxLen holds m. -/
def MaxIs (w : World) (m : Int) : Prop := w.cell? ⟨2, 0, none⟩ = some (.int .i64 m)
theorem MaxIs.below {w w1 : World} {m : Int} (h : MaxIs w m) (hb : Below w.heap.size w w1) : MaxIs w1 m := pw_cell_below hb h
theorem drewN_below (w : World) (n : Nat) : Below w.heap.size w (w.drewN n) := pw_below_drewN (Below.refl _ _) n

theorem at_S {w : World} {A : Option Addr} {xs : List ByteArray} (h : Kd.C Kd.string w A xs.length xs) (j : Nat) (hj : j < xs.length) : ∃ ad, A = some ad ∧ w.cell? (ad.add j) = some (.string xs[j]) := by
  obtain ⟨ad, c, e, _, hK, hc⟩ := Kd.C_get h ByteArray.empty (j : Int) (by omega) (by omega)
  have e1 : xs.getD ((j : Int).toNat) ByteArray.empty = xs[j] := by simp [hj]
  rw [e1] at hK
  have hK2 : c = [.string xs[j]] := hK
  subst hK2
  have hz : (Kd.string).sz = 1 := rfl
  refine ⟨ad, e, ?_⟩
  have := hc 0 _ rfl
  simpa [hz] using this
theorem add_zero (ad : Addr) : ad.add 0 = ad := by
  cases ad with
  | mk b o s => cases s <;> simp [Addr.add]

theorem cutS_any (c : UInt8) (s : ByteArray) (m : Int) (w : World) (hs : s.size < 4294967281) (hm : MaxIs w m) :
    Calls Tryz.prog 192 #[.string s, .string ⟨#[c]⟩] w fun e w' => (∃ y b, e = .returned (.tuple #[.string (upB c s), .string y, .bool b])) ∧ Below w.heap.size w w' := by
  refine (Tryz.strings_Cut s ⟨#[c]⟩ m w hs hm).mono ?_
  rintro e w1 ⟨rfl, n, rfl⟩
  have h1 : (⟨(Lib.cut s.data.toList (⟨#[c]⟩ : ByteArray).data.toList).1.toArray⟩ : ByteArray) = upB c s := by
    unfold upB bsL
    rw [← cut_up]
  rw [h1]
  exact ⟨⟨_, _, rfl⟩, drewN_below _ _⟩
theorem splitS_any (c : UInt8) (s : ByteArray) (m : Int) (w : World) (hs : s.size < 4294967281) (hm : MaxIs w m) :
    Calls Tryz.prog 181 #[.string s, .string ⟨#[c]⟩] w fun e w' => e = .returned (.slice (some ⟨w.heap.size, 0, none⟩) (cutB c s).length (cutB c s).length) ∧ Own Kd.string 9 w' w.heap.size (.slice (some ⟨w.heap.size, 0, none⟩) (cutB c s).length (cutB c s).length) (cutB c s) ∧ Below w.heap.size w w' := by
  refine (Tryz.strings_Split s ⟨#[c]⟩ m w hs hm (Nat.le_refl 1)).mono ?_
  rintro e w1 ⟨rfl, rfl⟩
  rw [countB_cut, splitB_cut]
  have hl := cutB_length c s
  exact ⟨rfl, Kd.R_of_own (own_lit_of w w.heap.size 9 (cutB c s) (Nat.le_refl _) (by omega)) (fun _ _ => trivial), below_alloc (Below.refl _ _) _⟩
theorem trimS_any (s : ByteArray) (w : World) (hs : s.size < 4294967281) :
    Calls Tryz.prog 193 #[.string s, .string ⟨#[32, 9]⟩] w fun e w' => e = .returned (.string (trimB s)) ∧ Below w.heap.size w w' := Tryz.strings_Trim_blank s w (by omega)

set_option maxHeartbeats 4000000 in
set_option maxRecDepth 100000 in
theorem fields_any (s : ByteArray) (m : Int) (w : World) (hs : s.size < 4294967281) (hm : MaxIs w m) :
    Calls Tryz.prog 182 #[.string s] w fun e w' => ∃ v, e = .returned v ∧ Own Kd.string 9 w' w.heap.size v (fieldsB s) ∧ (fieldsB s = [] → v = .slice none 0 0) ∧ (fieldsB s ≠ [] → ∃ g, v = .slice (some ⟨g, 0, none⟩) (fieldsB s).length (fieldsB s).length) ∧ Below w.heap.size w w' := by
  have hcut := cutS_any 35 s m w hs hm
  have hus := upB_size 35 s
  have hF : fieldsB s = if (trimB (upB 35 s)).size = 0 then [] else (cutB 59 (trimB (upB 35 s))).map trimB := rfl
  obtain ⟨u, hu⟩ : ∃ u, upB 35 s = u := ⟨_, rfl⟩
  rw [hu] at hcut hus hF
  have hts := trimB_size u
  have htrim := fun W => trimS_any u W (by omega)
  obtain ⟨t, ht⟩ : ∃ t, trimB u = t := ⟨_, rfl⟩
  rw [ht] at hF hts htrim
  obtain ⟨F, hFF⟩ : ∃ F, fieldsB s = F := ⟨_, rfl⟩
  rw [hFF] at hF ⊢
  have HF := Aside0.mk hF
  have HM := Aside0.mk hm
  have hT : t.size < 4294967281 := by omega
  clear hF hm hFF hu ht
  go_enter Tryz.func182, Tryz.ntmps182
  go_wp2_with fail
  refine hcut.mono ?_
  rintro e w1 ⟨⟨y, b, rfl⟩, hb1⟩
  have HB1 := Aside0.mk hb1
  clear hb1
  go_wp2_with fail
  refine (htrim w1).mono ?_
  rintro e w2 ⟨rfl, hb2⟩
  have HB2 : Aside0 (Below w.heap.size w w2) := ⟨below_to HB1.out hb2⟩
  clear hb2 htrim hcut
  by_cases h0 : t.size = 0
  · have he : t = ByteArray.empty := ByteArray.size_eq_zero_iff.1 h0
    subst he
    have HF0 : Aside0 (F = []) := ⟨by rw [HF.out, if_pos h0]⟩
    go_wp2
    go_ret
    rw [HF0.out]
    exact ⟨_, rfl, Kd.R_nil _ _ _ _ _, fun _ => rfl, fun h => absurd rfl h, HB2.out⟩
  · have hne : t.toList.isEmpty = false := by
      rw [Lib.toList_data]
      cases h : t.data.toList with
      | nil => have := Lib.size_eq t; rw [h, List.length_nil] at this; omega
      | cons _ _ => rfl
    have HF1 : Aside0 (F = (cutB 59 t).map trimB) := ⟨by rw [HF.out, if_neg h0]⟩
    have hspl := splitS_any 59 t m w2 hT (HM.out.below HB2.out)
    have HPS : Aside0 (∀ x ∈ cutB 59 t, x.size < 4294967281) := ⟨fun x hx => Nat.lt_of_le_of_lt (cutB_part hx) hT⟩
    have HNE : Aside0 (cutB 59 t ≠ []) := ⟨cutB_ne _ _⟩
    have hPL := cutB_length 59 t
    obtain ⟨ps, hps⟩ : ∃ ps, cutB 59 t = ps := ⟨_, rfl⟩
    rw [hps] at hspl HF1 HPS HNE hPL
    clear hps
    go_wp2_with fail
    refine hspl.mono ?_
    rintro e w3 ⟨rfl, ho3, hb3⟩
    have HB3 : Aside0 (Below w.heap.size w w3) := ⟨below_to HB2.out hb3⟩
    have HG : Aside0 (w.heap.size ≤ w2.heap.size) := ⟨HB2.out.size⟩
    have HO3 : Aside0 (Own Kd.string 9 w3 w.heap.size (.slice (some ⟨w2.heap.size, 0, none⟩) ps.length ps.length) ps) := ⟨Kd.R_lower ho3 HG.out⟩
    obtain ⟨g, hg⟩ : ∃ g, w2.heap.size = g := ⟨_, rfl⟩
    rw [hg] at HO3 HG ⊢
    clear ho3 hb3 hspl hg
    go_wp2
    go_loopg [19] ps.length (fun gk i w' => ∃ (k : Nat) (l : List ByteArray), i = .int .i64 (k : Int) ∧ Aside0 (k ≤ ps.length ∧ gk = ps.length - k) ∧ Aside0 (l = (ps.take k).map trimB ++ ps.drop k) ∧ Aside0 (Own Kd.string 9 w' w.heap.size (.slice (some ⟨g, 0, none⟩) ps.length ps.length) l) ∧ Aside0 (Below w.heap.size w w'))
    case atStart => exact ⟨0, ps, by first | rfl | simp, ⟨Nat.zero_le _, rfl⟩, ⟨by simp⟩, HO3, HB3⟩
    case round =>
      obtain ⟨k, l, rfl, HA, HL, HO, HB⟩ := hrel
      by_cases hk : k < ps.length
      · have hl : l.length = ps.length := by rw [HL.out]; simp; omega
        obtain ⟨hc, hz⟩ := Kd.R_celln ByteArray.empty HO.out (k : Int) (by omega) (by omega)
        have he : rdOf ByteArray.empty l (k : Int) = ps[k] := by
          have e1 : l[k]? = some ps[k] := by
            rw [HL.out, List.getElem?_append_right (by simp; omega)]
            simp [hk, Nat.min_eq_left (Nat.le_of_lt hk)]
          unfold rdOf
          rw [Int.toNat_natCast, List.getD_eq_getElem?_getD, e1]
          rfl
        have hset : l.set k (trimB ps[k]) = (ps.take (k + 1)).map trimB ++ ps.drop (k + 1) := by
          have hk2 : ((ps.take k).map trimB).length = k := by simp; omega
          rw [HL.out, List.set_append_right _ _ (by omega), hk2, Nat.sub_self, List.drop_eq_getElem_cons hk, List.set_cons_zero, List.take_succ_eq_append_getElem hk, List.map_append, List.append_assoc]
          rfl
        rw [he] at hc
        have htr := fun W => trimS_any ps[k] W (HPS.out _ (List.getElem_mem hk))
        have HS := Aside0.mk hset
        obtain ⟨x, hx⟩ : ∃ x, ps[k] = x := ⟨_, rfl⟩
        rw [hx] at hc htr HS
        obtain ⟨r, hr⟩ : ∃ r, trimB x = r := ⟨_, rfl⟩
        rw [hr] at htr HS
        clear hset he hx hr
        simp only [Int.toNat_natCast] at hc hz
        go_wp2_with fail
        refine (htr _).mono ?_
        rintro e w4 ⟨rfl, hb4⟩
        have HO4 : Aside0 (Own Kd.string 9 w4 w.heap.size (.slice (some ⟨g, 0, none⟩) ps.length ps.length) l) := ⟨Kd.R_below HO.out hb4⟩
        have HB4 : Aside0 (Below w.heap.size w w4) := ⟨below_to HB.out hb4⟩
        obtain ⟨hc4, hz4⟩ := Kd.R_celln ByteArray.empty HO4.out (k : Int) (by omega) (by omega)
        have HO5 := Aside0.mk (Kd.R_putn HO4.out (k : Int) r)
        simp only [Int.toNat_natCast] at hc4 hz4 HO5
        rw [HS.out] at HO5
        clear hb4
        go_wp2
        go_roundg (ps.length - k - 1)
        case measure => have := HA.out; omega
        case rel => exact ⟨k + 1, _, by go_num, ⟨by omega, by omega⟩, ⟨rfl⟩, HO5, ⟨below_set HB4.out HG.out⟩⟩
      · have hall : l = F := by
          rw [HL.out, HF1.out, List.take_of_length_le (by omega), List.drop_of_length_le (by omega), List.append_nil]
        have HLN : Aside0 (F.length = ps.length) := ⟨by rw [HF1.out, List.length_map]⟩
        have HFN : Aside0 (F ≠ []) := ⟨fun h => HNE.out (List.map_eq_nil_iff.1 (HF1.out.symm.trans h))⟩
        subst hall
        go_wp2
        go_ret
        exact ⟨_, rfl, HO.out, fun h => absurd h HFN.out, fun _ => ⟨g, by rw [HLN.out]; rfl⟩, HB.out⟩

end Go.Proofs.YtkipjalfgdfaiaaGreatDoor
namespace Go.Proofs.YtkipjalfgdfaiaaGreatDoor.PNamesBack
open Go.RowKit Go.Proofs.YtkipjalfgdfaiaaGreatDoorW.PrintWords Go.Proofs.YtkipjalfgdfaiaaGreatDoorW.PrintLast Go.Proofs.YtkipjalfgdfaiaaGreatDoorW.PrintMore
set_option linter.unusedVariables false
set_option linter.unusedSimpArgs false



theorem info5 : (Tryz.prog.info? 5).map (fun i => (i.zero, i.size, i.bytes)) = some (some (.int .u8 0), 1, 1) := by kernel_rfl
section
def stringslite_HasPrefix.f (a0 : ByteArray) (a1 : ByteArray) : Option (Bool) := if (a0.size : Int) ≥ (a1.size : Int) then (if 0 ≤ (a1.size : Int) then (if (a1.size : Int) ≤ (a0.size : Int) then (some ((a0.extract 0 ((a1.size : Int) : Int).toNat).toList == a1.toList)) else (none)) else (none)) else (some false)
set_option maxHeartbeats 8000000 in
set_option maxRecDepth 100000 in
theorem stringslite_HasPrefix.calls (a0 : ByteArray) (a1 : ByteArray) (r : Bool) (w : World) (h : stringslite_HasPrefix.f a0 a1 = some r) :
    Calls Tryz.prog 146 #[.string a0, .string a1] w fun e w' => e = .returned (.bool r) ∧ Drawn0 w w' := by
  have H : (if (a0.size : Int) ≥ (a1.size : Int) then (if 0 ≤ (a1.size : Int) then (if (a1.size : Int) ≤ (a0.size : Int) then (some ((a0.extract 0 ((a1.size : Int) : Int).toNat).toList == a1.toList)) else (none)) else (none)) else (some false)) = some r := h
  clear h
  by_cases c3 : (a0.size : Int) ≥ (a1.size : Int)
  · rw [if_pos c3] at H
    have c3b0 : decide ((a1.size : Int) ≤ (a0.size : Int)) = true := decide_eq_true c3
    have c3b1 : decide (a1.size ≤ a0.size) = true := decide_eq_true (Int.ofNat_le.mp c3)
    clear c3
    by_cases c4 : 0 ≤ (a1.size : Int)
    · rw [if_pos c4] at H
      have c4b0 := eq_true c4
      have c4b1 : decide (0 ≤ (a1.size : Int)) = true := decide_eq_true c4
      clear c4
      by_cases c5 : (a1.size : Int) ≤ (a0.size : Int)
      · rw [if_pos c5] at H
        have c5b0 := eq_true c5
        have c5b1 : decide ((a1.size : Int) ≤ (a0.size : Int)) = true := decide_eq_true c5
        clear c5
        obtain rfl := Option.some.inj H
        go_enter Tryz.func146, Tryz.ntmps146
        go_wp2
        go_ret
        exact ⟨by first | rfl | (simp; done) | (simp [*]; done), by repeat (first | exact Drawn0.refl _ | apply Drawn0.step)⟩
      · rw [if_neg c5] at H
        exact absurd H (by simp)
    · rw [if_neg c4] at H
      exact absurd H (by simp)
  · rw [if_neg c3] at H
    have c3b0 : decide ((a1.size : Int) ≤ (a0.size : Int)) = false := decide_eq_false c3
    have c3b1 : decide (a1.size ≤ a0.size) = false := decide_eq_false (fun h => c3 (Int.ofNat_le.mpr h))
    clear c3
    obtain rfl := Option.some.inj H
    go_enter Tryz.func146, Tryz.ntmps146
    go_wp2
    go_ret
    exact ⟨by first | rfl | (simp; done) | (simp [*]; done), by repeat (first | exact Drawn0.refl _ | apply Drawn0.step)⟩


end

section
def stringslite_CutPrefix.f (a0 : ByteArray) (a1 : ByteArray) : Option (ByteArray × Bool) := (stringslite_HasPrefix.f a0 a1).bind fun t111 => (if t111 = true then (if 0 ≤ (a1.size : Int) then (if (a1.size : Int) ≤ (a0.size : Int) then (some (a0.extract ((a1.size : Int) : Int).toNat a0.size, true)) else (none)) else (none)) else (some (a0, false)))
set_option maxHeartbeats 8000000 in
set_option maxRecDepth 100000 in
theorem stringslite_CutPrefix.calls (a0 : ByteArray) (a1 : ByteArray) (r1 : ByteArray) (r2 : Bool) (w : World) (h : stringslite_CutPrefix.f a0 a1 = some (r1, r2)) :
    Calls Tryz.prog 190 #[.string a0, .string a1] w fun e w' => e = .returned (.tuple #[.string r1, .bool r2]) ∧ Drawn0 w w' := by
  have H : ((stringslite_HasPrefix.f a0 a1).bind fun t111 => (if t111 = true then (if 0 ≤ (a1.size : Int) then (if (a1.size : Int) ≤ (a0.size : Int) then (some (a0.extract ((a1.size : Int) : Int).toNat a0.size, true)) else (none)) else (none)) else (some (a0, false)))) = some (r1, r2) := h
  clear h
  replace H := Option.bind_eq_some_iff.mp H
  obtain ⟨t111, A30, H⟩ := H
  replace H : (if t111 = true then (if 0 ≤ (a1.size : Int) then (if (a1.size : Int) ≤ (a0.size : Int) then (some (a0.extract ((a1.size : Int) : Int).toNat a0.size, true)) else (none)) else (none)) else (some (a0, false))) = some (r1, r2) := H
  have A3 := Aside0.mk A30
  clear A30
  by_cases c4 : t111 = true
  · subst c4
    have H1 : (if 0 ≤ (a1.size : Int) then (if (a1.size : Int) ≤ (a0.size : Int) then (some (a0.extract ((a1.size : Int) : Int).toNat a0.size, true)) else (none)) else (none)) = some (r1, r2) := by rw [if_pos rfl] at H; exact H
    clear H
    have H := H1
    clear H1
    by_cases c5 : 0 ≤ (a1.size : Int)
    · rw [if_pos c5] at H
      have c5b0 := eq_true c5
      have c5b1 : decide (0 ≤ (a1.size : Int)) = true := decide_eq_true c5
      clear c5
      by_cases c6 : (a1.size : Int) ≤ (a0.size : Int)
      · rw [if_pos c6] at H
        have c6b0 := eq_true c6
        have c6b1 : decide ((a1.size : Int) ≤ (a0.size : Int)) = true := decide_eq_true c6
        clear c6
        simp only [Option.some.injEq, Prod.mk.injEq] at H
        obtain ⟨rfl, rfl⟩ := H
        go_enter Tryz.func190, Tryz.ntmps190
        go_wp2_with (first | ((with_reducible refine gate_callee (f := 146) rfl ?_); refine goesL_ (some 8) rfl rfl Tryz.func146 (by kernel_rfl) rfl #[.string a0, .string a1] rfl (by (try simp only [List.map_toArray, List.map_cons, List.map_nil]); first | done | rfl | (simp only [List.length_drop, List.length_take]; rfl)) ?_; (with_reducible refine (stringslite_HasPrefix.calls a0 a1 true _ A3.out).mono ?_); rintro e w' ⟨rfl, ⟨nd, rfl⟩⟩; refine ⟨_, rfl, ?_⟩))
        go_ret2
        exact ⟨by first | rfl | (simp; done) | (simp [*]; done), by repeat (first | exact Drawn0.refl _ | apply Drawn0.step)⟩
      · rw [if_neg c6] at H
        exact absurd H (by simp)
    · rw [if_neg c5] at H
      exact absurd H (by simp)
  · replace c4 := Bool.eq_false_iff.mpr c4
    subst c4
    have H1 : (some (a0, false)) = some (r1, r2) := by rw [if_neg (show ¬ (false = true) by decide)] at H; exact H
    clear H
    have H := H1
    clear H1
    simp only [Option.some.injEq, Prod.mk.injEq] at H
    obtain ⟨rfl, rfl⟩ := H
    go_enter Tryz.func190, Tryz.ntmps190
    go_wp2_with (first | ((with_reducible refine gate_callee (f := 146) rfl ?_); refine goesL_ (some 8) rfl rfl Tryz.func146 (by kernel_rfl) rfl #[.string a0, .string a1] rfl (by (try simp only [List.map_toArray, List.map_cons, List.map_nil]); first | done | rfl | (simp only [List.length_drop, List.length_take]; rfl)) ?_; (with_reducible refine (stringslite_HasPrefix.calls a0 a1 false _ A3.out).mono ?_); rintro e w' ⟨rfl, ⟨nd, rfl⟩⟩; refine ⟨_, rfl, ?_⟩))
    go_ret2
    exact ⟨by first | rfl | (simp; done) | (simp [*]; done), by repeat (first | exact Drawn0.refl _ | apply Drawn0.step)⟩


end

section
def strings_CutPrefix.f (a0 : ByteArray) (a1 : ByteArray) : Option (ByteArray × Bool) := (stringslite_CutPrefix.f a0 a1).bind fun bt112 => (some (bt112.1, bt112.2))
set_option maxHeartbeats 8000000 in
set_option maxRecDepth 100000 in
theorem strings_CutPrefix.calls (a0 : ByteArray) (a1 : ByteArray) (r1 : ByteArray) (r2 : Bool) (w : World) (h : strings_CutPrefix.f a0 a1 = some (r1, r2)) :
    Calls Tryz.prog 180 #[.string a0, .string a1] w fun e w' => e = .returned (.tuple #[.string r1, .bool r2]) ∧ Drawn0 w w' := by
  have H : ((stringslite_CutPrefix.f a0 a1).bind fun bt112 => (some (bt112.1, bt112.2))) = some (r1, r2) := h
  clear h
  replace H := Option.bind_eq_some_iff.mp H
  obtain ⟨⟨t112, t113⟩, A30, H⟩ := H
  replace H : (some (t112, t113)) = some (r1, r2) := H
  have A3 := Aside0.mk A30
  clear A30
  simp only [Option.some.injEq, Prod.mk.injEq] at H
  obtain ⟨rfl, rfl⟩ := H
  go_enter Tryz.func180, Tryz.ntmps180
  go_wp2_with (first | ((with_reducible refine gate_callee (f := 190) rfl ?_); refine goesL_ (some 8) rfl rfl Tryz.func190 (by kernel_rfl) rfl #[.string a0, .string a1] rfl (by (try simp only [List.map_toArray, List.map_cons, List.map_nil]); first | done | rfl | (simp only [List.length_drop, List.length_take]; rfl)) ?_; (with_reducible refine (stringslite_CutPrefix.calls a0 a1 t112 t113 _ A3.out).mono ?_); rintro e w' ⟨rfl, ⟨nd, rfl⟩⟩; refine ⟨_, rfl, ?_⟩))
  go_ret2
  exact ⟨by first | rfl | (simp; done) | (simp [*]; done), by repeat (first | exact Drawn0.refl _ | apply Drawn0.step)⟩



end

section
def names_number.f (a0 : ByteArray) : Option (Int) := if a0.toList = ([103, 99] : List UInt8) then (some 1) else (if a0.toList = ([115, 99] : List UInt8) then (some 2) else (some 3))
set_option maxHeartbeats 8000000 in
set_option maxRecDepth 100000 in
theorem names_number.calls (a0 : ByteArray) (r : Int) (w : World) (h : names_number.f a0 = some r) :
    Calls Tryz.prog 144 #[.string a0] w fun e w' => e = .returned (.int .i64 r) ∧ Drawn0 w w' := by
  have H : (if a0.toList = ([103, 99] : List UInt8) then (some 1) else (if a0.toList = ([115, 99] : List UInt8) then (some 2) else (some 3))) = some r := h
  clear h
  by_cases c2 : a0.toList = ([103, 99] : List UInt8)
  · rw [if_pos c2] at H
    have c2b0 : (a0.toList == ([103, 99] : List UInt8)) = true := beq_iff_eq.mpr c2
    have c2b1 : (a0.toList != ([103, 99] : List UInt8)) = false := bne_eq_false_iff_eq.mpr c2
    clear c2
    obtain rfl := Option.some.inj H
    go_enter Tryz.func144, Tryz.ntmps144
    go_wp2
    go_ret
    exact ⟨by first | rfl | (simp; done) | (simp [*]; done), by repeat (first | exact Drawn0.refl _ | apply Drawn0.step)⟩
  · rw [if_neg c2] at H
    have c2b0 : (a0.toList == ([103, 99] : List UInt8)) = false := beq_eq_false_iff_ne.mpr c2
    have c2b1 : (a0.toList != ([103, 99] : List UInt8)) = true := bne_iff_ne.mpr c2
    by_cases c3 : a0.toList = ([115, 99] : List UInt8)
    · rw [if_pos c3] at H
      have c3b0 : (a0.toList == ([115, 99] : List UInt8)) = true := beq_iff_eq.mpr c3
      have c3b1 : (a0.toList != ([115, 99] : List UInt8)) = false := bne_eq_false_iff_eq.mpr c3
      clear c3
      obtain rfl := Option.some.inj H
      go_enter Tryz.func144, Tryz.ntmps144
      go_wp2
      go_ret
      exact ⟨by first | rfl | (simp; done) | (simp [*]; done), by repeat (first | exact Drawn0.refl _ | apply Drawn0.step)⟩
    · rw [if_neg c3] at H
      have c3b0 : (a0.toList == ([115, 99] : List UInt8)) = false := beq_eq_false_iff_ne.mpr c3
      have c3b1 : (a0.toList != ([115, 99] : List UInt8)) = true := bne_iff_ne.mpr c3
      obtain rfl := Option.some.inj H
      go_enter Tryz.func144, Tryz.ntmps144
      go_wp2
      go_ret
      exact ⟨by first | rfl | (simp; done) | (simp [*]; done), by repeat (first | exact Drawn0.refl _ | apply Drawn0.step)⟩





end



end Go.Proofs.YtkipjalfgdfaiaaGreatDoor.PNamesBack
namespace Go.Proofs.YtkipjalfgdfaiaaGreatDoor
set_option linter.unusedVariables false
set_option linter.unusedSimpArgs false
open Go.RowKit Go.Proofs.YtkipjalfgdfaiaaGreatDoorW.PrintWords Go.Proofs.YtkipjalfgdfaiaaGreatDoorW.PrintLast Go.Proofs.YtkipjalfgdfaiaaGreatDoorW.PrintMore

def skipB (b : UInt8) : Bool := b == 32 || b == 45 || b == 95
def lowB (b : UInt8) : UInt8 := if 65 ≤ b.toNat ∧ b.toNat ≤ 90 then b + 32 else b
def lowL : List UInt8 → List UInt8
  | [] => []
  | b :: l => if skipB b = true then lowL l else lowB b :: lowL l
theorem lowL_snoc : ∀ (l : List UInt8) (b : UInt8), lowL (l ++ [b]) = lowL l ++ (if skipB b = true then [] else [lowB b])
  | [], b => by
    show lowL [b] = _
    unfold lowL
    split <;> rfl
  | c :: l, b => by
    have ih := lowL_snoc l b
    show lowL (c :: (l ++ [b])) = _
    by_cases h : skipB c = true
    · rw [lowL, if_pos h, lowL, if_pos h, ih]
    · rw [lowL, if_neg h, lowL, if_neg h, ih, List.cons_append]
theorem lowL_length : ∀ l : List UInt8, (lowL l).length ≤ l.length
  | [] => Nat.le_refl _
  | b :: l => by
    have ih := lowL_length l
    unfold lowL
    split
    · simp only [List.length_cons]
      omega
    · simp only [List.length_cons]
      omega
/-- What stands behind "is". -/
def cutIs (o : List UInt8) : List UInt8 := if 2 < o.length ∧ o.take 2 = [105, 115] then o.drop 2 else o
def looseB (s : ByteArray) : ByteArray := bsL (cutIs (lowL s.data.toList))
def numsOf (l : List UInt8) : List Int := l.map fun b => (b.toNat : Int)
theorem strOf_nums (l : List UInt8) : strOfNums (numsOf l) = bsL l := by
  unfold strOfNums numsOf bsL
  rw [List.map_map]
  have h : ((fun n : Int => UInt8.ofNat n.toNat) ∘ fun b : UInt8 => (b.toNat : Int)) = id := by
    funext b
    simp
  first
    | (rw [h, List.map_id])
    | (congr 1; simp only [Function.comp_def] at h ⊢; simp [h])
theorem numsOf_app (l m : List UInt8) : numsOf (l ++ m) = numsOf l ++ numsOf m := List.map_append
theorem numsOf_length (l : List UInt8) : (numsOf l).length = l.length := List.length_map _
theorem low_or (b : UInt8) (h0 : 65 ≤ b.toNat) (h1 : b.toNat ≤ 90) : bits .or .u8 (b.toNat : Int) 32 = ((b + 32).toNat : Int) := by
  have key : ∀ n : Fin 256, 65 ≤ n.val → n.val ≤ 90 → bits .or .u8 (n.val : Int) 32 = ((UInt8.ofNat n.val + 32).toNat : Int) := by decide +kernel
  have h := key ⟨b.toNat, UInt8.toNat_lt b⟩ h0 h1
  rw [show UInt8.ofNat b.toNat = b by simp] at h
  exact h
theorem skipB_is (b : UInt8) : skipB b = true ↔ b.toNat = 32 ∨ b.toNat = 45 ∨ b.toNat = 95 := by
  unfold skipB
  simp only [Bool.or_eq_true, beq_iff_eq]
  constructor
  · rintro ((rfl | rfl) | rfl)
    · exact .inl rfl
    · exact .inr (.inl rfl)
    · exact .inr (.inr rfl)
  · rintro (h | h | h)
    · exact .inl (.inl (UInt8.toNat_inj.1 h))
    · exact .inl (.inr (UInt8.toNat_inj.1 h))
    · exact .inr (UInt8.toNat_inj.1 h)
theorem take_two {o : List UInt8} (h : 2 ≤ o.length) : (bsL o).extract 0 2 = bsL (o.take 2) := by
  rw [ext_bsL]
  rfl
theorem drop_two (o : List UInt8) : (bsL o).extract 2 (bsL o).size = bsL (o.drop 2) := by
  rw [ext_bsL, size_bsL]
  congr 1
  exact List.take_of_length_le (by rw [List.length_drop]; exact Nat.le_refl _)
theorem toList_bsL (l : List UInt8) : (bsL l).toList = l := by rw [Lib.toList_data, data_bsL]
/-- What strings.CutPrefix answers at "is". -/
theorem prefix_is (o : List UInt8) : Go.Proofs.YtkipjalfgdfaiaaGreatDoor.PNamesBack.strings_CutPrefix.f (bsL o) ⟨#[105, 115]⟩ = some (if 2 ≤ o.length ∧ o.take 2 = [105, 115] then (bsL (o.drop 2), true) else (bsL o, false)) := by
  have h2 : (⟨#[105, 115]⟩ : ByteArray).size = 2 := rfl
  have hl : (⟨#[105, 115]⟩ : ByteArray).toList = [105, 115] := by rw [Lib.toList_data]
  have hp : Go.Proofs.YtkipjalfgdfaiaaGreatDoor.PNamesBack.stringslite_HasPrefix.f (bsL o) ⟨#[105, 115]⟩ = some (decide (2 ≤ o.length ∧ o.take 2 = [105, 115])) := by
    unfold Go.Proofs.YtkipjalfgdfaiaaGreatDoor.PNamesBack.stringslite_HasPrefix.f
    rw [h2, hl, size_bsL]
    by_cases h : 2 ≤ o.length
    · rw [if_pos (by omega), if_pos (by omega), if_pos (by omega)]
      have e : ((2 : Nat) : Int).toNat = 2 := rfl
      rw [e, take_two h, toList_bsL]
      congr 1
      by_cases hq : o.take 2 = [105, 115]
      · rw [hq]
        simp [h]
      · rw [decide_eq_false (fun hh => hq hh.2)]
        exact beq_eq_false_iff_ne.2 hq
    · rw [if_neg (by omega), decide_eq_false (fun hh => h hh.1)]
  unfold Go.Proofs.YtkipjalfgdfaiaaGreatDoor.PNamesBack.strings_CutPrefix.f Go.Proofs.YtkipjalfgdfaiaaGreatDoor.PNamesBack.stringslite_CutPrefix.f
  rw [hp, Option.bind_some]
  by_cases h : 2 ≤ o.length ∧ o.take 2 = [105, 115]
  · rw [if_pos h, if_pos (decide_eq_true h), h2, size_bsL, if_pos (by omega), if_pos (by omega)]
    have e : ((2 : Nat) : Int).toNat = 2 := rfl
    rw [e, Option.bind_some]
    have := drop_two o
    rw [size_bsL] at this
    rw [this]
  · rw [if_neg h, if_neg (by rw [decide_eq_false h]; decide), Option.bind_some]

set_option maxHeartbeats 4000000 in
set_option maxRecDepth 100000 in
theorem loose_any (s : ByteArray) (w : World) (hs : s.size < 140737488355328) :
    Calls Tryz.prog 170 #[.string s] w fun e w' => e = .returned (.string (looseB s)) ∧ Below w.heap.size w w' := by
  have hconv := fun W => print_bytes (P := Tryz.prog) 9 34 5 Tryz.underlying9 Tryz.underlying34 Tryz.underlying5 s W
  obtain ⟨cap, hcap⟩ : ∃ cap, grownCap w s.size 0 5 = cap := ⟨_, rfl⟩
  have hc := hconv w
  rw [hcap] at hc
  have hrd := bytes_reads w 5 s (by omega)
  have hbl := bytes_below (Below.refl w.heap.size w) (Nat.le_refl _) 5 s
  obtain ⟨W0, hW0⟩ : ∃ W0, Lib.bytesWorld w 5 s = W0 := ⟨_, rfl⟩
  rw [hW0] at hc hrd hbl
  have HR := Aside0.mk hrd
  have HB0 := Aside0.mk hbl
  have hsz : s.data.toList.length = s.size := data_length s
  have HA0 : Aside0 (looseB s = bsL (cutIs (lowL s.data.toList))) := ⟨rfl⟩
  have HBT : Aside0 (∀ k b, s.data.toList[k]? = some b → bt s ((k : Nat) : Int) = (b.toNat : Int)) := ⟨fun k b hb => by
    obtain ⟨hk, rfl⟩ := List.getElem?_eq_some_iff.1 hb
    have := bt_bsL s.data.toList k hk
    rwa [bsL_data] at this⟩
  obtain ⟨L, hL⟩ : ∃ L, s.data.toList = L := ⟨_, rfl⟩
  obtain ⟨ans, hans⟩ : ∃ ans, looseB s = ans := ⟨_, rfl⟩
  rw [hL] at hsz HA0 HBT
  rw [hans] at HA0 ⊢
  clear hconv hcap hrd hbl hW0 hans hL
  go_enter Tryz.func170, Tryz.ntmps170
  go_wp2
  go_loopg [3, 12] s.size (fun gk z i w' => ∃ (k : Nat), i = .int .i64 (k : Int) ∧ Aside0 (k ≤ s.size ∧ gk = s.size - k) ∧ Aside0 (Own (Kd.int .u8) 5 w' W0.heap.size z (numsOf (lowL (L.take k)))) ∧ Aside0 (Below W0.heap.size W0 w'))
  case atStart => exact ⟨0, by first | rfl | simp, ⟨Nat.zero_le _, rfl⟩, ⟨Kd.R_nil _ _ _ _ _⟩, ⟨Below.refl _ _⟩⟩
  case round =>
    obtain ⟨k, rfl, HA, HO, HB1⟩ := hrel
    by_cases hk : k < s.size
    · have hkL : k < L.length := by omega
      obtain ⟨b, hb⟩ : ∃ b, L[k] = b := ⟨_, rfl⟩
      have hbo : L[k]? = some b := by rw [List.getElem?_eq_getElem hkL, hb]
      have hT : lowL (L.take (k + 1)) = lowL (L.take k) ++ (if skipB b = true then [] else [lowB b]) := by rw [List.take_succ_eq_append_getElem hkL, hb, lowL_snoc]
      obtain ⟨ad, hae, hx⟩ := HR.out.at_ (k : Int) (by omega) (by omega)
      cases hae
      rw [rd_bytesOf, HBT.out k b hbo, Int.toNat_natCast, add_plain] at hx
      replace hx := pw_cell_below HB1.out hx
      have hb255 := UInt8.toNat_lt b
      have hlen := lowL_length (L.take k)
      rw [List.length_take, Nat.min_eq_left (by omega)] at hlen
      have HLO := Aside0.mk (low_or b)
      have HSK := Aside0.mk (skipB_is b)
      have HLB : Aside0 (lowB b = if 65 ≤ b.toNat ∧ b.toNat ≤ 90 then b + 32 else b) := ⟨rfl⟩
      have HTT := Aside0.mk hT
      clear hT hbo hb
      obtain ⟨O, hO⟩ : ∃ O, lowL (L.take k) = O := ⟨_, rfl⟩
      rw [hO] at HO HTT hlen
      clear hO
      obtain ⟨c, hcb⟩ : ∃ c : Int, (b.toNat : Int) = c := ⟨_, rfl⟩
      rw [hcb] at hx HLO
      have hc0 : 0 ≤ c ∧ c ≤ 255 := by omega
      by_cases hsk : c = 32 ∨ c = 45 ∨ c = 95
      · have HE : Aside0 (lowL (L.take (k + 1)) = O) := ⟨by rw [HTT.out, if_pos (HSK.out.2 (by omega)), List.append_nil]⟩
        have hv : c = 32 ∨ (c = 45 ∨ c = 95) := hsk
        clear HLO HSK HLB HTT hcb
        rcases hv with rfl | rfl | rfl
        · go_wp2
          go_roundg (s.size - k - 1)
          case measure => have := HA.out; omega
          case rel => exact ⟨k + 1, by go_num, ⟨by omega, by omega⟩, ⟨by rw [HE.out]; exact HO.out⟩, HB1⟩
        · go_wp2
          go_roundg (s.size - k - 1)
          case measure => have := HA.out; omega
          case rel => exact ⟨k + 1, by go_num, ⟨by omega, by omega⟩, ⟨by rw [HE.out]; exact HO.out⟩, HB1⟩
        · go_wp2
          go_roundg (s.size - k - 1)
          case measure => have := HA.out; omega
          case rel => exact ⟨k + 1, by go_num, ⟨by omega, by omega⟩, ⟨by rw [HE.out]; exact HO.out⟩, HB1⟩
      · have n32 : ¬ c = 32 := fun h => hsk (.inl h)
        have n45 : ¬ c = 45 := fun h => hsk (.inr (.inl h))
        have n95 : ¬ c = 95 := fun h => hsk (.inr (.inr h))
        have e32 : (c == 32) = false := beq_eq_false_iff_ne.2 n32
        have e45 : (c == 45) = false := beq_eq_false_iff_ne.2 n45
        have e95 : (c == 95) = false := beq_eq_false_iff_ne.2 n95
        have hns : ¬ skipB b = true := fun h => by have := HSK.out.1 h; omega
        by_cases hup : 65 ≤ c ∧ c ≤ 90
        · obtain ⟨h65, h90⟩ := hup
          have hor := HLO.out (by omega) (by omega)
          have HE : Aside0 (numsOf (lowL (L.take (k + 1))) = numsOf O ++ [((b + 32).toNat : Int)]) := ⟨by
            rw [HTT.out, if_neg hns, HLB.out, if_pos ⟨by omega, by omega⟩, numsOf_app]
            rfl⟩
          obtain ⟨d, hd⟩ : ∃ d : Int, ((b + 32).toNat : Int) = d := ⟨_, rfl⟩
          rw [hd] at hor HE
          have hol := numsOf_length O
          clear HLO HSK HLB HTT hcb hsk hns hd
          go_wp2_with (at_builtin; refine Kd.R_append (Kd.int .u8) (w0 := W0) W0.heap.size rfl (.tmp 36) (.tmp 38) 34 5 (.int .u8 0) 1 rfl Tryz.underlying34 Go.Proofs.YtkipjalfgdfaiaaGreatDoor.PNamesBack.info5 rfl (by decide) (by omega) u3 (numsOf O) d [.int .u8 d] (fun _ => True) (fun _ => False) rfl ?aX1 (int_mkM _ _ _ _ _) (fun _ h => h.elim) (fun _ _ => trivial) HO.out HB1.out ?aS1 ?aL1 ?_)
          try (case aX1 => rfl)
          case aS1 => exact HB1.out.size
          case aL1 => omega
          intro v1 w1 ho hb hg _
          have HO1 := Aside0.mk ho
          have HB2 := Aside0.mk hb
          clear ho hb hg
          go_wp2
          go_roundg (s.size - k - 1)
          case measure => have := HA.out; omega
          case rel => exact ⟨k + 1, by go_num, ⟨by omega, by omega⟩, ⟨by rw [HE.out]; exact HO1.out⟩, HB2⟩
        · have HE : Aside0 (numsOf (lowL (L.take (k + 1))) = numsOf O ++ [c]) := ⟨by
            rw [HTT.out, if_neg hns, HLB.out, if_neg (by omega), numsOf_app, ← hcb]
            rfl⟩
          have hol := numsOf_length O
          clear HLO HSK HLB HTT hcb hsk hns
          by_cases h65 : 65 ≤ c
          · have h90 : 90 < c := by omega
            go_wp2_with (at_builtin; refine Kd.R_append (Kd.int .u8) (w0 := W0) W0.heap.size rfl (.tmp 36) (.tmp 38) 34 5 (.int .u8 0) 1 rfl Tryz.underlying34 Go.Proofs.YtkipjalfgdfaiaaGreatDoor.PNamesBack.info5 rfl (by decide) (by omega) u3 (numsOf O) c [.int .u8 c] (fun _ => True) (fun _ => False) rfl ?aX2 (int_mkM _ _ _ _ _) (fun _ h => h.elim) (fun _ _ => trivial) HO.out HB1.out ?aS2 ?aL2 ?_)
            try (case aX2 => rfl)
            case aS2 => exact HB1.out.size
            case aL2 => omega
            intro v1 w1 ho hb hg _
            have HO1 := Aside0.mk ho
            have HB2 := Aside0.mk hb
            clear ho hb hg
            go_wp2
            go_roundg (s.size - k - 1)
            case measure => have := HA.out; omega
            case rel => exact ⟨k + 1, by go_num, ⟨by omega, by omega⟩, ⟨by rw [HE.out]; exact HO1.out⟩, HB2⟩
          · have h65' : c < 65 := by omega
            go_wp2_with (at_builtin; refine Kd.R_append (Kd.int .u8) (w0 := W0) W0.heap.size rfl (.tmp 36) (.tmp 38) 34 5 (.int .u8 0) 1 rfl Tryz.underlying34 Go.Proofs.YtkipjalfgdfaiaaGreatDoor.PNamesBack.info5 rfl (by decide) (by omega) u3 (numsOf O) c [.int .u8 c] (fun _ => True) (fun _ => False) rfl ?aX3 (int_mkM _ _ _ _ _) (fun _ h => h.elim) (fun _ _ => trivial) HO.out HB1.out ?aS3 ?aL3 ?_)
            try (case aX3 => rfl)
            case aS3 => exact HB1.out.size
            case aL3 => omega
            intro v1 w1 ho hb hg _
            have HO1 := Aside0.mk ho
            have HB2 := Aside0.mk hb
            clear ho hb hg
            go_wp2
            go_roundg (s.size - k - 1)
            case measure => have := HA.out; omega
            case rel => exact ⟨k + 1, by go_num, ⟨by omega, by omega⟩, ⟨by rw [HE.out]; exact HO1.out⟩, HB2⟩
    · have hall : L.take k = L := List.take_of_length_le (by omega)
      rw [hall] at HO
      obtain ⟨Av, cv, rfl, hcv, hrv⟩ := Kd.R_reads HO.out
      have hstr := fun W (h : Kd.C (Kd.int .u8) W Av (numsOf (lowL L)).length (numsOf (lowL L))) => Kd.C_string (P := Tryz.prog) (src := 34) (dst := 9) (e := 5) (c := cv) Tryz.underlying34 Tryz.underlying5 Tryz.underlying9 h
      have hs2 := hstr wr hrv
      rw [strOf_nums] at hs2
      have hpre := prefix_is (lowL L)
      obtain ⟨O, hO⟩ : ∃ O, lowL L = O := ⟨_, rfl⟩
      rw [hO] at hs2 hpre HA0 ⊢
      obtain ⟨n, hn⟩ : ∃ n, (numsOf O).length = n := ⟨_, rfl⟩
      rw [hn] at hs2 ⊢
      have HB : Aside0 (Below w.heap.size w wr) := ⟨below_to HB0.out HB1.out⟩
      clear hstr hrv hcv HO hall hO HR
      by_cases hp : 2 ≤ O.length ∧ O.take 2 = [105, 115]
      · rw [if_pos hp] at hpre
        have hcall := fun W => Go.Proofs.YtkipjalfgdfaiaaGreatDoor.PNamesBack.strings_CutPrefix.calls (bsL O) ⟨#[105, 115]⟩ (bsL (O.drop 2)) true W hpre
        by_cases hl : 2 < O.length
        · have HQ : Aside0 (ans = bsL (O.drop 2)) := ⟨by rw [HA0.out]; unfold cutIs; rw [if_pos ⟨hl, hp.2⟩]⟩
          have hd : (O.drop 2).length ≠ 0 := by rw [List.length_drop]; omega
          obtain ⟨D, hD⟩ : ∃ D, bsL (O.drop 2) = D := ⟨_, rfl⟩
          have hne : D.toList.isEmpty = false := by
            rw [← hD, toList_bsL]
            cases hh : O.drop 2 with
            | nil => rw [hh] at hd; exact absurd rfl hd
            | cons _ _ => rfl
          rw [hD] at HQ hcall
          obtain ⟨OB, hOB⟩ : ∃ OB, bsL O = OB := ⟨_, rfl⟩
          rw [hOB] at hs2 hcall
          clear hpre hp hd hD hOB
          go_wp2_with fail
          refine (hcall _).mono ?_
          rintro e w2 ⟨rfl, hd2⟩
          have HB2 : Aside0 (Below w.heap.size w w2) := ⟨below_to HB.out hd2.below⟩
          clear hd2 hcall
          go_wp2
          go_ret
          rw [HQ.out]
          exact ⟨rfl, HB2.out⟩
        · have HQ : Aside0 (ans = bsL O) := ⟨by rw [HA0.out]; unfold cutIs; rw [if_neg (fun h => hl h.1)]⟩
          have hd : O.drop 2 = [] := List.drop_of_length_le (by omega)
          rw [hd] at hcall
          obtain ⟨OB, hOB⟩ : ∃ OB, bsL O = OB := ⟨_, rfl⟩
          rw [hOB] at hs2 hcall HQ
          have hemp : bsL [] = ByteArray.empty := rfl
          rw [hemp] at hcall
          clear hpre hp hd hOB hemp
          go_wp2_with fail
          refine (hcall _).mono ?_
          rintro e w2 ⟨rfl, hd2⟩
          have HB2 : Aside0 (Below w.heap.size w w2) := ⟨below_to HB.out hd2.below⟩
          clear hd2 hcall
          go_wp2
          go_ret
          rw [HQ.out]
          exact ⟨rfl, HB2.out⟩
      · rw [if_neg hp] at hpre
        have hcall := fun W => Go.Proofs.YtkipjalfgdfaiaaGreatDoor.PNamesBack.strings_CutPrefix.calls (bsL O) ⟨#[105, 115]⟩ (bsL O) false W hpre
        have HQ : Aside0 (ans = bsL O) := ⟨by rw [HA0.out]; unfold cutIs; rw [if_neg (fun h => hp ⟨by omega, h.2⟩)]⟩
        obtain ⟨OB, hOB⟩ : ∃ OB, bsL O = OB := ⟨_, rfl⟩
        rw [hOB] at hs2 hcall HQ
        clear hpre hp hOB
        go_wp2_with fail
        refine (hcall _).mono ?_
        rintro e w2 ⟨rfl, hd2⟩
        have HB2 : Aside0 (Below w.heap.size w w2) := ⟨below_to HB.out hd2.below⟩
        clear hd2 hcall
        go_wp2
        go_ret
        rw [HQ.out]
        exact ⟨rfl, HB2.out⟩

end Go.Proofs.YtkipjalfgdfaiaaGreatDoor
namespace Go.Proofs.YtkipjalfgdfaiaaGreatDoor
set_option linter.unusedVariables false
set_option linter.unusedSimpArgs false
open Go.RowKit Go.Proofs.YtkipjalfgdfaiaaGreatDoorW.PrintWords Go.Proofs.YtkipjalfgdfaiaaGreatDoorW.PrintLast Go.Proofs.YtkipjalfgdfaiaaGreatDoorW.PrintMore Go.Proofs.YtkipjalfgdfaiaaGreatDoor.PTk

theorem i64_and63 (x : Int) (h0 : 0 ≤ x) (h1 : x < 2 ^ 62) : bits .and .i64 x 63 = x % 64 := bits_mask .i64 62 (by decide) (fun n h0 h1 => by rw [IntKind.wrap_i64]; omega) 6 (by decide) x h0 h1
theorem or_tail (x : Int) (h0 : 0 ≤ x) (h1 : x ≤ 1114111) : bits .or .u8 128 ((bits .and .i64 x 63) % 256) = 128 + x % 64 := by
  rw [i64_and63 x h0 (by omega)]
  have key : ∀ n : Nat, n < 64 → bits .or .u8 128 ((n : Int) % 256) = 128 + (n : Int) := by decide +kernel
  have := key (x % 64).toNat (by omega)
  rw [Int.toNat_of_nonneg (by omega)] at this
  exact this
theorem or_lead1 (y : Int) (h0 : 0 ≤ y) (h1 : y < 32) : bits .or .u8 ((bits .and .i64 (shr .i64 3968 1) 255) % 256) (y % 256) = 192 + y := by
  have key : ∀ n : Nat, n < 32 → bits .or .u8 ((bits .and .i64 (shr .i64 3968 1) 255) % 256) ((n : Int) % 256) = 192 + (n : Int) := by decide +kernel
  have := key y.toNat (by omega)
  rw [Int.toNat_of_nonneg h0] at this
  exact this
theorem or_lead2 (y : Int) (h0 : 0 ≤ y) (h1 : y < 16) : bits .or .u8 ((bits .and .i64 (shr .i64 3968 2) 255) % 256) (y % 256) = 224 + y := by
  have key : ∀ n : Nat, n < 16 → bits .or .u8 ((bits .and .i64 (shr .i64 3968 2) 255) % 256) ((n : Int) % 256) = 224 + (n : Int) := by decide +kernel
  have := key y.toNat (by omega)
  rw [Int.toNat_of_nonneg h0] at this
  exact this
theorem or_lead3 (y : Int) (h0 : 0 ≤ y) (h1 : y < 8) : bits .or .u8 ((bits .and .i64 (shr .i64 3968 3) 255) % 256) (y % 256) = 240 + y := by
  have key : ∀ n : Nat, n < 8 → bits .or .u8 ((bits .and .i64 (shr .i64 3968 3) 255) % 256) ((n : Int) % 256) = 240 + (n : Int) := by decide +kernel
  have := key y.toNat (by omega)
  rw [Int.toNat_of_nonneg h0] at this
  exact this
theorem ej0 (k : Nat) (x : Int) (b : Bool) : utf_Encode.j0 (k + 1) x b = if b = true then some ([], false) else if x < 128 then some ([x % 256], true) else utf_Encode.l0 k x 1 2048 := by rw [utf_Encode.j0]
theorem ej2 (k : Nat) (x n : Int) : utf_Encode.j2 (k + 1) x n = if 0 ≤ wrap64 (n + 1) then (if (wrap64 (n + 1)).toNat ≤ 281474976710656 then utf_Encode.l1 k x n (List.replicate (wrap64 (n + 1)).toNat 0) n else none) else none := by rw [utf_Encode.j2]
theorem el0 (k : Nat) (x n b : Int) : utf_Encode.l0 (k + 1) x n b = if x ≥ b then (if n < 3 then utf_Encode.l0 k x (wrap64 (n + 1)) (wrap64 (b * 32)) else utf_Encode.j2 k x n) else utf_Encode.j2 k x n := by rw [utf_Encode.l0]
theorem el1 (k : Nat) (x n : Int) (l : List Int) (i : Int) : utf_Encode.l1 (k + 1) x n l i = if i > 0 then (if 0 ≤ i then (if i < (l.length : Int) then utf_Encode.l1 k (x / 64) n (l.set i.toNat (Go.bits .or .u8 128 ((Go.bits .and .i64 x 63) % 256))) (wrap64 (i - 1)) else none) else none) else (if 0 ≤ n then (if 0 < (l.length : Int) then some (l.set (0 : Int).toNat (Go.bits .or .u8 ((Go.bits .and .i64 (shr .i64 3968 n) 255) % 256) (x % 256)), true) else none) else none) := by rw [utf_Encode.l1]
theorem enc_f (r : Int) : ∃ k, utf_Encode.f k r = some (if runeB r = true then encL r else [], runeB r) := by
  refine ⟨12, ?_⟩
  have w2 : wrap64 (1 + 1) = 2 := by unfold wrap64; rfl
  have w3 : wrap64 (2 + 1) = 3 := by unfold wrap64; rfl
  have w4 : wrap64 (3 + 1) = 4 := by unfold wrap64; rfl
  have v0 : wrap64 (1 - 1) = 0 := by unfold wrap64; rfl
  have v1 : wrap64 (2 - 1) = 1 := by unfold wrap64; rfl
  have v2 : wrap64 (3 - 1) = 2 := by unfold wrap64; rfl
  have b1 : wrap64 (2048 * 32) = 65536 := by unfold wrap64; rfl
  have b2 : wrap64 (65536 * 32) = 2097152 := by unfold wrap64; rfl
  by_cases h1 : r < 0
  · have hr : runeB r = false := by
      rw [Bool.eq_false_iff]
      intro h
      have := (runeB_iff r).1 h
      omega
    rw [hr]
    simp [utf_Encode.f, utf_Encode.j0, h1]
  by_cases h2 : r > 1114111
  · have hr : runeB r = false := by
      rw [Bool.eq_false_iff]
      intro h
      have := (runeB_iff r).1 h
      omega
    rw [hr]
    simp [utf_Encode.f, utf_Encode.j0, h1, h2]
  by_cases h3 : r / 2048 = 27
  · have hr : runeB r = false := by
      rw [Bool.eq_false_iff]
      intro h
      have := (runeB_iff r).1 h
      omega
    rw [hr]
    simp [utf_Encode.f, utf_Encode.j0, h1, h2, h3]
  have hr : runeB r = true := (runeB_iff r).2 (by omega)
  rw [hr]
  have h3' : (r / 2048 == 27) = false := by rw [beq_eq_false_iff_ne]; exact h3
  unfold utf_Encode.f
  rw [if_neg h1, if_neg h2, h3']
  rw [ej0, if_neg (by decide), if_pos rfl]
  by_cases a : r < 128
  · rw [if_pos a, encL_ascii a, Int.emod_eq_of_lt (by omega) (by omega)]
  rw [if_neg a]
  unfold encL
  rw [if_neg a]
  by_cases b : r < 2048
  · rw [if_pos b]
    rw [el0, if_neg (by omega)]
    rw [ej2, w2, if_pos (by decide), if_pos (by decide)]
    rw [el1, if_pos (by decide), if_pos (by decide), if_pos (by decide), v0]
    rw [el1, if_neg (by decide), if_pos (by decide), if_pos (by simp), or_tail (r) (by omega) (by omega), or_lead1 (r / 64) (by omega) (by omega)]
    rfl
  · rw [if_neg b]
    by_cases c : r < 65536
    · rw [if_pos c]
      rw [el0, if_pos (by omega), if_pos (by decide), w2, b1]
      rw [el0, if_neg (by omega)]
      rw [ej2, w3, if_pos (by decide), if_pos (by decide)]
      rw [el1, if_pos (by decide), if_pos (by decide), if_pos (by decide), v1]
      rw [el1, if_pos (by decide), if_pos (by decide), if_pos (by simp), v0]
      rw [el1, if_neg (by decide), if_pos (by decide), if_pos (by simp), or_tail (r) (by omega) (by omega), or_tail (r / 64) (by omega) (by omega), or_lead2 (r / 64 / 64) (by omega) (by omega)]
      have e : r / 64 / 64 = r / 4096 := by omega
      rw [e]
      rfl
    · rw [if_neg c]
      rw [el0, if_pos (by omega), if_pos (by decide), w2, b1]
      rw [el0, if_pos (by omega), if_pos (by decide), w3, b2]
      rw [el0, if_neg (by omega)]
      rw [ej2, w4, if_pos (by decide), if_pos (by decide)]
      rw [el1, if_pos (by decide), if_pos (by decide), if_pos (by decide), v2]
      rw [el1, if_pos (by decide), if_pos (by decide), if_pos (by simp), v1]
      rw [el1, if_pos (by decide), if_pos (by decide), if_pos (by simp), v0]
      rw [el1, if_neg (by decide), if_pos (by decide), if_pos (by simp), or_tail (r) (by omega) (by omega), or_tail (r / 64) (by omega) (by omega), or_tail (r / 64 / 64) (by omega) (by omega), or_lead3 (r / 64 / 64 / 64) (by omega) (by omega)]
      have e : r / 64 / 64 = r / 4096 := by omega
      have e2 : r / 64 / 64 / 64 = r / 262144 := by omega
      rw [e2, e]
      rfl
/-- utf.Encode: a code point's bytes, in memory of its own. -/
theorem encode_any (r : Int) (w : World) : Calls Tryz.prog 37 #[.int .i64 r] w fun e w' => ∃ v : Value, e = .returned (.tuple #[v, .bool (runeB r)]) ∧ Kd.R (Kd.int .u8) 5 w' w.heap.size (fun _ => True) v (if runeB r = true then encL r else []) ∧ Below w.heap.size w w' := by
  obtain ⟨k, hk⟩ := enc_f r
  exact utf_Encode.calls k r _ _ w hk

end Go.Proofs.YtkipjalfgdfaiaaGreatDoor
namespace Go.Proofs.YtkipjalfgdfaiaaGreatDoor
set_option linter.unusedVariables false
set_option linter.unusedSimpArgs false
open Go.RowKit Go.Proofs.YtkipjalfgdfaiaaGreatDoorW.PrintWords Go.Proofs.YtkipjalfgdfaiaaGreatDoorW.PrintLast Go.Proofs.YtkipjalfgdfaiaaGreatDoorW.PrintMore Go.Proofs.YtkipjalfgdfaiaaGreatDoor.PTk

theorem and15u (q : Nat) (h : q < 128) : bits .and .u64 (q : Int) 15 = ((q % 16 : Nat) : Int) := by
  have h : ∀ q : Fin 128, bits .and .u64 (q.val : Int) 15 = ((q.val % 16 : Nat) : Int) := by decide +kernel
  exact h ⟨q, by assumption⟩
set_option maxRecDepth 100000 in
theorem tz16 (w : World) (hc : w.cell? ⟨6, 15, none⟩ = some (.int .u8 4)) : Calls Tryz.prog 136 #[.int .u64 16] w fun e w' => e = .returned (.int .i64 4) ∧ w' = w := by
  have key : IntKind.u64.wrap (bits BinOp.and IntKind.u64 16 (IntKind.u64.wrap (-16)) * 285870213051353865) / 288230376151711744 = 15 := by decide +kernel
  go_enter Tryz.func136, Tryz.ntmps136
  go_wp2
  go_ret
  exact ⟨rfl, rfl⟩
theorem pow16 (w : World) : Calls Tryz.prog 135 #[.int .i64 16] w fun e w' => e = .returned (.bool true) ∧ w' = w := by
  have key : bits .and .i64 16 15 = 0 := by decide +kernel
  go_enter Tryz.func135, Tryz.ntmps135
  go_wp2
  go_ret
  exact ⟨rfl, rfl⟩
/-- A digit below 16, in small letters. -/
def hexS (d : Nat) : UInt8 := if d < 10 then (48 + d).toUInt8 else (87 + d).toUInt8
theorem hexS_at (d : Nat) (hd : d < 16) : ∀ h, (⟨#[48, 49, 50, 51, 52, 53, 54, 55, 56, 57, 97, 98, 99, 100, 101, 102, 103, 104, 105, 106, 107, 108, 109, 110, 111, 112, 113, 114, 115, 116, 117, 118, 119, 120, 121, 122]⟩ : ByteArray)[d]'h = hexS d := by
  have h : ∀ d : Fin 16, ∀ h, (⟨#[48, 49, 50, 51, 52, 53, 54, 55, 56, 57, 97, 98, 99, 100, 101, 102, 103, 104, 105, 106, 107, 108, 109, 110, 111, 112, 113, 114, 115, 116, 117, 118, 119, 120, 121, 122]⟩ : ByteArray)[d.val]'h = hexS d.val := by decide +kernel
  exact h ⟨d, hd⟩
/-- Small hexadecimal digits of a number below 256. -/
def hexLo (q : Nat) : List UInt8 := if q < 16 then [hexS q] else [hexS (q / 16), hexS (q % 16)]
set_option maxRecDepth 100000 in
/-- A cut of an array of 65 bytes, from place j on. -/
theorem slice65 (W : World) (g j : Nat) (hj : j < 65) : (Instr.sliceAt 161 (.pointer (some ⟨g, 0, none⟩)) (some (.int .i64 (j : Int))) none none).run Tryz.prog W = .ok (.slice (some ⟨g, j, none⟩) (65 - j) (65 - j)) W := by
  have ha : Tryz.prog.arrayLen 161 = 65 := by kernel_rfl
  have he : Tryz.prog.elem 161 = 5 := by kernel_rfl
  have h := run_sliceAt_array_l (P := Tryz.prog) W 161 ⟨g, 0, none⟩ (by rw [ha, he]; exact Tryz.underlying161) .i64 (j : Int) (by omega) (by rw [ha]; omega)
  rw [h, he, Tryz.sizeOf5, ha]
  simp only [Result.andThen, slicedAt]
  have hadd : (⟨g, 0, none⟩ : Addr).add j = ⟨g, j, none⟩ := by unfold Addr.add; split <;> simp_all
  rw [if_neg (by omega), Int.toNat_natCast, Nat.mul_one, hadd]
/-- What the array holds from place j on. -/
def Tail65 (W : World) (g j : Nat) (acc : List UInt8) : Prop := (∀ k, k < 65 → (∃ u, W.cell? ⟨g, k, none⟩ = some u) ∧ W.frozen? ⟨g, k, none⟩ = false) ∧ ∀ k (hk : k < acc.length), W.cell? ⟨g, j + k, none⟩ = some (.int .u8 (acc[k].toNat : Int))
theorem Tail65.put {W : World} {g j : Nat} {acc : List UInt8} (h : Tail65 W g (j + 1) acc) (hj : j < 65) (b : UInt8) : Tail65 (W.setCell ⟨g, j, none⟩ (.int .u8 (b.toNat : Int))) g j (b :: acc) := by
  refine ⟨fun k hk => ?_, fun k hk => ?_⟩
  · obtain ⟨⟨u, hu⟩, hz⟩ := h.1 k hk
    exact ⟨cell?_setCell_some hu, by rw [World.frozen?_setCell]; exact hz⟩
  · obtain ⟨⟨u, hu⟩, hz⟩ := h.1 j hj
    match k, hk with
    | 0, _ => exact World.cell?_setCell_same _ _ _ hu
    | k + 1, hk =>
      rw [World.cell?_setCell_other _ _ _ _ (by intro e; have := congrArg Addr.off e; simp at this), show j + (k + 1) = j + 1 + k by omega]
      exact h.2 k (by simp only [List.length_cons] at hk; omega)
theorem Tail65.new (w : World) : Tail65 (w.alloc (.cells Tryz.zeroCells161 161)) w.heap.size 65 [] := by
  refine ⟨fun k hk => ⟨?_, Lib.frozen_of_heap (heap_alloc_new w _) k⟩, fun k hk => absurd hk (by simp)⟩
  rw [Lib.cell_of_heap (heap_alloc_new w _)]
  have hz : Tryz.zeroCells161.size = 65 := by kernel_rfl
  exact ⟨_, Array.getElem?_eq_getElem (by rw [hz]; exact hk)⟩
theorem Tail65.str {W : World} {g j : Nat} {acc : List UInt8} (h : Tail65 W g j acc) : (convert 34 9 (.slice (some ⟨g, j, none⟩) acc.length acc.length)).run Tryz.prog W = .ok (.string (bsL acc)) W :=
  run_convert_bytes_back (P := Tryz.prog) W 34 9 5 ⟨g, j, none⟩ acc.length acc Tryz.underlying34 Tryz.underlying5 Tryz.underlying9 (fun k hk => by
    have : (⟨g, j, none⟩ : Addr).add k = ⟨g, j + k, none⟩ := by unfold Addr.add; split <;> simp_all
    rw [this]
    exact h.2 k hk)
set_option maxHeartbeats 4000000 in
set_option maxRecDepth 100000 in
theorem bits16 (q : Nat) (hq : q < 128) (w : World) (hc : w.cell? ⟨6, 15, none⟩ = some (.int .u8 4)) :
    Calls Tryz.prog 98 #[.slice none 0 0, .int .u64 (q : Int), .int .i64 16, .bool false, .bool false] w fun e w' => e = .returned (.tuple #[.slice none 0 0, .string (bsL (hexLo q))]) ∧ Below w.heap.size w w' := by
  have HT := Aside0.mk tz16
  obtain ⟨W, hW⟩ : ∃ W, w.alloc (.cells Tryz.zeroCells161 161) = W := ⟨_, rfl⟩
  have hwc : W.cell? ⟨6, 15, none⟩ = some (.int .u8 4) := by rw [← hW]; exact pw_cell_below (below_alloc (Below.refl _ _) _) hc
  have hb1 : Below w.heap.size w W := by rw [← hW]; exact below_alloc (Below.refl _ _) _
  have ht : Tail65 W w.heap.size 65 [] := by rw [← hW]; exact Tail65.new w
  have HB := Aside0.mk hb1
  have HWC := Aside0.mk hwc
  clear hc hb1 hwc
  go_enter Tryz.func98, Tryz.ntmps98
  go_wp2_with fail
  refine (pow16 W).mono ?_
  rintro e w1 ⟨rfl, rfl⟩
  go_wp2_with fail
  refine (HT.out _ HWC.out).mono ?_
  rintro e w1 ⟨rfl, rfl⟩
  clear hW
  go_wp2_with fail
  by_cases h16 : q < 16
  · have hlt : ¬ (16 : Int) ≤ (q : Int) := by omega
    have hx := hexS_at q h16
    have hl : hexLo q = [hexS q] := if_pos h16
    obtain ⟨⟨u, hu⟩, hf⟩ := ht.1 64 (by decide)
    have h2 := ht.put (j := 64) (by decide) (hexS q)
    have hs := slice65 (w1.setCell ⟨w.heap.size, 64, none⟩ (.int .u8 ((hexS q).toNat : Int))) w.heap.size 64 (by decide)
    have hcv : (convert 34 9 (.slice (some ⟨w.heap.size, 64, none⟩) 1 1)).run Tryz.prog _ = _ := h2.str
    have HB2 : Aside0 (Below w.heap.size w (w1.setCell ⟨w.heap.size, 64, none⟩ (.int .u8 ((hexS q).toNat : Int)))) := ⟨below_set HB.out (Nat.le_refl _)⟩
    clear ht h2
    refine wp_loop_rounds 1 ?_
    rw [rounds_succ]
    go_wp2
    go_ret2
    exact ⟨rfl, HB2.out⟩
  · have hge : (16 : Int) ≤ (q : Int) := by omega
    have hlt : ¬ (16 : Int) ≤ ((q / 16 : Nat) : Int) := by omega
    have hx := hexS_at (q % 16) (by omega)
    have hy := hexS_at (q / 16) (by omega)
    have hl : hexLo q = [hexS (q / 16), hexS (q % 16)] := if_neg h16
    have hand := and15u q hq
    obtain ⟨⟨u, hu⟩, hf⟩ := ht.1 64 (by decide)
    have h2 := ht.put (j := 64) (by decide) (hexS (q % 16))
    obtain ⟨⟨u3, hu3⟩, hf3⟩ := h2.1 63 (by decide)
    have h3 := h2.put (j := 63) (by decide) (hexS (q / 16))
    have HB2 : Aside0 (Below w.heap.size w ((w1.setCell ⟨w.heap.size, 64, none⟩ (.int .u8 ((hexS (q % 16)).toNat : Int))).setCell ⟨w.heap.size, 63, none⟩ (.int .u8 ((hexS (q / 16)).toNat : Int)))) := ⟨below_set (below_set HB.out (Nat.le_refl _)) (Nat.le_refl _)⟩
    obtain ⟨W2, hW2⟩ : ∃ W2, (w1.setCell ⟨w.heap.size, 64, none⟩ (.int .u8 ((hexS (q % 16)).toNat : Int))) = W2 := ⟨_, rfl⟩
    rw [hW2] at h2 hu3 hf3 h3 HB2
    have hs := slice65 (W2.setCell ⟨w.heap.size, 63, none⟩ (.int .u8 ((hexS (q / 16)).toNat : Int))) w.heap.size 63 (by decide)
    have hcv : (convert 34 9 (.slice (some ⟨w.heap.size, 63, none⟩) 2 2)).run Tryz.prog _ = _ := h3.str
    clear ht h2 h3
    refine wp_loop_rounds 2 ?_
    rw [rounds_succ]
    go_wp2
    rw [rounds_succ]
    go_wp2
    go_ret2
    exact ⟨by rw [hl]; rfl, HB2.out⟩
set_option maxHeartbeats 1000000 in
set_option maxRecDepth 100000 in
theorem fmti16 (q : Nat) (hq : q < 128) (w : World) (hc : w.cell? ⟨6, 15, none⟩ = some (.int .u8 4)) :
    Calls Tryz.prog 63 #[.int .i64 (q : Int), .int .i64 16] w fun e w' => e = .returned (.string (bsL (hexLo q))) ∧ Below w.heap.size w w' := by
  have HT := Aside0.mk (bits16 q hq w hc)
  have h0 : ¬ (q : Int) < 0 := by omega
  have h1 : IntKind.u64.wrap (q : Int) = (q : Int) := by rw [IntKind.wrap_u64]; omega
  clear hc
  go_enter Tryz.func63, Tryz.ntmps63
  go_wp2_with fail
  refine HT.out.mono ?_
  rintro e w' ⟨rfl, hb⟩
  have HB := Aside0.mk hb
  clear hb
  go_wp2_with fail
  go_ret
  exact ⟨rfl, HB.out⟩
set_option maxHeartbeats 1000000 in
set_option maxRecDepth 100000 in
theorem fmt16 (q : Nat) (hq : q < 128) (w : World) (hc : w.cell? ⟨6, 15, none⟩ = some (.int .u8 4)) :
    Calls Tryz.prog 39 #[.int .i64 (q : Int), .int .i64 16] w fun e w' => e = .returned (.string (bsL (hexLo q))) ∧ Below w.heap.size w w' := by
  have HT := Aside0.mk (fmti16 q hq w hc)
  clear hc
  go_enter Tryz.func39, Tryz.ntmps39
  go_wp2_with fail
  refine HT.out.mono ?_
  rintro e w' ⟨rfl, hb⟩
  have HB := Aside0.mk hb
  clear hb
  go_wp2_with fail
  go_ret
  exact ⟨rfl, HB.out⟩

end Go.Proofs.YtkipjalfgdfaiaaGreatDoor
namespace Go.Proofs
open Go.Shelf
theorem Tryz.Builder_Extra_158 : Builder.Extra Tryz.prog Tryz.lays158_ren := {
  sizeBuilder := by kernel_rfl
  liesBuilder := by kernel_rfl
  t5 := Tryz.underlying5
  a5 := Tryz.isAgg5
  z5 := Tryz.sizeOf5
  v5 := Tryz.zeroValue5
  infoByte := by kernel_rfl
  cellsByte := by kernel_rfl
  sizeByte := by kernel_rfl
  neB5 := by decide }
open Go.RowKit in
/-- strings.ToUpper: "ToUpper returns s with all Unicode letters mapped to their upper case.": ON ASCII TEXT OF AT MOST 2^47 BYTES. Below the heap's end the world is as it was: where a letter turns, the call makes a builder and its buffer. (LAID: no walk: one application.) -/
theorem Tryz.strings_ToUpper_ascii (s : ByteArray) (w : World) (hs : s.size ≤ 140737488355328) (hascii : ∀ (j : Nat) (b : UInt8), s.data.toList[j]? = some b → b.toNat < 128) :
    Calls Tryz.prog 38 #[.string s] w fun e w' => e = .returned (.string ⟨(Lib.toUpperA s.data.toList).toArray⟩) ∧ Below w.heap.size w w' := Any.strings_ToUpper_ascii Tryz.lays158 Tryz.Builder_Extra_158 s w hs hascii
end Go.Proofs
namespace Go.Proofs.YtkipjalfgdfaiaaGreatDoor
set_option linter.unusedVariables false
set_option linter.unusedSimpArgs false
open Go.RowKit Go.Proofs.YtkipjalfgdfaiaaGreatDoorW.PrintWords Go.Proofs.YtkipjalfgdfaiaaGreatDoorW.PrintLast Go.Proofs.YtkipjalfgdfaiaaGreatDoorW.PrintMore Go.Proofs.YtkipjalfgdfaiaaGreatDoor.PTk

/-- A text that begins with a byte that a list lacks isn't within it. -/
theorem contains_not {s sub : List UInt8} {c : UInt8} {t : List UInt8} (hs : sub = c :: t) (hc : c ∉ s) : Lib.contains s sub = false := by
  unfold Lib.contains
  rw [Lib.index_none, decide_eq_false (by decide)]
  intro j hj
  unfold Lib.occAt
  subst hs
  cases hd : s.drop j with
  | nil => rfl
  | cons a l =>
    have hm : a ∈ s := List.mem_of_mem_drop (i := j) (by rw [hd]; exact List.mem_cons_self)
    rw [List.isPrefixOf_cons_cons] <;> simp only [Bool.and_eq_false_imp, beq_iff_eq]
    intro he
    exact absurd (he ▸ hm) hc
theorem encL_data {r : Int} (hr : runeB r = true) (h : 128 ≤ r) : ∃ c t, (strOfNums (encL r)).data.toList = c :: t ∧ 128 ≤ c.toNat := by
  have hp := encL_pos r
  have hh := encL_high hr h
  have hg := encL_rng hr
  rw [str_data]
  cases he : encL r with
  | nil => rw [he] at hp; simp at hp
  | cons c t =>
    rw [he] at hh hg
    refine ⟨_, _, rfl, ?_⟩
    have h1 := hh c List.mem_cons_self
    have h2 := hg c List.mem_cons_self
    show 128 ≤ (UInt8.ofNat c.toNat).toNat
    rw [UInt8.toNat_ofNat', Nat.mod_eq_of_lt (by omega)]
    omega
theorem str_app (a b : List Int) : strOfNums (a ++ b) = strOfNums a ++ strOfNums b := by
  apply ByteArray.ext
  rw [ByteArray.data_append]
  unfold strOfNums
  simp
abbrev marksS (cls : Bool) : ByteArray := if cls then ⟨#[91, 93, 94, 45, 38, 126, 92]⟩ else ⟨#[46, 91, 40, 124, 41, 42, 43, 63, 123, 94, 36, 92]⟩
theorem marks_ascii : ∀ (cls : Bool) (r : Fin 128), Lib.contains (marksS cls).data.toList [UInt8.ofNat r.val] = (marksL cls).contains (r.val : Int) := by decide +kernel
theorem marks_low : ∀ (cls : Bool), ∀ c ∈ (marksS cls).data.toList, c.toNat < 128 := by decide
theorem marks_rng : ∀ (cls : Bool), ∀ c ∈ marksL cls, c < 128 := by decide
theorem marks_has {r : Int} (hr : runeB r = true) (cls : Bool) : Lib.contains (marksS cls).data.toList (strOfNums (encL r)).data.toList = (marksL cls).contains r := by
  have hrr := (runeB_iff r).1 hr
  by_cases h : r < 128
  · rw [encL_ascii h]
    have := marks_ascii cls ⟨r.toNat, by omega⟩
    simp only at this
    rw [show ((r.toNat : Nat) : Int) = r by omega] at this
    rw [← this]
    rfl
  · obtain ⟨c, t, he, hc⟩ := encL_data hr (by omega)
    rw [contains_not he (fun hm => by have := marks_low cls c hm; omega)]
    symm
    rw [Bool.eq_false_iff]
    intro hm
    rw [List.contains_iff_mem] at hm
    have := marks_rng cls r hm
    omega
/-- Hexadecimal digits in great letters. -/
theorem upper_hex : ∀ q : Fin 128, (⟨(Lib.toUpperA (hexLo q.val)).toArray⟩ : ByteArray) = strOfNums (hexT (q.val : Int)) := by decide +kernel
theorem hexLo_ascii : ∀ q : Fin 128, ∀ b ∈ hexLo q.val, b.toNat < 128 := by decide +kernel
set_option maxHeartbeats 4000000 in
set_option maxRecDepth 100000 in
theorem print_any (r : Int) (cls : Bool) (w : World) (m : Int) (hmx : w.cell? ⟨2, 0, none⟩ = some (.int .i64 m)) (hc : w.cell? ⟨6, 15, none⟩ = some (.int .u8 4)) :
    Calls Tryz.prog 23 #[.int .i64 r, .bool cls] w fun e w' => e = .returned (.string (strOfNums (printL r cls))) ∧ Below w.heap.size w w' := by
  have HE := Aside0.mk (encode_any r w)
  have HMX := Aside0.mk hmx
  have HC := Aside0.mk hc
  have hmg : 2 < w.heap.size := World.block_lt_of_cell? w _ hmx
  have hcg : 6 < w.heap.size := World.block_lt_of_cell? w _ hc
  obtain ⟨P, hP⟩ : ∃ P, printL r cls = P := ⟨_, rfl⟩
  rw [hP]
  cases hr : runeB r with
  | false =>
    rw [hr] at HE
    obtain rfl : P = [] := by rw [← hP, printL_none hr]
    clear hmx hc hP
    go_enter Tryz.func23, Tryz.ntmps23
    go_wp2_with fail
    refine HE.out.mono ?_
    rintro e w1 ⟨v, rfl, ho, hb⟩
    obtain ⟨A, c, rfl⟩ := Kd.R_slice ho
    have HB := Aside0.mk hb
    clear hb ho
    cases cls with
    | false =>
      go_wp2_with fail
      go_ret
      exact ⟨rfl, HB.out⟩
    | true =>
      go_wp2_with fail
      go_ret
      exact ⟨rfl, HB.out⟩
  | true =>
    rw [hr] at HE
    have hrr := (runeB_iff r).1 hr
    unfold printL at hP
    rw [if_neg (by rw [hr]; decide)] at hP
    by_cases h1 : r < 32 ∨ r = 127
    · rw [if_pos h1] at hP
      obtain ⟨q, rfl⟩ : ∃ q : Nat, r = (q : Int) := ⟨r.toNat, by omega⟩
      have hq : q < 128 := by omega
      have HF := Aside0.mk (fun W (h1 : W.cell? ⟨6, 15, none⟩ = some (.int .u8 4)) => fmt16 q hq W h1)
      have HU := Aside0.mk (fun W => Tryz.strings_ToUpper_ascii (bsL (hexLo q)) W (by show (hexLo q).toArray.size ≤ _; rw [List.size_toArray]; unfold hexLo; split <;> simp) (fun j b hb => hexLo_ascii ⟨q, hq⟩ b (List.mem_of_getElem? hb)))
      have hup := upper_hex ⟨q, hq⟩
      have hup2 : (⟨(Lib.toUpperA (bsL (hexLo q)).data.toList).toArray⟩ : ByteArray) = strOfNums (hexT (q : Int)) := hup
      have hxl := (hexT_ok (r := (q : Int)) (by omega) (by omega)).2.2.2
      rw [hup2] at HU
      have HP : Aside0 ((⟨#[92, 120, 123]⟩ : ByteArray) ++ strOfNums (hexT (q : Int)) ++ ⟨#[125]⟩ = strOfNums P) := ⟨by rw [← hP, str_app, str_app]; rfl⟩
      have hsz : (strOfNums (hexT (q : Int))).size ≤ 2 := by rw [strN_size]; exact hxl
      have hsz1 : ((⟨#[92, 120, 123]⟩ : ByteArray) ++ strOfNums (hexT (q : Int))).size ≤ 5 := by rw [ByteArray.size_append]; have : (⟨#[92, 120, 123]⟩ : ByteArray).size = 3 := rfl; omega
      obtain ⟨X, hX⟩ : ∃ X, strOfNums (hexT (q : Int)) = X := ⟨_, rfl⟩
      obtain ⟨Y, hY⟩ : ∃ Y, (⟨#[92, 120, 123]⟩ : ByteArray) ++ X = Y := ⟨_, rfl⟩
      rw [hX] at HU HP hsz hsz1
      rw [hY] at HP hsz1
      clear hmx hc hP hup hup2 hX hxl hrr hr
      go_enter Tryz.func23, Tryz.ntmps23
      go_wp2_with fail
      refine HE.out.mono ?_
      rintro e w1 ⟨v, rfl, ho, hb⟩
      obtain ⟨A, c, rfl⟩ := Kd.R_slice ho
      have HB := Aside0.mk hb
      have HF1 := Aside0.mk (HF.out w1 ((hb.cell hcg).trans HC.out))
      clear hb ho
      by_cases h32 : q < 32
      · have h32b : decide ((q : Int) < 32) = true := decide_eq_true (by omega)
        cases cls with
        | false =>
          go_wp2_with fail
          refine HF1.out.mono ?_
          rintro e w2 ⟨rfl, hb2⟩
          have HB2 := Aside0.mk (below_to HB.out hb2)
          clear hb2
          go_wp2_with fail
          refine (HU.out w2).mono ?_
          rintro e w3 ⟨rfl, hb3⟩
          have HB3 := Aside0.mk (below_to HB2.out hb3)
          clear hb3
          go_wp2_with fail
          go_ret
          first | exact ⟨rfl, HB3.out⟩ | exact ⟨by rw [HP.out]; rfl, HB3.out⟩
        | true =>
          go_wp2_with fail
          refine HF1.out.mono ?_
          rintro e w2 ⟨rfl, hb2⟩
          have HB2 := Aside0.mk (below_to HB.out hb2)
          clear hb2
          go_wp2_with fail
          refine (HU.out w2).mono ?_
          rintro e w3 ⟨rfl, hb3⟩
          have HB3 := Aside0.mk (below_to HB2.out hb3)
          clear hb3
          go_wp2_with fail
          go_ret
          first | exact ⟨rfl, HB3.out⟩ | exact ⟨by rw [HP.out]; rfl, HB3.out⟩
      · obtain rfl : q = 127 := by omega
        cases cls with
        | false =>
          go_wp2_with fail
          refine HF1.out.mono ?_
          rintro e w2 ⟨rfl, hb2⟩
          have HB2 := Aside0.mk (below_to HB.out hb2)
          clear hb2
          go_wp2_with fail
          refine (HU.out w2).mono ?_
          rintro e w3 ⟨rfl, hb3⟩
          have HB3 := Aside0.mk (below_to HB2.out hb3)
          clear hb3
          go_wp2_with fail
          go_ret
          first | exact ⟨rfl, HB3.out⟩ | exact ⟨by rw [HP.out]; rfl, HB3.out⟩
        | true =>
          go_wp2_with fail
          refine HF1.out.mono ?_
          rintro e w2 ⟨rfl, hb2⟩
          have HB2 := Aside0.mk (below_to HB.out hb2)
          clear hb2
          go_wp2_with fail
          refine (HU.out w2).mono ?_
          rintro e w3 ⟨rfl, hb3⟩
          have HB3 := Aside0.mk (below_to HB2.out hb3)
          clear hb3
          go_wp2_with fail
          go_ret
          first | exact ⟨rfl, HB3.out⟩ | exact ⟨by rw [HP.out]; rfl, HB3.out⟩
    · rw [if_neg h1] at hP
      have h32b : decide (r < 32) = false := decide_eq_false (by omega)
      have h127 : (r == 127) = false := by rw [beq_eq_false_iff_ne]; omega
      have HM := Aside0.mk (fun (b : Bool) W hw => Tryz.strings_Contains (marksS b) (strOfNums (encL r)) m W (by cases b <;> decide) hw)
      have hmk := marks_has hr cls
      have HL : Aside0 ((encL r).length ≤ 4) := ⟨(encL_pos r).2⟩
      obtain ⟨S, hS⟩ : ∃ S, strOfNums (encL r) = S := ⟨_, rfl⟩
      have hsl : S.size ≤ 4 := by rw [← hS, strN_size]; exact HL.out
      cases hm : (marksL cls).contains r with
      | true =>
        rw [hm] at hmk hP
        have HP : Aside0 ((⟨#[92]⟩ : ByteArray) ++ S = strOfNums P) := ⟨by rw [← hP, ← hS]; exact (str_app [92] (encL r)).symm⟩
        rw [hS] at HM hmk
        clear hmx hc hP hrr hr hm
        cases cls with
        | false =>
          go_enter Tryz.func23, Tryz.ntmps23
          go_wp2_with fail
          refine HE.out.mono ?_
          rintro e w1 ⟨v, rfl, ho, hb⟩
          obtain ⟨A, c, rfl⟩ := Kd.R_slice ho
          obtain ⟨A', c', e, hcap, hC0⟩ := Kd.R_reads ho
          obtain ⟨rfl, -, rfl⟩ : A = A' ∧ True ∧ c = c' := by injection e with h1 h2 h3; exact ⟨h1, trivial, h3⟩
          have hC : Kd.C kB w1 A (encL r).length (encL r) := hC0
          have hcv := fun n => Kd.C_string (P := Tryz.prog) (c := c) Tryz.underlying34 Tryz.underlying5 Tryz.underlying9 (Kd.C_below hC (pw_below_drewN (Below.refl _ _) n))
          have hcv0 := Kd.C_string (P := Tryz.prog) (c := c) Tryz.underlying34 Tryz.underlying5 Tryz.underlying9 hC
          have HB := Aside0.mk hb
          have HM1 := Aside0.mk (fun b => HM.out b w1 ((hb.cell hmg).trans HMX.out))
          rw [hS] at hcv hcv0
          clear hb ho hcap hC0 hC e
          go_wp2_with fail
          refine (HM1.out false).mono ?_
          intro e w2 hr2
          rw [hmk] at hr2
          obtain ⟨rfl, rfl⟩ := hr2
          go_wp2_with fail
          go_ret
          first | exact ⟨rfl, HB.out⟩ | exact ⟨by rw [HP.out]; rfl, HB.out⟩
        | true =>
          go_enter Tryz.func23, Tryz.ntmps23
          go_wp2_with fail
          refine HE.out.mono ?_
          rintro e w1 ⟨v, rfl, ho, hb⟩
          obtain ⟨A, c, rfl⟩ := Kd.R_slice ho
          obtain ⟨A', c', e, hcap, hC0⟩ := Kd.R_reads ho
          obtain ⟨rfl, -, rfl⟩ : A = A' ∧ True ∧ c = c' := by injection e with h1 h2 h3; exact ⟨h1, trivial, h3⟩
          have hC : Kd.C kB w1 A (encL r).length (encL r) := hC0
          have hcv := fun n => Kd.C_string (P := Tryz.prog) (c := c) Tryz.underlying34 Tryz.underlying5 Tryz.underlying9 (Kd.C_below hC (pw_below_drewN (Below.refl _ _) n))
          have hcv0 := Kd.C_string (P := Tryz.prog) (c := c) Tryz.underlying34 Tryz.underlying5 Tryz.underlying9 hC
          have HB := Aside0.mk hb
          have HM1 := Aside0.mk (fun b => HM.out b w1 ((hb.cell hmg).trans HMX.out))
          rw [hS] at hcv hcv0
          clear hb ho hcap hC0 hC e
          go_wp2_with fail
          refine (HM1.out true).mono ?_
          intro e w2 hr2
          rw [hmk] at hr2
          obtain ⟨rfl, rfl⟩ := hr2
          go_wp2_with fail
          go_ret
          first | exact ⟨rfl, HB.out⟩ | exact ⟨by rw [HP.out]; rfl, HB.out⟩
      | false =>
        rw [hm] at hmk hP
        have HP : Aside0 (S = strOfNums P) := ⟨by rw [← hP, ← hS]; rfl⟩
        rw [hS] at HM hmk
        clear hmx hc hP hrr hr hm
        cases cls with
        | false =>
          go_enter Tryz.func23, Tryz.ntmps23
          go_wp2_with fail
          refine HE.out.mono ?_
          rintro e w1 ⟨v, rfl, ho, hb⟩
          obtain ⟨A, c, rfl⟩ := Kd.R_slice ho
          obtain ⟨A', c', e, hcap, hC0⟩ := Kd.R_reads ho
          obtain ⟨rfl, -, rfl⟩ : A = A' ∧ True ∧ c = c' := by injection e with h1 h2 h3; exact ⟨h1, trivial, h3⟩
          have hC : Kd.C kB w1 A (encL r).length (encL r) := hC0
          have hcv := fun n => Kd.C_string (P := Tryz.prog) (c := c) Tryz.underlying34 Tryz.underlying5 Tryz.underlying9 (Kd.C_below hC (pw_below_drewN (Below.refl _ _) n))
          have hcv0 := Kd.C_string (P := Tryz.prog) (c := c) Tryz.underlying34 Tryz.underlying5 Tryz.underlying9 hC
          have HB := Aside0.mk hb
          have HM1 := Aside0.mk (fun b => HM.out b w1 ((hb.cell hmg).trans HMX.out))
          rw [hS] at hcv hcv0
          clear hb ho hcap hC0 hC e
          go_wp2_with fail
          refine (HM1.out false).mono ?_
          intro e w2 hr2
          rw [hmk] at hr2
          obtain ⟨rfl, rfl⟩ := hr2
          go_wp2_with fail
          go_ret
          first | exact ⟨rfl, HB.out⟩ | exact ⟨by rw [HP.out]; rfl, HB.out⟩
        | true =>
          go_enter Tryz.func23, Tryz.ntmps23
          go_wp2_with fail
          refine HE.out.mono ?_
          rintro e w1 ⟨v, rfl, ho, hb⟩
          obtain ⟨A, c, rfl⟩ := Kd.R_slice ho
          obtain ⟨A', c', e, hcap, hC0⟩ := Kd.R_reads ho
          obtain ⟨rfl, -, rfl⟩ : A = A' ∧ True ∧ c = c' := by injection e with h1 h2 h3; exact ⟨h1, trivial, h3⟩
          have hC : Kd.C kB w1 A (encL r).length (encL r) := hC0
          have hcv := fun n => Kd.C_string (P := Tryz.prog) (c := c) Tryz.underlying34 Tryz.underlying5 Tryz.underlying9 (Kd.C_below hC (pw_below_drewN (Below.refl _ _) n))
          have hcv0 := Kd.C_string (P := Tryz.prog) (c := c) Tryz.underlying34 Tryz.underlying5 Tryz.underlying9 hC
          have HB := Aside0.mk hb
          have HM1 := Aside0.mk (fun b => HM.out b w1 ((hb.cell hmg).trans HMX.out))
          rw [hS] at hcv hcv0
          clear hb ho hcap hC0 hC e
          go_wp2_with fail
          refine (HM1.out true).mono ?_
          intro e w2 hr2
          rw [hmk] at hr2
          obtain ⟨rfl, rfl⟩ := hr2
          go_wp2_with fail
          go_ret
          first | exact ⟨rfl, HB.out⟩ | exact ⟨by rw [HP.out]; rfl, HB.out⟩

end Go.Proofs.YtkipjalfgdfaiaaGreatDoor
namespace Go.Proofs.YtkipjalfgdfaiaaGreatDoor
set_option linter.unusedVariables false
set_option linter.unusedSimpArgs false
open Go.RowKit Go.Proofs.YtkipjalfgdfaiaaGreatDoorW.PrintWords Go.Proofs.YtkipjalfgdfaiaaGreatDoorW.PrintLast Go.Proofs.YtkipjalfgdfaiaaGreatDoorW.PrintMore Go.Proofs.YtkipjalfgdfaiaaGreatDoor.PTk

/-- What package tree gives up with. -/
abbrev Pan : Ending := .panicked [{ v := .iface 65 (.agg #[]), recovered := false }]
/-- It goes on, or it gives up; nothing that was there has changed. -/
def OkPan (b : Bool) (w : World) (e : Ending) (w' : World) : Prop := e = (if b = true then .returned (.tuple #[]) else Pan) ∧ Below w.heap.size w w'
theorem ba_inj {a b : ByteArray} (h : a.toList = b.toList) : a = b := by
  rw [Lib.toList_data, Lib.toList_data] at h
  exact ByteArray.ext (Array.ext' h)
theorem below_box {w w1 : World} {o : Obj} (h : Below (w.alloc o).heap.size (w.alloc o) w1) : Below w.heap.size w w1 := below_to (below_alloc (Below.refl _ _) o) h
theorem must_any (b : Bool) (w : World) : Calls Tryz.prog 50 #[.bool b] w (OkPan b w) := by
  cases b with
  | true =>
    go_enter Tryz.func50, Tryz.ntmps50
    go_wp2_with fail
    go_end0
    exact ⟨rfl, Below.refl _ _⟩
  | false =>
    go_enter Tryz.func50, Tryz.ntmps50
    go_wp2_with fail
    exact ⟨rfl, rfl, Below.refl _ _⟩
set_option maxHeartbeats 4000000 in
set_option maxRecDepth 100000 in
theorem only_raw (k m a b k' m' a' b' : Int) (ng ng' : Bool) (nm nm' : ByteArray) (A6 A7 B6 B7 : Option Addr) (l6 c6 l7 c7 j6 d6 j7 d7 : Nat) (w : World) :
    Calls Tryz.prog 49 #[.agg #[.int .i64 k, .int .i64 m, .int .i64 a, .int .i64 b, .bool ng, .string nm, .slice A6 l6 c6, .slice A7 l7 c7], .agg #[.int .i64 k', .int .i64 m', .int .i64 a', .int .i64 b', .bool ng', .string nm', .slice B6 j6 d6, .slice B7 j7 d7]] w
      (OkPan (m == m' && a == a' && b == b' && ng == ng' && decide (nm = nm') && l6 == 0 && l7 == j7) w) := by
  have HM := Aside0.mk must_any
  by_cases h0 : m = m'
  rotate_left
  · have g0 : (m == m') = false := by simp [h0]
    have HB : ((m == m') && (a == a') && (b == b') && (ng == ng') && (decide (nm = nm')) && (l6 == 0) && (l7 == j7)) = false := by rw [g0]; simp only [Bool.and_false, Bool.false_and, Bool.true_and]
    rw [HB]
    go_enter Tryz.func49, Tryz.ntmps49
    go_wp2_with fail
    refine (HM.out false _).mono ?_
    rintro e w1 ⟨rfl, hb1⟩
    have HB1 := Aside0.mk hb1
    clear hb1
    go_wp2_with fail
    exact ⟨rfl, rfl, below_box (below_box HB1.out)⟩
  have g0 : (m == m') = true := by simp [h0]
  by_cases h1 : a = a'
  rotate_left
  · have g1 : (a == a') = false := by simp [h1]
    have HB : ((m == m') && (a == a') && (b == b') && (ng == ng') && (decide (nm = nm')) && (l6 == 0) && (l7 == j7)) = false := by rw [g0, g1]; simp only [Bool.and_false, Bool.false_and, Bool.true_and]
    rw [HB]
    go_enter Tryz.func49, Tryz.ntmps49
    go_wp2_with fail
    refine (HM.out false _).mono ?_
    rintro e w1 ⟨rfl, hb1⟩
    have HB1 := Aside0.mk hb1
    clear hb1
    go_wp2_with fail
    exact ⟨rfl, rfl, below_box (below_box HB1.out)⟩
  have g1 : (a == a') = true := by simp [h1]
  by_cases h2 : b = b'
  rotate_left
  · have g2 : (b == b') = false := by simp [h2]
    have HB : ((m == m') && (a == a') && (b == b') && (ng == ng') && (decide (nm = nm')) && (l6 == 0) && (l7 == j7)) = false := by rw [g0, g1, g2]; simp only [Bool.and_false, Bool.false_and, Bool.true_and]
    rw [HB]
    go_enter Tryz.func49, Tryz.ntmps49
    go_wp2_with fail
    refine (HM.out false _).mono ?_
    rintro e w1 ⟨rfl, hb1⟩
    have HB1 := Aside0.mk hb1
    clear hb1
    go_wp2_with fail
    exact ⟨rfl, rfl, below_box (below_box HB1.out)⟩
  have g2 : (b == b') = true := by simp [h2]
  by_cases h3 : ng = ng'
  rotate_left
  · have g3 : (ng == ng') = false := by simp [h3]
    have HB : ((m == m') && (a == a') && (b == b') && (ng == ng') && (decide (nm = nm')) && (l6 == 0) && (l7 == j7)) = false := by rw [g0, g1, g2, g3]; simp only [Bool.and_false, Bool.false_and, Bool.true_and]
    rw [HB]
    go_enter Tryz.func49, Tryz.ntmps49
    go_wp2_with fail
    refine (HM.out false _).mono ?_
    rintro e w1 ⟨rfl, hb1⟩
    have HB1 := Aside0.mk hb1
    clear hb1
    go_wp2_with fail
    exact ⟨rfl, rfl, below_box (below_box HB1.out)⟩
  have g3 : (ng == ng') = true := by simp [h3]
  by_cases h4 : nm = nm'
  rotate_left
  · have g4 : (decide (nm = nm')) = false := decide_eq_false h4
    have i4 : (nm.toList == nm'.toList) = false := by rw [beq_eq_false_iff_ne]; exact fun e => h4 (ba_inj e)
    have HB : ((m == m') && (a == a') && (b == b') && (ng == ng') && (decide (nm = nm')) && (l6 == 0) && (l7 == j7)) = false := by rw [g0, g1, g2, g3, g4]; simp only [Bool.and_false, Bool.false_and, Bool.true_and]
    rw [HB]
    go_enter Tryz.func49, Tryz.ntmps49
    go_wp2_with fail
    refine (HM.out false _).mono ?_
    rintro e w1 ⟨rfl, hb1⟩
    have HB1 := Aside0.mk hb1
    clear hb1
    go_wp2_with fail
    exact ⟨rfl, rfl, below_box (below_box HB1.out)⟩
  have g4 : (decide (nm = nm')) = true := decide_eq_true h4
  have i4 : (nm.toList == nm'.toList) = true := by rw [h4]; exact beq_self_eq_true _
  by_cases h5 : l6 = 0
  rotate_left
  · have g5 : (l6 == 0) = false := by simp [h5]
    have i5 : ((l6 : Int) == 0) = false := by rw [beq_eq_false_iff_ne]; omega
    have HB : ((m == m') && (a == a') && (b == b') && (ng == ng') && (decide (nm = nm')) && (l6 == 0) && (l7 == j7)) = false := by rw [g0, g1, g2, g3, g4, g5]; simp only [Bool.and_false, Bool.false_and, Bool.true_and]
    rw [HB]
    go_enter Tryz.func49, Tryz.ntmps49
    go_wp2_with fail
    refine (HM.out false _).mono ?_
    rintro e w1 ⟨rfl, hb1⟩
    have HB1 := Aside0.mk hb1
    clear hb1
    go_wp2_with fail
    exact ⟨rfl, rfl, below_box (below_box HB1.out)⟩
  have g5 : (l6 == 0) = true := by simp [h5]
  have i5 : ((l6 : Int) == 0) = true := by simp [h5]
  by_cases h6 : l7 = j7
  rotate_left
  · have g6 : (l7 == j7) = false := by simp [h6]
    have i6 : ((l7 : Int) == (j7 : Int)) = false := by rw [beq_eq_false_iff_ne]; omega
    have HB : ((m == m') && (a == a') && (b == b') && (ng == ng') && (decide (nm = nm')) && (l6 == 0) && (l7 == j7)) = false := by rw [g0, g1, g2, g3, g4, g5, g6]; rfl
    rw [HB]
    go_enter Tryz.func49, Tryz.ntmps49
    go_wp2_with fail
    refine (HM.out false _).mono ?_
    rintro e w1 ⟨rfl, hb1⟩
    have HB1 := Aside0.mk hb1
    clear hb1
    go_wp2_with fail
    exact ⟨rfl, rfl, below_box (below_box HB1.out)⟩
  have g6 : (l7 == j7) = true := by simp [h6]
  have i6 : ((l7 : Int) == (j7 : Int)) = true := by simp [h6]
  have HB : ((m == m') && (a == a') && (b == b') && (ng == ng') && (decide (nm = nm')) && (l6 == 0) && (l7 == j7)) = true := by rw [g0, g1, g2, g3, g4, g5, g6]; rfl
  rw [HB]
  go_enter Tryz.func49, Tryz.ntmps49
  go_wp2_with fail
  refine (HM.out true _).mono ?_
  rintro e w1 ⟨rfl, hb1⟩
  have HB1 := Aside0.mk hb1
  clear hb1
  go_wp2_with fail
  go_end0
  exact ⟨rfl, below_box (below_box HB1.out)⟩
/-- only, as the plain function says it. -/
theorem only_any {n : Nd} {w : World} {v : Value} (h : RdN w n v) (k' m a b : Int) (ng : Bool) (nm : ByteArray) (B6 B7 : Option Addr) (j6 d6 j7 d7 : Nat) (W : World) :
    Calls Tryz.prog 49 #[v, .agg #[.int .i64 k', .int .i64 m, .int .i64 a, .int .i64 b, .bool ng, .string nm, .slice B6 j6 d6, .slice B7 j7 d7]] W (OkPan (onlyB n m a b ng nm j7) W) := by
  obtain ⟨A6, c6, A7, c7, rfl, _⟩ := h
  exact only_raw n.f0 n.f1 n.f2 n.f3 k' m a b n.f4 ng n.f5 nm A6 A7 B6 B7 n.f6.length c6 n.f7.length c7 j6 d6 j7 d7 W

end Go.Proofs.YtkipjalfgdfaiaaGreatDoor
namespace Go.Proofs.YtkipjalfgdfaiaaGreatDoor
set_option linter.unusedVariables false
set_option linter.unusedSimpArgs false
open Go.RowKit Go.Proofs.YtkipjalfgdfaiaaGreatDoorW.PrintWords Go.Proofs.YtkipjalfgdfaiaaGreatDoorW.PrintLast Go.Proofs.YtkipjalfgdfaiaaGreatDoorW.PrintMore Go.Proofs.YtkipjalfgdfaiaaGreatDoor.PTk

theorem str_empty (l : List Int) : (strOfNums l).toList.isEmpty = l.isEmpty := by
  rw [ByteArray.toList_eq]
  rw [str_data]
  cases l <;> rfl
end Go.Proofs.YtkipjalfgdfaiaaGreatDoor
namespace Go.Proofs.YtkipjalfgdfaiaaGreatDoor
set_option linter.unusedVariables false
set_option linter.unusedSimpArgs false
open Go.RowKit Go.Proofs.YtkipjalfgdfaiaaGreatDoorW.PrintWords Go.Proofs.YtkipjalfgdfaiaaGreatDoorW.PrintLast Go.Proofs.YtkipjalfgdfaiaaGreatDoorW.PrintMore Go.Proofs.YtkipjalfgdfaiaaGreatDoor.PTk

/-- What the library's variables hold that trees reach. -/
structure TVars (w : World) (m : Int) : Prop where
  mx : w.cell? ⟨2, 0, none⟩ = some (.int .i64 m)
  tab : w.cell? ⟨6, 15, none⟩ = some (.int .u8 4)
theorem TVars.stay {w w' : World} {m : Int} (h : TVars w m) (hb : Below w.heap.size w w') : TVars w' m := ⟨pw_cell_below hb h.mx, pw_cell_below hb h.tab⟩
theorem print_empty (r : Int) (cls : Bool) : (strOfNums (printL r cls)).toList.isEmpty = !(runeB r) := by
  rw [str_empty]
  cases h : runeB r with
  | true => have := (printL_pos (cls := cls) h).1; cases hp : printL r cls with | nil => rw [hp] at this; simp at this | cons a b => rfl
  | false => rw [printL_none h]; rfl
set_option maxHeartbeats 1000000 in
set_option maxRecDepth 100000 in
theorem point_any (r : Int) (w : World) (m : Int) (hv : TVars w m) : Calls Tryz.prog 68 #[.int .i64 r] w (OkPan (runeB r) w) := by
  have HP := Aside0.mk (print_any r false w m hv.mx hv.tab)
  have HM := Aside0.mk must_any
  have hse := print_empty r false
  obtain ⟨S, hS⟩ : ∃ S, strOfNums (printL r false) = S := ⟨_, rfl⟩
  rw [hS] at HP hse
  clear hv hS
  cases hr : runeB r with
  | true =>
    rw [hr] at hse
    go_enter Tryz.func68, Tryz.ntmps68
    go_wp2_with fail
    refine HP.out.mono ?_
    rintro e w1 ⟨rfl, hb1⟩
    have HB1 := Aside0.mk hb1
    clear hb1
    go_wp2_with fail
    refine (HM.out true _).mono ?_
    rintro e w2 ⟨rfl, hb2⟩
    have HB2 := Aside0.mk (below_to HB1.out hb2)
    clear hb2
    go_wp2_with fail
    go_end0
    exact ⟨rfl, HB2.out⟩
  | false =>
    rw [hr] at hse
    go_enter Tryz.func68, Tryz.ntmps68
    go_wp2_with fail
    refine HP.out.mono ?_
    rintro e w1 ⟨rfl, hb1⟩
    have HB1 := Aside0.mk hb1
    clear hb1
    go_wp2_with fail
    refine (HM.out false _).mono ?_
    rintro e w2 ⟨rfl, hb2⟩
    have HB2 := Aside0.mk (below_to HB1.out hb2)
    clear hb2
    go_wp2_with fail
    exact ⟨rfl, rfl, HB2.out⟩

end Go.Proofs.YtkipjalfgdfaiaaGreatDoor
namespace Go.Proofs.YtkipjalfgdfaiaaGreatDoor
set_option linter.unusedVariables false
set_option linter.unusedSimpArgs false
open Go.RowKit Go.Proofs.YtkipjalfgdfaiaaGreatDoorW.PrintWords Go.Proofs.YtkipjalfgdfaiaaGreatDoorW.PrintLast Go.Proofs.YtkipjalfgdfaiaaGreatDoorW.PrintMore Go.Proofs.YtkipjalfgdfaiaaGreatDoor.PLinesRead

def rowsL : List ByteArray → List (List ByteArray) → List (List ByteArray)
  | [], out => out
  | x :: r, out => if fieldsB x = [] then rowsL r out else rowsL r (out ++ [fieldsB x])
theorem rowsL_skip {x : ByteArray} {r : List ByteArray} {out : List (List ByteArray)} (h : fieldsB x = []) : rowsL (x :: r) out = rowsL r out := by rw [rowsL, if_pos h]
theorem rowsL_take {x : ByteArray} {r : List ByteArray} {out : List (List ByteArray)} (h : fieldsB x ≠ []) : rowsL (x :: r) out = rowsL r (out ++ [fieldsB x]) := by rw [rowsL, if_neg h]
def rowsB (s : ByteArray) : List (List ByteArray) := rowsL (cutB 10 s) []
end Go.Proofs.YtkipjalfgdfaiaaGreatDoor
namespace Go.Proofs.YtkipjalfgdfaiaaGreatDoor
set_option linter.unusedVariables false
set_option linter.unusedSimpArgs false
open Go.RowKit Go.Proofs.YtkipjalfgdfaiaaGreatDoorW.PrintWords Go.Proofs.YtkipjalfgdfaiaaGreatDoorW.PrintLast Go.Proofs.YtkipjalfgdfaiaaGreatDoorW.PrintMore

abbrev kSl : Kd (List ByteArray) := Kd.slice 9 Kd.string

set_option maxHeartbeats 4000000 in
set_option maxRecDepth 100000 in
theorem rows_any (s : ByteArray) (m : Int) (w : World) (hs : s.size < 4294967281) (hm : MaxIs w m) :
    Calls Tryz.prog 171 #[.string s] w fun e w' => ∃ v, e = .returned v ∧ Own kSl 114 w' w.heap.size v (rowsB s) ∧ Below w.heap.size w w' := by
  have hspl := splitS_any 10 s m w hs hm
  have HPS : Aside0 (∀ x ∈ cutB 10 s, x.size < 4294967281) := ⟨fun x hx => Nat.lt_of_le_of_lt (cutB_part hx) hs⟩
  have hPL := cutB_length 10 s
  have HE : Aside0 (rowsL (cutB 10 s) [] = rowsB s) := ⟨rfl⟩
  obtain ⟨ps, hps⟩ : ∃ ps, cutB 10 s = ps := ⟨_, rfl⟩
  rw [hps] at hspl HPS hPL HE
  obtain ⟨E, hE⟩ : ∃ E, rowsB s = E := ⟨_, rfl⟩
  rw [hE] at HE ⊢
  have hpl2 : ps.length < 4294967282 := by omega
  have HM := Aside0.mk hm
  clear hps hE hm hPL
  have hq : ∀ (W : World) (A : Option Addr) (n c : Nat), (binOp .neq 114 (.slice A n c) (.slice none 0 0)).run Tryz.prog W = .ok (.bool (!A.isNone)) W := fun W A n c => run_neq_slice_nil_any W _ _ A n c 0 0 Tryz.underlying114
  go_enter Tryz.func171, Tryz.ntmps171
  go_wp2_with fail
  refine hspl.mono ?_
  rintro e w1 ⟨rfl, ho1, hb1⟩
  have HO1 := Aside0.mk ho1
  have HB1 := Aside0.mk hb1
  clear hspl ho1 hb1
  go_wp2
  go_loopg [3, 10] ps.length (fun gk z i w' => ∃ (k : Nat) (out : List (List ByteArray)), i = .int .i64 (k : Int) ∧ Aside0 (k ≤ ps.length ∧ gk = ps.length - k ∧ out.length ≤ k) ∧ Aside0 (rowsL (ps.drop k) out = E) ∧ Aside0 (Own kSl 114 w' w.heap.size z out) ∧ Aside0 (Own Kd.string 9 w' w.heap.size (.slice (some ⟨w.heap.size, 0, none⟩) ps.length ps.length) ps) ∧ Aside0 (Below w.heap.size w w'))
  case atStart => exact ⟨0, [], by first | rfl | simp, ⟨Nat.zero_le _, rfl, Nat.le_refl _⟩, HE, ⟨Kd.R_nil _ _ _ _ _⟩, HO1, HB1⟩
  case round =>
    obtain ⟨k, out, rfl, HA, HL, HO, HC, HB⟩ := hrel
    by_cases hk : k < ps.length
    · obtain ⟨ad, hae, hx0⟩ := at_S (Kd.R_reads' HC.out).2.2 k hk
      cases hae
      rw [add_plain] at hx0
      have hxs := HPS.out _ (List.getElem_mem hk)
      have hdr : ps.drop k = ps[k] :: ps.drop (k + 1) := List.drop_eq_getElem_cons hk
      obtain ⟨x, hx⟩ : ∃ x, ps[k] = x := ⟨_, rfl⟩
      rw [hx] at hx0 hxs hdr
      rw [hdr] at HL
      clear hx hdr
      have hfl := fieldsB_length x
      have hfa := fields_any x m wr hxs (HM.out.below HB.out)
      have HSK := Aside0.mk (fun h => rowsL_skip (x := x) (r := ps.drop (k + 1)) (out := out) h)
      have HGD := Aside0.mk (fun h => rowsL_take (x := x) (r := ps.drop (k + 1)) (out := out) h)
      obtain ⟨F, hF⟩ : ∃ F, fieldsB x = F := ⟨_, rfl⟩
      rw [hF] at hfl hfa HSK HGD
      clear hF
      obtain ⟨inner, hin⟩ := Kd.R_own HO.out
      have HIN := Aside0.mk hin
      clear hin
      go_wp2_with fail
      refine hfa.mono ?_
      rintro e w2 ⟨v, rfl, ho2, hn2, hs2, hb2⟩
      have HB2 : Aside0 (Below w.heap.size w w2) := ⟨below_to HB.out hb2⟩
      have HO2 : Aside0 (Own kSl 114 w2 w.heap.size u3 out) := ⟨Kd.R_below HO.out hb2⟩
      have HC2 : Aside0 (Own Kd.string 9 w2 w.heap.size (.slice (some ⟨w.heap.size, 0, none⟩) ps.length ps.length) ps) := ⟨Kd.R_below HC.out hb2⟩
      have HOV : Aside0 (Kd.R Kd.string 9 w2 w.heap.size (fun k => True ∧ some k ≠ u3.ownBlock) v F) := ⟨Kd.R_lower (Kd.R_new ho2 HIN.out) HB.out.size⟩
      clear hfa ho2 hb2 HB HO HC HIN
      by_cases hF0 : F = []
      · obtain rfl := hn2 hF0
        have HS := Aside0.mk (HSK.out hF0)
        clear hn2 hs2
        go_wp2
        go_roundg (ps.length - k - 1)
        case measure => have := HA.out; omega
        case rel => exact ⟨k + 1, out, by go_num, ⟨by have := HA.out; omega, by have := HA.out; omega, by have := HA.out; omega⟩, ⟨by rw [← HS.out]; exact HL.out⟩, HO2, HC2, HB2⟩
      · obtain ⟨g, rfl⟩ := hs2 hF0
        have HE2 : Aside0 (rowsL (ps.drop (k + 1)) (out ++ [F]) = E) := ⟨by rw [← HL.out, HGD.out hF0]⟩
        clear hn2 hs2 hF0 HSK HGD
        go_wp2_with (at_builtin; refine Kd.R_append kSl (w0 := w) w.heap.size rfl (.tmp 18) (.tmp 20) 191 114 (.slice none 0 0) 24 rfl Tryz.underlying191 Go.Proofs.YtkipjalfgdfaiaaGreatDoor.PLinesRead.info114 rfl (by decide) (by omega) u3 out F [.slice (some ⟨g, 0, none⟩) F.length F.length] (fun _ => True) (fun k => True ∧ some k ≠ u3.ownBlock) rfl ?aX ⟨_, rfl, HOV.out⟩ (fun _ h => h) (fun _ _ => trivial) HO2.out HB2.out ?aS ?aL ?_)
        case aX => rfl
        case aS => exact HB2.out.size
        case aL => have := HA.out; omega
        intro v5 w5 ho5 hb5 hg5 _
        have HO5 := Aside0.mk ho5
        have HB5 := Aside0.mk hb5
        have HC5 : Aside0 (Own Kd.string 9 w5 w.heap.size (.slice (some ⟨w.heap.size, 0, none⟩) ps.length ps.length) ps) := ⟨by
          obtain ⟨inner, hin⟩ := Kd.R_own HO2.out
          have ho := Kd.own_of_R HC2.out
          exact Kd.R_of_own (own_other ho hg5 (own_type_ne ho hin (by decide))) (fun _ _ => trivial)⟩
        clear ho5 hb5 hg5
        go_wp2
        go_roundg (ps.length - k - 1)
        case measure => have := HA.out; omega
        case rel => exact ⟨k + 1, out ++ [F], by go_num, ⟨by have := HA.out; omega, by have := HA.out; omega, by have := HA.out; simp; omega⟩, HE2, HO5, HC5, HB5⟩
    · have HE2 : Aside0 (E = out) := ⟨by rw [← HL.out, List.drop_of_length_le (by omega)]; rfl⟩
      go_wp2
      go_ret
      rw [HE2.out]
      exact ⟨_, rfl, HO.out, HB.out⟩

end Go.Proofs.YtkipjalfgdfaiaaGreatDoor
namespace Go.Proofs.YtkipjalfgdfaiaaGreatDoor
set_option linter.unusedVariables false
set_option linter.unusedSimpArgs false
open Go.RowKit Go.Proofs.YtkipjalfgdfaiaaGreatDoorW.PrintWords Go.Proofs.YtkipjalfgdfaiaaGreatDoorW.PrintLast Go.Proofs.YtkipjalfgdfaiaaGreatDoorW.PrintMore

def eqB (a b : ByteArray) : Bool := a.data.toList == b.data.toList
theorem eqB_iff {a b : ByteArray} : eqB a b = true ↔ a = b := by
  unfold eqB
  rw [beq_iff_eq]
  constructor
  · intro h
    rw [← bsL_data a, ← bsL_data b, h]
  · rintro rfl
    rfl
theorem eqB_self (a : ByteArray) : eqB a a = true := eqB_iff.2 rfl
theorem eqB_ne {a b : ByteArray} (h : a ≠ b) : eqB a b = false := Bool.eq_false_iff.2 (fun e => h (eqB_iff.1 e))
def cellB (f : List ByteArray) (i : Nat) : ByteArray := f.getD i ByteArray.empty
def rowHit (kind want : ByteArray) (f : List ByteArray) : Bool := eqB (cellB f 0) kind && (f.drop 1).any (fun n => eqB (looseB n) want)
def findL (kind want : ByteArray) : List (List ByteArray) → Option ByteArray
  | [] => none
  | f :: r => if rowHit kind want f = true then some (cellB f 1) else findL kind want r
def numB (k : ByteArray) : Int := if k.toList = ([103, 99] : List UInt8) then 1 else if k.toList = ([115, 99] : List UInt8) then 2 else 3
def idxL : List UInt8 → Option Nat
  | [] => none
  | b :: l => if b = 61 ∨ b = 58 then some 0 else (idxL l).map (· + 1)
def errN : Int × ByteArray × Int := (0, ByteArray.empty, 50)
def errV : Int × ByteArray × Int := (0, ByteArray.empty, 51)
def valL (R : List (List ByteArray)) (kind s : ByteArray) : Int × ByteArray × Int := match findL kind (looseB s) R with
  | none => errV
  | some v => (numB kind, v, 0)
def keyL (R : List (List ByteArray)) (a s : ByteArray) : Int × ByteArray × Int := match findL ⟨#[112, 114]⟩ (looseB a) R with
  | none => errN
  | some k => valL R k s
def bareL (R : List (List ByteArray)) (s : ByteArray) : List ByteArray → Int × ByteArray × Int
  | [] => errN
  | k :: r => match findL k (looseB s) R with
    | none => bareL R s r
    | some v => (numB k, v, 0)
def kindsL : List ByteArray := [⟨#[103, 99]⟩, ⟨#[98, 105]⟩, ⟨#[115, 99]⟩]
def resolveL (R : List (List ByteArray)) (s : ByteArray) : Int × ByteArray × Int := match idxL s.data.toList with
  | some i => keyL R (s.extract 0 i) (s.extract (i + 1) s.size)
  | none => bareL R s kindsL
def longHit (kind : Int) (v : ByteArray) (f : List ByteArray) : Bool := !eqB (cellB f 0) ⟨#[112, 114]⟩ && decide (numB (cellB f 0) = kind) && eqB (cellB f 1) v
def longL (kind : Int) (v : ByteArray) : List (List ByteArray) → Option ByteArray
  | [] => none
  | f :: r => if longHit kind v f = true then some (cellB f 2) else longL kind v r

/-- The text that the program's code holds: the last one that a region assigns. -/
def textOp : List Oper → Option ByteArray
  | [] => none
  | o :: r => match textOp r with
    | some b => some b
    | none => match o.op with
      | .assign (.const (.string b)) => some b
      | _ => none
def textCode : Code → Option ByteArray
  | .seq a b => match textCode b with
    | some x => some x
    | none => textCode a
  | .region _ ops _ => textOp ops.toList
  | _ => none
/-- Each row has three cells, of few bytes; the middle one is not empty. -/
def rowsOk (R : List (List ByteArray)) : Bool := R.all fun f => f.length == 3 && f.all (fun x => decide (x.size < 1000)) && !(cellB f 1).data.toList.isEmpty
def awakeB : ByteArray := ⟨#[103, 101, 110, 101, 114, 97, 108, 32, 99, 97, 116, 101, 103, 111, 114, 121, 32, 61, 32, 117, 112, 112, 101, 114, 99, 97, 115, 101, 45, 108, 101, 116, 116, 101, 114]⟩
def awakeOk (R : List (List ByteArray)) : Bool := (resolveL R awakeB).1 == 1 && eqB (resolveL R awakeB).2.1 ⟨#[76, 117]⟩ && (resolveL R awakeB).2.2 == 0
def aheadB (n : Int) : ByteArray := if n = 1 then ⟨#[103, 99, 61]⟩ else if n = 2 then ⟨#[115, 99, 61]⟩ else ByteArray.empty
/-- Each value has a long name, which names it; each property is a kind. -/
def backRow (R : List (List ByteArray)) (f : List ByteArray) : Bool := match longL (numB (cellB f 0)) (cellB f 1) R with
  | none => false
  | some l => (resolveL R (aheadB (numB (cellB f 0)) ++ l)).1 == numB (cellB f 0) && eqB (resolveL R (aheadB (numB (cellB f 0)) ++ l)).2.1 (cellB f 1) && (resolveL R (aheadB (numB (cellB f 0)) ++ l)).2.2 == 0
def backOk (R : List (List ByteArray)) : Bool := (R.all fun f => !kindsL.any (fun k => eqB (cellB f 0) k) || backRow R f) && R.all fun f => !eqB (cellB f 0) ⟨#[112, 114]⟩ || kindsL.any (fun k => eqB (cellB f 1) k)
/-- The text of api.Aliases, and what is known of its rows. -/
def AliasIs (b : ByteArray) : Prop := (∀ w, Calls Tryz.prog 172 #[] w fun e w' => e = .returned (.string b) ∧ Below w.heap.size w w') ∧ b.size < 4294967281 ∧ rowsOk (rowsB b) = true ∧ awakeOk (rowsB b) = true ∧ backOk (rowsB b) = true

end Go.Proofs.YtkipjalfgdfaiaaGreatDoor
namespace Go.Proofs.YtkipjalfgdfaiaaGreatDoor
set_option linter.unusedVariables false
set_option linter.unusedSimpArgs false

theorem rowsL_len : ∀ (ps : List ByteArray) (out : List (List ByteArray)), (rowsL ps out).length ≤ out.length + ps.length
  | [], out => Nat.le_refl _
  | x :: r, out => by
    by_cases h : fieldsB x = []
    · rw [rowsL_skip h]
      have := rowsL_len r out
      simp only [List.length_cons]
      omega
    · rw [rowsL_take h]
      have := rowsL_len r (out ++ [fieldsB x])
      simp only [List.length_append, List.length_cons, List.length_nil] at this ⊢
      omega
theorem rowsB_len (s : ByteArray) : (rowsB s).length ≤ s.size + 1 := by
  have h := rowsL_len (cutB 10 s) []
  have h2 := cutB_length 10 s
  simp only [List.length_nil, Nat.zero_add] at h
  exact Nat.le_trans h h2
end Go.Proofs.YtkipjalfgdfaiaaGreatDoor
namespace Go.Proofs.YtkipjalfgdfaiaaGreatDoor
set_option linter.unusedVariables false
set_option linter.unusedSimpArgs false
open Go.RowKit Go.Proofs.YtkipjalfgdfaiaaGreatDoorW.PrintWords Go.Proofs.YtkipjalfgdfaiaaGreatDoorW.PrintLast Go.Proofs.YtkipjalfgdfaiaaGreatDoorW.PrintMore Go.Proofs.YtkipjalfgdfaiaaGreatDoor.PLinesRead

theorem row_ok {R : List (List ByteArray)} (h : rowsOk R = true) {f : List ByteArray} (hf : f ∈ R) : f.length = 3 ∧ (∀ x ∈ f, x.size < 1000) ∧ (cellB f 1).size ≠ 0 := by
  unfold rowsOk at h
  rw [List.all_eq_true] at h
  have h1 := h f hf
  simp only [Bool.and_eq_true, beq_iff_eq, List.all_eq_true, decide_eq_true_eq, Bool.not_eq_true'] at h1
  obtain ⟨⟨h1, h2⟩, h3⟩ := h1
  refine ⟨h1, h2, fun h4 => ?_⟩
  rw [Lib.size_eq, List.length_eq_zero_iff] at h4
  rw [h4] at h3
  cases h3
theorem beq_toList {a b : ByteArray} (h : a ≠ b) : (a.toList == b.toList) = false := by
  rw [Lib.toList_data, Lib.toList_data]
  exact beq_eq_false_iff_ne.2 (fun e => h (by rw [← bsL_data a, ← bsL_data b, e]))
theorem drop1_at {f : List ByteArray} {j : Nat} (h : j < (f.drop 1).length) : (f.drop 1)[j] = f[j + 1]'(by rw [List.length_drop] at h; omega) := by
  rw [List.getElem_drop]
  congr 1
  omega
theorem cell_at {f : List ByteArray} {i : Nat} (h : i < f.length) : cellB f i = f[i] := by
  unfold cellB
  rw [List.getD_eq_getElem?_getD, List.getElem?_eq_getElem h]
  rfl

set_option maxHeartbeats 4000000 in
set_option maxRecDepth 100000 in
theorem find_any (b : ByteArray) (hal : AliasIs b) (kind s : ByteArray) (m : Int) (w : World) (hm : MaxIs w m) (hs : s.size < 140737488355328) :
    Calls Tryz.prog 143 #[.string kind, .string s] w fun e w' => e = .returned (.tuple #[.string ((findL kind (looseB s) (rowsB b)).getD ByteArray.empty), .bool (findL kind (looseB s) (rowsB b)).isSome]) ∧ Below w.heap.size w w' := by
  obtain ⟨ha, hbs, hok, -, -⟩ := hal
  have HRK := Aside0.mk (fun f (hf : f ∈ rowsB b) => row_ok hok hf)
  have HRW := Aside0.mk (fun W hm => rows_any b m W hbs hm)
  have HRL := rowsB_len b
  obtain ⟨R, hR⟩ : ∃ R, rowsB b = R := ⟨_, rfl⟩
  rw [hR] at HRK HRW HRL ⊢
  have HL := Aside0.mk (fun W => loose_any s W hs)
  obtain ⟨want, hwant⟩ : ∃ want, looseB s = want := ⟨_, rfl⟩
  rw [hwant] at HL ⊢
  have HE : Aside0 (findL kind want (R.drop 0) = findL kind want R) := ⟨rfl⟩
  obtain ⟨ans, hans⟩ : ∃ ans, findL kind want R = ans := ⟨_, rfl⟩
  rw [hans] at HE ⊢
  have HM := Aside0.mk hm
  have HAL := Aside0.mk ha
  have hrl : R.length < 4294967290 := by omega
  clear ha hbs hok hR HRL hwant hans hm
  go_enter Tryz.func143, Tryz.ntmps143
  go_wp2_with fail
  refine (HL.out _).mono ?_
  rintro e w1 ⟨rfl, hb1⟩
  have HB1 := Aside0.mk hb1
  clear hb1
  go_wp2_with fail
  refine (HAL.out _).mono ?_
  rintro e w2 ⟨rfl, hb2⟩
  have HB2 : Aside0 (Below w.heap.size w w2) := ⟨below_to HB1.out hb2⟩
  clear hb2
  go_wp2_with fail
  refine (HRW.out _ (HM.out.below HB2.out)).mono ?_
  rintro e w3 ⟨v3, rfl, ho3, hb3⟩
  have HB3 : Aside0 (Below w.heap.size w w3) := ⟨below_to HB2.out hb3⟩
  obtain ⟨A, c, rfl, hc, hr⟩ := Kd.R_reads ho3
  have HR := Aside0.mk hr
  clear ho3 hb3 hr
  go_wp2
  go_loopg [16] R.length (fun gk i w' => ∃ (k : Nat), i = .int .i64 (k : Int) ∧ Aside0 (k ≤ R.length ∧ gk = R.length - k) ∧ Aside0 (findL kind want (R.drop k) = ans) ∧ Aside0 (Below w3.heap.size w3 w'))
  case atStart => exact ⟨0, by first | rfl | simp, ⟨Nat.zero_le _, rfl⟩, HE, ⟨Below.refl _ _⟩⟩
  case round =>
    obtain ⟨k, rfl, HA, HF, HB⟩ := hrel
    have HBW : Aside0 (Below w.heap.size w wr) := ⟨below_to HB3.out HB.out⟩
    by_cases hk : k < R.length
    · obtain ⟨ad, A0, c0, rfl, hx0, hxl, hxr⟩ := at_L2 HR.out (k : Int) (by omega) (by omega)
      replace hx0 := pw_cell_below HB.out hx0
      replace hxr := Kd.C_below hxr HB.out
      have hfR : rd_L2 R (k : Int) = R[k] := by simp [rd_L2, hk]
      have hok := HRK.out R[k] (List.getElem_mem hk)
      have hdr : R.drop k = R[k] :: R.drop (k + 1) := List.drop_eq_getElem_cons hk
      rw [hfR] at hx0 hxl hxr
      rw [hdr] at HF
      obtain ⟨f, hff⟩ : ∃ f, R[k] = f := ⟨_, rfl⟩
      rw [hff] at hx0 hxl hxr hok HF
      clear hfR hff hdr
      obtain ⟨hf3, hfs, -⟩ := hok
      simp only [Int.toNat_natCast] at hx0
      obtain ⟨ad0, rfl, hy0⟩ := at_S hxr 0 (by omega)
      obtain ⟨ad0', he1, hy1⟩ := at_S hxr 1 (by omega)
      cases he1
      rw [add_zero] at hy0
      have ha1 := add_field ad0 0 1 (by omega)
      rw [Nat.zero_add, add_zero] at ha1
      rw [ha1] at hy1
      clear ha1
      have hc0e := cell_at (show 0 < f.length by omega)
      have hc1e := cell_at (show 1 < f.length by omega)
      obtain ⟨x0, hxx0⟩ : ∃ x0, f[0]'(by omega) = x0 := ⟨_, rfl⟩
      obtain ⟨x1, hxx1⟩ : ∃ x1, f[1]'(by omega) = x1 := ⟨_, rfl⟩
      rw [hxx0] at hy0 hc0e
      rw [hxx1] at hy1 hc1e
      have HXR := Aside0.mk hxr
      have HFS := Aside0.mk hfs
      clear hxr hfs hxx0 hxx1
      by_cases hkd : x0 = kind
      · subst hkd
        have HH : Aside0 (rowHit x0 want f = (f.drop 1).any (fun n => eqB (looseB n) want)) := ⟨by unfold rowHit; rw [hc0e, eqB_self, Bool.true_and]⟩
        have hdl : (f.drop 1).length = 2 := by rw [List.length_drop]; omega
        have HNS : Aside0 (∀ n ∈ f.drop 1, n.size < 1000) := ⟨fun n hn => HFS.out n (List.mem_of_mem_drop hn)⟩
        have HNC : Aside0 (∀ q (hq : q < (f.drop 1).length), wr.cell? ⟨ad0.block, ad0.off + 1 + q, none⟩ = some (.string ((f.drop 1)[q]))) := ⟨fun q hq => by
          obtain ⟨adn, he, hz⟩ := at_S HXR.out (q + 1) (by omega)
          cases he
          have h2 := add_field ad0 0 (q + 1) (by omega)
          rw [Nat.zero_add, add_zero] at h2
          rw [h2, show ad0.off + (q + 1) = ad0.off + 1 + q by omega] at hz
          rw [drop1_at hq]
          exact hz⟩
        obtain ⟨N, hN⟩ : ∃ N, f.drop 1 = N := ⟨_, rfl⟩
        rw [hN] at HH HNS HNC hdl
        clear hN HFS
        obtain ⟨wo, hwo⟩ : ∃ wo : World, wo = wr := ⟨_, rfl⟩
        subst hwo
        go_wp2
        go_loopg [28] 2 (fun gk i w' => ∃ (q : Nat), i = .int .i64 (q : Int) ∧ Aside0 (q ≤ 2 ∧ gk = 2 - q) ∧ Aside0 ((N.take q).any (fun n => eqB (looseB n) want) = false) ∧ Aside0 (Below wo.heap.size wo w'))
        case atStart => exact ⟨0, by first | rfl | simp, ⟨Nat.zero_le _, rfl⟩, ⟨rfl⟩, ⟨Below.refl _ _⟩⟩
        case round =>
          obtain ⟨q, rfl, HQ, HN, HBQ⟩ := hrel
          by_cases hq : q < 2
          · have hz := HNC.out q (by omega)
            replace hz := pw_cell_below HBQ.out hz
            have hns := HNS.out _ (List.getElem_mem (show q < N.length by omega))
            have htk : (N.take (q + 1)).any (fun n => eqB (looseB n) want) = eqB (looseB (N[q]'(by omega))) want := by
              rw [List.take_succ_eq_append_getElem (by omega), List.any_append, HN.out, Bool.false_or, List.any_cons, List.any_nil, Bool.or_false]
            have hmem : N[q]'(by omega) ∈ N := List.getElem_mem _
            have hany : eqB (looseB (N[q]'(by omega))) want = true → N.any (fun n => eqB (looseB n) want) = true := fun h => List.any_eq_true.2 ⟨_, hmem, h⟩
            obtain ⟨n, hn⟩ : ∃ n, N[q]'(by omega) = n := ⟨_, rfl⟩
            rw [hn] at hz hns htk hany
            have HLN := Aside0.mk (fun W => loose_any n W (by omega))
            obtain ⟨ln, hln⟩ : ∃ ln, looseB n = ln := ⟨_, rfl⟩
            rw [hln] at HLN htk hany
            have HTK := Aside0.mk htk
            have HANY := Aside0.mk hany
            clear hn hmem hns hln htk hany
            go_wp2_with fail
            refine (HLN.out _).mono ?_
            rintro e w5 ⟨rfl, hb5⟩
            have HB5 : Aside0 (Below wo.heap.size wo w5) := ⟨below_to HBQ.out hb5⟩
            replace hy1 := pw_cell_below HB5.out hy1
            clear hb5 hz
            by_cases hw : ln = want
            · subst hw
              have HAN : Aside0 (ans = some x1) := ⟨by
                rw [← HF.out, findL, if_pos (by rw [HH.out]; exact HANY.out (eqB_self _)), hc1e]⟩
              have HBZ : Aside0 (Below w.heap.size w w5) := ⟨below_to HBW.out HB5.out⟩
              go_wp2
              go_ret2
              rw [HAN.out]
              exact ⟨rfl, HBZ.out⟩
            · have hbq := beq_toList hw
              have HT2 : Aside0 ((N.take (q + 1)).any (fun n => eqB (looseB n) want) = false) := ⟨by rw [HTK.out]; exact eqB_ne hw⟩
              go_wp2
              go_roundg (2 - q - 1)
              case measure => have := HQ.out; omega
              case rel => exact ⟨q + 1, by go_num, ⟨by omega, by omega⟩, HT2, HB5⟩
          · have HAN : Aside0 (findL x0 want (R.drop (k + 1)) = ans) := ⟨by
              have hall : N.take q = N := List.take_of_length_le (by omega)
              have := HN.out
              rw [hall] at this
              rw [← HF.out, findL, if_neg (by rw [HH.out, this]; decide)]⟩
            have HB6 : Aside0 (Below w3.heap.size w3 wr) := ⟨below_to HB.out HBQ.out⟩
            go_wp2
            go_roundg (R.length - k - 1)
            case measure => have := HA.out; omega
            case rel => exact ⟨k + 1, by go_num, ⟨by omega, by omega⟩, HAN, HB6⟩
      · have hbq := beq_toList hkd
        have HAN : Aside0 (findL kind want (R.drop (k + 1)) = ans) := ⟨by
          rw [← HF.out, findL, if_neg (by unfold rowHit; rw [hc0e, eqB_ne hkd]; simp)]⟩
        go_wp2
        go_roundg (R.length - k - 1)
        case measure => have := HA.out; omega
        case rel => exact ⟨k + 1, by go_num, ⟨by omega, by omega⟩, HAN, HB⟩
    · have HAN : Aside0 (ans = none) := ⟨by rw [← HF.out, List.drop_of_length_le (by omega)]; rfl⟩
      go_wp2
      go_ret2
      rw [HAN.out]
      exact ⟨rfl, HBW.out⟩

end Go.Proofs.YtkipjalfgdfaiaaGreatDoor
namespace Go.Proofs.YtkipjalfgdfaiaaGreatDoor
set_option linter.unusedVariables false
set_option linter.unusedSimpArgs false
open Go.RowKit Go.Proofs.YtkipjalfgdfaiaaGreatDoorW.PrintWords Go.Proofs.YtkipjalfgdfaiaaGreatDoorW.PrintLast Go.Proofs.YtkipjalfgdfaiaaGreatDoorW.PrintMore

def idxI (l : List UInt8) : Int := match idxL l with
  | some i => (i : Int)
  | none => -1
theorem idxL_lt : ∀ (l : List UInt8) (i : Nat), idxL l = some i → i < l.length
  | [], i, h => by cases h
  | b :: l, i, h => by
    unfold idxL at h
    split at h
    · cases h
      simp
    · cases hl : idxL l with
      | none => rw [hl] at h; cases h
      | some j =>
        rw [hl] at h
        cases h
        have := idxL_lt l j hl
        simp only [List.length_cons]
        omega
theorem number_any (k : ByteArray) (w : World) : Calls Tryz.prog 144 #[.string k] w fun e w' => e = .returned (.int .i64 (numB k)) ∧ Below w.heap.size w w' := by
  refine (Go.Proofs.YtkipjalfgdfaiaaGreatDoor.PNamesBack.names_number.calls k (numB k) w ?_).mono ?_
  · unfold Go.Proofs.YtkipjalfgdfaiaaGreatDoor.PNamesBack.names_number.f numB
    split
    · rfl
    · split <;> rfl
  · rintro e w' ⟨rfl, hd⟩
    exact ⟨rfl, hd.below⟩
theorem idx3_0 (W : World) : (Instr.index 166 (.agg #[.string ⟨#[103, 99]⟩, .string ⟨#[98, 105]⟩, .string ⟨#[115, 99]⟩]) (.int .i64 0)).run Tryz.prog W = .ok (.string ⟨#[103, 99]⟩) W := by kernel_rfl
theorem idx3_1 (W : World) : (Instr.index 166 (.agg #[.string ⟨#[103, 99]⟩, .string ⟨#[98, 105]⟩, .string ⟨#[115, 99]⟩]) (.int .i64 1)).run Tryz.prog W = .ok (.string ⟨#[98, 105]⟩) W := by kernel_rfl
theorem idx3_2 (W : World) : (Instr.index 166 (.agg #[.string ⟨#[103, 99]⟩, .string ⟨#[98, 105]⟩, .string ⟨#[115, 99]⟩]) (.int .i64 2)).run Tryz.prog W = .ok (.string ⟨#[115, 99]⟩) W := by kernel_rfl
def IndexIs (s : ByteArray) : Prop := ∀ W : World, Calls Tryz.prog 142 #[.string s, .string ⟨#[61, 58]⟩] W fun e w' => e = .returned (.int .i64 (idxI s.data.toList)) ∧ Below W.heap.size W w'
theorem num_1 : numB ⟨#[103, 99]⟩ = 1 := by unfold numB; rw [if_pos (by rw [Lib.toList_data])]
theorem num_3 : numB ⟨#[98, 105]⟩ = 3 := by unfold numB; rw [if_neg (by rw [Lib.toList_data]; decide), if_neg (by rw [Lib.toList_data]; decide)]
theorem num_2 : numB ⟨#[115, 99]⟩ = 2 := by unfold numB; rw [if_neg (by rw [Lib.toList_data]; decide), if_pos (by rw [Lib.toList_data])]
set_option maxHeartbeats 4000000 in
set_option maxRecDepth 100000 in
theorem resolve_any (b : ByteArray) (hal : AliasIs b) (s : ByteArray) (m : Int) (w : World) (hm : MaxIs w m) (hs : s.size < 140737488355328) (hix : IndexIs s) :
    Calls Tryz.prog 102 #[.string s] w fun e w' => e = .returned (.tuple #[.int .i64 (resolveL (rowsB b) s).1, .string (resolveL (rowsB b) s).2.1, .int .i64 (resolveL (rowsB b) s).2.2]) ∧ Below w.heap.size w w' := by
  have HF := Aside0.mk (fun kind (t : ByteArray) (ht : t.size < 140737488355328) W hm => find_any b hal kind t m W hm ht)
  have HI := Aside0.mk hix
  have HM := Aside0.mk hm
  have HXS : ∀ i j, (s.extract i j).size ≤ s.size := fun i j => by rw [ByteArray.size_extract]; omega
  clear hal hm hix
  have HID : Aside0 (idxI s.data.toList = match idxL s.data.toList with | some i => (i : Int) | none => -1) := ⟨rfl⟩
  have HRE : Aside0 (resolveL (rowsB b) s = match idxL s.data.toList with | some i => keyL (rowsB b) (s.extract 0 i) (s.extract (i + 1) s.size) | none => bareL (rowsB b) s kindsL) := ⟨rfl⟩
  have hlt := idxL_lt s.data.toList
  rw [← Lib.size_eq s] at hlt
  obtain ⟨ans, hans⟩ : ∃ ans, resolveL (rowsB b) s = ans := ⟨_, rfl⟩
  rw [hans] at HRE ⊢
  obtain ⟨R, hR⟩ : ∃ R, rowsB b = R := ⟨_, rfl⟩
  rw [hR] at HRE HF
  clear hans hR
  cases hix : idxL s.data.toList with
  | some i =>
    have hi := hlt i hix
    have HIX := Aside0.mk hix
    rw [hix] at HID HRE
    simp only at HID HRE
    clear hix hlt
    have HK := Aside0.mk (fun W hm => HF.out ⟨#[112, 114]⟩ (s.extract 0 i) (by have := HXS 0 i; omega) W hm)
    have HRE2 : Aside0 (ans = match findL ⟨#[112, 114]⟩ (looseB (s.extract 0 i)) R with | none => errN | some k => valL R k (s.extract (i + 1) s.size)) := ⟨HRE.out⟩
    have HV := Aside0.mk (fun k W hm => HF.out k (s.extract (i + 1) s.size) (by have := HXS (i + 1) s.size; omega) W hm)
    obtain ⟨t1, ht1⟩ : ∃ t1, s.extract 0 i = t1 := ⟨_, rfl⟩
    obtain ⟨t2, ht2⟩ : ∃ t2, s.extract (i + 1) s.size = t2 := ⟨_, rfl⟩
    have e1 : ((i : Int)).toNat = i := rfl
    have e2 : ((i : Int) + 1).toNat = i + 1 := rfl
    rw [ht1] at HK HRE2
    rw [ht2] at HV HRE2
    clear HRE HXS
    obtain ⟨F1, hF1⟩ : ∃ F1, findL ⟨#[112, 114]⟩ (looseB t1) R = F1 := ⟨_, rfl⟩
    rw [hF1] at HK HRE2
    clear hF1
    cases F1 with
    | none =>
      simp only [Option.getD_none, Option.isSome_none] at HK HRE2
      go_enter Tryz.func102, Tryz.ntmps102
      go_wp2_with fail
      refine (HI.out _).mono ?_
      rintro e w1 ⟨rfl, hb1⟩
      have HB1 := Aside0.mk hb1
      rw [HID.out]
      clear hb1
      go_wp2_with fail
      refine (HK.out _ (HM.out.below HB1.out)).mono ?_
      rintro e w2 ⟨rfl, hb2⟩
      have HB2 : Aside0 (Below w.heap.size w w2) := ⟨below_to HB1.out hb2⟩
      clear hb2 HK HV
      go_wp2
      go_ret3
      rw [HRE2.out]
      exact ⟨rfl, HB2.out⟩
    | some k =>
      simp only [Option.getD_some, Option.isSome_some] at HK HRE2
      have HVK := Aside0.mk (fun W hm => HV.out k W hm)
      have HRE3 : Aside0 (ans = match findL k (looseB t2) R with | none => errV | some v => (numB k, v, 0)) := ⟨HRE2.out⟩
      clear HV HRE2
      obtain ⟨F2, hF2⟩ : ∃ F2, findL k (looseB t2) R = F2 := ⟨_, rfl⟩
      rw [hF2] at HVK HRE3
      clear hF2
      cases F2 with
      | none =>
        simp only [Option.getD_none, Option.isSome_none] at HVK HRE3
        go_enter Tryz.func102, Tryz.ntmps102
        go_wp2_with fail
        refine (HI.out _).mono ?_
        rintro e w1 ⟨rfl, hb1⟩
        have HB1 := Aside0.mk hb1
        rw [HID.out]
        clear hb1
        go_wp2_with fail
        refine (HK.out _ (HM.out.below HB1.out)).mono ?_
        rintro e w2 ⟨rfl, hb2⟩
        have HB2 : Aside0 (Below w.heap.size w w2) := ⟨below_to HB1.out hb2⟩
        clear hb2 HK
        go_wp2_with fail
        refine (HVK.out _ (HM.out.below HB2.out)).mono ?_
        rintro e w3 ⟨rfl, hb3⟩
        have HB3 : Aside0 (Below w.heap.size w w3) := ⟨below_to HB2.out hb3⟩
        clear hb3 HVK
        go_wp2
        go_ret3
        rw [HRE3.out]
        exact ⟨rfl, HB3.out⟩
      | some v =>
        simp only [Option.getD_some, Option.isSome_some] at HVK HRE3
        go_enter Tryz.func102, Tryz.ntmps102
        go_wp2_with fail
        refine (HI.out _).mono ?_
        rintro e w1 ⟨rfl, hb1⟩
        have HB1 := Aside0.mk hb1
        rw [HID.out]
        clear hb1
        go_wp2_with fail
        refine (HK.out _ (HM.out.below HB1.out)).mono ?_
        rintro e w2 ⟨rfl, hb2⟩
        have HB2 : Aside0 (Below w.heap.size w w2) := ⟨below_to HB1.out hb2⟩
        clear hb2 HK
        go_wp2_with fail
        refine (HVK.out _ (HM.out.below HB2.out)).mono ?_
        rintro e w3 ⟨rfl, hb3⟩
        have HB3 : Aside0 (Below w.heap.size w w3) := ⟨below_to HB2.out hb3⟩
        clear hb3 HVK
        go_wp2_with fail
        refine (number_any k _).mono ?_
        rintro e w4 ⟨rfl, hb4⟩
        have HB4 : Aside0 (Below w.heap.size w w4) := ⟨below_to HB3.out hb4⟩
        clear hb4
        go_wp2
        go_ret3
        rw [HRE3.out]
        exact ⟨rfl, HB4.out⟩
  | none =>
    rw [hix] at HID HRE
    simp only at HID HRE
    clear hix hlt HXS
    have HB0 : Aside0 (bareL R s (kindsL.drop 0) = ans) := ⟨HRE.out.symm⟩
    clear HRE
    go_enter Tryz.func102, Tryz.ntmps102
    go_wp2_with fail
    refine (HI.out _).mono ?_
    rintro e w1 ⟨rfl, hb1⟩
    have HB1 := Aside0.mk hb1
    rw [HID.out]
    clear hb1
    go_wp2
    go_loopg [41] 3 (fun gk i w' => ∃ (q : Nat), i = .int .i64 (q : Int) ∧ Aside0 (q ≤ 3 ∧ gk = 3 - q) ∧ Aside0 (bareL R s (kindsL.drop q) = ans) ∧ Aside0 (Below w.heap.size w w'))
    case atStart => exact ⟨0, by first | rfl | simp, ⟨by omega, rfl⟩, HB0, HB1⟩
    case round =>
      obtain ⟨q, rfl, HQ, HAN, HB⟩ := hrel
      have hq3 : q = 0 ∨ q = 1 ∨ q = 2 ∨ q = 3 := by have := HQ.out; omega
      rcases hq3 with rfl | rfl | rfl | rfl
      · have hi3 := idx3_0 wr
        have HAN2 : Aside0 (ans = match findL ⟨#[103, 99]⟩ (looseB s) R with | none => bareL R s (kindsL.drop 1) | some v => (1, v, 0)) := ⟨by rw [← num_1]; exact HAN.out.symm⟩
        have HK := Aside0.mk (fun W hm => HF.out ⟨#[103, 99]⟩ s hs W hm)
        obtain ⟨F1, hF1⟩ : ∃ F1, findL ⟨#[103, 99]⟩ (looseB s) R = F1 := ⟨_, rfl⟩
        rw [hF1] at HK HAN2
        clear hF1 HAN
        cases F1 with
        | none =>
          simp only [Option.getD_none, Option.isSome_none] at HK HAN2
          go_wp2_with fail
          refine (HK.out _ (HM.out.below HB.out)).mono ?_
          rintro e w2 ⟨rfl, hb2⟩
          have HB2 : Aside0 (Below w.heap.size w w2) := ⟨below_to HB.out hb2⟩
          clear hb2 HK
          go_wp2
          go_roundg 2
          case measure => have := HQ.out; omega
          case rel => exact ⟨1, by first | rfl | go_num, ⟨by omega, by omega⟩, ⟨HAN2.out.symm⟩, HB2⟩
        | some v =>
          simp only [Option.getD_some, Option.isSome_some] at HK HAN2
          go_wp2_with fail
          refine (HK.out _ (HM.out.below HB.out)).mono ?_
          rintro e w2 ⟨rfl, hb2⟩
          have HB2 : Aside0 (Below w.heap.size w w2) := ⟨below_to HB.out hb2⟩
          clear hb2 HK
          go_wp2_with fail
          refine (number_any ⟨#[103, 99]⟩ _).mono ?_
          rintro e w4 ⟨rfl, hb4⟩
          have HB4 : Aside0 (Below w.heap.size w w4) := ⟨below_to HB2.out hb4⟩
          clear hb4
          rw [num_1]
          go_wp2
          go_ret3
          rw [HAN2.out]
          exact ⟨rfl, HB4.out⟩
      · have hi3 := idx3_1 wr
        have HAN2 : Aside0 (ans = match findL ⟨#[98, 105]⟩ (looseB s) R with | none => bareL R s (kindsL.drop 2) | some v => (3, v, 0)) := ⟨by rw [← num_3]; exact HAN.out.symm⟩
        have HK := Aside0.mk (fun W hm => HF.out ⟨#[98, 105]⟩ s hs W hm)
        obtain ⟨F1, hF1⟩ : ∃ F1, findL ⟨#[98, 105]⟩ (looseB s) R = F1 := ⟨_, rfl⟩
        rw [hF1] at HK HAN2
        clear hF1 HAN
        cases F1 with
        | none =>
          simp only [Option.getD_none, Option.isSome_none] at HK HAN2
          go_wp2_with fail
          refine (HK.out _ (HM.out.below HB.out)).mono ?_
          rintro e w2 ⟨rfl, hb2⟩
          have HB2 : Aside0 (Below w.heap.size w w2) := ⟨below_to HB.out hb2⟩
          clear hb2 HK
          go_wp2
          go_roundg 1
          case measure => have := HQ.out; omega
          case rel => exact ⟨2, by first | rfl | go_num, ⟨by omega, by omega⟩, ⟨HAN2.out.symm⟩, HB2⟩
        | some v =>
          simp only [Option.getD_some, Option.isSome_some] at HK HAN2
          go_wp2_with fail
          refine (HK.out _ (HM.out.below HB.out)).mono ?_
          rintro e w2 ⟨rfl, hb2⟩
          have HB2 : Aside0 (Below w.heap.size w w2) := ⟨below_to HB.out hb2⟩
          clear hb2 HK
          go_wp2_with fail
          refine (number_any ⟨#[98, 105]⟩ _).mono ?_
          rintro e w4 ⟨rfl, hb4⟩
          have HB4 : Aside0 (Below w.heap.size w w4) := ⟨below_to HB2.out hb4⟩
          clear hb4
          rw [num_3]
          go_wp2
          go_ret3
          rw [HAN2.out]
          exact ⟨rfl, HB4.out⟩
      · have hi3 := idx3_2 wr
        have HAN2 : Aside0 (ans = match findL ⟨#[115, 99]⟩ (looseB s) R with | none => bareL R s (kindsL.drop 3) | some v => (2, v, 0)) := ⟨by rw [← num_2]; exact HAN.out.symm⟩
        have HK := Aside0.mk (fun W hm => HF.out ⟨#[115, 99]⟩ s hs W hm)
        obtain ⟨F1, hF1⟩ : ∃ F1, findL ⟨#[115, 99]⟩ (looseB s) R = F1 := ⟨_, rfl⟩
        rw [hF1] at HK HAN2
        clear hF1 HAN
        cases F1 with
        | none =>
          simp only [Option.getD_none, Option.isSome_none] at HK HAN2
          go_wp2_with fail
          refine (HK.out _ (HM.out.below HB.out)).mono ?_
          rintro e w2 ⟨rfl, hb2⟩
          have HB2 : Aside0 (Below w.heap.size w w2) := ⟨below_to HB.out hb2⟩
          clear hb2 HK
          go_wp2
          go_roundg 0
          case measure => have := HQ.out; omega
          case rel => exact ⟨3, by first | rfl | go_num, ⟨by omega, by omega⟩, ⟨HAN2.out.symm⟩, HB2⟩
        | some v =>
          simp only [Option.getD_some, Option.isSome_some] at HK HAN2
          go_wp2_with fail
          refine (HK.out _ (HM.out.below HB.out)).mono ?_
          rintro e w2 ⟨rfl, hb2⟩
          have HB2 : Aside0 (Below w.heap.size w w2) := ⟨below_to HB.out hb2⟩
          clear hb2 HK
          go_wp2_with fail
          refine (number_any ⟨#[115, 99]⟩ _).mono ?_
          rintro e w4 ⟨rfl, hb4⟩
          have HB4 : Aside0 (Below w.heap.size w w4) := ⟨below_to HB2.out hb4⟩
          clear hb4
          rw [num_2]
          go_wp2
          go_ret3
          rw [HAN2.out]
          exact ⟨rfl, HB4.out⟩
      · go_wp2
        go_ret3
        rw [← HAN.out]
        exact ⟨rfl, HB.out⟩

end Go.Proofs.YtkipjalfgdfaiaaGreatDoor
