/- PaT, PaU, ClH, SmA, SmB, TreeApartW, TkH2, TrH, TreeApart. -/
import Derived.Lib.LaidU8
import Derived.Lib.LaidTab
import Derived.Lib.AppendIntMem
import Derived.Test.YtkipjalfgdfaiaaGreatDoorCards
import Derived.Test.YtkipjalfgdfaiaaGreatDoorTie
import Derived.WalkKit
import Derived.ProofKit
import Derived.OpenShut
import Derived.ShutString
import Derived.ChangeOld
import Derived.Below
import Derived.SizedLaws
import Derived.Deep.DeepHandedRow
import Derived.Lay
import Derived.SevenTiedAt
import Derived.Test.YtkipjalfgdfaiaaGreatDoorSD7
namespace Go.Proofs.YtkipjalfgdfaiaaGreatDoor
set_option linter.unusedVariables false
set_option linter.unusedSimpArgs false
open Go.RowKit Go.Proofs.YtkipjalfgdfaiaaGreatDoorW.PrintWords Go.Proofs.YtkipjalfgdfaiaaGreatDoor.PTk

section
variable (res : ByteArray → Int × ByteArray × Int)
/-- From a place on these tokens are read, up to another one. -/
def Reads (p : List Int) : List Tk → Nat → Nat → Nat → Nat → Prop
  | [], ne, k, ne', k' => ne' = ne ∧ k' = k
  | t :: ts, ne, k, ne', k' => ∃ a, nextL res p ne k = .ok a ∧ bareT a.1 = t ∧ k < a.2.1 ∧ a.2.1 ≤ p.length ∧ Reads p ts a.2.2 a.2.1 ne' k'
theorem Reads.app {p : List Int} : ∀ {l1 l2 : List Tk} {ne k ne1 k1 ne2 k2 : Nat}, Reads res p l1 ne k ne1 k1 → Reads res p l2 ne1 k1 ne2 k2 → Reads res p (l1 ++ l2) ne k ne2 k2
  | [], l2, ne, k, ne1, k1, ne2, k2, ⟨h1, h2⟩, h => by subst h1 h2; exact h
  | t :: l1, l2, ne, k, ne1, k1, ne2, k2, ⟨a, h1, h2, h3, h4, h5⟩, h => ⟨a, h1, h2, h3, h4, Reads.app h5 h⟩
theorem Reads.scan {p : List Int} : ∀ {l : List Tk} {ne k ne' : Nat} (f : Nat) (out : List Tk), Reads res p l ne k ne' p.length → p.length ≤ f + k → ∃ new, scanR res p f ne k out = (out ++ new, 0, 0) ∧ new.map bareT = l
  | [], ne, k, ne', f, out, ⟨_, h⟩, hf => by
    refine ⟨[], ?_, rfl⟩
    cases f with
    | zero => simp [scanR]
    | succ f => rw [scanR, if_neg (by omega)]; simp
  | t :: l, ne, k, ne', f, out, ⟨a, h1, h2, h3, h4, h5⟩, hf => by
    obtain ⟨g, rfl⟩ : ∃ g, f = g + 1 := ⟨f - 1, by omega⟩
    obtain ⟨new, e, hm⟩ := Reads.scan g (out ++ [a.1]) h5 (by omega)
    refine ⟨a.1 :: new, ?_, by rw [List.map_cons, h2, hm]⟩
    rw [scanR, if_pos (by omega), h1]
    simp only
    rw [e]
    simp
/-- A text that is read as these tokens, wherever it stands, if what stands behind lets it. -/
def Pc (l : List Int) (ne : Nat) (ts : List Tk) (ne' : Nat) (ok : List Int → Prop) : Prop := ∀ p k post, p.drop k = l ++ post → k ≤ p.length → ok post → Reads res p ts ne k ne' (k + l.length)
theorem drop_app {p l post : List Int} {k : Nat} (h : p.drop k = l ++ post) (hk : k ≤ p.length) : p.drop (k + l.length) = post ∧ k + l.length ≤ p.length := by
  constructor
  · rw [← List.drop_drop, h]; simp
  · have := congrArg List.length h
    rw [List.length_drop, List.length_append] at this
    omega
theorem Pc.app {l1 l2 : List Int} {ne ne1 ne2 : Nat} {t1 t2 : List Tk} {ok1 ok2 : List Int → Prop} (h1 : Pc res l1 ne t1 ne1 ok1) (h2 : Pc res l2 ne1 t2 ne2 ok2) (h : ∀ post, ok2 post → ok1 (l2 ++ post)) : Pc res (l1 ++ l2) ne (t1 ++ t2) ne2 ok2 := by
  intro p k post hp hk ho
  rw [List.append_assoc] at hp
  have hd := drop_app hp hk
  have g := (h1 p k _ hp hk (h post ho)).app res (h2 p _ post hd.1 hd.2 ho)
  rw [List.length_append, ← Nat.add_assoc]
  exact g
theorem Pc.weak {l : List Int} {ne ne' : Nat} {t : List Tk} {ok ok' : List Int → Prop} (h : Pc res l ne t ne' ok) (hk : ∀ post, ok' post → ok post) : Pc res l ne t ne' ok' := fun p k post hp hkp ho => h p k post hp hkp (hk post ho)
theorem Pc.none {ne : Nat} {ok : List Int → Prop} : Pc res [] ne [] ne ok := fun p k post hp hk ho => ⟨rfl, by simp⟩
theorem Pc.one {l : List Int} {ne ne' : Nat} {t : Tk} {ok : List Int → Prop} (hl : l ≠ []) (h : ∀ p k post, p.drop k = l ++ post → k ≤ p.length → ok post → ∃ x, nextL res p ne k = .ok (x, k + l.length, ne') ∧ bareT x = t) : Pc res l ne [t] ne' ok := by
  intro p k post hp hk ho
  obtain ⟨x, h1, h2⟩ := h p k post hp hk ho
  have hd := drop_app hp hk
  have : 0 < l.length := List.length_pos_iff.2 hl
  exact ⟨(x, k + l.length, ne'), h1, h2, by simp only; omega, hd.2, rfl, rfl⟩
abbrev Any (_ : List Int) : Prop := True
/-- What may stand behind a part: no mark that would go on with it. -/
def Mild (post : List Int) : Prop := ∀ c l, post = c :: l → c ≠ 63 ∧ c ≠ 43 ∧ c ≠ 123
theorem mild_nil : Mild [] := fun c l h => by cases h
theorem mild_cons {c : Int} {l : List Int} (h1 : c ≠ 63) (h2 : c ≠ 43) (h3 : c ≠ 123) : Mild (c :: l) := fun d r h => by cases h; exact ⟨h1, h2, h3⟩
theorem char_print {r : Int} {cls : Bool} {ne : Nat} (hr : runeB r = true) (hc : ne = 0 ∧ cls = false ∨ ne ≠ 0 ∧ cls = true) : Pc res (printL r cls) ne [tk0 1 0 r 0 e0 false] ne Any :=
  Pc.one res (by have := (printL_pos (cls := cls) hr).1; intro e; rw [e] at this; simp at this) (fun p k post hp hk _ => ⟨_, next_print res hr hp hc, rfl⟩)
theorem char_ascii {p l : List Int} {k : Nat} {c : Int} (h : p.drop k = c :: l) (h1 : c < 128) : charL p k = .ok (c, k + 1) :=
  char_of (by rw [h]; simp only [readL]; rw [if_pos h1])
/-- A mark that is no mark of classes. -/
theorem next_oth {p l : List Int} {k ne : Nat} {c : Int} (h : p.drop k = c :: l) (h1 : c < 128) (h2 : c ≠ 91) (h3 : ne = 0 ∨ (c ≠ 93 ∧ c ≠ 38 ∧ c ≠ 45 ∧ c ≠ 126)) :
    nextL res p ne k = thenF (othL res p ne c (k + 1) { kind := 0, st := k }) fun a => .ok ({ a.1 with en := a.2 }, a.2, ne) := by
  unfold nextL
  rw [within_none h _ h2 h3]
  simp only
  unfold otherL
  rw [char_ascii h h1, thenF_ok]
/-- An escape. -/
theorem next_esc {p l : List Int} {k ne : Nat} {c : Int} (h : p.drop k = 92 :: c :: l) (h1 : c < 128) :
    nextL res p ne k = thenF (escL res p ne c (k + 1 + 1) { kind := 0, st := k }) fun a => .ok ({ a.1 with en := a.2 }, a.2, ne) := by
  have a0 := peek_cons h
  have a1 := peek_cons a0.2.1
  rw [next_oth res h (by decide) (by decide) (.inr (by decide))]
  unfold othL
  rw [if_pos rfl]
  unfold escapeL
  rw [a1.1, thenF_ok, char_ascii a0.2.1 h1, thenF_ok]
theorem any_piece : Pc res [46] 0 [tk0 2 0 0 0 e0 false] 0 Any := Pc.one res (by simp) (fun p k post hp hk _ => ⟨{ kind := 2, st := k, en := k + 1 }, by rw [next_oth res hp (by decide) (by decide) (.inl rfl)]; rfl, rfl⟩)
theorem bar_piece : Pc res [124] 0 [tk0 5 0 0 0 e0 false] 0 Any := Pc.one res (by simp) (fun p k post hp hk _ => ⟨{ kind := 5, st := k, en := k + 1 }, by rw [next_oth res hp (by decide) (by decide) (.inl rfl)]; rfl, rfl⟩)
theorem close_piece : Pc res [41] 0 [tk0 4 0 0 0 e0 false] 0 Any := Pc.one res (by simp) (fun p k post hp hk _ => ⟨{ kind := 4, st := k, en := k + 1 }, by rw [next_oth res hp (by decide) (by decide) (.inl rfl)]; rfl, rfl⟩)
theorem begin_piece : Pc res [94] 0 [tk0 7 1 0 0 e0 false] 0 Any := Pc.one res (by simp) (fun p k post hp hk _ => ⟨{ kind := 7, mode := 1, st := k, en := k + 1 }, by rw [next_oth res hp (by decide) (by decide) (.inl rfl)]; rfl, rfl⟩)
theorem end_piece : Pc res [36] 0 [tk0 7 2 0 0 e0 false] 0 Any := Pc.one res (by simp) (fun p k post hp hk _ => ⟨{ kind := 7, mode := 2, st := k, en := k + 1 }, by rw [next_oth res hp (by decide) (by decide) (.inl rfl)]; rfl, rfl⟩)
theorem esc_piece {c : Int} {t : Tk} {ne : Nat} (hc : c < 128) (h : ∀ p k1 st, escL res p ne c k1 { kind := 0, st := st } = .ok ({ t with st := st }, k1)) (ht : bareT t = t) : Pc res [92, c] ne [t] ne Any :=
  Pc.one res (by simp) (fun p k post hp hk _ => ⟨{ t with st := k, en := k + 2 }, by rw [next_esc res hp hc, h, thenF_ok]; rfl, by rw [← ht]; rfl⟩)
theorem cluster_piece : Pc res [92, 88] 0 [tk0 10 0 0 0 e0 false] 0 Any := esc_piece res (by decide) (fun p k1 st => by unfold escL; simp [letB, digB]) rfl
theorem textb_piece : Pc res [92, 65] 0 [tk0 7 3 0 0 e0 false] 0 Any := esc_piece res (by decide) (fun p k1 st => by unfold escL; simp [letB, digB]) rfl
theorem texte_piece : Pc res [92, 122] 0 [tk0 7 4 0 0 e0 false] 0 Any := esc_piece res (by decide) (fun p k1 st => by unfold escL; simp [letB, digB]) rfl
theorem short_piece {ne : Nat} (c : Int) (hc : c = 100 ∨ c = 119 ∨ c = 115) : Pc res [92, c] ne [tk0 8 0 0 0 (chB c) false] ne Any := by
  rcases hc with rfl | rfl | rfl
  · exact esc_piece res (by decide) (fun p k1 st => by unfold escL; simp [letB, digB]) rfl
  · exact esc_piece res (by decide) (fun p k1 st => by unfold escL; simp [letB, digB]) rfl
  · exact esc_piece res (by decide) (fun p k1 st => by unfold escL; simp [letB, digB]) rfl
theorem great_piece {ne : Nat} (c : Int) (hc : c = 100 ∨ c = 119 ∨ c = 115) : Pc res [92, c - 32] ne [tk0 8 0 0 0 (chB c) true] ne Any := by
  rcases hc with rfl | rfl | rfl
  · exact esc_piece res (by decide) (fun p k1 st => by unfold escL; simp [letB, digB]) rfl
  · exact esc_piece res (by decide) (fun p k1 st => by unfold escL; simp [letB, digB]) rfl
  · exact esc_piece res (by decide) (fun p k1 st => by unfold escL; simp [letB, digB]) rfl
theorem has_not {p l : List Int} {k : Nat} {c : Int} (h : p.drop k = l) (hl : ∀ x r, l = x :: r → x ≠ c) : hasL p k [c] = false := by
  unfold hasL
  rw [h]
  cases l with
  | nil => rfl
  | cons x r =>
    have : (c == x) = false := by rw [beq_eq_false_iff_ne]; exact fun e => hl x r rfl e.symm
    show ((c == x) && List.isPrefixOf [] r) = false
    rw [this]; rfl
theorem edge_piece (not_ : Bool) : Pc res [92, if not_ then 66 else 98] 0 [tk0 7 (if not_ then 6 else 5) 0 0 e0 false] 0 Mild :=
  Pc.one res (by simp) (fun p k post hp hk ho => by
    have a0 := peek_cons hp
    have a1 := peek_cons a0.2.1
    have hn : hasL p (k + 1 + 1) [123] = false := has_not a1.2.1 (fun x r e => (ho x r e).2.2)
    cases not_ with
    | false =>
      refine ⟨{ kind := 7, mode := 5, st := k, en := k + 2 }, ?_, rfl⟩
      rw [next_esc res hp (by decide)]
      unfold escL edgeL
      simp [letB, digB, hn, thenF]
    | true =>
      refine ⟨{ kind := 7, mode := 6, st := k, en := k + 2 }, ?_, rfl⟩
      rw [next_esc res hp (by decide)]
      unfold escL edgeL
      simp [letB, digB, hn, thenF])
theorem edge2_piece (not_ : Bool) (c : Int) (hc : c = 103 ∨ c = 119) : Pc res [92, if not_ then 66 else 98, 123, c, 125] 0 [tk0 7 ((if c = 103 then 7 else 9) + (if not_ then 1 else 0)) 0 0 e0 false] 0 Any :=
  Pc.one res (by simp) (fun p k post hp hk ho => by
    have a0 := peek_cons hp
    have a1 := peek_cons a0.2.1
    have a2 := peek_cons a1.2.1
    have a3 := peek_cons a2.2.1
    have a4 := peek_cons a3.2.1
    have hh : hasL p (k + 1 + 1) [123] = true := by rw [has_cons a1.2.1]; rfl
    have hnd : needL p k (k + 1 + 1 + 2) 125 132 = .ok (k + 1 + 1 + 2 + 1) := need_of a4.1
    rcases hc with rfl | rfl
    · cases not_ with
      | false =>
        refine ⟨{ kind := 7, mode := 7, st := k, en := k + 5 }, ?_, rfl⟩
        rw [next_esc res hp (by decide)]
        unfold escL edgeL
        simp [letB, digB, hh, a3.1, hnd, thenF]
      | true =>
        refine ⟨{ kind := 7, mode := 8, st := k, en := k + 5 }, ?_, rfl⟩
        rw [next_esc res hp (by decide)]
        unfold escL edgeL
        simp [letB, digB, hh, a3.1, hnd, thenF]
    · cases not_ with
      | false =>
        refine ⟨{ kind := 7, mode := 9, st := k, en := k + 5 }, ?_, rfl⟩
        rw [next_esc res hp (by decide)]
        unfold escL edgeL
        simp [letB, digB, hh, a3.1, hnd, thenF]
      | true =>
        refine ⟨{ kind := 7, mode := 10, st := k, en := k + 5 }, ?_, rfl⟩
        rw [next_esc res hp (by decide)]
        unfold escL edgeL
        simp [letB, digB, hh, a3.1, hnd, thenF])
/-- Digits up to what is none. -/
theorem run_all2 (of_ : Int → Bool) (post : List Int) (hc : ∀ c r, post = c :: r → of_ c = false) : ∀ (l : List Int) (m : Nat), (∀ x ∈ l, of_ x = true) → l.length ≤ m → runN of_ m (l ++ post) = l.length
  | [], 0, _, h => by simp [runN]
  | [], m + 1, _, _ => by
    cases post with
    | nil => simp [runN]
    | cons c r => simp only [List.nil_append, runN, List.length_nil]; rw [if_neg (by rw [hc c r rfl]; decide)]
  | x :: l, 0, _, h => by simp at h
  | x :: l, m + 1, hl, h => by
    simp only [List.cons_append, runN, List.length_cons]
    rw [if_pos (hl x List.mem_cons_self), run_all2 of_ post hc l m (fun y hy => hl y (List.mem_cons_of_mem _ hy)) (by simpa using h)]
theorem dec_digs {n : Int} (h0 : 0 ≤ n) (h1 : n ≤ 100) : (∀ c ∈ decL n, digB c = true) ∧ numD (decL n) = n ∧ 1 ≤ (decL n).length ∧ (decL n).length ≤ 3 ∧ (n ≤ 99 → (decL n).length ≤ 2) := by
  have k : ∀ n : Fin 101, (∀ c ∈ decL (n.val : Int), digB c = true) ∧ numD (decL (n.val : Int)) = (n.val : Int) ∧ 1 ≤ (decL (n.val : Int)).length ∧ (decL (n.val : Int)).length ≤ 3 ∧ ((n.val : Int) ≤ 99 → (decL (n.val : Int)).length ≤ 2) := by decide +kernel
  have h := k ⟨n.toNat, by omega⟩
  simp only at h
  rw [Int.toNat_of_nonneg h0] at h
  exact h
theorem number_dec {p post : List Int} {k most : Nat} {n : Int} (h0 : 0 ≤ n) (h1 : n ≤ 100) (hm : (decL n).length ≤ most) (h : p.drop k = decL n ++ post) (hp : ∀ c r, post = c :: r → digB c = false) : numberL p k most = (n, k + (decL n).length) := by
  have hd := dec_digs h0 h1
  unfold numberL
  rw [h, run_all2 digB post hp (decL n) most hd.1 hm, if_neg (by omega)]
  have : (decL n ++ post).take (decL n).length = decL n := by simp
  rw [this, hd.2.1]
theorem number_none {p post : List Int} {k most : Nat} (h : p.drop k = post) (hp : ∀ c r, post = c :: r → digB c = false) : numberL p k most = (-1, k) := by
  have : runN digB most post = 0 := run_all2 digB post hp [] most (by simp) (by simp)
  unfold numberL
  rw [h, this, if_pos rfl]; rfl
theorem mode_piece (p post : List Int) (k : Nat) (t : Tk) (m : Int) (ht : t.mode = 0) (h0 : 0 ≤ m) (h2 : m ≤ 2) (h : p.drop k = ofT m [[], [63], [43]] ++ post) (ho : Mild post) : modeL p k t = ({ t with mode := m }, k + (ofT m [[], [63], [43]]).length) := by
  rcases (show m = 0 ∨ m = 1 ∨ m = 2 by omega) with rfl | rfl | rfl
  · have h' : p.drop k = post := h
    unfold modeL
    rw [if_neg (by rw [has_not h' (fun x r e => (ho x r e).1)]; decide), if_neg (by rw [has_not h' (fun x r e => (ho x r e).2.1)]; decide)]
    cases t; simp only at ht; subst ht; rfl
  · have h' : p.drop k = 63 :: post := h
    unfold modeL
    rw [if_pos (by rw [has_cons h']; rfl)]; rfl
  · have h' : p.drop k = 43 :: post := h
    unfold modeL
    rw [if_neg (by rw [has_cons h']; simp), if_pos (by rw [has_cons h']; rfl)]; rfl
theorem count_go {p post : List Int} {k : Nat} {a b : Int} (t : Tk) (h0 : 0 ≤ a) (h1 : a ≤ 100) (h2 : b = -1 ∨ (a ≤ b ∧ b ≤ 100)) (h : p.drop k = countW a b ++ post) (ht : t.a = 0 ∧ t.b = 0) :
    ∃ c l, countW a b ++ post = c :: l ∧ (c = 42 ∨ c = 43 ∨ c = 63 ∨ c = 123) ∧ countL p (k + 1) t c = .ok ({ t with kind := 6, a := a, b := b }, k + (countW a b).length) := by
  unfold countW at h ⊢
  by_cases c1 : a = 0 ∧ b = -1
  · rw [if_pos c1]
    refine ⟨42, post, rfl, .inl rfl, ?_⟩
    unfold countL
    rw [if_neg (by decide), if_neg (by decide), if_neg (by decide), c1.1, c1.2, ← ht.1]; rfl
  rw [if_neg c1] at h ⊢
  by_cases c2 : a = 1 ∧ b = -1
  · rw [if_pos c2]
    refine ⟨43, post, rfl, .inr (.inl rfl), ?_⟩
    unfold countL
    rw [if_pos rfl, c2.1, c2.2]; rfl
  rw [if_neg c2] at h ⊢
  by_cases c3 : a = 0 ∧ b = 1
  · rw [if_pos c3]
    refine ⟨63, post, rfl, .inr (.inr (.inl rfl)), ?_⟩
    unfold countL
    rw [if_neg (by decide), if_pos rfl, c3.1, c3.2, ← ht.1]; rfl
  rw [if_neg c3] at h ⊢
  have hda := dec_digs h0 h1
  refine ⟨123, decL a ++ (if b = a then [] else 44 :: (if 0 ≤ b then decL b else [])) ++ [125] ++ post, rfl, .inr (.inr (.inr rfl)), ?_⟩
  have a0 := peek_cons (show p.drop k = 123 :: (decL a ++ ((if b = a then [] else 44 :: (if 0 ≤ b then decL b else [])) ++ 125 :: post)) by rw [h]; simp)
  have hx : ∀ (b' : Int), b' = b → ∀ q, p.drop q = 125 :: post → (b' = -1 ∨ (a ≤ b' ∧ b' ≤ 100)) → countE p t a b' q = .ok ({ t with kind := 6, a := a, b := b }, q + 1) := fun b' hb q hq hr => by
    subst hb
    have a1 := peek_cons hq
    unfold countE
    rw [a1.1, thenF_ok, if_neg (by omega), need_of a1.1, thenF_ok]
  have hlen : ∀ l : List Int, (123 :: decL a ++ l ++ [125]).length = 1 + (decL a).length + l.length + 1 := fun l => by simp; omega
  unfold countL
  rw [if_neg (by decide), if_neg (by decide), if_pos rfl]
  unfold countsL
  by_cases c4 : b = a
  · rw [if_pos c4] at a0 ⊢
    rw [number_dec h0 h1 hda.2.2.2.1 a0.2.1 (fun c r e => by cases e; decide)]
    have hd2 : p.drop (k + 1 + (decL a).length) = 125 :: post := by rw [← List.drop_drop, a0.2.1]; simp
    have hn : hasL p (k + 1 + (decL a).length) [44] = false := has_not hd2 (fun x r e => by cases e; decide)
    have hs : countS p a (k + 1 + (decL a).length) = (a, k + 1 + (decL a).length) := by unfold countS; rw [if_neg (by rw [hn]; intro hh; exact absurd hh.2 (by decide))]
    simp only [hs]
    rw [hx a c4.symm _ hd2 (by omega), hlen]
    congr 2; simp; omega
  · rw [if_neg c4] at a0 ⊢
    rw [number_dec h0 h1 hda.2.2.2.1 a0.2.1 (fun c r e => by cases e; decide)]
    have hd2 : p.drop (k + 1 + (decL a).length) = 44 :: ((if 0 ≤ b then decL b else []) ++ 125 :: post) := by rw [← List.drop_drop, a0.2.1]; simp
    have a1 := peek_cons hd2
    have hn : hasL p (k + 1 + (decL a).length) [44] = true := by rw [has_cons hd2]; rfl
    have hs : countS p a (k + 1 + (decL a).length) = numberL p (k + 1 + (decL a).length + 1) 3 := by unfold countS; rw [if_pos ⟨h0, hn⟩]
    simp only [hs]
    by_cases c5 : 0 ≤ b
    · rw [if_pos c5] at a1 ⊢
      have hdb := dec_digs c5 (by omega)
      rw [number_dec c5 (by omega) hdb.2.2.2.1 a1.2.1 (fun c r e => by cases e; decide)]
      have hd3 : p.drop (k + 1 + (decL a).length + 1 + (decL b).length) = 125 :: post := by rw [← List.drop_drop, a1.2.1]; simp
      simp only
      rw [hx b rfl _ hd3 (by omega), hlen]
      congr 2; simp; omega
    · rw [if_neg c5] at a1 ⊢
      have a2 : p.drop (k + 1 + (decL a).length + 1) = 125 :: post := a1.2.1
      rw [number_none a2 (fun c r e => by cases e; decide)]
      simp only
      rw [hx (-1) (by omega) _ a2 (by omega), hlen]
      congr 2; simp; omega
theorem repeat_piece {m a b : Int} (hm0 : 0 ≤ m) (hm2 : m ≤ 2) (h0 : 0 ≤ a) (h1 : a ≤ 100) (h2 : b = -1 ∨ (a ≤ b ∧ b ≤ 100)) : Pc res (countW a b ++ ofT m [[], [63], [43]]) 0 [tk0 6 m a b e0 false] 0 Mild := by
  refine Pc.one res (by unfold countW; split; simp; split; simp; split <;> simp) (fun p k post hp hk ho => ?_)
  rw [List.append_assoc] at hp
  obtain ⟨c, l, e, hc, hcl⟩ := count_go (t := { kind := 0, st := k }) h0 h1 h2 hp ⟨rfl, rfl⟩
  refine ⟨{ kind := 6, mode := m, a := a, b := b, st := k, en := k + (countW a b ++ ofT m [[], [63], [43]]).length }, ?_, rfl⟩
  have hd := drop_app hp hk
  rw [e] at hp
  rw [next_oth res hp (by omega) (by omega) (.inl rfl)]
  unfold othL
  rw [if_neg (by omega), if_neg (by decide), if_neg (by omega), if_neg (by omega), if_neg (by omega), if_neg (by omega), if_neg (by omega), if_neg (by omega), if_pos hc]
  unfold repeatL
  rw [hcl, thenF_ok, mode_piece p post _ _ m rfl hm0 hm2 hd.1 ho, thenF_ok, List.length_append, ← Nat.add_assoc]
theorem back_piece {a : Int} (h0 : 1 ≤ a) (h1 : a ≤ 20) : Pc res ([92, 107, 123] ++ decL a ++ [125]) 0 [tk0 9 0 a 0 e0 false] 0 Any := by
  refine Pc.one res (by simp) (fun p k post hp hk ho => ?_)
  simp only [List.cons_append, List.nil_append, List.append_assoc] at hp
  have hda := dec_digs (n := a) (by omega) (by omega)
  refine ⟨{ kind := 9, a := a, st := k, en := k + ([92, 107, 123] ++ decL a ++ [125]).length }, ?_, rfl⟩
  have a0 := peek_cons hp
  have a1 := peek_cons a0.2.1
  have a2 := peek_cons a1.2.1
  have hd2 : p.drop (k + 1 + 1 + 1 + (decL a).length) = 125 :: post := by rw [← List.drop_drop, a2.2.1]; simp
  have a3 := peek_cons hd2
  have hb : backL p (k + 1 + 1) { kind := 1, st := k } = .ok ({ kind := 9, a := a, st := k }, k + 1 + 1 + 1 + (decL a).length + 1) := by
    unfold backL
    rw [a2.1, thenF_ok, if_neg (by decide), need_of a2.1, thenF_ok, number_dec (by omega) (by omega) (hda.2.2.2.2 (by omega)) a2.2.1 (fun c r e => by cases e; decide)]
    unfold backE
    simp only
    rw [a3.1, thenF_ok, if_neg (by omega), need_of a3.1, thenF_ok]
  rw [next_esc res hp (by decide)]
  unfold escL
  rw [if_neg (by decide), if_neg (by decide), if_neg (by decide), if_neg (by decide), if_neg (by decide), if_neg (by decide), if_neg (by decide), if_neg (by decide), if_neg (by decide), if_neg (by decide), if_neg (by decide), if_neg (by decide), if_pos rfl]
  rw [hb, thenF_ok]
  have : k + 1 + 1 + 1 + (decL a).length + 1 = k + ([92, 107, 123] ++ decL a ++ [125]).length := by simp; omega
  rw [this]
/-- A text of plain bytes, none of which closes it. -/
def PlainL (l : List Int) : Prop := ∀ c ∈ l, 0 ≤ c ∧ c < 128 ∧ c ≠ 125
theorem upto_plain {p post : List Int} : ∀ (l : List Int) (f k : Nat), PlainL l → p.drop k = l ++ 125 :: post → l.length < f → uptoL p f k = .ok (k + l.length)
  | _, 0, k, _, _, hf => by omega
  | [], f + 1, k, _, h, _ => by
    have a0 := peek_cons h
    rw [uptoL_succ, a0.1, thenF_ok, if_pos rfl]; rfl
  | c :: l, f + 1, k, hl, h, hf => by
    have hc := hl c List.mem_cons_self
    have a0 := peek_cons (show p.drop k = c :: (l ++ 125 :: post) from h)
    rw [uptoL_succ, a0.1, thenF_ok, if_neg hc.2.2, char_ascii h hc.2.1, thenF_ok]
    simp only
    rw [upto_plain l f (k + 1) (fun x hx => hl x (List.mem_cons_of_mem _ hx)) a0.2.1 (by simpa using hf)]
    congr 1; simp; omega
theorem strb (s : ByteArray) : strOfNums (bytesOf s) = s := str_bytes s
theorem prop_piece {nm : ByteArray} {neg : Bool} {ne : Nat} (hp : PlainL (bytesOf nm)) (h0 : canonL res nm = (nm, 0)) : Pc res ([92, if neg then 80 else 112, 123] ++ bytesOf nm ++ [125]) ne [tk0 8 0 0 0 nm neg] ne Any := by
  refine Pc.one res (by simp) (fun p k post hq hk ho => ?_)
  obtain ⟨L, hL⟩ : ∃ L, bytesOf nm = L := ⟨_, rfl⟩
  have hs : strOfNums L = nm := by rw [← hL]; exact strb nm
  rw [hL] at hq hp ⊢
  simp only [List.cons_append, List.nil_append, List.append_assoc] at hq
  refine ⟨{ kind := 8, name := nm, neg := neg, st := k, en := k + ([92, if neg then 80 else 112, 123] ++ L ++ [125]).length }, ?_, rfl⟩
  have a0 := peek_cons hq
  have a1 := peek_cons a0.2.1
  have a2 := peek_cons a1.2.1
  have hlen : k + 3 + L.length < p.length := by
    have := congrArg List.length a2.2.1
    rw [List.length_drop] at this
    simp at this
    omega
  have hu := upto_plain L p.length (k + 1 + 1 + 1) hp a2.2.1 (by omega)
  have hpr : ∀ t : Tk, t.st = k → propL res p (k + 1 + 1) t = .ok ({ t with kind := 8, name := nm }, k + 1 + 1 + 1 + L.length + 1) := fun t ht => by
    unfold propL
    rw [need_of a2.1, thenF_ok, hu, thenF_ok, a2.2.1]
    have e1 : k + 1 + 1 + 1 + L.length - (k + 1 + 1 + 1) = L.length := by omega
    have e2 : (L ++ 125 :: post).take L.length = L := by simp
    rw [e1, e2, hs]
    unfold propE
    rw [h0, if_neg (by simp)]
  have hf : k + 1 + 1 + 1 + L.length + 1 = k + ([92, if neg then 80 else 112, 123] ++ L ++ [125]).length := by simp; omega
  rw [next_esc res hq (by cases neg <;> decide)]
  unfold escL
  cases neg with
  | false =>
    simp only [Bool.false_eq_true, if_false] at hf ⊢
    rw [if_neg (by decide), if_neg (by decide), if_pos (by decide), hpr _ rfl, thenF_ok, hf]
    rfl
  | true =>
    simp only [if_true] at hf ⊢
    rw [if_neg (by decide), if_neg (by decide), if_pos (by decide), hpr _ rfl, thenF_ok, hf]
    rfl
theorem open_go {p l : List Int} {k : Nat} (h : p.drop k = 40 :: l) : nextL res p 0 k = thenF (openL p (k + 1) { kind := 0, st := k }) fun a => .ok ({ a.1 with en := a.2 }, a.2, 0) := by
  rw [next_oth res h (by decide) (by decide) (.inl rfl)]
  unfold othL
  rw [if_neg (by decide), if_neg (by decide), if_neg (by decide), if_neg (by decide), if_pos rfl]
theorem plain_open : Pc res [40] 0 [tk0 3 0 0 0 e0 false] 0 Mild := Pc.one res (by simp) (fun p k post hp hk ho => by
  have a0 := peek_cons hp
  refine ⟨{ kind := 3, st := k, en := k + 1 }, ?_, rfl⟩
  rw [open_go res hp]
  unfold openL
  rw [if_pos (has_not a0.2.1 (fun x r e => (ho x r e).1)), thenF_ok]; rfl)
theorem mark_open (c m : Int) (hc : (c = 58 ∧ m = 1) ∨ (c = 61 ∧ m = 3) ∨ (c = 33 ∧ m = 4) ∨ (c = 62 ∧ m = 7)) : Pc res [40, 63, c] 0 [tk0 3 m 0 0 e0 false] 0 Any := Pc.one res (by simp) (fun p k post hp hk ho => by
  have a0 := peek_cons hp
  have a1 := peek_cons a0.2.1
  have a2 := peek_cons a1.2.1
  refine ⟨{ kind := 3, mode := m, st := k, en := k + 3 }, ?_, rfl⟩
  rw [open_go res hp]
  unfold openL
  rw [if_neg (by rw [has_cons a0.2.1]; simp), a2.1, thenF_ok]
  rcases hc with ⟨rfl, rfl⟩ | ⟨rfl, rfl⟩ | ⟨rfl, rfl⟩ | ⟨rfl, rfl⟩ <;> rfl)
theorem mark2_open (c m : Int) (hc : (c = 61 ∧ m = 5) ∨ (c = 33 ∧ m = 6)) : Pc res [40, 63, 60, c] 0 [tk0 3 m 0 0 e0 false] 0 Any := Pc.one res (by simp) (fun p k post hp hk ho => by
  have a0 := peek_cons hp
  have a1 := peek_cons a0.2.1
  have a2 := peek_cons a1.2.1
  have a3 := peek_cons a2.2.1
  refine ⟨{ kind := 3, mode := m, st := k, en := k + 4 }, ?_, rfl⟩
  rw [open_go res hp]
  unfold openL
  rw [if_neg (by rw [has_cons a0.2.1]; simp), a2.1, thenF_ok, if_neg (by decide), if_neg (by decide), if_neg (by decide), if_neg (by decide), if_pos rfl]
  unfold openN
  rw [a3.1, thenF_ok]
  rcases hc with ⟨rfl, rfl⟩ | ⟨rfl, rfl⟩ <;> rfl)
theorem word_nam {c : Int} (h : wordB c = true ∨ digB c = true) : namB c = true := by
  unfold namB
  unfold wordB at h
  rcases h with h | h
  · rw [Bool.or_eq_true] at h
    rcases h with h | h <;> rw [h] <;> simp
  · rw [h]; simp
theorem word_rng {c : Int} (h : wordB c = true) : digB c = false ∧ c ≠ 61 ∧ c ≠ 33 := by
  unfold wordB letB at h
  simp only [Bool.or_eq_true, Bool.and_eq_true, decide_eq_true_eq, beq_iff_eq] at h
  refine ⟨?_, by omega, by omega⟩
  unfold digB
  rw [Bool.and_eq_false_iff, decide_eq_false_iff_not, decide_eq_false_iff_not]
  omega
theorem name_open {nm : ByteArray} (h : nameB (bytesOf nm) = true) : Pc res ([40, 63, 60] ++ bytesOf nm ++ [62]) 0 [tk0 3 2 0 0 nm false] 0 Any := by
  refine Pc.one res (by simp) (fun p k post hp hk ho => ?_)
  obtain ⟨L, hL⟩ : ∃ L, bytesOf nm = L := ⟨_, rfl⟩
  have hs : strOfNums L = nm := by rw [← hL]; exact strb nm
  rw [hL] at hp h ⊢
  simp only [List.cons_append, List.nil_append, List.append_assoc] at hp
  refine ⟨{ kind := 3, mode := 2, name := nm, st := k, en := k + ([40, 63, 60] ++ L ++ [62]).length }, ?_, rfl⟩
  have a0 := peek_cons hp
  have a1 := peek_cons a0.2.1
  have a2 := peek_cons a1.2.1
  match L, h with
  | c :: l, h =>
    unfold nameB at h
    simp only [Bool.and_eq_true, decide_eq_true_eq, List.all_eq_true, Bool.or_eq_true] at h
    obtain ⟨⟨hc, hl⟩, hlen⟩ := h
    have hw := word_rng hc
    have a3 := peek_cons (show p.drop (k + 1 + 1 + 1) = c :: (l ++ 62 :: post) from a2.2.1)
    have hd3 : p.drop (k + 1 + 1 + 1) = (c :: l) ++ 62 :: post := a2.2.1
    have hrun : runN namB 20 (p.drop (k + 1 + 1 + 1)) = (c :: l).length := by
      rw [hd3]
      refine run_all2 namB _ (fun x r e => by cases e; decide) (c :: l) 20 (fun x hx => ?_) (by simp; omega)
      rcases List.mem_cons.1 hx with e | e
      · rw [e]; exact word_nam (.inl hc)
      · exact word_nam (hl x e)
    have hd4 : p.drop (k + 1 + 1 + 1 + (c :: l).length) = 62 :: post := by rw [← List.drop_drop, hd3]; simp
    have a4 := peek_cons hd4
    have htk : (p.drop (k + 1 + 1 + 1)).take (c :: l).length = c :: l := by rw [hd3]; simp
    have hnm : nameL p k (k + 1 + 1 + 1) 133 = .ok (c :: l, k + 1 + 1 + 1 + (c :: l).length + 1) := by
      unfold nameL
      rw [a3.1, thenF_ok, if_neg (by rw [hw.1]; decide), hrun, a4.1, thenF_ok, if_neg (by simp), need_of a4.1, thenF_ok, htk]
    rw [open_go res hp]
    unfold openL
    rw [if_neg (by rw [has_cons a0.2.1]; simp), a2.1, thenF_ok, if_neg (by decide), if_neg (by decide), if_neg (by decide), if_neg (by decide), if_pos rfl]
    unfold openN
    rw [a3.1, thenF_ok, if_neg hw.2.1, if_neg hw.2.2]
    have hnm' : nameL p ({ kind := 0, st := k } : Tk).st (k + 1 + 2) 133 = .ok (c :: l, k + 1 + 1 + 1 + (c :: l).length + 1) := hnm
    rw [hnm', thenF_ok, thenF_ok, hs]
    have : k + 1 + 1 + 1 + (c :: l).length + 1 = k + ([40, 63, 60] ++ (c :: l) ++ [62]).length := by simp; omega
    simp only [this]
end

end Go.Proofs.YtkipjalfgdfaiaaGreatDoor
namespace Go.Proofs.YtkipjalfgdfaiaaGreatDoor
set_option linter.unusedVariables false
set_option linter.unusedSimpArgs false
open Go.RowKit Go.Proofs.YtkipjalfgdfaiaaGreatDoorW.PrintWords Go.Proofs.YtkipjalfgdfaiaaGreatDoor.PTk

section
variable (res : ByteArray → Int × ByteArray × Int)
/-- What names a property canonically is of plain bytes. -/
def PlainOk : Prop := ∀ x : ByteArray, (canonL res x).2 = 0 → (canonL res x).1 = x → PlainL (bytesOf x)
theorem printL_head {r : Int} {cls : Bool} (hr : runeB r = true) : ∃ c l, printL r cls = c :: l ∧ ∀ x ∈ marksL cls, x ≠ 92 → c ≠ x := by
  unfold printL
  rw [if_neg (by rw [hr]; decide)]
  split
  · exact ⟨92, _, rfl, fun x _ h => Ne.symm h⟩
  · split
    · exact ⟨92, _, rfl, fun x _ h => Ne.symm h⟩
    · rename_i hm
      have hn := mark_none (by simpa using hm)
      obtain ⟨c, l, hcl⟩ : ∃ c l, encL r = c :: l := by
        cases he : encL r with
        | nil => have := encL_pos r; rw [he] at this; simp at this
        | cons c l => exact ⟨c, l, rfl⟩
      refine ⟨c, l, hcl, fun x hx _ => ?_⟩
      by_cases ha : r < 128
      · rw [encL_ascii ha] at hcl
        have : r = c := (List.cons.inj hcl).1
        rw [← this]
        exact hn x hx
      · have hh := encL_high hr (by omega) c (by rw [hcl]; exact List.mem_cons_self)
        have := mark_plain (cls := cls) (r := x) (by rw [List.contains_iff_mem]; exact hx)
        omega
theorem begin_class {ne : Nat} (neg : Bool) : Pc res ([91] ++ (if neg = true then [94] else [])) ne [tk0 11 0 0 0 e0 neg] (ne + 1) (fun post => neg = true ∨ ∀ c l, post = c :: l → c ≠ 94) := by
  refine Pc.one res (by simp) (fun p k post hp hk ho => ?_)
  cases neg with
  | true =>
    have hp' : p.drop k = 91 :: 94 :: post := hp
    have a0 := peek_cons hp'
    refine ⟨{ kind := 11, neg := true, st := k, en := k + 2 }, ?_, rfl⟩
    unfold nextL withinL eatL
    rw [if_pos (by rw [has_cons hp']; rfl)]
    have e : hasL p (k + 1) [94] = true := by rw [has_cons a0.2.1]; rfl
    simp only [e]
    rfl
  | false =>
    have hp' : p.drop k = 91 :: post := hp
    have a0 := peek_cons hp'
    refine ⟨{ kind := 11, neg := false, st := k, en := k + 1 }, ?_, rfl⟩
    unfold nextL withinL eatL
    rw [if_pos (by rw [has_cons hp']; rfl)]
    have e : hasL p (k + 1) [94] = false := has_not a0.2.1 (fun x r e => by rcases ho with ho | ho; cases ho; exact ho x r e)
    simp only [e]
    rfl
theorem within_piece {ne ne' : Nat} {l : List Int} {t : Tk} {ok : List Int → Prop} (hl : l ≠ []) (h : ∀ p k post, p.drop k = l ++ post → ok post → ∀ s, withinL p ne k { kind := 0, st := s } = some ({ t with st := s }, k + l.length, ne')) (ht : bareT t = t) : Pc res l ne [t] ne' ok :=
  Pc.one res hl (fun p k post hp hk ho => ⟨{ t with st := k, en := k + l.length }, by unfold nextL; rw [h p k post hp ho k], by rw [← ht]; rfl⟩)
theorem end_class {ne : Nat} : Pc res [93] (ne + 1) [tk0 12 0 0 0 e0 false] ne Any := within_piece res (by simp) (fun p k post hp _ s => by
  unfold withinL
  rw [if_neg (by rw [has_cons hp]; simp), if_neg (by omega), if_pos (by rw [has_cons hp]; rfl)]; rfl) rfl
theorem set_piece {ne : Nat} (m : Int) (h0 : 1 ≤ m) (h1 : m ≤ 3) : Pc res (ofT m [[], [38, 38], [45, 45], [126, 126]]) (ne + 1) [tk0 14 m 0 0 e0 false] (ne + 1) Any := by
  rcases (show m = 1 ∨ m = 2 ∨ m = 3 by omega) with rfl | rfl | rfl
  · exact within_piece res (by decide) (fun p k post hp _ s => by
      have hp' : p.drop k = 38 :: 38 :: post := hp
      unfold withinL
      rw [if_neg (by rw [has_cons hp']; simp), if_neg (by omega), if_neg (by rw [has_cons hp']; simp), if_pos (by rw [has_cons hp']; rfl)]; rfl) rfl
  · exact within_piece res (by decide) (fun p k post hp _ s => by
      have hp' : p.drop k = 45 :: 45 :: post := hp
      unfold withinL
      rw [if_neg (by rw [has_cons hp']; simp), if_neg (by omega), if_neg (by rw [has_cons hp']; simp), if_neg (by rw [has_cons hp']; simp), if_pos (by rw [has_cons hp']; rfl)]; rfl) rfl
  · exact within_piece res (by decide) (fun p k post hp _ s => by
      have hp' : p.drop k = 126 :: 126 :: post := hp
      unfold withinL
      rw [if_neg (by rw [has_cons hp']; simp), if_neg (by omega), if_neg (by rw [has_cons hp']; simp), if_neg (by rw [has_cons hp']; simp), if_neg (by rw [has_cons hp']; simp), if_pos (by rw [has_cons hp']; rfl)]; rfl) rfl
theorem dash_piece {ne : Nat} : Pc res [45] (ne + 1) [tk0 13 0 0 0 e0 false] (ne + 1) (fun post => ∀ c l, post = c :: l → c ≠ 45) := within_piece res (by simp) (fun p k post hp ho s => by
  have hp' : p.drop k = 45 :: post := hp
  have h2 : hasL p k [45, 45] = false := by
    rw [has_cons hp']
    cases post with
    | nil => rfl
    | cons x r =>
      have : ((45 : Int) == x) = false := by rw [beq_eq_false_iff_ne]; exact fun e => ho x r rfl e.symm
      show ((45 : Int) == 45 && ((45 : Int) == x && List.isPrefixOf [] r)) = false
      rw [this]; rfl
  unfold withinL
  rw [if_neg (by rw [has_cons hp']; simp), if_neg (by omega), if_neg (by rw [has_cons hp']; simp), if_neg (by rw [has_cons hp']; simp), if_neg (by rw [h2]; simp), if_neg (by rw [has_cons hp']; simp), if_pos (by rw [has_cons hp']; rfl)]; rfl) rfl
variable {res}
theorem propN_piece (hpl : PlainOk res) (hsh : ShortOk res) {n : Nd} {ne : Nat} (h : propN res n = true) : Pc res (propW n) ne (propT n) ne Any := by
  unfold propN at h
  simp only [Bool.and_eq_true, Bool.or_eq_true, decide_eq_true_eq, beq_iff_eq] at h
  obtain ⟨-, h⟩ := h
  unfold propT
  have short : ∀ c : Int, (c = 100 ∨ c = 119 ∨ c = 115) → n.f5 = chB c → Pc res (propW n) ne [tk0 8 0 0 0 n.f5 n.f4] ne Any := by
    intro c hc he
    have hb : bytesOf n.f5 = [c] := by rw [he]; rcases hc with rfl | rfl | rfl <;> rfl
    have hs : n.f5.size = 1 := by rw [← bytes_len, hb]; rfl
    unfold propW
    cases hn : n.f4 with
    | true =>
      rw [if_pos ⟨hs, rfl⟩, hb, he]
      exact great_piece res c hc
    | false =>
      rw [if_neg (fun hh => by cases hh.2), if_pos hs, hb, he]
      exact short_piece res c hc
  rcases h with ((h | h) | h) | h
  · exact short 100 (.inl rfl) h
  · exact short 119 (.inr (.inl rfl)) h
  · exact short 115 (.inr (.inr rfl)) h
  · by_cases h1 : n.f5.size = 1
    · rcases hsh n.f5 h1 h.1 h.2 with e | e | e
      · exact short 100 (.inl rfl) e
      · exact short 119 (.inr (.inl rfl)) e
      · exact short 115 (.inr (.inr rfl)) e
    · have hc : canonL res n.f5 = (n.f5, 0) := Prod.ext h.2 h.1
      have hp := prop_piece res (neg := n.f4) (ne := ne) (hpl n.f5 h.1 h.2) hc
      unfold propW
      rw [if_neg (fun hh => h1 hh.1), if_neg h1]
      cases hn : n.f4 with
      | true => rw [hn] at hp; exact hp
      | false => rw [hn] at hp; exact hp
/-- The text of a class's side. -/
abbrev SideP (res : ByteArray → Int × ByteArray × Int) (n : Nd) : Prop := (∃ d, classN res n d = true) → (∀ ne, Pc res (sideW n) (ne + 1) (sideT n) (ne + 1) Any) ∧ ∃ c l, sideW n = c :: l ∧ c ≠ 94
theorem class_piece {n : Nd} (hS : SideP res n) (hc : ∃ d, classN res n d = true) (ne : Nat) : Pc res (classW n) ne (classT n) ne Any := by
  obtain ⟨h1, c, l, e, hne⟩ := hS hc
  unfold classW classT
  refine Pc.app res (Pc.app res (begin_class res n.f4) (h1 ne) (fun post _ => .inr (fun c' l' e' => ?_))) (end_class res) (fun _ _ => trivial)
  rw [e] at e'
  rw [← (List.cons.inj e').1]; exact hne
theorem propW_head {n : Nd} (h : propN res n = true) : ∃ l, propW n = 92 :: l := by
  unfold propW
  split
  · exact ⟨_, rfl⟩
  · split
    · exact ⟨_, rfl⟩
    · split <;> exact ⟨_, rfl⟩
theorem mem_piece (hpl : PlainOk res) (hsh : ShortOk res) {n : Nd} (hS : SideP res n) {d : Nat} (hm : memB res n d = true) : (∀ ne, Pc res (memW n) (ne + 1) (memT n) (ne + 1) Any) ∧ ∃ c l, memW n = c :: l ∧ c ≠ 94 ∧ c ≠ 45 := by
  unfold memB at hm
  unfold memW memT
  by_cases k1 : n.f0 = 1
  · rw [if_pos k1, Bool.and_eq_true] at hm
    rw [if_pos k1, if_pos k1]
    obtain ⟨c, l, e, hc⟩ := printL_head (cls := true) hm.2
    exact ⟨fun ne => char_print res hm.2 (.inr ⟨by omega, rfl⟩), c, l, e, hc 94 (by decide) (by decide), hc 45 (by decide) (by decide)⟩
  rw [if_neg k1] at hm
  rw [if_neg k1, if_neg k1]
  by_cases k4 : n.f0 = 4
  · rw [if_pos k4] at hm
    simp only [Bool.and_eq_true] at hm
    rw [if_pos k4, if_pos k4]
    obtain ⟨c, l, e, hc⟩ := printL_head (cls := true) hm.1.1.2
    obtain ⟨c2, l2, e2, hc2⟩ := printL_head (cls := true) hm.1.2
    refine ⟨fun ne => ?_, c, l ++ 45 :: printL n.f3 true, by rw [e]; rfl, hc 94 (by decide) (by decide), hc 45 (by decide) (by decide)⟩
    have g := Pc.app res (char_print res (ne := ne + 1) (cls := true) hm.1.1.2 (.inr ⟨by omega, rfl⟩)) (Pc.app res (dash_piece res (ne := ne)) (char_print res (ne := ne + 1) (cls := true) hm.1.2 (.inr ⟨by omega, rfl⟩)) (fun post _ c' l' e' => by rw [e2] at e'; rw [← (List.cons.inj e').1]; exact hc2 45 (by decide) (by decide))) (fun _ _ => trivial)
    exact g
  rw [if_neg k4] at hm
  rw [if_neg k4, if_neg k4]
  by_cases k5 : n.f0 = 5
  · rw [if_pos k5] at hm
    rw [if_pos k5, if_pos k5]
    obtain ⟨l, e⟩ := propW_head hm
    exact ⟨fun ne => propN_piece hpl hsh hm, 92, l, e, by decide, by decide⟩
  rw [if_neg k5] at hm
  rw [if_neg k5, if_neg k5]
  exact ⟨fun ne => class_piece hS ⟨_, hm⟩ (ne + 1), 91, _, rfl, by decide, by decide⟩
theorem memb_piece (hpl : PlainOk res) (hsh : ShortOk res) {d : Nat} : ∀ ns : List Nd, (∀ m ∈ ns, SideP res m) → membK res ns d = true → (∀ ne, Pc res (membW ns) (ne + 1) (membT ns) (ne + 1) Any) ∧ (ns ≠ [] → ∃ c l, membW ns = c :: l ∧ c ≠ 94)
  | [], _, _ => ⟨fun ne => by rw [membW_nil, membT_nil]; exact Pc.none res, fun h => absurd rfl h⟩
  | n :: ns, hS, h => by
    rw [membK_at, Bool.and_eq_true] at h
    have h1 := mem_piece hpl hsh (hS n List.mem_cons_self) h.1
    have h2 := memb_piece hpl hsh ns (fun m hm => hS m (List.mem_cons_of_mem _ hm)) h.2
    obtain ⟨c, l, e, hc, -⟩ := h1.2
    refine ⟨fun ne => ?_, fun _ => ⟨c, l ++ membW ns, ?_, hc⟩⟩
    · rw [membW_cons, membT_cons]
      exact Pc.app res (h1.1 ne) (h2.1 ne) (fun _ _ => trivial)
    · rw [membW_cons, e]; rfl
theorem side_piece (hpl : PlainOk res) (hsh : ShortOk res) : ∀ n : Nd, SideP res n := by
  refine Nd.all ?_
  intro n ih ⟨d, hc⟩
  rw [classN_eq, Bool.and_eq_true, Bool.and_eq_true, Bool.and_eq_true] at hc
  obtain ⟨-, hc⟩ := hc
  rw [sideT_eq]
  by_cases h0 : n.f1 = 0
  · rw [if_pos h0, Bool.and_eq_true] at hc
    rw [if_pos h0, sideW_union h0]
    have h := memb_piece hpl hsh n.f7 ih hc.2
    exact ⟨h.1, h.2 (by intro e; rw [e] at hc; simp at hc)⟩
  · rw [if_neg h0, Bool.and_eq_true, Bool.and_eq_true, decide_eq_true_eq, decide_eq_true_eq] at hc
    obtain ⟨a, b, hab, -, -, -, ha, hb⟩ := sidesK_ok res hc.2
    have hsw : sideW n = sideW a ++ ofT n.f1 [[], [38, 38], [45, 45], [126, 126]] ++ sideW b := by
      obtain ⟨k, m, aa, bb, ng, nm, st, ks⟩ := n
      simp only at hab h0
      subst hab
      rw [sideW, if_neg h0, sidesW]
    rw [if_neg h0, hab, sidesT, hsw]
    have ga := ih a (by rw [hab]; simp) ⟨d, ha⟩
    have gb := ih b (by rw [hab]; simp) ⟨d, hb⟩
    obtain ⟨c, l, e, hne⟩ := ga.2
    exact ⟨fun ne => Pc.app res (Pc.app res (ga.1 ne) (set_piece res n.f1 hc.1.1 hc.1.2) (fun _ _ => trivial)) (gb.1 ne) (fun _ _ => trivial), c, l ++ ofT n.f1 [[], [38, 38], [45, 45], [126, 126]] ++ sideW b, by rw [e]; rfl, hne⟩
theorem writeK_nil : writeK [] = [] := by rw [writeK]
theorem writeK_cons (n : Nd) (ns : List Nd) : writeK (n :: ns) = writeN n ++ writeK ns := by rw [writeK]
theorem altW_cons (n : Nd) (ns : List Nd) : altW (n :: ns) = writeN n ++ barW ns := by rw [altW]
theorem barW_nil : barW [] = [] := by rw [barW]
theorem barW_cons (n : Nd) (ns : List Nd) : barW (n :: ns) = [124] ++ (writeN n ++ barW ns) := by rw [barW]; rfl
theorem headW_one (m : Nd) : headW [m] = writeN m := by rw [headW]
/-- A text that is read as a node's tokens, and begins mildly. -/
def WP (res : ByteArray → Int × ByteArray × Int) (l : List Int) (t : List Tk) : Prop := Pc res l 0 t 0 Mild ∧ ∀ post, Mild post → Mild (l ++ post)
theorem WP.of {l : List Int} {t : List Tk} {ok : List Int → Prop} {c : Int} {r : List Int} (h : Pc res l 0 t 0 ok) (ho : ∀ post, Mild post → ok post) (hl : l = c :: r) (h1 : c ≠ 63) (h2 : c ≠ 43) (h3 : c ≠ 123) : WP res l t :=
  ⟨h.weak res ho, fun post _ => by rw [hl]; exact mild_cons h1 h2 h3⟩
theorem WP.app {l1 l2 : List Int} {t1 t2 : List Tk} (h1 : WP res l1 t1) (h2 : WP res l2 t2) : WP res (l1 ++ l2) (t1 ++ t2) :=
  ⟨Pc.app res h1.1 h2.1 h2.2, fun post h => by rw [List.append_assoc]; exact h1.2 _ (h2.2 post h)⟩
theorem WP.none : WP res [] [] := ⟨Pc.none res, fun post h => h⟩
/-- A body between brackets. -/
theorem wrap_wp {op l : List Int} {t : Tk} {ts : List Tk} {ok : List Int → Prop} (ho : Pc res op 0 [t] 0 ok) (hok : ∀ post, Mild post → ok post) (hb : WP res l ts) : Pc res (op ++ l ++ [41]) 0 ([t] ++ ts ++ [tk0 4 0 0 0 e0 false]) 0 Any :=
  Pc.app res (Pc.app res ho hb.1 (fun post hp => hok _ (hb.2 post hp))) (close_piece res) (fun post _ => mild_cons (by decide) (by decide) (by decide))
def PW (res : ByteArray → Int × ByteArray × Int) (n : Nd) (l : List Int) (ts : List Tk) : Prop := (∃ c r, l = c :: r ∧ c ≠ 63 ∧ c ≠ 43 ∧ c ≠ 123) ∧ Pc res l 0 ts 0 Mild ∧ (n.f0 ≠ 8 → n.f0 ≠ 12 → Pc res l 0 ts 0 Any)
theorem PW.any {n : Nd} {l : List Int} {ts : List Tk} {c : Int} {r : List Int} (h : Pc res l 0 ts 0 Any) (hl : l = c :: r) (h1 : c ≠ 63) (h2 : c ≠ 43) (h3 : c ≠ 123) : PW res n l ts := ⟨⟨c, r, hl, h1, h2, h3⟩, h.weak res (fun _ _ => trivial), fun _ _ => h⟩
theorem PW.wp {n : Nd} {l : List Int} {ts : List Tk} (h : PW res n l ts) : WP res l ts := ⟨h.2.1, fun post _ => by obtain ⟨⟨c, r, e, h1, h2, h3⟩, -⟩ := h; rw [e]; exact mild_cons h1 h2 h3⟩
theorem assert_wp (n : Nd) {m : Int} (hk : n.f0 = 12) (h0 : 1 ≤ m) (h1 : m ≤ 10) : PW res n (ofT m [[], [94], [36], [92, 65], [92, 122], [92, 98], [92, 66], [92, 98, 123, 103, 125], [92, 66, 123, 103, 125], [92, 98, 123, 119, 125], [92, 66, 123, 119, 125]]) [tk0 7 m 0 0 e0 false] := by
  rcases (show m = 1 ∨ m = 2 ∨ m = 3 ∨ m = 4 ∨ m = 5 ∨ m = 6 ∨ m = 7 ∨ m = 8 ∨ m = 9 ∨ m = 10 by omega) with rfl | rfl | rfl | rfl | rfl | rfl | rfl | rfl | rfl | rfl
  · exact PW.any (begin_piece res) rfl (by decide) (by decide) (by decide)
  · exact PW.any (end_piece res) rfl (by decide) (by decide) (by decide)
  · exact PW.any (textb_piece res) rfl (by decide) (by decide) (by decide)
  · exact PW.any (texte_piece res) rfl (by decide) (by decide) (by decide)
  · exact ⟨⟨_, _, rfl, by decide, by decide, by decide⟩, edge_piece res false, fun _ h => absurd hk h⟩
  · exact ⟨⟨_, _, rfl, by decide, by decide, by decide⟩, edge_piece res true, fun _ h => absurd hk h⟩
  · exact PW.any (edge2_piece res false 103 (.inl rfl)) rfl (by decide) (by decide) (by decide)
  · exact PW.any (edge2_piece res true 103 (.inl rfl)) rfl (by decide) (by decide) (by decide)
  · exact PW.any (edge2_piece res false 119 (.inr rfl)) rfl (by decide) (by decide) (by decide)
  · exact PW.any (edge2_piece res true 119 (.inr rfl)) rfl (by decide) (by decide) (by decide)
abbrev PartP (res : ByteArray → Int × ByteArray × Int) (n : Nd) : Prop := ∀ d c c', partN res n d c = some c' → d ≤ 50 → c.1 ≤ 20 → PW res n (writeN n) (toksN n)
abbrev BodyP (res : ByteArray → Int × ByteArray × Int) (n : Nd) : Prop := ∀ d c c', bodyN res n d c = some c' → d ≤ 50 → c.1 ≤ 20 → WP res (writeN n) (toksN n)
theorem part_bnd {n : Nd} {d : Nat} {c c' : Gs} (h : partN res n d c = some c') (hd : d ≤ 50) (hc : c.1 ≤ 20) : c'.1 ≤ 20 := (((parts_bounds res).1 n).1 d c c' h hd hc).2.1
theorem seq_bnd {n : Nd} {d : Nat} {c c' : Gs} (h : seqN res n d c = some c') (hd : d ≤ 50) (hc : c.1 ≤ 20) : c'.1 ≤ 20 := (((parts_bounds res).1 n).2.1 d c c' h hd hc).2.1
theorem part_wp (hpl : PlainOk res) (hsh : ShortOk res) {n : Nd} (hP : ∀ m ∈ n.f7, PartP res m) (hB : ∀ m ∈ n.f7, BodyP res m) : PartP res n := by
  intro d c c' h hd hc
  rw [partN_eq] at h
  rw [writeN_eq, toksN_eq]
  by_cases k1 : n.f0 = 1
  · rw [if_pos k1] at h
    rw [if_neg (by omega), if_neg (by omega), if_pos k1, if_neg (by omega), if_neg (by omega), if_pos k1]
    split at h
    · rename_i hb
      rw [Bool.and_eq_true] at hb
      obtain ⟨x, l, e, hx⟩ := printL_head (cls := false) hb.2
      exact PW.any (char_print res hb.2 (.inl ⟨rfl, rfl⟩)) e (hx 63 (by decide) (by decide)) (hx 43 (by decide) (by decide)) (hx 123 (by decide) (by decide))
    · cases h
  rw [if_neg k1] at h
  by_cases k2 : n.f0 = 2 ∨ n.f0 = 14
  · rcases k2 with k2 | k2
    · rw [if_neg (by omega), if_neg (by omega), if_neg k1, if_pos k2, if_neg (by omega), if_neg (by omega), if_neg k1, if_pos k2]
      exact PW.any (any_piece res) rfl (by decide) (by decide) (by decide)
    · rw [if_neg (by omega), if_neg (by omega), if_neg k1, if_neg (by omega), if_neg (by omega), if_neg (by omega), if_neg (by omega), if_neg (by omega), if_neg (by omega), if_neg (by omega), if_neg (by omega), if_neg (by omega), if_pos k2,
        if_neg (by omega), if_neg (by omega), if_neg k1, if_neg (by omega), if_neg (by omega), if_neg (by omega), if_neg (by omega), if_neg (by omega), if_neg (by omega), if_neg (by omega), if_neg (by omega), if_neg (by omega), if_pos k2]
      exact PW.any (cluster_piece res) rfl (by decide) (by decide) (by decide)
  rw [if_neg k2] at h
  by_cases k3 : n.f0 = 3
  · rw [if_pos k3] at h
    rw [if_neg (by omega), if_neg (by omega), if_neg k1, if_neg (by omega), if_pos k3, if_neg (by omega), if_neg (by omega), if_neg k1, if_neg (by omega), if_pos k3]
    split at h
    · rename_i hb
      exact PW.any (class_piece (side_piece hpl hsh n) ⟨_, hb⟩ 0) (c := 91) (r := (if n.f4 = true then [94] else []) ++ sideW n ++ [93]) rfl (by decide) (by decide) (by decide)
    · cases h
  rw [if_neg k3] at h
  by_cases k5 : n.f0 = 5
  · rw [if_pos k5] at h
    rw [if_neg (by omega), if_neg (by omega), if_neg k1, if_neg (by omega), if_neg k3, if_pos k5, if_neg (by omega), if_neg (by omega), if_neg k1, if_neg (by omega), if_neg k3, if_pos k5]
    split at h
    · rename_i hb
      obtain ⟨l, e⟩ := propW_head hb
      exact PW.any (propN_piece hpl hsh hb) e (by decide) (by decide) (by decide)
    · cases h
  rw [if_neg k5] at h
  by_cases k12 : n.f0 = 12
  · rw [if_pos k12] at h
    rw [if_neg (by omega), if_neg (by omega), if_neg k1, if_neg (by omega), if_neg k3, if_neg k5, if_neg (by omega), if_neg (by omega), if_neg (by omega), if_neg (by omega), if_pos k12,
      if_neg (by omega), if_neg (by omega), if_neg k1, if_neg (by omega), if_neg k3, if_neg k5, if_neg (by omega), if_neg (by omega), if_neg (by omega), if_neg (by omega), if_pos k12]
    split at h
    · rename_i hb
      rw [Bool.and_eq_true, Bool.and_eq_true, decide_eq_true_eq, decide_eq_true_eq] at hb
      exact assert_wp n k12 hb.1.2 hb.2
    · cases h
  rw [if_neg k12] at h
  by_cases k13 : n.f0 = 13
  · rw [if_pos k13] at h
    rw [if_neg (by omega), if_neg (by omega), if_neg k1, if_neg (by omega), if_neg k3, if_neg k5, if_neg (by omega), if_neg (by omega), if_neg (by omega), if_neg (by omega), if_neg k12, if_pos k13,
      if_neg (by omega), if_neg (by omega), if_neg k1, if_neg (by omega), if_neg k3, if_neg k5, if_neg (by omega), if_neg (by omega), if_neg (by omega), if_neg (by omega), if_neg k12, if_pos k13]
    split at h
    · rename_i hb
      rw [Bool.and_eq_true, Bool.and_eq_true, decide_eq_true_eq, decide_eq_true_eq] at hb
      exact PW.any (back_piece res (by omega) (by omega)) (c := 92) (r := [107, 123] ++ decL n.f2 ++ [125]) rfl (by decide) (by decide) (by decide)
    · cases h
  rw [if_neg k13] at h
  by_cases k8 : n.f0 = 8
  · rw [if_pos k8] at h
    rw [if_neg (by omega), if_neg (by omega), if_neg k1, if_neg (by omega), if_neg k3, if_neg k5, if_pos k8, if_neg (by omega), if_neg (by omega), if_neg k1, if_neg (by omega), if_neg k3, if_neg k5, if_pos k8]
    split at h
    · rename_i hb
      simp only [Bool.and_eq_true, Bool.or_eq_true, decide_eq_true_eq, beq_iff_eq] at hb
      obtain ⟨m, hm, m8, m10, m12, hp⟩ := repK_ok res h
      have hm1 := hP m (by rw [hm]; simp) d c c' hp hd hc
      rw [hm, headW_one, headT_one, List.append_assoc]
      obtain ⟨x, l, e, hx⟩ := hm1.1
      exact ⟨⟨x, _, by rw [e]; rfl, hx⟩, Pc.app res (hm1.2.2 m8 m12) (repeat_piece res hb.1.1.1.1.2 hb.1.1.1.2 hb.1.1.2 hb.1.2 hb.2) (fun _ _ => trivial), fun h8 => absurd k8 h8⟩
    · cases h
  rw [if_neg k8] at h
  by_cases k9 : n.f0 = 9
  · rw [if_pos k9] at h
    have hw := writeN_eq n
    have ht := toksN_eq n
    rw [← hw, ← ht]
    rw [if_neg (by omega), if_neg (by omega), if_neg k1, if_neg (by omega), if_neg k3, if_neg k5, if_neg k8, if_pos k9] at hw ht
    rw [hw, ht]
    clear hw ht
    split at h
    · cases hgs : groupS n.f2 n.f5 c with
      | none => rw [hgs] at h; cases h
      | some c1 =>
        rw [hgs] at h
        obtain ⟨m, hm, hdl, hp⟩ := withK_ok res h
        have hc1 := (groupS_ok hgs hc).2
        have hb := hB m (by rw [hm]; simp) (d + 1) c1 c' hp (by omega) hc1
        rw [hm, headW_one, headT_one]
        unfold groupS at hgs
        by_cases ha : n.f2 = 0
        · rw [if_pos ha, if_pos ha]
          exact PW.any (wrap_wp (mark_open res 58 1 (.inl ⟨rfl, rfl⟩)) (fun _ _ => trivial) hb) rfl (by decide) (by decide) (by decide)
        · rw [if_neg ha] at hgs
          rw [if_neg ha, if_neg ha]
          split at hgs
          · by_cases hnm : n.f5 = e0
            · rw [if_pos hnm, if_pos hnm]
              exact PW.any (wrap_wp (plain_open res) (fun _ h => h) hb) rfl (by decide) (by decide) (by decide)
            · rw [if_neg hnm] at hgs
              rw [if_neg hnm, if_neg hnm]
              split at hgs
              · rename_i hcn
                exact PW.any (wrap_wp (name_open res hcn.1) (fun _ _ => trivial) hb) (c := 40) (r := [63, 60] ++ bytesOf n.f5 ++ [62] ++ writeN m ++ [41]) rfl (by decide) (by decide) (by decide)
              · cases hgs
          · cases hgs
    · cases h
  rw [if_neg k9] at h
  by_cases k10 : n.f0 = 10
  · rw [if_pos k10] at h
    rw [if_neg (by omega), if_neg (by omega), if_neg k1, if_neg (by omega), if_neg k3, if_neg k5, if_neg k8, if_neg k9, if_pos k10, if_neg (by omega), if_neg (by omega), if_neg k1, if_neg (by omega), if_neg k3, if_neg k5, if_neg k8, if_neg k9, if_pos k10]
    split at h
    · rename_i hb
      rw [Bool.and_eq_true, Bool.and_eq_true, decide_eq_true_eq, decide_eq_true_eq] at hb
      obtain ⟨m, hm, hdl, hp⟩ := withK_ok res h
      have hbd := hB m (by rw [hm]; simp) (d + 1) c c' hp (by omega) hc
      rw [hm, headW_one, headT_one]
      obtain ⟨x, hx⟩ : ∃ x, n.f1 = x := ⟨_, rfl⟩
      rw [hx] at hb ⊢
      rcases (show x = 0 ∨ x = 1 ∨ x = 2 ∨ x = 3 by omega) with rfl | rfl | rfl | rfl
      · exact PW.any (wrap_wp (mark_open res 61 3 (.inr (.inl ⟨rfl, rfl⟩))) (fun _ _ => trivial) hbd) rfl (by decide) (by decide) (by decide)
      · exact PW.any (wrap_wp (mark_open res 33 4 (.inr (.inr (.inl ⟨rfl, rfl⟩)))) (fun _ _ => trivial) hbd) rfl (by decide) (by decide) (by decide)
      · exact PW.any (wrap_wp (mark2_open res 61 5 (.inl ⟨rfl, rfl⟩)) (fun _ _ => trivial) hbd) rfl (by decide) (by decide) (by decide)
      · exact PW.any (wrap_wp (mark2_open res 33 6 (.inr ⟨rfl, rfl⟩)) (fun _ _ => trivial) hbd) rfl (by decide) (by decide) (by decide)
    · cases h
  rw [if_neg k10] at h
  by_cases k11 : n.f0 = 11
  · rw [if_pos k11] at h
    rw [if_neg (by omega), if_neg (by omega), if_neg k1, if_neg (by omega), if_neg k3, if_neg k5, if_neg k8, if_neg k9, if_neg k10, if_pos k11, if_neg (by omega), if_neg (by omega), if_neg k1, if_neg (by omega), if_neg k3, if_neg k5, if_neg k8, if_neg k9, if_neg k10, if_pos k11]
    split at h
    · obtain ⟨m, hm, hdl, hp⟩ := withK_ok res h
      have hbd := hB m (by rw [hm]; simp) (d + 1) c c' hp (by omega) hc
      rw [hm, headW_one, headT_one]
      exact PW.any (wrap_wp (mark_open res 62 7 (.inr (.inr (.inr ⟨rfl, rfl⟩)))) (fun _ _ => trivial) hbd) rfl (by decide) (by decide) (by decide)
    · cases h
  rw [if_neg k11] at h
  cases h
theorem parts_wp : ∀ (ns : List Nd) (d : Nat) (c c' : Gs), (∀ m ∈ ns, PartP res m) → partK res ns d c = some c' → d ≤ 50 → c.1 ≤ 20 → WP res (writeK ns) (toksK ns)
  | [], d, c, c', _, _, _, _ => by rw [writeK_nil, toksK_nil]; exact WP.none
  | m :: ms, d, c, c', hP, h, hd, hc => by
    rw [partK_cons] at h
    cases h1 : partN res m d c with
    | none => rw [h1] at h; cases h
    | some c1 =>
      rw [h1] at h
      rw [writeK_cons, toksK_cons]
      exact (hP m List.mem_cons_self d c c1 h1 hd hc).wp.app (parts_wp ms d c1 c' (fun y hy => hP y (List.mem_cons_of_mem _ hy)) h hd (part_bnd h1 hd hc))
theorem seq_wp {n : Nd} (hP : ∀ m ∈ n.f7, PartP res m) {d : Nat} {c c' : Gs} (h : seqN res n d c = some c') (hd : d ≤ 50) (hc : c.1 ≤ 20) : WP res (writeN n) (toksN n) := by
  rw [seqN_eq] at h
  split at h
  · rename_i hk
    rw [writeN_eq, toksN_eq, if_pos hk.1, if_pos hk.1]
    exact parts_wp n.f7 d c c' hP h hd hc
  · cases h
theorem bars_wp : ∀ (ns : List Nd) (d : Nat) (c c' : Gs), (∀ m ∈ ns, ∀ k ∈ m.f7, PartP res k) → seqK res ns d c = some c' → d ≤ 50 → c.1 ≤ 20 → WP res (barW ns) (barT ns)
  | [], d, c, c', _, _, _, _ => by rw [barW_nil, barT_nil]; exact WP.none
  | m :: ms, d, c, c', hP, h, hd, hc => by
    rw [seqK_cons] at h
    cases h1 : seqN res m d c with
    | none => rw [h1] at h; cases h
    | some c1 =>
      rw [h1] at h
      rw [barW_cons, barT_cons]
      have g := (seq_wp (hP m List.mem_cons_self) h1 hd hc).app (bars_wp ms d c1 c' (fun y hy => hP y (List.mem_cons_of_mem _ hy)) h hd (seq_bnd h1 hd hc))
      exact WP.app (t1 := [tk0 5 0 0 0 e0 false]) (WP.of (bar_piece res) (fun _ _ => trivial) rfl (by decide) (by decide) (by decide)) g
theorem body_wp {n : Nd} (hP : ∀ m ∈ n.f7, PartP res m) (hPP : ∀ m ∈ n.f7, ∀ k ∈ m.f7, PartP res k) : BodyP res n := by
  intro d c c' h hd hc
  rw [bodyN_eq] at h
  split at h
  · rename_i ho
    by_cases k7 : n.f0 = 7
    · rw [if_pos k7] at h
      rw [writeN_eq, toksN_eq, if_neg (by omega), if_pos k7, if_neg (by omega), if_pos k7]
      split at h
      · cases hf : n.f7 with
        | nil => rename_i hl; rw [hf] at hl; simp at hl
        | cons m ms =>
          rw [hf] at h hPP
          rw [seqK_cons] at h
          cases h1 : seqN res m d c with
          | none => rw [h1] at h; cases h
          | some c1 =>
            rw [h1] at h
            rw [altW_cons, altT_cons]
            exact (seq_wp (hPP m List.mem_cons_self) h1 hd hc).app (bars_wp ms d c1 c' (fun y hy => hPP y (List.mem_cons_of_mem _ hy)) h hd (seq_bnd h1 hd hc))
      · cases h
    · rw [if_neg k7] at h
      split at h
      · rename_i k6
        exact seq_wp hP (d := d) (c := c) (c' := c') (by rw [seqN_eq, if_pos ⟨k6, ho⟩]; exact h) hd hc
      · cases h
  · cases h
theorem wp_all (hpl : PlainOk res) (hsh : ShortOk res) : ∀ n : Nd, PartP res n ∧ BodyP res n ∧ ∀ m ∈ n.f7, PartP res m := by
  refine Nd.all ?_
  intro n ih
  have hP : ∀ m ∈ n.f7, PartP res m := fun m hm => (ih m hm).1
  exact ⟨part_wp hpl hsh hP (fun m hm => (ih m hm).2.1), body_wp hP (fun m hm => (ih m hm).2.2), hP⟩
/-- The pattern of a tree that may be is read as its tokens. -/
theorem scan_write (hpl : PlainOk res) (hsh : ShortOk res) {n : Nd} (h : canN res n = true) : ∃ l, scanL res (writeN n) = (l, 0, 0) ∧ l.map bareT = toksN n := by
  unfold canN at h
  rw [Bool.and_eq_true, decide_eq_true_eq, Option.isSome_iff_exists] at h
  obtain ⟨⟨c, hb⟩, hl⟩ := h
  have hw := (wp_all hpl hsh n).2.1 0 (0, []) c hb (by omega) (by show 0 ≤ 20; omega)
  have hr := hw.1 (writeN n) 0 [] (by simp) (Nat.zero_le _) mild_nil
  rw [Nat.zero_add] at hr
  obtain ⟨new, e, hm⟩ := hr.scan res (writeN n).length [] (by omega)
  refine ⟨new, ?_, hm⟩
  unfold scanL
  rw [if_neg (by omega), e]; rfl
/-- It is parsed as the tree. -/
theorem parse_write (hpl : PlainOk res) (hsh : ShortOk res) {n : Nd} (h : canN res n = true) : ∃ l gs, scanL res (writeN n) = (l, 0, 0) ∧ Evt (fun f => bodyP f 0 (l, [])) (.ok (n, ([], gs))) := by
  obtain ⟨l, h1, h2⟩ := scan_write hpl hsh h
  unfold canN at h
  rw [Bool.and_eq_true, Option.isSome_iff_exists] at h
  obtain ⟨c, hb⟩ := h.1
  obtain ⟨gs, hg⟩ := parse_toks res hb h2
  exact ⟨l, gs, h1, hg⟩
/-- Two trees with one pattern are the same. -/
theorem write_inj (hpl : PlainOk res) (hsh : ShortOk res) {a b : Nd} (ha : canN res a = true) (hb : canN res b = true) (h : writeN a = writeN b) : a = b := by
  obtain ⟨l, g, h1, h2⟩ := parse_write hpl hsh ha
  obtain ⟨l', g', h1', h2'⟩ := parse_write hpl hsh hb
  rw [h, h1'] at h1
  have : l' = l := (Prod.mk.inj h1).1
  subst this
  have := h2.uniq h2'
  simp only [Except.ok.injEq, Prod.mk.injEq] at this
  exact this.1
/-- Values of the alias file are of plain bytes. -/
def plainRows (R : List (List ByteArray)) : Bool := R.all fun f => (bytesOf (cellB f 1)).all fun c => decide (0 ≤ c) && decide (c < 128) && decide (c ≠ 125)
theorem plain_find {R : List (List ByteArray)} (h : plainRows R = true) {k want v : ByteArray} (hf : findL k want R = some v) : PlainL (bytesOf v) := by
  obtain ⟨f, hm, h0, rfl⟩ := findL_mem hf
  have := List.all_eq_true.1 h f hm
  intro c hc
  have g := List.all_eq_true.1 this c hc
  simp only [Bool.and_eq_true, decide_eq_true_eq] at g
  exact ⟨g.1.1, g.1.2, g.2⟩
theorem bare_plain {R : List (List ByteArray)} (h : plainRows R = true) (s : ByteArray) : ∀ ks, (bareL R s ks).2.2 = 0 → PlainL (bytesOf (bareL R s ks).2.1)
  | [], h0 => by unfold bareL at h0; cases h0
  | k :: r, h0 => by
    unfold bareL at h0 ⊢
    split at h0
    · rename_i hn
      exact bare_plain h s r h0
    · rename_i v hv
      exact plain_find h hv
theorem resolve_plain {R : List (List ByteArray)} (h : plainRows R = true) (s : ByteArray) (h0 : (resolveL R s).2.2 = 0) : PlainL (bytesOf (resolveL R s).2.1) := by
  unfold resolveL at h0 ⊢
  split at h0
  · rename_i i hi
    try simp only at h0 ⊢
    unfold keyL at h0 ⊢
    split at h0
    · cases h0
    · rename_i k hk
      try simp only at h0 ⊢
      unfold valL at h0 ⊢
      split at h0
      · cases h0
      · rename_i v hv
        exact plain_find h hv
  · exact bare_plain h s _ h0
theorem bytes_append (a b : ByteArray) : bytesOf (a ++ b) = bytesOf a ++ bytesOf b := by
  unfold bytesOf
  have h : (a ++ b).data.toList = a.data.toList ++ b.data.toList := by rw [ByteArray.data_append, Array.toList_append]
  rw [h, List.map_append]
theorem plain_ok {R : List (List ByteArray)} (h : plainRows R = true) : PlainOk (resolveL R) := by
  intro x h1 h2
  rw [← h2]
  have hr := resolve_plain h x
  obtain ⟨kd, v, e⟩ : ∃ kd v e, resolveL R x = (kd, v, e) := ⟨_, _, _, rfl⟩
  obtain ⟨e, he⟩ := e
  unfold canonL at h1 ⊢
  rw [he] at h1 hr ⊢
  simp only at h1 hr ⊢
  by_cases h0 : e ≠ 0
  · rw [if_pos h0] at h1; exact absurd h1 h0
  rw [if_neg h0] at h1 ⊢
  have hv := hr (by omega)
  split
  · rw [bytes_append]
    intro c hc
    rcases List.mem_append.1 hc with hc | hc
    · have : c ∈ ([103, 99, 61] : List Int) := hc
      simp only [List.mem_cons, List.not_mem_nil, or_false] at this
      omega
    · exact hv c hc
  · split
    · rw [bytes_append]
      intro c hc
      rcases List.mem_append.1 hc with hc | hc
      · have : c ∈ ([115, 99, 61] : List Int) := hc
        simp only [List.mem_cons, List.not_mem_nil, or_false] at this
        omega
      · exact hv c hc
    · exact hv
end

end Go.Proofs.YtkipjalfgdfaiaaGreatDoor
namespace Go.Proofs.YtkipjalfgdfaiaaGreatDoor
set_option linter.unusedVariables false
set_option linter.unusedSimpArgs false
open Go.RowKit Go.Proofs.YtkipjalfgdfaiaaGreatDoorW.PrintWords Go.Proofs.YtkipjalfgdfaiaaGreatDoorW.PrintLast Go.Proofs.YtkipjalfgdfaiaaGreatDoorW.PrintMore Go.Proofs.YtkipjalfgdfaiaaGreatDoor.PTk

/-- What the alias file's text must be. -/
structure Ali (b : ByteArray) : Prop where
  is : AliasIs b
  short : ShortOk (resolveL (rowsB b))
  plain : PlainOk (resolveL (rowsB b))
set_option maxHeartbeats 8000000 in
set_option maxRecDepth 100000 in
theorem ali_ex : ∃ b, Ali b := by
  have h : ∃ b, AliasIs b ∧ shortRows (rowsB b) = true ∧ plainRows (rowsB b) = true := by
    refine ⟨((Tryz.f172.body).bind textCode).getD ByteArray.empty, ⟨fun w => ?_, of_decide_eq_true (by kernel_rfl), by kernel_rfl, by kernel_rfl, by kernel_rfl⟩, by kernel_rfl, by kernel_rfl⟩
    go_enter Tryz.func172, Tryz.ntmps172
    go_wp2
    go_ret
    exact ⟨rfl, Below.refl _ _⟩
  obtain ⟨b, h1, h2, h3⟩ := h
  exact ⟨b, h1, short_ok h1.2.2.2.2 h2, plain_ok h3⟩
/-- What Print of package tree hands back. -/
def prN (b : ByteArray) (n : Nd) : ByteArray × Int := if canN (resolveL (rowsB b)) n = true then (strOfNums (writeN n), 0) else (⟨#[]⟩, 1)
theorem WVars.stay {w w' : World} {m0 : Int} (h : WVars w m0) (hb : Below w.heap.size w w') : WVars w' m0 := ⟨h.tv.stay hb, fun W hW => h.tab W (hb.trans (hW.mono hb.size))⟩
set_option maxHeartbeats 16000000 in
set_option maxRecDepth 100000 in
theorem tprint_any (b : ByteArray) (hal : Ali b) (m0 : Int) {n : Nd} (hw : weightN n ≤ 2147483648) (w : World) (v : Value) (h : RdN w n v) (hv : WVars w m0) :
    Calls Tryz.prog 14 #[v] w fun e w' => e = .returned (.tuple #[.string (prN b n).1, .int .i64 (prN b n).2]) ∧ Below w.heap.size w w' := by
  have hcan := fun W (hb : Below w.heap.size w W) => can_any b hal.is hal.short m0 hw W v (h.below hb) (hv.stay hb)
  have hwrite := fun (hvl : Vld (resolveL (rowsB b)) n) W B b' (E : Ew w W B b' []) => write_any hal.short m0 n hw hvl w W B b' [] v hv h E (by have := (write_len.1 n).1; simp; omega)
  obtain ⟨A6, c6, A7, c7, e, -, -, -, -⟩ := h
  subst e
  have HCAN := Aside0.mk hcan
  have HWRITE := Aside0.mk hwrite
  cases hc : canN (resolveL (rowsB b)) n with
  | false =>
    have HP : Aside0 (prN b n = (⟨#[]⟩, 1)) := ⟨by unfold prN; rw [if_neg (by rw [hc]; decide)]⟩
    rw [HP.out]
    rw [hc] at HCAN
    clear hcan hwrite hv hal hw hc
    go_enter Tryz.func14, Tryz.ntmps14
    go_wp2_with fail
    refine (HCAN.out _ (below_alloc (Below.refl _ _) _)).mono ?_
    rintro e w1 ⟨rfl, hb1⟩
    have HB1 := Aside0.mk (below_box hb1)
    clear hb1
    go_wp2_with fail
    go_ret2
    exact ⟨rfl, HB1.out⟩
  | true =>
    have HP : Aside0 (prN b n = (strOfNums (writeN n), 0)) := ⟨by unfold prN; rw [if_pos hc]⟩
    rw [HP.out]
    have hvl : Vld (resolveL (rowsB b)) n := by
      unfold canN at hc
      rw [Bool.and_eq_true, Option.isSome_iff_exists] at hc
      obtain ⟨⟨c', h⟩, -⟩ := hc
      exact ⟨0, (0, []), c', by omega, by show 0 ≤ 20; omega, .inr (.inr h)⟩
    have HW := Aside0.mk (hwrite hvl)
    rw [hc] at HCAN
    clear hcan hwrite HWRITE hv hal hw hc hvl
    go_enter Tryz.func14, Tryz.ntmps14
    go_wp2_with fail
    refine (HCAN.out _ (below_alloc (Below.refl _ _) _)).mono ?_
    rintro e w1 ⟨rfl, hb1⟩
    have hx1 := (hb1.block w.heap.size (by simp)).trans (heap_alloc_new w _)
    have HB1 := Aside0.mk (below_box hb1)
    have HX1 := Aside0.mk hx1
    have q0 := fun o => rowc (blk_alloc hx1 o) 0 _ rfl
    have q1 := fun o => rowc (blk_alloc hx1 o) 1 _ rfl
    have q2 := fun o => rowc (blk_alloc hx1 o) 2 _ rfl
    have q3 := fun o => rowc (blk_alloc hx1 o) 3 _ rfl
    have q4 := fun o => rowc (blk_alloc hx1 o) 4 _ rfl
    have q5 := fun o => rowc (blk_alloc hx1 o) 5 _ rfl
    have q6 := fun o => rowc (blk_alloc hx1 o) 6 _ rfl
    have q7 := fun o => rowc (blk_alloc hx1 o) 7 _ rfl
    clear hb1 hx1
    go_wp2_with fail
    have HWR : Aside0 (Wr w1.heap.size w1.heap.size [] (w1.alloc (.cells #[.pointer none, .slice none 0 0] 59))) := ⟨⟨Lib.fresh_isBuilder _ _ w1, by simp⟩⟩
    refine (HW.out _ w1.heap.size w1.heap.size ⟨below_to HB1.out (below_alloc (Below.refl _ _) _), HB1.out.size, HWR.out⟩).mono ?_
    rintro e w2 ⟨rfl, hw2⟩
    have HB2 : Aside0 (Below w.heap.size w w2) := ⟨(below_to HB1.out (below_alloc (Below.refl w1.heap.size w1) _)).trans (hw2.2.1.mono HB1.out.size)⟩
    have HW2 := Aside0.mk hw2.1
    have HZ2 := Aside0.mk HB1.out.size
    clear hw2 q0 q1 q2 q3 q4 q5 q6 q7
    go_wp2_with fail
    refine (bld_string _ _ _ _ HW2.out.bld HW2.out.base).mono ?_
    rintro e w3 ⟨rfl, hb3⟩
    have HB3 : Aside0 (Below w.heap.size w w3) := ⟨HB2.out.trans (hb3.mono HZ2.out)⟩
    clear hb3
    go_wp2_with fail
    go_ret2
    exact ⟨by show Ending.returned (.tuple #[.string ⟨(u8L (writeN n)).toArray⟩, .int .i64 0]) = _; rfl, HB3.out⟩
/-- The tree of a.+ -/
abbrev ndAny : Nd := mkN 2 0 0 0 false e0 []
abbrev ndRep : Nd := mkN 8 0 1 (-1) false e0 [ndAny]
abbrev ndChr : Nd := mkN 1 0 97 0 false e0 []
abbrev ndAw : Nd := mkN 6 0 0 0 false e0 [ndChr, ndRep]
theorem can_aw (res : ByteArray → Int × ByteArray × Int) : canN res ndAw = true ∧ writeN ndAw = [97, 46, 43] := by
  constructor
  · unfold canN
    rw [bodyN_eq, if_pos (by decide), if_neg (by decide), if_pos rfl, partK_cons, partN_eq, if_pos rfl, if_pos (by decide)]
    show (((partK res [ndRep] 0 (0, [])).isSome) && _) = true
    rw [partK_cons, partN_eq, if_neg (by decide), if_neg (by decide), if_neg (by decide), if_neg (by decide), if_neg (by decide), if_neg (by decide), if_pos rfl, if_pos (by decide), repK_one, if_neg (by decide), partN_eq, if_neg (by decide), if_pos (.inl rfl), if_pos (by decide)]
    show ((partK res [] 0 (0, [])).isSome && _) = true
    rw [partK_nil]
    decide
  · decide
theorem flat_get : ∀ (L : List (List Value)) (j i : Nat) (hj : j < L.length), (∀ c ∈ L, c.length = 8) → i < 8 → L.flatten[j * 8 + i]? = (L[j])[i]?
  | [], j, i, hj, _, _ => by simp at hj
  | c :: L, 0, i, _, h8, hi => by
    have hc := h8 c List.mem_cons_self
    rw [List.flatten_cons, Nat.zero_mul, Nat.zero_add, List.getElem?_append_left (by omega)]
    rfl
  | c :: L, j + 1, i, hj, h8, hi => by
    have hc := h8 c List.mem_cons_self
    rw [List.flatten_cons, List.getElem?_append_right (by omega), show (j + 1) * 8 + i - c.length = j * 8 + i by omega]
    rw [flat_get L j i (by simpa using hj) (fun d hd => h8 d (List.mem_cons_of_mem _ hd)) hi]
    rfl
/-- A block of nodes' cells reads as the nodes. -/
theorem C_blk {W : World} {g : Nat} {T : TypeId} {fr : Nat × Nat} (ns : List Nd) (L : List (List Value)) (hl : L.length = ns.length) (hg : W.heap[g]? = some (.cells L.flatten.toArray T fr)) (hm : ns.length ≤ 9223372036854775807)
    (hK : ∀ j (h1 : j < ns.length) (h2 : j < L.length), kN.K W ns[j] L[j]) : Kd.C kN W (some ⟨g, 0, none⟩) ns.length ns := by
  have hz : kN.sz = 8 := rfl
  have h8 : ∀ c ∈ L, c.length = 8 := by
    intro c hc
    obtain ⟨j, hj, rfl⟩ := List.getElem_of_mem hc
    have := kN.K_len (hK j (by omega) hj)
    rw [hz] at this
    exact this
  refine ⟨rfl, hm, fun _ => ⟨_, rfl, fun j p hj => ?_⟩⟩
  obtain ⟨hlt, rfl⟩ := List.getElem?_eq_some_iff.1 hj
  refine ⟨L[j]'(by omega), kN.K_len (hK j hlt (by omega)), hK j hlt (by omega), fun i u hu => ?_⟩
  have hi : i < 8 := by have := (List.getElem?_eq_some_iff.1 hu).1; rw [h8 _ (List.getElem_mem _)] at this; exact this
  rw [hz, add_plain]
  refine rowc hg _ u ?_
  rw [List.getElem?_toArray, flat_get L j i (by omega) h8 hi]
  exact hu
/-- A node's cells. -/
abbrev ndC (n : Nd) (A6 : Option Addr) (c6 : Nat) (A7 : Option Addr) (c7 : Nat) : List Value := [.int .i64 n.f0, .int .i64 n.f1, .int .i64 n.f2, .int .i64 n.f3, .bool n.f4, .string n.f5, .slice A6 n.f6.length c6, .slice A7 n.f7.length c7]
theorem K_of {W : World} {n : Nd} {A6 : Option Addr} {c6 : Nat} {A7 : Option Addr} {c7 : Nat} (h6 : n.f6.length ≤ c6) (g6 : Kd.C k63 W A6 n.f6.length n.f6) (h7 : n.f7.length ≤ c7) (g7 : Kd.C kN W A7 n.f7.length n.f7) : kN.K W n (ndC n A6 c6 A7 c7) := k25_mk W n h6 g6 h7 g7
theorem C_none {α : Type} (kd : Kd α) (W : World) : Kd.C kd W none 0 [] := ⟨rfl, by simp, fun h => absurd h (by simp)⟩
theorem K_leaf {W : World} (k m a b : Int) (ng : Bool) (nm : ByteArray) : kN.K W (mkN k m a b ng nm []) [.int .i64 k, .int .i64 m, .int .i64 a, .int .i64 b, .bool ng, .string nm, .slice none 0 0, .slice none 0 0] :=
  K_of (n := mkN k m a b ng nm []) (Nat.le_refl _) (C_none _ _) (Nat.le_refl _) (C_none _ _)
set_option maxHeartbeats 16000000 in
set_option maxRecDepth 100000 in
theorem awake14_any (b : ByteArray) (hal : Ali b) (m0 : Int) (w : World) (hv : WVars w m0) :
    Calls Tryz.prog 13 #[] w fun e w' => e = .returned (.bool true) ∧ Below w.heap.size w w' := by
  have HP := Aside0.mk (fun W v (hb : Below w.heap.size w W) (h : RdN W ndAw v) => tprint_any b hal m0 (n := ndAw) (by decide) W v h (hv.stay hb))
  have HR : Aside0 (prN b ndAw = (⟨#[97, 46, 43]⟩, 0)) := ⟨by unfold prN; rw [if_pos (can_aw _).1, (can_aw (resolveL (rowsB b))).2]; rfl⟩
  rw [HR.out] at HP
  clear hv hal
  go_enter Tryz.func13, Tryz.ntmps13
  go_wp2_with fail
  have h1 := heap_alloc_new w (.cells #[.int .i64 2, .int .i64 0, .int .i64 0, .int .i64 0, .bool false, .string ⟨#[]⟩, .slice none 0 0, .slice none 0 0] 25)
  have z1 : (w.alloc (.cells #[.int .i64 2, .int .i64 0, .int .i64 0, .int .i64 0, .bool false, .string ⟨#[]⟩, .slice none 0 0, .slice none 0 0] 25)).heap.size = w.heap.size + 1 := by simp
  have b1 : Below w.heap.size w (w.alloc (.cells #[.int .i64 2, .int .i64 0, .int .i64 0, .int .i64 0, .bool false, .string ⟨#[]⟩, .slice none 0 0, .slice none 0 0] 25)) := below_alloc (Below.refl _ _) _
  obtain ⟨w1, hw1⟩ : ∃ w1, w.alloc (.cells #[.int .i64 2, .int .i64 0, .int .i64 0, .int .i64 0, .bool false, .string ⟨#[]⟩, .slice none 0 0, .slice none 0 0] 25) = w1 := ⟨_, rfl⟩
  rw [hw1] at h1 z1 b1 ⊢
  have h2 := heap_alloc_new w1 (.cells #[.int .i64 1, .int .i64 0, .int .i64 97, .int .i64 0, .bool false, .string ⟨#[]⟩, .slice none 0 0, .slice none 0 0, .int .i64 8, .int .i64 0, .int .i64 1, .int .i64 (-1), .bool false, .string ⟨#[]⟩, .slice none 0 0, .slice (some ⟨w.heap.size, 0, none⟩) 1 1] 25)
  have b2 : Below w1.heap.size w1 (w1.alloc (.cells #[.int .i64 1, .int .i64 0, .int .i64 97, .int .i64 0, .bool false, .string ⟨#[]⟩, .slice none 0 0, .slice none 0 0, .int .i64 8, .int .i64 0, .int .i64 1, .int .i64 (-1), .bool false, .string ⟨#[]⟩, .slice none 0 0, .slice (some ⟨w.heap.size, 0, none⟩) 1 1] 25)) := below_alloc (Below.refl _ _) _
  obtain ⟨w2, hw2⟩ : ∃ w2, w1.alloc (.cells #[.int .i64 1, .int .i64 0, .int .i64 97, .int .i64 0, .bool false, .string ⟨#[]⟩, .slice none 0 0, .slice none 0 0, .int .i64 8, .int .i64 0, .int .i64 1, .int .i64 (-1), .bool false, .string ⟨#[]⟩, .slice none 0 0, .slice (some ⟨w.heap.size, 0, none⟩) 1 1] 25) = w2 := ⟨_, rfl⟩
  rw [hw2] at h2 b2 ⊢
  rw [z1] at h2
  have h1' := (b2.block w.heap.size (by omega)).trans h1
  have c1 : Kd.C kN w2 (some ⟨w.heap.size, 0, none⟩) 1 [ndAny] := C_blk [ndAny] [[.int .i64 2, .int .i64 0, .int .i64 0, .int .i64 0, .bool false, .string ⟨#[]⟩, .slice none 0 0, .slice none 0 0]] rfl h1' (by simp) (fun j g1 g2 => by
    have : j = 0 := by simp at g1; omega
    subst this
    exact K_leaf 2 0 0 0 false e0)
  have c2 : Kd.C kN w2 (some ⟨w.heap.size + 1, 0, none⟩) 2 [ndChr, ndRep] := C_blk [ndChr, ndRep] [[.int .i64 1, .int .i64 0, .int .i64 97, .int .i64 0, .bool false, .string ⟨#[]⟩, .slice none 0 0, .slice none 0 0], [.int .i64 8, .int .i64 0, .int .i64 1, .int .i64 (-1), .bool false, .string ⟨#[]⟩, .slice none 0 0, .slice (some ⟨w.heap.size, 0, none⟩) 1 1]] rfl h2 (by simp) (fun j g1 g2 => by
    simp at g1
    rcases (show j = 0 ∨ j = 1 by omega) with rfl | rfl
    · exact K_leaf 1 0 97 0 false e0
    · exact K_of (n := ndRep) (Nat.le_refl _) (C_none _ _) (Nat.le_refl _) c1)
  have hr : RdN w2 ndAw (.agg #[.int .i64 6, .int .i64 0, .int .i64 0, .int .i64 0, .bool false, .string ⟨#[]⟩, .slice none 0 0, .slice (some ⟨w.heap.size + 1, 0, none⟩) 2 2]) := ⟨none, 0, _, 2, rfl, Nat.le_refl _, C_none _ _, Nat.le_refl _, c2⟩
  refine (HP.out w2 _ (below_to b1 b2) hr).mono ?_
  rintro e w3 ⟨rfl, hb3⟩
  have HB3 := Aside0.mk (below_to (below_to b1 b2) hb3)
  clear hb3 hr c1 c2 h1 h1' h2 b1 b2 z1 hw1 hw2
  go_wp2_with fail
  go_ret
  exact ⟨rfl, HB3.out⟩

end Go.Proofs.YtkipjalfgdfaiaaGreatDoor
namespace Go.Proofs.YtkipjalfgdfaiaaGreatDoor
set_option linter.unusedVariables false
set_option linter.unusedSimpArgs false
open Go.RowKit Go.Proofs.YtkipjalfgdfaiaaGreatDoorW.PrintWords Go.Proofs.YtkipjalfgdfaiaaGreatDoorW.PrintLast Go.Proofs.YtkipjalfgdfaiaaGreatDoorW.PrintMore Go.Proofs.YtkipjalfgdfaiaaGreatDoor.PTk

theorem same_l0 (a0 a1 a2 a3 : Int) (a4 : Bool) (a5 : ByteArray) (a6 : List S63) (a7 : List Nd) (h6 : a6.length ≤ 2147483648)
    (h : Ev (fun k => rubricatorref14_Same.l1 k (a7.length : Int) 0 a0 a1 a2 a3 a4 a5 a6 a7 a0 a1 a2 a3 a4 a5 a6 a7) true) : ∀ m j : Nat, a6.length - j = m →
      Ev (fun k => rubricatorref14_Same.l0 k (a6.length : Int) (j : Int) a0 a1 a2 a3 a4 a5 a6 a7 a0 a1 a2 a3 a4 a5 a6 a7) true := by
  intro m
  induction m with
  | zero =>
    intro j hj
    refine Ev.step (fun k => ?_) h
    rw [rubricatorref14_Same.l0, if_neg (by omega)]
  | succ m ih =>
    intro j hj
    refine Ev.step (fun k => ?_) (ih (j + 1) (by omega))
    rw [rubricatorref14_Same.l0, if_pos (by omega), if_pos (by omega), if_pos (by omega), if_pos (by omega), if_neg (by simp), show wrap64 ((j : Int) + 1) = ((j + 1 : Nat) : Int) by rw [w64c (by omega) (by omega)]; omega]
theorem same_ev : (∀ n : Nd, weightN n ≤ 2147483648 → Ev (fun k => rubricatorref14_Same.f k n.f0 n.f1 n.f2 n.f3 n.f4 n.f5 n.f6 n.f7 n.f0 n.f1 n.f2 n.f3 n.f4 n.f5 n.f6 n.f7) true) ∧
    (∀ ns : List Nd, weightK ns ≤ 2147483648 → ∀ (xs : List Nd) (j : Nat) (a0 a1 a2 a3 : Int) (a4 : Bool) (a5 : ByteArray) (a6 : List S63), xs.drop j = ns → xs.length ≤ 2147483648 →
      Ev (fun k => rubricatorref14_Same.l1 k (xs.length : Int) (j : Int) a0 a1 a2 a3 a4 a5 a6 xs a0 a1 a2 a3 a4 a5 a6 xs) true) := by
  refine Nd.ind (fun n ih hs => ?_) (fun hs xs j a0 a1 a2 a3 a4 a5 a6 hd hx => ?_) (fun n ns hn hns hs xs j a0 a1 a2 a3 a4 a5 a6 hd hx => ?_)
  · rw [weightN_eq] at hs
    have h1 := ih (by omega) n.f7 0 n.f0 n.f1 n.f2 n.f3 n.f4 n.f5 n.f6 (by simp) (by have := weightK_len n.f7; omega)
    have h0 := same_l0 n.f0 n.f1 n.f2 n.f3 n.f4 n.f5 n.f6 n.f7 (by omega) h1 n.f6.length 0 rfl
    refine Ev.step (fun k => ?_) (Ev.step (g := fun k => rubricatorref14_Same.j0 k false n.f0 n.f1 n.f2 n.f3 n.f4 n.f5 n.f6 n.f7 n.f0 n.f1 n.f2 n.f3 n.f4 n.f5 n.f6 n.f7) (fun k => ?_) h0)
    · rw [rubricatorref14_Same.f, if_pos rfl, if_pos rfl, if_pos rfl, if_pos rfl, if_neg (by simp), if_pos rfl, if_pos rfl]
      simp
    · rw [rubricatorref14_Same.j0, if_neg (by decide)]
      rfl
  · have hj : xs.length ≤ j := List.drop_eq_nil_iff.1 hd
    refine Ev.step (fun k => ?_) (Ev.now _)
    rw [rubricatorref14_Same.l1, if_neg (by omega)]
  · rw [weightK_cons] at hs
    have hj : j < xs.length := by
      have := congrArg List.length hd
      rw [List.length_drop] at this
      simp only [List.length_cons] at this
      omega
    rw [List.drop_eq_getElem_cons hj] at hd
    obtain ⟨hn0, hd2⟩ := List.cons.inj hd
    have h1 := hn (by omega)
    have h2 := hns (by omega) xs (j + 1) a0 a1 a2 a3 a4 a5 a6 hd2 hx
    refine Ev.step (f := fun k => (rubricatorref14_Same.f k n.f0 n.f1 n.f2 n.f3 n.f4 n.f5 n.f6 n.f7 n.f0 n.f1 n.f2 n.f3 n.f4 n.f5 n.f6 n.f7).bind fun t => if t = true then rubricatorref14_Same.l1 k (xs.length : Int) (wrap64 ((j : Int) + 1)) a0 a1 a2 a3 a4 a5 a6 xs a0 a1 a2 a3 a4 a5 a6 xs else some false) (fun k => ?_) (Ev.bind h1 ?_)
    · rw [rubricatorref14_Same.l1, if_pos (by omega), if_pos (by omega), if_pos (by omega), if_pos (by omega), rdN xs j hj, hn0]
    · rw [show wrap64 ((j : Int) + 1) = ((j + 1 : Nat) : Int) by rw [w64c (by omega) (by omega)]; omega]
      simp only [if_true]
      exact h2
theorem same_self (n : Nd) (hw : weightN n ≤ 2147483648) (w : World) (v u : Value) (hv : RdN w n v) (hu : RdN w n u) : Calls Tryz.prog 15 #[v, u] w fun e w' => e = .returned (.bool true) ∧ Below w.heap.size w w' := by
  obtain ⟨A6, c6, A7, c7, rfl, h1, h2, h3, h4⟩ := hv
  obtain ⟨B6, d6, B7, d7, rfl, g1, g2, g3, g4⟩ := hu
  obtain ⟨k, hk⟩ := (same_ev.1 n hw).rounds
  exact rubricatorref14_Same.calls k n.f0 n.f1 n.f2 n.f3 n.f4 n.f5 A6 c6 n.f6 A7 c7 n.f7 n.f0 n.f1 n.f2 n.f3 n.f4 n.f5 B6 d6 n.f6 B7 d7 n.f7 true w h2 h1 h4 h3 g2 g1 g4 g3 hk

end Go.Proofs.YtkipjalfgdfaiaaGreatDoor
namespace Go.Proofs.YtkipjalfgdfaiaaGreatDoor
set_option linter.unusedVariables false
set_option linter.unusedSimpArgs false
open Go.RowKit Go.Proofs.YtkipjalfgdfaiaaGreatDoorW.PrintWords Go.Proofs.YtkipjalfgdfaiaaGreatDoorW.PrintLast Go.Proofs.YtkipjalfgdfaiaaGreatDoorW.PrintMore Go.Proofs.YtkipjalfgdfaiaaGreatDoor.PTk

def Rng (l : List Int) : Prop := ∀ x ∈ l, 0 ≤ x ∧ x ≤ 255
theorem Rng.app {a b : List Int} (h : Rng a) (k : Rng b) : Rng (a ++ b) := fun x hx => (List.mem_append.1 hx).elim (h x) (k x)
theorem Rng.nil : Rng [] := fun x hx => by cases hx
theorem Rng.cons {c : Int} {l : List Int} (h : 0 ≤ c ∧ c ≤ 255) (k : Rng l) : Rng (c :: l) := fun x hx => (List.mem_cons.1 hx).elim (fun e => e ▸ h) (k x)
theorem rng_of {l : List Int} (h : (l.all fun x => decide (0 ≤ x) && decide (x ≤ 255)) = true) : Rng l := fun x hx => by
  have := List.all_eq_true.1 h x hx
  simpa using this
theorem bytes_rng (s : ByteArray) : Rng (bytesOf s) := fun x hx => by
  unfold bytesOf at hx
  obtain ⟨c, _, rfl⟩ := List.mem_map.1 hx
  have : c.toNat < 256 := c.toNat_lt
  constructor <;> omega
theorem dec_rng {n : Int} (h0 : 0 ≤ n) (h1 : n ≤ 100) : Rng (decL n) := fun x hx => by
  have := (dec_digs h0 h1).1 x hx
  unfold digB at this
  simp only [Bool.and_eq_true, decide_eq_true_eq] at this
  omega
theorem ofT_rng {l : List (List Int)} (h : ∀ x ∈ l, Rng x) (m : Int) : Rng (ofT m l) := by
  unfold ofT
  rw [List.getD_eq_getElem?_getD]
  cases e : l[m.toNat]? with
  | none => exact Rng.nil
  | some x => exact h x (List.mem_of_getElem? e)
theorem count_rng {a b : Int} (h0 : 0 ≤ a) (h1 : a ≤ 100) (h2 : b = -1 ∨ (a ≤ b ∧ b ≤ 100)) : Rng (countW a b) := by
  unfold countW
  split
  · exact rng_of (by decide)
  · split
    · exact rng_of (by decide)
    · split
      · exact rng_of (by decide)
      · refine Rng.app (Rng.app (Rng.cons (by omega) (dec_rng h0 h1)) ?_) (rng_of (by decide))
        split
        · exact Rng.nil
        · refine Rng.cons (by omega) ?_
          split
          · exact dec_rng (by omega) (by omega)
          · exact Rng.nil
variable {res : ByteArray → Int × ByteArray × Int}
theorem prop_rng (hsh : ShortOk res) {n : Nd} (h : propN res n = true) : Rng (propW n) := by
  unfold propN at h
  simp only [Bool.and_eq_true, Bool.or_eq_true, decide_eq_true_eq, beq_iff_eq] at h
  obtain ⟨-, h⟩ := h
  unfold propW
  split
  · rename_i hs
    have hd : n.f5 = ⟨#[100]⟩ ∨ n.f5 = ⟨#[119]⟩ ∨ n.f5 = ⟨#[115]⟩ := by
      rcases h with ((h | h) | h) | h
      · exact .inl h
      · exact .inr (.inl h)
      · exact .inr (.inr h)
      · exact hsh n.f5 hs.1 h.1 h.2
    rcases hd with hd | hd | hd <;> (rw [hd]; exact rng_of (by decide))
  · split
    · exact Rng.cons (by omega) (bytes_rng _)
    · split
      · exact Rng.app (Rng.app (rng_of (by decide)) (bytes_rng _)) (rng_of (by decide))
      · exact Rng.app (Rng.app (rng_of (by decide)) (bytes_rng _)) (rng_of (by decide))
theorem memb_rng (hsh : ShortOk res) {d : Nat} : ∀ ns : List Nd, (∀ m ∈ ns, (∃ d, classN res m d = true) → Rng (sideW m)) → membK res ns d = true → Rng (membW ns)
  | [], _, _ => by rw [membW_nil]; exact Rng.nil
  | n :: ns, hS, h => by
    rw [membK_at, Bool.and_eq_true] at h
    rw [membW_cons]
    refine Rng.app ?_ (memb_rng hsh ns (fun m hm => hS m (List.mem_cons_of_mem _ hm)) h.2)
    have h1 := h.1
    unfold memB at h1
    unfold memW
    split
    · exact printL_rng
    · rename_i k1
      rw [if_neg k1] at h1
      split
      · exact Rng.app printL_rng (Rng.cons (by omega) printL_rng)
      · rename_i k4
        rw [if_neg k4] at h1
        split
        · rename_i k5
          rw [if_pos k5] at h1
          exact prop_rng hsh h1
        · rename_i k5
          rw [if_neg k5] at h1
          refine Rng.app (Rng.app (Rng.app (rng_of (by decide)) ?_) (hS n List.mem_cons_self ⟨_, h1⟩)) (rng_of (by decide))
          split
          · exact rng_of (by decide)
          · exact Rng.nil
theorem side_rng (hsh : ShortOk res) : ∀ n : Nd, (∃ d, classN res n d = true) → Rng (sideW n) := by
  refine Nd.all ?_
  intro n ih ⟨d, hc⟩
  rw [classN_eq, Bool.and_eq_true, Bool.and_eq_true, Bool.and_eq_true] at hc
  obtain ⟨-, hc⟩ := hc
  rw [sideW_eq]
  by_cases h0 : n.f1 = 0
  · rw [if_pos h0, Bool.and_eq_true] at hc
    rw [if_pos h0]
    exact memb_rng hsh n.f7 ih hc.2
  · rw [if_neg h0, Bool.and_eq_true] at hc
    obtain ⟨a, b, hab, -, -, -, ha, hb⟩ := sidesK_ok res hc.2
    rw [if_neg h0, hab, sidesW_two]
    exact Rng.app (Rng.app (ih a (by rw [hab]; simp) ⟨d, ha⟩) (ofT_rng (fun x hx => by
      simp only [List.mem_cons, List.not_mem_nil, or_false] at hx
      rcases hx with rfl | rfl | rfl | rfl <;> exact rng_of (by decide)) _)) (ih b (by rw [hab]; simp) ⟨d, hb⟩)
theorem list_rng {f : List Nd → List Int} (h0 : f [] = []) (h1 : ∀ n ns, ∃ p, Rng p ∧ f (n :: ns) = p ++ (writeN n ++ f ns)) : ∀ ns : List Nd, (∀ m ∈ ns, Rng (writeN m)) → Rng (f ns)
  | [], _ => by rw [h0]; exact Rng.nil
  | n :: ns, h => by
    obtain ⟨p, hp, e⟩ := h1 n ns
    rw [e]
    exact hp.app ((h n List.mem_cons_self).app (list_rng h0 h1 ns (fun m hm => h m (List.mem_cons_of_mem _ hm))))
theorem write_rng (hsh : ShortOk res) : ∀ n : Nd, Vld res n → Rng (writeN n) := by
  refine Nd.all ?_
  intro n ih ⟨d, c, c', hd, hc, hv⟩
  have hseq : n.f0 = 6 → partK res n.f7 d c = some c' → Rng (writeN n) := fun k6 h => by
    rw [writeN_eq, if_pos k6]
    exact list_rng writeK_nil (fun n ns => ⟨[], Rng.nil, by rw [writeK_cons]; rfl⟩) n.f7 (fun m hm => ih m hm (partK_mem hd h hc m hm))
  rcases hv with h | h | h
  rotate_left
  · rw [seqN_eq] at h
    split at h
    · rename_i hk; exact hseq hk.1 h
    · cases h
  · rw [bodyN_eq] at h
    split at h
    · by_cases k7 : n.f0 = 7
      · rw [if_pos k7] at h
        split at h
        · rw [writeN_eq, if_neg (by omega), if_pos k7]
          have hk := seqK_mem hd h hc
          cases hf : n.f7 with
          | nil => rw [altW_nil]; exact Rng.nil
          | cons m ms =>
            rw [hf] at hk ih
            rw [altW_cons]
            exact (ih m List.mem_cons_self (hk m List.mem_cons_self)).app (list_rng barW_nil (fun n ns => ⟨[124], rng_of (by decide), by rw [barW_cons]⟩) ms (fun y hy => ih y (List.mem_cons_of_mem _ hy) (hk y (List.mem_cons_of_mem _ hy))))
        · cases h
      · rw [if_neg k7] at h
        split at h
        · rename_i k6; exact hseq k6 h
        · cases h
    · cases h
  · rw [partN_eq] at h
    rw [writeN_eq]
    by_cases k1 : n.f0 = 1
    · rw [if_neg (by omega), if_neg (by omega), if_pos k1]; exact printL_rng
    rw [if_neg k1] at h
    by_cases k2 : n.f0 = 2 ∨ n.f0 = 14
    · rcases k2 with k2 | k2
      · rw [if_neg (by omega), if_neg (by omega), if_neg k1, if_pos k2]; exact rng_of (by decide)
      · rw [if_neg (by omega), if_neg (by omega), if_neg k1, if_neg (by omega), if_neg (by omega), if_neg (by omega), if_neg (by omega), if_neg (by omega), if_neg (by omega), if_neg (by omega), if_neg (by omega), if_neg (by omega), if_pos k2]; exact rng_of (by decide)
    rw [if_neg k2] at h
    have k2' : n.f0 ≠ 2 := fun e => k2 (.inl e)
    by_cases k3 : n.f0 = 3
    · rw [if_pos k3] at h
      rw [if_neg (by omega), if_neg (by omega), if_neg k1, if_neg k2', if_pos k3]
      split at h
      · rename_i hb
        unfold classW
        refine Rng.app (Rng.app (Rng.app (rng_of (by decide)) ?_) (side_rng hsh n ⟨_, hb⟩)) (rng_of (by decide))
        split
        · exact rng_of (by decide)
        · exact Rng.nil
      · cases h
    rw [if_neg k3] at h
    by_cases k5 : n.f0 = 5
    · rw [if_pos k5] at h
      rw [if_neg (by omega), if_neg (by omega), if_neg k1, if_neg k2', if_neg k3, if_pos k5]
      split at h
      · rename_i hb; exact prop_rng hsh hb
      · cases h
    rw [if_neg k5] at h
    by_cases k12 : n.f0 = 12
    · rw [if_neg (by omega), if_neg (by omega), if_neg k1, if_neg k2', if_neg k3, if_neg k5, if_neg (by omega), if_neg (by omega), if_neg (by omega), if_neg (by omega), if_pos k12]
      exact ofT_rng (fun x hx => by
        simp only [List.mem_cons, List.not_mem_nil, or_false] at hx
        rcases hx with rfl | rfl | rfl | rfl | rfl | rfl | rfl | rfl | rfl | rfl | rfl <;> exact rng_of (by decide)) _
    rw [if_neg k12] at h
    by_cases k13 : n.f0 = 13
    · rw [if_pos k13] at h
      rw [if_neg (by omega), if_neg (by omega), if_neg k1, if_neg k2', if_neg k3, if_neg k5, if_neg (by omega), if_neg (by omega), if_neg (by omega), if_neg (by omega), if_neg k12, if_pos k13]
      split at h
      · rename_i hb
        rw [Bool.and_eq_true, Bool.and_eq_true, decide_eq_true_eq, decide_eq_true_eq] at hb
        exact Rng.app (Rng.app (rng_of (by decide)) (dec_rng (by omega) (by omega))) (rng_of (by decide))
      · cases h
    rw [if_neg k13] at h
    by_cases k8 : n.f0 = 8
    · rw [if_pos k8] at h
      rw [if_neg (by omega), if_neg (by omega), if_neg k1, if_neg k2', if_neg k3, if_neg k5, if_pos k8]
      split at h
      · rename_i hb
        simp only [Bool.and_eq_true, Bool.or_eq_true, decide_eq_true_eq, beq_iff_eq] at hb
        obtain ⟨m, hm, -, -, -, hp⟩ := repK_ok res h
        rw [hm, headW_cons]
        exact Rng.app (Rng.app (ih m (by rw [hm]; simp) ⟨d, c, c', hd, hc, .inl hp⟩) (count_rng hb.1.1.2 hb.1.2 hb.2)) (ofT_rng (fun x hx => by
          simp only [List.mem_cons, List.not_mem_nil, or_false] at hx
          rcases hx with rfl | rfl | rfl <;> exact rng_of (by decide)) _)
      · cases h
    rw [if_neg k8] at h
    by_cases k9 : n.f0 = 9
    · rw [if_pos k9] at h
      rw [if_neg (by omega), if_neg (by omega), if_neg k1, if_neg k2', if_neg k3, if_neg k5, if_neg k8, if_pos k9]
      split at h
      · cases hgs : groupS n.f2 n.f5 c with
        | none => rw [hgs] at h; cases h
        | some c1 =>
          rw [hgs] at h
          obtain ⟨m, hm, hdl, hp⟩ := withK_ok res h
          rw [hm, headW_cons]
          refine Rng.app (Rng.app ?_ (ih m (by rw [hm]; simp) ⟨d + 1, c1, c', by omega, (groupS_ok hgs hc).2, .inr (.inr hp)⟩)) (rng_of (by decide))
          split
          · exact rng_of (by decide)
          · split
            · exact rng_of (by decide)
            · exact Rng.app (Rng.app (rng_of (by decide)) (bytes_rng _)) (rng_of (by decide))
      · cases h
    rw [if_neg k9] at h
    by_cases k10 : n.f0 = 10
    · rw [if_pos k10] at h
      rw [if_neg (by omega), if_neg (by omega), if_neg k1, if_neg k2', if_neg k3, if_neg k5, if_neg k8, if_neg k9, if_pos k10]
      split at h
      · obtain ⟨m, hm, hdl, hp⟩ := withK_ok res h
        rw [hm, headW_cons]
        exact Rng.app (Rng.app (ofT_rng (fun x hx => by
          simp only [List.mem_cons, List.not_mem_nil, or_false] at hx
          rcases hx with rfl | rfl | rfl | rfl <;> exact rng_of (by decide)) _) (ih m (by rw [hm]; simp) ⟨d + 1, c, c', by omega, hc, .inr (.inr hp)⟩)) (rng_of (by decide))
      · cases h
    rw [if_neg k10] at h
    by_cases k11 : n.f0 = 11
    · rw [if_pos k11] at h
      rw [if_neg (by omega), if_neg (by omega), if_neg k1, if_neg k2', if_neg k3, if_neg k5, if_neg k8, if_neg k9, if_neg k10, if_pos k11]
      split at h
      · obtain ⟨m, hm, hdl, hp⟩ := withK_ok res h
        rw [hm, headW_cons]
        exact Rng.app (Rng.app (rng_of (by decide)) (ih m (by rw [hm]; simp) ⟨d + 1, c, c', by omega, hc, .inr (.inr hp)⟩)) (rng_of (by decide))
      · cases h
    rw [if_neg k11] at h
    cases h
theorem can_vld {n : Nd} (h : canN res n = true) : Vld res n := by
  unfold canN at h
  rw [Bool.and_eq_true, Option.isSome_iff_exists] at h
  obtain ⟨⟨c, hb⟩, -⟩ := h
  exact ⟨0, (0, []), c, by omega, by show 0 ≤ 20; omega, .inr (.inr hb)⟩
theorem nums_bytes {l : List Int} (h : Rng l) : bytesOf (strOfNums l) = l := by
  unfold bytesOf
  rw [str_data, List.map_map]
  conv => rhs; rw [← List.map_id l]
  apply List.map_congr_left
  intro x hx
  have := h x hx
  show (((UInt8.ofNat x.toNat).toNat : Nat) : Int) = x
  rw [UInt8.toNat_ofNat']
  omega
theorem str_inj {a b : List Int} (ha : Rng a) (hb : Rng b) (h : strOfNums a = strOfNums b) : a = b := by
  rw [← nums_bytes ha, ← nums_bytes hb, h]

end Go.Proofs.YtkipjalfgdfaiaaGreatDoor
namespace Go.Proofs.YtkipjalfgdfaiaaGreatDoor
set_option linter.unusedVariables false
set_option linter.unusedSimpArgs false
open Go.RowKit Go.Proofs.YtkipjalfgdfaiaaGreatDoorW.PrintWords Go.Proofs.YtkipjalfgdfaiaaGreatDoorW.PrintLast Go.Proofs.YtkipjalfgdfaiaaGreatDoorW.PrintMore Go.Proofs.YtkipjalfgdfaiaaGreatDoor.PTk

theorem rows8 {w : World} {g : Nat} {a b c d e f x y : Value} {T : TypeId} {fr : Nat × Nat} (hx : w.heap[g]? = some (.cells #[a, b, c, d, e, f, x, y] T fr)) :
    w.cell? ⟨g, 0, none⟩ = some a ∧ w.cell? ⟨g, 1, none⟩ = some b ∧ w.cell? ⟨g, 2, none⟩ = some c ∧ w.cell? ⟨g, 3, none⟩ = some d ∧ w.cell? ⟨g, 4, none⟩ = some e ∧ w.cell? ⟨g, 5, none⟩ = some f ∧ w.cell? ⟨g, 6, none⟩ = some x ∧ w.cell? ⟨g, 7, none⟩ = some y :=
  ⟨rowc hx 0 _ rfl, rowc hx 1 _ rfl, rowc hx 2 _ rfl, rowc hx 3 _ rfl, rowc hx 4 _ rfl, rowc hx 5 _ rfl, rowc hx 6 _ rfl, rowc hx 7 _ rfl⟩
set_option maxHeartbeats 16000000 in
set_option maxRecDepth 100000 in
theorem TreeApart_walk (w : World) (v : Value) (a : Nd) (u : Value) (b : Nd) (h : RdN w a v) (h2 : RdN w b u) (m : Int) (htv : WVars w m) (hwa : weightN a ≤ 2147483648) (hwb : weightN b ≤ 2147483648) :
    Calls Tryz.prog 3 #[v, u] w fun e w' => e = .returned (.bool true) ∧ Below w.heap.size w w' := by
  obtain ⟨al, hal⟩ := ali_ex
  have HDA := Aside0.mk (fun W (hb : Below w.heap.size w W) => deepN_any a W v (h.below hb) 3000 300 (by decide) (by decide) (by decide) (by decide))
  have HDB := Aside0.mk (fun W (hb : Below w.heap.size w W) => deepN_any b W u (h2.below hb) 3000 300 (by decide) (by decide) (by decide) (by decide))
  have HAW := Aside0.mk (fun W (hb : Below w.heap.size w W) => awake14_any al hal m W (htv.stay hb))
  have HPA := Aside0.mk (fun W (hb : Below w.heap.size w W) => tprint_any al hal m hwa W v (h.below hb) (htv.stay hb))
  have HPB := Aside0.mk (fun W (hb : Below w.heap.size w W) => tprint_any al hal m hwb W u (h2.below hb) (htv.stay hb))
  have hsm := fun (he : a = b) W (hb : Below w.heap.size w W) => same_self a hwa W v u (h.below hb) (he ▸ h2.below hb)
  obtain ⟨A6, c6, A7, c7, rfl, -, -, -, -⟩ := h
  obtain ⟨B6, d6, B7, d7, rfl, -, -, -, -⟩ := h2
  have hinj := fun (ha : canN (resolveL (rowsB al)) a = true) (hb : canN (resolveL (rowsB al)) b = true) (e : writeN a = writeN b) => write_inj hal.plain hal.short ha hb e
  clear htv hwa hwb
  cases hfa : (fewN a 3000 300).1 with
  | false =>
    rw [hfa] at HDA
    clear HPA HPB HDB hfa hsm hinj
    have hbl : Below w.heap.size w ((w.alloc (.cells #[.int .i64 a.f0, .int .i64 a.f1, .int .i64 a.f2, .int .i64 a.f3, .bool a.f4, .string a.f5, .slice A6 a.f6.length c6, .slice A7 a.f7.length c7] 25)).alloc (.cells #[.int .i64 b.f0, .int .i64 b.f1, .int .i64 b.f2, .int .i64 b.f3, .bool b.f4, .string b.f5, .slice B6 b.f6.length d6, .slice B7 b.f7.length d7] 25)) := below_alloc (below_alloc (Below.refl _ _) _) _
    have hx0 : ((w.alloc (.cells #[.int .i64 a.f0, .int .i64 a.f1, .int .i64 a.f2, .int .i64 a.f3, .bool a.f4, .string a.f5, .slice A6 a.f6.length c6, .slice A7 a.f7.length c7] 25)).alloc (.cells #[.int .i64 b.f0, .int .i64 b.f1, .int .i64 b.f2, .int .i64 b.f3, .bool b.f4, .string b.f5, .slice B6 b.f6.length d6, .slice B7 b.f7.length d7] 25)).heap[w.heap.size]? = some (.cells #[.int .i64 a.f0, .int .i64 a.f1, .int .i64 a.f2, .int .i64 a.f3, .bool a.f4, .string a.f5, .slice A6 a.f6.length c6, .slice A7 a.f7.length c7] 25 (0, 0)) := by
      have hh := heap_alloc_new w (.cells #[.int .i64 a.f0, .int .i64 a.f1, .int .i64 a.f2, .int .i64 a.f3, .bool a.f4, .string a.f5, .slice A6 a.f6.length c6, .slice A7 a.f7.length c7] 25)
      skip
      exact (blk_alloc hh _)
    have hx1 : ((w.alloc (.cells #[.int .i64 a.f0, .int .i64 a.f1, .int .i64 a.f2, .int .i64 a.f3, .bool a.f4, .string a.f5, .slice A6 a.f6.length c6, .slice A7 a.f7.length c7] 25)).alloc (.cells #[.int .i64 b.f0, .int .i64 b.f1, .int .i64 b.f2, .int .i64 b.f3, .bool b.f4, .string b.f5, .slice B6 b.f6.length d6, .slice B7 b.f7.length d7] 25)).heap[w.heap.size + 1]? = some (.cells #[.int .i64 b.f0, .int .i64 b.f1, .int .i64 b.f2, .int .i64 b.f3, .bool b.f4, .string b.f5, .slice B6 b.f6.length d6, .slice B7 b.f7.length d7] 25 (0, 0)) := by
      have hh := heap_alloc_new (w.alloc (.cells #[.int .i64 a.f0, .int .i64 a.f1, .int .i64 a.f2, .int .i64 a.f3, .bool a.f4, .string a.f5, .slice A6 a.f6.length c6, .slice A7 a.f7.length c7] 25)) (.cells #[.int .i64 b.f0, .int .i64 b.f1, .int .i64 b.f2, .int .i64 b.f3, .bool b.f4, .string b.f5, .slice B6 b.f6.length d6, .slice B7 b.f7.length d7] 25)
      rw [show (w.alloc (.cells #[.int .i64 a.f0, .int .i64 a.f1, .int .i64 a.f2, .int .i64 a.f3, .bool a.f4, .string a.f5, .slice A6 a.f6.length c6, .slice A7 a.f7.length c7] 25)).heap.size = w.heap.size + 1 by simp] at hh
      exact hh
    obtain ⟨W0, hW0⟩ : ∃ W0, ((w.alloc (.cells #[.int .i64 a.f0, .int .i64 a.f1, .int .i64 a.f2, .int .i64 a.f3, .bool a.f4, .string a.f5, .slice A6 a.f6.length c6, .slice A7 a.f7.length c7] 25)).alloc (.cells #[.int .i64 b.f0, .int .i64 b.f1, .int .i64 b.f2, .int .i64 b.f3, .bool b.f4, .string b.f5, .slice B6 b.f6.length d6, .slice B7 b.f7.length d7] 25)) = W0 := ⟨_, rfl⟩
    rw [hW0] at hbl hx0 hx1
    have HB0 := Aside0.mk hbl
    have HX0_0 := Aside0.mk hx0
    have HX0_1 := Aside0.mk hx1
    have HW0 := Aside0.mk hW0
    obtain ⟨q0_0_0, q0_0_1, q0_0_2, q0_0_3, q0_0_4, q0_0_5, q0_0_6, q0_0_7⟩ := rows8 HX0_0.out
    obtain ⟨q0_1_0, q0_1_1, q0_1_2, q0_1_3, q0_1_4, q0_1_5, q0_1_6, q0_1_7⟩ := rows8 HX0_1.out
    clear hbl hW0 hx0 hx1
    rw [← HW0.out] at q0_0_0 q0_0_1 q0_0_2 q0_0_3 q0_0_4 q0_0_5 q0_0_6 q0_0_7 q0_1_0 q0_1_1 q0_1_2 q0_1_3 q0_1_4 q0_1_5 q0_1_6 q0_1_7
    go_enter Tryz.func3, Tryz.ntmps3
    go_wp2_with fail
    rw [HW0.out]
    rw [HW0.out] at q0_0_0 q0_0_1 q0_0_2 q0_0_3 q0_0_4 q0_0_5 q0_0_6 q0_0_7 q0_1_0 q0_1_1 q0_1_2 q0_1_3 q0_1_4 q0_1_5 q0_1_6 q0_1_7
    refine (HDA.out _ HB0.out).mono ?_
    rintro e w1 ⟨rfl, hb1⟩
    have HB1 := Aside0.mk (below_to HB0.out hb1)
    have HX1_0 := Aside0.mk ((hb1.block _ (Array.getElem?_eq_some_iff.1 HX0_0.out).1).trans HX0_0.out)
    have HX1_1 := Aside0.mk ((hb1.block _ (Array.getElem?_eq_some_iff.1 HX0_1.out).1).trans HX0_1.out)
    obtain ⟨q1_0_0, q1_0_1, q1_0_2, q1_0_3, q1_0_4, q1_0_5, q1_0_6, q1_0_7⟩ := rows8 HX1_0.out
    obtain ⟨q1_1_0, q1_1_1, q1_1_2, q1_1_3, q1_1_4, q1_1_5, q1_1_6, q1_1_7⟩ := rows8 HX1_1.out
    clear hb1 q0_0_0 q0_0_1 q0_0_2 q0_0_3 q0_0_4 q0_0_5 q0_0_6 q0_0_7 q0_1_0 q0_1_1 q0_1_2 q0_1_3 q0_1_4 q0_1_5 q0_1_6 q0_1_7
    go_wp2_with fail
    refine (HAW.out _ HB1.out).mono ?_
    rintro e w2 ⟨rfl, hb2⟩
    have HB2 := Aside0.mk (below_to HB1.out hb2)
    have HX2_0 := Aside0.mk ((hb2.block _ (Array.getElem?_eq_some_iff.1 HX1_0.out).1).trans HX1_0.out)
    have HX2_1 := Aside0.mk ((hb2.block _ (Array.getElem?_eq_some_iff.1 HX1_1.out).1).trans HX1_1.out)
    obtain ⟨q2_0_0, q2_0_1, q2_0_2, q2_0_3, q2_0_4, q2_0_5, q2_0_6, q2_0_7⟩ := rows8 HX2_0.out
    obtain ⟨q2_1_0, q2_1_1, q2_1_2, q2_1_3, q2_1_4, q2_1_5, q2_1_6, q2_1_7⟩ := rows8 HX2_1.out
    clear hb2 q1_0_0 q1_0_1 q1_0_2 q1_0_3 q1_0_4 q1_0_5 q1_0_6 q1_0_7 q1_1_0 q1_1_1 q1_1_2 q1_1_3 q1_1_4 q1_1_5 q1_1_6 q1_1_7
    go_wp2_with fail
    go_ret
    exact ⟨rfl, HB2.out⟩
  | true =>
  rw [hfa] at HDA
  clear hfa
  cases hfb : (fewN b 3000 300).1 with
  | false =>
    rw [hfb] at HDB
    clear HPA HPB hfb hsm hinj
    have hbl : Below w.heap.size w ((w.alloc (.cells #[.int .i64 a.f0, .int .i64 a.f1, .int .i64 a.f2, .int .i64 a.f3, .bool a.f4, .string a.f5, .slice A6 a.f6.length c6, .slice A7 a.f7.length c7] 25)).alloc (.cells #[.int .i64 b.f0, .int .i64 b.f1, .int .i64 b.f2, .int .i64 b.f3, .bool b.f4, .string b.f5, .slice B6 b.f6.length d6, .slice B7 b.f7.length d7] 25)) := below_alloc (below_alloc (Below.refl _ _) _) _
    have hx0 : ((w.alloc (.cells #[.int .i64 a.f0, .int .i64 a.f1, .int .i64 a.f2, .int .i64 a.f3, .bool a.f4, .string a.f5, .slice A6 a.f6.length c6, .slice A7 a.f7.length c7] 25)).alloc (.cells #[.int .i64 b.f0, .int .i64 b.f1, .int .i64 b.f2, .int .i64 b.f3, .bool b.f4, .string b.f5, .slice B6 b.f6.length d6, .slice B7 b.f7.length d7] 25)).heap[w.heap.size]? = some (.cells #[.int .i64 a.f0, .int .i64 a.f1, .int .i64 a.f2, .int .i64 a.f3, .bool a.f4, .string a.f5, .slice A6 a.f6.length c6, .slice A7 a.f7.length c7] 25 (0, 0)) := by
      have hh := heap_alloc_new w (.cells #[.int .i64 a.f0, .int .i64 a.f1, .int .i64 a.f2, .int .i64 a.f3, .bool a.f4, .string a.f5, .slice A6 a.f6.length c6, .slice A7 a.f7.length c7] 25)
      skip
      exact (blk_alloc hh _)
    have hx1 : ((w.alloc (.cells #[.int .i64 a.f0, .int .i64 a.f1, .int .i64 a.f2, .int .i64 a.f3, .bool a.f4, .string a.f5, .slice A6 a.f6.length c6, .slice A7 a.f7.length c7] 25)).alloc (.cells #[.int .i64 b.f0, .int .i64 b.f1, .int .i64 b.f2, .int .i64 b.f3, .bool b.f4, .string b.f5, .slice B6 b.f6.length d6, .slice B7 b.f7.length d7] 25)).heap[w.heap.size + 1]? = some (.cells #[.int .i64 b.f0, .int .i64 b.f1, .int .i64 b.f2, .int .i64 b.f3, .bool b.f4, .string b.f5, .slice B6 b.f6.length d6, .slice B7 b.f7.length d7] 25 (0, 0)) := by
      have hh := heap_alloc_new (w.alloc (.cells #[.int .i64 a.f0, .int .i64 a.f1, .int .i64 a.f2, .int .i64 a.f3, .bool a.f4, .string a.f5, .slice A6 a.f6.length c6, .slice A7 a.f7.length c7] 25)) (.cells #[.int .i64 b.f0, .int .i64 b.f1, .int .i64 b.f2, .int .i64 b.f3, .bool b.f4, .string b.f5, .slice B6 b.f6.length d6, .slice B7 b.f7.length d7] 25)
      rw [show (w.alloc (.cells #[.int .i64 a.f0, .int .i64 a.f1, .int .i64 a.f2, .int .i64 a.f3, .bool a.f4, .string a.f5, .slice A6 a.f6.length c6, .slice A7 a.f7.length c7] 25)).heap.size = w.heap.size + 1 by simp] at hh
      exact hh
    obtain ⟨W0, hW0⟩ : ∃ W0, ((w.alloc (.cells #[.int .i64 a.f0, .int .i64 a.f1, .int .i64 a.f2, .int .i64 a.f3, .bool a.f4, .string a.f5, .slice A6 a.f6.length c6, .slice A7 a.f7.length c7] 25)).alloc (.cells #[.int .i64 b.f0, .int .i64 b.f1, .int .i64 b.f2, .int .i64 b.f3, .bool b.f4, .string b.f5, .slice B6 b.f6.length d6, .slice B7 b.f7.length d7] 25)) = W0 := ⟨_, rfl⟩
    rw [hW0] at hbl hx0 hx1
    have HB0 := Aside0.mk hbl
    have HX0_0 := Aside0.mk hx0
    have HX0_1 := Aside0.mk hx1
    have HW0 := Aside0.mk hW0
    obtain ⟨q0_0_0, q0_0_1, q0_0_2, q0_0_3, q0_0_4, q0_0_5, q0_0_6, q0_0_7⟩ := rows8 HX0_0.out
    obtain ⟨q0_1_0, q0_1_1, q0_1_2, q0_1_3, q0_1_4, q0_1_5, q0_1_6, q0_1_7⟩ := rows8 HX0_1.out
    clear hbl hW0 hx0 hx1
    rw [← HW0.out] at q0_0_0 q0_0_1 q0_0_2 q0_0_3 q0_0_4 q0_0_5 q0_0_6 q0_0_7 q0_1_0 q0_1_1 q0_1_2 q0_1_3 q0_1_4 q0_1_5 q0_1_6 q0_1_7
    go_enter Tryz.func3, Tryz.ntmps3
    go_wp2_with fail
    rw [HW0.out]
    rw [HW0.out] at q0_0_0 q0_0_1 q0_0_2 q0_0_3 q0_0_4 q0_0_5 q0_0_6 q0_0_7 q0_1_0 q0_1_1 q0_1_2 q0_1_3 q0_1_4 q0_1_5 q0_1_6 q0_1_7
    refine (HDA.out _ HB0.out).mono ?_
    rintro e w1 ⟨rfl, hb1⟩
    have HB1 := Aside0.mk (below_to HB0.out hb1)
    have HX1_0 := Aside0.mk ((hb1.block _ (Array.getElem?_eq_some_iff.1 HX0_0.out).1).trans HX0_0.out)
    have HX1_1 := Aside0.mk ((hb1.block _ (Array.getElem?_eq_some_iff.1 HX0_1.out).1).trans HX0_1.out)
    obtain ⟨q1_0_0, q1_0_1, q1_0_2, q1_0_3, q1_0_4, q1_0_5, q1_0_6, q1_0_7⟩ := rows8 HX1_0.out
    obtain ⟨q1_1_0, q1_1_1, q1_1_2, q1_1_3, q1_1_4, q1_1_5, q1_1_6, q1_1_7⟩ := rows8 HX1_1.out
    clear hb1 q0_0_0 q0_0_1 q0_0_2 q0_0_3 q0_0_4 q0_0_5 q0_0_6 q0_0_7 q0_1_0 q0_1_1 q0_1_2 q0_1_3 q0_1_4 q0_1_5 q0_1_6 q0_1_7
    go_wp2_with fail
    refine (HDB.out _ HB1.out).mono ?_
    rintro e w2 ⟨rfl, hb2⟩
    have HB2 := Aside0.mk (below_to HB1.out hb2)
    have HX2_0 := Aside0.mk ((hb2.block _ (Array.getElem?_eq_some_iff.1 HX1_0.out).1).trans HX1_0.out)
    have HX2_1 := Aside0.mk ((hb2.block _ (Array.getElem?_eq_some_iff.1 HX1_1.out).1).trans HX1_1.out)
    obtain ⟨q2_0_0, q2_0_1, q2_0_2, q2_0_3, q2_0_4, q2_0_5, q2_0_6, q2_0_7⟩ := rows8 HX2_0.out
    obtain ⟨q2_1_0, q2_1_1, q2_1_2, q2_1_3, q2_1_4, q2_1_5, q2_1_6, q2_1_7⟩ := rows8 HX2_1.out
    clear hb2 q1_0_0 q1_0_1 q1_0_2 q1_0_3 q1_0_4 q1_0_5 q1_0_6 q1_0_7 q1_1_0 q1_1_1 q1_1_2 q1_1_3 q1_1_4 q1_1_5 q1_1_6 q1_1_7
    go_wp2_with fail
    refine (HAW.out _ HB2.out).mono ?_
    rintro e w3 ⟨rfl, hb3⟩
    have HB3 := Aside0.mk (below_to HB2.out hb3)
    have HX3_0 := Aside0.mk ((hb3.block _ (Array.getElem?_eq_some_iff.1 HX2_0.out).1).trans HX2_0.out)
    have HX3_1 := Aside0.mk ((hb3.block _ (Array.getElem?_eq_some_iff.1 HX2_1.out).1).trans HX2_1.out)
    obtain ⟨q3_0_0, q3_0_1, q3_0_2, q3_0_3, q3_0_4, q3_0_5, q3_0_6, q3_0_7⟩ := rows8 HX3_0.out
    obtain ⟨q3_1_0, q3_1_1, q3_1_2, q3_1_3, q3_1_4, q3_1_5, q3_1_6, q3_1_7⟩ := rows8 HX3_1.out
    clear hb3 q2_0_0 q2_0_1 q2_0_2 q2_0_3 q2_0_4 q2_0_5 q2_0_6 q2_0_7 q2_1_0 q2_1_1 q2_1_2 q2_1_3 q2_1_4 q2_1_5 q2_1_6 q2_1_7
    go_wp2_with fail
    go_ret
    exact ⟨rfl, HB3.out⟩
  | true =>
  rw [hfb] at HDB
  clear hfb
  cases hca : canN (resolveL (rowsB al)) a with
  | false =>
    have hp : prN al a = (⟨#[]⟩, 1) := by unfold prN; rw [if_neg (by rw [hca]; decide)]
    rw [hp] at HPA
    obtain ⟨pb, hpb⟩ : ∃ pb, prN al b = pb := ⟨_, rfl⟩
    rw [hpb] at HPB
    clear hca hp hsm hinj hpb
    have hbl : Below w.heap.size w ((w.alloc (.cells #[.int .i64 a.f0, .int .i64 a.f1, .int .i64 a.f2, .int .i64 a.f3, .bool a.f4, .string a.f5, .slice A6 a.f6.length c6, .slice A7 a.f7.length c7] 25)).alloc (.cells #[.int .i64 b.f0, .int .i64 b.f1, .int .i64 b.f2, .int .i64 b.f3, .bool b.f4, .string b.f5, .slice B6 b.f6.length d6, .slice B7 b.f7.length d7] 25)) := below_alloc (below_alloc (Below.refl _ _) _) _
    have hx0 : ((w.alloc (.cells #[.int .i64 a.f0, .int .i64 a.f1, .int .i64 a.f2, .int .i64 a.f3, .bool a.f4, .string a.f5, .slice A6 a.f6.length c6, .slice A7 a.f7.length c7] 25)).alloc (.cells #[.int .i64 b.f0, .int .i64 b.f1, .int .i64 b.f2, .int .i64 b.f3, .bool b.f4, .string b.f5, .slice B6 b.f6.length d6, .slice B7 b.f7.length d7] 25)).heap[w.heap.size]? = some (.cells #[.int .i64 a.f0, .int .i64 a.f1, .int .i64 a.f2, .int .i64 a.f3, .bool a.f4, .string a.f5, .slice A6 a.f6.length c6, .slice A7 a.f7.length c7] 25 (0, 0)) := by
      have hh := heap_alloc_new w (.cells #[.int .i64 a.f0, .int .i64 a.f1, .int .i64 a.f2, .int .i64 a.f3, .bool a.f4, .string a.f5, .slice A6 a.f6.length c6, .slice A7 a.f7.length c7] 25)
      skip
      exact (blk_alloc hh _)
    have hx1 : ((w.alloc (.cells #[.int .i64 a.f0, .int .i64 a.f1, .int .i64 a.f2, .int .i64 a.f3, .bool a.f4, .string a.f5, .slice A6 a.f6.length c6, .slice A7 a.f7.length c7] 25)).alloc (.cells #[.int .i64 b.f0, .int .i64 b.f1, .int .i64 b.f2, .int .i64 b.f3, .bool b.f4, .string b.f5, .slice B6 b.f6.length d6, .slice B7 b.f7.length d7] 25)).heap[w.heap.size + 1]? = some (.cells #[.int .i64 b.f0, .int .i64 b.f1, .int .i64 b.f2, .int .i64 b.f3, .bool b.f4, .string b.f5, .slice B6 b.f6.length d6, .slice B7 b.f7.length d7] 25 (0, 0)) := by
      have hh := heap_alloc_new (w.alloc (.cells #[.int .i64 a.f0, .int .i64 a.f1, .int .i64 a.f2, .int .i64 a.f3, .bool a.f4, .string a.f5, .slice A6 a.f6.length c6, .slice A7 a.f7.length c7] 25)) (.cells #[.int .i64 b.f0, .int .i64 b.f1, .int .i64 b.f2, .int .i64 b.f3, .bool b.f4, .string b.f5, .slice B6 b.f6.length d6, .slice B7 b.f7.length d7] 25)
      rw [show (w.alloc (.cells #[.int .i64 a.f0, .int .i64 a.f1, .int .i64 a.f2, .int .i64 a.f3, .bool a.f4, .string a.f5, .slice A6 a.f6.length c6, .slice A7 a.f7.length c7] 25)).heap.size = w.heap.size + 1 by simp] at hh
      exact hh
    obtain ⟨W0, hW0⟩ : ∃ W0, ((w.alloc (.cells #[.int .i64 a.f0, .int .i64 a.f1, .int .i64 a.f2, .int .i64 a.f3, .bool a.f4, .string a.f5, .slice A6 a.f6.length c6, .slice A7 a.f7.length c7] 25)).alloc (.cells #[.int .i64 b.f0, .int .i64 b.f1, .int .i64 b.f2, .int .i64 b.f3, .bool b.f4, .string b.f5, .slice B6 b.f6.length d6, .slice B7 b.f7.length d7] 25)) = W0 := ⟨_, rfl⟩
    rw [hW0] at hbl hx0 hx1
    have HB0 := Aside0.mk hbl
    have HX0_0 := Aside0.mk hx0
    have HX0_1 := Aside0.mk hx1
    have HW0 := Aside0.mk hW0
    obtain ⟨q0_0_0, q0_0_1, q0_0_2, q0_0_3, q0_0_4, q0_0_5, q0_0_6, q0_0_7⟩ := rows8 HX0_0.out
    obtain ⟨q0_1_0, q0_1_1, q0_1_2, q0_1_3, q0_1_4, q0_1_5, q0_1_6, q0_1_7⟩ := rows8 HX0_1.out
    clear hbl hW0 hx0 hx1
    rw [← HW0.out] at q0_0_0 q0_0_1 q0_0_2 q0_0_3 q0_0_4 q0_0_5 q0_0_6 q0_0_7 q0_1_0 q0_1_1 q0_1_2 q0_1_3 q0_1_4 q0_1_5 q0_1_6 q0_1_7
    go_enter Tryz.func3, Tryz.ntmps3
    go_wp2_with fail
    rw [HW0.out]
    rw [HW0.out] at q0_0_0 q0_0_1 q0_0_2 q0_0_3 q0_0_4 q0_0_5 q0_0_6 q0_0_7 q0_1_0 q0_1_1 q0_1_2 q0_1_3 q0_1_4 q0_1_5 q0_1_6 q0_1_7
    refine (HDA.out _ HB0.out).mono ?_
    rintro e w1 ⟨rfl, hb1⟩
    have HB1 := Aside0.mk (below_to HB0.out hb1)
    have HX1_0 := Aside0.mk ((hb1.block _ (Array.getElem?_eq_some_iff.1 HX0_0.out).1).trans HX0_0.out)
    have HX1_1 := Aside0.mk ((hb1.block _ (Array.getElem?_eq_some_iff.1 HX0_1.out).1).trans HX0_1.out)
    obtain ⟨q1_0_0, q1_0_1, q1_0_2, q1_0_3, q1_0_4, q1_0_5, q1_0_6, q1_0_7⟩ := rows8 HX1_0.out
    obtain ⟨q1_1_0, q1_1_1, q1_1_2, q1_1_3, q1_1_4, q1_1_5, q1_1_6, q1_1_7⟩ := rows8 HX1_1.out
    clear hb1 q0_0_0 q0_0_1 q0_0_2 q0_0_3 q0_0_4 q0_0_5 q0_0_6 q0_0_7 q0_1_0 q0_1_1 q0_1_2 q0_1_3 q0_1_4 q0_1_5 q0_1_6 q0_1_7
    go_wp2_with fail
    refine (HDB.out _ HB1.out).mono ?_
    rintro e w2 ⟨rfl, hb2⟩
    have HB2 := Aside0.mk (below_to HB1.out hb2)
    have HX2_0 := Aside0.mk ((hb2.block _ (Array.getElem?_eq_some_iff.1 HX1_0.out).1).trans HX1_0.out)
    have HX2_1 := Aside0.mk ((hb2.block _ (Array.getElem?_eq_some_iff.1 HX1_1.out).1).trans HX1_1.out)
    obtain ⟨q2_0_0, q2_0_1, q2_0_2, q2_0_3, q2_0_4, q2_0_5, q2_0_6, q2_0_7⟩ := rows8 HX2_0.out
    obtain ⟨q2_1_0, q2_1_1, q2_1_2, q2_1_3, q2_1_4, q2_1_5, q2_1_6, q2_1_7⟩ := rows8 HX2_1.out
    clear hb2 q1_0_0 q1_0_1 q1_0_2 q1_0_3 q1_0_4 q1_0_5 q1_0_6 q1_0_7 q1_1_0 q1_1_1 q1_1_2 q1_1_3 q1_1_4 q1_1_5 q1_1_6 q1_1_7
    go_wp2_with fail
    refine (HPA.out _ HB2.out).mono ?_
    rintro e w3 ⟨rfl, hb3⟩
    have HB3 := Aside0.mk (below_to HB2.out hb3)
    have HX3_0 := Aside0.mk ((hb3.block _ (Array.getElem?_eq_some_iff.1 HX2_0.out).1).trans HX2_0.out)
    have HX3_1 := Aside0.mk ((hb3.block _ (Array.getElem?_eq_some_iff.1 HX2_1.out).1).trans HX2_1.out)
    obtain ⟨q3_0_0, q3_0_1, q3_0_2, q3_0_3, q3_0_4, q3_0_5, q3_0_6, q3_0_7⟩ := rows8 HX3_0.out
    obtain ⟨q3_1_0, q3_1_1, q3_1_2, q3_1_3, q3_1_4, q3_1_5, q3_1_6, q3_1_7⟩ := rows8 HX3_1.out
    clear hb3 q2_0_0 q2_0_1 q2_0_2 q2_0_3 q2_0_4 q2_0_5 q2_0_6 q2_0_7 q2_1_0 q2_1_1 q2_1_2 q2_1_3 q2_1_4 q2_1_5 q2_1_6 q2_1_7
    go_wp2_with fail
    refine (HPB.out _ HB3.out).mono ?_
    rintro e w4 ⟨rfl, hb4⟩
    have HB4 := Aside0.mk (below_to HB3.out hb4)
    have HX4_0 := Aside0.mk ((hb4.block _ (Array.getElem?_eq_some_iff.1 HX3_0.out).1).trans HX3_0.out)
    have HX4_1 := Aside0.mk ((hb4.block _ (Array.getElem?_eq_some_iff.1 HX3_1.out).1).trans HX3_1.out)
    obtain ⟨q4_0_0, q4_0_1, q4_0_2, q4_0_3, q4_0_4, q4_0_5, q4_0_6, q4_0_7⟩ := rows8 HX4_0.out
    obtain ⟨q4_1_0, q4_1_1, q4_1_2, q4_1_3, q4_1_4, q4_1_5, q4_1_6, q4_1_7⟩ := rows8 HX4_1.out
    clear hb4 q3_0_0 q3_0_1 q3_0_2 q3_0_3 q3_0_4 q3_0_5 q3_0_6 q3_0_7 q3_1_0 q3_1_1 q3_1_2 q3_1_3 q3_1_4 q3_1_5 q3_1_6 q3_1_7
    go_wp2_with fail
    refine (HAW.out _ HB4.out).mono ?_
    rintro e w5 ⟨rfl, hb5⟩
    have HB5 := Aside0.mk (below_to HB4.out hb5)
    have HX5_0 := Aside0.mk ((hb5.block _ (Array.getElem?_eq_some_iff.1 HX4_0.out).1).trans HX4_0.out)
    have HX5_1 := Aside0.mk ((hb5.block _ (Array.getElem?_eq_some_iff.1 HX4_1.out).1).trans HX4_1.out)
    obtain ⟨q5_0_0, q5_0_1, q5_0_2, q5_0_3, q5_0_4, q5_0_5, q5_0_6, q5_0_7⟩ := rows8 HX5_0.out
    obtain ⟨q5_1_0, q5_1_1, q5_1_2, q5_1_3, q5_1_4, q5_1_5, q5_1_6, q5_1_7⟩ := rows8 HX5_1.out
    clear hb5 q4_0_0 q4_0_1 q4_0_2 q4_0_3 q4_0_4 q4_0_5 q4_0_6 q4_0_7 q4_1_0 q4_1_1 q4_1_2 q4_1_3 q4_1_4 q4_1_5 q4_1_6 q4_1_7
    go_wp2_with fail
    go_ret
    exact ⟨rfl, HB5.out⟩
  | true =>
  cases hcb : canN (resolveL (rowsB al)) b with
  | false =>
    have hp : prN al a = (strOfNums (writeN a), 0) := by unfold prN; rw [if_pos hca]
    have hp2 : prN al b = (⟨#[]⟩, 1) := by unfold prN; rw [if_neg (by rw [hcb]; decide)]
    rw [hp] at HPA
    rw [hp2] at HPB
    obtain ⟨S, hS⟩ : ∃ S, strOfNums (writeN a) = S := ⟨_, rfl⟩
    rw [hS] at HPA
    clear hca hcb hp hp2 hsm hinj hS
    have hbl : Below w.heap.size w ((w.alloc (.cells #[.int .i64 a.f0, .int .i64 a.f1, .int .i64 a.f2, .int .i64 a.f3, .bool a.f4, .string a.f5, .slice A6 a.f6.length c6, .slice A7 a.f7.length c7] 25)).alloc (.cells #[.int .i64 b.f0, .int .i64 b.f1, .int .i64 b.f2, .int .i64 b.f3, .bool b.f4, .string b.f5, .slice B6 b.f6.length d6, .slice B7 b.f7.length d7] 25)) := below_alloc (below_alloc (Below.refl _ _) _) _
    have hx0 : ((w.alloc (.cells #[.int .i64 a.f0, .int .i64 a.f1, .int .i64 a.f2, .int .i64 a.f3, .bool a.f4, .string a.f5, .slice A6 a.f6.length c6, .slice A7 a.f7.length c7] 25)).alloc (.cells #[.int .i64 b.f0, .int .i64 b.f1, .int .i64 b.f2, .int .i64 b.f3, .bool b.f4, .string b.f5, .slice B6 b.f6.length d6, .slice B7 b.f7.length d7] 25)).heap[w.heap.size]? = some (.cells #[.int .i64 a.f0, .int .i64 a.f1, .int .i64 a.f2, .int .i64 a.f3, .bool a.f4, .string a.f5, .slice A6 a.f6.length c6, .slice A7 a.f7.length c7] 25 (0, 0)) := by
      have hh := heap_alloc_new w (.cells #[.int .i64 a.f0, .int .i64 a.f1, .int .i64 a.f2, .int .i64 a.f3, .bool a.f4, .string a.f5, .slice A6 a.f6.length c6, .slice A7 a.f7.length c7] 25)
      skip
      exact (blk_alloc hh _)
    have hx1 : ((w.alloc (.cells #[.int .i64 a.f0, .int .i64 a.f1, .int .i64 a.f2, .int .i64 a.f3, .bool a.f4, .string a.f5, .slice A6 a.f6.length c6, .slice A7 a.f7.length c7] 25)).alloc (.cells #[.int .i64 b.f0, .int .i64 b.f1, .int .i64 b.f2, .int .i64 b.f3, .bool b.f4, .string b.f5, .slice B6 b.f6.length d6, .slice B7 b.f7.length d7] 25)).heap[w.heap.size + 1]? = some (.cells #[.int .i64 b.f0, .int .i64 b.f1, .int .i64 b.f2, .int .i64 b.f3, .bool b.f4, .string b.f5, .slice B6 b.f6.length d6, .slice B7 b.f7.length d7] 25 (0, 0)) := by
      have hh := heap_alloc_new (w.alloc (.cells #[.int .i64 a.f0, .int .i64 a.f1, .int .i64 a.f2, .int .i64 a.f3, .bool a.f4, .string a.f5, .slice A6 a.f6.length c6, .slice A7 a.f7.length c7] 25)) (.cells #[.int .i64 b.f0, .int .i64 b.f1, .int .i64 b.f2, .int .i64 b.f3, .bool b.f4, .string b.f5, .slice B6 b.f6.length d6, .slice B7 b.f7.length d7] 25)
      rw [show (w.alloc (.cells #[.int .i64 a.f0, .int .i64 a.f1, .int .i64 a.f2, .int .i64 a.f3, .bool a.f4, .string a.f5, .slice A6 a.f6.length c6, .slice A7 a.f7.length c7] 25)).heap.size = w.heap.size + 1 by simp] at hh
      exact hh
    obtain ⟨W0, hW0⟩ : ∃ W0, ((w.alloc (.cells #[.int .i64 a.f0, .int .i64 a.f1, .int .i64 a.f2, .int .i64 a.f3, .bool a.f4, .string a.f5, .slice A6 a.f6.length c6, .slice A7 a.f7.length c7] 25)).alloc (.cells #[.int .i64 b.f0, .int .i64 b.f1, .int .i64 b.f2, .int .i64 b.f3, .bool b.f4, .string b.f5, .slice B6 b.f6.length d6, .slice B7 b.f7.length d7] 25)) = W0 := ⟨_, rfl⟩
    rw [hW0] at hbl hx0 hx1
    have HB0 := Aside0.mk hbl
    have HX0_0 := Aside0.mk hx0
    have HX0_1 := Aside0.mk hx1
    have HW0 := Aside0.mk hW0
    obtain ⟨q0_0_0, q0_0_1, q0_0_2, q0_0_3, q0_0_4, q0_0_5, q0_0_6, q0_0_7⟩ := rows8 HX0_0.out
    obtain ⟨q0_1_0, q0_1_1, q0_1_2, q0_1_3, q0_1_4, q0_1_5, q0_1_6, q0_1_7⟩ := rows8 HX0_1.out
    clear hbl hW0 hx0 hx1
    rw [← HW0.out] at q0_0_0 q0_0_1 q0_0_2 q0_0_3 q0_0_4 q0_0_5 q0_0_6 q0_0_7 q0_1_0 q0_1_1 q0_1_2 q0_1_3 q0_1_4 q0_1_5 q0_1_6 q0_1_7
    go_enter Tryz.func3, Tryz.ntmps3
    go_wp2_with fail
    rw [HW0.out]
    rw [HW0.out] at q0_0_0 q0_0_1 q0_0_2 q0_0_3 q0_0_4 q0_0_5 q0_0_6 q0_0_7 q0_1_0 q0_1_1 q0_1_2 q0_1_3 q0_1_4 q0_1_5 q0_1_6 q0_1_7
    refine (HDA.out _ HB0.out).mono ?_
    rintro e w1 ⟨rfl, hb1⟩
    have HB1 := Aside0.mk (below_to HB0.out hb1)
    have HX1_0 := Aside0.mk ((hb1.block _ (Array.getElem?_eq_some_iff.1 HX0_0.out).1).trans HX0_0.out)
    have HX1_1 := Aside0.mk ((hb1.block _ (Array.getElem?_eq_some_iff.1 HX0_1.out).1).trans HX0_1.out)
    obtain ⟨q1_0_0, q1_0_1, q1_0_2, q1_0_3, q1_0_4, q1_0_5, q1_0_6, q1_0_7⟩ := rows8 HX1_0.out
    obtain ⟨q1_1_0, q1_1_1, q1_1_2, q1_1_3, q1_1_4, q1_1_5, q1_1_6, q1_1_7⟩ := rows8 HX1_1.out
    clear hb1 q0_0_0 q0_0_1 q0_0_2 q0_0_3 q0_0_4 q0_0_5 q0_0_6 q0_0_7 q0_1_0 q0_1_1 q0_1_2 q0_1_3 q0_1_4 q0_1_5 q0_1_6 q0_1_7
    go_wp2_with fail
    refine (HDB.out _ HB1.out).mono ?_
    rintro e w2 ⟨rfl, hb2⟩
    have HB2 := Aside0.mk (below_to HB1.out hb2)
    have HX2_0 := Aside0.mk ((hb2.block _ (Array.getElem?_eq_some_iff.1 HX1_0.out).1).trans HX1_0.out)
    have HX2_1 := Aside0.mk ((hb2.block _ (Array.getElem?_eq_some_iff.1 HX1_1.out).1).trans HX1_1.out)
    obtain ⟨q2_0_0, q2_0_1, q2_0_2, q2_0_3, q2_0_4, q2_0_5, q2_0_6, q2_0_7⟩ := rows8 HX2_0.out
    obtain ⟨q2_1_0, q2_1_1, q2_1_2, q2_1_3, q2_1_4, q2_1_5, q2_1_6, q2_1_7⟩ := rows8 HX2_1.out
    clear hb2 q1_0_0 q1_0_1 q1_0_2 q1_0_3 q1_0_4 q1_0_5 q1_0_6 q1_0_7 q1_1_0 q1_1_1 q1_1_2 q1_1_3 q1_1_4 q1_1_5 q1_1_6 q1_1_7
    go_wp2_with fail
    refine (HPA.out _ HB2.out).mono ?_
    rintro e w3 ⟨rfl, hb3⟩
    have HB3 := Aside0.mk (below_to HB2.out hb3)
    have HX3_0 := Aside0.mk ((hb3.block _ (Array.getElem?_eq_some_iff.1 HX2_0.out).1).trans HX2_0.out)
    have HX3_1 := Aside0.mk ((hb3.block _ (Array.getElem?_eq_some_iff.1 HX2_1.out).1).trans HX2_1.out)
    obtain ⟨q3_0_0, q3_0_1, q3_0_2, q3_0_3, q3_0_4, q3_0_5, q3_0_6, q3_0_7⟩ := rows8 HX3_0.out
    obtain ⟨q3_1_0, q3_1_1, q3_1_2, q3_1_3, q3_1_4, q3_1_5, q3_1_6, q3_1_7⟩ := rows8 HX3_1.out
    clear hb3 q2_0_0 q2_0_1 q2_0_2 q2_0_3 q2_0_4 q2_0_5 q2_0_6 q2_0_7 q2_1_0 q2_1_1 q2_1_2 q2_1_3 q2_1_4 q2_1_5 q2_1_6 q2_1_7
    go_wp2_with fail
    refine (HPB.out _ HB3.out).mono ?_
    rintro e w4 ⟨rfl, hb4⟩
    have HB4 := Aside0.mk (below_to HB3.out hb4)
    have HX4_0 := Aside0.mk ((hb4.block _ (Array.getElem?_eq_some_iff.1 HX3_0.out).1).trans HX3_0.out)
    have HX4_1 := Aside0.mk ((hb4.block _ (Array.getElem?_eq_some_iff.1 HX3_1.out).1).trans HX3_1.out)
    obtain ⟨q4_0_0, q4_0_1, q4_0_2, q4_0_3, q4_0_4, q4_0_5, q4_0_6, q4_0_7⟩ := rows8 HX4_0.out
    obtain ⟨q4_1_0, q4_1_1, q4_1_2, q4_1_3, q4_1_4, q4_1_5, q4_1_6, q4_1_7⟩ := rows8 HX4_1.out
    clear hb4 q3_0_0 q3_0_1 q3_0_2 q3_0_3 q3_0_4 q3_0_5 q3_0_6 q3_0_7 q3_1_0 q3_1_1 q3_1_2 q3_1_3 q3_1_4 q3_1_5 q3_1_6 q3_1_7
    go_wp2_with fail
    refine (HAW.out _ HB4.out).mono ?_
    rintro e w5 ⟨rfl, hb5⟩
    have HB5 := Aside0.mk (below_to HB4.out hb5)
    have HX5_0 := Aside0.mk ((hb5.block _ (Array.getElem?_eq_some_iff.1 HX4_0.out).1).trans HX4_0.out)
    have HX5_1 := Aside0.mk ((hb5.block _ (Array.getElem?_eq_some_iff.1 HX4_1.out).1).trans HX4_1.out)
    obtain ⟨q5_0_0, q5_0_1, q5_0_2, q5_0_3, q5_0_4, q5_0_5, q5_0_6, q5_0_7⟩ := rows8 HX5_0.out
    obtain ⟨q5_1_0, q5_1_1, q5_1_2, q5_1_3, q5_1_4, q5_1_5, q5_1_6, q5_1_7⟩ := rows8 HX5_1.out
    clear hb5 q4_0_0 q4_0_1 q4_0_2 q4_0_3 q4_0_4 q4_0_5 q4_0_6 q4_0_7 q4_1_0 q4_1_1 q4_1_2 q4_1_3 q4_1_4 q4_1_5 q4_1_6 q4_1_7
    go_wp2_with fail
    go_ret
    exact ⟨rfl, HB5.out⟩
  | true =>
  have hp : prN al a = (strOfNums (writeN a), 0) := by unfold prN; rw [if_pos hca]
  have hp2 : prN al b = (strOfNums (writeN b), 0) := by unfold prN; rw [if_pos hcb]
  rw [hp] at HPA
  rw [hp2] at HPB
  by_cases he : strOfNums (writeN a) = strOfNums (writeN b)
  · have hab : a = b := hinj hca hcb (str_inj (write_rng hal.short a (can_vld hca)) (write_rng hal.short b (can_vld hcb)) he)
    have HSM := Aside0.mk (hsm hab)
    obtain ⟨S, hS⟩ : ∃ S, strOfNums (writeN a) = S := ⟨_, rfl⟩
    rw [← he, hS] at HPB
    rw [hS] at HPA
    clear hca hcb hp hp2 hsm hinj hS he hab
    have hbl : Below w.heap.size w ((w.alloc (.cells #[.int .i64 a.f0, .int .i64 a.f1, .int .i64 a.f2, .int .i64 a.f3, .bool a.f4, .string a.f5, .slice A6 a.f6.length c6, .slice A7 a.f7.length c7] 25)).alloc (.cells #[.int .i64 b.f0, .int .i64 b.f1, .int .i64 b.f2, .int .i64 b.f3, .bool b.f4, .string b.f5, .slice B6 b.f6.length d6, .slice B7 b.f7.length d7] 25)) := below_alloc (below_alloc (Below.refl _ _) _) _
    have hx0 : ((w.alloc (.cells #[.int .i64 a.f0, .int .i64 a.f1, .int .i64 a.f2, .int .i64 a.f3, .bool a.f4, .string a.f5, .slice A6 a.f6.length c6, .slice A7 a.f7.length c7] 25)).alloc (.cells #[.int .i64 b.f0, .int .i64 b.f1, .int .i64 b.f2, .int .i64 b.f3, .bool b.f4, .string b.f5, .slice B6 b.f6.length d6, .slice B7 b.f7.length d7] 25)).heap[w.heap.size]? = some (.cells #[.int .i64 a.f0, .int .i64 a.f1, .int .i64 a.f2, .int .i64 a.f3, .bool a.f4, .string a.f5, .slice A6 a.f6.length c6, .slice A7 a.f7.length c7] 25 (0, 0)) := by
      have hh := heap_alloc_new w (.cells #[.int .i64 a.f0, .int .i64 a.f1, .int .i64 a.f2, .int .i64 a.f3, .bool a.f4, .string a.f5, .slice A6 a.f6.length c6, .slice A7 a.f7.length c7] 25)
      skip
      exact (blk_alloc hh _)
    have hx1 : ((w.alloc (.cells #[.int .i64 a.f0, .int .i64 a.f1, .int .i64 a.f2, .int .i64 a.f3, .bool a.f4, .string a.f5, .slice A6 a.f6.length c6, .slice A7 a.f7.length c7] 25)).alloc (.cells #[.int .i64 b.f0, .int .i64 b.f1, .int .i64 b.f2, .int .i64 b.f3, .bool b.f4, .string b.f5, .slice B6 b.f6.length d6, .slice B7 b.f7.length d7] 25)).heap[w.heap.size + 1]? = some (.cells #[.int .i64 b.f0, .int .i64 b.f1, .int .i64 b.f2, .int .i64 b.f3, .bool b.f4, .string b.f5, .slice B6 b.f6.length d6, .slice B7 b.f7.length d7] 25 (0, 0)) := by
      have hh := heap_alloc_new (w.alloc (.cells #[.int .i64 a.f0, .int .i64 a.f1, .int .i64 a.f2, .int .i64 a.f3, .bool a.f4, .string a.f5, .slice A6 a.f6.length c6, .slice A7 a.f7.length c7] 25)) (.cells #[.int .i64 b.f0, .int .i64 b.f1, .int .i64 b.f2, .int .i64 b.f3, .bool b.f4, .string b.f5, .slice B6 b.f6.length d6, .slice B7 b.f7.length d7] 25)
      rw [show (w.alloc (.cells #[.int .i64 a.f0, .int .i64 a.f1, .int .i64 a.f2, .int .i64 a.f3, .bool a.f4, .string a.f5, .slice A6 a.f6.length c6, .slice A7 a.f7.length c7] 25)).heap.size = w.heap.size + 1 by simp] at hh
      exact hh
    obtain ⟨W0, hW0⟩ : ∃ W0, ((w.alloc (.cells #[.int .i64 a.f0, .int .i64 a.f1, .int .i64 a.f2, .int .i64 a.f3, .bool a.f4, .string a.f5, .slice A6 a.f6.length c6, .slice A7 a.f7.length c7] 25)).alloc (.cells #[.int .i64 b.f0, .int .i64 b.f1, .int .i64 b.f2, .int .i64 b.f3, .bool b.f4, .string b.f5, .slice B6 b.f6.length d6, .slice B7 b.f7.length d7] 25)) = W0 := ⟨_, rfl⟩
    rw [hW0] at hbl hx0 hx1
    have HB0 := Aside0.mk hbl
    have HX0_0 := Aside0.mk hx0
    have HX0_1 := Aside0.mk hx1
    have HW0 := Aside0.mk hW0
    obtain ⟨q0_0_0, q0_0_1, q0_0_2, q0_0_3, q0_0_4, q0_0_5, q0_0_6, q0_0_7⟩ := rows8 HX0_0.out
    obtain ⟨q0_1_0, q0_1_1, q0_1_2, q0_1_3, q0_1_4, q0_1_5, q0_1_6, q0_1_7⟩ := rows8 HX0_1.out
    clear hbl hW0 hx0 hx1
    rw [← HW0.out] at q0_0_0 q0_0_1 q0_0_2 q0_0_3 q0_0_4 q0_0_5 q0_0_6 q0_0_7 q0_1_0 q0_1_1 q0_1_2 q0_1_3 q0_1_4 q0_1_5 q0_1_6 q0_1_7
    go_enter Tryz.func3, Tryz.ntmps3
    go_wp2_with fail
    rw [HW0.out]
    rw [HW0.out] at q0_0_0 q0_0_1 q0_0_2 q0_0_3 q0_0_4 q0_0_5 q0_0_6 q0_0_7 q0_1_0 q0_1_1 q0_1_2 q0_1_3 q0_1_4 q0_1_5 q0_1_6 q0_1_7
    refine (HDA.out _ HB0.out).mono ?_
    rintro e w1 ⟨rfl, hb1⟩
    have HB1 := Aside0.mk (below_to HB0.out hb1)
    have HX1_0 := Aside0.mk ((hb1.block _ (Array.getElem?_eq_some_iff.1 HX0_0.out).1).trans HX0_0.out)
    have HX1_1 := Aside0.mk ((hb1.block _ (Array.getElem?_eq_some_iff.1 HX0_1.out).1).trans HX0_1.out)
    obtain ⟨q1_0_0, q1_0_1, q1_0_2, q1_0_3, q1_0_4, q1_0_5, q1_0_6, q1_0_7⟩ := rows8 HX1_0.out
    obtain ⟨q1_1_0, q1_1_1, q1_1_2, q1_1_3, q1_1_4, q1_1_5, q1_1_6, q1_1_7⟩ := rows8 HX1_1.out
    clear hb1 q0_0_0 q0_0_1 q0_0_2 q0_0_3 q0_0_4 q0_0_5 q0_0_6 q0_0_7 q0_1_0 q0_1_1 q0_1_2 q0_1_3 q0_1_4 q0_1_5 q0_1_6 q0_1_7
    go_wp2_with fail
    refine (HDB.out _ HB1.out).mono ?_
    rintro e w2 ⟨rfl, hb2⟩
    have HB2 := Aside0.mk (below_to HB1.out hb2)
    have HX2_0 := Aside0.mk ((hb2.block _ (Array.getElem?_eq_some_iff.1 HX1_0.out).1).trans HX1_0.out)
    have HX2_1 := Aside0.mk ((hb2.block _ (Array.getElem?_eq_some_iff.1 HX1_1.out).1).trans HX1_1.out)
    obtain ⟨q2_0_0, q2_0_1, q2_0_2, q2_0_3, q2_0_4, q2_0_5, q2_0_6, q2_0_7⟩ := rows8 HX2_0.out
    obtain ⟨q2_1_0, q2_1_1, q2_1_2, q2_1_3, q2_1_4, q2_1_5, q2_1_6, q2_1_7⟩ := rows8 HX2_1.out
    clear hb2 q1_0_0 q1_0_1 q1_0_2 q1_0_3 q1_0_4 q1_0_5 q1_0_6 q1_0_7 q1_1_0 q1_1_1 q1_1_2 q1_1_3 q1_1_4 q1_1_5 q1_1_6 q1_1_7
    go_wp2_with fail
    refine (HPA.out _ HB2.out).mono ?_
    rintro e w3 ⟨rfl, hb3⟩
    have HB3 := Aside0.mk (below_to HB2.out hb3)
    have HX3_0 := Aside0.mk ((hb3.block _ (Array.getElem?_eq_some_iff.1 HX2_0.out).1).trans HX2_0.out)
    have HX3_1 := Aside0.mk ((hb3.block _ (Array.getElem?_eq_some_iff.1 HX2_1.out).1).trans HX2_1.out)
    obtain ⟨q3_0_0, q3_0_1, q3_0_2, q3_0_3, q3_0_4, q3_0_5, q3_0_6, q3_0_7⟩ := rows8 HX3_0.out
    obtain ⟨q3_1_0, q3_1_1, q3_1_2, q3_1_3, q3_1_4, q3_1_5, q3_1_6, q3_1_7⟩ := rows8 HX3_1.out
    clear hb3 q2_0_0 q2_0_1 q2_0_2 q2_0_3 q2_0_4 q2_0_5 q2_0_6 q2_0_7 q2_1_0 q2_1_1 q2_1_2 q2_1_3 q2_1_4 q2_1_5 q2_1_6 q2_1_7
    go_wp2_with fail
    refine (HPB.out _ HB3.out).mono ?_
    rintro e w4 ⟨rfl, hb4⟩
    have HB4 := Aside0.mk (below_to HB3.out hb4)
    have HX4_0 := Aside0.mk ((hb4.block _ (Array.getElem?_eq_some_iff.1 HX3_0.out).1).trans HX3_0.out)
    have HX4_1 := Aside0.mk ((hb4.block _ (Array.getElem?_eq_some_iff.1 HX3_1.out).1).trans HX3_1.out)
    obtain ⟨q4_0_0, q4_0_1, q4_0_2, q4_0_3, q4_0_4, q4_0_5, q4_0_6, q4_0_7⟩ := rows8 HX4_0.out
    obtain ⟨q4_1_0, q4_1_1, q4_1_2, q4_1_3, q4_1_4, q4_1_5, q4_1_6, q4_1_7⟩ := rows8 HX4_1.out
    clear hb4 q3_0_0 q3_0_1 q3_0_2 q3_0_3 q3_0_4 q3_0_5 q3_0_6 q3_0_7 q3_1_0 q3_1_1 q3_1_2 q3_1_3 q3_1_4 q3_1_5 q3_1_6 q3_1_7
    go_wp2_with fail
    refine (HSM.out _ HB4.out).mono ?_
    rintro e w5 ⟨rfl, hb5⟩
    have HB5 := Aside0.mk (below_to HB4.out hb5)
    have HX5_0 := Aside0.mk ((hb5.block _ (Array.getElem?_eq_some_iff.1 HX4_0.out).1).trans HX4_0.out)
    have HX5_1 := Aside0.mk ((hb5.block _ (Array.getElem?_eq_some_iff.1 HX4_1.out).1).trans HX4_1.out)
    obtain ⟨q5_0_0, q5_0_1, q5_0_2, q5_0_3, q5_0_4, q5_0_5, q5_0_6, q5_0_7⟩ := rows8 HX5_0.out
    obtain ⟨q5_1_0, q5_1_1, q5_1_2, q5_1_3, q5_1_4, q5_1_5, q5_1_6, q5_1_7⟩ := rows8 HX5_1.out
    clear hb5 q4_0_0 q4_0_1 q4_0_2 q4_0_3 q4_0_4 q4_0_5 q4_0_6 q4_0_7 q4_1_0 q4_1_1 q4_1_2 q4_1_3 q4_1_4 q4_1_5 q4_1_6 q4_1_7
    go_wp2_with fail
    refine (HAW.out _ HB5.out).mono ?_
    rintro e w6 ⟨rfl, hb6⟩
    have HB6 := Aside0.mk (below_to HB5.out hb6)
    have HX6_0 := Aside0.mk ((hb6.block _ (Array.getElem?_eq_some_iff.1 HX5_0.out).1).trans HX5_0.out)
    have HX6_1 := Aside0.mk ((hb6.block _ (Array.getElem?_eq_some_iff.1 HX5_1.out).1).trans HX5_1.out)
    obtain ⟨q6_0_0, q6_0_1, q6_0_2, q6_0_3, q6_0_4, q6_0_5, q6_0_6, q6_0_7⟩ := rows8 HX6_0.out
    obtain ⟨q6_1_0, q6_1_1, q6_1_2, q6_1_3, q6_1_4, q6_1_5, q6_1_6, q6_1_7⟩ := rows8 HX6_1.out
    clear hb6 q5_0_0 q5_0_1 q5_0_2 q5_0_3 q5_0_4 q5_0_5 q5_0_6 q5_0_7 q5_1_0 q5_1_1 q5_1_2 q5_1_3 q5_1_4 q5_1_5 q5_1_6 q5_1_7
    go_wp2_with fail
    go_ret
    exact ⟨rfl, HB6.out⟩
  · obtain ⟨S, hS⟩ : ∃ S, strOfNums (writeN a) = S := ⟨_, rfl⟩
    obtain ⟨T, hT⟩ : ∃ T, strOfNums (writeN b) = T := ⟨_, rfl⟩
    rw [hT] at HPB he
    rw [hS] at HPA he
    have hne : (S.toList == T.toList) = false := by
      rw [beq_eq_false_iff_ne]
      exact fun e => he (ba_inj e)
    clear hca hcb hp hp2 hsm hinj hS hT he
    have hbl : Below w.heap.size w ((w.alloc (.cells #[.int .i64 a.f0, .int .i64 a.f1, .int .i64 a.f2, .int .i64 a.f3, .bool a.f4, .string a.f5, .slice A6 a.f6.length c6, .slice A7 a.f7.length c7] 25)).alloc (.cells #[.int .i64 b.f0, .int .i64 b.f1, .int .i64 b.f2, .int .i64 b.f3, .bool b.f4, .string b.f5, .slice B6 b.f6.length d6, .slice B7 b.f7.length d7] 25)) := below_alloc (below_alloc (Below.refl _ _) _) _
    have hx0 : ((w.alloc (.cells #[.int .i64 a.f0, .int .i64 a.f1, .int .i64 a.f2, .int .i64 a.f3, .bool a.f4, .string a.f5, .slice A6 a.f6.length c6, .slice A7 a.f7.length c7] 25)).alloc (.cells #[.int .i64 b.f0, .int .i64 b.f1, .int .i64 b.f2, .int .i64 b.f3, .bool b.f4, .string b.f5, .slice B6 b.f6.length d6, .slice B7 b.f7.length d7] 25)).heap[w.heap.size]? = some (.cells #[.int .i64 a.f0, .int .i64 a.f1, .int .i64 a.f2, .int .i64 a.f3, .bool a.f4, .string a.f5, .slice A6 a.f6.length c6, .slice A7 a.f7.length c7] 25 (0, 0)) := by
      have hh := heap_alloc_new w (.cells #[.int .i64 a.f0, .int .i64 a.f1, .int .i64 a.f2, .int .i64 a.f3, .bool a.f4, .string a.f5, .slice A6 a.f6.length c6, .slice A7 a.f7.length c7] 25)
      skip
      exact (blk_alloc hh _)
    have hx1 : ((w.alloc (.cells #[.int .i64 a.f0, .int .i64 a.f1, .int .i64 a.f2, .int .i64 a.f3, .bool a.f4, .string a.f5, .slice A6 a.f6.length c6, .slice A7 a.f7.length c7] 25)).alloc (.cells #[.int .i64 b.f0, .int .i64 b.f1, .int .i64 b.f2, .int .i64 b.f3, .bool b.f4, .string b.f5, .slice B6 b.f6.length d6, .slice B7 b.f7.length d7] 25)).heap[w.heap.size + 1]? = some (.cells #[.int .i64 b.f0, .int .i64 b.f1, .int .i64 b.f2, .int .i64 b.f3, .bool b.f4, .string b.f5, .slice B6 b.f6.length d6, .slice B7 b.f7.length d7] 25 (0, 0)) := by
      have hh := heap_alloc_new (w.alloc (.cells #[.int .i64 a.f0, .int .i64 a.f1, .int .i64 a.f2, .int .i64 a.f3, .bool a.f4, .string a.f5, .slice A6 a.f6.length c6, .slice A7 a.f7.length c7] 25)) (.cells #[.int .i64 b.f0, .int .i64 b.f1, .int .i64 b.f2, .int .i64 b.f3, .bool b.f4, .string b.f5, .slice B6 b.f6.length d6, .slice B7 b.f7.length d7] 25)
      rw [show (w.alloc (.cells #[.int .i64 a.f0, .int .i64 a.f1, .int .i64 a.f2, .int .i64 a.f3, .bool a.f4, .string a.f5, .slice A6 a.f6.length c6, .slice A7 a.f7.length c7] 25)).heap.size = w.heap.size + 1 by simp] at hh
      exact hh
    obtain ⟨W0, hW0⟩ : ∃ W0, ((w.alloc (.cells #[.int .i64 a.f0, .int .i64 a.f1, .int .i64 a.f2, .int .i64 a.f3, .bool a.f4, .string a.f5, .slice A6 a.f6.length c6, .slice A7 a.f7.length c7] 25)).alloc (.cells #[.int .i64 b.f0, .int .i64 b.f1, .int .i64 b.f2, .int .i64 b.f3, .bool b.f4, .string b.f5, .slice B6 b.f6.length d6, .slice B7 b.f7.length d7] 25)) = W0 := ⟨_, rfl⟩
    rw [hW0] at hbl hx0 hx1
    have HB0 := Aside0.mk hbl
    have HX0_0 := Aside0.mk hx0
    have HX0_1 := Aside0.mk hx1
    have HW0 := Aside0.mk hW0
    obtain ⟨q0_0_0, q0_0_1, q0_0_2, q0_0_3, q0_0_4, q0_0_5, q0_0_6, q0_0_7⟩ := rows8 HX0_0.out
    obtain ⟨q0_1_0, q0_1_1, q0_1_2, q0_1_3, q0_1_4, q0_1_5, q0_1_6, q0_1_7⟩ := rows8 HX0_1.out
    clear hbl hW0 hx0 hx1
    rw [← HW0.out] at q0_0_0 q0_0_1 q0_0_2 q0_0_3 q0_0_4 q0_0_5 q0_0_6 q0_0_7 q0_1_0 q0_1_1 q0_1_2 q0_1_3 q0_1_4 q0_1_5 q0_1_6 q0_1_7
    go_enter Tryz.func3, Tryz.ntmps3
    go_wp2_with fail
    rw [HW0.out]
    rw [HW0.out] at q0_0_0 q0_0_1 q0_0_2 q0_0_3 q0_0_4 q0_0_5 q0_0_6 q0_0_7 q0_1_0 q0_1_1 q0_1_2 q0_1_3 q0_1_4 q0_1_5 q0_1_6 q0_1_7
    refine (HDA.out _ HB0.out).mono ?_
    rintro e w1 ⟨rfl, hb1⟩
    have HB1 := Aside0.mk (below_to HB0.out hb1)
    have HX1_0 := Aside0.mk ((hb1.block _ (Array.getElem?_eq_some_iff.1 HX0_0.out).1).trans HX0_0.out)
    have HX1_1 := Aside0.mk ((hb1.block _ (Array.getElem?_eq_some_iff.1 HX0_1.out).1).trans HX0_1.out)
    obtain ⟨q1_0_0, q1_0_1, q1_0_2, q1_0_3, q1_0_4, q1_0_5, q1_0_6, q1_0_7⟩ := rows8 HX1_0.out
    obtain ⟨q1_1_0, q1_1_1, q1_1_2, q1_1_3, q1_1_4, q1_1_5, q1_1_6, q1_1_7⟩ := rows8 HX1_1.out
    clear hb1 q0_0_0 q0_0_1 q0_0_2 q0_0_3 q0_0_4 q0_0_5 q0_0_6 q0_0_7 q0_1_0 q0_1_1 q0_1_2 q0_1_3 q0_1_4 q0_1_5 q0_1_6 q0_1_7
    go_wp2_with fail
    refine (HDB.out _ HB1.out).mono ?_
    rintro e w2 ⟨rfl, hb2⟩
    have HB2 := Aside0.mk (below_to HB1.out hb2)
    have HX2_0 := Aside0.mk ((hb2.block _ (Array.getElem?_eq_some_iff.1 HX1_0.out).1).trans HX1_0.out)
    have HX2_1 := Aside0.mk ((hb2.block _ (Array.getElem?_eq_some_iff.1 HX1_1.out).1).trans HX1_1.out)
    obtain ⟨q2_0_0, q2_0_1, q2_0_2, q2_0_3, q2_0_4, q2_0_5, q2_0_6, q2_0_7⟩ := rows8 HX2_0.out
    obtain ⟨q2_1_0, q2_1_1, q2_1_2, q2_1_3, q2_1_4, q2_1_5, q2_1_6, q2_1_7⟩ := rows8 HX2_1.out
    clear hb2 q1_0_0 q1_0_1 q1_0_2 q1_0_3 q1_0_4 q1_0_5 q1_0_6 q1_0_7 q1_1_0 q1_1_1 q1_1_2 q1_1_3 q1_1_4 q1_1_5 q1_1_6 q1_1_7
    go_wp2_with fail
    refine (HPA.out _ HB2.out).mono ?_
    rintro e w3 ⟨rfl, hb3⟩
    have HB3 := Aside0.mk (below_to HB2.out hb3)
    have HX3_0 := Aside0.mk ((hb3.block _ (Array.getElem?_eq_some_iff.1 HX2_0.out).1).trans HX2_0.out)
    have HX3_1 := Aside0.mk ((hb3.block _ (Array.getElem?_eq_some_iff.1 HX2_1.out).1).trans HX2_1.out)
    obtain ⟨q3_0_0, q3_0_1, q3_0_2, q3_0_3, q3_0_4, q3_0_5, q3_0_6, q3_0_7⟩ := rows8 HX3_0.out
    obtain ⟨q3_1_0, q3_1_1, q3_1_2, q3_1_3, q3_1_4, q3_1_5, q3_1_6, q3_1_7⟩ := rows8 HX3_1.out
    clear hb3 q2_0_0 q2_0_1 q2_0_2 q2_0_3 q2_0_4 q2_0_5 q2_0_6 q2_0_7 q2_1_0 q2_1_1 q2_1_2 q2_1_3 q2_1_4 q2_1_5 q2_1_6 q2_1_7
    go_wp2_with fail
    refine (HPB.out _ HB3.out).mono ?_
    rintro e w4 ⟨rfl, hb4⟩
    have HB4 := Aside0.mk (below_to HB3.out hb4)
    have HX4_0 := Aside0.mk ((hb4.block _ (Array.getElem?_eq_some_iff.1 HX3_0.out).1).trans HX3_0.out)
    have HX4_1 := Aside0.mk ((hb4.block _ (Array.getElem?_eq_some_iff.1 HX3_1.out).1).trans HX3_1.out)
    obtain ⟨q4_0_0, q4_0_1, q4_0_2, q4_0_3, q4_0_4, q4_0_5, q4_0_6, q4_0_7⟩ := rows8 HX4_0.out
    obtain ⟨q4_1_0, q4_1_1, q4_1_2, q4_1_3, q4_1_4, q4_1_5, q4_1_6, q4_1_7⟩ := rows8 HX4_1.out
    clear hb4 q3_0_0 q3_0_1 q3_0_2 q3_0_3 q3_0_4 q3_0_5 q3_0_6 q3_0_7 q3_1_0 q3_1_1 q3_1_2 q3_1_3 q3_1_4 q3_1_5 q3_1_6 q3_1_7
    go_wp2_with fail
    refine (HAW.out _ HB4.out).mono ?_
    rintro e w5 ⟨rfl, hb5⟩
    have HB5 := Aside0.mk (below_to HB4.out hb5)
    have HX5_0 := Aside0.mk ((hb5.block _ (Array.getElem?_eq_some_iff.1 HX4_0.out).1).trans HX4_0.out)
    have HX5_1 := Aside0.mk ((hb5.block _ (Array.getElem?_eq_some_iff.1 HX4_1.out).1).trans HX4_1.out)
    obtain ⟨q5_0_0, q5_0_1, q5_0_2, q5_0_3, q5_0_4, q5_0_5, q5_0_6, q5_0_7⟩ := rows8 HX5_0.out
    obtain ⟨q5_1_0, q5_1_1, q5_1_2, q5_1_3, q5_1_4, q5_1_5, q5_1_6, q5_1_7⟩ := rows8 HX5_1.out
    clear hb5 q4_0_0 q4_0_1 q4_0_2 q4_0_3 q4_0_4 q4_0_5 q4_0_6 q4_0_7 q4_1_0 q4_1_1 q4_1_2 q4_1_3 q4_1_4 q4_1_5 q4_1_6 q4_1_7
    go_wp2_with fail
    go_ret
    exact ⟨rfl, HB5.out⟩

end Go.Proofs.YtkipjalfgdfaiaaGreatDoor
namespace Go.Proofs.YtkipjalfgdfaiaaGreatDoor
set_option linter.unusedVariables false
set_option linter.unusedSimpArgs false
open Go.ChangeShapes Go.WideShapes Go.ChangeAt Go.RowKit

theorem tab_of {w : World} {l : List (String × DataW Unit)} (hl : laidMet Tryz.prog l w) (hm : ("math/bits.deBruijn64tab", Rows.laid_math_bits_deBruijn64tab) ∈ l) : w.cell? ⟨6, 15, none⟩ = some (.int .u8 4) := by
  obtain ⟨g', t', cs, fuel, p, hg', ht', hv, htr⟩ := Lib.laidMet.reads hl hm
  obtain rfl := Option.some.inj ((show Tryz.prog.globalNamed "math/bits.deBruijn64tab" = some 6 by kernel_rfl).symm.trans hg')
  obtain rfl := Option.some.inj ((show (Tryz.prog.globals[6]?).map (·.type) = some 202 by kernel_rfl).symm.trans ht')
  have hc := World.var?_cell hg' hv 15
  have h := Lib.cells_of_tab (zs := [0, 1, 56, 2, 57, 49, 28, 3, 61, 58, 42, 50, 38, 29, 17, 4, 62, 47, 59, 36, 45, 43, 51, 22, 53, 39, 33, 30, 24, 18, 12, 5, 63, 55, 48, 27, 60, 41, 37, 16, 46, 35, 44, 21, 52, 32, 23, 11, 54, 26, 40, 15, 34, 20, 31, 10, 25, 14, 19, 9, 13, 8, 7, 6]) (k := .u8) Tryz.underlying202 Tryz.underlying5 (by kernel_rfl) (by kernel_rfl) htr
  rw [hc]
  have h2 : cs[15]? = cs.toList[15]? := by simp
  rw [h2, h]
  rfl

end Go.Proofs.YtkipjalfgdfaiaaGreatDoor
namespace Go.Proofs.YtkipjalfgdfaiaaGreatDoor
set_option linter.unusedVariables false
set_option linter.unusedSimpArgs false
open Go.ChangeShapes Go.WideShapes Go.ChangeAt Go.RowKit

theorem wvars_of {w : World} {l : List (String × DataW Unit)} (hl : laidMet Tryz.prog l w) (h1 : ("math/bits.deBruijn64tab", Rows.laid_math_bits_deBruijn64tab) ∈ l) (h2 : ("internal/strconv.uint64pow10", Rows.laid_internal_strconv_uint64pow10) ∈ l) (hs : w.ShapedOpen Tryz.prog) : ∃ m, WVars w m := by
  obtain ⟨m, hmx⟩ := maxIs_of hs
  have ht := tab_of hl h1
  have hp : Lib.TabIs Tryz.prog w "internal/strconv.uint64pow10" .u64 Lib.pow10Tab := by
    obtain ⟨g', t', cs, fuel, p, hg', ht', hv, htr⟩ := Lib.laidMet.reads hl h2
    obtain rfl := Option.some.inj ((show Tryz.prog.globalNamed "internal/strconv.uint64pow10" = some 1 by kernel_rfl).symm.trans hg')
    obtain rfl := Option.some.inj ((show (Tryz.prog.globals[1]?).map (·.type) = some 159 by kernel_rfl).symm.trans ht')
    have h := Lib.cells_of_tab (zs := Lib.pow10Tab) (k := .u64) Tryz.underlying159 Tryz.underlying131 (by kernel_rfl) (by kernel_rfl) htr
    unfold Lib.TabIs
    rw [hv, ← h]
  exact ⟨m, ⟨hmx, ht⟩, fun W hW => Lib.tabBelow_of_tabIs hp W hW⟩

end Go.Proofs.YtkipjalfgdfaiaaGreatDoor
namespace Go.Proofs.YtkipjalfgdfaiaaGreatDoor.treeApart
open Go.ChangeShapes Go.WideShapes Go.ChangeAt Go.RowKit
open Go.ChangeMaps (open_string shut_string)
set_option linter.unusedVariables false
set_option linter.unusedSimpArgs false
theorem own : ownKnob Tryz.prog.godebug = none := by kernel_rfl
theorem laidOut_ : laidOutB Tryz.prog = true := by kernel_rfl
theorem laid_met (os : Os) : laidMet Tryz.prog Rows.treeApartUptoRow.laid ((World.laidAll Tryz.prog os Rows.treeApartUptoRow.laid).forCall (fun _ _ => 0) ⟨#[], #[.agg #[.int .i64 0, .int .i64 0, .int .i64 0, .int .i64 0, .bool false, .string ⟨#[]⟩, .slice none 0 0, .slice none 0 0], .agg #[.int .i64 0, .int .i64 0, .int .i64 0, .int .i64 0, .bool false, .string ⟨#[]⟩, .slice none 0 0, .slice none 0 0]], []⟩).memory :=
  laidMet_laidAll _ (by kernel_rfl) (by kernel_rfl)
theorem reads (os : Os) {H : Type} (enc : TypeId × Value → H) : ∃ places, DataW.whole enc Tryz.prog ((World.laidAll Tryz.prog os Rows.treeApartUptoRow.laid).forCall (fun _ _ => 0) ⟨#[], #[.agg #[.int .i64 0, .int .i64 0, .int .i64 0, .int .i64 0, .bool false, .string ⟨#[]⟩, .slice none 0 0, .slice none 0 0], .agg #[.int .i64 0, .int .i64 0, .int .i64 0, .int .i64 0, .bool false, .string ⟨#[]⟩, .slice none 0 0, .slice none 0 0]], []⟩).memory Tryz.f3.params.toList Rows.treeApartSpec.vars false (#[.agg #[.int .i64 0, .int .i64 0, .int .i64 0, .int .i64 0, .bool false, .string ⟨#[]⟩, .slice none 0 0, .slice none 0 0], .agg #[.int .i64 0, .int .i64 0, .int .i64 0, .int .i64 0, .bool false, .string ⟨#[]⟩, .slice none 0 0, .slice none 0 0]] : Array Value).toList 8 = some ([.agg [.lit (.int .i64 0), .lit (.int .i64 0), .lit (.int .i64 0), .lit (.int .i64 0), .lit (.bool false), .lit (.string []), .nil, .nil], .agg [.lit (.int .i64 0), .lit (.int .i64 0), .lit (.int .i64 0), .lit (.int .i64 0), .lit (.bool false), .lit (.string []), .nil, .nil]], [], places) :=
  ⟨[], by kernel_rfl⟩
set_option maxRecDepth 100000 in
theorem lifted (os : Os) (started : os.Started) (H : Type) (enc : TypeId × Value → H) (F : Stop.Interp) :
    ReturnsInHanded {} Tryz.checked os 3 .any ((Rows.OpenSpec.upto Rows.treeApartSpec).preRow enc Tryz.prog Tryz.f3 Rows.treeApartUptoRow.domain false Rows.treeApartUptoRow.laid) (((Rows.OpenSpec.upto Rows.treeApartSpec).at F).post enc Tryz.prog Tryz.f3 false true false false) := by
  obtain ⟨places, hx⟩ := reads os enc
  refine returnsInHanded_of_row (C := Tryz.checked) (s := Rows.OpenSpec.upto Rows.treeApartSpec) own started (by kernel_rfl) Tryz.func3
    (witness_row_zip (enc := enc) (C := Tryz.checked) (World.laidAll Tryz.prog os Rows.treeApartUptoRow.laid) #[.agg #[.int .i64 0, .int .i64 0, .int .i64 0, .int .i64 0, .bool false, .string ⟨#[]⟩, .slice none 0 0, .slice none 0 0], .agg #[.int .i64 0, .int .i64 0, .int .i64 0, .int .i64 0, .bool false, .string ⟨#[]⟩, .slice none 0 0, .slice none 0 0]] (World.laidAll_os _ _ _) (World.shaped_of_ZipB (by kernel_rfl) (by kernel_rfl)) (by kernel_rfl)
      (OpenSpec.preRow_of_cond 8 hx (by kernel_rfl) (fun k hk => by cases hk; kernel_rfl) (by kernel_rfl) (laid_met os))) ?_
  intro W base args ds gs before hval0 hW _ hk0 hz0 hlaid hS _
  obtain ⟨m, hm⟩ := wvars_of hlaid (by repeat (first | exact List.Mem.head _ | apply List.Mem.tail)) (by repeat (first | exact List.Mem.head _ | apply List.Mem.tail)) hS
  have hval : ∀ (j : Nat) t v, Tryz.f3.params[j]? = some t → args[j]? = some v → Value.okWide Tryz.prog W .any base t v := hval0
  have hW' := hW
  obtain ⟨p, q, hA0, hV, rfl, hfz, hnd⟩ := hW
  have hA : DataW.TrodAll enc Tryz.prog W 0 (fun _ => true) true Tryz.f3.params.toList args.toList ds p := hA0
  rw [Tryz.params3] at hA hval
  obtain ⟨v0, vs0, d0, ds0, p0, q0, hargs, rfl, rfl, h0, r0⟩ := trodAll_cons hA
  obtain ⟨v1, vs1, d1, ds1, p1, q1, rfl, rfl, rfl, h1, r1⟩ := trodAll_cons r0
  obtain ⟨rfl, rfl, rfl⟩ := trodAll_nil r1
  obtain rfl : args = #[v0, v1] := by cases args; simp_all
  obtain ⟨rfl, rfl⟩ := trodVars_none hV
  have k0 := h0
  have lt0 : ∀ x ∈ p0, x.block < W.heap.size := by obtain ⟨m, hm⟩ := k0; exact DataW.trod_lt m _ _ _ hm
  obtain ⟨n0, w0, b0⟩ := open_Nd (hval 0 25 v0 rfl rfl) h0
  have k1 := h1
  have lt1 : ∀ x ∈ p1, x.block < W.heap.size := by obtain ⟨m, hm⟩ := k1; exact DataW.trod_lt m _ _ _ hm
  obtain ⟨n1, w1, b1⟩ := open_Nd (hval 1 25 v1 rfl rfl) h1
  have hbk := bulk_all (hk0 _ rfl)
  simp only [List.cons_append, List.nil_append, List.append_nil, Rows.uptoBulkAll] at hbk
  clear hA0 hval0 hz0
  refine (TreeApart_walk W _ n0 _ n1 w0 w1 m hm (by omega) (by omega)).mono fun e W' ⟨he, bel⟩ => ?_
  subst he
  exact ⟨_, rfl, _, _, _, [], _, [], hW', trodAll_mk1 (shut_bool Tryz.underlying4 _), (trodAll_cons_mk (Below.trod laidOut_ (by kernel_rfl) (of_decide_eq_true (by kernel_rfl)) k0 bel lt0) (trodAll_cons_mk (Below.trod laidOut_ (by kernel_rfl) (of_decide_eq_true (by kernel_rfl)) k1 bel lt1) trodAll_mk0)), rfl, bel.frame _, fun h => by cases h⟩
theorem said : Rows.TreeApartUptoSaid :=
  OpenClaim.holds_of_cond 3 Tryz.f3 rfl rfl rfl rfl rfl rfl rfl ⟨rfl, rfl, rfl, rfl, rfl⟩ rfl rfl rfl rfl rfl (by kernel_rfl) Tryz.func3 (by kernel_rfl)
    (of_decide_eq_true (by kernel_rfl)) (by unfold Func.isWrapper; first | (rw [if_pos (by decide +kernel)]; kernel_rfl) | (rw [if_neg (by decide +kernel)]; exact ⟨rfl, rfl⟩))
    (fun os started H enc _ F => by rw [OpenClaim.pre_eq_preRow]; exact lifted os started H enc F)
theorem plain (f : FuncId) (fn : Func) (hf : Tryz.pinned.checked.prog.funcNamed Rows.treeApartUptoRow.func = some f) (hfn : Tryz.pinned.checked.prog.funcs[f]? = some fn) :
    true = Tryz.pinned.checked.prog.looks [] ∧ ∀ (j : Nat) t, fn.params[j]? = some t → Tryz.pinned.checked.prog.wantsStandIn t = false := by
  obtain rfl : f = 3 := Option.some.inj ((show Tryz.prog.funcNamed Rows.treeApartUptoRow.func = some 3 by kernel_rfl).symm.trans hf) |>.symm
  obtain rfl : fn = Tryz.f3 := (Option.some.inj (Tryz.func3.symm.trans hfn)).symm
  refine ⟨by kernel_rfl, fun j t ht => ?_⟩
  rw [Tryz.params3] at ht
  have hm : t ∈ [25, 25] := by simpa using Array.mem_of_getElem? ht
  have hall : ([25, 25].all fun u => !Tryz.prog.wantsStandIn u) = true := by kernel_rfl
  exact (show Tryz.prog.wantsStandIn t = false by simpa using List.all_eq_true.1 hall t hm)
end Go.Proofs.YtkipjalfgdfaiaaGreatDoor.treeApart
namespace Go.Proofs.YtkipjalfgdfaiaaGreatDoor
theorem treeApart_holds : Rows.TreeApartUptoCardSaid :=
  Claim7.holds_tied_plain_at .later [] _ _ _ _ treeApart.said (fun _ h => by cases h) (by kernel_rfl) (fun _ h => by cases h) treeApartUpto_row_tie rfl ⟨rfl, rfl⟩ (by kernel_rfl) rfl treeApart.plain (by kernel_rfl)
end Go.Proofs.YtkipjalfgdfaiaaGreatDoor
namespace Go.Proofs.YtkipjalfgdfaiaaGreatDoor
#print axioms treeApart_holds
end Go.Proofs.YtkipjalfgdfaiaaGreatDoor
