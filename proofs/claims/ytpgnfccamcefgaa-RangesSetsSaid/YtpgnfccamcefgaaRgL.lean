/- The contracts of the sets' functions in the form in which the laws' walks use them: a set of which it is known what it holds. -/
import Derived.Test.YtpgnfccamcefgaaRgK
import Derived.Test.YtpgnfccamcefgaaRgC
import Derived.Test.YtpgnfccamcefgaaRgI
namespace Go.Proofs.Ytpgnfccamcefgaa
set_option linter.unusedVariables false
set_option linter.unusedSimpArgs false
open Go.RowKit Go.Proofs.YtpgnfccamcefgaaW.PrintWords Go.Proofs.YtpgnfccamcefgaaW.PrintLast Go.Proofs.YtpgnfccamcefgaaW.PrintMore

/-- Of the code points l holds those that P tells. -/
def IsOf (P : Int → Prop) (l : List Rg) : Prop := ∀ x, 0 ≤ x → x ≤ 1114111 → (Mem x l ↔ P x)
theorem IsOf.self (l : List Rg) : IsOf (fun x => Mem x l) l := fun _ _ _ => Iff.rfl
theorem SetOf.isOf {P : Int → Prop} {r : List Rg} (h : SetOf P r) : IsOf P r := fun x h0 h1 => (h.2 x).trans ⟨fun h => h.2.2, fun h => ⟨h0, h1, h⟩⟩
/-- The call hands back a set, of what P tells, no longer than n. -/
def Got (P : Int → Prop) (n : Nat) (w : World) (e : Ending) (w' : World) : Prop := ∃ v r, e = .returned v ∧ SetOf P r ∧ r.length ≤ n ∧ RdS kR w' v r ∧ Below w.heap.size w w'
def GotSize (P : Int → Prop) (w : World) (e : Ending) (w' : World) : Prop := ∃ n r, e = .returned (.int .i64 n) ∧ SetOf P r ∧ n = sizeL r ∧ 0 ≤ n ∧ n ≤ 1114114 ∧ Below w.heap.size w w'
section
variable {w : World} {v u : Value} {l m : List Rg} {P Q : Int → Prop} {a b : Nat}
theorem make_got (h : RdS kR w v l) (hp : IsOf P l) (hn : l.length ≤ a) (hs : a * 16 ≤ 140737488355328) : Calls Try.prog 33 #[v] w (Got P a w) :=
  (make_any sort_said w v l h (Nat.le_trans (Nat.mul_le_mul_right _ hn) hs)).mono fun e w' ⟨v', r, e1, ⟨h1, h2⟩, ho, hb⟩ => ⟨v', r, e1, setOf_congr h1 hp, Nat.le_trans h2 hn, RdS.of_R ho, hb⟩
theorem not_got (h : RdS kR w v l) (hp : IsOf P l) (hn : l.length ≤ a) (hs : (a + 1) * 16 ≤ 140737488355328) : Calls Try.prog 42 #[v] w (Got (fun x => ¬ P x) (a + 1) w) :=
  (not_any w v l h (Nat.le_trans (Nat.mul_le_mul_right _ (by omega)) hs)).mono fun e w' ⟨v', r, e1, ⟨h1, h2⟩, ho, hb⟩ => ⟨v', r, e1, setOf_congr h1 (fun x h0 h1 => not_congr (hp x h0 h1)), by omega, RdS.of_R ho, hb⟩
theorem union_got (h : RdS kR w v l) (h' : RdS kR w u m) (hp : IsOf P l) (hq : IsOf Q m) (hn : l.length ≤ a) (hm : m.length ≤ b) (hs : (a + b) * 16 ≤ 140737488355328) : Calls Try.prog 45 #[v, u] w (Got (fun x => P x ∨ Q x) (a + b) w) :=
  (union_any w v u l m h h' (Nat.le_trans (Nat.mul_le_mul_right _ (by omega)) hs)).mono fun e w' ⟨v', r, e1, ⟨h1, h2⟩, ho, hb⟩ => ⟨v', r, e1, setOf_congr h1 (fun x h0 h1 => or_congr (hp x h0 h1) (hq x h0 h1)), by omega, RdS.of_R ho, hb⟩
theorem meet_got (h : RdS kR w v l) (h' : RdS kR w u m) (hp : IsOf P l) (hq : IsOf Q m) (hn : l.length ≤ a) (hm : m.length ≤ b) (hs : (a + b + 1) * 16 ≤ 140737488355328) : Calls Try.prog 44 #[v, u] w (Got (fun x => P x ∧ Q x) (a + b) w) :=
  (meet_any w v u l m h h' (Nat.le_trans (Nat.mul_le_mul_right _ (by omega)) hs)).mono fun e w' ⟨v', r, e1, ⟨h1, h2⟩, ho, hb⟩ => ⟨v', r, e1, setOf_congr h1 (fun x h0 h1 => and_congr (hp x h0 h1) (hq x h0 h1)), by omega, RdS.of_R ho, hb⟩
theorem minus_got (h : RdS kR w v l) (h' : RdS kR w u m) (hp : IsOf P l) (hq : IsOf Q m) (hn : l.length ≤ a) (hm : m.length ≤ b) (hs : (a + b + 2) * 16 ≤ 140737488355328) : Calls Try.prog 49 #[v, u] w (Got (fun x => P x ∧ ¬ Q x) (a + b + 1) w) :=
  (minus_any w v u l m h h' (Nat.le_trans (Nat.mul_le_mul_right _ (by omega)) hs)).mono fun e w' ⟨v', r, e1, ⟨h1, h2⟩, ho, hb⟩ => ⟨v', r, e1, setOf_congr h1 (fun x h0 h1 => and_congr (hp x h0 h1) (not_congr (hq x h0 h1))), by omega, RdS.of_R ho, hb⟩
theorem xor_got (h : RdS kR w v l) (h' : RdS kR w u m) (hp : IsOf P l) (hq : IsOf Q m) (hn : l.length ≤ a) (hm : m.length ≤ b) (hs : (a + b + 2) * 32 ≤ 140737488355328) : Calls Try.prog 46 #[v, u] w (Got (fun x => (P x ∧ ¬ Q x) ∨ (Q x ∧ ¬ P x)) (2 * (a + b + 1)) w) :=
  (xor_any w v u l m h h' (Nat.le_trans (Nat.mul_le_mul_right _ (by omega)) hs)).mono fun e w' ⟨v', r, e1, ⟨h1, h2⟩, ho, hb⟩ => ⟨v', r, e1, setOf_congr h1 (fun x h0 h1 => or_congr (and_congr (hp x h0 h1) (not_congr (hq x h0 h1))) (and_congr (hq x h0 h1) (not_congr (hp x h0 h1)))), by omega, RdS.of_R ho, hb⟩
theorem size_got (h : RdS kR w v l) (hp : IsOf P l) (hn : l.length ≤ a) (hs : a * 16 ≤ 140737488355328) : Calls Try.prog 37 #[v] w (GotSize P w) :=
  (size_any w v l h (Nat.le_trans (Nat.mul_le_mul_right _ hn) hs)).mono fun e w' ⟨n, e1, ⟨r, hr, en⟩, hb⟩ => ⟨n, r, e1, setOf_congr hr hp, en, by
    have := sizeL_bound r 0 (by omega) hr.1
    omega, by
    have := sizeL_bound r 0 (by omega) hr.1
    omega, hb⟩
theorem short_got (h : RdS kR w v l) : Calls Try.prog 30 #[v] w fun e w' => ∃ v', e = .returned v' ∧ RdS kR w' v' (l.take 40) ∧ (l.take 40).length ≤ 40 ∧ w' = w :=
  (short_any w v l h).mono fun e w' ⟨v', e1, hr, ew⟩ => ⟨v', e1, ew ▸ hr, by rw [List.length_take]; omega, ew.symm⟩
theorem clone_got (h : RdS kR w v l) (hn : l.length ≤ a) (hs : a * 16 ≤ 140737488355328) : Calls Try.prog 31 #[v] w fun e w' => ∃ v', e = .returned v' ∧ RdS kR w' v' l ∧ Below w.heap.size w w' :=
  (cloneR_any w v l h (Nat.le_trans (Nat.mul_le_mul_right _ hn) hs)).mono fun e w' ⟨v', e1, ho, hb⟩ => ⟨v', e1, RdS.of_R ho, hb⟩
theorem equal_got (h : RdS kR w v l) (h' : RdS kR w u m) (he : l = m) : Calls Try.prog 32 #[v, u] w fun e w' => e = .returned (.bool true) ∧ Below w.heap.size w w' :=
  (equalR_any w v u l m h h').mono fun e w' ⟨e1, hd⟩ => ⟨by rw [e1, decide_eq_true he], hd.below⟩
theorem has_got {r : Int} (h : RdS kR w v l) (hp : IsOf P l) : Calls Try.prog 39 #[v, .int .i64 r] w fun e w' => ∃ t : Bool, e = .returned (.bool t) ∧ (t = true ↔ (0 ≤ r ∧ r ≤ 1114111 ∧ P r)) ∧ Below w.heap.size w w' :=
  (has_any w v l r h).mono fun e w' ⟨e1, hb⟩ => ⟨_, e1, (hasB_iff l r).trans ⟨fun h => ⟨h.1, h.2.1, (hp r h.1 h.2.1).1 h.2.2⟩, fun h => ⟨h.1, h.2.1, (hp r h.1 h.2.1).2 h.2.2⟩⟩, hb⟩
theorem has_is {r : Int} (h : RdS kR w v l) (hp : IsOf P l) (t : Bool) (ht : t = true ↔ (0 ≤ r ∧ r ≤ 1114111 ∧ P r)) : Calls Try.prog 39 #[v, .int .i64 r] w fun e w' => e = .returned (.bool t) ∧ Below w.heap.size w w' :=
  (has_got h hp).mono fun e w' ⟨t', e1, ht', hb⟩ => ⟨by rw [e1, Bool.eq_iff_iff.2 (ht'.trans ht.symm)], hb⟩
theorem refHas_is {r : Int} (h : RdS kR w v l) (hp : IsOf P l) (t : Bool) (ht : t = true ↔ (0 ≤ r ∧ r ≤ 1114111 ∧ P r)) : Calls Try.prog 40 #[v, .int .i64 r] w fun e w' => e = .returned (.bool t) ∧ Below w.heap.size w w' :=
  (refHas_any w v l r h).mono fun e w' ⟨e1, hb⟩ => ⟨by rw [e1]; exact congrArg _ (congrArg _ (Bool.eq_iff_iff.2 (((hasB_iff l r).trans ⟨fun h => ⟨h.1, h.2.1, (hp r h.1 h.2.1).1 h.2.2⟩, fun h => ⟨h.1, h.2.1, (hp r h.1 h.2.1).2 h.2.2⟩⟩).trans ht.symm))), hb⟩
theorem can_got (h : RdS kR w v l) (hc : Canon l) : Calls Try.prog 35 #[v] w fun e w' => e = .returned (.bool true) ∧ Below w.heap.size w w' :=
  (can_any w v l h).mono fun e w' ⟨e1, hb⟩ => ⟨by rw [e1, decide_eq_true hc], hb⟩
theorem set_same {p q : Int → Prop} {a b : List Rg} (h : SetOf p a) (k : SetOf q b) (hpq : ∀ x, p x ↔ q x) : a = b := setOf_eq h (setOf_congr k (fun x _ _ => (hpq x).symm))
end

end Go.Proofs.Ytpgnfccamcefgaa
