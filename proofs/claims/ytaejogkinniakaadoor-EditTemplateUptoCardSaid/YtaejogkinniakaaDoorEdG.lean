/- Matches that may be, what stands between them, and that both together are the bytes. Pure: no program. -/
import Derived.Test.YtaejogkinniakaaDoorEdPure
namespace Go.Proofs.YtaejogkinniakaaDoor
set_option linter.unusedVariables false
set_option linter.unusedSimpArgs false

def fitsS (n : Int) (s : Sp) : Prop := 0 ≤ s.1 ∧ s.1 ≤ s.2 ∧ s.2 ≤ n
instance (n : Int) (s : Sp) : Decidable (fitsS n s) := by unfold fitsS; exact inferInstance
def noneS : Sp := (-1, -1)
/-- Matches may be, behind last: each has a first span, in the bytes and not ahead of last; its others are none, or in the bytes. -/
def mayL (n : Int) : Int → List (List Sp) → Prop
  | _, [] => True
  | _, [] :: _ => False
  | last, (s :: t) :: r => (fitsS n s ∧ last ≤ s.1 ∧ ∀ x ∈ t, x = noneS ∨ fitsS n x) ∧ mayL n s.2 r
instance decMay (n : Int) : ∀ (last : Int) (l : List (List Sp)), Decidable (mayL n last l)
  | _, [] => isTrue trivial
  | _, [] :: _ => isFalse id
  | last, (s :: t) :: r => @instDecidableAnd _ _ inferInstance (decMay n s.2 r)
/-- What stands between first spans, and behind the last. -/
def gapsL (b : List Int) : Int → List (List Sp) → List (List Int)
  | last, [] => [b.drop last.toNat]
  | last, f :: r => ((b.take (f.headD noneS).1.toNat).drop last.toNat) :: gapsL b (f.headD noneS).2 r
/-- The bytes of a first span. -/
def spanL (b : List Int) (f : List Sp) : List Int := (b.take (f.headD noneS).2.toNat).drop (f.headD noneS).1.toNat
/-- Parts, with what stands between them. -/
def joinL : List (List Int) → List (List Int) → List Int
  | g :: gs, m :: ms => g ++ m ++ joinL gs ms
  | g :: _, [] => g
  | [], _ => []
theorem gapsL_len (b : List Int) : ∀ (last : Int) (l : List (List Sp)), (gapsL b last l).length = l.length + 1
  | _, [] => rfl
  | last, f :: r => by
    show (gapsL b _ r).length + 1 = r.length + 1 + 1
    rw [gapsL_len b _ r]
theorem cut_cut (b : List Int) {i j k : Nat} (h1 : i ≤ j) (h2 : j ≤ k) : (b.take j).drop i ++ (b.take k).drop j = (b.take k).drop i := by
  have e : (b.take k).take j = b.take j := by rw [List.take_take, Nat.min_eq_left h2]
  have h := (List.take_append_drop (j - i) ((b.take k).drop i)).symm
  rw [List.drop_drop, show i + (j - i) = j by omega] at h
  rw [h]
  congr 1
  rw [← List.drop_take, ← e]
theorem cut_end (b : List Int) {i j : Nat} (h1 : i ≤ j) : (b.take j).drop i ++ b.drop j = b.drop i := by
  have h := cut_cut b (k := b.length + j) h1 (by omega)
  rw [List.take_of_length_le (show b.length ≤ b.length + j by omega)] at h
  exact h
/-- Gaps and first spans, one behind the other, are the bytes. -/
theorem gaps_join (b : List Int) : ∀ (last : Int) (l : List (List Sp)), 0 ≤ last → mayL b.length last l → joinL (gapsL b last l) (l.map (spanL b)) = b.drop last.toNat
  | last, [], _, _ => rfl
  | last, [] :: r, _, h => h.elim
  | last, (s :: t) :: r, h0, h => by
    obtain ⟨⟨⟨h1, h2, h3⟩, h4, -⟩, h5⟩ := h
    have ih := gaps_join b s.2 r (by omega) h5
    show (b.take s.1.toNat).drop last.toNat ++ (b.take s.2.toNat).drop s.1.toNat ++ joinL (gapsL b s.2 r) (r.map (spanL b)) = _
    rw [ih, cut_cut b (by omega) (by omega), cut_end b (by omega)]

end Go.Proofs.YtaejogkinniakaaDoor
