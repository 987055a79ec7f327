/- Sets of which it is known what they hold. -/
import Derived.Test.YtpgnfccamcefgabRgBase
import Derived.Test.YtpgnfccamcefgabRgMk
namespace Go.Proofs.Ytpgnfccamcefgab
/-- Of the code points l holds those that P tells. -/
def IsOf (P : Int → Prop) (l : List Rg) : Prop := ∀ x, 0 ≤ x → x ≤ 1114111 → (Mem x l ↔ P x)
theorem IsOf.self (l : List Rg) : IsOf (fun x => Mem x l) l := fun _ _ _ => Iff.rfl
theorem SetOf.isOf {P : Int → Prop} {r : List Rg} (h : SetOf P r) : IsOf P r := fun x h0 h1 => (h.2 x).trans ⟨fun h => h.2.2, fun h => ⟨h0, h1, h⟩⟩
instance decCanon : ∀ (a : Int) (l : List Rg), Decidable (CanonFrom a l)
  | _, [] => isTrue trivial
  | a, p :: t =>
    match decCanon (p.2 + 2) t with
    | isTrue h => if g : a ≤ p.1 ∧ p.1 ≤ p.2 ∧ p.2 ≤ 1114111 then isTrue ⟨g.1, g.2.1, g.2.2, h⟩ else isFalse fun k => g ⟨k.1, k.2.1, k.2.2.1⟩
    | isFalse h => isFalse fun k => h k.2.2.2
instance (l : List Rg) : Decidable (Canon l) := decCanon 0 l
end Go.Proofs.Ytpgnfccamcefgab
