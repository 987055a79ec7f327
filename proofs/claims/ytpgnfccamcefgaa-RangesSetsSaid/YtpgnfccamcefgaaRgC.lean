/- Walks: ranges.Can. -/
import Derived.Test.YtpgnfccamcefgaaRgBase
namespace Go.Proofs.Ytpgnfccamcefgaa
set_option linter.unusedVariables false
set_option linter.unusedSimpArgs false
open Go.RowKit Go.Proofs.YtpgnfccamcefgaaW.PrintWords Go.Proofs.YtpgnfccamcefgaaW.PrintLast Go.Proofs.YtpgnfccamcefgaaW.PrintMore
attribute [local go_sem] max2_int min2_int max_two min_two

instance decCanon : ∀ (a : Int) (l : List Rg), Decidable (CanonFrom a l)
  | _, [] => isTrue trivial
  | a, p :: t =>
    match decCanon (p.2 + 2) t with
    | isTrue h => if g : a ≤ p.1 ∧ p.1 ≤ p.2 ∧ p.2 ≤ 1114111 then isTrue ⟨g.1, g.2.1, g.2.2, h⟩ else isFalse fun k => g ⟨k.1, k.2.1, k.2.2.1⟩
    | isFalse h => isFalse fun k => h k.2.2.2
instance (l : List Rg) : Decidable (Canon l) := decCanon 0 l
theorem canon_drop {a : Int} {l : List Rg} {k : Nat} (hk : k < l.length) : CanonFrom a (l.drop k) ↔ a ≤ l[k].1 ∧ l[k].1 ≤ l[k].2 ∧ l[k].2 ≤ 1114111 ∧ CanonFrom (l[k].2 + 2) (l.drop (k + 1)) := by
  rw [List.drop_eq_getElem_cons hk]
  exact Iff.rfl

set_option maxHeartbeats 1000000 in
set_option maxRecDepth 100000 in
theorem can_any (w : World) (v : Value) (l : List Rg) (h : RdS kR w v l) :
    Calls Try.prog 35 #[v] w fun e w' => e = .returned (.bool (decide (Canon l))) ∧ Below w.heap.size w w' := by
  have hlen := h.len
  obtain ⟨A, c, rfl, hc, hr⟩ := h
  have HR := Aside0.mk hr
  clear hr hc
  go_enter Try.func35, Try.ntmps35
  go_wp2
  go_loopg [3, 8] l.length (fun g la i w' => ∃ (k : Nat) (last : Int), i = .int .i64 k ∧ la = .int .i64 last ∧ Aside0 (k ≤ l.length ∧ g = l.length - k ∧ (Canon l ↔ CanonFrom (last + 2) (l.drop k)) ∧ -2 ≤ last ∧ last ≤ 1114111) ∧ Aside0 (Below w.heap.size w w'))
  case atStart => exact ⟨0, -2, by first | rfl | simp, rfl, ⟨Nat.zero_le _, rfl, Iff.rfl, by omega, by omega⟩, ⟨Below.refl _ _⟩⟩
  case round =>
    obtain ⟨k, last, rfl, rfl, HA, HB⟩ := hrel
    have hb1 := HA.out.2.2.2.1
    have hb2 := HA.out.2.2.2.2
    by_cases hk : k < l.length
    · obtain ⟨ad, rfl, hx0, hx1⟩ := at_Rn HR.out k hk
      replace hx0 := (HB.out.cell (World.block_lt_of_cell? w _ hx0)).trans hx0
      replace hx1 := (HB.out.cell (World.block_lt_of_cell? w _ hx1)).trans hx1
      have HD : Aside0 (CanonFrom (last + 2) (l.drop k) ↔ last + 2 ≤ l[k].1 ∧ l[k].1 ≤ l[k].2 ∧ l[k].2 ≤ 1114111 ∧ CanonFrom (l[k].2 + 2) (l.drop (k + 1))) := ⟨canon_drop hk⟩
      obtain ⟨p, hp⟩ : ∃ p, l[k] = p := ⟨_, rfl⟩
      rw [hp] at hx0 hx1 HD
      clear hp
      by_cases h1 : p.1 ≤ p.2
      · by_cases h2 : 0 ≤ p.1
        · by_cases h3 : p.2 ≤ 1114111
          · by_cases h4 : last + 1 < p.1
            · go_wp2
              go_roundg (gk - 1)
              case measure => have := HA.out; omega
              case rel => exact ⟨k + 1, p.2, by go_num, rfl, ⟨by have := HA.out; omega, by have := HA.out; omega, by rw [HA.out.2.2.1, HD.out]; exact ⟨fun h => h.2.2.2, fun h => ⟨by omega, h1, h3, h⟩⟩, by omega, h3⟩, ⟨below_alloc HB.out _⟩⟩
            · have HF : Aside0 (decide (Canon l) = false) := ⟨decide_eq_false (fun hh => by rw [HA.out.2.2.1, HD.out] at hh; omega)⟩
              go_wp2
              go_ret
              exact ⟨by rw [HF.out]; rfl, below_alloc HB.out _⟩
          · have HF : Aside0 (decide (Canon l) = false) := ⟨decide_eq_false (fun hh => by rw [HA.out.2.2.1, HD.out] at hh; omega)⟩
            go_wp2
            go_ret
            exact ⟨by rw [HF.out]; rfl, below_alloc HB.out _⟩
        · have HF : Aside0 (decide (Canon l) = false) := ⟨decide_eq_false (fun hh => by rw [HA.out.2.2.1, HD.out] at hh; omega)⟩
          go_wp2
          go_ret
          exact ⟨by rw [HF.out]; rfl, below_alloc HB.out _⟩
      · have HF : Aside0 (decide (Canon l) = false) := ⟨decide_eq_false (fun hh => by rw [HA.out.2.2.1, HD.out] at hh; omega)⟩
        go_wp2
        go_ret
        exact ⟨by rw [HF.out]; rfl, below_alloc HB.out _⟩
    · have HF : Aside0 (decide (Canon l) = true) := ⟨decide_eq_true (by rw [HA.out.2.2.1, List.drop_eq_nil_of_le (by omega)]; trivial)⟩
      go_wp2
      go_ret
      exact ⟨by rw [HF.out]; rfl, HB.out⟩

end Go.Proofs.Ytpgnfccamcefgaa
