/- Walks of the reference: Has, in, sorted. -/
import Derived.Test.YtpgnfccamcefgabRgBase
import Derived.Test.YtpgnfccamcefgabRgMk
namespace Go.Proofs.Ytpgnfccamcefgab
set_option linter.unusedVariables false
set_option linter.unusedSimpArgs false
open Go.RowKit Go.Proofs.YtpgnfccamcefgabW.PrintWords Go.Proofs.YtpgnfccamcefgabW.PrintLast Go.Proofs.YtpgnfccamcefgabW.PrintMore
attribute [local go_sem] max2_int min2_int max_two min_two

set_option maxHeartbeats 4000000 in
set_option maxRecDepth 100000 in
theorem refHas_any (w : World) (v : Value) (l : List Rg) (r : Int) (h : RdS kR w v l) :
    Calls Try.prog 44 #[v, .int .i64 r] w fun e w' => e = .returned (.bool (hasB l r)) ∧ Below w.heap.size w w' := by
  have hlen := h.len
  obtain ⟨A, c, rfl, -, hr⟩ := h
  have HR := Aside0.mk hr
  clear hr
  go_enter Try.func44, Try.ntmps44
  go_wp2
  go_loopg [9] l.length (fun g i w' => ∃ k : Nat, i = .int .i64 k ∧ Aside0 (k ≤ l.length ∧ g = l.length - k ∧ hasB (l.take k) r = false) ∧ Aside0 (Below w.heap.size w w'))
  case atStart => exact ⟨0, by first | rfl | simp, ⟨Nat.zero_le _, rfl, by simp [hasB]⟩, ⟨Below.refl _ _⟩⟩
  case round =>
    obtain ⟨k, rfl, HA, HB⟩ := hrel
    by_cases hk : k < l.length
    · obtain ⟨ad, rfl, hx0, hx1⟩ := at_Rn HR.out k hk
      replace hx0 := (HB.out.cell (World.block_lt_of_cell? w _ hx0)).trans hx0
      replace hx1 := (HB.out.cell (World.block_lt_of_cell? w _ hx1)).trans hx1
      have HT : hasB (l.take (k + 1)) r = true ↔ (hasB (l.take k) r = true ∨ (0 ≤ r ∧ r ≤ 1114111 ∧ l[k].1 ≤ r ∧ r ≤ l[k].2)) := by
        rw [hasB_iff, hasB_iff, List.take_succ_eq_append_getElem hk, mem_snoc]
        exact ⟨fun ⟨a, b, c⟩ => c.elim (fun c => .inl ⟨a, b, c⟩) (fun c => .inr ⟨a, b, c⟩), fun h => h.elim (fun ⟨a, b, c⟩ => ⟨a, b, .inl c⟩) (fun ⟨a, b, c⟩ => ⟨a, b, .inr c⟩)⟩
      have HQ : 0 ≤ r ∧ r ≤ 1114111 ∧ l[k].1 ≤ r ∧ r ≤ l[k].2 → hasB l r = true := fun ⟨a, b, c⟩ => (hasB_iff l r).2 ⟨a, b, _, List.getElem_mem hk, c⟩
      obtain ⟨x, hx⟩ : ∃ x, l[k] = x := ⟨_, rfl⟩
      rw [hx] at hx0 hx1 HT HQ
      clear hx
      by_cases hin : 0 ≤ r ∧ r ≤ 1114111 ∧ x.1 ≤ r ∧ r ≤ x.2
      · have HF : Aside0 (hasB l r = true) := ⟨HQ hin⟩
        obtain ⟨i1, i2, i3, i4⟩ := hin
        clear HQ HT
        go_wp2
        go_ret
        exact ⟨by rw [HF.out]; rfl, below_alloc HB.out _⟩
      · have HF : Aside0 (hasB (l.take (k + 1)) r = false) := ⟨by
          cases hh : hasB (l.take (k + 1)) r with
          | false => rfl
          | true =>
            rcases HT.1 hh with h | h
            · rw [HA.out.2.2] at h; cases h
            · exact absurd h hin⟩
        clear HQ HT
        by_cases i1 : 0 ≤ r
        · by_cases i2 : r ≤ 1114111
          · by_cases i3 : x.1 ≤ r
            · have i4 : ¬ r ≤ x.2 := fun h => hin ⟨i1, i2, i3, h⟩
              clear hin
              go_wp2
              go_roundg (gk - 1)
              case measure => have := HA.out; omega
              case rel => exact ⟨k + 1, by go_num, ⟨by have := HA.out; omega, by have := HA.out; omega, HF.out⟩, ⟨below_alloc HB.out _⟩⟩
            · clear hin
              go_wp2
              go_roundg (gk - 1)
              case measure => have := HA.out; omega
              case rel => exact ⟨k + 1, by go_num, ⟨by have := HA.out; omega, by have := HA.out; omega, HF.out⟩, ⟨below_alloc HB.out _⟩⟩
          · clear hin
            go_wp2
            go_roundg (gk - 1)
            case measure => have := HA.out; omega
            case rel => exact ⟨k + 1, by go_num, ⟨by have := HA.out; omega, by have := HA.out; omega, HF.out⟩, ⟨below_alloc HB.out _⟩⟩
        · clear hin
          go_wp2
          go_roundg (gk - 1)
          case measure => have := HA.out; omega
          case rel => exact ⟨k + 1, by go_num, ⟨by have := HA.out; omega, by have := HA.out; omega, HF.out⟩, ⟨below_alloc HB.out _⟩⟩
    · have HF : Aside0 (hasB l r = false) := ⟨by have h1 := HA.out.2.2; rw [List.take_of_length_le (by omega)] at h1; exact h1⟩
      go_wp2
      go_ret
      exact ⟨by rw [HF.out]; rfl, HB.out⟩

/-- What kind a set of two sets is: union, what is in both, what is in the first alone, what is in one alone. -/
def inB (kind : Int) (x y : Bool) : Bool := if kind = 0 then x || y else if kind = 1 then x && y else if kind = 2 then x && !y else x != y

set_option maxHeartbeats 4000000 in
set_option maxRecDepth 100000 in
theorem refIn_any (w : World) (v u : Value) (l m : List Rg) (kind r : Int) (h : RdS kR w v l) (h' : RdS kR w u m) :
    Calls Try.prog 31 #[v, u, .int .i64 kind, .int .i64 r] w fun e w' => e = .returned (.bool (inB kind (hasB l r) (hasB m r))) ∧ Below w.heap.size w w' := by
  have H1 := Aside0.mk (refHas_any w v l r h)
  have H2 := Aside0.mk (fun W (hb : Below w.heap.size w W) => refHas_any W u m r (h'.below hb))
  obtain ⟨A, c, rfl, -, -⟩ := h
  obtain ⟨B, c', rfl, -, -⟩ := h'
  obtain ⟨x, hx⟩ : ∃ x, hasB l r = x := ⟨_, rfl⟩
  obtain ⟨y, hy⟩ : ∃ y, hasB m r = y := ⟨_, rfl⟩
  rw [hx] at H1 ⊢
  simp only [hy] at H2 ⊢
  clear hx hy
  have HF : Aside0 (∀ W : World, Below w.heap.size w W → Calls Try.prog 44 #[.slice B m.length c', .int .i64 r] W fun e w' => e = .returned (.bool y) ∧ Below W.heap.size W w') := H2
  have fin : ∀ (k0 : (kind == 0) = decide (kind = 0)) (k1 : (kind == 1) = decide (kind = 1)) (k2 : (kind == 2) = decide (kind = 2)), True := fun _ _ _ => trivial
  clear fin H2
  by_cases c0 : kind = 0
  · have HQ : Aside0 (inB kind x y = (x || y)) := ⟨by unfold inB; rw [if_pos c0]⟩
    subst c0
    go_enter Try.func31, Try.ntmps31
    go_wp2_with fail
    refine H1.out.mono ?_
    rintro e w1 ⟨rfl, hb1⟩
    have HB1 := Aside0.mk hb1
    clear hb1 H1
    go_wp2_with fail
    refine (HF.out _ HB1.out).mono ?_
    rintro e w2 ⟨rfl, hb2⟩
    have HB2 : Aside0 (Below w.heap.size w w2) := ⟨below_to HB1.out hb2⟩
    clear hb2 HF HB1
    cases x <;> cases y <;> (go_wp2; go_ret; exact ⟨by rw [HQ.out]; rfl, HB2.out⟩)
  · by_cases c1 : kind = 1
    · have HQ : Aside0 (inB kind x y = (x && y)) := ⟨by unfold inB; rw [if_neg c0, if_pos c1]⟩
      subst c1
      go_enter Try.func31, Try.ntmps31
      go_wp2_with fail
      refine H1.out.mono ?_
      rintro e w1 ⟨rfl, hb1⟩
      have HB1 := Aside0.mk hb1
      clear hb1 H1
      go_wp2_with fail
      refine (HF.out _ HB1.out).mono ?_
      rintro e w2 ⟨rfl, hb2⟩
      have HB2 : Aside0 (Below w.heap.size w w2) := ⟨below_to HB1.out hb2⟩
      clear hb2 HF HB1
      cases x <;> cases y <;> (go_wp2; go_ret; exact ⟨by rw [HQ.out]; rfl, HB2.out⟩)
    · by_cases c2 : kind = 2
      · have HQ : Aside0 (inB kind x y = (x && !y)) := ⟨by unfold inB; rw [if_neg c0, if_neg c1, if_pos c2]⟩
        subst c2
        go_enter Try.func31, Try.ntmps31
        go_wp2_with fail
        refine H1.out.mono ?_
        rintro e w1 ⟨rfl, hb1⟩
        have HB1 := Aside0.mk hb1
        clear hb1 H1
        go_wp2_with fail
        refine (HF.out _ HB1.out).mono ?_
        rintro e w2 ⟨rfl, hb2⟩
        have HB2 : Aside0 (Below w.heap.size w w2) := ⟨below_to HB1.out hb2⟩
        clear hb2 HF HB1
        cases x <;> cases y <;> (go_wp2; go_ret; exact ⟨by rw [HQ.out]; rfl, HB2.out⟩)
      · have HQ : Aside0 (inB kind x y = (x != y)) := ⟨by unfold inB; rw [if_neg c0, if_neg c1, if_neg c2]⟩
        have k0 : (kind == 0) = false := by simpa using c0
        have k1 : (kind == 1) = false := by simpa using c1
        have k2 : (kind == 2) = false := by simpa using c2
        clear c0 c1 c2
        go_enter Try.func31, Try.ntmps31
        go_wp2_with fail
        refine H1.out.mono ?_
        rintro e w1 ⟨rfl, hb1⟩
        have HB1 := Aside0.mk hb1
        clear hb1 H1
        go_wp2_with fail
        refine (HF.out _ HB1.out).mono ?_
        rintro e w2 ⟨rfl, hb2⟩
        have HB2 : Aside0 (Below w.heap.size w w2) := ⟨below_to HB1.out hb2⟩
        clear hb2 HF HB1
        cases x <;> cases y <;> (go_wp2; go_ret; exact ⟨by rw [HQ.out]; rfl, HB2.out⟩)

end Go.Proofs.Ytpgnfccamcefgab
