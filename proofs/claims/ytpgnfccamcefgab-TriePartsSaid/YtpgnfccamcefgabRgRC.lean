/- Walks of the reference: Make, Can. Written by refgen.py. -/
import Derived.Test.YtpgnfccamcefgabRgN
import Derived.Test.YtpgnfccamcefgabRgIs
import Derived.WalkSpells
import Derived.WalkLawsBesides
namespace Go.Proofs.Ytpgnfccamcefgab
set_option linter.unusedVariables false
set_option linter.unusedSimpArgs false
open Go.RowKit Go.Proofs.YtpgnfccamcefgabW.PrintWords Go.Proofs.YtpgnfccamcefgabW.PrintLast Go.Proofs.YtpgnfccamcefgabW.PrintMore
attribute [local go_sem high] Try.eqR

/-- The call hands back a set, of what P tells. -/
def GotR (P : Int → Prop) (w : World) (e : Ending) (w' : World) : Prop := ∃ v r, e = .returned v ∧ SetOf P r ∧ RdS kR w' v r ∧ Below w.heap.size w w'
theorem bothP_iff {l m : List Rg} {P Q : Int → Prop} (hp : IsOf P l) (hq : IsOf Q m) {x : Int} (h0 : 0 ≤ x) (h1 : x ≤ 1114111) : (hasB l x = true ↔ P x) ∧ (hasB m x = true ↔ Q x) :=
  ⟨(hasB_iff l x).trans ⟨fun h => (hp x h0 h1).1 h.2.2, fun h => ⟨h0, h1, (hp x h0 h1).2 h⟩⟩, (hasB_iff m x).trans ⟨fun h => (hq x h0 h1).1 h.2.2, fun h => ⟨h0, h1, (hq x h0 h1).2 h⟩⟩⟩
theorem IsOf.none : IsOf (fun _ => False) [] := fun x _ _ => ⟨fun h => mem_nil x h, fun h => h.elim⟩
theorem set_empty {P : Int → Prop} {r : List Rg} (h : SetOf P r) (hp : ∀ x, ¬ P x) : r = [] := by
  cases r with
  | nil => rfl
  | cons p t =>
    have h1 : Mem p.1 (p :: t) := (mem_cons _ _ _).2 (.inl ⟨Int.le_refl _, h.1.2.1⟩)
    exact absurd ((h.2 _).1 h1).2.2 (hp _)
theorem IsOf.all : IsOf (fun _ => True) [(0, 1114111)] := fun x h0 h1 => ⟨fun _ => trivial, fun _ => (mem_cons _ _ _).2 (.inl ⟨h0, h1⟩)⟩

theorem tellsUnion {l m : List Rg} {P Q : Int → Prop} (hp : IsOf P l) (hq : IsOf Q m) {r : List Rg} (h : SetOf (fun x => bothP l m 0 x = true) r) : SetOf (fun x => P x ∨ Q x) r :=
  setOf_congr h fun x h0 h1 => by
    obtain ⟨h2, h3⟩ := bothP_iff hp hq h0 h1
    rw [← h2, ← h3]
    show inB 0 (hasB l x) (hasB m x) = true ↔ _
    cases hasB l x <;> cases hasB m x <;> simp [inB]
set_option maxHeartbeats 1000000 in
set_option maxRecDepth 100000 in
theorem refMake_got {w : World} {v : Value} {l : List Rg} {P : Int → Prop} {a : Nat} (h : RdS kR w v l) (hp : IsOf P l) (hn : l.length ≤ a) (hs : a * 64 ≤ 1407374883553) : Calls Try.prog 14 #[v] w (GotR P w) := by
  have HC := Aside0.mk (both_any w v _ l [] 0 h (RdS.nil kR w) (Nat.le_trans (Nat.mul_le_mul_right _ hn) hs))
  have HP := Aside0.mk hp
  obtain ⟨A, c, rfl, -, -⟩ := h
  clear hp hn hs
  go_enter Try.func14, Try.ntmps14
  go_wp2_with fail
  refine HC.out.mono ?_
  rintro e w1 ⟨v1, r, rfl, hs, ho, hb⟩
  have HS : Aside0 (SetOf P r) := ⟨setOf_congr (tellsUnion HP.out IsOf.none hs) (fun x _ _ => by simp)⟩
  have HO := Aside0.mk (RdS.of_R ho)
  have HB := Aside0.mk hb
  clear hs ho hb
  go_wp2
  go_ret
  exact ⟨_, _, rfl, HS.out, HO.out, HB.out⟩

set_option maxHeartbeats 1000000 in
set_option maxRecDepth 100000 in
theorem refCan_any (w : World) (v : Value) (l : List Rg) (h : RdS kR w v l) (hl : l.length * 64 ≤ 1407374883553) :
    Calls Try.prog 8 #[v] w fun e w' => e = .returned (.bool (decide (Canon l))) ∧ Below w.heap.size w w' := by
  have HC := Aside0.mk (refMake_got h (IsOf.self l) (Nat.le_refl _) hl)
  have HK := Aside0.mk h
  have hlen := h.len
  obtain ⟨A, c, rfl, -, -⟩ := h
  have hu := Try.underlying49
  clear hl
  go_enter Try.func8, Try.ntmps8
  go_wp2_with fail
  refine HC.out.mono ?_
  rintro e w1 ⟨v1, m, rfl, hs, ho, hb⟩
  have hdec : decide (Canon l) = decide (l = m) := decide_eq_decide.2 ⟨fun h => setOf_eq (setOf_of_canon h) hs, fun h => h ▸ hs.1⟩
  have HD := Aside0.mk hdec
  replace HK := Aside0.mk (HK.out.below hb)
  have HB := Aside0.mk hb
  have hlen' := ho.len
  obtain ⟨B, c', rfl, -, hr'⟩ := ho
  obtain ⟨A0, c0, e0, -, hr⟩ := HK.out
  cases e0
  have HR := Aside0.mk hr
  have HR' := Aside0.mk hr'
  clear hs hb hdec hr hr' HC HK
  by_cases hll : l.length = m.length
  · have c0 : ((m.length : Int) != (l.length : Int)) = false := by simp [hll]
    have c1 : (m.length == l.length) = true := by simp [hll]
    have HLL := Aside0.mk hll
    clear hll hlen'
    go_wp2
    go_loopg [14] l.length (fun g i w' => ∃ k : Nat, i = .int .i64 k ∧ Aside0 (k ≤ l.length ∧ g = l.length - k ∧ l.take k = m.take k) ∧ Drawn0 w1 w')
    case atStart => exact ⟨0, by first | rfl | simp, ⟨Nat.zero_le _, rfl, rfl⟩, Drawn0.refl _⟩
    case round =>
      obtain ⟨k, rfl, HA, ⟨m1, rfl⟩⟩ := hrel
      by_cases hk : k < l.length
      · have hk' : k < m.length := by have := HLL.out; omega
        obtain ⟨ad, rfl, hx0, hx1⟩ := at_Rn HR.out k hk
        obtain ⟨bd, rfl, hy0, hy1⟩ := at_Rn HR'.out k hk'
        have hml : (k : Int) < (m.length : Int) := by omega
        by_cases he : l[k] = m[k]
        · have HE := Aside0.mk he
          clear he
          have c3 : (!(l[k].1 == m[k].1) || !(l[k].2 == m[k].2)) = false := by rw [HE.out]; simp
          go_wp2
          go_quiet (fail)
          go_wp2
          go_roundg (gk - 1)
          case measure => have := HA.out; omega
          case rel => exact ⟨k + 1, by go_num, ⟨by have := HA.out; omega, by have := HA.out; omega, take_snoc_eq HA.out.2.2 hk hk' HE.out⟩, ⟨⟨_, rfl⟩⟩⟩
        · have c3 : (!(l[k].1 == m[k].1) || !(l[k].2 == m[k].2)) = true := by
            rw [Bool.or_eq_true]
            by_cases h1 : l[k].1 = m[k].1
            · by_cases h2 : l[k].2 = m[k].2
              · exact absurd (Prod.ext h1 h2) he
              · exact .inr (by simp [h2])
            · exact .inl (by simp [h1])
          have hfin : decide (l = m) = false := decide_eq_false (by rintro rfl; exact he rfl)
          have HF := Aside0.mk hfin
          clear he hfin
          go_wp2
          go_quiet (fail)
          go_wp2
          go_ret
          exact ⟨by rw [HD.out, HF.out]; rfl, below_to HB.out (Drawn0.step ⟨⟨m1, rfl⟩⟩ _).below⟩
      · have hfin : decide (l = m) = true := decide_eq_true (by
          have h1 := HA.out
          have h2 := HLL.out
          have h3 := h1.2.2
          rw [List.take_of_length_le (by omega), List.take_of_length_le (by omega)] at h3
          exact h3)
        have HF := Aside0.mk hfin
        clear hfin
        go_wp2
        go_ret
        exact ⟨by rw [HD.out, HF.out]; rfl, below_to HB.out (Drawn0.below ⟨⟨m1, rfl⟩⟩)⟩
  · have c0 : ((m.length : Int) != (l.length : Int)) = true := by simpa using (fun h : (m.length : Int) = l.length => hll (by omega))
    have c1 : (m.length == l.length) = false := by simpa using fun h => hll h.symm
    have hfin : decide (l = m) = false := decide_eq_false (by rintro rfl; exact hll rfl)
    have HF := Aside0.mk hfin
    clear hll hfin
    go_wp2
    go_ret
    exact ⟨by rw [HD.out, HF.out]; rfl, HB.out⟩

end Go.Proofs.Ytpgnfccamcefgab
