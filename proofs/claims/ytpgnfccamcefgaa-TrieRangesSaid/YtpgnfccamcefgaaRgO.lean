/- Walks of the reference: Make, Union, Meet, Minus, Xor, Not, Can, Size. Written by refgen.py. -/
import Derived.Test.YtpgnfccamcefgaaRgN
import Derived.Test.YtpgnfccamcefgaaRgUse
import Derived.WalkSpells
import Derived.WalkLawsBesides
namespace Go.Proofs.Ytpgnfccamcefgaa
set_option linter.unusedVariables false
set_option linter.unusedSimpArgs false
open Go.RowKit Go.Proofs.YtpgnfccamcefgaaW.PrintWords Go.Proofs.YtpgnfccamcefgaaW.PrintLast Go.Proofs.YtpgnfccamcefgaaW.PrintMore
attribute [local go_sem high] Try.eqR

/-- The call hands back a set, of what P tells. -/
def GotR (P : Int → Prop) (w : World) (e : Ending) (w' : World) : Prop := ∃ v r, e = .returned v ∧ SetOf P r ∧ RdS kR w' v r ∧ Below w.heap.size w w'
theorem bothP_iff {l m : List Rg} {P Q : Int → Prop} (hp : IsOf P l) (hq : IsOf Q m) {x : Int} (h0 : 0 ≤ x) (h1 : x ≤ 1114111) : (hasB l x = true ↔ P x) ∧ (hasB m x = true ↔ Q x) :=
  ⟨(hasB_iff l x).trans ⟨fun h => (hp x h0 h1).1 h.2.2, fun h => ⟨h0, h1, (hp x h0 h1).2 h⟩⟩, (hasB_iff m x).trans ⟨fun h => (hq x h0 h1).1 h.2.2, fun h => ⟨h0, h1, (hq x h0 h1).2 h⟩⟩⟩
theorem IsOf.none : IsOf (fun _ => False) [] := fun x _ _ => ⟨fun h => mem_nil x h, fun h => h.elim⟩
theorem set_empty {P : Int → Prop} {r : List Rg} (h : SetOf P r) (hp : ∀ x, ¬ P x) : r = [] := by
  cases r with
  | nil => rfl
  | cons p t =>
    have h1 : Mem p.1 (p :: t) := (mem_cons _ _ _).2 (.inl ⟨Int.le_refl _, h.1.2.1⟩)
    exact absurd ((h.2 _).1 h1).2.2 (hp _)
theorem IsOf.all : IsOf (fun _ => True) [(0, 1114111)] := fun x h0 h1 => ⟨fun _ => trivial, fun _ => (mem_cons _ _ _).2 (.inl ⟨h0, h1⟩)⟩

theorem tellsUnion {l m : List Rg} {P Q : Int → Prop} (hp : IsOf P l) (hq : IsOf Q m) {r : List Rg} (h : SetOf (fun x => bothP l m 0 x = true) r) : SetOf (fun x => P x ∨ Q x) r :=
  setOf_congr h fun x h0 h1 => by
    obtain ⟨h2, h3⟩ := bothP_iff hp hq h0 h1
    rw [← h2, ← h3]
    show inB 0 (hasB l x) (hasB m x) = true ↔ _
    cases hasB l x <;> cases hasB m x <;> simp [inB]
set_option maxHeartbeats 1000000 in
set_option maxRecDepth 100000 in
theorem refUnion_got {w : World} {v u : Value} {l m : List Rg} {P Q : Int → Prop} {a b : Nat} (h : RdS kR w v l) (h' : RdS kR w u m) (hp : IsOf P l) (hq : IsOf Q m) (hn : l.length ≤ a) (hm : m.length ≤ b) (hs : (a + b) * 64 ≤ 1407374883553) : Calls Try.prog 47 #[v, u] w (GotR (fun x => P x ∨ Q x) w) := by
  have HC := Aside0.mk (both_any w v u l m 0 h h' (Nat.le_trans (Nat.mul_le_mul_right _ (Nat.add_le_add hn hm)) hs))
  have HP := Aside0.mk hp
  have HQ := Aside0.mk hq
  obtain ⟨A, c, rfl, -, -⟩ := h
  obtain ⟨B, c', rfl, -, -⟩ := h'
  clear hp hq hn hm hs
  go_enter Try.func47, Try.ntmps47
  go_wp2_with fail
  refine HC.out.mono ?_
  rintro e w1 ⟨v1, r, rfl, hs, ho, hb⟩
  have HS := Aside0.mk (tellsUnion HP.out HQ.out hs)
  have HO := Aside0.mk (RdS.of_R ho)
  have HB := Aside0.mk hb
  clear hs ho hb
  go_wp2
  go_ret
  exact ⟨_, _, rfl, HS.out, HO.out, HB.out⟩

theorem tellsMeet {l m : List Rg} {P Q : Int → Prop} (hp : IsOf P l) (hq : IsOf Q m) {r : List Rg} (h : SetOf (fun x => bothP l m 1 x = true) r) : SetOf (fun x => P x ∧ Q x) r :=
  setOf_congr h fun x h0 h1 => by
    obtain ⟨h2, h3⟩ := bothP_iff hp hq h0 h1
    rw [← h2, ← h3]
    show inB 1 (hasB l x) (hasB m x) = true ↔ _
    cases hasB l x <;> cases hasB m x <;> simp [inB]
set_option maxHeartbeats 1000000 in
set_option maxRecDepth 100000 in
theorem refMeet_got {w : World} {v u : Value} {l m : List Rg} {P Q : Int → Prop} {a b : Nat} (h : RdS kR w v l) (h' : RdS kR w u m) (hp : IsOf P l) (hq : IsOf Q m) (hn : l.length ≤ a) (hm : m.length ≤ b) (hs : (a + b) * 64 ≤ 1407374883553) : Calls Try.prog 48 #[v, u] w (GotR (fun x => P x ∧ Q x) w) := by
  have HC := Aside0.mk (both_any w v u l m 1 h h' (Nat.le_trans (Nat.mul_le_mul_right _ (Nat.add_le_add hn hm)) hs))
  have HP := Aside0.mk hp
  have HQ := Aside0.mk hq
  obtain ⟨A, c, rfl, -, -⟩ := h
  obtain ⟨B, c', rfl, -, -⟩ := h'
  clear hp hq hn hm hs
  go_enter Try.func48, Try.ntmps48
  go_wp2_with fail
  refine HC.out.mono ?_
  rintro e w1 ⟨v1, r, rfl, hs, ho, hb⟩
  have HS := Aside0.mk (tellsMeet HP.out HQ.out hs)
  have HO := Aside0.mk (RdS.of_R ho)
  have HB := Aside0.mk hb
  clear hs ho hb
  go_wp2
  go_ret
  exact ⟨_, _, rfl, HS.out, HO.out, HB.out⟩

theorem tellsMinus {l m : List Rg} {P Q : Int → Prop} (hp : IsOf P l) (hq : IsOf Q m) {r : List Rg} (h : SetOf (fun x => bothP l m 2 x = true) r) : SetOf (fun x => P x ∧ ¬ Q x) r :=
  setOf_congr h fun x h0 h1 => by
    obtain ⟨h2, h3⟩ := bothP_iff hp hq h0 h1
    rw [← h2, ← h3]
    show inB 2 (hasB l x) (hasB m x) = true ↔ _
    cases hasB l x <;> cases hasB m x <;> simp [inB]
set_option maxHeartbeats 1000000 in
set_option maxRecDepth 100000 in
theorem refMinus_got {w : World} {v u : Value} {l m : List Rg} {P Q : Int → Prop} {a b : Nat} (h : RdS kR w v l) (h' : RdS kR w u m) (hp : IsOf P l) (hq : IsOf Q m) (hn : l.length ≤ a) (hm : m.length ≤ b) (hs : (a + b) * 64 ≤ 1407374883553) : Calls Try.prog 50 #[v, u] w (GotR (fun x => P x ∧ ¬ Q x) w) := by
  have HC := Aside0.mk (both_any w v u l m 2 h h' (Nat.le_trans (Nat.mul_le_mul_right _ (Nat.add_le_add hn hm)) hs))
  have HP := Aside0.mk hp
  have HQ := Aside0.mk hq
  obtain ⟨A, c, rfl, -, -⟩ := h
  obtain ⟨B, c', rfl, -, -⟩ := h'
  clear hp hq hn hm hs
  go_enter Try.func50, Try.ntmps50
  go_wp2_with fail
  refine HC.out.mono ?_
  rintro e w1 ⟨v1, r, rfl, hs, ho, hb⟩
  have HS := Aside0.mk (tellsMinus HP.out HQ.out hs)
  have HO := Aside0.mk (RdS.of_R ho)
  have HB := Aside0.mk hb
  clear hs ho hb
  go_wp2
  go_ret
  exact ⟨_, _, rfl, HS.out, HO.out, HB.out⟩

theorem tellsXor {l m : List Rg} {P Q : Int → Prop} (hp : IsOf P l) (hq : IsOf Q m) {r : List Rg} (h : SetOf (fun x => bothP l m 3 x = true) r) : SetOf (fun x => (P x ∧ ¬ Q x) ∨ (Q x ∧ ¬ P x)) r :=
  setOf_congr h fun x h0 h1 => by
    obtain ⟨h2, h3⟩ := bothP_iff hp hq h0 h1
    rw [← h2, ← h3]
    show inB 3 (hasB l x) (hasB m x) = true ↔ _
    cases hasB l x <;> cases hasB m x <;> simp [inB]
set_option maxHeartbeats 1000000 in
set_option maxRecDepth 100000 in
theorem refXor_got {w : World} {v u : Value} {l m : List Rg} {P Q : Int → Prop} {a b : Nat} (h : RdS kR w v l) (h' : RdS kR w u m) (hp : IsOf P l) (hq : IsOf Q m) (hn : l.length ≤ a) (hm : m.length ≤ b) (hs : (a + b) * 64 ≤ 1407374883553) : Calls Try.prog 51 #[v, u] w (GotR (fun x => (P x ∧ ¬ Q x) ∨ (Q x ∧ ¬ P x)) w) := by
  have HC := Aside0.mk (both_any w v u l m 3 h h' (Nat.le_trans (Nat.mul_le_mul_right _ (Nat.add_le_add hn hm)) hs))
  have HP := Aside0.mk hp
  have HQ := Aside0.mk hq
  obtain ⟨A, c, rfl, -, -⟩ := h
  obtain ⟨B, c', rfl, -, -⟩ := h'
  clear hp hq hn hm hs
  go_enter Try.func51, Try.ntmps51
  go_wp2_with fail
  refine HC.out.mono ?_
  rintro e w1 ⟨v1, r, rfl, hs, ho, hb⟩
  have HS := Aside0.mk (tellsXor HP.out HQ.out hs)
  have HO := Aside0.mk (RdS.of_R ho)
  have HB := Aside0.mk hb
  clear hs ho hb
  go_wp2
  go_ret
  exact ⟨_, _, rfl, HS.out, HO.out, HB.out⟩

set_option maxHeartbeats 1000000 in
set_option maxRecDepth 100000 in
theorem refMake_got {w : World} {v : Value} {l : List Rg} {P : Int → Prop} {a : Nat} (h : RdS kR w v l) (hp : IsOf P l) (hn : l.length ≤ a) (hs : a * 64 ≤ 1407374883553) : Calls Try.prog 34 #[v] w (GotR P w) := by
  have HC := Aside0.mk (both_any w v _ l [] 0 h (RdS.nil kR w) (Nat.le_trans (Nat.mul_le_mul_right _ hn) hs))
  have HP := Aside0.mk hp
  obtain ⟨A, c, rfl, -, -⟩ := h
  clear hp hn hs
  go_enter Try.func34, Try.ntmps34
  go_wp2_with fail
  refine HC.out.mono ?_
  rintro e w1 ⟨v1, r, rfl, hs, ho, hb⟩
  have HS : Aside0 (SetOf P r) := ⟨setOf_congr (tellsUnion HP.out IsOf.none hs) (fun x _ _ => by simp)⟩
  have HO := Aside0.mk (RdS.of_R ho)
  have HB := Aside0.mk hb
  clear hs ho hb
  go_wp2
  go_ret
  exact ⟨_, _, rfl, HS.out, HO.out, HB.out⟩

set_option maxHeartbeats 1000000 in
set_option maxRecDepth 100000 in
theorem refNot_got {w : World} {v : Value} {l : List Rg} {P : Int → Prop} {a : Nat} (h : RdS kR w v l) (hp : IsOf P l) (hn : l.length ≤ a) (hs : (1 + a) * 64 ≤ 1407374883553) : Calls Try.prog 43 #[v] w (GotR (fun x => ¬ P x) w) := by
  have HK := Aside0.mk h
  have HN : Aside0 (([(0, 1114111)] : List Rg).length + l.length ≤ 1 + a) := ⟨Nat.add_le_add (Nat.le_refl _) hn⟩
  have HL := Aside0.mk hs
  have HP := Aside0.mk hp
  obtain ⟨A, c, rfl, -, -⟩ := h
  clear hp hn hs
  go_enter Try.func43, Try.ntmps43
  go_wp2_with fail
  refine (both_any _ _ _ [(0, 1114111)] l 2 (rdR_blk (heap_alloc_new w _) rfl (by decide) ?hc) (HK.out.below (below_alloc (Below.refl _ _) _)) (Nat.le_trans (Nat.mul_le_mul_right _ HN.out) HL.out)).mono ?_
  case hc =>
    intro j hj
    match j, hj with
    | 0, _ => exact ⟨rfl, rfl⟩
  rintro e w1 ⟨v1, r, rfl, hs, ho, hb⟩
  have HS : Aside0 (SetOf (fun x => ¬ P x) r) := ⟨setOf_congr (tellsMinus IsOf.all HP.out hs) (fun x _ _ => ⟨fun h => h.2, fun h => ⟨trivial, h⟩⟩)⟩
  have HO := Aside0.mk (RdS.of_R ho)
  have HB : Aside0 (Below w.heap.size w w1) := ⟨below_to (below_alloc (Below.refl _ _) _) hb⟩
  clear hs ho hb
  go_wp2
  go_ret
  exact ⟨_, _, rfl, HS.out, HO.out, HB.out⟩

set_option maxHeartbeats 1000000 in
set_option maxRecDepth 100000 in
theorem refCan_any (w : World) (v : Value) (l : List Rg) (h : RdS kR w v l) (hl : l.length * 64 ≤ 1407374883553) :
    Calls Try.prog 36 #[v] w fun e w' => e = .returned (.bool (decide (Canon l))) ∧ Below w.heap.size w w' := by
  have HC := Aside0.mk (refMake_got h (IsOf.self l) (Nat.le_refl _) hl)
  have HK := Aside0.mk h
  have hlen := h.len
  obtain ⟨A, c, rfl, -, -⟩ := h
  have hu := Try.underlying60
  clear hl
  go_enter Try.func36, Try.ntmps36
  go_wp2_with fail
  refine HC.out.mono ?_
  rintro e w1 ⟨v1, m, rfl, hs, ho, hb⟩
  have hdec : decide (Canon l) = decide (l = m) := decide_eq_decide.2 ⟨fun h => setOf_eq (setOf_of_canon h) hs, fun h => h ▸ hs.1⟩
  have HD := Aside0.mk hdec
  replace HK := Aside0.mk (HK.out.below hb)
  have HB := Aside0.mk hb
  have hlen' := ho.len
  obtain ⟨B, c', rfl, -, hr'⟩ := ho
  obtain ⟨A0, c0, e0, -, hr⟩ := HK.out
  cases e0
  have HR := Aside0.mk hr
  have HR' := Aside0.mk hr'
  clear hs hb hdec hr hr' HC HK
  by_cases hll : l.length = m.length
  · have c0 : ((m.length : Int) != (l.length : Int)) = false := by simp [hll]
    have c1 : (m.length == l.length) = true := by simp [hll]
    have HLL := Aside0.mk hll
    clear hll hlen'
    go_wp2
    go_loopg [14] l.length (fun g i w' => ∃ k : Nat, i = .int .i64 k ∧ Aside0 (k ≤ l.length ∧ g = l.length - k ∧ l.take k = m.take k) ∧ Drawn0 w1 w')
    case atStart => exact ⟨0, by first | rfl | simp, ⟨Nat.zero_le _, rfl, rfl⟩, Drawn0.refl _⟩
    case round =>
      obtain ⟨k, rfl, HA, ⟨m1, rfl⟩⟩ := hrel
      by_cases hk : k < l.length
      · have hk' : k < m.length := by have := HLL.out; omega
        obtain ⟨ad, rfl, hx0, hx1⟩ := at_Rn HR.out k hk
        obtain ⟨bd, rfl, hy0, hy1⟩ := at_Rn HR'.out k hk'
        have hml : (k : Int) < (m.length : Int) := by omega
        by_cases he : l[k] = m[k]
        · have HE := Aside0.mk he
          clear he
          have c3 : (!(l[k].1 == m[k].1) || !(l[k].2 == m[k].2)) = false := by rw [HE.out]; simp
          go_wp2
          go_quiet (fail)
          go_wp2
          go_roundg (gk - 1)
          case measure => have := HA.out; omega
          case rel => exact ⟨k + 1, by go_num, ⟨by have := HA.out; omega, by have := HA.out; omega, take_snoc_eq HA.out.2.2 hk hk' HE.out⟩, ⟨⟨_, rfl⟩⟩⟩
        · have c3 : (!(l[k].1 == m[k].1) || !(l[k].2 == m[k].2)) = true := by
            rw [Bool.or_eq_true]
            by_cases h1 : l[k].1 = m[k].1
            · by_cases h2 : l[k].2 = m[k].2
              · exact absurd (Prod.ext h1 h2) he
              · exact .inr (by simp [h2])
            · exact .inl (by simp [h1])
          have hfin : decide (l = m) = false := decide_eq_false (by rintro rfl; exact he rfl)
          have HF := Aside0.mk hfin
          clear he hfin
          go_wp2
          go_quiet (fail)
          go_wp2
          go_ret
          exact ⟨by rw [HD.out, HF.out]; rfl, below_to HB.out (Drawn0.step ⟨⟨m1, rfl⟩⟩ _).below⟩
      · have hfin : decide (l = m) = true := decide_eq_true (by
          have h1 := HA.out
          have h2 := HLL.out
          have h3 := h1.2.2
          rw [List.take_of_length_le (by omega), List.take_of_length_le (by omega)] at h3
          exact h3)
        have HF := Aside0.mk hfin
        clear hfin
        go_wp2
        go_ret
        exact ⟨by rw [HD.out, HF.out]; rfl, below_to HB.out (Drawn0.below ⟨⟨m1, rfl⟩⟩)⟩
  · have c0 : ((m.length : Int) != (l.length : Int)) = true := by simpa using (fun h : (m.length : Int) = l.length => hll (by omega))
    have c1 : (m.length == l.length) = false := by simpa using fun h => hll h.symm
    have hfin : decide (l = m) = false := decide_eq_false (by rintro rfl; exact hll rfl)
    have HF := Aside0.mk hfin
    clear hll hfin
    go_wp2
    go_ret
    exact ⟨by rw [HD.out, HF.out]; rfl, HB.out⟩

set_option maxHeartbeats 1000000 in
set_option maxRecDepth 100000 in
theorem refSize_got {w : World} {v : Value} {l : List Rg} {P : Int → Prop} {a : Nat} (h : RdS kR w v l) (hp : IsOf P l) (hn : l.length ≤ a) (hs : a * 64 ≤ 1407374883553) : Calls Try.prog 38 #[v] w (GotSize P w) := by
  have HC := Aside0.mk (refMake_got h hp hn hs)
  obtain ⟨A, c, rfl, -, -⟩ := h
  clear hp hn hs
  go_enter Try.func38, Try.ntmps38
  go_wp2_with fail
  refine HC.out.mono ?_
  rintro e w0 ⟨v1, l, rfl, hs, ho, hb⟩
  have HS0 := Aside0.mk hs
  have HB0 := Aside0.mk hb
  have HC := Aside0.mk hs.1
  have hlen := ho.len
  obtain ⟨A, c, rfl, -, hr⟩ := ho
  have HR := Aside0.mk hr
  clear hs hb hr
  go_wp2
  go_loopg [3, 9] l.length (fun g s i w' => ∃ k : Nat, i = .int .i64 k ∧ s = .int .i64 (sizeL (l.take k)) ∧ Aside0 (k ≤ l.length ∧ g = l.length - k) ∧ Aside0 (Below w0.heap.size w0 w'))
  case atStart => exact ⟨0, by first | rfl | simp, rfl, ⟨Nat.zero_le _, rfl⟩, ⟨Below.refl _ _⟩⟩
  case round =>
    obtain ⟨k, rfl, rfl, HA, HB⟩ := hrel
    by_cases hk : k < l.length
    · obtain ⟨ad, rfl, hx0, hx1⟩ := at_Rn HR.out k hk
      replace hx0 := (HB.out.cell (World.block_lt_of_cell? w0 _ hx0)).trans hx0
      replace hx1 := (HB.out.cell (World.block_lt_of_cell? w0 _ hx1)).trans hx1
      have hok := canon_ok HC.out l[k] (List.getElem_mem hk)
      have HS : Aside0 (sizeL (l.take (k + 1)) = sizeL (l.take k) + (l[k].2 - l[k].1 + 1)) := ⟨by rw [List.take_succ_eq_append_getElem hk, sizeL_snoc]⟩
      obtain ⟨hb0, hb1⟩ := sizeL_take HC.out k
      obtain ⟨x, hx⟩ : ∃ x, l[k] = x := ⟨_, rfl⟩
      rw [hx] at hx0 hx1 HS hok
      clear hx
      obtain ⟨hq0, hq1, hq2⟩ := hok
      obtain ⟨s, hs⟩ : ∃ s, sizeL (l.take k) = s := ⟨_, rfl⟩
      rw [hs] at HS hb0 hb1
      rw [hs]
      clear hs
      go_wp2
      go_roundg (gk - 1)
      case measure => have := HA.out; omega
      case rel => exact ⟨k + 1, by go_num, by first | (rw [HS.out]) | (rw [HS.out]; go_num), ⟨by have := HA.out; omega, by have := HA.out; omega⟩, ⟨below_alloc HB.out _⟩⟩
    · have HF : Aside0 (l.take k = l) := ⟨List.take_of_length_le (by omega)⟩
      rw [HF.out]
      go_wp2
      go_ret
      have := sizeL_bound l 0 (by omega) HC.out
      exact ⟨_, _, rfl, HS0.out, rfl, by omega, by omega, below_to HB0.out HB.out⟩

end Go.Proofs.Ytpgnfccamcefgaa
