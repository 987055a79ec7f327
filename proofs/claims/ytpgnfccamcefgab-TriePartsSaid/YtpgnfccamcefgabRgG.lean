/- Walks: slices.IndexFunc and ContainsFunc over ranges, ranges.Has, ranges.total, ranges.Size, ranges.Minus, ranges.Xor. -/
import Derived.Test.YtpgnfccamcefgabRgSort
namespace Go.Proofs.Ytpgnfccamcefgab
set_option linter.unusedVariables false
set_option linter.unusedSimpArgs false
open Go.RowKit Go.Proofs.YtpgnfccamcefgabW.PrintWords Go.Proofs.YtpgnfccamcefgabW.PrintLast Go.Proofs.YtpgnfccamcefgabW.PrintMore
attribute [local go_sem] max2_int min2_int max_two min_two

/-- A closure that answers p, whatever has been made since w. -/
def Tells (g : Nat) (lb : Array Value) (p : Rg → Bool) (w : World) : Prop := ∀ (W : World) (x : Rg), Below w.heap.size w W →
  Calls Try.prog g (#[.agg #[.int .i64 x.1, .int .i64 x.2]] ++ lb) W fun e w' => e = .returned (.bool (p x)) ∧ Below W.heap.size W w'

set_option maxHeartbeats 1000000 in
set_option maxRecDepth 100000 in
theorem indexR_any (w : World) (v : Value) (l : List Rg) (g : Nat) (lb : Array Value) (p : Rg → Bool) (eg : ∀ args w, (callFunc g args).run Try.prog w = .ok (.enter g args) w) (hp : Tells g lb p w) (h : RdS kR w v l) :
    Calls Try.prog 24 #[v, .func (.func g) #[] lb] w fun e w' => (∃ i : Int, e = .returned (.int .i64 i) ∧ -1 ≤ i ∧ (decide (0 ≤ i) = l.any p)) ∧ Below w.heap.size w w' := by
  have hlen := h.len
  obtain ⟨A, c, rfl, -, hr⟩ := h
  have HR := Aside0.mk hr
  have HP := Aside0.mk hp
  clear hr hp
  go_enter Try.func24, Try.ntmps24
  go_wp2
  go_loopg [8] l.length (fun gk i w' => ∃ k : Nat, i = .int .i64 k ∧ Aside0 (k ≤ l.length ∧ gk = l.length - k ∧ (l.take k).any p = false) ∧ Aside0 (Below w.heap.size w w'))
  case atStart => exact ⟨0, by first | rfl | simp, ⟨Nat.zero_le _, rfl, rfl⟩, ⟨Below.refl _ _⟩⟩
  case round =>
    obtain ⟨k, rfl, HA, HB⟩ := hrel
    by_cases hk : k < l.length
    · obtain ⟨ad, rfl, hx0, hx1⟩ := at_Rn HR.out k hk
      replace hx0 := (HB.out.cell (World.block_lt_of_cell? w _ hx0)).trans hx0
      replace hx1 := (HB.out.cell (World.block_lt_of_cell? w _ hx1)).trans hx1
      have HT : Aside0 ((l.take (k + 1)).any p = ((l.take k).any p || p l[k])) := ⟨by rw [List.take_succ_eq_append_getElem hk, List.any_append]; simp⟩
      have HQ : Aside0 (p l[k] = true → l.any p = true) := ⟨fun h => List.any_eq_true.2 ⟨_, List.getElem_mem hk, h⟩⟩
      have HC := Aside0.mk (HP.out wr l[k] HB.out)
      obtain ⟨x, hx⟩ : ∃ x, l[k] = x := ⟨_, rfl⟩
      rw [hx] at hx0 hx1 HT HQ HC
      clear hx
      obtain ⟨r, hr⟩ : ∃ r, p x = r := ⟨_, rfl⟩
      rw [hr] at HT HQ HC
      clear hr
      cases r with
      | true =>
        go_wp2_with fail
        refine HC.out.mono ?_
        rintro e w1 ⟨rfl, hb⟩
        have HB1 : Aside0 (Below w.heap.size w w1) := ⟨below_to HB.out hb⟩
        clear hb HB HC hx0 hx1
        go_wp2
        go_ret
        exact ⟨⟨(k : Int), rfl, by omega, by rw [show l.any p = true from by simpa using HQ.out]; simp⟩, HB1.out⟩
      | false =>
        go_wp2_with fail
        refine HC.out.mono ?_
        rintro e w1 ⟨rfl, hb⟩
        have HB1 : Aside0 (Below w.heap.size w w1) := ⟨below_to HB.out hb⟩
        clear hb HB HC hx0 hx1
        go_wp2
        go_roundg (gk - 1)
        case measure => have := HA.out; omega
        case rel => exact ⟨k + 1, by go_num, ⟨by have := HA.out; omega, by have := HA.out; omega, by rw [HT.out, HA.out.2.2]; rfl⟩, ⟨HB1.out⟩⟩
    · have HF : Aside0 (l.any p = false) := ⟨by have h1 := HA.out.2.2; rw [List.take_of_length_le (by omega)] at h1; exact h1⟩
      go_wp2
      go_ret
      exact ⟨⟨-1, rfl, by omega, by rw [HF.out]; rfl⟩, HB.out⟩

set_option maxHeartbeats 1000000 in
set_option maxRecDepth 100000 in
theorem containsR_any (w : World) (v : Value) (l : List Rg) (g : Nat) (lb : Array Value) (p : Rg → Bool) (eg : ∀ args w, (callFunc g args).run Try.prog w = .ok (.enter g args) w) (hp : Tells g lb p w) (h : RdS kR w v l) :
    Calls Try.prog 15 #[v, .func (.func g) #[] lb] w fun e w' => e = .returned (.bool (l.any p)) ∧ Below w.heap.size w w' := by
  have HI := Aside0.mk (indexR_any w v l g lb p eg hp h)
  obtain ⟨A, c, rfl, -, -⟩ := h
  clear hp eg
  go_enter Try.func15, Try.ntmps15
  go_wp2_with fail
  refine HI.out.mono ?_
  rintro e w1 ⟨⟨i, rfl, h1, h2⟩, hb⟩
  have HB := Aside0.mk hb
  have HD := Aside0.mk h2
  clear HI hb h2
  go_wp2
  go_ret
  exact ⟨by rw [← HD.out]; rfl, HB.out⟩

set_option maxHeartbeats 1000000 in
set_option maxRecDepth 100000 in
theorem has1_any (r : Int) (b : Nat) (w : World) (hb : w.heap[b]? = some (.cells #[.int .i64 r] 3 (0, 0))) :
    Tells 16 #[.pointer (some ⟨b, 0, none⟩)] (fun x => decide (x.1 ≤ r) && decide (r ≤ x.2)) w := fun W x hB => by
  have hlt := blk_lt hb
  have hc : W.cell? ⟨b, 0, none⟩ = some (.int .i64 r) := (hB.cell (p := ⟨b, 0, none⟩) hlt).trans ((blk_cell hb 0).trans rfl)
  have hbW : b < W.heap.size := Nat.lt_of_lt_of_le hlt hB.size
  have hne : b ≠ W.heap.size := by omega
  show Calls Try.prog 16 #[.agg #[.int .i64 x.1, .int .i64 x.2], .pointer (some ⟨b, 0, none⟩)] W _
  clear hB hb hlt
  by_cases h1 : x.1 ≤ r
  · by_cases h2 : r ≤ x.2
    · have HF : Aside0 ((decide (x.1 ≤ r) && decide (r ≤ x.2)) = true) := ⟨by simp [h1, h2]⟩
      go_enter Try.func16, Try.ntmps16
      go_wp2
      go_ret
      exact ⟨by first | rfl | (rw [HF.out]; rfl) | simp [*], below_alloc (Below.refl _ _) _⟩
    · have HF : Aside0 ((decide (x.1 ≤ r) && decide (r ≤ x.2)) = false) := ⟨by simp [h1, h2]⟩
      go_enter Try.func16, Try.ntmps16
      go_wp2
      go_ret
      exact ⟨by first | rfl | (rw [HF.out]; rfl) | simp [*], below_alloc (Below.refl _ _) _⟩
  · have HF : Aside0 ((decide (x.1 ≤ r) && decide (r ≤ x.2)) = false) := ⟨by simp [h1]⟩
    go_enter Try.func16, Try.ntmps16
    go_wp2
    go_ret
    exact ⟨by first | rfl | (rw [HF.out]; rfl) | simp [*], below_alloc (Below.refl _ _) _⟩

set_option maxHeartbeats 1000000 in
set_option maxRecDepth 100000 in
theorem has_any (w : World) (v : Value) (l : List Rg) (r : Int) (h : RdS kR w v l) :
    Calls Try.prog 9 #[v, .int .i64 r] w fun e w' => e = .returned (.bool (hasB l r)) ∧ Below w.heap.size w w' := by
  have eg : ∀ args w, (callFunc 16 args).run Try.prog w = .ok (.enter 16 args) w := enters_of Try.func16 (by kernel_rfl) rfl
  have HC := Aside0.mk (containsR_any (w.alloc (.cells #[.int .i64 r] 3)) v l 16 #[.pointer (some ⟨w.heap.size, 0, none⟩)] _ eg (has1_any r w.heap.size _ (heap_alloc_new w _)) (h.below (below_alloc (Below.refl _ _) _)))
  obtain ⟨A, c, rfl, -, -⟩ := h
  have hmf : ∀ (fn : Fn) (first cap : Array Value) (w : World), (Instr.makeFunc fn first cap).run Try.prog w = .ok (.func fn first cap) w := fun _ _ _ _ => rfl
  clear eg
  by_cases h0 : 0 ≤ r
  · by_cases h1 : r ≤ 1114111
    · have HF : Aside0 (hasB l r = l.any (fun x => decide (x.1 ≤ r) && decide (r ≤ x.2))) := ⟨by unfold hasB; simp [h0, h1]⟩
      obtain ⟨q, hq⟩ : ∃ q, l.any (fun x => decide (x.1 ≤ r) && decide (r ≤ x.2)) = q := ⟨_, rfl⟩
      rw [hq] at HF HC
      clear hq
      go_enter Try.func9, Try.ntmps9
      go_wp2_with fail
      refine HC.out.mono ?_
      rintro e w1 ⟨rfl, hb⟩
      have HB : Aside0 (Below w.heap.size w w1) := ⟨below_to (below_alloc (Below.refl _ _) _) hb⟩
      clear HC hb
      go_wp2
      go_ret
      exact ⟨by rw [HF.out]; rfl, HB.out⟩
    · have HF : Aside0 (hasB l r = false) := ⟨by unfold hasB; simp [h1]⟩
      go_enter Try.func9, Try.ntmps9
      go_wp2
      go_ret
      exact ⟨by rw [HF.out]; rfl, below_alloc (Below.refl _ _) _⟩
  · have HF : Aside0 (hasB l r = false) := ⟨by unfold hasB; simp [h0]⟩
    go_enter Try.func9, Try.ntmps9
    go_wp2
    go_ret
    exact ⟨by rw [HF.out]; rfl, below_alloc (Below.refl _ _) _⟩

end Go.Proofs.Ytpgnfccamcefgab
