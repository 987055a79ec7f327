/- Walks: ranges.total, ranges.Size, ranges.Minus, ranges.Xor. -/
import Derived.Test.YtpgnfccamcefgaaRgG
import Derived.Test.YtpgnfccamcefgaaRgSz
namespace Go.Proofs.Ytpgnfccamcefgaa
set_option linter.unusedVariables false
set_option linter.unusedSimpArgs false
open Go.RowKit Go.Proofs.YtpgnfccamcefgaaW.PrintWords Go.Proofs.YtpgnfccamcefgaaW.PrintLast Go.Proofs.YtpgnfccamcefgaaW.PrintMore
attribute [local go_sem] max2_int min2_int max_two min_two

set_option maxHeartbeats 1000000 in
set_option maxRecDepth 100000 in
theorem size1_any (W : World) (x : Rg) (hx : OkR x) :
    Calls Try.prog 67 #[.agg #[.int .i64 x.1, .int .i64 x.2]] W fun e w' => e = .returned (.int .i64 (x.2 - x.1 + 1)) ∧ Below W.heap.size W w' := by
  obtain ⟨h0, h1, h2⟩ := hx
  go_enter Try.func67, Try.ntmps67
  go_wp2
  go_ret
  exact ⟨rfl, below_alloc (Below.refl _ _) _⟩

set_option maxHeartbeats 1000000 in
set_option maxRecDepth 100000 in
theorem total_any (w : World) (v : Value) (l : List Rg) (h : RdS kR w v l) (hc : Canon l) :
    Calls Try.prog 66 #[v, .func (.func 67) #[] #[]] w fun e w' => e = .returned (.int .i64 (sizeL l)) ∧ Below w.heap.size w w' := by
  have hlen := h.len
  obtain ⟨A, c, rfl, -, hr⟩ := h
  have HR := Aside0.mk hr
  have HC := Aside0.mk hc
  have eg : ∀ args w, (callFunc 67 args).run Try.prog w = .ok (.enter 67 args) w := enters_of Try.func67 (by kernel_rfl) rfl
  clear hr hc
  go_enter Try.func66, Try.ntmps66
  go_wp2
  go_loopg [5, 10] l.length (fun g s i w' => ∃ k : Nat, i = .int .i64 k ∧ s = .int .i64 (sizeL (l.take k)) ∧ Aside0 (k ≤ l.length ∧ g = l.length - k) ∧ Aside0 (Below w.heap.size w w'))
  case atStart => exact ⟨0, by first | rfl | simp, rfl, ⟨Nat.zero_le _, rfl⟩, ⟨Below.refl _ _⟩⟩
  case round =>
    obtain ⟨k, rfl, rfl, HA, HB⟩ := hrel
    by_cases hk : k < l.length
    · obtain ⟨ad, rfl, hx0, hx1⟩ := at_Rn HR.out k hk
      replace hx0 := (HB.out.cell (World.block_lt_of_cell? w _ hx0)).trans hx0
      replace hx1 := (HB.out.cell (World.block_lt_of_cell? w _ hx1)).trans hx1
      have hok := canon_ok HC.out l[k] (List.getElem_mem hk)
      have HS : Aside0 (sizeL (l.take (k + 1)) = sizeL (l.take k) + (l[k].2 - l[k].1 + 1)) := ⟨by rw [List.take_succ_eq_append_getElem hk, sizeL_snoc]⟩
      obtain ⟨hb0, hb1⟩ := sizeL_take HC.out k
      obtain ⟨x, hx⟩ : ∃ x, l[k] = x := ⟨_, rfl⟩
      rw [hx] at hx0 hx1 HS hok
      clear hx
      obtain ⟨hq0, hq1, hq2⟩ := hok
      obtain ⟨s, hs⟩ : ∃ s, sizeL (l.take k) = s := ⟨_, rfl⟩
      rw [hs] at HS hb0 hb1
      rw [hs]
      clear hs
      go_wp2_with fail
      refine (size1_any _ x ⟨hq0, hq1, hq2⟩).mono ?_
      rintro e w1 ⟨rfl, hb⟩
      have HB1 : Aside0 (Below w.heap.size w w1) := ⟨below_to (below_alloc HB.out _) hb⟩
      clear hb HB hx0 hx1
      go_wp2
      go_roundg (gk - 1)
      case measure => have := HA.out; omega
      case rel => exact ⟨k + 1, by go_num, by rw [HS.out], ⟨by have := HA.out; omega, by have := HA.out; omega⟩, ⟨HB1.out⟩⟩
    · have HF : Aside0 (l.take k = l) := ⟨List.take_of_length_le (by omega)⟩
      rw [HF.out]
      go_wp2
      go_ret
      exact ⟨rfl, HB.out⟩

/-- What Size comes to: the size of the set of the ranges. -/
def IsSize (l : List Rg) (n : Int) : Prop := ∃ r, SetOf (fun x => Mem x l) r ∧ n = sizeL r
def RetSize (l : List Rg) (w : World) (e : Ending) (w' : World) : Prop := ∃ n, e = .returned (.int .i64 n) ∧ IsSize l n ∧ Below w.heap.size w w'

set_option maxHeartbeats 1000000 in
set_option maxRecDepth 100000 in
theorem size_any (w : World) (v : Value) (l : List Rg) (h : RdS kR w v l) (hl : l.length * 16 ≤ 140737488355328) :
    Calls Try.prog 37 #[v] w (RetSize l w) := by
  have HM := Aside0.mk (make_any sort_said w v l h hl)
  obtain ⟨A, c, rfl, -, -⟩ := h
  clear hl
  go_enter Try.func37, Try.ntmps37
  go_wp2_with fail
  refine HM.out.mono ?_
  rintro e w1 ⟨v1, r, rfl, ⟨hs, -⟩, ho, hb⟩
  have HS := Aside0.mk hs
  have HB := Aside0.mk hb
  have HT := Aside0.mk (total_any w1 v1 r (RdS.of_R ho) hs.1)
  clear HM hs ho hb
  go_wp2_with fail
  refine HT.out.mono ?_
  rintro e w2 ⟨rfl, hb⟩
  have HB2 : Aside0 (Below w.heap.size w w2) := ⟨below_to HB.out hb⟩
  clear HT hb
  go_wp2
  go_ret
  exact ⟨_, rfl, ⟨r, HS.out, rfl⟩, HB2.out⟩

theorem bd_minus {a b r N : Nat} (h1 : (a + b + 2) * 16 ≤ N) (h2 : r ≤ b + 1) : (a + r + 1) * 16 ≤ N := Nat.le_trans (Nat.mul_le_mul_right 16 (by omega)) h1
theorem bd_minus2 {a b r s : Nat} (h1 : r ≤ b + 1) (h2 : s ≤ a + r) : s ≤ a + b + 1 := by omega
theorem bd_xor {a b N : Nat} (h1 : (a + b + 2) * 32 ≤ N) : (b + a + 2) * 16 ≤ N := Nat.le_trans (Nat.mul_le_mul (by omega) (by decide)) h1
theorem bd_xor2 {a b r s N : Nat} (h1 : (a + b + 2) * 32 ≤ N) (h2 : r ≤ a + b + 1) (h3 : s ≤ b + a + 1) : (r + s) * 16 ≤ N := by
  refine Nat.le_trans ?_ h1
  have : r + s ≤ 2 * (a + b + 2) := by omega
  have h5 := Nat.mul_le_mul_right 16 this
  rw [Nat.mul_comm 2 (a + b + 2), Nat.mul_assoc] at h5
  exact h5
theorem bd_xor3 {a b r s t : Nat} (h2 : r ≤ a + b + 1) (h3 : s ≤ b + a + 1) (h4 : t ≤ r + s) : t ≤ 2 * (a + b + 1) := by omega

set_option maxHeartbeats 1000000 in
set_option maxRecDepth 100000 in
theorem minus_any (w : World) (v u : Value) (l m : List Rg) (h : RdS kR w v l) (h' : RdS kR w u m) (hl : (l.length + m.length + 2) * 16 ≤ 140737488355328) :
    Calls Try.prog 49 #[v, u] w (RetOwn kR 60 (fun r => SetOf (fun x => Mem x l ∧ ¬ Mem x m) r ∧ r.length ≤ l.length + m.length + 1) w) := by
  have HL := Aside0.mk hl
  have HV := Aside0.mk h
  have HN := Aside0.mk (not_any w u m h' (by omega))
  obtain ⟨A, c, rfl, -, -⟩ := h
  obtain ⟨B, c', rfl, -, -⟩ := h'
  clear hl
  go_enter Try.func49, Try.ntmps49
  go_wp2_with fail
  refine HN.out.mono ?_
  rintro e w1 ⟨v1, r, rfl, ⟨hs, hrl⟩, ho, hb⟩
  have HS := Aside0.mk hs
  have HB := Aside0.mk hb
  have HRL := Aside0.mk hrl
  have HM := Aside0.mk (meet_any w1 _ v1 l r (HV.out.below hb) (RdS.of_R ho) (bd_minus HL.out hrl))
  clear HN hs ho hb hrl
  go_wp2_with fail
  refine HM.out.mono ?_
  rintro e w2 ⟨v2, r2, rfl, ⟨hs, hrl⟩, ho, hb⟩
  have HB2 : Aside0 (Below w.heap.size w w2) := ⟨below_to HB.out hb⟩
  have HO := Aside0.mk (Kd.R_lower ho HB.out.size)
  have HF : Aside0 (SetOf (fun x => Mem x l ∧ ¬ Mem x m) r2 ∧ r2.length ≤ l.length + m.length + 1) := ⟨setOf_congr hs (fun x h0 h1 => by rw [HS.out.2 x]; exact ⟨fun h => ⟨h.1, h.2.2.2⟩, fun h => ⟨h.1, h0, h1, h.2⟩⟩), bd_minus2 HRL.out hrl⟩
  clear HM hs hrl ho hb
  go_wp2
  go_ret
  exact ⟨_, _, rfl, HF.out, HO.out, HB2.out⟩

set_option maxHeartbeats 1000000 in
set_option maxRecDepth 100000 in
theorem xor_any (w : World) (v u : Value) (l m : List Rg) (h : RdS kR w v l) (h' : RdS kR w u m) (hl : (l.length + m.length + 2) * 32 ≤ 140737488355328) :
    Calls Try.prog 46 #[v, u] w (RetOwn kR 60 (fun r => SetOf (fun x => (Mem x l ∧ ¬ Mem x m) ∨ (Mem x m ∧ ¬ Mem x l)) r ∧ r.length ≤ 2 * (l.length + m.length + 1)) w) := by
  have HL := Aside0.mk hl
  have HV := Aside0.mk h
  have HU := Aside0.mk h'
  have HN := Aside0.mk (minus_any w v u l m h h' (Nat.le_trans (Nat.mul_le_mul_left _ (by decide)) hl))
  obtain ⟨A, c, rfl, -, -⟩ := h
  obtain ⟨B, c', rfl, -, -⟩ := h'
  clear hl
  go_enter Try.func46, Try.ntmps46
  go_wp2_with fail
  refine HN.out.mono ?_
  rintro e w1 ⟨v1, r, rfl, ⟨hs, hrl⟩, ho, hb⟩
  have HS := Aside0.mk hs
  have HB := Aside0.mk hb
  have HRL := Aside0.mk hrl
  have HO1 := Aside0.mk (RdS.of_R ho)
  have HM := Aside0.mk (minus_any w1 _ _ m l (HU.out.below hb) (HV.out.below hb) (bd_xor HL.out))
  clear HN hs ho hb hrl
  go_wp2_with fail
  refine HM.out.mono ?_
  rintro e w2 ⟨v2, r2, rfl, ⟨hs, hrl⟩, ho, hb⟩
  have HB2 : Aside0 (Below w.heap.size w w2) := ⟨below_to HB.out hb⟩
  have HS2 := Aside0.mk hs
  have HRL2 := Aside0.mk hrl
  have HM2 := Aside0.mk (union_any w2 v1 v2 r r2 (HO1.out.below hb) (RdS.of_R ho) (bd_xor2 HL.out HRL.out hrl))
  clear HM hs hrl ho hb
  go_wp2_with fail
  refine HM2.out.mono ?_
  rintro e w3 ⟨v3, r3, rfl, ⟨hs, hrl⟩, ho, hb⟩
  have HB3 : Aside0 (Below w.heap.size w w3) := ⟨below_to HB2.out hb⟩
  have HO := Aside0.mk (Kd.R_lower ho HB2.out.size)
  have HF : Aside0 (SetOf (fun x => (Mem x l ∧ ¬ Mem x m) ∨ (Mem x m ∧ ¬ Mem x l)) r3 ∧ r3.length ≤ 2 * (l.length + m.length + 1)) := ⟨setOf_congr hs (fun x h0 h1 => by rw [HS.out.2 x, HS2.out.2 x]; exact ⟨fun h => h.imp (fun h => h.2.2) (fun h => h.2.2), fun h => h.imp (fun h => ⟨h0, h1, h⟩) (fun h => ⟨h0, h1, h⟩)⟩), bd_xor3 HRL.out HRL2.out hrl⟩
  clear HM2 hs hrl ho hb
  go_wp2
  go_ret
  exact ⟨_, _, rfl, HF.out, HO.out, HB3.out⟩

end Go.Proofs.Ytpgnfccamcefgaa
