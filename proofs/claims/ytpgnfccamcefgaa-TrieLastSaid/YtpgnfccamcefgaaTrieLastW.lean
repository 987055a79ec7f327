/- Walk of the law TrieLast. -/
import Derived.Test.YtpgnfccamcefgaaTrBdB
import Derived.Test.YtpgnfccamcefgaaTrGetB
import Derived.Test.YtpgnfccamcefgaaTrAwake
namespace Go.Proofs.Ytpgnfccamcefgaa
set_option linter.unusedVariables false
set_option linter.unusedSimpArgs false
open Go.RowKit Go.Proofs.YtpgnfccamcefgaaW.PrintWords Go.Proofs.YtpgnfccamcefgaaW.PrintLast Go.Proofs.YtpgnfccamcefgaaW.PrintMore
attribute [local go_sem] max2_int min2_int max_two min_two

set_option maxHeartbeats 4000000 in
set_option maxRecDepth 100000 in
theorem TrieLast_walk (w : World) (v : Value) (l : List En) (lo hi r : Int) (h : RdS kE w v l) :
    Calls Try.prog 4 #[v, .int .i64 lo, .int .i64 hi, .int .i64 r] w fun e w' => e = .returned (.bool true) ∧ Below w.heap.size w w' := by
  have HF := Aside0.mk (few_any w v l h)
  obtain ⟨A, c, rfl, -, -⟩ := h
  obtain ⟨a1, ha1⟩ : ∃ a1, (if lo < 0 then 0 else lo) = a1 := ⟨_, rfl⟩
  obtain ⟨a, ha⟩ : ∃ a, (if 1114111 < a1 then 1114111 else a1) = a := ⟨_, rfl⟩
  obtain ⟨b1, hb1⟩ : ∃ b1, (if hi < 0 then 0 else hi) = b1 := ⟨_, rfl⟩
  obtain ⟨b, hb⟩ : ∃ b, (if 1114111 < b1 then 1114111 else b1) = b := ⟨_, rfl⟩
  have hA : 0 ≤ a := by rw [← ha, ← ha1]; split <;> (try split) <;> omega
  have hB : b ≤ 1114111 := by rw [← hb]; split <;> omega
  go_enter Try.func4, Try.ntmps4
  go_wp2_with fail
  refine HF.out.mono ?_
  rintro e w1 ⟨v1, rfl, hr1, rfl⟩
  have HR1 := Aside0.mk hr1
  have HL1 : Aside0 ((l.take 12).length ≤ 12) := ⟨by rw [List.length_take]; omega⟩
  obtain ⟨l1, hl1⟩ : ∃ l1, l.take 12 = l1 := ⟨_, rfl⟩
  rw [hl1] at HR1 HL1
  clear hr1 hl1 HF
  have HCL := Aside0.mk (cloneE_any w v1 l1 HR1.out (by have := HL1.out; omega))
  obtain ⟨A1, c1, rfl, -, -⟩ := HR1.out
  go_wp2_with fail
  refine HCL.out.mono ?_
  rintro e w2 ⟨v2, rfl, ho, hb2⟩
  have HO := Aside0.mk ho
  have HB := Aside0.mk hb2
  clear ho hb2 HCL ha ha1 hb hb1
  go_wp2_with (at_builtin; refine Kd.R_append kE (w0 := w) w.heap.size rfl (.tmp 21) (.tmp 25) 35 40 (.agg #[(.int .i64 0), (.int .i64 0), (.int .i64 0)]) 24 rfl Try.underlying35 Try.infoE rfl (by decide) (by omega) v2 l1 (a, b, 1) [.int .i64 a, .int .i64 b, .int .i64 1] (fun _ => True) (fun _ => False) rfl ?aX (kE_mkM _ _ _ (a, b, 1)) (fun _ h => h.elim) (fun _ _ => trivial) HO.out HB.out HB.out.size ?aL ?_)
  case aX => rfl
  case aL => have h3 := HL1.out; omega
  intro v3 w3 ho hb hg hat
  have HO3 := Aside0.mk (RdS.of_R ho)
  have HB3 := Aside0.mk hb
  clear ho hb hg hat HO HB
  obtain ⟨A3, c3, rfl, -, -⟩ := HO3.out
  go_wp2_with fail
  refine (buildB_any _ _ _ (l1 ++ [(a, b, 1)]) [false, true] ?he ?hv ?hl (by decide) (by decide)).mono ?_
  case he => have h3 := HO3.out.below (below_alloc (Below.refl _ _) (.cells #[.bool false, .bool true] 4)); rw [List.length_append] at h3; exact h3
  case hv => exact rd_flat (kd := Kd.bool) (l := [false, true]) (fun s => [.bool s]) (fun _ _ => rfl) (heap_alloc_new _ _) (by decide)
  case hl => have := HL1.out; rw [List.length_append]; simp; omega
  rintro e w4 ⟨T, F, H, B, rfl, hr, hi, hv, hc, hb⟩
  have HB4 : Aside0 (Below w.heap.size w w4) := ⟨below_to (below_alloc HB3.out _) hb⟩
  have HG := Aside0.mk (getB_any w4 T _ F H B r hr hi (cell_in hc))
  have HC : Aside0 (a ≤ r → r ≤ b → cellAt F B r = 1) := ⟨fun h1 h2 => by
    rw [cellAt_val hc, if_pos ⟨by omega, by omega⟩, valE_snoc, if_pos]
    exact ⟨show (0 : Int) ≤ 1 by omega, show (1 : Int) < 2 by omega, h1, h2⟩⟩
  clear hr hi hv hc hb
  by_cases hin : a ≤ r ∧ r ≤ b
  · rw [HC.out hin.1 hin.2] at HG
    obtain ⟨h1, h2⟩ := hin
    go_wp2_with fail
    refine HG.out.mono ?_
    rintro e w5 ⟨rfl, hd⟩
    have HB5 : Aside0 (Below w.heap.size w w5) := ⟨below_to HB4.out hd.below⟩
    clear hd HG
    go_wp2_with fail
    refine (awakeT_any _).mono ?_
    rintro e w6 ⟨rfl, hb⟩
    have HB6 : Aside0 (Below w.heap.size w w6) := ⟨below_to HB5.out hb⟩
    clear hb
    go_wp2
    go_ret
    exact ⟨rfl, HB6.out⟩
  · have hcase : b < a ∨ (a ≤ b ∧ r < a) ∨ (a ≤ b ∧ a ≤ r ∧ b < r) := by omega
    clear hin
    obtain ⟨x, hx⟩ : ∃ x, (if cellAt F B r = -1 then false else [false, true].getD (cellAt F B r).toNat false) = x := ⟨_, rfl⟩
    obtain ⟨y, hy⟩ : ∃ y, decide (cellAt F B r ≠ -1) = y := ⟨_, rfl⟩
    rw [hx, hy] at HG
    clear hx hy
    rcases hcase with h1 | ⟨h1, h2⟩ | ⟨h1, h2, h3⟩
    all_goals
      go_wp2_with fail
      refine HG.out.mono ?_
      rintro e w5 ⟨rfl, hd⟩
      have HB5 : Aside0 (Below w.heap.size w w5) := ⟨below_to HB4.out hd.below⟩
      clear hd HG
      go_wp2_with fail
      refine (awakeT_any _).mono ?_
      rintro e w6 ⟨rfl, hb⟩
      have HB6 : Aside0 (Below w.heap.size w w6) := ⟨below_to HB5.out hb⟩
      clear hb
      go_wp2
      go_ret
      exact ⟨rfl, HB6.out⟩

end Go.Proofs.Ytpgnfccamcefgaa
