/- Walks of the laws' helpers over entries: few, slices.Clone. -/
import Derived.Test.YtpgnfccamcefgaaTrE
import Derived.WalkSpells
import Derived.WalkLawsBesides
namespace Go.Proofs.Ytpgnfccamcefgaa
set_option linter.unusedVariables false
set_option linter.unusedSimpArgs false
open Go.RowKit Go.Proofs.YtpgnfccamcefgaaW.PrintWords Go.Proofs.YtpgnfccamcefgaaW.PrintLast Go.Proofs.YtpgnfccamcefgaaW.PrintMore
attribute [local go_sem] max2_int min2_int max_two min_two

set_option maxHeartbeats 400000 in
set_option maxRecDepth 100000 in
theorem few_any (w : World) (v : Value) (l : List En) (h : RdS kE w v l) :
    Calls Try.prog 19 #[v] w fun e w' => ∃ v', e = .returned v' ∧ RdS kE w v' (l.take 12) ∧ w = w' := by
  obtain ⟨A, c, rfl, hc, hr⟩ := h
  obtain ⟨i0, hi0, _, hsz, _⟩ := info_parts Try.infoE
  obtain ⟨m, hm, hm2⟩ : ∃ m : Nat, (if (12 : Int) < (l.length : Int) then (12 : Int) else (l.length : Int)) = (m : Int) ∧ m = min 12 l.length := by
    by_cases h : (12 : Int) < (l.length : Int)
    · exact ⟨12, by rw [if_pos h]; rfl, by omega⟩
    · exact ⟨l.length, by rw [if_neg h], by omega⟩
  have hcut := cut_to (P := Try.prog) 35 40 .i64 Try.underlying35 hi0 A l.length c (m : Int) (by omega) (by omega) hc
  have hfin : RdS kE w (.slice A m c) (l.take 12) := by
    have hl : (l.take 12).length = m := by rw [List.length_take]; omega
    refine ⟨A, c, by rw [hl], by omega, ?_⟩
    have h3 : l.take 12 = l.take m := by
      rcases Nat.le_total 12 l.length with h | h
      · rw [hm2, Nat.min_eq_left h]
      · rw [List.take_of_length_le h, hm2, Nat.min_eq_right h, List.take_length]
    rw [h3]
    exact Kd.C_take hr (by omega)
  have HF := Aside0.mk hfin
  clear hfin hr hm2
  go_enter Try.func19, Try.ntmps19
  go_wp2
  go_ret
  exact ⟨_, rfl, by simpa using HF.out, rfl⟩

set_option maxHeartbeats 400000 in
set_option maxRecDepth 100000 in
theorem cloneE_any (w : World) (v : Value) (l : List En) (h : RdS kE w v l) (hl : l.length * 24 ≤ 140737488355328) :
    Calls Try.prog 21 #[v] w fun e w' => ∃ v', e = .returned v' ∧ Own kE 40 w' w.heap.size v' l ∧ Below w.heap.size w w' := by
  obtain ⟨A, c, rfl, hc, hr⟩ := h
  cases A with
  | none =>
    have heq : ∀ w, (binOp .eql 35 (.slice none l.length c) (.slice none 0 0)).run Try.prog w = .ok (.bool true) w := fun w => Lib.run_eql_slice_nil (P := Try.prog) w 35 40 none l.length c 0 0 Try.underlying35
    have hl0 : l = [] := by
      rcases Nat.eq_zero_or_pos l.length with h0 | h0
      · exact List.length_eq_zero_iff.1 h0
      · obtain ⟨ad, e, _⟩ := hr.2.2 h0
        cases e
    have HL := Aside0.mk hl0
    clear hr hl hc hl0
    go_enter Try.func21, Try.ntmps21
    go_wp2
    go_ret
    exact ⟨_, rfl, by rw [HL.out]; exact Kd.R_nil _ _ _ _ _, Below.refl _ _⟩
  | some ad =>
    have heq : ∀ w, (binOp .eql 35 (.slice (some ad) l.length c) (.slice none 0 0)).run Try.prog w = .ok (.bool false) w := fun w => Lib.run_eql_slice_nil (P := Try.prog) w 35 40 (some ad) l.length c 0 0 Try.underlying35
    have HR := Aside0.mk hr
    have HL := Aside0.mk hl
    clear hr hl hc
    go_enter Try.func21, Try.ntmps21
    go_wp2_with (at_builtin; refine Kd.R_append_rows kE (w0 := w) w.heap.size rfl (.tmp 5) (.tmp 6) 35 40 (.agg #[(.int .i64 0), (.int .i64 0), (.int .i64 0)]) 24 rfl Try.underlying35 Try.infoE rfl (by decide) (by omega) _ [] l (some ad) l.length c (fun _ => True) (fun _ => False) rfl rfl ?aO (Kd.C_below HR.out (below_alloc (Below.refl _ _) _)) (fun _ _ h => h) (fun _ h => h.elim) (fun _ _ => trivial) ?aB ?aS ?aL ?_)
    case aO => exact R_lit0 kE _ _ _ (Nat.le_refl _)
    case aB => exact below_alloc (Below.refl _ _) _
    case aS => simp
    case aL => have := HL.out; simpa using this
    intro v1 w1 ho hb _ _
    clear heq
    go_wp2
    go_ret
    exact ⟨_, rfl, by simpa using ho, hb⟩

end Go.Proofs.Ytpgnfccamcefgaa
