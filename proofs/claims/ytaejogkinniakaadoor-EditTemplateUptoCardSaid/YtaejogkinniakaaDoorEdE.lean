/- Walks: bytes.Clone. -/
import Derived.Test.YtaejogkinniakaaDoorEdC
import Derived.WalkSpells
import Derived.WalkLawsBesides
namespace Go.Proofs.YtaejogkinniakaaDoor
set_option linter.unusedVariables false
set_option linter.unusedSimpArgs false
open Go.RowKit Go.Proofs.YtaejogkinniakaaDoorW.PrintWords Go.Proofs.YtaejogkinniakaaDoorW.PrintLast Go.Proofs.YtaejogkinniakaaDoorW.PrintMore Go.Proofs.YtaejogkinniakaaDoor.PEd

set_option maxHeartbeats 400000 in
set_option maxRecDepth 100000 in
theorem cloneB_any (w : World) (v : Value) (l : List Int) (h : RdS kB w v l) (hl : l.length * 1 ≤ 140737488355328) :
    Calls Tryd.prog 8 #[v] w fun e w' => ∃ v', e = .returned v' ∧ Own kB 5 w' w.heap.size v' l ∧ Below w.heap.size w w' := by
  obtain ⟨A, c, rfl, hc, hr⟩ := h
  cases A with
  | none =>
    have heq : ∀ w, (binOp .eql 22 (.slice none l.length c) (.slice none 0 0)).run Tryd.prog w = .ok (.bool true) w := fun w => Lib.run_eql_slice_nil (P := Tryd.prog) w 22 5 none l.length c 0 0 Tryd.underlying22
    have hl0 : l = [] := by
      rcases Nat.eq_zero_or_pos l.length with h0 | h0
      · exact List.length_eq_zero_iff.1 h0
      · obtain ⟨ad, e, _⟩ := hr.2.2 h0
        cases e
    have HL := Aside0.mk hl0
    clear hr hl hc hl0
    go_enter Tryd.func8, Tryd.ntmps8
    go_wp2
    go_ret
    exact ⟨_, rfl, by rw [HL.out]; exact Kd.R_nil _ _ _ _ _, Below.refl _ _⟩
  | some ad =>
    have heq : ∀ w, (binOp .eql 22 (.slice (some ad) l.length c) (.slice none 0 0)).run Tryd.prog w = .ok (.bool false) w := fun w => Lib.run_eql_slice_nil (P := Tryd.prog) w 22 5 (some ad) l.length c 0 0 Tryd.underlying22
    have HR := Aside0.mk hr
    have HL := Aside0.mk hl
    clear hr hl hc
    go_enter Tryd.func8, Tryd.ntmps8
    go_wp2_with (at_builtin; refine Kd.R_append_rows kB (w0 := w) w.heap.size rfl (.tmp 5) (.tmp 6) 22 5 (.int .u8 0) 1 rfl Tryd.underlying22 info5 rfl (by decide) (by omega) _ [] l (some ad) l.length c (fun _ => True) (fun _ => False) rfl rfl ?aO (Kd.C_below HR.out (below_alloc (Below.refl _ _) _)) (fun _ _ h => h) (fun _ h => h.elim) (fun _ _ => trivial) ?aB ?aS ?aL ?_)
    case aO => exact R_lit0 kB _ _ _ (Nat.le_refl _)
    case aB => exact below_alloc (Below.refl _ _) _
    case aS => simp
    case aL => have := HL.out; simpa using this
    intro v1 w1 ho hb _ _
    clear heq
    go_wp2
    go_ret
    exact ⟨_, rfl, by simpa using ho, hb⟩

end Go.Proofs.YtaejogkinniakaaDoor
