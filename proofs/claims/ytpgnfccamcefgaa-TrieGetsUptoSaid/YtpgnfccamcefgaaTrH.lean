/- Walks of TrieGets' helpers: slices.Clone over texts, slices.Equal over entries that are the same. -/
import Derived.Test.YtpgnfccamcefgaaTrBdS
import Derived.Test.YtpgnfccamcefgaaTrRefE
import Derived.Test.YtpgnfccamcefgaaWEqStruct
import Derived.WalkSpells
import Derived.WalkLawsBesides
namespace Go.Proofs.Ytpgnfccamcefgaa
set_option linter.unusedVariables false
set_option linter.unusedSimpArgs false
open Go.RowKit Go.Proofs.YtpgnfccamcefgaaW.PrintWords Go.Proofs.YtpgnfccamcefgaaW.PrintLast Go.Proofs.YtpgnfccamcefgaaW.PrintMore
attribute [local go_sem] max2_int min2_int max_two min_two

set_option maxHeartbeats 400000 in
set_option maxRecDepth 100000 in
theorem cloneS_any (w : World) (v : Value) (l : List ByteArray) (h : RdS Kd.string w v l) (hl : l.length * 16 ≤ 140737488355328) :
    Calls Try.prog 24 #[v] w fun e w' => ∃ v', e = .returned v' ∧ Own Kd.string 9 w' w.heap.size v' l ∧ Below w.heap.size w w' := by
  obtain ⟨A, c, rfl, hc, hr⟩ := h
  cases A with
  | none =>
    have heq : ∀ w, (binOp .eql 46 (.slice none l.length c) (.slice none 0 0)).run Try.prog w = .ok (.bool true) w := fun w => Lib.run_eql_slice_nil (P := Try.prog) w 46 9 none l.length c 0 0 Try.underlying46
    have hl0 : l = [] := by
      rcases Nat.eq_zero_or_pos l.length with h0 | h0
      · exact List.length_eq_zero_iff.1 h0
      · obtain ⟨ad, e, _⟩ := hr.2.2 h0
        cases e
    have HL := Aside0.mk hl0
    clear hr hl hc hl0
    go_enter Try.func24, Try.ntmps24
    go_wp2
    go_ret
    exact ⟨_, rfl, by rw [HL.out]; exact Kd.R_nil _ _ _ _ _, Below.refl _ _⟩
  | some ad =>
    have heq : ∀ w, (binOp .eql 46 (.slice (some ad) l.length c) (.slice none 0 0)).run Try.prog w = .ok (.bool false) w := fun w => Lib.run_eql_slice_nil (P := Try.prog) w 46 9 (some ad) l.length c 0 0 Try.underlying46
    have HR := Aside0.mk hr
    have HL := Aside0.mk hl
    clear hr hl hc
    go_enter Try.func24, Try.ntmps24
    go_wp2_with (at_builtin; refine Kd.R_append_rows Kd.string (w0 := w) w.heap.size rfl (.tmp 5) (.tmp 6) 46 9 (.string ⟨#[]⟩) 16 rfl Try.underlying46 Try.infoVS rfl (by decide) (by omega) _ [] l (some ad) l.length c (fun _ => True) (fun _ => False) rfl rfl ?aO (Kd.C_below HR.out (below_alloc (Below.refl _ _) _)) (fun _ _ h => h) (fun _ h => h.elim) (fun _ _ => trivial) ?aB ?aS ?aL ?_)
    case aO => exact R_lit0 Kd.string _ _ _ (Nat.le_refl _)
    case aB => exact below_alloc (Below.refl _ _) _
    case aS => simp
    case aL => have := HL.out; simpa using this
    intro v1 w1 ho hb _ _
    clear heq
    go_wp2
    go_ret
    exact ⟨_, rfl, by simpa using ho, hb⟩

theorem Try.eqE (d : Nat) (w : World) (x0 y0 x1 y1 x2 y2 : Int) :
    (Op.equalIn (d + 2) 40 (.agg #[.int .i64 x0, .int .i64 x1, .int .i64 x2]) (.agg #[.int .i64 y0, .int .i64 y1, .int .i64 y2])).run Try.prog w = .ok (x0 == y0 && (x1 == y1 && (x2 == y2))) w := by
  refine eqA_of Try.underlying40 (by kernel_rfl) ?_
  refine eqf_cons (by rfl) (by go_simp; rfl) (by go_simp; rfl) (by go_simp) ?_
  refine eqf_cons (by rfl) (by go_simp; rfl) (by go_simp; rfl) (by go_simp) ?_
  exact eqf_last (by rfl) (by go_simp; rfl) (by go_simp; rfl) (by go_simp)
attribute [local go_sem high] Try.eqE

set_option maxHeartbeats 1000000 in
set_option maxRecDepth 100000 in
theorem equalE_same (w : World) (v u : Value) (l : List En) (h : RdS kE w v l) (h' : RdS kE w u l) :
    Calls Try.prog 29 #[v, u] w fun e w' => e = .returned (.bool true) ∧ Drawn0 w w' := by
  have hlen := h.len
  obtain ⟨A, c, rfl, hc, hr⟩ := h
  obtain ⟨B, c', rfl, hc', hr'⟩ := h'
  have HR := Aside0.mk hr
  have HR' := Aside0.mk hr'
  clear hr hr' hc hc'
  have hu := Try.underlying40
  go_enter Try.func29, Try.ntmps29
  go_wp2
  go_loopg [13] l.length (fun g i w' => ∃ k : Nat, i = .int .i64 k ∧ Aside0 (k ≤ l.length ∧ g = l.length - k) ∧ Drawn0 w w')
  case atStart => exact ⟨0, by first | rfl | simp, ⟨Nat.zero_le _, rfl⟩, Drawn0.refl _⟩
  case round =>
    obtain ⟨k, rfl, HA, ⟨m1, rfl⟩⟩ := hrel
    by_cases hk : k < l.length
    · obtain ⟨ad, rfl, hx0, hx1, hx2⟩ := at_En HR.out k hk
      obtain ⟨bd, rfl, hy0, hy1, hy2⟩ := at_En HR'.out k hk
      go_wp2
      go_quiet (fail)
      go_wp2
      go_roundg (gk - 1)
      case measure => have := HA.out; omega
      case rel => exact ⟨k + 1, by go_num, ⟨by omega, by have := HA.out; omega⟩, ⟨⟨_, rfl⟩⟩⟩
    · go_wp2
      go_ret
      exact ⟨rfl, ⟨⟨m1, rfl⟩⟩⟩

end Go.Proofs.Ytpgnfccamcefgaa
