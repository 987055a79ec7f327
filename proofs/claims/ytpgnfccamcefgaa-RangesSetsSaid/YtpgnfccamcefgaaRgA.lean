/- Walks: short, slices.Clone and slices.Equal over ranges. -/
import Derived.Test.YtpgnfccamcefgaaRgBase
import Derived.WalkSpells
import Derived.WalkLawsBesides
namespace Go.Proofs.Ytpgnfccamcefgaa
set_option linter.unusedVariables false
set_option linter.unusedSimpArgs false
open Go.RowKit Go.Proofs.YtpgnfccamcefgaaW.PrintWords Go.Proofs.YtpgnfccamcefgaaW.PrintLast Go.Proofs.YtpgnfccamcefgaaW.PrintMore
attribute [local go_sem] max2_int min2_int max_two min_two
attribute [local go_sem high] Try.eqR

set_option maxHeartbeats 400000 in
set_option maxRecDepth 100000 in
theorem short_any (w : World) (v : Value) (l : List Rg) (h : RdS kR w v l) :
    Calls Try.prog 30 #[v] w fun e w' => ∃ v', e = .returned v' ∧ RdS kR w v' (l.take 40) ∧ w = w' := by
  obtain ⟨A, c, rfl, hc, hr⟩ := h
  obtain ⟨i0, hi0, _, hsz, _⟩ := info_parts Try.infoR
  obtain ⟨m, hm, hm2⟩ : ∃ m : Nat, (if (40 : Int) < (l.length : Int) then (40 : Int) else (l.length : Int)) = (m : Int) ∧ m = min 40 l.length := by
    by_cases h : (40 : Int) < (l.length : Int)
    · exact ⟨40, by rw [if_pos h]; rfl, by omega⟩
    · exact ⟨l.length, by rw [if_neg h], by omega⟩
  have hcut := cut_to (P := Try.prog) 57 60 .i64 Try.underlying57 hi0 A l.length c (m : Int) (by omega) (by omega) hc
  have hfin : RdS kR w (.slice A m c) (l.take 40) := by
    have hl : (l.take 40).length = m := by rw [List.length_take]; omega
    refine ⟨A, c, by rw [hl], by omega, ?_⟩
    have h3 : l.take 40 = l.take m := by
      rcases Nat.le_total 40 l.length with h | h
      · rw [hm2, Nat.min_eq_left h]
      · rw [List.take_of_length_le h, hm2, Nat.min_eq_right h, List.take_length]
    rw [h3]
    exact Kd.C_take hr (by omega)
  have HF := Aside0.mk hfin
  clear hfin hr hm2
  go_enter Try.func30, Try.ntmps30
  go_wp2
  go_ret
  exact ⟨_, rfl, by simpa using HF.out, rfl⟩

set_option maxHeartbeats 400000 in
set_option maxRecDepth 100000 in
theorem cloneR_any (w : World) (v : Value) (l : List Rg) (h : RdS kR w v l) (hl : l.length * 16 ≤ 140737488355328) :
    Calls Try.prog 31 #[v] w fun e w' => ∃ v', e = .returned v' ∧ Own kR 60 w' w.heap.size v' l ∧ Below w.heap.size w w' := by
  obtain ⟨A, c, rfl, hc, hr⟩ := h
  cases A with
  | none =>
    have heq : ∀ w, (binOp .eql 57 (.slice none l.length c) (.slice none 0 0)).run Try.prog w = .ok (.bool true) w := fun w => Lib.run_eql_slice_nil (P := Try.prog) w 57 60 none l.length c 0 0 Try.underlying57
    have hl0 : l = [] := by
      rcases Nat.eq_zero_or_pos l.length with h0 | h0
      · exact List.length_eq_zero_iff.1 h0
      · obtain ⟨ad, e, _⟩ := hr.2.2 h0
        cases e
    have HL := Aside0.mk hl0
    clear hr hl hc hl0
    go_enter Try.func31, Try.ntmps31
    go_wp2
    go_ret
    exact ⟨_, rfl, by rw [HL.out]; exact Kd.R_nil _ _ _ _ _, Below.refl _ _⟩
  | some ad =>
    have heq : ∀ w, (binOp .eql 57 (.slice (some ad) l.length c) (.slice none 0 0)).run Try.prog w = .ok (.bool false) w := fun w => Lib.run_eql_slice_nil (P := Try.prog) w 57 60 (some ad) l.length c 0 0 Try.underlying57
    have HR := Aside0.mk hr
    have HL := Aside0.mk hl
    clear hr hl hc
    go_enter Try.func31, Try.ntmps31
    go_wp2_with (at_builtin; refine Kd.R_append_rows kR (w0 := w) w.heap.size rfl (.tmp 5) (.tmp 6) 57 60 (.agg #[(.int .i64 0), (.int .i64 0)]) 16 rfl Try.underlying57 Try.infoR rfl (by decide) (by omega) _ [] l (some ad) l.length c (fun _ => True) (fun _ => False) rfl rfl ?aO (Kd.C_below HR.out (below_alloc (Below.refl _ _) _)) (fun _ _ h => h) (fun _ h => h.elim) (fun _ _ => trivial) ?aB ?aS ?aL ?_)
    case aO => exact R_lit0 kR _ _ _ (Nat.le_refl _)
    case aB => exact below_alloc (Below.refl _ _) _
    case aS => simp
    case aL => have := HL.out; simpa using this
    intro v1 w1 ho hb _ _
    clear heq
    go_wp2
    go_ret
    exact ⟨_, rfl, by simpa using ho, hb⟩

set_option maxHeartbeats 1000000 in
set_option maxRecDepth 100000 in
theorem equalR_any (w : World) (v u : Value) (l m : List Rg) (h : RdS kR w v l) (h' : RdS kR w u m) :
    Calls Try.prog 32 #[v, u] w fun e w' => e = .returned (.bool (decide (l = m))) ∧ Drawn0 w w' := by
  have hlen := h.len
  have hlen' := h'.len
  obtain ⟨A, c, rfl, hc, hr⟩ := h
  obtain ⟨B, c', rfl, hc', hr'⟩ := h'
  have HR := Aside0.mk hr
  have HR' := Aside0.mk hr'
  have HL := Aside0.mk hlen
  clear hr hr' hc hc'
  have hu := Try.underlying60
  by_cases hll : l.length = m.length
  · have c0 : ((l.length : Int) != (m.length : Int)) = false := by simp [hll]
    have c1 : (l.length == m.length) = true := by simp [hll]
    have HLL := Aside0.mk hll
    clear hll hlen'
    go_enter Try.func32, Try.ntmps32
    go_wp2
    go_loopg [13] l.length (fun g i w' => ∃ k : Nat, i = .int .i64 k ∧ Aside0 (k ≤ l.length ∧ g = l.length - k ∧ l.take k = m.take k) ∧ Drawn0 w w')
    case atStart => exact ⟨0, by first | rfl | simp, ⟨Nat.zero_le _, rfl, rfl⟩, Drawn0.refl _⟩
    case round =>
      obtain ⟨k, rfl, HA, ⟨m1, rfl⟩⟩ := hrel
      by_cases hk : k < l.length
      · have hk' : k < m.length := by have := HLL.out; omega
        obtain ⟨ad, rfl, hx0, hx1⟩ := at_Rn HR.out k hk
        obtain ⟨bd, rfl, hy0, hy1⟩ := at_Rn HR'.out k hk'
        by_cases he : l[k] = m[k]
        · have HE := Aside0.mk he
          clear he
          have c3 : (!(l[k].1 == m[k].1) || !(l[k].2 == m[k].2)) = false := by rw [HE.out]; simp
          go_wp2
          go_quiet (fail)
          go_wp2
          go_roundg (gk - 1)
          case measure => have := HA.out; omega
          case rel => exact ⟨k + 1, by go_num, ⟨by have := HA.out; omega, by have := HA.out; omega, take_snoc_eq HA.out.2.2 hk hk' HE.out⟩, ⟨⟨_, rfl⟩⟩⟩
        · have c3 : (!(l[k].1 == m[k].1) || !(l[k].2 == m[k].2)) = true := by
            rw [Bool.or_eq_true]
            by_cases h1 : l[k].1 = m[k].1
            · by_cases h2 : l[k].2 = m[k].2
              · exact absurd (Prod.ext h1 h2) he
              · exact .inr (by simp [h2])
            · exact .inl (by simp [h1])
          have hfin : decide (l = m) = false := decide_eq_false (by rintro rfl; exact he rfl)
          have HF := Aside0.mk hfin
          clear he hfin
          go_wp2
          go_quiet (fail)
          go_wp2
          go_ret
          exact ⟨by rw [HF.out]; rfl, Drawn0.step ⟨⟨m1, rfl⟩⟩ _⟩
      · have hfin : decide (l = m) = true := decide_eq_true (by
          have h1 := HA.out
          have h2 := HLL.out
          have h3 := h1.2.2
          rw [List.take_of_length_le (by omega), List.take_of_length_le (by omega)] at h3
          exact h3)
        have HF := Aside0.mk hfin
        clear hfin
        go_wp2
        go_ret
        exact ⟨by rw [HF.out]; rfl, ⟨⟨m1, rfl⟩⟩⟩
  · have c0 : ((l.length : Int) != (m.length : Int)) = true := by simpa using (fun h : (l.length : Int) = m.length => hll (by omega))
    have c1 : (l.length == m.length) = false := by simpa using hll
    have hfin : decide (l = m) = false := decide_eq_false (by rintro rfl; exact hll rfl)
    have HF := Aside0.mk hfin
    clear hll hfin
    go_enter Try.func32, Try.ntmps32
    go_wp2
    go_ret
    exact ⟨by rw [HF.out]; rfl, Drawn0.refl _⟩

end Go.Proofs.Ytpgnfccamcefgaa
