/- Walks: ranges.Make (the sort by its contract, as a hypothesis). -/
import Derived.Test.YtpgnfccamcefgabRgBase
import Derived.Test.YtpgnfccamcefgabRgMk
import Derived.IntWalk
import Derived.BigRegion
namespace Go.Proofs.Ytpgnfccamcefgab
set_option linter.unusedVariables false
set_option linter.unusedSimpArgs false
open Go.RowKit Go.Proofs.YtpgnfccamcefgabW.PrintWords Go.Proofs.YtpgnfccamcefgabW.PrintLast Go.Proofs.YtpgnfccamcefgabW.PrintMore
attribute [local go_sem] max2_int min2_int max_two min_two
attribute [local go_sem high] Try.eqR

/-- The sort of a row of ranges of one's own, by their beginnings. -/
def SortSaid : Prop := ∀ (w : World) (base : Nat) (v : Value) (l : List Rg), Own kR 49 w base v l → l.length ≤ 140737488355328 →
  Calls Try.prog 20 #[v, .func (.func 21) #[] #[]] w fun e w' => e = .returned (.tuple #[]) ∧ ∃ s, Aside0 (l.Perm s ∧ Rising s) ∧ Own kR 49 w' base v s ∧ w.grownBy w' v.ownBlock

set_option maxHeartbeats 1000000 in
set_option maxRecDepth 100000 in
theorem make_any (HS : SortSaid) (w : World) (v : Value) (l : List Rg) (h : RdS kR w v l) (hl : l.length * 16 ≤ 140737488355328) :
    Calls Try.prog 13 #[v] w (RetOwn kR 49 (fun r => SetOf (fun x => Mem x l) r ∧ r.length ≤ l.length) w) := by
  have hlen := h.len
  obtain ⟨A, c, rfl, hc, hr⟩ := h
  have HR := Aside0.mk hr
  have HL := Aside0.mk hl
  clear hr hc hl
  have hu := Try.underlying49
  go_enter Try.func13, Try.ntmps13
  go_wp2
  go_loopg [3, 12] l.length (fun g x i w' => ∃ k : Nat, i = .int .i64 k ∧ Aside0 (k ≤ l.length ∧ g = l.length - k) ∧ Aside0 (Own kR 49 w' w.heap.size x (clampL (l.take k))) ∧ Aside0 (Below w.heap.size w w'))
  case atStart => exact ⟨0, by first | rfl | simp, ⟨Nat.zero_le _, rfl⟩, ⟨Kd.R_nil _ _ _ _ _⟩, ⟨Below.refl _ _⟩⟩
  case round =>
    obtain ⟨k, rfl, HA, HO, HB⟩ := hrel
    by_cases hk : k < l.length
    · obtain ⟨ad, rfl, hx0, hx1⟩ := at_Rn HR.out k hk
      replace hx0 := (HB.out.cell (World.block_lt_of_cell? w _ hx0)).trans hx0
      replace hx1 := (HB.out.cell (World.block_lt_of_cell? w _ hx1)).trans hx1
      obtain ⟨p, hp⟩ : ∃ p, l[k] = p := ⟨_, rfl⟩
      rw [hp] at hx0 hx1
      have HP := Aside0.mk hp
      clear hp
      obtain ⟨lo, hlo⟩ : ∃ lo, (if p.1 < 0 then 0 else p.1) = lo := ⟨_, rfl⟩
      obtain ⟨hi, hhi⟩ : ∃ hi, (if 1114111 < p.2 then 1114111 else p.2) = hi := ⟨_, rfl⟩
      by_cases hlh : lo ≤ hi
      · have HC : Aside0 (clampL (l.take (k + 1)) = clampL (l.take k) ++ [(lo, hi)]) := ⟨by
          rw [List.take_succ_eq_append_getElem hk, clampL_snoc, HP.out]
          unfold clampR
          rw [hlo, hhi, if_pos hlh]⟩
        go_wp2_with (at_builtin; refine Kd.R_append kR (w0 := w) w.heap.size rfl (.tmp 29) (.tmp 31) 29 49 (.agg #[(.int .i64 0), (.int .i64 0)]) 16 rfl Try.underlying29 Try.infoR rfl (by decide) (by omega) _ (clampL (l.take k)) (lo, hi) [.int .i64 lo, .int .i64 hi] (fun _ => True) (fun _ => False) rfl ?aX (kR_mkM _ _ _ (lo, hi)) (fun _ h => h.elim) (fun _ _ => trivial) ?aO ?aB ?aS ?aL ?_)
        case aX => exact slice_new _ _ _ _
        case aO => exact Kd.R_alloc HO.out _
        case aB => exact below_alloc HB.out _
        case aS => exact size_le_alloc HB.out.size _
        case aL => have h1 := clampL_len (l.take k); have h2 := List.length_take_le k l; have h3 := HL.out; omega
        intro v1 w1 ho hb _ _
        have HO1 := Aside0.mk ho
        have HB1 := Aside0.mk hb
        clear ho hb HO HB
        go_wp2
        go_roundg (gk - 1)
        case measure => have := HA.out; omega
        case rel => exact ⟨k + 1, by go_num, ⟨by have := HA.out; omega, by have := HA.out; omega⟩, ⟨by rw [HC.out]; exact HO1.out⟩, ⟨HB1.out⟩⟩
      · have HC : Aside0 (clampL (l.take (k + 1)) = clampL (l.take k)) := ⟨by
          rw [List.take_succ_eq_append_getElem hk, clampL_snoc, HP.out]
          unfold clampR
          rw [hlo, hhi, if_neg hlh]⟩
        go_wp2
        go_roundg (gk - 1)
        case measure => have := HA.out; omega
        case rel => exact ⟨k + 1, by go_num, ⟨by have := HA.out; omega, by have := HA.out; omega⟩, ⟨by rw [HC.out]; exact Kd.R_alloc HO.out _⟩, ⟨below_alloc HB.out _⟩⟩
    · have HC : Aside0 (l.take k = l) := ⟨List.take_of_length_le (by omega)⟩
      go_wp2_with fail
      refine (HS _ _ _ _ (show Own kR 49 _ w.heap.size u3 (clampL l) by have := HO.out; rwa [HC.out] at this) (by have h1 := clampL_len l; have h2 := HL.out; omega)).mono ?_
      rintro e w1 ⟨rfl, s, HP, hso, hsg⟩
      have HB1 : Aside0 (Below w.heap.size w w1) := ⟨HB.out.grown hsg HB.out.size (fun b hb => Kd.R_base HO.out b hb)⟩
      clear hsg HO HB HA hk HC
      obtain ⟨A2, c2, rfl, hc2, hr2⟩ := RdS.of_R hso
      have HR2 := Aside0.mk hr2
      have HSL : Aside0 (s.length ≤ l.length) := ⟨by rw [← HP.out.1.length_eq]; exact clampL_len l⟩
      have hslen : s.length ≤ 9223372036854775807 := by have := HSL.out; omega
      clear hc2 hr2 hso
      go_wp2
      go_loopg [6, 38] s.length (fun g x i w' => ∃ k : Nat, i = .int .i64 k ∧ Aside0 (k ≤ s.length ∧ g = s.length - k) ∧ Aside0 (Own kR 49 w' w1.heap.size x (mergeL (s.take k))) ∧ Aside0 (Below w1.heap.size w1 w'))
      case atStart => exact ⟨0, by first | rfl | simp, ⟨Nat.zero_le _, rfl⟩, ⟨Kd.R_nil _ _ _ _ _⟩, ⟨Below.refl _ _⟩⟩
      case round =>
        obtain ⟨k, rfl, HA, HO, HB⟩ := hrel
        by_cases hk : k < s.length
        · obtain ⟨ad, rfl, hx0, hx1⟩ := at_Rn HR2.out k hk
          replace hx0 := (HB.out.cell (World.block_lt_of_cell? w1 _ hx0)).trans hx0
          replace hx1 := (HB.out.cell (World.block_lt_of_cell? w1 _ hx1)).trans hx1
          obtain ⟨p, hp⟩ : ∃ p, s[k] = p := ⟨_, rfl⟩
          rw [hp] at hx0 hx1
          have HC : Aside0 (mergeL (s.take (k + 1)) = mergeStep (mergeL (s.take k)) p) := ⟨by rw [List.take_succ_eq_append_getElem hk, mergeL_snoc, hp]⟩
          have HLo : Aside0 ((mergeL (s.take k)).length ≤ k) := ⟨Nat.le_trans (mergeL_len _) (List.length_take_le _ _)⟩
          clear hp
          have HQ : Aside0 (∀ q ∈ mergeL (s.take k), OkR q) := ⟨mergeL_ok _ (fun p hp => clampL_ok (HP.out.1.mem_iff.2 (List.mem_of_mem_take hp)))⟩
          obtain ⟨o, ho⟩ : ∃ o, mergeL (s.take k) = o := ⟨_, rfl⟩
          rw [ho] at HC HLo HO HQ
          clear ho
          rcases List.eq_nil_or_concat o with he | ⟨t, q, he⟩
          · subst he
            obtain ⟨A3, c3, rfl, -, -⟩ := RdS.of_R HO.out
            go_wp2
            go_quiet (fail)
            go_wp2_with (at_builtin; refine Kd.R_append kR (w0 := w1) w1.heap.size rfl (.tmp 72) (.tmp 74) 29 49 (.agg #[(.int .i64 0), (.int .i64 0)]) 16 rfl Try.underlying29 Try.infoR rfl (by decide) (by omega) _ [] p [.int .i64 p.1, .int .i64 p.2] (fun _ => True) (fun _ => False) rfl ?aX (kR_mkM _ _ _ p) (fun _ h => h.elim) (fun _ _ => trivial) ?aO ?aB ?aS ?aL ?_)
            case aX => exact slice_newN _ _ _ _ _
            case aO => exact Kd.R_drewN (Kd.R_alloc HO.out _) _
            case aB => exact pw_below_drewN (below_alloc HB.out _) _
            case aS => exact size_le_allocN HB.out.size _ _
            case aL => simp
            intro v1 w2 ho hb _ _
            have HO1 := Aside0.mk ho
            have HB2 := Aside0.mk hb
            clear ho hb HO HB
            go_wp2
            go_roundg (gk - 1)
            case measure => have := HA.out; omega
            case rel => exact ⟨k + 1, by go_num, ⟨by have := HA.out; omega, by have := HA.out; omega⟩, ⟨by rw [HC.out, mergeStep_nil]; exact HO1.out⟩, ⟨HB2.out⟩⟩
          · rw [List.concat_eq_append] at he
            subst he
            obtain ⟨g, cap, rfl, hg1, hg2, -⟩ := Kd.R_form HO.out (by simp)
            have hlt : (t ++ [q]).length = t.length + 1 := by simp
            obtain ⟨hy0, hy1, hf0, hf1⟩ := own_atR HO.out t.length (by simp)
            have heq : (t ++ [q])[t.length]'(by simp) = q := by simp
            rw [heq] at hy0 hy1
            clear heq
            have hne : g ≠ wr.heap.size := by omega
            obtain ⟨hq0, hq1, hq2⟩ := HQ.out q (by simp)
            have htl : t.length + 1 ≤ 9223372036854775807 := by have := HLo.out; simp at this; omega
            have hw1 : IntKind.i64.wrap ((t.length : Int) + 1 - 1) = (t.length : Int) := by rw [IntWalk.i64_in _ (by omega)]; omega
            have hw2 : IntKind.i64.wrap (q.2 + 1) = q.2 + 1 := IntWalk.i64_in _ (by omega)
            by_cases hq : p.1 ≤ q.2 + 1
            · rw [hlt] at HO
              obtain ⟨z, hz⟩ : ∃ z, (if q.2 < p.2 then p.2 else q.2) = z := ⟨_, rfl⟩
              rw [hlt]
              clear hlt
              go_wp2
              go_quiet (fail)
              go_wp2
              go_region
              go_wp2
              go_roundg (gk - 1)
              case measure => have := HA.out; omega
              case rel =>
                refine ⟨k + 1, by go_num, ⟨by have := HA.out; omega, by have := HA.out; omega⟩, ⟨?_⟩, ⟨below_set (pw_below_drewN (below_alloc HB.out _) _) hg1⟩⟩
                rw [HC.out, mergeStep_snoc, if_pos hq, hz]
                have h1 := own_setR (Kd.R_drewN (Kd.R_alloc HO.out (.cells #[.int .i64 p.1, .int .i64 p.2] 49)) (nq + 1)) t.length (by simp) z
                have h2 : (t ++ [q]).set t.length (((t ++ [q])[t.length]'(by simp)).1, z) = t ++ [(q.1, z)] := by simp
                rw [h2] at h1
                exact h1
            · have hlt2 : ((t ++ [q]).length : Int) = (t.length : Int) + 1 := by simp
              rw [hlt] at HO
              rw [hlt]
              have HQ2 : Aside0 (¬ p.1 ≤ q.2 + 1) := ⟨hq⟩
              clear hlt hlt2
              go_wp2
              go_quiet (fail)
              go_wp2_with (at_builtin; refine Kd.R_append kR (w0 := w1) w1.heap.size rfl (.tmp 72) (.tmp 74) 29 49 (.agg #[(.int .i64 0), (.int .i64 0)]) 16 rfl Try.underlying29 Try.infoR rfl (by decide) (by omega) _ (t ++ [q]) p [.int .i64 p.1, .int .i64 p.2] (fun _ => True) (fun _ => False) rfl ?aX (kR_mkM _ _ _ p) (fun _ h => h.elim) (fun _ _ => trivial) ?aO ?aB ?aS ?aL ?_)
              case aX => exact slice_newN _ _ _ _ _
              case aO => exact Kd.R_drewN (Kd.R_alloc HO.out _) _
              case aB => exact pw_below_drewN (below_alloc HB.out _) _
              case aS => exact size_le_allocN HB.out.size _ _
              case aL => have h1 := HLo.out; have h2 := HSL.out; have h3 := HL.out; omega
              intro v1 w2 ho hb _ _
              have HO1 := Aside0.mk ho
              have HB2 := Aside0.mk hb
              clear ho hb HO HB hw1 hw2
              go_wp2
              go_roundg (gk - 1)
              case measure => have := HA.out; omega
              case rel => exact ⟨k + 1, by go_num, ⟨by have := HA.out; omega, by have := HA.out; omega⟩, ⟨by rw [HC.out, mergeStep_snoc, if_neg (by have := HQ2.out; omega)]; have := HO1.out; simpa using this⟩, ⟨HB2.out⟩⟩
        · have HF : Aside0 (SetOf (fun x => Mem x l) (mergeL (s.take k)) ∧ (mergeL (s.take k)).length ≤ l.length) := by
            have h1 := make_set HP.out.1 HP.out.2
            have h2 := mergeL_len s
            have h3 := HSL.out
            rw [List.take_of_length_le (by omega)]
            exact ⟨h1, by omega⟩
          go_wp2
          go_ret
          exact ⟨_, _, rfl, HF.out, Kd.R_lower HO.out HB1.out.size, below_to HB1.out HB.out⟩

end Go.Proofs.Ytpgnfccamcefgab
