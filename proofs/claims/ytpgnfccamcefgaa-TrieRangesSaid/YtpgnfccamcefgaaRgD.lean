/- Walks: ranges.Not. -/
import Derived.Test.YtpgnfccamcefgaaRgSort
namespace Go.Proofs.Ytpgnfccamcefgaa
set_option linter.unusedVariables false
set_option linter.unusedSimpArgs false
open Go.RowKit Go.Proofs.YtpgnfccamcefgaaW.PrintWords Go.Proofs.YtpgnfccamcefgaaW.PrintLast Go.Proofs.YtpgnfccamcefgaaW.PrintMore
attribute [local go_sem] max2_int min2_int max_two min_two

set_option maxHeartbeats 1000000 in
set_option maxRecDepth 100000 in
theorem not_any (w : World) (v : Value) (l : List Rg) (h : RdS kR w v l) (hl : (l.length + 1) * 16 ≤ 140737488355328) :
    Calls Try.prog 42 #[v] w (RetOwn kR 60 (fun r => SetOf (fun x => ¬ Mem x l) r ∧ r.length ≤ l.length + 1) w) := by
  have HM := Aside0.mk (make_any sort_said w v l h (by omega))
  obtain ⟨A, c, rfl, -, -⟩ := h
  have HL := Aside0.mk hl
  clear hl
  have hu := Try.underlying60
  go_enter Try.func42, Try.ntmps42
  go_wp2_with (go_at_call 33; refine HM.out.mono ?_; rintro e w1 ⟨v1, r, rfl, ⟨hset, hrl⟩, hso, hb⟩; clear HM; obtain ⟨A1, c1, rfl, _, hr1⟩ := RdS.of_R hso; have HS := Aside0.mk hset; have HR := Aside0.mk hr1; have HRL := Aside0.mk hrl; have HB1 := Aside0.mk hb; have hrlen := hr1.2.1; clear hset hr1 hrl hb hso)
  go_loopg [3, 4, 10] r.length (fun g x a i w' => ∃ k : Nat, i = .int .i64 k ∧ a = .int .i64 (notTo (r.take k)).2 ∧ Aside0 (k ≤ r.length ∧ g = r.length - k) ∧ Aside0 (Own kR 60 w' w1.heap.size x (notTo (r.take k)).1) ∧ Aside0 (Below w1.heap.size w1 w'))
  case atStart => exact ⟨0, by first | rfl | simp, rfl, ⟨Nat.zero_le _, rfl⟩, ⟨Kd.R_nil _ _ _ _ _⟩, ⟨Below.refl _ _⟩⟩
  case round =>
    obtain ⟨k, rfl, rfl, HA, HO, HB⟩ := hrel
    by_cases hk : k < r.length
    · obtain ⟨ad, rfl, hx0, hx1⟩ := at_Rn HR.out k hk
      replace hx0 := (HB.out.cell (World.block_lt_of_cell? w1 _ hx0)).trans hx0
      replace hx1 := (HB.out.cell (World.block_lt_of_cell? w1 _ hx1)).trans hx1
      obtain ⟨hq0, hq1, hq2⟩ := canon_ok HS.out.1 r[k] (List.getElem_mem hk)
      have HC : Aside0 (notTo (r.take (k + 1)) = notStep (notTo (r.take k)) r[k]) := ⟨by rw [List.take_succ_eq_append_getElem hk, notTo_snoc]⟩
      have HLo : Aside0 ((notTo (r.take k)).1.length ≤ k) := ⟨Nat.le_trans (notTo_len _) (List.length_take_le _ _)⟩
      obtain ⟨p, hp⟩ : ∃ p, r[k] = p := ⟨_, rfl⟩
      rw [hp] at hx0 hx1 hq0 hq1 hq2 HC
      clear hp
      obtain ⟨o, a, ho⟩ : ∃ o a, notTo (r.take k) = (o, a) := ⟨_, _, rfl⟩
      rw [ho] at HC HLo HO
      rw [ho]
      clear ho
      simp only [] at HLo HO ⊢
      by_cases hap : a < p.1
      · have HC2 : Aside0 (notTo (r.take (k + 1)) = (o ++ [(a, p.1 - 1)], p.2 + 1)) := ⟨by rw [HC.out]; unfold notStep; simp only []; rw [if_pos hap]⟩
        go_wp2_with (at_builtin; refine Kd.R_append kR (w0 := w1) w1.heap.size rfl (.tmp 18) (.tmp 24) 57 60 (.agg #[(.int .i64 0), (.int .i64 0)]) 16 rfl Try.underlying57 Try.infoR rfl (by decide) (by omega) _ o (a, p.1 - 1) [.int .i64 a, .int .i64 (p.1 - 1)] (fun _ => True) (fun _ => False) rfl ?aX (kR_mkM _ _ _ (a, p.1 - 1)) (fun _ h => h.elim) (fun _ _ => trivial) ?aO ?aB ?aS ?aL ?_)
        case aX => exact slice_new _ _ _ _
        case aO => exact Kd.R_alloc HO.out _
        case aB => exact below_alloc HB.out _
        case aS => exact size_le_alloc HB.out.size _
        case aL => have h1 := HLo.out; have h2 := HRL.out; have h3 := HL.out; omega
        intro v2 w2 ho hb hg _
        have hcl : w2.cell? ⟨wr.heap.size, 1, none⟩ = some (.int .i64 p.2) := cell_after HO.out hg 1 _ rfl
        have HO1 := Aside0.mk ho
        have HB2 := Aside0.mk hb
        clear ho hb hg HO HB
        go_wp2
        go_roundg (gk - 1)
        case measure => have := HA.out; omega
        case rel => exact ⟨k + 1, by go_num, by rw [HC2.out], ⟨by have := HA.out; omega, by have := HA.out; omega⟩, ⟨by rw [HC2.out]; exact HO1.out⟩, ⟨HB2.out⟩⟩
      · have HC2 : Aside0 (notTo (r.take (k + 1)) = (o, p.2 + 1)) := ⟨by rw [HC.out]; unfold notStep; simp only []; rw [if_neg hap]⟩
        go_wp2
        go_roundg (gk - 1)
        case measure => have := HA.out; omega
        case rel => exact ⟨k + 1, by go_num, by rw [HC2.out], ⟨by have := HA.out; omega, by have := HA.out; omega⟩, ⟨by rw [HC2.out]; exact Kd.R_alloc HO.out _⟩, ⟨below_alloc HB.out _⟩⟩
    · have HC : Aside0 (r.take k = r) := ⟨List.take_of_length_le (by omega)⟩
      have HF : Aside0 (SetOf (fun x => ¬ Mem x l) (notL r)) := ⟨setOf_congr (notL_set HS.out.1) (fun x h0 h1 => by rw [HS.out.2 x]; exact ⟨fun hn hm => hn ⟨h0, h1, hm⟩, fun hn hm => hn hm.2.2⟩)⟩
      have HLn : Aside0 ((notL r).length ≤ l.length + 1) := ⟨by have := notL_len r; have := HRL.out; omega⟩
      have HLo : Aside0 ((notTo r).1.length ≤ r.length) := ⟨notTo_len r⟩
      have HN : Aside0 (notL r = if (notTo r).2 ≤ 1114111 then (notTo r).1 ++ [((notTo r).2, 1114111)] else (notTo r).1) := ⟨rfl⟩
      rw [HC.out] at HO ⊢
      obtain ⟨o, a, ho⟩ : ∃ o a, notTo r = (o, a) := ⟨_, _, rfl⟩
      rw [ho] at HLo HO HN ⊢
      clear ho
      simp only [] at HLo HO HN ⊢
      by_cases hap : a ≤ 1114111
      · have HN2 : Aside0 (notL r = o ++ [(a, 1114111)]) := ⟨by rw [HN.out, if_pos hap]⟩
        go_wp2_with (at_builtin; refine Kd.R_append kR (w0 := w1) w1.heap.size rfl (.tmp 32) (.tmp 35) 57 60 (.agg #[(.int .i64 0), (.int .i64 0)]) 16 rfl Try.underlying57 Try.infoR rfl (by decide) (by omega) _ o (a, 1114111) [.int .i64 a, .int .i64 1114111] (fun _ => True) (fun _ => False) rfl rfl (kR_mkM _ _ _ (a, 1114111)) (fun _ h => h.elim) (fun _ _ => trivial) HO.out HB.out HB.out.size ?aL ?_)
        case aL => have h1 := HLo.out; have h2 := HRL.out; have h3 := HL.out; omega
        intro v2 w2 ho hb hg _
        have HO1 := Aside0.mk ho
        have HB2 := Aside0.mk hb
        clear ho hb hg HO HB
        go_wp2
        go_ret
        exact ⟨_, _, rfl, ⟨HF.out, HLn.out⟩, by rw [HN2.out]; exact Kd.R_lower HO1.out HB1.out.size, below_to HB1.out HB2.out⟩
      · have HN2 : Aside0 (notL r = o) := ⟨by rw [HN.out, if_neg hap]⟩
        go_wp2
        go_ret
        exact ⟨_, _, rfl, ⟨HF.out, HLn.out⟩, by rw [HN2.out]; exact Kd.R_lower HO.out HB1.out.size, below_to HB1.out HB.out⟩

end Go.Proofs.Ytpgnfccamcefgaa
