/- Walks: ranges.Meet. -/
import Derived.Test.YtpgnfccamcefgaaRgSort
import Derived.BigRegion
namespace Go.Proofs.Ytpgnfccamcefgaa
set_option linter.unusedVariables false
set_option linter.unusedSimpArgs false
open Go.RowKit Go.Proofs.YtpgnfccamcefgaaW.PrintWords Go.Proofs.YtpgnfccamcefgaaW.PrintLast Go.Proofs.YtpgnfccamcefgaaW.PrintMore
attribute [local go_sem] max2_int min2_int max_two min_two

set_option maxHeartbeats 4000000 in
set_option maxRecDepth 100000 in
theorem meet_any (w : World) (v u : Value) (l m : List Rg) (h : RdS kR w v l) (h' : RdS kR w u m) (hl : (l.length + m.length + 1) * 16 ≤ 140737488355328) :
    Calls Try.prog 44 #[v, u] w (RetOwn kR 60 (fun r => SetOf (fun x => Mem x l ∧ Mem x m) r ∧ r.length ≤ l.length + m.length) w) := by
  have HM := Aside0.mk (make_any sort_said w v l h (by omega))
  have HU := Aside0.mk h'
  obtain ⟨A, c, rfl, -, -⟩ := h
  obtain ⟨B, c', rfl, -, -⟩ := h'
  have HL := Aside0.mk hl
  clear hl
  have hu := Try.underlying60
  go_enter Try.func44, Try.ntmps44
  go_wp2_with fail
  refine HM.out.mono ?_
  rintro e w1 ⟨v1, ra, rfl, HS1, hso1, hb1⟩
  have HS1 := Aside0.mk HS1
  clear HM
  go_wp2_with fail
  refine (make_any sort_said w1 _ m (HU.out.below hb1) (by have := HL.out; omega)).mono ?_
  rintro e w2 ⟨v2, rb, rfl, HS2, hso2, hb2⟩
  have HS2 := Aside0.mk HS2
  obtain ⟨A1, c1, rfl, hc1, hr1⟩ := RdS.of_R (Kd.R_below hso1 hb2)
  obtain ⟨A2, c2, rfl, hc2, hr2⟩ := RdS.of_R hso2
  have HB0 : Aside0 (Below w.heap.size w w2) := ⟨below_to hb1 hb2⟩
  have HR1 := Aside0.mk hr1
  have HR2 := Aside0.mk hr2
  have HC1 := Aside0.mk hc1
  have HC2 := Aside0.mk hc2
  clear hso1 hso2 hb1 hb2 hr1 hr2 HU hc1 hc2
  go_wp2
  go_loopg [0, 1, 5] (ra.length + rb.length) (fun g x y z w' => ∃ (Aa Ab : Option Addr) (ca cb : Nat) (a b o : List Rg), x = .slice Aa a.length ca ∧ y = .slice Ab b.length cb ∧ Aside0 (Kd.C kR w2 Aa a.length a ∧ a.length ≤ ca) ∧ Aside0 (Kd.C kR w2 Ab b.length b ∧ b.length ≤ cb) ∧ Aside0 (g = a.length + b.length ∧ meetL (ra.length + rb.length) ra rb = o ++ meetL g a b) ∧ Aside0 (Own kR 60 w' w2.heap.size z o) ∧ Aside0 (Below w2.heap.size w2 w'))
  case atStart => exact ⟨_, _, _, _, ra, rb, [], rfl, rfl, ⟨HR1.out, HC1.out⟩, ⟨HR2.out, HC2.out⟩, ⟨rfl, rfl⟩, ⟨Kd.R_nil _ _ _ _ _⟩, ⟨Below.refl _ _⟩⟩
  case round =>
    obtain ⟨Aa, Ab, ca, cb, a, b, o, rfl, rfl, HRa, HRb, HA, HO, HB⟩ := hrel
    have HFS : Aside0 (SetOf (fun x => Mem x l ∧ Mem x m) (meetL (ra.length + rb.length) ra rb) ∧ (meetL (ra.length + rb.length) ra rb).length ≤ l.length + m.length) := by
      have h1 := meetL_set (ra.length + rb.length) ra rb 0 0 (Nat.le_refl _) HS1.out.1.1 HS2.out.1.1
      have h2 := meetL_len (ra.length + rb.length) ra rb
      have h3 := HS1.out.2
      have h4 := HS2.out.2
      exact ⟨⟨by have h5 := h1.1; simp at h5; exact h5, fun x => by rw [h1.2 x, HS1.out.1.2 x, HS2.out.1.2 x]; exact ⟨fun ⟨a, b⟩ => ⟨a.1, a.2.1, a.2.2, b.2.2⟩, fun ⟨a, b, c, d⟩ => ⟨⟨a, b, c⟩, a, b, d⟩⟩⟩, by omega⟩
    have HLO : Aside0 (o.length ≤ l.length + m.length) := ⟨by
      have h1 := HFS.out.2
      rw [HA.out.2, List.length_append] at h1
      omega⟩
    have hla := HRa.out.1.2.1
    have hlb := HRb.out.1.2.1
    cases a with
    | nil =>
      have HF : Aside0 (o = meetL (ra.length + rb.length) ra rb) := ⟨by rw [HA.out.2]; cases gk <;> simp [meetL]⟩
      go_wp2
      go_ret
      exact ⟨_, _, rfl, HFS.out, by rw [← HF.out]; exact Kd.R_lower HO.out HB0.out.size, below_to HB0.out HB.out⟩
    | cons p s =>
      cases b with
      | nil =>
        have HF : Aside0 (o = meetL (ra.length + rb.length) ra rb) := ⟨by rw [HA.out.2]; cases gk <;> simp [meetL]⟩
        go_wp2
        go_ret
        exact ⟨_, _, rfl, HFS.out, by rw [← HF.out]; exact Kd.R_lower HO.out HB0.out.size, below_to HB0.out HB.out⟩
      | cons q t =>
        obtain ⟨ad, rfl, hx0, hx1⟩ := at_R0 HRa.out.1
        obtain ⟨bd, rfl, hy0, hy1⟩ := at_R0 HRb.out.1
        have HX1 := Aside0.mk hx1
        have HY1 := Aside0.mk hy1
        replace hx0 := (HB.out.cell (World.block_lt_of_cell? w2 _ hx0)).trans hx0
        replace hx1 := (HB.out.cell (World.block_lt_of_cell? w2 _ hx1)).trans hx1
        replace hy0 := (HB.out.cell (World.block_lt_of_cell? w2 _ hy0)).trans hy0
        replace hy1 := (HB.out.cell (World.block_lt_of_cell? w2 _ hy1)).trans hy1
        obtain ⟨lo, hlo⟩ : ∃ lo, (if p.1 < q.1 then q.1 else p.1) = lo := ⟨_, rfl⟩
        obtain ⟨hi, hhi⟩ : ∃ hi, (if q.2 < p.2 then q.2 else p.2) = hi := ⟨_, rfl⟩
        obtain ⟨g1, hg1⟩ : ∃ g1, gk = g1 + 1 := ⟨gk - 1, by have := HA.out.1; simp at this; omega⟩
        have HM : Aside0 (meetL gk (p :: s) (q :: t) = (if lo ≤ hi then [(lo, hi)] else []) ++ (if p.2 < q.2 then meetL g1 s (q :: t) else meetL g1 (p :: s) t)) := ⟨by rw [hg1, meetL, hlo, hhi]⟩
        have HG := Aside0.mk hg1
        clear hg1
        by_cases hlh : lo ≤ hi
        · by_cases hpq : p.2 < q.2
          · have HM2 : Aside0 (meetL gk (p :: s) (q :: t) = [(lo, hi)] ++ meetL g1 s (q :: t)) := ⟨by rw [HM.out, if_pos hlh, if_pos hpq]⟩
            have HPQ := Aside0.mk hpq
            clear hpq
            obtain ⟨A3, c3, hcut, hC3, hl3⟩ := cutR1 HRa.out.1 HRa.out.2
            have HC3 := Aside0.mk hC3
            have HL3 := Aside0.mk hl3
            clear hC3 hl3
            go_wp2
            go_quiet (fail)
            go_wp2_with (at_builtin; refine Kd.R_append kR (w0 := w2) w2.heap.size rfl (.tmp 41) (.tmp 45) 57 60 (.agg #[(.int .i64 0), (.int .i64 0)]) 16 rfl Try.underlying57 Try.infoR rfl (by decide) (by omega) _ o (lo, hi) [.int .i64 lo, .int .i64 hi] (fun _ => True) (fun _ => False) rfl ?aX (kR_mkM _ _ _ (lo, hi)) (fun _ h => h.elim) (fun _ _ => trivial) ?aO ?aB ?aS ?aL ?_)
            case aX => rfl
            case aO => exact Kd.R_drewN HO.out _
            case aB => exact pw_below_drewN HB.out _
            case aS => exact HB.out.size
            case aL => have h1 := HLO.out; have h3 := HL.out; omega
            intro v3 w3 ho hb _ _
            have hx3 : w3.cell? ⟨ad.block, ad.off + 1, none⟩ = some (.int .i64 p.2) := (hb.cell (World.block_lt_of_cell? w2 _ HX1.out)).trans HX1.out
            have hy3 : w3.cell? ⟨bd.block, bd.off + 1, none⟩ = some (.int .i64 q.2) := (hb.cell (World.block_lt_of_cell? w2 _ HY1.out)).trans HY1.out
            have HO1 := Aside0.mk ho
            have HB3 := Aside0.mk hb
            clear ho hb HO HB hx0 hx1 hy0 hy1
            have hpq := HPQ.out
            go_wp2
            go_quiet (fail)
            go_wp2
            go_roundg g1
            case measure => have := HG.out; omega
            case rel => exact ⟨_, _, _, _, s, (q :: t), o ++ [(lo, hi)], rfl, rfl, ⟨HC3.out, HL3.out⟩, HRb, ⟨by have h1 := HA.out.1; have h2 := HG.out; simp at h1; simp; omega, by rw [HA.out.2, HM2.out, ← List.append_assoc]⟩, ⟨Kd.R_drewN HO1.out _⟩, ⟨pw_below_drewN HB3.out _⟩⟩
          · have HM2 : Aside0 (meetL gk (p :: s) (q :: t) = [(lo, hi)] ++ meetL g1 (p :: s) t) := ⟨by rw [HM.out, if_pos hlh, if_neg hpq]⟩
            have HPQ := Aside0.mk hpq
            clear hpq
            obtain ⟨A3, c3, hcut, hC3, hl3⟩ := cutR1 HRb.out.1 HRb.out.2
            have HC3 := Aside0.mk hC3
            have HL3 := Aside0.mk hl3
            clear hC3 hl3
            go_wp2
            go_quiet (fail)
            go_wp2_with (at_builtin; refine Kd.R_append kR (w0 := w2) w2.heap.size rfl (.tmp 41) (.tmp 45) 57 60 (.agg #[(.int .i64 0), (.int .i64 0)]) 16 rfl Try.underlying57 Try.infoR rfl (by decide) (by omega) _ o (lo, hi) [.int .i64 lo, .int .i64 hi] (fun _ => True) (fun _ => False) rfl ?aX (kR_mkM _ _ _ (lo, hi)) (fun _ h => h.elim) (fun _ _ => trivial) ?aO ?aB ?aS ?aL ?_)
            case aX => rfl
            case aO => exact Kd.R_drewN HO.out _
            case aB => exact pw_below_drewN HB.out _
            case aS => exact HB.out.size
            case aL => have h1 := HLO.out; have h3 := HL.out; omega
            intro v3 w3 ho hb _ _
            have hx3 : w3.cell? ⟨ad.block, ad.off + 1, none⟩ = some (.int .i64 p.2) := (hb.cell (World.block_lt_of_cell? w2 _ HX1.out)).trans HX1.out
            have hy3 : w3.cell? ⟨bd.block, bd.off + 1, none⟩ = some (.int .i64 q.2) := (hb.cell (World.block_lt_of_cell? w2 _ HY1.out)).trans HY1.out
            have HO1 := Aside0.mk ho
            have HB3 := Aside0.mk hb
            clear ho hb HO HB hx0 hx1 hy0 hy1
            have hpq := HPQ.out
            go_wp2
            go_quiet (fail)
            go_wp2
            go_roundg g1
            case measure => have := HG.out; omega
            case rel => exact ⟨_, _, _, _, (p :: s), t, o ++ [(lo, hi)], rfl, rfl, HRa, ⟨HC3.out, HL3.out⟩, ⟨by have h1 := HA.out.1; have h2 := HG.out; simp at h1; simp; omega, by rw [HA.out.2, HM2.out, ← List.append_assoc]⟩, ⟨Kd.R_drewN HO1.out _⟩, ⟨pw_below_drewN HB3.out _⟩⟩
        · by_cases hpq : p.2 < q.2
          · have HM2 : Aside0 (meetL gk (p :: s) (q :: t) = ([] : List Rg) ++ meetL g1 s (q :: t)) := ⟨by rw [HM.out, if_neg hlh, if_pos hpq]⟩
            have HPQ := Aside0.mk hpq
            clear hpq
            obtain ⟨A3, c3, hcut, hC3, hl3⟩ := cutR1 HRa.out.1 HRa.out.2
            have HC3 := Aside0.mk hC3
            have HL3 := Aside0.mk hl3
            clear hC3 hl3
            go_wp2
            go_quiet (fail)
            have hpq := HPQ.out
            go_wp2
            go_quiet (fail)
            go_wp2
            go_roundg g1
            case measure => have := HG.out; omega
            case rel => exact ⟨_, _, _, _, s, (q :: t), o, rfl, rfl, ⟨HC3.out, HL3.out⟩, HRb, ⟨by have h1 := HA.out.1; have h2 := HG.out; simp at h1; simp; omega, by rw [HA.out.2, HM2.out, ← List.append_assoc]; simp⟩, ⟨Kd.R_drewN HO.out _⟩, ⟨pw_below_drewN HB.out _⟩⟩
          · have HM2 : Aside0 (meetL gk (p :: s) (q :: t) = ([] : List Rg) ++ meetL g1 (p :: s) t) := ⟨by rw [HM.out, if_neg hlh, if_neg hpq]⟩
            have HPQ := Aside0.mk hpq
            clear hpq
            obtain ⟨A3, c3, hcut, hC3, hl3⟩ := cutR1 HRb.out.1 HRb.out.2
            have HC3 := Aside0.mk hC3
            have HL3 := Aside0.mk hl3
            clear hC3 hl3
            go_wp2
            go_quiet (fail)
            have hpq := HPQ.out
            go_wp2
            go_quiet (fail)
            go_wp2
            go_roundg g1
            case measure => have := HG.out; omega
            case rel => exact ⟨_, _, _, _, (p :: s), t, o, rfl, rfl, HRa, ⟨HC3.out, HL3.out⟩, ⟨by have h1 := HA.out.1; have h2 := HG.out; simp at h1; simp; omega, by rw [HA.out.2, HM2.out, ← List.append_assoc]; simp⟩, ⟨Kd.R_drewN HO.out _⟩, ⟨pw_below_drewN HB.out _⟩⟩

end Go.Proofs.Ytpgnfccamcefgaa
