/- Walk of the law RangesSets: what it calls, one behind the other. Written by lawgen.py. -/
import Derived.Test.YtpgnfccamcefgaaRgO
namespace Go.Proofs.Ytpgnfccamcefgaa
set_option linter.unusedVariables false
set_option linter.unusedSimpArgs false
open Go.RowKit Go.Proofs.YtpgnfccamcefgaaW.PrintWords Go.Proofs.YtpgnfccamcefgaaW.PrintLast Go.Proofs.YtpgnfccamcefgaaW.PrintMore

set_option maxHeartbeats 4000000 in
set_option maxRecDepth 100000 in
theorem RangesSets_walk (w : World) (va : Value) (la : List Rg) (vb : Value) (lb : List Rg) (ha : RdS kR w va la) (hb : RdS kR w vb lb) :
    Calls Try.prog 11 #[va, vb] w fun e w' => e = .returned (.bool true) ∧ Below w.heap.size w w' := by
  have Ka := Aside0.mk ha
  have Kb := Aside0.mk hb
  obtain ⟨Aa, ca, rfl, -, -⟩ := ha
  obtain ⟨Ab, cb, rfl, -, -⟩ := hb
  have HB := Aside0.mk (Below.refl w.heap.size w)
  go_enter Try.func11, Try.ntmps11
  go_wp2_with fail
  refine (short_got Ka.out).mono ?_
  rintro e wea ⟨ua, rfl, hr, hn, rfl⟩
  have Na := Aside0.mk hn
  have Ia := Aside0.mk (IsOf.self (la.take 40))
  replace Ka := Aside0.mk hr
  clear hn hr
  go_wp2_with fail
  refine (short_got Kb.out).mono ?_
  rintro e web ⟨ub, rfl, hr, hn, rfl⟩
  have Nb := Aside0.mk hn
  have Ib := Aside0.mk (IsOf.self (lb.take 40))
  replace Kb := Aside0.mk hr
  clear hn hr
  go_wp2_with fail
  refine (make_got Ka.out Ia.out Na.out (by decide)).mono ?_
  rintro e w1 ⟨um, rm, rfl, hs, hn, hr, hb⟩
  replace Ka := Aside0.mk (Ka.out.below hb)
  replace Kb := Aside0.mk (Kb.out.below hb)
  replace HB := Aside0.mk (below_to HB.out hb)
  have Sm := Aside0.mk hs
  have Nm := Aside0.mk hn
  have Im := Aside0.mk hs.isOf
  have Km := Aside0.mk hr
  clear hs hn hr hb
  go_wp2_with fail
  refine (union_got Ka.out Kb.out Ia.out Ib.out Na.out Nb.out (by decide)).mono ?_
  rintro e w2 ⟨uu, ru, rfl, hs, hn, hr, hb⟩
  replace Ka := Aside0.mk (Ka.out.below hb)
  replace Kb := Aside0.mk (Kb.out.below hb)
  replace Km := Aside0.mk (Km.out.below hb)
  replace HB := Aside0.mk (below_to HB.out hb)
  have Su := Aside0.mk hs
  have Nu := Aside0.mk hn
  have Iu := Aside0.mk hs.isOf
  have Ku := Aside0.mk hr
  clear hs hn hr hb
  go_wp2_with fail
  refine (meet_got Ka.out Kb.out Ia.out Ib.out Na.out Nb.out (by decide)).mono ?_
  rintro e w3 ⟨ut, rt, rfl, hs, hn, hr, hb⟩
  replace Ka := Aside0.mk (Ka.out.below hb)
  replace Kb := Aside0.mk (Kb.out.below hb)
  replace Km := Aside0.mk (Km.out.below hb)
  replace Ku := Aside0.mk (Ku.out.below hb)
  replace HB := Aside0.mk (below_to HB.out hb)
  have St := Aside0.mk hs
  have Nt := Aside0.mk hn
  have It := Aside0.mk hs.isOf
  have Kt := Aside0.mk hr
  clear hs hn hr hb
  go_wp2_with fail
  refine (minus_got Ka.out Kb.out Ia.out Ib.out Na.out Nb.out (by decide)).mono ?_
  rintro e w4 ⟨ud, rd, rfl, hs, hn, hr, hb⟩
  replace Ka := Aside0.mk (Ka.out.below hb)
  replace Kb := Aside0.mk (Kb.out.below hb)
  replace Km := Aside0.mk (Km.out.below hb)
  replace Ku := Aside0.mk (Ku.out.below hb)
  replace Kt := Aside0.mk (Kt.out.below hb)
  replace HB := Aside0.mk (below_to HB.out hb)
  have Sd := Aside0.mk hs
  have Nd := Aside0.mk hn
  have Id := Aside0.mk hs.isOf
  have Kd := Aside0.mk hr
  clear hs hn hr hb
  go_wp2_with fail
  refine (xor_got Ka.out Kb.out Ia.out Ib.out Na.out Nb.out (by decide)).mono ?_
  rintro e w5 ⟨ue, re, rfl, hs, hn, hr, hb⟩
  replace Ka := Aside0.mk (Ka.out.below hb)
  replace Kb := Aside0.mk (Kb.out.below hb)
  replace Km := Aside0.mk (Km.out.below hb)
  replace Ku := Aside0.mk (Ku.out.below hb)
  replace Kt := Aside0.mk (Kt.out.below hb)
  replace Kd := Aside0.mk (Kd.out.below hb)
  replace HB := Aside0.mk (below_to HB.out hb)
  have Se := Aside0.mk hs
  have Ne := Aside0.mk hn
  have Ie := Aside0.mk hs.isOf
  have Ke := Aside0.mk hr
  clear hs hn hr hb
  go_wp2_with fail
  refine (not_got Ka.out Ia.out Na.out (by decide)).mono ?_
  rintro e w6 ⟨un, rn, rfl, hs, hn, hr, hb⟩
  replace Ka := Aside0.mk (Ka.out.below hb)
  replace Kb := Aside0.mk (Kb.out.below hb)
  replace Km := Aside0.mk (Km.out.below hb)
  replace Ku := Aside0.mk (Ku.out.below hb)
  replace Kt := Aside0.mk (Kt.out.below hb)
  replace Kd := Aside0.mk (Kd.out.below hb)
  replace Ke := Aside0.mk (Ke.out.below hb)
  replace HB := Aside0.mk (below_to HB.out hb)
  have Sn := Aside0.mk hs
  have Nn := Aside0.mk hn
  have In := Aside0.mk hs.isOf
  have Kn := Aside0.mk hr
  clear hs hn hr hb

  obtain ⟨Am, cm, rfl, -, -⟩ := Km.out
  obtain ⟨Au, cu, rfl, -, -⟩ := Ku.out
  obtain ⟨At, ct, rfl, -, -⟩ := Kt.out
  obtain ⟨Ad, cd, rfl, -, -⟩ := Kd.out
  obtain ⟨Ae, ce, rfl, -, -⟩ := Ke.out
  obtain ⟨An, cn, rfl, -, -⟩ := Kn.out
  have hb6 := heap_alloc_new w6 (.cells #[.slice Am rm.length cm, .slice Au ru.length cu, .slice At rt.length ct, .slice Ad rd.length cd, .slice Ae re.length ce, .slice An rn.length cn] 57)
  have H40 : Aside0 (∀ k, k < 6 → ∃ vk rk, (w6.alloc (.cells #[.slice Am rm.length cm, .slice Au ru.length cu, .slice At rt.length ct, .slice Ad rd.length cd, .slice Ae re.length ce, .slice An rn.length cn] 57)).cell? ⟨w6.heap.size, k, none⟩ = some vk ∧ RdS kR (w6.alloc (.cells #[.slice Am rm.length cm, .slice Au ru.length cu, .slice At rt.length ct, .slice Ad rd.length cd, .slice Ae re.length ce, .slice An rn.length cn] 57)) vk rk ∧ Canon rk ∧ rk.length * 64 ≤ 1407374883553) := ⟨fun k hk => by
    have hbl : ∀ o, Below w6.heap.size w6 (w6.alloc o) := fun o => below_alloc (Below.refl _ _) o
    match k, hk with
    | 0, _ => exact ⟨_, _, (blk_cell hb6 _).trans rfl, Km.out.below (hbl _), Sm.out.1, Nat.le_trans (Nat.mul_le_mul_right _ Nm.out) (by decide)⟩
    | 1, _ => exact ⟨_, _, (blk_cell hb6 _).trans rfl, Ku.out.below (hbl _), Su.out.1, Nat.le_trans (Nat.mul_le_mul_right _ Nu.out) (by decide)⟩
    | 2, _ => exact ⟨_, _, (blk_cell hb6 _).trans rfl, Kt.out.below (hbl _), St.out.1, Nat.le_trans (Nat.mul_le_mul_right _ Nt.out) (by decide)⟩
    | 3, _ => exact ⟨_, _, (blk_cell hb6 _).trans rfl, Kd.out.below (hbl _), Sd.out.1, Nat.le_trans (Nat.mul_le_mul_right _ Nd.out) (by decide)⟩
    | 4, _ => exact ⟨_, _, (blk_cell hb6 _).trans rfl, Ke.out.below (hbl _), Se.out.1, Nat.le_trans (Nat.mul_le_mul_right _ Ne.out) (by decide)⟩
    | 5, _ => exact ⟨_, _, (blk_cell hb6 _).trans rfl, Kn.out.below (hbl _), Sn.out.1, Nat.le_trans (Nat.mul_le_mul_right _ Nn.out) (by decide)⟩⟩
  clear hb6
  have HBW := Aside0.mk (below_alloc HB.out (.cells #[.slice Am rm.length cm, .slice Au ru.length cu, .slice At rt.length ct, .slice Ad rd.length cd, .slice Ae re.length ce, .slice An rn.length cn] 57))
  have HWlt : Aside0 (w6.heap.size < (w6.alloc (.cells #[.slice Am rm.length cm, .slice Au ru.length cu, .slice At rt.length ct, .slice Ad rd.length cd, .slice Ae re.length ce, .slice An rn.length cn] 57)).heap.size) := ⟨by simp⟩
  clear Km Ku Kt Kd Ke Kn Sm Su St Sd Se Sn Nm Nu Nt Nd Ne Nn Im Iu It Id Ie In HB Ka Kb
  go_wp2
  obtain ⟨W7, hW7⟩ : ∃ W7, w6.alloc (.cells #[.slice Am rm.length cm, .slice Au ru.length cu, .slice At rt.length ct, .slice Ad rd.length cd, .slice Ae re.length ce, .slice An rn.length cn] 57) = W7 := ⟨_, rfl⟩
  rw [hW7] at H40 HBW HWlt
  rw [hW7]
  clear hW7
  obtain ⟨b, hb⟩ : ∃ b, w6.heap.size = b := ⟨_, rfl⟩
  rw [hb] at H40 HWlt
  rw [hb]
  clear hb
  go_loopg [29] 6 (fun g i w' => ∃ k : Nat, i = .int .i64 k ∧ Aside0 (k ≤ 6 ∧ g = 6 - k) ∧ Aside0 (Below W7.heap.size W7 w'))
  case atStart => exact ⟨0, by first | rfl | simp, ⟨Nat.zero_le _, rfl⟩, ⟨Below.refl _ _⟩⟩
  case round =>
    obtain ⟨k, rfl, HA, HB⟩ := hrel
    by_cases hk : k < 6
    · obtain ⟨vk, rk, hc, hK, hC, hL⟩ := H40.out k hk
      have HK : Aside0 (RdS kR wr vk rk) := ⟨hK.below HB.out⟩
      have HC := Aside0.mk hC
      have HLk := Aside0.mk hL
      obtain ⟨Av, cv, rfl, -, -⟩ := hK
      replace hc := (HB.out.cell (p := ⟨b, k, none⟩) HWlt.out).trans hc
      clear hC hL
      go_wp2_with fail
      refine (can_got HK.out HC.out).mono ?_
      rintro e w8 ⟨rfl, hb⟩
      replace HK := Aside0.mk (HK.out.below hb)
      replace HB := Aside0.mk (below_to HB.out hb)
      clear hb hc
      go_wp2_with fail
      refine (refCan_any _ _ _ HK.out HLk.out).mono ?_
      rintro e w9 ⟨he, hb⟩
      rw [decide_eq_true HC.out] at he
      subst he
      replace HB := Aside0.mk (below_to HB.out hb)
      clear hb
      go_wp2
      go_roundg (gk - 1)
      case measure => have := HA.out; omega
      case rel => exact ⟨k + 1, by go_num, ⟨by have := HA.out; omega, by have := HA.out; omega⟩, HB⟩
    · go_wp2_with fail
      refine (awake_any _).mono ?_
      rintro e w8 ⟨rfl, hb⟩
      replace HB := Aside0.mk (below_to HBW.out (below_to HB.out hb))
      clear hb
      go_wp2
      go_ret
      exact ⟨rfl, HB.out⟩

end Go.Proofs.Ytpgnfccamcefgaa
