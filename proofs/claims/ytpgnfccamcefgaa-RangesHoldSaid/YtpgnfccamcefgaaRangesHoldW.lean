/- Walk of the law RangesHold: what it calls, one behind the other. Written by lawgen.py. -/
import Derived.Test.YtpgnfccamcefgaaRgL
namespace Go.Proofs.Ytpgnfccamcefgaa
set_option linter.unusedVariables false
set_option linter.unusedSimpArgs false
open Go.RowKit Go.Proofs.YtpgnfccamcefgaaW.PrintWords Go.Proofs.YtpgnfccamcefgaaW.PrintLast Go.Proofs.YtpgnfccamcefgaaW.PrintMore

set_option maxHeartbeats 4000000 in
set_option maxRecDepth 100000 in
theorem RangesHold_case (w : World) (va : Value) (la : List Rg) (vb : Value) (lb : List Rg) (r : Int) (tx ty c0 c1 : Bool) (hx : tx = true ↔ (0 ≤ r ∧ r ≤ 1114111 ∧ Mem r (la.take 40))) (hy : ty = true ↔ (0 ≤ r ∧ r ≤ 1114111 ∧ Mem r (lb.take 40))) (h0 : c0 = decide (0 ≤ r)) (h1 : c1 = decide (r ≤ 1114111)) (ha : RdS kR w va la) (hb : RdS kR w vb lb) :
    Calls Try.prog 13 #[va, vb, .int .i64 r] w fun e w' => e = .returned (.bool true) ∧ Below w.heap.size w w' := by
  cases tx <;> cases ty <;> cases c0 <;> cases c1
  all_goals first | (exfalso; have k := hx.1 rfl; simp at h0 h1; omega; done) | (exfalso; have k := hy.1 rfl; simp at h0 h1; omega; done) | (exfalso; simp at h0 h1; omega; done) | skip
  all_goals
    have HX := Aside0.mk hx
    have HY := Aside0.mk hy
    simp at h0 h1
    clear hx hy
    have Ka := Aside0.mk ha
    have Kb := Aside0.mk hb
    obtain ⟨Aa, ca, rfl, -, -⟩ := ha
    obtain ⟨Ab, cb, rfl, -, -⟩ := hb
    have HB := Aside0.mk (Below.refl w.heap.size w)
    go_enter Try.func13, Try.ntmps13
    go_wp2_with fail
    refine (short_got Ka.out).mono ?_
    rintro e wea ⟨ua, rfl, hr, hn, rfl⟩
    have Na := Aside0.mk hn
    have Ia := Aside0.mk (IsOf.self (la.take 40))
    replace Ka := Aside0.mk hr
    clear hn hr
    go_wp2_with fail
    refine (short_got Kb.out).mono ?_
    rintro e web ⟨ub, rfl, hr, hn, rfl⟩
    have Nb := Aside0.mk hn
    have Ib := Aside0.mk (IsOf.self (lb.take 40))
    replace Kb := Aside0.mk hr
    clear hn hr
    go_wp2_with fail
    first | refine (has_is Ka.out Ia.out true (by have hx := HX.out; have hy := HY.out; first | (simp [h0, h1] at hx hy; simp [h0, h1, hx, hy]; done) | (simp; intro h; omega) | (simp; intro h h'; omega) | (simp; omega))).mono ?_ | refine (has_is Ka.out Ia.out false (by have hx := HX.out; have hy := HY.out; first | (simp [h0, h1] at hx hy; simp [h0, h1, hx, hy]; done) | (simp; intro h; omega) | (simp; intro h h'; omega) | (simp; omega))).mono ?_
    rintro e w1 ⟨rfl, hb⟩
    replace Ka := Aside0.mk (Ka.out.below hb)
    replace Kb := Aside0.mk (Kb.out.below hb)
    replace HB := Aside0.mk (below_to HB.out hb)
    clear hb
    go_wp2_with fail
    first | refine (has_is Kb.out Ib.out true (by have hx := HX.out; have hy := HY.out; first | (simp [h0, h1] at hx hy; simp [h0, h1, hx, hy]; done) | (simp; intro h; omega) | (simp; intro h h'; omega) | (simp; omega))).mono ?_ | refine (has_is Kb.out Ib.out false (by have hx := HX.out; have hy := HY.out; first | (simp [h0, h1] at hx hy; simp [h0, h1, hx, hy]; done) | (simp; intro h; omega) | (simp; intro h h'; omega) | (simp; omega))).mono ?_
    rintro e w2 ⟨rfl, hb⟩
    replace Ka := Aside0.mk (Ka.out.below hb)
    replace Kb := Aside0.mk (Kb.out.below hb)
    replace HB := Aside0.mk (below_to HB.out hb)
    clear hb
    go_wp2_with fail
    refine (union_got Ka.out Kb.out Ia.out Ib.out Na.out Nb.out (by decide)).mono ?_
    rintro e w3 ⟨uu, ru, rfl, hs, hn, hr, hb⟩
    replace Ka := Aside0.mk (Ka.out.below hb)
    replace Kb := Aside0.mk (Kb.out.below hb)
    replace HB := Aside0.mk (below_to HB.out hb)
    have Su := Aside0.mk hs
    have Nu := Aside0.mk hn
    have Iu := Aside0.mk hs.isOf
    have Ku := Aside0.mk hr
    clear hs hn hr hb
    go_wp2_with fail
    first | refine (has_is Ku.out Iu.out true (by have hx := HX.out; have hy := HY.out; first | (simp [h0, h1] at hx hy; simp [h0, h1, hx, hy]; done) | (simp; intro h; omega) | (simp; intro h h'; omega) | (simp; omega))).mono ?_ | refine (has_is Ku.out Iu.out false (by have hx := HX.out; have hy := HY.out; first | (simp [h0, h1] at hx hy; simp [h0, h1, hx, hy]; done) | (simp; intro h; omega) | (simp; intro h h'; omega) | (simp; omega))).mono ?_
    rintro e w4 ⟨rfl, hb⟩
    replace Ka := Aside0.mk (Ka.out.below hb)
    replace Kb := Aside0.mk (Kb.out.below hb)
    replace Ku := Aside0.mk (Ku.out.below hb)
    replace HB := Aside0.mk (below_to HB.out hb)
    clear hb
    go_wp2_with fail
    refine (meet_got Ka.out Kb.out Ia.out Ib.out Na.out Nb.out (by decide)).mono ?_
    rintro e w5 ⟨um, rm, rfl, hs, hn, hr, hb⟩
    replace Ka := Aside0.mk (Ka.out.below hb)
    replace Kb := Aside0.mk (Kb.out.below hb)
    replace Ku := Aside0.mk (Ku.out.below hb)
    replace HB := Aside0.mk (below_to HB.out hb)
    have Sm := Aside0.mk hs
    have Nm := Aside0.mk hn
    have Im := Aside0.mk hs.isOf
    have Km := Aside0.mk hr
    clear hs hn hr hb
    go_wp2_with fail
    first | refine (has_is Km.out Im.out true (by have hx := HX.out; have hy := HY.out; first | (simp [h0, h1] at hx hy; simp [h0, h1, hx, hy]; done) | (simp; intro h; omega) | (simp; intro h h'; omega) | (simp; omega))).mono ?_ | refine (has_is Km.out Im.out false (by have hx := HX.out; have hy := HY.out; first | (simp [h0, h1] at hx hy; simp [h0, h1, hx, hy]; done) | (simp; intro h; omega) | (simp; intro h h'; omega) | (simp; omega))).mono ?_
    rintro e w6 ⟨rfl, hb⟩
    replace Ka := Aside0.mk (Ka.out.below hb)
    replace Kb := Aside0.mk (Kb.out.below hb)
    replace Ku := Aside0.mk (Ku.out.below hb)
    replace Km := Aside0.mk (Km.out.below hb)
    replace HB := Aside0.mk (below_to HB.out hb)
    clear hb
    go_wp2_with fail
    refine (minus_got Ka.out Kb.out Ia.out Ib.out Na.out Nb.out (by decide)).mono ?_
    rintro e w7 ⟨ud, rd, rfl, hs, hn, hr, hb⟩
    replace Ka := Aside0.mk (Ka.out.below hb)
    replace Kb := Aside0.mk (Kb.out.below hb)
    replace Ku := Aside0.mk (Ku.out.below hb)
    replace Km := Aside0.mk (Km.out.below hb)
    replace HB := Aside0.mk (below_to HB.out hb)
    have Sd := Aside0.mk hs
    have Nd := Aside0.mk hn
    have Id := Aside0.mk hs.isOf
    have Kd := Aside0.mk hr
    clear hs hn hr hb
    go_wp2_with fail
    first | refine (has_is Kd.out Id.out true (by have hx := HX.out; have hy := HY.out; first | (simp [h0, h1] at hx hy; simp [h0, h1, hx, hy]; done) | (simp; intro h; omega) | (simp; intro h h'; omega) | (simp; omega))).mono ?_ | refine (has_is Kd.out Id.out false (by have hx := HX.out; have hy := HY.out; first | (simp [h0, h1] at hx hy; simp [h0, h1, hx, hy]; done) | (simp; intro h; omega) | (simp; intro h h'; omega) | (simp; omega))).mono ?_
    rintro e w8 ⟨rfl, hb⟩
    replace Ka := Aside0.mk (Ka.out.below hb)
    replace Kb := Aside0.mk (Kb.out.below hb)
    replace Ku := Aside0.mk (Ku.out.below hb)
    replace Km := Aside0.mk (Km.out.below hb)
    replace Kd := Aside0.mk (Kd.out.below hb)
    replace HB := Aside0.mk (below_to HB.out hb)
    clear hb
    go_wp2_with fail
    refine (xor_got Ka.out Kb.out Ia.out Ib.out Na.out Nb.out (by decide)).mono ?_
    rintro e w9 ⟨ue, re, rfl, hs, hn, hr, hb⟩
    replace Ka := Aside0.mk (Ka.out.below hb)
    replace Kb := Aside0.mk (Kb.out.below hb)
    replace Ku := Aside0.mk (Ku.out.below hb)
    replace Km := Aside0.mk (Km.out.below hb)
    replace Kd := Aside0.mk (Kd.out.below hb)
    replace HB := Aside0.mk (below_to HB.out hb)
    have Se := Aside0.mk hs
    have Ne := Aside0.mk hn
    have Ie := Aside0.mk hs.isOf
    have Ke := Aside0.mk hr
    clear hs hn hr hb
    go_wp2_with fail
    first | refine (has_is Ke.out Ie.out true (by have hx := HX.out; have hy := HY.out; first | (simp [h0, h1] at hx hy; simp [h0, h1, hx, hy]; done) | (simp; intro h; omega) | (simp; intro h h'; omega) | (simp; omega))).mono ?_ | refine (has_is Ke.out Ie.out false (by have hx := HX.out; have hy := HY.out; first | (simp [h0, h1] at hx hy; simp [h0, h1, hx, hy]; done) | (simp; intro h; omega) | (simp; intro h h'; omega) | (simp; omega))).mono ?_
    rintro e w10 ⟨rfl, hb⟩
    replace Ka := Aside0.mk (Ka.out.below hb)
    replace Kb := Aside0.mk (Kb.out.below hb)
    replace Ku := Aside0.mk (Ku.out.below hb)
    replace Km := Aside0.mk (Km.out.below hb)
    replace Kd := Aside0.mk (Kd.out.below hb)
    replace Ke := Aside0.mk (Ke.out.below hb)
    replace HB := Aside0.mk (below_to HB.out hb)
    clear hb
    go_wp2_with fail
    refine (not_got Ka.out Ia.out Na.out (by decide)).mono ?_
    rintro e w11 ⟨un, rn, rfl, hs, hn, hr, hb⟩
    replace Ka := Aside0.mk (Ka.out.below hb)
    replace Kb := Aside0.mk (Kb.out.below hb)
    replace Ku := Aside0.mk (Ku.out.below hb)
    replace Km := Aside0.mk (Km.out.below hb)
    replace Kd := Aside0.mk (Kd.out.below hb)
    replace Ke := Aside0.mk (Ke.out.below hb)
    replace HB := Aside0.mk (below_to HB.out hb)
    have Sn := Aside0.mk hs
    have Nn := Aside0.mk hn
    have In := Aside0.mk hs.isOf
    have Kn := Aside0.mk hr
    clear hs hn hr hb
    go_wp2_with fail
    first | refine (has_is Kn.out In.out true (by have hx := HX.out; have hy := HY.out; first | (simp [h0, h1] at hx hy; simp [h0, h1, hx, hy]; done) | (simp; intro h; omega) | (simp; intro h h'; omega) | (simp; omega))).mono ?_ | refine (has_is Kn.out In.out false (by have hx := HX.out; have hy := HY.out; first | (simp [h0, h1] at hx hy; simp [h0, h1, hx, hy]; done) | (simp; intro h; omega) | (simp; intro h h'; omega) | (simp; omega))).mono ?_
    rintro e w12 ⟨rfl, hb⟩
    replace Ka := Aside0.mk (Ka.out.below hb)
    replace Kb := Aside0.mk (Kb.out.below hb)
    replace Ku := Aside0.mk (Ku.out.below hb)
    replace Km := Aside0.mk (Km.out.below hb)
    replace Kd := Aside0.mk (Kd.out.below hb)
    replace Ke := Aside0.mk (Ke.out.below hb)
    replace Kn := Aside0.mk (Kn.out.below hb)
    replace HB := Aside0.mk (below_to HB.out hb)
    clear hb
    go_wp2_with fail
    first | refine (refHas_is Ka.out Ia.out true (by have hx := HX.out; have hy := HY.out; first | (simp [h0, h1] at hx hy; simp [h0, h1, hx, hy]; done) | (simp; intro h; omega) | (simp; intro h h'; omega) | (simp; omega))).mono ?_ | refine (refHas_is Ka.out Ia.out false (by have hx := HX.out; have hy := HY.out; first | (simp [h0, h1] at hx hy; simp [h0, h1, hx, hy]; done) | (simp; intro h; omega) | (simp; intro h h'; omega) | (simp; omega))).mono ?_
    rintro e w13 ⟨rfl, hb⟩
    replace Ka := Aside0.mk (Ka.out.below hb)
    replace Kb := Aside0.mk (Kb.out.below hb)
    replace Ku := Aside0.mk (Ku.out.below hb)
    replace Km := Aside0.mk (Km.out.below hb)
    replace Kd := Aside0.mk (Kd.out.below hb)
    replace Ke := Aside0.mk (Ke.out.below hb)
    replace Kn := Aside0.mk (Kn.out.below hb)
    replace HB := Aside0.mk (below_to HB.out hb)
    clear hb
    go_wp2_with fail
    refine (awake_any _).mono ?_
    rintro e w14 ⟨rfl, hb⟩
    replace Ka := Aside0.mk (Ka.out.below hb)
    replace Kb := Aside0.mk (Kb.out.below hb)
    replace Ku := Aside0.mk (Ku.out.below hb)
    replace Km := Aside0.mk (Km.out.below hb)
    replace Kd := Aside0.mk (Kd.out.below hb)
    replace Ke := Aside0.mk (Ke.out.below hb)
    replace Kn := Aside0.mk (Kn.out.below hb)
    replace HB := Aside0.mk (below_to HB.out hb)
    clear hb
    go_wp2
    go_ret
    exact ⟨rfl, HB.out⟩

theorem RangesHold_walk (w : World) (va : Value) (la : List Rg) (vb : Value) (lb : List Rg) (r : Int) (ha : RdS kR w va la) (hb : RdS kR w vb lb) :
    Calls Try.prog 13 #[va, vb, .int .i64 r] w fun e w' => e = .returned (.bool true) ∧ Below w.heap.size w w' :=
  RangesHold_case w va la vb lb r _ _ _ _ (hasB_iff (la.take 40) r) (hasB_iff (lb.take 40) r) rfl rfl ha hb

end Go.Proofs.Ytpgnfccamcefgaa
