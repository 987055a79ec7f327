/- Walk of the law RangesMake: what it calls, one behind the other. Written by lawgen.py. -/
import Derived.Test.YtpgnfccamcefgaaRgO
namespace Go.Proofs.Ytpgnfccamcefgaa
set_option linter.unusedVariables false
set_option linter.unusedSimpArgs false
open Go.RowKit Go.Proofs.YtpgnfccamcefgaaW.PrintWords Go.Proofs.YtpgnfccamcefgaaW.PrintLast Go.Proofs.YtpgnfccamcefgaaW.PrintMore

set_option maxHeartbeats 4000000 in
set_option maxRecDepth 100000 in
theorem RangesMake_case (w : World) (va : Value) (la : List Rg) (r : Int) (t1 t2 : Bool) (hx : t1 = decide (Canon (la.take 40))) (hy : t2 = hasB (la.take 40) r) (ha : RdS kR w va la) :
    Calls Try.prog 6 #[va, .int .i64 r] w fun e w' => e = .returned (.bool true) ∧ Below w.heap.size w w' := by
  cases t1 <;> cases t2
  all_goals
    have HX := Aside0.mk hx
    have HY := Aside0.mk hy
    clear hx hy
    have Ka := Aside0.mk ha
    obtain ⟨Aa, ca, rfl, -, -⟩ := ha
    have HB := Aside0.mk (Below.refl w.heap.size w)
    go_enter Try.func6, Try.ntmps6
    go_wp2_with fail
    refine (short_got Ka.out).mono ?_
    rintro e wea ⟨ua, rfl, hr, hn, rfl⟩
    have Na := Aside0.mk hn
    have Ia := Aside0.mk (IsOf.self (la.take 40))
    replace Ka := Aside0.mk hr
    clear hn hr
    go_wp2_with fail
    refine (clone_got Ka.out Na.out (by decide)).mono ?_
    rintro e w1 ⟨ug, rfl, hr, hb⟩
    replace Ka := Aside0.mk (Ka.out.below hb)
    replace HB := Aside0.mk (below_to HB.out hb)
    have Kg := Aside0.mk hr
    have Ng := Na
    have Ig := Ia
    clear hr hb
    go_wp2_with fail
    refine (make_got Kg.out Ig.out Ng.out (by decide)).mono ?_
    rintro e w2 ⟨um, rm, rfl, hs, hn, hr, hb⟩
    replace Ka := Aside0.mk (Ka.out.below hb)
    replace Kg := Aside0.mk (Kg.out.below hb)
    replace HB := Aside0.mk (below_to HB.out hb)
    have Sm := Aside0.mk hs
    have Nm := Aside0.mk hn
    have Im := Aside0.mk hs.isOf
    have Km := Aside0.mk hr
    clear hs hn hr hb
    go_wp2_with fail
    refine (refMake_got Ka.out Ia.out Na.out (by decide)).mono ?_
    rintro e w3 ⟨uq, rq, rfl, hs, hr, hb⟩
    replace Ka := Aside0.mk (Ka.out.below hb)
    replace Kg := Aside0.mk (Kg.out.below hb)
    replace Km := Aside0.mk (Km.out.below hb)
    replace HB := Aside0.mk (below_to HB.out hb)
    have Sq := Aside0.mk hs
    have Nq := Aside0.mk True.intro
    have Iq := Aside0.mk True.intro
    have Kq := Aside0.mk hr
    clear hs hr hb
    go_wp2_with fail
    refine (equal_got Km.out Kq.out (set_same Sm.out Sq.out (fun _ => Iff.rfl))).mono ?_
    rintro e w4 ⟨rfl, hb⟩
    replace Ka := Aside0.mk (Ka.out.below hb)
    replace Kg := Aside0.mk (Kg.out.below hb)
    replace Km := Aside0.mk (Km.out.below hb)
    replace Kq := Aside0.mk (Kq.out.below hb)
    replace HB := Aside0.mk (below_to HB.out hb)
    clear hb
    clear Km Nm Im Sm Kq Nq Iq Sq
    go_wp2_with fail
    refine (can_any _ _ _ Kg.out).mono ?_
    rintro e w5 ⟨he, hb⟩
    rw [← HX.out] at he
    subst he
    replace Ka := Aside0.mk (Ka.out.below hb)
    replace Kg := Aside0.mk (Kg.out.below hb)
    replace HB := Aside0.mk (below_to HB.out hb)
    clear hb
    go_wp2_with fail
    refine (refCan_any _ _ _ Ka.out (Nat.le_trans (Nat.mul_le_mul_right _ Na.out) (by decide))).mono ?_
    rintro e w6 ⟨he, hb⟩
    rw [← HX.out] at he
    subst he
    replace Ka := Aside0.mk (Ka.out.below hb)
    replace Kg := Aside0.mk (Kg.out.below hb)
    replace HB := Aside0.mk (below_to HB.out hb)
    clear hb
    go_wp2_with fail
    refine (size_got Kg.out Ig.out Ng.out (by decide)).mono ?_
    rintro e w7 ⟨ns1, zs1, rfl, hs, he, hlos1, hhis1, hb⟩
    replace Ka := Aside0.mk (Ka.out.below hb)
    replace Kg := Aside0.mk (Kg.out.below hb)
    replace HB := Aside0.mk (below_to HB.out hb)
    have Zs1 := Aside0.mk hs
    have Es1 := Aside0.mk he
    clear hs he hb
    go_wp2_with fail
    refine (refSize_got Ka.out Ia.out Na.out (by decide)).mono ?_
    rintro e w8 ⟨ns2, zs2, rfl, hs, he, hlos2, hhis2, hb⟩
    replace Ka := Aside0.mk (Ka.out.below hb)
    replace Kg := Aside0.mk (Kg.out.below hb)
    replace HB := Aside0.mk (below_to HB.out hb)
    have Zs2 := Aside0.mk hs
    have Es2 := Aside0.mk he
    clear hs he hb
    have hs12 : ns1 = ns2 := by rw [Es1.out, Es2.out, setOf_eq Zs1.out Zs2.out]
    subst hs12
    go_wp2_with fail
    refine (has_any _ _ _ r Kg.out).mono ?_
    rintro e w9 ⟨he, hb⟩
    rw [← HY.out] at he
    subst he
    replace Ka := Aside0.mk (Ka.out.below hb)
    replace Kg := Aside0.mk (Kg.out.below hb)
    replace HB := Aside0.mk (below_to HB.out hb)
    clear hb
    go_wp2_with fail
    refine (refHas_any _ _ _ r Ka.out).mono ?_
    rintro e w10 ⟨he, hb⟩
    rw [← HY.out] at he
    subst he
    replace Ka := Aside0.mk (Ka.out.below hb)
    replace Kg := Aside0.mk (Kg.out.below hb)
    replace HB := Aside0.mk (below_to HB.out hb)
    clear hb
    go_wp2_with fail
    refine (equal_got Kg.out Ka.out (rfl)).mono ?_
    rintro e w11 ⟨rfl, hb⟩
    replace Ka := Aside0.mk (Ka.out.below hb)
    replace Kg := Aside0.mk (Kg.out.below hb)
    replace HB := Aside0.mk (below_to HB.out hb)
    clear hb
    go_wp2_with fail
    refine (awake_any _).mono ?_
    rintro e w12 ⟨rfl, hb⟩
    replace Ka := Aside0.mk (Ka.out.below hb)
    replace Kg := Aside0.mk (Kg.out.below hb)
    replace HB := Aside0.mk (below_to HB.out hb)
    clear hb
    go_wp2
    go_ret
    exact ⟨rfl, HB.out⟩

theorem RangesMake_walk (w : World) (va : Value) (la : List Rg) (r : Int) (ha : RdS kR w va la) :
    Calls Try.prog 6 #[va, .int .i64 r] w fun e w' => e = .returned (.bool true) ∧ Below w.heap.size w w' :=
  RangesMake_case w va la r _ _ rfl rfl ha

end Go.Proofs.Ytpgnfccamcefgaa
