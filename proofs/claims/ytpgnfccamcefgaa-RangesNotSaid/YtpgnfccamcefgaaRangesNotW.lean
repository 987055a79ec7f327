/- Walk of the law RangesNot: what it calls, one behind the other. Written by lawgen.py. -/
import Derived.Test.YtpgnfccamcefgaaRgO
namespace Go.Proofs.Ytpgnfccamcefgaa
set_option linter.unusedVariables false
set_option linter.unusedSimpArgs false
open Go.RowKit Go.Proofs.YtpgnfccamcefgaaW.PrintWords Go.Proofs.YtpgnfccamcefgaaW.PrintLast Go.Proofs.YtpgnfccamcefgaaW.PrintMore

set_option maxHeartbeats 4000000 in
set_option maxRecDepth 100000 in
theorem RangesNot_walk (w : World) (va : Value) (la : List Rg) (ha : RdS kR w va la) :
    Calls Try.prog 7 #[va] w fun e w' => e = .returned (.bool true) ∧ Below w.heap.size w w' := by
  have Ka := Aside0.mk ha
  obtain ⟨Aa, ca, rfl, -, -⟩ := ha
  have HB := Aside0.mk (Below.refl w.heap.size w)
  go_enter Try.func7, Try.ntmps7
  go_wp2_with fail
  refine (short_got Ka.out).mono ?_
  rintro e wea ⟨ua, rfl, hr, hn, rfl⟩
  have Na := Aside0.mk hn
  have Ia := Aside0.mk (IsOf.self (la.take 40))
  replace Ka := Aside0.mk hr
  clear hn hr
  go_wp2_with fail
  refine (not_got Ka.out Ia.out Na.out (by decide)).mono ?_
  rintro e w1 ⟨un, rn, rfl, hs, hn, hr, hb⟩
  replace Ka := Aside0.mk (Ka.out.below hb)
  replace HB := Aside0.mk (below_to HB.out hb)
  have Sn := Aside0.mk hs
  have Nn := Aside0.mk hn
  have In := Aside0.mk hs.isOf
  have Kn := Aside0.mk hr
  clear hs hn hr hb
  go_wp2_with fail
  refine (refNot_got Ka.out Ia.out Na.out (by decide)).mono ?_
  rintro e w2 ⟨uf, rf, rfl, hs, hr, hb⟩
  replace Ka := Aside0.mk (Ka.out.below hb)
  replace Kn := Aside0.mk (Kn.out.below hb)
  replace HB := Aside0.mk (below_to HB.out hb)
  have Sf := Aside0.mk hs
  have Nf := Aside0.mk True.intro
  have If := Aside0.mk True.intro
  have Kf := Aside0.mk hr
  clear hs hr hb
  go_wp2_with fail
  refine (equal_got Kn.out Kf.out (set_same Sn.out Sf.out (fun x => by by_cases h0 : Mem x (la.take 40) <;> simp [h0]))).mono ?_
  rintro e w3 ⟨rfl, hb⟩
  replace Ka := Aside0.mk (Ka.out.below hb)
  replace Kn := Aside0.mk (Kn.out.below hb)
  replace Kf := Aside0.mk (Kf.out.below hb)
  replace HB := Aside0.mk (below_to HB.out hb)
  clear hb
  clear Kf Nf If Sf
  go_wp2_with fail
  refine (not_got Kn.out In.out Nn.out (by decide)).mono ?_
  rintro e w4 ⟨unn, rnn, rfl, hs, hn, hr, hb⟩
  replace Ka := Aside0.mk (Ka.out.below hb)
  replace Kn := Aside0.mk (Kn.out.below hb)
  replace HB := Aside0.mk (below_to HB.out hb)
  have Snn := Aside0.mk hs
  have Nnn := Aside0.mk hn
  have Inn := Aside0.mk hs.isOf
  have Knn := Aside0.mk hr
  clear hs hn hr hb
  go_wp2_with fail
  refine (make_got Ka.out Ia.out Na.out (by decide)).mono ?_
  rintro e w5 ⟨uk, rk, rfl, hs, hn, hr, hb⟩
  replace Ka := Aside0.mk (Ka.out.below hb)
  replace Kn := Aside0.mk (Kn.out.below hb)
  replace Knn := Aside0.mk (Knn.out.below hb)
  replace HB := Aside0.mk (below_to HB.out hb)
  have Sk := Aside0.mk hs
  have Nk := Aside0.mk hn
  have Ik := Aside0.mk hs.isOf
  have Kk := Aside0.mk hr
  clear hs hn hr hb
  go_wp2_with fail
  refine (equal_got Knn.out Kk.out (set_same Snn.out Sk.out (fun x => by by_cases h : Mem x (la.take 40) <;> simp [h]))).mono ?_
  rintro e w6 ⟨rfl, hb⟩
  replace Ka := Aside0.mk (Ka.out.below hb)
  replace Kn := Aside0.mk (Kn.out.below hb)
  replace Knn := Aside0.mk (Knn.out.below hb)
  replace Kk := Aside0.mk (Kk.out.below hb)
  replace HB := Aside0.mk (below_to HB.out hb)
  clear hb
  clear Knn Nnn Inn Snn Kk Nk Ik Sk
  go_wp2_with fail
  refine (meet_got Ka.out Kn.out Ia.out In.out Na.out Nn.out (by decide)).mono ?_
  rintro e w7 ⟨um, rm, rfl, hs, hn, hr, hb⟩
  replace Ka := Aside0.mk (Ka.out.below hb)
  replace Kn := Aside0.mk (Kn.out.below hb)
  replace HB := Aside0.mk (below_to HB.out hb)
  have Sm := Aside0.mk hs
  have Nm := Aside0.mk hn
  have Im := Aside0.mk hs.isOf
  have Km := Aside0.mk hr
  clear hs hn hr hb
  have hm0 : rm = [] := set_empty Sm.out (fun x h => h.2 h.1)
  subst hm0
  obtain ⟨Am, cm, rfl, -, -⟩ := Km.out
  go_wp2_with fail
  refine (union_got Ka.out Kn.out Ia.out In.out Na.out Nn.out (by decide)).mono ?_
  rintro e w8 ⟨uu, ru, rfl, hs, hn, hr, hb⟩
  replace Ka := Aside0.mk (Ka.out.below hb)
  replace Kn := Aside0.mk (Kn.out.below hb)
  replace Km := Aside0.mk (Km.out.below hb)
  replace HB := Aside0.mk (below_to HB.out hb)
  have Su := Aside0.mk hs
  have Nu := Aside0.mk hn
  have Iu := Aside0.mk hs.isOf
  have Ku := Aside0.mk hr
  clear hs hn hr hb
  go_wp2_with fail
  refine (not_got (RdS.nil kR _) IsOf.none (Nat.le_refl _) (by decide)).mono ?_
  rintro e w9 ⟨ux, rx, rfl, hs, hn, hr, hb⟩
  replace Ka := Aside0.mk (Ka.out.below hb)
  replace Kn := Aside0.mk (Kn.out.below hb)
  replace Km := Aside0.mk (Km.out.below hb)
  replace Ku := Aside0.mk (Ku.out.below hb)
  replace HB := Aside0.mk (below_to HB.out hb)
  have Sx := Aside0.mk hs
  have Kx := Aside0.mk hr
  clear hs hn hr hb
  go_wp2_with fail
  refine (equal_got Ku.out Kx.out (set_same Su.out Sx.out (fun x => by by_cases h : Mem x (la.take 40) <;> simp [h]))).mono ?_
  rintro e w10 ⟨rfl, hb⟩
  replace Ka := Aside0.mk (Ka.out.below hb)
  replace Kn := Aside0.mk (Kn.out.below hb)
  replace Km := Aside0.mk (Km.out.below hb)
  replace Ku := Aside0.mk (Ku.out.below hb)
  replace Kx := Aside0.mk (Kx.out.below hb)
  replace HB := Aside0.mk (below_to HB.out hb)
  clear hb
  go_wp2_with fail
  refine (awake_any _).mono ?_
  rintro e w11 ⟨rfl, hb⟩
  replace Ka := Aside0.mk (Ka.out.below hb)
  replace Kn := Aside0.mk (Kn.out.below hb)
  replace Km := Aside0.mk (Km.out.below hb)
  replace Ku := Aside0.mk (Ku.out.below hb)
  replace Kx := Aside0.mk (Kx.out.below hb)
  replace HB := Aside0.mk (below_to HB.out hb)
  clear hb
  go_wp2
  go_ret
  exact ⟨rfl, HB.out⟩

end Go.Proofs.Ytpgnfccamcefgaa
