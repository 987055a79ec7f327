/- Walk of the law RangesCount: what it calls, one behind the other. Written by lawgen.py. -/
import Derived.Test.YtpgnfccamcefgaaRgL
namespace Go.Proofs.Ytpgnfccamcefgaa
set_option linter.unusedVariables false
set_option linter.unusedSimpArgs false
open Go.RowKit Go.Proofs.YtpgnfccamcefgaaW.PrintWords Go.Proofs.YtpgnfccamcefgaaW.PrintLast Go.Proofs.YtpgnfccamcefgaaW.PrintMore

set_option maxHeartbeats 4000000 in
set_option maxRecDepth 100000 in
theorem RangesCount_walk (w : World) (va : Value) (la : List Rg) (vb : Value) (lb : List Rg) (ha : RdS kR w va la) (hb : RdS kR w vb lb) :
    Calls Try.prog 9 #[va, vb] w fun e w' => e = .returned (.bool true) ∧ Below w.heap.size w w' := by
  have Ka := Aside0.mk ha
  have Kb := Aside0.mk hb
  obtain ⟨Aa, ca, rfl, -, -⟩ := ha
  obtain ⟨Ab, cb, rfl, -, -⟩ := hb
  have HB := Aside0.mk (Below.refl w.heap.size w)
  go_enter Try.func9, Try.ntmps9
  go_wp2_with fail
  refine (short_got Ka.out).mono ?_
  rintro e wea ⟨ua, rfl, hr, hn, rfl⟩
  have Na := Aside0.mk hn
  have Ia := Aside0.mk (IsOf.self (la.take 40))
  replace Ka := Aside0.mk hr
  clear hn hr
  go_wp2_with fail
  refine (short_got Kb.out).mono ?_
  rintro e web ⟨ub, rfl, hr, hn, rfl⟩
  have Nb := Aside0.mk hn
  have Ib := Aside0.mk (IsOf.self (lb.take 40))
  replace Kb := Aside0.mk hr
  clear hn hr
  go_wp2_with fail
  refine (union_got Ka.out Kb.out Ia.out Ib.out Na.out Nb.out (by decide)).mono ?_
  rintro e w1 ⟨uu, ru, rfl, hs, hn, hr, hb⟩
  replace Ka := Aside0.mk (Ka.out.below hb)
  replace Kb := Aside0.mk (Kb.out.below hb)
  replace HB := Aside0.mk (below_to HB.out hb)
  have Su := Aside0.mk hs
  have Nu := Aside0.mk hn
  have Iu := Aside0.mk hs.isOf
  have Ku := Aside0.mk hr
  clear hs hn hr hb
  go_wp2_with fail
  refine (size_got Ku.out Iu.out Nu.out (by decide)).mono ?_
  rintro e w2 ⟨nsu, zsu, rfl, hs, he, hlosu, hhisu, hb⟩
  replace Ka := Aside0.mk (Ka.out.below hb)
  replace Kb := Aside0.mk (Kb.out.below hb)
  replace Ku := Aside0.mk (Ku.out.below hb)
  replace HB := Aside0.mk (below_to HB.out hb)
  have Zsu := Aside0.mk hs
  have Esu := Aside0.mk he
  clear hs he hb
  go_wp2_with fail
  refine (meet_got Ka.out Kb.out Ia.out Ib.out Na.out Nb.out (by decide)).mono ?_
  rintro e w3 ⟨um, rm, rfl, hs, hn, hr, hb⟩
  replace Ka := Aside0.mk (Ka.out.below hb)
  replace Kb := Aside0.mk (Kb.out.below hb)
  replace Ku := Aside0.mk (Ku.out.below hb)
  replace HB := Aside0.mk (below_to HB.out hb)
  have Sm := Aside0.mk hs
  have Nm := Aside0.mk hn
  have Im := Aside0.mk hs.isOf
  have Km := Aside0.mk hr
  clear hs hn hr hb
  go_wp2_with fail
  refine (size_got Km.out Im.out Nm.out (by decide)).mono ?_
  rintro e w4 ⟨nsm, zsm, rfl, hs, he, hlosm, hhism, hb⟩
  replace Ka := Aside0.mk (Ka.out.below hb)
  replace Kb := Aside0.mk (Kb.out.below hb)
  replace Ku := Aside0.mk (Ku.out.below hb)
  replace Km := Aside0.mk (Km.out.below hb)
  replace HB := Aside0.mk (below_to HB.out hb)
  have Zsm := Aside0.mk hs
  have Esm := Aside0.mk he
  clear hs he hb
  go_wp2_with fail
  refine (size_got Ka.out Ia.out Na.out (by decide)).mono ?_
  rintro e w5 ⟨nsa, zsa, rfl, hs, he, hlosa, hhisa, hb⟩
  replace Ka := Aside0.mk (Ka.out.below hb)
  replace Kb := Aside0.mk (Kb.out.below hb)
  replace Ku := Aside0.mk (Ku.out.below hb)
  replace Km := Aside0.mk (Km.out.below hb)
  replace HB := Aside0.mk (below_to HB.out hb)
  have Zsa := Aside0.mk hs
  have Esa := Aside0.mk he
  clear hs he hb
  go_wp2_with fail
  refine (size_got Kb.out Ib.out Nb.out (by decide)).mono ?_
  rintro e w6 ⟨nsb, zsb, rfl, hs, he, hlosb, hhisb, hb⟩
  replace Ka := Aside0.mk (Ka.out.below hb)
  replace Kb := Aside0.mk (Kb.out.below hb)
  replace Ku := Aside0.mk (Ku.out.below hb)
  replace Km := Aside0.mk (Km.out.below hb)
  replace HB := Aside0.mk (below_to HB.out hb)
  have Zsb := Aside0.mk hs
  have Esb := Aside0.mk he
  clear hs he hb
  have hsum : (nsu + nsm == nsa + nsb) = true := by rw [Esu.out, Esm.out, Esa.out, Esb.out]; exact beq_iff_eq.2 (size_or_and Zsa.out Zsb.out Zsu.out Zsm.out)
  go_wp2_with fail
  refine (not_got Ka.out Ia.out Na.out (by decide)).mono ?_
  rintro e w7 ⟨un, rn, rfl, hs, hn, hr, hb⟩
  replace Ka := Aside0.mk (Ka.out.below hb)
  replace Kb := Aside0.mk (Kb.out.below hb)
  replace Ku := Aside0.mk (Ku.out.below hb)
  replace Km := Aside0.mk (Km.out.below hb)
  replace HB := Aside0.mk (below_to HB.out hb)
  have Sn := Aside0.mk hs
  have Nn := Aside0.mk hn
  have In := Aside0.mk hs.isOf
  have Kn := Aside0.mk hr
  clear hs hn hr hb
  go_wp2_with fail
  refine (size_got Kn.out In.out Nn.out (by decide)).mono ?_
  rintro e w8 ⟨nsn, zsn, rfl, hs, he, hlosn, hhisn, hb⟩
  replace Ka := Aside0.mk (Ka.out.below hb)
  replace Kb := Aside0.mk (Kb.out.below hb)
  replace Ku := Aside0.mk (Ku.out.below hb)
  replace Km := Aside0.mk (Km.out.below hb)
  replace Kn := Aside0.mk (Kn.out.below hb)
  replace HB := Aside0.mk (below_to HB.out hb)
  have Zsn := Aside0.mk hs
  have Esn := Aside0.mk he
  clear hs he hb
  go_wp2_with fail
  refine (size_got Ka.out Ia.out Na.out (by decide)).mono ?_
  rintro e w9 ⟨nsa2, zsa2, rfl, hs, he, hlosa2, hhisa2, hb⟩
  replace Ka := Aside0.mk (Ka.out.below hb)
  replace Kb := Aside0.mk (Kb.out.below hb)
  replace Ku := Aside0.mk (Ku.out.below hb)
  replace Km := Aside0.mk (Km.out.below hb)
  replace Kn := Aside0.mk (Kn.out.below hb)
  replace HB := Aside0.mk (below_to HB.out hb)
  have Zsa2 := Aside0.mk hs
  have Esa2 := Aside0.mk he
  clear hs he hb
  have hsub : (nsn == 1114112 - nsa2) = true := by rw [Esn.out, Esa2.out]; exact beq_iff_eq.2 (size_not Zsa2.out Zsn.out)
  go_wp2_with fail
  refine (awake_any _).mono ?_
  rintro e w10 ⟨rfl, hb⟩
  replace Ka := Aside0.mk (Ka.out.below hb)
  replace Kb := Aside0.mk (Kb.out.below hb)
  replace Ku := Aside0.mk (Ku.out.below hb)
  replace Km := Aside0.mk (Km.out.below hb)
  replace Kn := Aside0.mk (Kn.out.below hb)
  replace HB := Aside0.mk (below_to HB.out hb)
  clear hb
  go_wp2
  go_ret
  exact ⟨rfl, HB.out⟩

end Go.Proofs.Ytpgnfccamcefgaa
