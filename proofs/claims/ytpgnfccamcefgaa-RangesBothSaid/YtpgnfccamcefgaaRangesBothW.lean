/- Walk of the law RangesBoth: what it calls, one behind the other. Written by lawgen.py. -/
import Derived.Test.YtpgnfccamcefgaaRgO
namespace Go.Proofs.Ytpgnfccamcefgaa
set_option linter.unusedVariables false
set_option linter.unusedSimpArgs false
open Go.RowKit Go.Proofs.YtpgnfccamcefgaaW.PrintWords Go.Proofs.YtpgnfccamcefgaaW.PrintLast Go.Proofs.YtpgnfccamcefgaaW.PrintMore

set_option maxHeartbeats 4000000 in
set_option maxRecDepth 100000 in
theorem RangesBoth_walk (w : World) (va : Value) (la : List Rg) (vb : Value) (lb : List Rg) (ha : RdS kR w va la) (hb : RdS kR w vb lb) :
    Calls Try.prog 10 #[va, vb] w fun e w' => e = .returned (.bool true) ∧ Below w.heap.size w w' := by
  have Ka := Aside0.mk ha
  have Kb := Aside0.mk hb
  obtain ⟨Aa, ca, rfl, -, -⟩ := ha
  obtain ⟨Ab, cb, rfl, -, -⟩ := hb
  have HB := Aside0.mk (Below.refl w.heap.size w)
  go_enter Try.func10, Try.ntmps10
  go_wp2_with fail
  refine (short_got Ka.out).mono ?_
  rintro e wea ⟨ua, rfl, hr, hn, rfl⟩
  have Na := Aside0.mk hn
  have Ia := Aside0.mk (IsOf.self (la.take 40))
  replace Ka := Aside0.mk hr
  clear hn hr
  go_wp2_with fail
  refine (short_got Kb.out).mono ?_
  rintro e web ⟨ub, rfl, hr, hn, rfl⟩
  have Nb := Aside0.mk hn
  have Ib := Aside0.mk (IsOf.self (lb.take 40))
  replace Kb := Aside0.mk hr
  clear hn hr
  go_wp2_with fail
  refine (clone_got Ka.out Na.out (by decide)).mono ?_
  rintro e w1 ⟨ux, rfl, hr, hb⟩
  replace Ka := Aside0.mk (Ka.out.below hb)
  replace Kb := Aside0.mk (Kb.out.below hb)
  replace HB := Aside0.mk (below_to HB.out hb)
  have Kx := Aside0.mk hr
  have Nx := Na
  have Ix := Ia
  clear hr hb
  go_wp2_with fail
  refine (clone_got Kb.out Nb.out (by decide)).mono ?_
  rintro e w2 ⟨uy, rfl, hr, hb⟩
  replace Ka := Aside0.mk (Ka.out.below hb)
  replace Kb := Aside0.mk (Kb.out.below hb)
  replace Kx := Aside0.mk (Kx.out.below hb)
  replace HB := Aside0.mk (below_to HB.out hb)
  have Ky := Aside0.mk hr
  have Ny := Nb
  have Iy := Ib
  clear hr hb
  go_wp2_with fail
  refine (union_got Kx.out Ky.out Ix.out Iy.out Nx.out Ny.out (by decide)).mono ?_
  rintro e w3 ⟨up, rp, rfl, hs, hn, hr, hb⟩
  replace Ka := Aside0.mk (Ka.out.below hb)
  replace Kb := Aside0.mk (Kb.out.below hb)
  replace Kx := Aside0.mk (Kx.out.below hb)
  replace Ky := Aside0.mk (Ky.out.below hb)
  replace HB := Aside0.mk (below_to HB.out hb)
  have Sp := Aside0.mk hs
  have Np := Aside0.mk hn
  have Ip := Aside0.mk hs.isOf
  have Kp := Aside0.mk hr
  clear hs hn hr hb
  go_wp2_with fail
  refine (refUnion_got Ka.out Kb.out Ia.out Ib.out Na.out Nb.out (by decide)).mono ?_
  rintro e w4 ⟨uq, rq, rfl, hs, hr, hb⟩
  replace Ka := Aside0.mk (Ka.out.below hb)
  replace Kb := Aside0.mk (Kb.out.below hb)
  replace Kx := Aside0.mk (Kx.out.below hb)
  replace Ky := Aside0.mk (Ky.out.below hb)
  replace Kp := Aside0.mk (Kp.out.below hb)
  replace HB := Aside0.mk (below_to HB.out hb)
  have Sq := Aside0.mk hs
  have Nq := Aside0.mk True.intro
  have Iq := Aside0.mk True.intro
  have Kq := Aside0.mk hr
  clear hs hr hb
  go_wp2_with fail
  refine (equal_got Kp.out Kq.out (set_same Sp.out Sq.out (fun _ => Iff.rfl))).mono ?_
  rintro e w5 ⟨rfl, hb⟩
  replace Ka := Aside0.mk (Ka.out.below hb)
  replace Kb := Aside0.mk (Kb.out.below hb)
  replace Kx := Aside0.mk (Kx.out.below hb)
  replace Ky := Aside0.mk (Ky.out.below hb)
  replace Kp := Aside0.mk (Kp.out.below hb)
  replace Kq := Aside0.mk (Kq.out.below hb)
  replace HB := Aside0.mk (below_to HB.out hb)
  clear hb
  clear Kp Np Ip Sp Kq Nq Iq Sq
  go_wp2_with fail
  refine (meet_got Kx.out Ky.out Ix.out Iy.out Nx.out Ny.out (by decide)).mono ?_
  rintro e w6 ⟨up, rp, rfl, hs, hn, hr, hb⟩
  replace Ka := Aside0.mk (Ka.out.below hb)
  replace Kb := Aside0.mk (Kb.out.below hb)
  replace Kx := Aside0.mk (Kx.out.below hb)
  replace Ky := Aside0.mk (Ky.out.below hb)
  replace HB := Aside0.mk (below_to HB.out hb)
  have Sp := Aside0.mk hs
  have Np := Aside0.mk hn
  have Ip := Aside0.mk hs.isOf
  have Kp := Aside0.mk hr
  clear hs hn hr hb
  go_wp2_with fail
  refine (refMeet_got Ka.out Kb.out Ia.out Ib.out Na.out Nb.out (by decide)).mono ?_
  rintro e w7 ⟨uq, rq, rfl, hs, hr, hb⟩
  replace Ka := Aside0.mk (Ka.out.below hb)
  replace Kb := Aside0.mk (Kb.out.below hb)
  replace Kx := Aside0.mk (Kx.out.below hb)
  replace Ky := Aside0.mk (Ky.out.below hb)
  replace Kp := Aside0.mk (Kp.out.below hb)
  replace HB := Aside0.mk (below_to HB.out hb)
  have Sq := Aside0.mk hs
  have Nq := Aside0.mk True.intro
  have Iq := Aside0.mk True.intro
  have Kq := Aside0.mk hr
  clear hs hr hb
  go_wp2_with fail
  refine (equal_got Kp.out Kq.out (set_same Sp.out Sq.out (fun _ => Iff.rfl))).mono ?_
  rintro e w8 ⟨rfl, hb⟩
  replace Ka := Aside0.mk (Ka.out.below hb)
  replace Kb := Aside0.mk (Kb.out.below hb)
  replace Kx := Aside0.mk (Kx.out.below hb)
  replace Ky := Aside0.mk (Ky.out.below hb)
  replace Kp := Aside0.mk (Kp.out.below hb)
  replace Kq := Aside0.mk (Kq.out.below hb)
  replace HB := Aside0.mk (below_to HB.out hb)
  clear hb
  clear Kp Np Ip Sp Kq Nq Iq Sq
  go_wp2_with fail
  refine (minus_got Kx.out Ky.out Ix.out Iy.out Nx.out Ny.out (by decide)).mono ?_
  rintro e w9 ⟨up, rp, rfl, hs, hn, hr, hb⟩
  replace Ka := Aside0.mk (Ka.out.below hb)
  replace Kb := Aside0.mk (Kb.out.below hb)
  replace Kx := Aside0.mk (Kx.out.below hb)
  replace Ky := Aside0.mk (Ky.out.below hb)
  replace HB := Aside0.mk (below_to HB.out hb)
  have Sp := Aside0.mk hs
  have Np := Aside0.mk hn
  have Ip := Aside0.mk hs.isOf
  have Kp := Aside0.mk hr
  clear hs hn hr hb
  go_wp2_with fail
  refine (refMinus_got Ka.out Kb.out Ia.out Ib.out Na.out Nb.out (by decide)).mono ?_
  rintro e w10 ⟨uq, rq, rfl, hs, hr, hb⟩
  replace Ka := Aside0.mk (Ka.out.below hb)
  replace Kb := Aside0.mk (Kb.out.below hb)
  replace Kx := Aside0.mk (Kx.out.below hb)
  replace Ky := Aside0.mk (Ky.out.below hb)
  replace Kp := Aside0.mk (Kp.out.below hb)
  replace HB := Aside0.mk (below_to HB.out hb)
  have Sq := Aside0.mk hs
  have Nq := Aside0.mk True.intro
  have Iq := Aside0.mk True.intro
  have Kq := Aside0.mk hr
  clear hs hr hb
  go_wp2_with fail
  refine (equal_got Kp.out Kq.out (set_same Sp.out Sq.out (fun _ => Iff.rfl))).mono ?_
  rintro e w11 ⟨rfl, hb⟩
  replace Ka := Aside0.mk (Ka.out.below hb)
  replace Kb := Aside0.mk (Kb.out.below hb)
  replace Kx := Aside0.mk (Kx.out.below hb)
  replace Ky := Aside0.mk (Ky.out.below hb)
  replace Kp := Aside0.mk (Kp.out.below hb)
  replace Kq := Aside0.mk (Kq.out.below hb)
  replace HB := Aside0.mk (below_to HB.out hb)
  clear hb
  clear Kp Np Ip Sp Kq Nq Iq Sq
  go_wp2_with fail
  refine (xor_got Kx.out Ky.out Ix.out Iy.out Nx.out Ny.out (by decide)).mono ?_
  rintro e w12 ⟨up, rp, rfl, hs, hn, hr, hb⟩
  replace Ka := Aside0.mk (Ka.out.below hb)
  replace Kb := Aside0.mk (Kb.out.below hb)
  replace Kx := Aside0.mk (Kx.out.below hb)
  replace Ky := Aside0.mk (Ky.out.below hb)
  replace HB := Aside0.mk (below_to HB.out hb)
  have Sp := Aside0.mk hs
  have Np := Aside0.mk hn
  have Ip := Aside0.mk hs.isOf
  have Kp := Aside0.mk hr
  clear hs hn hr hb
  go_wp2_with fail
  refine (refXor_got Ka.out Kb.out Ia.out Ib.out Na.out Nb.out (by decide)).mono ?_
  rintro e w13 ⟨uq, rq, rfl, hs, hr, hb⟩
  replace Ka := Aside0.mk (Ka.out.below hb)
  replace Kb := Aside0.mk (Kb.out.below hb)
  replace Kx := Aside0.mk (Kx.out.below hb)
  replace Ky := Aside0.mk (Ky.out.below hb)
  replace Kp := Aside0.mk (Kp.out.below hb)
  replace HB := Aside0.mk (below_to HB.out hb)
  have Sq := Aside0.mk hs
  have Nq := Aside0.mk True.intro
  have Iq := Aside0.mk True.intro
  have Kq := Aside0.mk hr
  clear hs hr hb
  go_wp2_with fail
  refine (equal_got Kp.out Kq.out (set_same Sp.out Sq.out (fun _ => Iff.rfl))).mono ?_
  rintro e w14 ⟨rfl, hb⟩
  replace Ka := Aside0.mk (Ka.out.below hb)
  replace Kb := Aside0.mk (Kb.out.below hb)
  replace Kx := Aside0.mk (Kx.out.below hb)
  replace Ky := Aside0.mk (Ky.out.below hb)
  replace Kp := Aside0.mk (Kp.out.below hb)
  replace Kq := Aside0.mk (Kq.out.below hb)
  replace HB := Aside0.mk (below_to HB.out hb)
  clear hb
  clear Kp Np Ip Sp Kq Nq Iq Sq
  go_wp2_with fail
  refine (equal_got Kx.out Ka.out (rfl)).mono ?_
  rintro e w15 ⟨rfl, hb⟩
  replace Ka := Aside0.mk (Ka.out.below hb)
  replace Kb := Aside0.mk (Kb.out.below hb)
  replace Kx := Aside0.mk (Kx.out.below hb)
  replace Ky := Aside0.mk (Ky.out.below hb)
  replace HB := Aside0.mk (below_to HB.out hb)
  clear hb
  go_wp2_with fail
  refine (equal_got Ky.out Kb.out (rfl)).mono ?_
  rintro e w16 ⟨rfl, hb⟩
  replace Ka := Aside0.mk (Ka.out.below hb)
  replace Kb := Aside0.mk (Kb.out.below hb)
  replace Kx := Aside0.mk (Kx.out.below hb)
  replace Ky := Aside0.mk (Ky.out.below hb)
  replace HB := Aside0.mk (below_to HB.out hb)
  clear hb
  go_wp2_with fail
  refine (awake_any _).mono ?_
  rintro e w17 ⟨rfl, hb⟩
  replace Ka := Aside0.mk (Ka.out.below hb)
  replace Kb := Aside0.mk (Kb.out.below hb)
  replace Kx := Aside0.mk (Kx.out.below hb)
  replace Ky := Aside0.mk (Ky.out.below hb)
  replace HB := Aside0.mk (below_to HB.out hb)
  clear hb
  go_wp2
  go_ret
  exact ⟨rfl, HB.out⟩

end Go.Proofs.Ytpgnfccamcefgaa
