/- Walk of the law RangesAlgebra: what it calls, one behind the other. Written by lawgen.py. -/
import Derived.Test.YtpgnfccamcefgaaRgL
namespace Go.Proofs.Ytpgnfccamcefgaa
set_option linter.unusedVariables false
set_option linter.unusedSimpArgs false
open Go.RowKit Go.Proofs.YtpgnfccamcefgaaW.PrintWords Go.Proofs.YtpgnfccamcefgaaW.PrintLast Go.Proofs.YtpgnfccamcefgaaW.PrintMore

set_option maxHeartbeats 4000000 in
set_option maxRecDepth 100000 in
theorem RangesAlgebra_walk (w : World) (va : Value) (la : List Rg) (vb : Value) (lb : List Rg) (vc : Value) (lc : List Rg) (ha : RdS kR w va la) (hb : RdS kR w vb lb) (hc : RdS kR w vc lc) :
    Calls Try.prog 8 #[va, vb, vc] w fun e w' => e = .returned (.bool true) ∧ Below w.heap.size w w' := by
  have Ka := Aside0.mk ha
  have Kb := Aside0.mk hb
  have Kc := Aside0.mk hc
  obtain ⟨Aa, ca, rfl, -, -⟩ := ha
  obtain ⟨Ab, cb, rfl, -, -⟩ := hb
  obtain ⟨Ac, cc, rfl, -, -⟩ := hc
  have HB := Aside0.mk (Below.refl w.heap.size w)
  go_enter Try.func8, Try.ntmps8
  go_wp2_with fail
  refine (short_got Ka.out).mono ?_
  rintro e wea ⟨ua, rfl, hr, hn, rfl⟩
  have Na := Aside0.mk hn
  have Ia := Aside0.mk (IsOf.self (la.take 40))
  replace Ka := Aside0.mk hr
  clear hn hr
  go_wp2_with fail
  refine (short_got Kb.out).mono ?_
  rintro e web ⟨ub, rfl, hr, hn, rfl⟩
  have Nb := Aside0.mk hn
  have Ib := Aside0.mk (IsOf.self (lb.take 40))
  replace Kb := Aside0.mk hr
  clear hn hr
  go_wp2_with fail
  refine (short_got Kc.out).mono ?_
  rintro e wec ⟨uc, rfl, hr, hn, rfl⟩
  have Nc := Aside0.mk hn
  have Ic := Aside0.mk (IsOf.self (lc.take 40))
  replace Kc := Aside0.mk hr
  clear hn hr
  go_wp2_with fail
  refine (union_got Kb.out Kc.out Ib.out Ic.out Nb.out Nc.out (by decide)).mono ?_
  rintro e w1 ⟨ux1, rx1, rfl, hs, hn, hr, hb⟩
  replace Ka := Aside0.mk (Ka.out.below hb)
  replace Kb := Aside0.mk (Kb.out.below hb)
  replace Kc := Aside0.mk (Kc.out.below hb)
  replace HB := Aside0.mk (below_to HB.out hb)
  have Sx1 := Aside0.mk hs
  have Nx1 := Aside0.mk hn
  have Ix1 := Aside0.mk hs.isOf
  have Kx1 := Aside0.mk hr
  clear hs hn hr hb
  go_wp2_with fail
  refine (union_got Ka.out Kx1.out Ia.out Ix1.out Na.out Nx1.out (by decide)).mono ?_
  rintro e w2 ⟨ux2, rx2, rfl, hs, hn, hr, hb⟩
  replace Ka := Aside0.mk (Ka.out.below hb)
  replace Kb := Aside0.mk (Kb.out.below hb)
  replace Kc := Aside0.mk (Kc.out.below hb)
  replace Kx1 := Aside0.mk (Kx1.out.below hb)
  replace HB := Aside0.mk (below_to HB.out hb)
  have Sx2 := Aside0.mk hs
  have Nx2 := Aside0.mk hn
  have Ix2 := Aside0.mk hs.isOf
  have Kx2 := Aside0.mk hr
  clear hs hn hr hb
  go_wp2_with fail
  refine (union_got Ka.out Kb.out Ia.out Ib.out Na.out Nb.out (by decide)).mono ?_
  rintro e w3 ⟨ux3, rx3, rfl, hs, hn, hr, hb⟩
  replace Ka := Aside0.mk (Ka.out.below hb)
  replace Kb := Aside0.mk (Kb.out.below hb)
  replace Kc := Aside0.mk (Kc.out.below hb)
  replace Kx1 := Aside0.mk (Kx1.out.below hb)
  replace Kx2 := Aside0.mk (Kx2.out.below hb)
  replace HB := Aside0.mk (below_to HB.out hb)
  have Sx3 := Aside0.mk hs
  have Nx3 := Aside0.mk hn
  have Ix3 := Aside0.mk hs.isOf
  have Kx3 := Aside0.mk hr
  clear hs hn hr hb
  go_wp2_with fail
  refine (union_got Kx3.out Kc.out Ix3.out Ic.out Nx3.out Nc.out (by decide)).mono ?_
  rintro e w4 ⟨ux4, rx4, rfl, hs, hn, hr, hb⟩
  replace Ka := Aside0.mk (Ka.out.below hb)
  replace Kb := Aside0.mk (Kb.out.below hb)
  replace Kc := Aside0.mk (Kc.out.below hb)
  replace Kx1 := Aside0.mk (Kx1.out.below hb)
  replace Kx2 := Aside0.mk (Kx2.out.below hb)
  replace Kx3 := Aside0.mk (Kx3.out.below hb)
  replace HB := Aside0.mk (below_to HB.out hb)
  have Sx4 := Aside0.mk hs
  have Nx4 := Aside0.mk hn
  have Ix4 := Aside0.mk hs.isOf
  have Kx4 := Aside0.mk hr
  clear hs hn hr hb
  go_wp2_with fail
  refine (equal_got Kx2.out Kx4.out (set_same Sx2.out Sx4.out (fun x => by by_cases h0 : Mem x (la.take 40) <;> by_cases h1 : Mem x (lb.take 40) <;> by_cases h2 : Mem x (lc.take 40) <;> simp [h0, h1, h2]))).mono ?_
  rintro e w5 ⟨rfl, hb⟩
  replace Ka := Aside0.mk (Ka.out.below hb)
  replace Kb := Aside0.mk (Kb.out.below hb)
  replace Kc := Aside0.mk (Kc.out.below hb)
  replace Kx1 := Aside0.mk (Kx1.out.below hb)
  replace Kx2 := Aside0.mk (Kx2.out.below hb)
  replace Kx3 := Aside0.mk (Kx3.out.below hb)
  replace Kx4 := Aside0.mk (Kx4.out.below hb)
  replace HB := Aside0.mk (below_to HB.out hb)
  clear hb
  clear Kx1 Nx1 Ix1 Sx1 Kx2 Nx2 Ix2 Sx2 Kx3 Nx3 Ix3 Sx3 Kx4 Nx4 Ix4 Sx4
  go_wp2_with fail
  refine (union_got Kb.out Kc.out Ib.out Ic.out Nb.out Nc.out (by decide)).mono ?_
  rintro e w6 ⟨uy1, ry1, rfl, hs, hn, hr, hb⟩
  replace Ka := Aside0.mk (Ka.out.below hb)
  replace Kb := Aside0.mk (Kb.out.below hb)
  replace Kc := Aside0.mk (Kc.out.below hb)
  replace HB := Aside0.mk (below_to HB.out hb)
  have Sy1 := Aside0.mk hs
  have Ny1 := Aside0.mk hn
  have Iy1 := Aside0.mk hs.isOf
  have Ky1 := Aside0.mk hr
  clear hs hn hr hb
  go_wp2_with fail
  refine (meet_got Ka.out Ky1.out Ia.out Iy1.out Na.out Ny1.out (by decide)).mono ?_
  rintro e w7 ⟨uy2, ry2, rfl, hs, hn, hr, hb⟩
  replace Ka := Aside0.mk (Ka.out.below hb)
  replace Kb := Aside0.mk (Kb.out.below hb)
  replace Kc := Aside0.mk (Kc.out.below hb)
  replace Ky1 := Aside0.mk (Ky1.out.below hb)
  replace HB := Aside0.mk (below_to HB.out hb)
  have Sy2 := Aside0.mk hs
  have Ny2 := Aside0.mk hn
  have Iy2 := Aside0.mk hs.isOf
  have Ky2 := Aside0.mk hr
  clear hs hn hr hb
  go_wp2_with fail
  refine (meet_got Ka.out Kb.out Ia.out Ib.out Na.out Nb.out (by decide)).mono ?_
  rintro e w8 ⟨uy3, ry3, rfl, hs, hn, hr, hb⟩
  replace Ka := Aside0.mk (Ka.out.below hb)
  replace Kb := Aside0.mk (Kb.out.below hb)
  replace Kc := Aside0.mk (Kc.out.below hb)
  replace Ky1 := Aside0.mk (Ky1.out.below hb)
  replace Ky2 := Aside0.mk (Ky2.out.below hb)
  replace HB := Aside0.mk (below_to HB.out hb)
  have Sy3 := Aside0.mk hs
  have Ny3 := Aside0.mk hn
  have Iy3 := Aside0.mk hs.isOf
  have Ky3 := Aside0.mk hr
  clear hs hn hr hb
  go_wp2_with fail
  refine (meet_got Ka.out Kc.out Ia.out Ic.out Na.out Nc.out (by decide)).mono ?_
  rintro e w9 ⟨uy4, ry4, rfl, hs, hn, hr, hb⟩
  replace Ka := Aside0.mk (Ka.out.below hb)
  replace Kb := Aside0.mk (Kb.out.below hb)
  replace Kc := Aside0.mk (Kc.out.below hb)
  replace Ky1 := Aside0.mk (Ky1.out.below hb)
  replace Ky2 := Aside0.mk (Ky2.out.below hb)
  replace Ky3 := Aside0.mk (Ky3.out.below hb)
  replace HB := Aside0.mk (below_to HB.out hb)
  have Sy4 := Aside0.mk hs
  have Ny4 := Aside0.mk hn
  have Iy4 := Aside0.mk hs.isOf
  have Ky4 := Aside0.mk hr
  clear hs hn hr hb
  go_wp2_with fail
  refine (union_got Ky3.out Ky4.out Iy3.out Iy4.out Ny3.out Ny4.out (by decide)).mono ?_
  rintro e w10 ⟨uy5, ry5, rfl, hs, hn, hr, hb⟩
  replace Ka := Aside0.mk (Ka.out.below hb)
  replace Kb := Aside0.mk (Kb.out.below hb)
  replace Kc := Aside0.mk (Kc.out.below hb)
  replace Ky1 := Aside0.mk (Ky1.out.below hb)
  replace Ky2 := Aside0.mk (Ky2.out.below hb)
  replace Ky3 := Aside0.mk (Ky3.out.below hb)
  replace Ky4 := Aside0.mk (Ky4.out.below hb)
  replace HB := Aside0.mk (below_to HB.out hb)
  have Sy5 := Aside0.mk hs
  have Ny5 := Aside0.mk hn
  have Iy5 := Aside0.mk hs.isOf
  have Ky5 := Aside0.mk hr
  clear hs hn hr hb
  go_wp2_with fail
  refine (equal_got Ky2.out Ky5.out (set_same Sy2.out Sy5.out (fun x => by by_cases h0 : Mem x (la.take 40) <;> by_cases h1 : Mem x (lb.take 40) <;> by_cases h2 : Mem x (lc.take 40) <;> simp [h0, h1, h2]))).mono ?_
  rintro e w11 ⟨rfl, hb⟩
  replace Ka := Aside0.mk (Ka.out.below hb)
  replace Kb := Aside0.mk (Kb.out.below hb)
  replace Kc := Aside0.mk (Kc.out.below hb)
  replace Ky1 := Aside0.mk (Ky1.out.below hb)
  replace Ky2 := Aside0.mk (Ky2.out.below hb)
  replace Ky3 := Aside0.mk (Ky3.out.below hb)
  replace Ky4 := Aside0.mk (Ky4.out.below hb)
  replace Ky5 := Aside0.mk (Ky5.out.below hb)
  replace HB := Aside0.mk (below_to HB.out hb)
  clear hb
  clear Ky1 Ny1 Iy1 Sy1 Ky2 Ny2 Iy2 Sy2 Ky3 Ny3 Iy3 Sy3 Ky4 Ny4 Iy4 Sy4 Ky5 Ny5 Iy5 Sy5
  go_wp2_with fail
  refine (union_got Ka.out Kb.out Ia.out Ib.out Na.out Nb.out (by decide)).mono ?_
  rintro e w12 ⟨uz1, rz1, rfl, hs, hn, hr, hb⟩
  replace Ka := Aside0.mk (Ka.out.below hb)
  replace Kb := Aside0.mk (Kb.out.below hb)
  replace Kc := Aside0.mk (Kc.out.below hb)
  replace HB := Aside0.mk (below_to HB.out hb)
  have Sz1 := Aside0.mk hs
  have Nz1 := Aside0.mk hn
  have Iz1 := Aside0.mk hs.isOf
  have Kz1 := Aside0.mk hr
  clear hs hn hr hb
  go_wp2_with fail
  refine (not_got Kz1.out Iz1.out Nz1.out (by decide)).mono ?_
  rintro e w13 ⟨uz2, rz2, rfl, hs, hn, hr, hb⟩
  replace Ka := Aside0.mk (Ka.out.below hb)
  replace Kb := Aside0.mk (Kb.out.below hb)
  replace Kc := Aside0.mk (Kc.out.below hb)
  replace Kz1 := Aside0.mk (Kz1.out.below hb)
  replace HB := Aside0.mk (below_to HB.out hb)
  have Sz2 := Aside0.mk hs
  have Nz2 := Aside0.mk hn
  have Iz2 := Aside0.mk hs.isOf
  have Kz2 := Aside0.mk hr
  clear hs hn hr hb
  go_wp2_with fail
  refine (not_got Ka.out Ia.out Na.out (by decide)).mono ?_
  rintro e w14 ⟨uz3, rz3, rfl, hs, hn, hr, hb⟩
  replace Ka := Aside0.mk (Ka.out.below hb)
  replace Kb := Aside0.mk (Kb.out.below hb)
  replace Kc := Aside0.mk (Kc.out.below hb)
  replace Kz1 := Aside0.mk (Kz1.out.below hb)
  replace Kz2 := Aside0.mk (Kz2.out.below hb)
  replace HB := Aside0.mk (below_to HB.out hb)
  have Sz3 := Aside0.mk hs
  have Nz3 := Aside0.mk hn
  have Iz3 := Aside0.mk hs.isOf
  have Kz3 := Aside0.mk hr
  clear hs hn hr hb
  go_wp2_with fail
  refine (not_got Kb.out Ib.out Nb.out (by decide)).mono ?_
  rintro e w15 ⟨uz4, rz4, rfl, hs, hn, hr, hb⟩
  replace Ka := Aside0.mk (Ka.out.below hb)
  replace Kb := Aside0.mk (Kb.out.below hb)
  replace Kc := Aside0.mk (Kc.out.below hb)
  replace Kz1 := Aside0.mk (Kz1.out.below hb)
  replace Kz2 := Aside0.mk (Kz2.out.below hb)
  replace Kz3 := Aside0.mk (Kz3.out.below hb)
  replace HB := Aside0.mk (below_to HB.out hb)
  have Sz4 := Aside0.mk hs
  have Nz4 := Aside0.mk hn
  have Iz4 := Aside0.mk hs.isOf
  have Kz4 := Aside0.mk hr
  clear hs hn hr hb
  go_wp2_with fail
  refine (meet_got Kz3.out Kz4.out Iz3.out Iz4.out Nz3.out Nz4.out (by decide)).mono ?_
  rintro e w16 ⟨uz5, rz5, rfl, hs, hn, hr, hb⟩
  replace Ka := Aside0.mk (Ka.out.below hb)
  replace Kb := Aside0.mk (Kb.out.below hb)
  replace Kc := Aside0.mk (Kc.out.below hb)
  replace Kz1 := Aside0.mk (Kz1.out.below hb)
  replace Kz2 := Aside0.mk (Kz2.out.below hb)
  replace Kz3 := Aside0.mk (Kz3.out.below hb)
  replace Kz4 := Aside0.mk (Kz4.out.below hb)
  replace HB := Aside0.mk (below_to HB.out hb)
  have Sz5 := Aside0.mk hs
  have Nz5 := Aside0.mk hn
  have Iz5 := Aside0.mk hs.isOf
  have Kz5 := Aside0.mk hr
  clear hs hn hr hb
  go_wp2_with fail
  refine (equal_got Kz2.out Kz5.out (set_same Sz2.out Sz5.out (fun x => by by_cases h0 : Mem x (la.take 40) <;> by_cases h1 : Mem x (lb.take 40) <;> by_cases h2 : Mem x (lc.take 40) <;> simp [h0, h1, h2]))).mono ?_
  rintro e w17 ⟨rfl, hb⟩
  replace Ka := Aside0.mk (Ka.out.below hb)
  replace Kb := Aside0.mk (Kb.out.below hb)
  replace Kc := Aside0.mk (Kc.out.below hb)
  replace Kz1 := Aside0.mk (Kz1.out.below hb)
  replace Kz2 := Aside0.mk (Kz2.out.below hb)
  replace Kz3 := Aside0.mk (Kz3.out.below hb)
  replace Kz4 := Aside0.mk (Kz4.out.below hb)
  replace Kz5 := Aside0.mk (Kz5.out.below hb)
  replace HB := Aside0.mk (below_to HB.out hb)
  clear hb
  clear Kz1 Nz1 Iz1 Sz1 Kz2 Nz2 Iz2 Sz2 Kz3 Nz3 Iz3 Sz3 Kz4 Nz4 Iz4 Sz4 Kz5 Nz5 Iz5 Sz5
  go_wp2_with fail
  refine (xor_got Ka.out Kb.out Ia.out Ib.out Na.out Nb.out (by decide)).mono ?_
  rintro e w18 ⟨ut1, rt1, rfl, hs, hn, hr, hb⟩
  replace Ka := Aside0.mk (Ka.out.below hb)
  replace Kb := Aside0.mk (Kb.out.below hb)
  replace Kc := Aside0.mk (Kc.out.below hb)
  replace HB := Aside0.mk (below_to HB.out hb)
  have St1 := Aside0.mk hs
  have Nt1 := Aside0.mk hn
  have It1 := Aside0.mk hs.isOf
  have Kt1 := Aside0.mk hr
  clear hs hn hr hb
  go_wp2_with fail
  refine (xor_got Kt1.out Kb.out It1.out Ib.out Nt1.out Nb.out (by decide)).mono ?_
  rintro e w19 ⟨ut2, rt2, rfl, hs, hn, hr, hb⟩
  replace Ka := Aside0.mk (Ka.out.below hb)
  replace Kb := Aside0.mk (Kb.out.below hb)
  replace Kc := Aside0.mk (Kc.out.below hb)
  replace Kt1 := Aside0.mk (Kt1.out.below hb)
  replace HB := Aside0.mk (below_to HB.out hb)
  have St2 := Aside0.mk hs
  have Nt2 := Aside0.mk hn
  have It2 := Aside0.mk hs.isOf
  have Kt2 := Aside0.mk hr
  clear hs hn hr hb
  go_wp2_with fail
  refine (make_got Ka.out Ia.out Na.out (by decide)).mono ?_
  rintro e w20 ⟨ut3, rt3, rfl, hs, hn, hr, hb⟩
  replace Ka := Aside0.mk (Ka.out.below hb)
  replace Kb := Aside0.mk (Kb.out.below hb)
  replace Kc := Aside0.mk (Kc.out.below hb)
  replace Kt1 := Aside0.mk (Kt1.out.below hb)
  replace Kt2 := Aside0.mk (Kt2.out.below hb)
  replace HB := Aside0.mk (below_to HB.out hb)
  have St3 := Aside0.mk hs
  have Nt3 := Aside0.mk hn
  have It3 := Aside0.mk hs.isOf
  have Kt3 := Aside0.mk hr
  clear hs hn hr hb
  go_wp2_with fail
  refine (equal_got Kt2.out Kt3.out (set_same St2.out St3.out (fun x => by by_cases h0 : Mem x (la.take 40) <;> by_cases h1 : Mem x (lb.take 40) <;> by_cases h2 : Mem x (lc.take 40) <;> simp [h0, h1, h2]))).mono ?_
  rintro e w21 ⟨rfl, hb⟩
  replace Ka := Aside0.mk (Ka.out.below hb)
  replace Kb := Aside0.mk (Kb.out.below hb)
  replace Kc := Aside0.mk (Kc.out.below hb)
  replace Kt1 := Aside0.mk (Kt1.out.below hb)
  replace Kt2 := Aside0.mk (Kt2.out.below hb)
  replace Kt3 := Aside0.mk (Kt3.out.below hb)
  replace HB := Aside0.mk (below_to HB.out hb)
  clear hb
  clear Kt1 Nt1 It1 St1 Kt2 Nt2 It2 St2 Kt3 Nt3 It3 St3
  go_wp2_with fail
  refine (union_got Ka.out Kb.out Ia.out Ib.out Na.out Nb.out (by decide)).mono ?_
  rintro e w22 ⟨us1, rs1, rfl, hs, hn, hr, hb⟩
  replace Ka := Aside0.mk (Ka.out.below hb)
  replace Kb := Aside0.mk (Kb.out.below hb)
  replace Kc := Aside0.mk (Kc.out.below hb)
  replace HB := Aside0.mk (below_to HB.out hb)
  have Ss1 := Aside0.mk hs
  have Ns1 := Aside0.mk hn
  have Is1 := Aside0.mk hs.isOf
  have Ks1 := Aside0.mk hr
  clear hs hn hr hb
  go_wp2_with fail
  refine (union_got Kb.out Ka.out Ib.out Ia.out Nb.out Na.out (by decide)).mono ?_
  rintro e w23 ⟨us2, rs2, rfl, hs, hn, hr, hb⟩
  replace Ka := Aside0.mk (Ka.out.below hb)
  replace Kb := Aside0.mk (Kb.out.below hb)
  replace Kc := Aside0.mk (Kc.out.below hb)
  replace Ks1 := Aside0.mk (Ks1.out.below hb)
  replace HB := Aside0.mk (below_to HB.out hb)
  have Ss2 := Aside0.mk hs
  have Ns2 := Aside0.mk hn
  have Is2 := Aside0.mk hs.isOf
  have Ks2 := Aside0.mk hr
  clear hs hn hr hb
  go_wp2_with fail
  refine (equal_got Ks1.out Ks2.out (set_same Ss1.out Ss2.out (fun x => by by_cases h0 : Mem x (la.take 40) <;> by_cases h1 : Mem x (lb.take 40) <;> by_cases h2 : Mem x (lc.take 40) <;> simp [h0, h1, h2]))).mono ?_
  rintro e w24 ⟨rfl, hb⟩
  replace Ka := Aside0.mk (Ka.out.below hb)
  replace Kb := Aside0.mk (Kb.out.below hb)
  replace Kc := Aside0.mk (Kc.out.below hb)
  replace Ks1 := Aside0.mk (Ks1.out.below hb)
  replace Ks2 := Aside0.mk (Ks2.out.below hb)
  replace HB := Aside0.mk (below_to HB.out hb)
  clear hb
  clear Ks1 Ns1 Is1 Ss1 Ks2 Ns2 Is2 Ss2
  go_wp2_with fail
  refine (awake_any _).mono ?_
  rintro e w25 ⟨rfl, hb⟩
  replace Ka := Aside0.mk (Ka.out.below hb)
  replace Kb := Aside0.mk (Kb.out.below hb)
  replace Kc := Aside0.mk (Kc.out.below hb)
  replace HB := Aside0.mk (below_to HB.out hb)
  clear hb
  go_wp2
  go_ret
  exact ⟨rfl, HB.out⟩

end Go.Proofs.Ytpgnfccamcefgaa
