/- Walk: lines.Parse. -/
import Derived.Test.YtooehjbbphokbaaDoorLnD
import Derived.Lib.SliceRun
import Derived.OwnWalk
import Derived.WalkMore
namespace Go.Proofs.YtooehjbbphokbaaDoor
set_option linter.unusedVariables false
set_option linter.unusedSimpArgs false
open Go.RowKit Go.Proofs.YtooehjbbphokbaaDoorW.PrintWords Go.Proofs.YtooehjbbphokbaaDoorW.PrintLast Go.Proofs.YtooehjbbphokbaaDoorW.PrintMore

abbrev kRc : Kd Rc := Go.Proofs.YtooehjbbphokbaaDoor.PLinesRead.k48

set_option maxHeartbeats 4000000 in
set_option maxRecDepth 100000 in
theorem parse_any (s : ByteArray) (m : Int) (w : World) (hs : s.size < 4294967281) (hm : MaxIs w m) :
    Calls Tryd.prog 17 #[.string s] w fun e w' => ∃ v, e = .returned (.tuple #[v, .int .i64 (parseB s).2.1, .int .i64 (parseB s).2.2]) ∧ Own kRc 48 w' w.heap.size v (parseB s).1 ∧ Below w.heap.size w w' := by
  have hspl := splitS_any 10 s m w hs hm
  have HPS : Aside0 (∀ x ∈ cutB 10 s, x.size < 4294967281) := ⟨fun x hx => Nat.lt_of_le_of_lt (cutB_part hx) hs⟩
  have hPL := cutB_length 10 s
  have HE : Aside0 (linesB (cutB 10 s) 0 [] = parseB s) := ⟨rfl⟩
  obtain ⟨ps, hps⟩ : ∃ ps, cutB 10 s = ps := ⟨_, rfl⟩
  rw [hps] at hspl HPS hPL HE
  obtain ⟨E, hE⟩ : ∃ E, parseB s = E := ⟨_, rfl⟩
  rw [hE] at HE ⊢
  have hpl2 : ps.length < 4294967282 := by omega
  have HM := Aside0.mk hm
  clear hps hE hm hPL
  have hq : ∀ (W : World) (A : Option Addr) (n c : Nat), (binOp .eql 34 (.slice A n c) (.slice none 0 0)).run Tryd.prog W = .ok (.bool A.isNone) W := fun W A n c => Lib.run_eql_slice_nil W _ _ A n c 0 0 Tryd.underlying34
  go_enter Tryd.func17, Tryd.ntmps17
  go_wp2
  go_step3
  go_wp2
  go_step3
  go_wp2_with fail
  refine hspl.mono ?_
  rintro e w1 ⟨rfl, ho1, hb1⟩
  have HO1 := Aside0.mk ho1
  have HB1 := Aside0.mk hb1
  clear hspl ho1 hb1
  go_wp2
  go_loopg [5, 14] ps.length (fun gk z i w' => ∃ (k : Nat) (out : List Rc), i = .int .i64 (k : Int) ∧ Aside0 (k ≤ ps.length ∧ gk = ps.length - k ∧ out.length ≤ k) ∧ Aside0 (linesB (ps.drop k) k out = E) ∧ Aside0 (Own kRc 48 w' w.heap.size z out) ∧ Aside0 (Own Kd.string 9 w' w.heap.size (.slice (some ⟨w.heap.size, 0, none⟩) ps.length ps.length) ps) ∧ Aside0 (Below w.heap.size w w'))
  case atStart => exact ⟨0, [], by first | rfl | simp, ⟨Nat.zero_le _, rfl, Nat.le_refl _⟩, HE, ⟨Kd.R_nil _ _ _ _ _⟩, HO1, HB1⟩
  case round =>
    obtain ⟨k, out, rfl, HA, HL, HO, HC, HB⟩ := hrel
    by_cases hk : k < ps.length
    · obtain ⟨ad, hae, hx0⟩ := at_S (Kd.R_reads' HC.out).2.2 k hk
      cases hae
      rw [add_plain] at hx0
      have hxs := HPS.out _ (List.getElem_mem hk)
      have hdr : ps.drop k = ps[k] :: ps.drop (k + 1) := List.drop_eq_getElem_cons hk
      obtain ⟨x, hx⟩ : ∃ x, ps[k] = x := ⟨_, rfl⟩
      rw [hx] at hx0 hxs hdr
      rw [hdr] at HL
      clear hx hdr
      have hfl := fieldsB_length x
      have hfp : ∀ y ∈ fieldsB x, y.size < 4294967281 := fun y hy => Nat.lt_of_le_of_lt (fieldsB_part hy) hxs
      have hfa := fields_any x m wr hxs (HM.out.below HB.out)
      have HSK := Aside0.mk (fun h => linesB_skip (x := x) (r := ps.drop (k + 1)) (i := k) (out := out) h)
      have HBD := Aside0.mk (fun h hr => linesB_bad (x := x) (r := ps.drop (k + 1)) (i := k) (out := out) h hr)
      have HGD := Aside0.mk (fun h q (hr : recB (fieldsB x) = some q) => linesB_good (x := x) (r := ps.drop (k + 1)) (i := k) (out := out) h hr)
      obtain ⟨F, hF⟩ : ∃ F, fieldsB x = F := ⟨_, rfl⟩
      rw [hF] at hfl hfp hfa HSK HBD HGD
      have HFP := Aside0.mk hfp
      clear hF hfp
      go_wp2_with fail
      refine hfa.mono ?_
      rintro e w2 ⟨v, rfl, ho2, hn2, hs2, hb2⟩
      have HB2 : Aside0 (Below w.heap.size w w2) := ⟨below_to HB.out hb2⟩
      have HO2 : Aside0 (Own kRc 48 w2 w.heap.size u5 out) := ⟨Kd.R_below HO.out hb2⟩
      have HC2 : Aside0 (Own Kd.string 9 w2 w.heap.size (.slice (some ⟨w.heap.size, 0, none⟩) ps.length ps.length) ps) := ⟨Kd.R_below HC.out hb2⟩
      have HV2 := Aside0.mk (RdS.of_R ho2)
      clear hfa ho2 hb2 HB HO HC
      by_cases hF0 : F = []
      · obtain rfl := hn2 hF0
        have HS := Aside0.mk (HSK.out hF0)
        clear hn2 hs2
        go_wp2
        go_roundg (ps.length - k - 1)
        case measure => have := HA.out; omega
        case rel => exact ⟨k + 1, out, by go_num, ⟨by have := HA.out; omega, by have := HA.out; omega, by have := HA.out; omega⟩, ⟨by rw [← HS.out]; exact HL.out⟩, HO2, HC2, HB2⟩
      · obtain ⟨g, rfl⟩ := hs2 hF0
        have HNE := Aside0.mk hF0
        clear hn2 hs2 hF0
        go_wp2_with fail
        refine (record_any F _ m w2 (HM.out.below HB2.out) HV2.out HFP.out (by omega)).mono ?_
        rintro e w3 ⟨hcase, hb3⟩
        have HB3 : Aside0 (Below w.heap.size w w3) := ⟨below_to HB2.out hb3⟩
        have HO3 : Aside0 (Own kRc 48 w3 w.heap.size u5 out) := ⟨Kd.R_below HO2.out hb3⟩
        have HC3 : Aside0 (Own Kd.string 9 w3 w.heap.size (.slice (some ⟨w.heap.size, 0, none⟩) ps.length ps.length) ps) := ⟨Kd.R_below HC2.out hb3⟩
        clear hb3
        rcases hcase with ⟨hnone, rfl⟩ | ⟨q, v2, hsome, rfl, hov⟩
        · have HE2 : Aside0 (E = ([], (k : Int) + 1, 20)) := ⟨by rw [← HL.out, HBD.out HNE.out hnone]⟩
          clear hnone
          go_wp2
          rw [Exit.noGoto_ret]
          go_ret3
          rw [HE2.out]
          exact ⟨_, rfl, Kd.R_nil _ _ _ _ _, below_alloc HB3.out _⟩
        · have HE2 : Aside0 (linesB (ps.drop (k + 1)) (k + 1) (out ++ [q]) = E) := ⟨by rw [← HL.out, HGD.out HNE.out q hsome]⟩
          obtain ⟨inner, hin⟩ := Kd.R_own HO2.out
          have hov2 : Kd.R Kd.string 9 w3 w.heap.size (fun k => True ∧ some k ≠ u5.ownBlock) v2 q.f2 := Kd.R_lower (Kd.R_new hov hin) HB2.out.size
          obtain ⟨Av, cv, rfl, -, -⟩ := Kd.R_reads hov2
          have HOV := Aside0.mk hov2
          clear hsome hin hov hov2 HSK HBD HGD
          obtain ⟨q0, q1, q2⟩ := q
          simp only at HE2 HOV ⊢
          have HW : Aside0 (Own kRc 48 (w3.alloc (.cells #[.int .i64 q0, .int .i64 q1, .slice Av q2.length cv] 48)) w.heap.size u5 out) := ⟨Kd.R_alloc HO3.out _⟩
          have HWV : Aside0 (Kd.R Kd.string 9 (w3.alloc (.cells #[.int .i64 q0, .int .i64 q1, .slice Av q2.length cv] 48)) w.heap.size (fun k => True ∧ some k ≠ u5.ownBlock) (.slice Av q2.length cv) q2) := ⟨Kd.R_alloc HOV.out _⟩
          have HWB : Aside0 (Below w.heap.size w (w3.alloc (.cells #[.int .i64 q0, .int .i64 q1, .slice Av q2.length cv] 48))) := ⟨below_alloc HB3.out _⟩
          have HWC : Aside0 (Own Kd.string 9 (w3.alloc (.cells #[.int .i64 q0, .int .i64 q1, .slice Av q2.length cv] 48)) w.heap.size (.slice (some ⟨w.heap.size, 0, none⟩) ps.length ps.length) ps) := ⟨Kd.R_alloc HC3.out _⟩
          go_wp2_with (at_builtin; refine Kd.R_append kRc (w0 := w) w.heap.size rfl (.tmp 32) (.tmp 34) 26 48 (.agg #[(.int .i64 0), (.int .i64 0), (.slice none 0 0)]) 40 rfl Tryd.underlying26 Go.Proofs.YtooehjbbphokbaaDoor.PLinesRead.info48 rfl (by decide) (by omega) u5 out ⟨q0, q1, q2⟩ [.int .i64 q0, .int .i64 q1, .slice Av q2.length cv] (fun _ => True) (fun k => True ∧ some k ≠ u5.ownBlock) rfl ?aX (Go.Proofs.YtooehjbbphokbaaDoor.PLinesRead.k48_mkM _ _ _ ⟨q0, q1, q2⟩ HWV.out) (fun _ h => h) (fun _ _ => trivial) HW.out HWB.out ?aS ?aL ?_)
          case aX => exact slice_new _ _ _ _
          case aS => exact HWB.out.size
          case aL => have := HA.out; omega
          intro v5 w5 ho5 hb5 hg5 _
          have HO5 := Aside0.mk ho5
          have HB5 := Aside0.mk hb5
          have HC5 : Aside0 (Own Kd.string 9 w5 w.heap.size (.slice (some ⟨w.heap.size, 0, none⟩) ps.length ps.length) ps) := ⟨by
            obtain ⟨inner, hin⟩ := Kd.R_own HW.out
            have ho := Kd.own_of_R HWC.out
            exact Kd.R_of_own (own_other ho hg5 (own_type_ne ho hin (by decide))) (fun _ _ => trivial)⟩
          clear ho5 hb5 hg5
          go_wp2
          go_roundg (ps.length - k - 1)
          case measure => have := HA.out; omega
          case rel => exact ⟨k + 1, out ++ [⟨q0, q1, q2⟩], by go_num, ⟨by have := HA.out; omega, by have := HA.out; omega, by have := HA.out; simp; omega⟩, HE2, HO5, HC5, HB5⟩
    · have HE2 : Aside0 (E = (out, 0, 0)) := ⟨by rw [← HL.out, List.drop_of_length_le (by omega)]; rfl⟩
      go_wp2
      rw [Exit.noGoto_ret]
      go_ret3
      rw [HE2.out]
      exact ⟨_, rfl, HO.out, HB.out⟩

end Go.Proofs.YtooehjbbphokbaaDoor
