/- Walk of the law EditTemplate. -/
import Derived.Test.YtaejogkinniakaaDoorEdU
import Derived.Test.YtaejogkinniakaaDoorEdE
namespace Go.Proofs.YtaejogkinniakaaDoor
set_option linter.unusedVariables false
set_option linter.unusedSimpArgs false
open Go.RowKit Go.Proofs.YtaejogkinniakaaDoorW.PrintWords Go.Proofs.YtaejogkinniakaaDoorW.PrintLast Go.Proofs.YtaejogkinniakaaDoorW.PrintMore Go.Proofs.YtaejogkinniakaaDoor.PEd

attribute [local go_sem high] eqFault
set_option maxHeartbeats 8000000 in
set_option maxRecDepth 100000 in
theorem EditTemplate_walk (w : World) (A : Option Addr) (cA : Nat) (s : List Int) (G : Int) (An : Option Addr) (cn : Nat) (ns : List ByteArray)
    (hs : Kd.C kB w A s.length s) (hcA : s.length ≤ cA) (hn : Kd.C Kd.string w An ns.length ns) (hcn : ns.length ≤ cn) (hsl : s.length ≤ 1048576) (hr : ∀ c ∈ s, 0 ≤ c ∧ c ≤ 255) :
    Calls Tryd.prog 3 #[.slice A s.length cA, .int .i64 G, .slice An ns.length cn] w fun e w' => e = .returned (.bool true) ∧ Below w.heap.size w w' := by
  have HCL := Aside0.mk (cloneB_any w (.slice A s.length cA) s ⟨A, cA, rfl, hcA, hs⟩ (by omega))
  have HTM := Aside0.mk (fun W (hW : Below w.heap.size w W) A' c' (h1 : Kd.C kB W A' s.length s) (h2 : s.length ≤ c') => template_any W A' c' s G (.slice An ns.length cn) ns h1 h2 hr ⟨An, cn, rfl, hcn, Kd.C_below hn hW⟩ hsl)
  have HRT := Aside0.mk (fun W hW => refTemplate_any W A cA s G An cn ns (Kd.C_below hs hW) hcA (Kd.C_below hn hW) hcn hsl)
  have HB := Aside0.mk (And.intro hs hcA)
  obtain ⟨T, hT⟩ : ∃ T, tmplL s G ns = T := ⟨_, rfl⟩
  rw [hT] at HTM HRT
  obtain ⟨L, er, ps⟩ := T
  clear hs hn hcA hcn hr hsl hT
  go_enter Tryd.func3, Tryd.ntmps3
  go_wp2_with fail
  refine HCL.out.mono ?_
  rintro e w1 ⟨v1, rfl, ho1, hb1⟩
  have HB1 := Aside0.mk hb1
  obtain ⟨A1, c1, rfl, hle1, hC1⟩ := Kd.R_reads ho1
  have HC1 := Aside0.mk (And.intro hle1 hC1)
  have HT1 := Aside0.mk (HTM.out w1 hb1 A1 c1 hC1 hle1)
  clear ho1 hb1 hle1 hC1
  go_wp2_with fail
  refine HT1.out.mono ?_
  rintro e w2 ⟨v2, rfl, ho2, hb2⟩
  obtain ⟨wa, hwa⟩ : ∃ wa, w2.alloc (.cells #[.int .i64 er, .int .i64 ps] 28) = wa := ⟨_, rfl⟩
  have hba : Below w2.heap.size w2 wa := by rw [← hwa]; exact below_alloc (Below.refl _ _) _
  have hza : wa.heap.size = w2.heap.size + 1 := by rw [← hwa]; simp
  have HFA : Aside0 (wa.heap[w2.heap.size]? = some (.cells #[.int .i64 er, .int .i64 ps] 28 (0, 0))) := ⟨by rw [← hwa]; exact heap_alloc_new _ _⟩
  have HB12 : Aside0 (Below w1.heap.size w1 wa) := ⟨below_to hb2 hba⟩
  have HB2 : Aside0 (Below w.heap.size w wa) := ⟨below_to HB1.out HB12.out⟩
  have HO : Aside0 (Own k37 37 wa w1.heap.size v2 (L.map toP)) := ⟨Kd.R_below ho2 hba⟩
  have HR3 := Aside0.mk (HRT.out wa HB2.out)
  obtain ⟨A2, c2, rfl⟩ := Kd.R_slice ho2
  have el : (L.map toP).length = L.length := List.length_map ..
  rw [el] at HO
  clear ho2 hb2
  go_wp2_with fail
  refine HR3.out.mono ?_
  rintro e w3 ⟨v3, rfl, ho3, hb3⟩
  obtain ⟨wb, hwb⟩ : ∃ wb, w3.alloc (.cells #[.int .i64 er, .int .i64 ps] 28) = wb := ⟨_, rfl⟩
  have hbb : Below w3.heap.size w3 wb := by rw [← hwb]; exact below_alloc (Below.refl _ _) _
  have hzb : wb.heap.size = w3.heap.size + 1 := by rw [← hwb]; simp
  have hFB : wb.heap[w3.heap.size]? = some (.cells #[.int .i64 er, .int .i64 ps] 28 (0, 0)) := by rw [← hwb]; exact heap_alloc_new _ _
  have hab : Below wa.heap.size wa wb := below_to hb3 hbb
  have hz3 : wa.heap.size ≤ w3.heap.size := hb3.size
  have HB13 : Aside0 (Below w1.heap.size w1 wb) := ⟨below_to HB12.out hab⟩
  have HB3 : Aside0 (Below w.heap.size w wb) := ⟨below_to HB2.out hab⟩
  have HO3 : Aside0 (Own k37 37 wb w1.heap.size (.slice A2 L.length c2) (L.map toP)) := ⟨Kd.R_below HO.out hab⟩
  have hFA : wb.heap[w2.heap.size]? = some (.cells #[.int .i64 er, .int .i64 ps] 28 (0, 0)) := (hab.block _ (by omega)).trans HFA.out
  have HFF := Aside0.mk (And.intro hFA hFB)
  have HZ := Aside0.mk (show w2.heap.size < wb.heap.size ∧ w3.heap.size < wb.heap.size by omega)
  obtain ⟨A3, c3, rfl⟩ := Kd.R_slice ho3
  have el3 : (L.map toQ).length = L.length := List.length_map ..
  have HSM := Aside0.mk (sameParts_any wb (.slice A2 L.length c2) (.slice A3 (L.map toQ).length c3) L (RdS.of_R HO3.out) (RdS.of_R (Kd.R_below ho3 hbb)))
  rw [el3] at HSM
  clear ho3 hb3 hbb hab hFA hFB hz3 hzb hba hza el el3
  go_wp2_with fail
  refine HSM.out.mono ?_
  rintro e w4 ⟨rfl, hb4⟩
  have HB14 : Aside0 (Below w1.heap.size w1 w4) := ⟨below_to HB13.out hb4⟩
  have HB4 : Aside0 (Below w.heap.size w w4) := ⟨below_to HB3.out hb4⟩
  have HO4 : Aside0 (PtO w4 w1.heap.size (.slice A2 L.length c2) L.length) := ⟨⟨L.map toP, List.length_map .., Kd.R_below HO3.out hb4⟩⟩
  have hFA4 := (hb4.block _ HZ.out.1).trans HFF.out.1
  have hFB4 := (hb4.block _ HZ.out.2).trans HFF.out.2
  have fa0 := row_cell hFA4 0 _ rfl
  have fa1 := row_cell hFA4 1 _ rfl
  have fb0 := row_cell hFB4 0 _ rfl
  have fb1 := row_cell hFB4 1 _ rfl
  have HRA : Aside0 (RdS kB w4 (.slice A1 s.length c1) s) := ⟨⟨A1, c1, rfl, HC1.out.1, Kd.C_below HC1.out.2 HB14.out⟩⟩
  have HRB : Aside0 (RdS kB w4 (.slice A s.length cA) s) := ⟨⟨A, cA, rfl, HB.out.2, Kd.C_below HB.out.1 HB4.out⟩⟩
  clear hb4 hFA4 hFB4 hwa hwb
  go_wp2_with fail
  refine (equalB_any _ _ _ s HRA.out HRB.out).mono ?_
  rintro e w5 ⟨rfl, hb5⟩
  have HB15 : Aside0 (Below w1.heap.size w1 w5) := ⟨below_to HB14.out hb5⟩
  have HO5 : Aside0 (PtO w5 w1.heap.size (.slice A2 L.length c2) L.length) := ⟨by
    obtain ⟨ys, hl, hR⟩ := HO4.out
    exact ⟨ys, hl, Kd.R_below hR hb5⟩⟩
  clear hb5 fa0 fa1 fb0 fb1 HO4 HO3 HFF HZ HRA HRB
  have hLm : L.length ≤ 9223372036854775807 := by
    obtain ⟨ys, hl, hR⟩ := HO5.out
    have := (Kd.R_reads' hR).2.2.2.1
    rwa [hl] at this
  go_wp2
  go_loopg [46] L.length (fun gk i w' => ∃ k : Nat, i = .int .i64 (k : Int) ∧ Aside0 (k ≤ L.length ∧ gk = L.length - k) ∧ Aside0 (PtO w' w1.heap.size (.slice A2 L.length c2) L.length) ∧ Aside0 (Below w1.heap.size w1 w'))
  case atStart => exact ⟨0, by first | rfl | simp, ⟨Nat.zero_le _, rfl⟩, HO5, HB15⟩
  case round =>
    obtain ⟨k, rfl, HA, HO6, HB6⟩ := hrel
    by_cases hk : k < L.length
    · obtain ⟨g, c', A0, c0, xs, a, e, hx0, hx1, hR⟩ := HO6.out.cell hk
      cases e
      obtain ⟨wA, hwA⟩ : ∃ wA, wr.alloc (.cells #[.slice A0 xs.length c0, .int .i64 a] 37) = wA := ⟨_, rfl⟩
      have hbA : Below w1.heap.size w1 wA := by rw [← hwA]; exact below_alloc HB6.out _
      have hPA : PtO wA w1.heap.size (.slice (some ⟨g, 0, none⟩) L.length c2) L.length := by rw [← hwA]; exact HO6.out.alloc _
      have hRA : Own kB 5 wA w1.heap.size (.slice A0 xs.length c0) xs := by rw [← hwA]; exact Kd.R_alloc hR _
      have hzA : wA.heap.size = wr.heap.size + 1 := by rw [← hwA]; simp
      have HSPL := Aside0.mk (spoil_inv (fun W => PtO W w1.heap.size (.slice (some ⟨g, 0, none⟩) L.length c2) L.length) (fun W g cs j u hg h => h.set hg j u) _ (hPA.alloc (.cells #[.slice A0 xs.length c0] 22)) w1.heap.size _ _ (one_sp hbA.size hRA) (by show 1 ≤ 9223372036854775807; decide))
      rw [← hwA] at HSPL
      have HBA : Aside0 (Below w1.heap.size w1 ((wr.alloc (.cells #[.slice A0 xs.length c0, .int .i64 a] 37)).alloc (.cells #[.slice A0 xs.length c0] 22))) := ⟨by rw [hwA]; exact below_alloc hbA _⟩
      have hsz : (wr.alloc (.cells #[.slice A0 xs.length c0, .int .i64 a] 37)).heap.size = wr.heap.size + 1 := by simp
      rw [hsz] at HSPL
      have hkd : decide ((k : Int) < (L.length : Int)) = true := decide_eq_true (by omega)
      clear hR hbA hPA hRA hzA hwA hsz
      go_wp2_with fail
      refine HSPL.out.mono ?_
      rintro e w7 ⟨rfl, hp7, hb7⟩
      have HO7 := Aside0.mk hp7
      have HB7 : Aside0 (Below w1.heap.size w1 w7) := ⟨HBA.out.trans hb7⟩
      clear hp7 hb7 HBA hx0 hx1
      go_wp2
      go_roundg (L.length - k - 1)
      case measure => have := HA.out; omega
      case rel => exact ⟨k + 1, by go_num, ⟨by omega, by have := HA.out; omega⟩, HO7, HB7⟩
    · have HB7 : Aside0 (Below w.heap.size w wr) := ⟨below_to HB1.out HB6.out⟩
      have HRA : Aside0 (RdS kB wr (.slice A1 s.length c1) s) := ⟨⟨A1, c1, rfl, HC1.out.1, Kd.C_below HC1.out.2 HB6.out⟩⟩
      have HRB : Aside0 (RdS kB wr (.slice A s.length cA) s) := ⟨⟨A, cA, rfl, HB.out.2, Kd.C_below HB.out.1 HB7.out⟩⟩
      go_wp2_with fail
      refine (equalB_any _ _ _ s HRA.out HRB.out).mono ?_
      rintro e w8 ⟨rfl, hb8⟩
      have HB8 : Aside0 (Below w.heap.size w w8) := ⟨below_to HB7.out hb8⟩
      clear hb8
      go_wp2_with fail
      refine (awake_any _).mono ?_
      rintro e w9 ⟨rfl, hb9⟩
      have HB9 : Aside0 (Below w.heap.size w w9) := ⟨below_to HB8.out hb9⟩
      clear hb9
      go_wp2
      go_ret
      exact ⟨rfl, HB9.out⟩

end Go.Proofs.YtaejogkinniakaaDoor
