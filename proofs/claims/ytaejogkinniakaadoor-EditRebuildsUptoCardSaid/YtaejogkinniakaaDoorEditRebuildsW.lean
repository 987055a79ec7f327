/- Walk of the law EditRebuilds. -/
import Derived.Test.YtaejogkinniakaaDoorEdS
import Derived.Test.YtaejogkinniakaaDoorEdV
import Derived.Test.YtaejogkinniakaaDoorEdX
namespace Go.Proofs.YtaejogkinniakaaDoor
set_option linter.unusedVariables false
set_option linter.unusedSimpArgs false
open Go.RowKit Go.Proofs.YtaejogkinniakaaDoorW.PrintWords Go.Proofs.YtaejogkinniakaaDoorW.PrintLast Go.Proofs.YtaejogkinniakaaDoorW.PrintMore Go.Proofs.YtaejogkinniakaaDoor.PEd

set_option maxHeartbeats 8000000 in
set_option maxRecDepth 100000 in
theorem EditRebuilds_walk (w : World) (A : Option Addr) (cA : Nat) (b : List Int) (Al : Option Addr) (cl : Nat) (l : List S46)
    (hb : Kd.C kB w A b.length b) (hcA : b.length ≤ cA) (hl : Kd.C k46 w Al l.length l) (hcl : l.length ≤ cl) (hn : b.length ≤ 1048576) (hm : l.length ≤ 1048576) :
    Calls Tryd.prog 4 #[.slice A b.length cA, .slice Al l.length cl] w fun e w' => e = .returned (.bool true) ∧ Below w.heap.size w w' := by
  have HSP := Aside0.mk (split_any w A cA b Al cl l hb hcA hl (by omega) hm)
  have HREF := Aside0.mk (fun W hW => refSplit_any W A cA b Al cl l (Kd.C_below hb hW) hcA (Kd.C_below hl hW) hcl hn hm)
  have HB := Aside0.mk hb
  have HL := Aside0.mk hl
  have HLL := Aside0.mk (And.intro hn (And.intro hm hcA))
  have hlm := hm
  have hlb := hn
  clear hb hl hm hn hcA
  go_enter Tryd.func4, Tryd.ntmps4
  go_wp2_with fail
  refine HSP.out.mono ?_
  rintro e w1 (⟨hmay, ⟨v, rfl, ho⟩, hb1⟩ | ⟨hmay, rfl, hb1⟩)
  · have HMAY := Aside0.mk hmay
    have HB1 := Aside0.mk hb1
    obtain ⟨g0, gs, hG, hst⟩ := tail_start hmay
    have hGl := gapsL_len b 0 (oneL l)
    rw [oneL_len] at hGl
    obtain ⟨Ax, cx, rfl, hxl, hxC⟩ := Kd.R_reads ho
    obtain ⟨G, hGG⟩ : ∃ G, gapsL b 0 (oneL l) = G := ⟨_, rfl⟩
    rw [hGG] at hG hGl hxl hxC ⊢
    have HXC := Aside0.mk hxC
    obtain ⟨gx, A0, c0, e, hx0, hx0l, hx0C⟩ := at_L2 HXC.out 0 (by omega) (by omega)
    subst e
    have hrd : rd_L2 G 0 = g0 := by rw [hG]; rfl
    rw [hrd] at hx0 hx0l hx0C
    have HRD : Aside0 (RdS kB w1 (.slice A0 g0.length c0) g0) := ⟨⟨A0, c0, rfl, hx0l, hx0C⟩⟩
    have hg0 : g0.length ≤ b.length := by rw [← hst, List.length_append]; omega
    have HG0 : Aside0 (g0.length * 1 ≤ 140737488355328) := ⟨by omega⟩
    have HST : Aside0 (g0 ++ tailJ (G.drop (0 + 1)) (((oneL l).map (spanL b)).drop 0) = b) := ⟨by rw [hG]; exact hst⟩
    have HGL := Aside0.mk hGl
    rw [show ((0 : Int)).toNat = 0 from rfl, Addr.add_zero'] at hx0
    clear hmay hb1 hst hxl hxC hrd hx0l hx0C ho hGG hG
    rw [hGl]
    clear hGl
    have hne : ((((l.length + 1 : Nat) : Int)) != ((l.length : Int) + 1)) = false := by rw [bne_eq_false_iff_eq]; omega
    go_wp2_with fail
    refine (cloneB_any _ _ g0 HRD.out HG0.out).mono ?_
    rintro e w2 ⟨v2, rfl, ho2, hb2⟩
    have HO2 := Aside0.mk ho2
    have HB2 := Aside0.mk hb2
    clear ho2 hb2 HRD HG0 hx0 hne
    go_wp2
    go_loopg [9, 49] l.length (fun gk o i w' => ∃ (k : Nat) (out : List Int), i = .int .i64 (k : Int) ∧ Aside0 (k ≤ l.length ∧ gk = l.length - k) ∧ Aside0 (out ++ tailJ (G.drop (k + 1)) (((oneL l).map (spanL b)).drop k) = b) ∧ Aside0 (Own kB 5 w' w1.heap.size o out) ∧ Aside0 (Below w1.heap.size w1 w'))
    case atStart => exact ⟨0, g0, by first | rfl | simp, ⟨Nat.zero_le _, rfl⟩, HST, HO2, HB2⟩
    case round =>
      obtain ⟨k, out, rfl, HA, HJ, HO, HXX⟩ := hrel
      by_cases hk : k < l.length
      · obtain ⟨ad, e, hx0, hx1⟩ := at_T46 HL.out (k : Int) (by omega) (by omega)
        subst e
        rw [rd84_at hk] at hx0 hx1
        have hfit : fitsS b.length (sp l[k]) := may_fits HMAY.out (sp l[k]) [] (by rw [← oneL_at hk]; exact List.getElem_mem _)
        have hMk : ((oneL l).map (spanL b))[k]'(by rw [List.length_map, oneL_len]; exact hk) = midL b l[k].f0 l[k].f1 := by
          rw [List.getElem_map, oneL_at hk]
          rfl
        have hstep := tail_step (G := G) (M := (oneL l).map (spanL b)) (k := k) (by rw [List.length_map, oneL_len]; exact hk) (by have := HGL.out; omega)
        rw [hMk] at hstep
        obtain ⟨q, hq⟩ : ∃ q, l[k] = q := ⟨_, rfl⟩
        rw [hq] at hx0 hx1 hfit hstep
        clear hq hMk
        obtain ⟨s0, s1⟩ := q
        simp only [Int.toNat_natCast] at hx0 hx1
        obtain ⟨f0, f1, f2⟩ := hfit
        have f0' : 0 ≤ s0 := f0
        have f1' : s0 ≤ s1 := f1
        have f2' : s1 ≤ b.length := f2
        obtain ⟨gx', A0, c0, e, hxa, hxl, hxC⟩ := at_L2 HXC.out ((k : Int) + 1) (by omega) (by have := HGL.out; omega)
        cases e
        have hkn : ((k : Int) + 1).toNat = k + 1 := by omega
        have hrd : rd_L2 G ((k : Int) + 1) = G[k + 1]'(by have := HGL.out; omega) := by
          have h2 : k + 1 < G.length := by have := HGL.out; omega
          unfold rd_L2
          rw [hkn]
          simp [h2]
        rw [hrd] at hxa hxl hxC
        rw [hkn, add_pos gx (k + 1) (Nat.succ_pos k)] at hxa
        obtain ⟨G1, hG1⟩ : ∃ G1, G[k + 1]'(by have := HGL.out; omega) = G1 := ⟨_, rfl⟩
        rw [hG1] at hxa hxl hxC hstep
        clear hG1 hrd hkn f0 f1 f2
        obtain ⟨i0, hi0, _, hsz, _⟩ := info_parts info5
        have hcut := cut_mid (P := Tryd.prog) 22 5 .i64 .i64 Tryd.underlying22 hi0 1 hsz A b.length cA s0 s1 f0' f1' f2' HLL.out.2.2
        have hd : Kd.C kB w (if cA = s0.toNat then A else A.map (·.add (s0.toNat * 1))) (midL b s0 s1).length (midL b s0 s1) := Kd.C_drop (c := cA) (m := s0.toNat) (Kd.C_take (m := s1.toNat) HB.out (by omega)) (by rw [List.length_take]; omega) (by rw [List.length_take]; have := HLL.out.2.2; omega)
        have e1 : (midL b s0 s1).length = s1.toNat - s0.toNat := by unfold midL; rw [List.length_drop, List.length_take]; omega
        obtain ⟨A1, hA1⟩ : ∃ A1, (if cA = s0.toNat then A else A.map (·.add (s0.toNat * 1))) = A1 := ⟨_, rfl⟩
        obtain ⟨c1, hc1⟩ : ∃ c1, cA - s0.toNat = c1 := ⟨_, rfl⟩
        obtain ⟨md, hmd⟩ : ∃ md, midL b s0 s1 = md := ⟨_, rfl⟩
        have hstep2 : tailJ (G.drop (k + 1)) (((oneL l).map (spanL b)).drop k) = midL b s0 s1 ++ G1 ++ tailJ (G.drop (k + 1 + 1)) (((oneL l).map (spanL b)).drop (k + 1)) := hstep
        rw [hmd] at hd e1 hstep2
        rw [hA1, hc1, ← e1] at hcut
        rw [hA1] at hd
        have hJ2 : (out ++ md ++ G1) ++ tailJ (G.drop (k + 1 + 1)) (((oneL l).map (spanL b)).drop (k + 1)) = b := by
          have h := HJ.out
          rw [hstep2] at h
          simp only [List.append_assoc] at h ⊢
          exact h
        have HJ2 := Aside0.mk hJ2
        have HLEN : Aside0 (out.length + md.length + G1.length ≤ 1048576) := ⟨by
          have h := congrArg List.length hJ2
          simp only [List.length_append] at h
          omega⟩
        clear hA1 hc1 hmd e1 hstep hstep2 hJ2 hi0 hsz HJ f0' f1' f2'
        obtain ⟨gB, hgB⟩ : ∃ gB, wr.heap.size = gB := ⟨_, rfl⟩
        obtain ⟨wb, hwb⟩ : ∃ wb, wr.alloc (.cells #[.int .i64 s0, .int .i64 s1] 46) = wb := ⟨_, rfl⟩
        have HXB : Aside0 (Below w1.heap.size w1 wb) := ⟨by rw [← hwb]; exact below_alloc HXX.out _⟩
        have HKB0 : wb.heap[gB]? = some (.cells #[.int .i64 s0, .int .i64 s1] 46 (0, 0)) := by rw [← hwb, ← hgB]; exact heap_alloc_new _ _
        have HOB : Own kB 5 wb w1.heap.size u9 out := by rw [← hwb]; exact Kd.R_alloc HO.out _
        have HBD : Aside0 (Below w1.heap.size w1 wb.drew) := ⟨below_drew HXB.out⟩
        have HKB : Aside0 (wb.drew.heap[gB]? = some (.cells #[.int .i64 s0, .int .i64 s1] 46 (0, 0))) := ⟨HKB0⟩
        have HOD : Aside0 (Own kB 5 wb.drew w1.heap.size u9 out) := ⟨Kd.R_below HOB (below_drew (Below.refl _ _))⟩
        have HNB := Aside0.mk (Kd.R_ne HOD.out HKB.out (by decide))
        have HWB : Aside0 (Below w.heap.size w wb.drew) := ⟨below_to HB1.out HBD.out⟩
        have HCM := Aside0.mk (Kd.C_below hd HWB.out)
        have HX3 := Aside0.mk hxa
        have HC3 := Aside0.mk hxC
        have HX : Aside0 (wb.drew.cell? ⟨gx.block, gx.off + (k + 1), none⟩ = some (.slice A0 G1.length c0)) := ⟨pw_cell_below HBD.out hxa⟩
        have HC0 : Aside0 (wb.drew.cell? ⟨gB, 0, none⟩ = some (.int .i64 s0)) := ⟨row_cell HKB.out 0 _ rfl⟩
        have HC1 : Aside0 (wb.drew.cell? ⟨gB, 1, none⟩ = some (.int .i64 s1)) := ⟨row_cell HKB.out 1 _ rfl⟩
        replace hx0 := pw_cell_below (below_to HB1.out HXX.out) hx0
        replace hx1 := pw_cell_below (below_to HB1.out HXX.out) hx1
        have hlk : (k + 1 < G.length) = True := eq_true (by have := HGL.out; omega)
        have hgl2 := HGL.out
        have hgi : decide ((k : Int) + 1 < (G.length : Int)) = true := decide_eq_true (by omega)
        clear hd hxa hxl hxC HKB0 HOB
        go_wp2
        have hwr : wrap64 ((k : Int) + 1) = (k : Int) + 1 := w64_in _ (by omega)
        have hw0 : (0 ≤ (k : Int) + 1) = True := eq_true (by omega)
        have hw1 : ((k : Int) + 1 < (l.length : Int) + 1) = True := eq_true (by omega)
        have hw2 : ((k : Int) + 1).toNat = k + 1 := by omega
        refine start_ (n := 15) (S := fun w' => (w'.cell? ⟨gB, 0, none⟩ = some (.int .i64 s0) ∧ w'.cell? ⟨gB, 1, none⟩ = some (.int .i64 s1)) ∧ w'.cell? ⟨gx.block, gx.off + (k + 1), none⟩ = some (.slice A0 G1.length c0)) (ds := [13]) #[false, false, false, false, false, false, false, false, false, false, false, false, false, false, false] (by kernel_rfl) rfl rfl ⟨⟨HC0.out, HC1.out⟩, HX.out⟩ (fun hHeld => ?_)
        refine pure_ (i := 0) (N := some 54) (v := ?_) (a' := ?_) #[true, false, false, false, false, false, false, false, false, false, false, false, false, false, false] rfl rfl (by kernel_rfl) (fun _ _ _ h => h) (Or.inl ⟨by rfl, ?_⟩) ?_ ?_
        rotate_left
        · intro w'
          go_simp
          with_reducible rfl
        rotate_left
        · simp only [Act.put, List.setIfInBounds_toArray, List.set_cons_zero, List.set_cons_succ, i64_w, i32_w]
          rfl
        refine pure_ (i := 1) (N := some 55) (v := ?_) (a' := ?_) #[true, true, false, false, false, false, false, false, false, false, false, false, false, false, false] rfl rfl (by kernel_rfl) (fun _ _ _ h => h) (Or.inl ⟨by rfl, ?_⟩) ?_ ?_
        rotate_left
        · intro w'
          go_simp
          with_reducible rfl
        rotate_left
        · simp only [Act.put, List.setIfInBounds_toArray, List.set_cons_zero, List.set_cons_succ, i64_w, i32_w]
          rfl
        refine pure_ (i := 2) (N := some 56) (v := ?_) (a' := ?_) #[true, true, true, false, false, false, false, false, false, false, false, false, false, false, false] rfl rfl (by kernel_rfl) (fun _ _ _ h => h) (Or.inl ⟨by rfl, ?_⟩) ?_ ?_
        rotate_left
        · intro w'
          go_simp
          with_reducible rfl
        rotate_left
        · simp only [Act.put, List.setIfInBounds_toArray, List.set_cons_zero, List.set_cons_succ, i64_w, i32_w]
          rfl
        refine pure_ (i := 4) (N := some 58) (v := ?_) (a' := ?_) #[true, true, true, false, true, false, false, false, false, false, false, false, false, false, false] rfl rfl (by kernel_rfl) (fun _ _ _ h => h) (Or.inl ⟨by rfl, ?_⟩) ?_ ?_
        rotate_left
        · intro w'
          go_simp
          with_reducible rfl
        rotate_left
        · simp only [Act.put, List.setIfInBounds_toArray, List.set_cons_zero, List.set_cons_succ, i64_w, i32_w]
          rfl
        refine pure_ (i := 8) (N := some 62) (v := ?_) (a' := ?_) #[true, true, true, false, true, false, false, false, true, false, false, false, false, false, false] rfl rfl (by kernel_rfl) (fun _ _ _ h => h) (Or.inl ⟨by rfl, ?_⟩) ?_ ?_
        rotate_left
        · intro w'
          go_simp
          with_reducible rfl
        rotate_left
        · simp only [Act.put, List.setIfInBounds_toArray, List.set_cons_zero, List.set_cons_succ, i64_w, i32_w]
          rfl
        refine pure_ (i := 9) (N := some 63) (v := ?_) (a' := ?_) #[true, true, true, false, true, false, false, false, true, true, false, false, false, false, false] rfl rfl (by kernel_rfl) (fun _ _ _ h => h) (Or.inl ⟨by rfl, ?_⟩) ?_ ?_
        rotate_left
        · intro w'
          go_simp
          with_reducible rfl
        rotate_left
        · simp only [Act.put, List.setIfInBounds_toArray, List.set_cons_zero, List.set_cons_succ, i64_w, i32_w]
          rfl
        refine pure_ (i := 10) (N := some 64) (v := ?_) (a' := ?_) #[true, true, true, false, true, false, false, false, true, true, true, false, false, false, false] rfl rfl (by kernel_rfl) (fun _ _ _ h => h) (Or.inl ⟨by rfl, ?_⟩) ?_ ?_
        rotate_left
        · intro w'
          go_simp
          with_reducible rfl
        rotate_left
        · simp only [Act.put, List.setIfInBounds_toArray, List.set_cons_zero, List.set_cons_succ, i64_w, i32_w]
          rfl
        refine pure_ (i := 11) (N := some 65) (v := ?_) (a' := ?_) #[true, true, true, false, true, false, false, false, true, true, true, true, false, false, false] rfl rfl (by kernel_rfl) (fun _ _ _ h => h) (Or.inl ⟨by rfl, ?_⟩) ?_ ?_
        rotate_left
        · intro w'
          go_simp
          with_reducible rfl
        rotate_left
        · simp only [Act.put, List.setIfInBounds_toArray, List.set_cons_zero, List.set_cons_succ, i64_w, i32_w]
          rfl
        refine take_ (i := 3) (N := some 57) (v := ?_) (a' := ?_) #[true, true, true, true, true, false, false, false, true, true, true, true, false, false, false] rfl rfl (by kernel_rfl) (fun _ _ _ h => h) (Or.inl ⟨by rfl, ?_⟩) hHeld ?_ ?_
        rotate_left
        · rintro w' ⟨⟨s0_, s1_⟩, s2_⟩
          go_simp
          with_reducible rfl
        rotate_left
        · simp only [Act.put, List.setIfInBounds_toArray, List.set_cons_zero, List.set_cons_succ, i64_w, i32_w]
          rfl
        refine take_ (i := 5) (N := some 59) (v := ?_) (a' := ?_) #[true, true, true, true, true, true, false, false, true, true, true, true, false, false, false] rfl rfl (by kernel_rfl) (fun _ _ _ h => h) (Or.inl ⟨by rfl, ?_⟩) hHeld ?_ ?_
        rotate_left
        · rintro w' ⟨⟨s0_, s1_⟩, s2_⟩
          go_simp
          with_reducible rfl
        rotate_left
        · simp only [Act.put, List.setIfInBounds_toArray, List.set_cons_zero, List.set_cons_succ, i64_w, i32_w]
          rfl
        refine take_ (i := 12) (N := some 66) (v := ?_) (a' := ?_) #[true, true, true, true, true, true, false, false, true, true, true, true, true, false, false] rfl rfl (by kernel_rfl) (fun _ _ _ h => h) (Or.inl ⟨by rfl, ?_⟩) hHeld ?_ ?_
        rotate_left
        · rintro w' ⟨⟨s0_, s1_⟩, s2_⟩
          go_simp
          with_reducible rfl
        rotate_left
        · simp only [Act.put, List.setIfInBounds_toArray, List.set_cons_zero, List.set_cons_succ, i64_w, i32_w]
          rfl
        refine pure_ (i := 6) (N := some 60) (v := ?_) (a' := ?_) #[true, true, true, true, true, true, true, false, true, true, true, true, true, false, false] rfl rfl (by kernel_rfl) (fun _ _ _ h => h) (Or.inl ⟨by rfl, ?_⟩) ?_ ?_
        rotate_left
        · intro w'
          go_simp
          with_reducible rfl
        rotate_left
        · simp only [Act.put, List.setIfInBounds_toArray, List.set_cons_zero, List.set_cons_succ, i64_w, i32_w]
          rfl
        refine one_ (i := 7) (N := some 61) #[true, true, true, true, true, true, true, true, true, true, true, true, true, false, false] rfl rfl (by kernel_rfl) (by decide) (fun K hK => ?_)
        refine Kd.R_append_rows_step kB (w0 := w1) w1.heap.size (by rfl) (.tmp 54) (.tmp 60) 22 5 (.int .u8 0) 1 rfl Tryd.underlying22 info5 (by rfl) (by decide) (by omega) u9 out md A1 md.length c1 (fun _ => True) (fun _ => False) rfl rfl HOD.out HCM.out (fun _ _ h => h) (fun _ h => h.elim) (fun _ _ => trivial) HBD.out HBD.out.size ?aL1 ?_
        case aL1 => have := HLEN.out; omega
        intro v6 w6 ho6 hb6 hg6 hat6
        have HO6 := Aside0.mk ho6
        have HB6 := Aside0.mk hb6
        have HK6 := Aside0.mk (blk_grown HKB.out hg6 HNB.out)
        have HC06 : Aside0 (w6.cell? ⟨gB, 0, none⟩ = some (.int .i64 s0)) := ⟨row_cell HK6.out 0 _ rfl⟩
        have HC16 : Aside0 (w6.cell? ⟨gB, 1, none⟩ = some (.int .i64 s1)) := ⟨row_cell HK6.out 1 _ rfl⟩
        have HX6 : Aside0 (w6.cell? ⟨gx.block, gx.off + (k + 1), none⟩ = some (.slice A0 G1.length c0)) := ⟨pw_cell_below hb6 HX3.out⟩
        obtain ⟨A6, c6, rfl⟩ := Kd.R_slice ho6
        clear ho6 hb6 hg6 hat6
        refine hK.out _ _ ⟨⟨HC06.out, HC16.out⟩, HX6.out⟩ (fun hHeld => ?_)
        clear hK K
        refine norm_ (a' := ?_) ?_ ?_
        rotate_left
        · show Act.put _ (some 61) _ = _
          simp only [Act.put, List.setIfInBounds_toArray, List.set_cons_zero, List.set_cons_succ, i64_w, i32_w]
          rfl
        refine last_ (i := 13) (N := some 67) #[true, true, true, true, true, true, true, true, true, true, true, true, true, true, false] rfl rfl (by kernel_rfl) (by decide) (fun K hK => ?_)
        refine Kd.R_append_rows_step kB (w0 := w1) w1.heap.size (by rfl) (.tmp 61) (.tmp 66) 22 5 (.int .u8 0) 1 rfl Tryd.underlying22 info5 (by rfl) (by decide) (by omega) _ (out ++ md) G1 A0 G1.length c0 (fun _ => True) (fun _ => False) rfl rfl HO6.out (Kd.C_below HC3.out HB6.out) (fun _ _ h => h) (fun _ h => h.elim) (fun _ _ => trivial) HB6.out HB6.out.size ?aL2 ?_
        case aL2 => have := HLEN.out; rw [List.length_append]; omega
        intro v7 w7 ho7 hb7 hg7 hat7
        have HO7 := Aside0.mk ho7
        have HB7 := Aside0.mk hb7
        clear ho7 hb7 hg7 hat7
        refine hK.out _ _ ?_
        clear hK K
        refine norm_ (a' := ?_) ?_ ?_
        rotate_left
        · show Act.put _ (some 67) _ = _
          simp only [Act.put, List.setIfInBounds_toArray, List.set_cons_zero, List.set_cons_succ, i64_w, i32_w]
          rfl
        refine pure_ (i := 14) (N := some 9) (v := ?_) (a' := ?_) #[true, true, true, true, true, true, true, true, true, true, true, true, true, true, true] rfl rfl (by kernel_rfl) (fun _ _ _ h => h) (Or.inl ⟨by rfl, ?_⟩) ?_ ?_
        rotate_left
        · intro w'
          go_simp
          with_reducible rfl
        rotate_left
        · simp only [Act.put, List.setIfInBounds_toArray, List.set_cons_zero, List.set_cons_succ, i64_w, i32_w]
          rfl
        refine done_ (by kernel_rfl) ?_
        clear hwr hw0 hw1 hw2
        have HO8 : Aside0 (Own kB 5 w7 w1.heap.size v7 (out ++ md ++ G1)) := HO7
        clear HX6 HC06 HC16 HK6 HO6 HB6 HO7 HC0 HC1 HX HKB HNB
        go_wp2
        go_roundg (l.length - k - 1)
        case measure => have := HA.out; omega
        case rel => exact ⟨k + 1, out ++ md ++ G1, by go_num, ⟨by omega, by have := HA.out; omega⟩, HJ2, HO8, HB7⟩
      · have hout : out = b := by
          have h := HJ.out
          rw [tail_end (by rw [List.length_map, oneL_len]; omega), List.append_nil] at h
          exact h
        subst hout
        have HRO : Aside0 (RdS kB wr u9 out) := ⟨RdS.of_R HO.out⟩
        have HRB : Aside0 (RdS kB wr (.slice A out.length cA) out) := ⟨⟨A, cA, rfl, HLL.out.2.2, Kd.C_below HB.out (below_to HB1.out HXX.out)⟩⟩
        go_wp2_with fail
        refine (equalB_any _ _ _ out HRO.out HRB.out).mono ?_
        rintro e w5 ⟨rfl, hb5⟩
        have HB5 : Aside0 (Below w.heap.size w w5) := ⟨below_to (below_to HB1.out HXX.out) hb5⟩
        clear hb5
        go_wp2
        go_ret
        exact ⟨rfl, HB5.out⟩
  · have HMAY := Aside0.mk hmay
    have HB1 := Aside0.mk hb1
    have hsr : splitR b (oneL l) = ([], 1) := if_neg hmay
    have HR := Aside0.mk (HREF.out w1 hb1)
    rw [hsr] at HR
    clear hmay hb1 hsr
    go_wp2_with fail
    refine HR.out.mono ?_
    rintro e w2 ⟨v, rfl, ho, hb2⟩
    have HB2 : Aside0 (Below w.heap.size w w2) := ⟨below_to HB1.out hb2⟩
    clear ho hb2
    go_wp2_with fail
    refine (awake_any _).mono ?_
    rintro e w3 ⟨rfl, hb3⟩
    have HB3 : Aside0 (Below w.heap.size w w3) := ⟨below_to HB2.out hb3⟩
    clear hb3
    go_wp2
    go_ret
    exact ⟨rfl, HB3.out⟩

end Go.Proofs.YtaejogkinniakaaDoor
