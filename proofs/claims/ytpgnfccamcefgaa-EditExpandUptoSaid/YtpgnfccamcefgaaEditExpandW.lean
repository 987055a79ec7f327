/- Walk of the law EditExpand, for arguments of little bulk. Written by edgen.py. -/
import Derived.Test.YtpgnfccamcefgaaEdD
namespace Go.Proofs.Ytpgnfccamcefgaa
set_option linter.unusedVariables false
set_option linter.unusedSimpArgs false
open Go.RowKit Go.Proofs.YtpgnfccamcefgaaW.PrintWords Go.Proofs.YtpgnfccamcefgaaW.PrintLast Go.Proofs.YtpgnfccamcefgaaW.PrintMore Go.Proofs.Ytpgnfccamcefgaa.PEditExpand

set_option maxHeartbeats 4000000 in
set_option maxRecDepth 100000 in
theorem EditExpand_walk (w : World) (A : Option Addr) (c : Nat) (l : List S33) (Ab : Option Addr) (cb : Nat) (b : List Int) (Af : Option Addr) (cf : Nat) (f : List S84)
    (hl : Kd.C k33 w A l.length l) (hlc : l.length ≤ c) (hb : Kd.C kB w Ab b.length b) (hcb : b.length ≤ cb) (hf : Kd.C k84 w Af f.length f) (hcf : f.length ≤ cf)
    (hn : b.length ≤ 1048576) (hp : ∀ p ∈ l, p.f0.length ≤ 1048576) (hl2 : l.length ≤ 1048576) :
    Calls Try.prog 3 #[.slice A l.length c, .slice Ab b.length cb, .agg #[.slice Af f.length cf]] w fun e w' => e = .returned (.bool true) ∧ Below w.heap.size w w' := by
  have HW : Aside0 (Below w.heap.size w (w.alloc (.cells #[.slice Af f.length cf] 26)).drew) := ⟨below_drew (below_alloc (Below.refl _ _) _)⟩
  have HL := Aside0.mk (Kd.C_below hl HW.out)
  have HBY := Aside0.mk (Kd.C_below hb HW.out)
  have HF := Aside0.mk (Kd.C_below hf HW.out)
  have HN := Aside0.mk (And.intro hn (And.intro hp hl2))
  have HSZ : Aside0 (l.length * 1048576 < 140737488355328) := ⟨Nat.lt_of_le_of_lt (Nat.mul_le_mul_right _ hl2) (by decide)⟩
  have HCL := Aside0.mk hlc
  have HCB := Aside0.mk hcb
  have HCF := Aside0.mk hcf
  clear hl hlc hb hcb hf hcf hn hp hl2
  have HFB : Aside0 ((w.alloc (.cells #[.slice Af f.length cf] 26)).drew.heap[w.heap.size]? = some (.cells #[.slice Af f.length cf] 26 (0, 0))) := ⟨blk_drew (heap_alloc_new _ _)⟩
  obtain ⟨gf, hgf⟩ : ∃ gf, w.heap.size = gf := ⟨_, rfl⟩
  rw [hgf] at HFB
  go_enter Try.func3, Try.ntmps3
  go_wp2
  refine start_ (n := 22) (S := fun w' => Blk w' gf #[.slice Af f.length cf] 26) (ds := []) #[false, false, false, false, false, false, false, false, false, false, false, false, false, false, false, false, false, false, false, false, false, false] (by kernel_rfl) rfl rfl ⟨_, HFB.out⟩ (fun hHeld => ?_)
  obtain ⟨w1, hw1⟩ : ∃ w1, (w.alloc (.cells #[.slice Af f.length cf] 26)).drew = w1 := ⟨_, rfl⟩
  rw [hw1] at HFB HW HL HBY HF hHeld ⊢
  clear hw1 HFB
  refine pure_ (i := 0) (N := some 7) (v := ?_) (a' := ?_) #[true, false, false, false, false, false, false, false, false, false, false, false, false, false, false, false, false, false, false, false, false, false] rfl rfl (by kernel_rfl) (fun _ _ _ h => h) (Or.inl ⟨by rfl, ?_⟩) ?_ ?_
  rotate_left
  · intro w'
    go_simp
    with_reducible rfl
  rotate_left
  · simp only [Act.put, List.setIfInBounds_toArray, List.set_cons_zero, List.set_cons_succ, i64_w, i32_w]
    rfl
  refine pure_ (i := 1) (N := some 8) (v := ?_) (a' := ?_) #[true, true, false, false, false, false, false, false, false, false, false, false, false, false, false, false, false, false, false, false, false, false] rfl rfl (by kernel_rfl) (fun _ _ _ h => h) (Or.inl ⟨by rfl, ?_⟩) ?_ ?_
  rotate_left
  · intro w'
    go_simp
    with_reducible rfl
  rotate_left
  · simp only [Act.put, List.setIfInBounds_toArray, List.set_cons_zero, List.set_cons_succ, i64_w, i32_w]
    rfl
  refine pure_ (i := 4) (N := some 11) (v := ?_) (a' := ?_) #[true, true, false, false, true, false, false, false, false, false, false, false, false, false, false, false, false, false, false, false, false, false] rfl rfl (by kernel_rfl) (fun _ _ _ h => h) (Or.inl ⟨by rfl, ?_⟩) ?_ ?_
  rotate_left
  · intro w'
    go_simp
    with_reducible rfl
  rotate_left
  · simp only [Act.put, List.setIfInBounds_toArray, List.set_cons_zero, List.set_cons_succ, i64_w, i32_w]
    rfl
  refine pure_ (i := 6) (N := some 13) (v := ?_) (a' := ?_) #[true, true, false, false, true, false, true, false, false, false, false, false, false, false, false, false, false, false, false, false, false, false] rfl rfl (by kernel_rfl) (fun _ _ _ h => h) (Or.inl ⟨by rfl, ?_⟩) ?_ ?_
  rotate_left
  · intro w'
    go_simp
    with_reducible rfl
  rotate_left
  · simp only [Act.put, List.setIfInBounds_toArray, List.set_cons_zero, List.set_cons_succ, i64_w, i32_w]
    rfl
  refine take_ (i := 2) (N := some 9) (v := ?_) (a' := ?_) #[true, true, true, false, true, false, true, false, false, false, false, false, false, false, false, false, false, false, false, false, false, false] rfl rfl (by kernel_rfl) (fun _ _ _ h => h) (Or.inl ⟨by rfl, ?_⟩) hHeld ?_ ?_
  rotate_left
  · intro w' s0
    have s1 := s0.cell 0 _ rfl
    go_simp
    with_reducible rfl
  rotate_left
  · simp only [Act.put, List.setIfInBounds_toArray, List.set_cons_zero, List.set_cons_succ, i64_w, i32_w]
    rfl
  refine take_ (i := 7) (N := some 14) (v := ?_) (a' := ?_) #[true, true, true, false, true, false, true, true, false, false, false, false, false, false, false, false, false, false, false, false, false, false] rfl rfl (by kernel_rfl) (fun _ _ _ h => h) (Or.inl ⟨by rfl, ?_⟩) hHeld ?_ ?_
  rotate_left
  · intro w' s0
    have s1 := s0.cell 0 _ rfl
    go_simp
    with_reducible rfl
  rotate_left
  · simp only [Act.put, List.setIfInBounds_toArray, List.set_cons_zero, List.set_cons_succ, i64_w, i32_w]
    rfl
  refine one_ (i := 3) (N := some 10) #[true, true, true, true, true, false, true, true, false, false, false, false, false, false, false, false, false, false, false, false, false, false] rfl rfl (by kernel_rfl) (by decide) (fun K hK => ?_)
  refine goes_ Try.func16 (by kernel_rfl) rfl #[.slice A l.length c, .slice Ab b.length cb, .agg #[.slice Af f.length cf]] (by rfl) rfl rfl (by simp only [List.map_toArray, List.map_cons, List.map_nil]; rfl) ?_
  refine (expand_any _ A c l Ab cb b Af cf f 1048576 HL.out HBY.out HCB.out HF.out HN.out.1 HN.out.2.1 (Nat.le_of_lt HSZ.out)).mono ?_
  rintro e w2 ⟨v10, rfl, ho, hb2⟩
  refine ⟨_, rfl, ?_⟩
  have HV10 := Aside0.mk (RdS.of_R ho)
  clear ho
  replace HL := Aside0.mk (Kd.C_below HL.out hb2)
  replace HBY := Aside0.mk (Kd.C_below HBY.out hb2)
  replace HF := Aside0.mk (Kd.C_below HF.out hb2)
  replace HW := Aside0.mk (below_to HW.out hb2)
  refine hK.out _ _ (hHeld.below hb2) (fun hHeld2 => ?_)
  clear hHeld
  have hHeld := hHeld2
  clear hHeld2
  clear hK K
  refine norm_ (a' := ?_) ?_ ?_
  rotate_left
  · show Act.put _ (some 10) _ = _
    simp only [Act.put, List.setIfInBounds_toArray, List.set_cons_zero, List.set_cons_succ, i64_w, i32_w]
    rfl
  clear hb2
  refine one_ (i := 5) (N := some 12) #[true, true, true, true, true, true, true, true, false, false, false, false, false, false, false, false, false, false, false, false, false, false] rfl rfl (by kernel_rfl) (by decide) (fun K hK => ?_)
  refine goes_ Try.func18 (by kernel_rfl) rfl #[.slice A l.length c] (by rfl) rfl rfl (by simp only [List.map_toArray, List.map_cons, List.map_nil]; rfl) ?_
  refine (parts_any _ A c l HL.out HCL.out HN.out.2.2).mono ?_
  rintro e w3 ⟨A12, c12, rfl, hc12, hC12, hb2⟩
  refine ⟨_, rfl, ?_⟩
  have HC12 := Aside0.mk hC12
  have HD12 := Aside0.mk hc12
  clear hC12 hc12
  replace HL := Aside0.mk (Kd.C_below HL.out hb2)
  replace HBY := Aside0.mk (Kd.C_below HBY.out hb2)
  replace HF := Aside0.mk (Kd.C_below HF.out hb2)
  replace HV10 := Aside0.mk (HV10.out.below hb2)
  replace HW := Aside0.mk (below_to HW.out hb2)
  refine hK.out _ _ (hHeld.below hb2) (fun hHeld2 => ?_)
  clear hHeld
  have hHeld := hHeld2
  clear hHeld2
  clear hK K
  refine norm_ (a' := ?_) ?_ ?_
  rotate_left
  · show Act.put _ (some 12) _ = _
    simp only [Act.put, List.setIfInBounds_toArray, List.set_cons_zero, List.set_cons_succ, i64_w, i32_w]
    rfl
  clear hb2
  refine one_ (i := 8) (N := some 15) #[true, true, true, true, true, true, true, true, true, false, false, false, false, false, false, false, false, false, false, false, false, false] rfl rfl (by kernel_rfl) (by decide) (fun K hK => ?_)
  refine goes_ Try.func17 (by kernel_rfl) rfl #[.slice A12 (l.map to85).length c12, .slice Ab b.length cb, .agg #[.slice Af f.length cf]] (by rfl) rfl rfl (by simp only [List.map_toArray, List.map_cons, List.map_nil]; rfl) ?_
  refine (ref_any _ A12 c12 l Ab cb b Af cf f 1048576 HC12.out HD12.out HBY.out HCB.out HF.out HCF.out HN.out.1 HN.out.2.1 HSZ.out HN.out.2.2).mono ?_
  rintro e w4 ⟨v15, rfl, ho, hb2⟩
  refine ⟨_, rfl, ?_⟩
  have HV15 := Aside0.mk (RdS.of_R ho)
  clear ho
  replace HL := Aside0.mk (Kd.C_below HL.out hb2)
  replace HBY := Aside0.mk (Kd.C_below HBY.out hb2)
  replace HF := Aside0.mk (Kd.C_below HF.out hb2)
  replace HV10 := Aside0.mk (HV10.out.below hb2)
  replace HW := Aside0.mk (below_to HW.out hb2)
  refine hK.out _ _ (hHeld.below hb2) (fun hHeld2 => ?_)
  clear hHeld
  have hHeld := hHeld2
  clear hHeld2
  clear hK K
  refine norm_ (a' := ?_) ?_ ?_
  rotate_left
  · show Act.put _ (some 15) _ = _
    simp only [Act.put, List.setIfInBounds_toArray, List.set_cons_zero, List.set_cons_succ, i64_w, i32_w]
    rfl
  clear hb2
  refine one_ (i := 9) (N := some 16) #[true, true, true, true, true, true, true, true, true, true, false, false, false, false, false, false, false, false, false, false, false, false] rfl rfl (by kernel_rfl) (by decide) (fun K hK => ?_)
  refine goes_ Try.func15 (by kernel_rfl) rfl #[v10, v15] (by rfl) rfl rfl (by simp only [List.map_toArray, List.map_cons, List.map_nil]; rfl) ?_
  refine (equalB_any _ v10 v15 _ HV10.out HV15.out).mono ?_
  rintro e w5 ⟨rfl, hb2⟩
  refine ⟨_, rfl, ?_⟩
  replace HW := Aside0.mk (below_to HW.out hb2)
  refine hK.out _ _ (hHeld.below hb2) (fun hHeld2 => ?_)
  clear hHeld
  have hHeld := hHeld2
  clear hHeld2
  clear hK K
  refine norm_ (a' := ?_) ?_ ?_
  rotate_left
  · show Act.put _ (some 16) _ = _
    simp only [Act.put, List.setIfInBounds_toArray, List.set_cons_zero, List.set_cons_succ, i64_w, i32_w]
    rfl
  clear hb2
  refine pure_ (i := 10) (N := some 17) (v := ?_) (a' := ?_) #[true, true, true, true, true, true, true, true, true, true, true, false, false, false, false, false, false, false, false, false, false, false] rfl rfl (by kernel_rfl) (fun _ _ _ h => h) (Or.inl ⟨by rfl, ?_⟩) ?_ ?_
  rotate_left
  · intro w'
    go_simp
    with_reducible rfl
  rotate_left
  · simp only [Act.put, List.setIfInBounds_toArray, List.set_cons_zero, List.set_cons_succ, i64_w, i32_w]
    rfl
  refine pure_ (i := 15) (N := some 22) (v := ?_) (a' := ?_) #[true, true, true, true, true, true, true, true, true, true, true, false, false, false, false, true, false, false, false, false, false, false] rfl rfl (by kernel_rfl) (fun _ _ _ h => h) (Or.inl ⟨by rfl, ?_⟩) ?_ ?_
  rotate_left
  · intro w'
    go_simp
    with_reducible rfl
  rotate_left
  · simp only [Act.put, List.setIfInBounds_toArray, List.set_cons_zero, List.set_cons_succ, i64_w, i32_w]
    rfl
  clear HL HBY HF HV10 HV15 HC12 HD12 HN HSZ HCL HCB HCF
  refine two_ (i := 11) (j := 17) (Ni := some 18) (Nj := some 24) #[true, true, true, true, true, true, true, true, true, true, true, true, false, false, false, true, false, false, false, false, false, false] #[true, true, true, true, true, true, true, true, true, true, true, false, false, false, false, true, false, true, false, false, false, false] rfl rfl rfl rfl (by kernel_rfl) (by decide) (by decide) (fun K hK => ?_) (fun K hK => ?_)
  · refine value_ (N := some 18) (v := .slice (some ⟨w5.heap.size, 0, none⟩) 1 1) (w1 := w5.alloc (.cells #[.int .u8 120] 5)) (by rfl) rfl (by go_simp) ?_
    have hb2 := below_alloc (Below.refl w5.heap.size w5) (.cells #[.int .u8 120] 5)
    have HG18 : Aside0 (w.heap.size ≤ w5.heap.size) := ⟨HW.out.size⟩
    replace HW := Aside0.mk (below_to HW.out hb2)
    have HK18 : Aside0 (Blk (w5.alloc (.cells #[.int .u8 120] 5)) w5.heap.size #[.int .u8 120] 5) := ⟨⟨_, heap_alloc_new _ _⟩⟩
    refine hK.out _ _ (hHeld.below hb2) (fun hHeld2 => ?_)
    clear hHeld
    have hHeld := hHeld2
    clear hHeld2
    clear hK K
    refine norm_ (a' := ?_) ?_ ?_
    rotate_left
    · show Act.put _ (some 18) _ = _
      simp only [Act.put, List.setIfInBounds_toArray, List.set_cons_zero, List.set_cons_succ, i64_w, i32_w]
      rfl
    clear hb2
    obtain ⟨g18, hg18⟩ : ∃ x, w5.heap.size = x := ⟨_, rfl⟩
    rw [hg18] at HK18 HG18 ⊢
    clear hg18
    obtain ⟨w6, hw6⟩ : ∃ x, w5.alloc (.cells #[.int .u8 120] 5) = x := ⟨_, rfl⟩
    rw [hw6] at hHeld HW HK18 ⊢
    clear hw6
    refine two_ (i := 12) (j := 17) (Ni := some 19) (Nj := some 24) #[true, true, true, true, true, true, true, true, true, true, true, true, true, false, false, true, false, false, false, false, false, false] #[true, true, true, true, true, true, true, true, true, true, true, true, false, false, false, true, false, true, false, false, false, false] rfl rfl rfl rfl (by kernel_rfl) (by decide) (by decide) (fun K hK => ?_) (fun K hK => ?_)
    · obtain ⟨w7, hcv, hblk, hbel⟩ := conv8 HK18.out
      refine value_ (N := some 19) (v := .slice (some ⟨g18, 0, none⟩) 1 1) (w1 := w7) (by rfl) rfl (by go_simp) ?_
      clear hcv
      replace HK18 := Aside0.mk (hblk _ _ _ HK18.out)
      replace HW := Aside0.mk (HW.out.trans (hbel _ HG18.out))
      refine hK.out _ _ (hblk _ _ _ hHeld) (fun hHeld2 => ?_)
      clear hHeld
      have hHeld := hHeld2
      clear hHeld2
      clear hK K
      refine norm_ (a' := ?_) ?_ ?_
      rotate_left
      · show Act.put _ (some 19) _ = _
        simp only [Act.put, List.setIfInBounds_toArray, List.set_cons_zero, List.set_cons_succ, i64_w, i32_w]
        rfl
      clear hblk hbel
      refine pure_ (i := 13) (N := some 20) (v := ?_) (a' := ?_) #[true, true, true, true, true, true, true, true, true, true, true, true, true, true, false, true, false, false, false, false, false, false] rfl rfl (by kernel_rfl) (fun _ _ _ h => h) (Or.inl ⟨by rfl, ?_⟩) ?_ ?_
      rotate_left
      · intro w'
        go_simp
        with_reducible rfl
      rotate_left
      · simp only [Act.put, List.setIfInBounds_toArray, List.set_cons_zero, List.set_cons_succ, i64_w, i32_w]
        rfl
      refine two_ (i := 14) (j := 17) (Ni := some 21) (Nj := some 24) #[true, true, true, true, true, true, true, true, true, true, true, true, true, true, true, true, false, false, false, false, false, false] #[true, true, true, true, true, true, true, true, true, true, true, true, true, true, false, true, false, true, false, false, false, false] rfl rfl rfl rfl (by kernel_rfl) (by decide) (by decide) (fun K hK => ?_) (fun K hK => ?_)
      · refine value_ (N := some 21) (v := .slice (some ⟨w7.heap.size, 0, none⟩) 1 1) (w1 := w7.alloc (.cells #[.slice (some ⟨g18, 0, none⟩) 1 1, .int .i64 (-1)] 33)) (by rfl) rfl (by go_simp) ?_
        have hb2 := below_alloc (Below.refl w7.heap.size w7) (.cells #[.slice (some ⟨g18, 0, none⟩) 1 1, .int .i64 (-1)] 33)
        have HG21 : Aside0 (w.heap.size ≤ w7.heap.size) := ⟨HW.out.size⟩
        replace HK18 := Aside0.mk (HK18.out.below hb2)
        replace HW := Aside0.mk (below_to HW.out hb2)
        have HK21 : Aside0 (Blk (w7.alloc (.cells #[.slice (some ⟨g18, 0, none⟩) 1 1, .int .i64 (-1)] 33)) w7.heap.size #[.slice (some ⟨g18, 0, none⟩) 1 1, .int .i64 (-1)] 33) := ⟨⟨_, heap_alloc_new _ _⟩⟩
        refine hK.out _ _ (hHeld.below hb2) (fun hHeld2 => ?_)
        clear hHeld
        have hHeld := hHeld2
        clear hHeld2
        clear hK K
        refine norm_ (a' := ?_) ?_ ?_
        rotate_left
        · show Act.put _ (some 21) _ = _
          simp only [Act.put, List.setIfInBounds_toArray, List.set_cons_zero, List.set_cons_succ, i64_w, i32_w]
          rfl
        clear hb2
        obtain ⟨g21, hg21⟩ : ∃ x, w7.heap.size = x := ⟨_, rfl⟩
        rw [hg21] at HK21 HG21 ⊢
        clear hg21
        obtain ⟨w8, hw8⟩ : ∃ x, w7.alloc (.cells #[.slice (some ⟨g18, 0, none⟩) 1 1, .int .i64 (-1)] 33) = x := ⟨_, rfl⟩
        rw [hw8] at hHeld HW HK18 HK21 ⊢
        clear hw8
        refine two_ (i := 16) (j := 17) (Ni := some 23) (Nj := some 24) #[true, true, true, true, true, true, true, true, true, true, true, true, true, true, true, true, true, false, false, false, false, false] #[true, true, true, true, true, true, true, true, true, true, true, true, true, true, true, true, false, true, false, false, false, false] rfl rfl rfl rfl (by kernel_rfl) (by decide) (by decide) (fun K hK => ?_) (fun K hK => ?_)
        · refine goes_ Try.func16 (by kernel_rfl) rfl #[.slice (some ⟨g21, 0, none⟩) 1 1, .slice none 0 0, .agg #[.slice none 0 0]] (by rfl) rfl rfl (by simp only [List.map_toArray, List.map_cons, List.map_nil]; rfl) ?_
          refine (expand_any _ (some ⟨g21, 0, none⟩) 1 [⟨[120], -1⟩] none 0 [] none 0 [] 1 (one33 HK21.out HK18.out) (Kd.C_nil _ _) (Nat.le_refl _) (Kd.C_nil _ _) (by decide) (by decide) (by decide)).mono ?_
          rintro e w9 ⟨v23, rfl, ho, hb2⟩
          refine ⟨_, rfl, ?_⟩
          obtain ⟨g23, c23, cs23, rfl, h23, hk23, h0⟩ := blk_of_own ho
          have HK23 := Aside0.mk hk23
          have HC23 := Aside0.mk (And.intro h0 h23)
          clear ho hk23 h0 h23
          replace HK18 := Aside0.mk (HK18.out.below hb2)
          replace HK21 := Aside0.mk (HK21.out.below hb2)
          replace HW := Aside0.mk (below_to HW.out hb2)
          refine hK.out _ _ (hHeld.below hb2) (fun hHeld2 => ?_)
          clear hHeld
          have hHeld := hHeld2
          clear hHeld2
          clear hK K
          refine norm_ (a' := ?_) ?_ ?_
          rotate_left
          · show Act.put _ (some 23) _ = _
            simp only [Act.put, List.setIfInBounds_toArray, List.set_cons_zero, List.set_cons_succ, i64_w, i32_w]
            rfl
          clear hb2
          refine one_ (i := 17) (N := some 24) #[true, true, true, true, true, true, true, true, true, true, true, true, true, true, true, true, true, true, false, false, false, false] rfl rfl (by kernel_rfl) (by decide) (fun K hK => ?_)
          refine value_ (N := some 24) (v := .slice (some ⟨w9.heap.size, 0, none⟩) 1 1) (w1 := w9.alloc (.cells #[.int .u8 120] 5)) (by rfl) rfl (by go_simp) ?_
          have hb2 := below_alloc (Below.refl w9.heap.size w9) (.cells #[.int .u8 120] 5)
          have HG24 : Aside0 (w.heap.size ≤ w9.heap.size) := ⟨HW.out.size⟩
          replace HK18 := Aside0.mk (HK18.out.below hb2)
          replace HK21 := Aside0.mk (HK21.out.below hb2)
          replace HK23 := Aside0.mk (HK23.out.below hb2)
          replace HW := Aside0.mk (below_to HW.out hb2)
          have HK24 : Aside0 (Blk (w9.alloc (.cells #[.int .u8 120] 5)) w9.heap.size #[.int .u8 120] 5) := ⟨⟨_, heap_alloc_new _ _⟩⟩
          refine hK.out _ _ (hHeld.below hb2) (fun hHeld2 => ?_)
          clear hHeld
          have hHeld := hHeld2
          clear hHeld2
          clear hK K
          refine norm_ (a' := ?_) ?_ ?_
          rotate_left
          · show Act.put _ (some 24) _ = _
            simp only [Act.put, List.setIfInBounds_toArray, List.set_cons_zero, List.set_cons_succ, i64_w, i32_w]
            rfl
          clear hb2
          obtain ⟨g24, hg24⟩ : ∃ x, w9.heap.size = x := ⟨_, rfl⟩
          rw [hg24] at HK24 HG24 ⊢
          clear hg24
          obtain ⟨w10, hw10⟩ : ∃ x, w9.alloc (.cells #[.int .u8 120] 5) = x := ⟨_, rfl⟩
          rw [hw10] at hHeld HW HK18 HK21 HK23 HK24 ⊢
          clear hw10
          refine one_ (i := 18) (N := some 25) #[true, true, true, true, true, true, true, true, true, true, true, true, true, true, true, true, true, true, true, false, false, false] rfl rfl (by kernel_rfl) (by decide) (fun K hK => ?_)
          obtain ⟨w11, hcv, hblk, hbel⟩ := conv8 HK24.out
          refine value_ (N := some 25) (v := .slice (some ⟨g24, 0, none⟩) 1 1) (w1 := w11) (by rfl) rfl (by go_simp) ?_
          clear hcv
          replace HK18 := Aside0.mk (hblk _ _ _ HK18.out)
          replace HK21 := Aside0.mk (hblk _ _ _ HK21.out)
          replace HK23 := Aside0.mk (hblk _ _ _ HK23.out)
          replace HK24 := Aside0.mk (hblk _ _ _ HK24.out)
          replace HW := Aside0.mk (HW.out.trans (hbel _ HG24.out))
          refine hK.out _ _ (hblk _ _ _ hHeld) (fun hHeld2 => ?_)
          clear hHeld
          have hHeld := hHeld2
          clear hHeld2
          clear hK K
          refine norm_ (a' := ?_) ?_ ?_
          rotate_left
          · show Act.put _ (some 25) _ = _
            simp only [Act.put, List.setIfInBounds_toArray, List.set_cons_zero, List.set_cons_succ, i64_w, i32_w]
            rfl
          clear hblk hbel
          refine one_ (i := 19) (N := some 26) #[true, true, true, true, true, true, true, true, true, true, true, true, true, true, true, true, true, true, true, true, false, false] rfl rfl (by kernel_rfl) (by decide) (fun K hK => ?_)
          refine goes_ Try.func15 (by kernel_rfl) rfl #[.slice (some ⟨g23, 0, none⟩) 1 c23, .slice (some ⟨g24, 0, none⟩) 1 1] (by rfl) rfl rfl (by simp only [List.map_toArray, List.map_cons, List.map_nil]; rfl) ?_
          refine (equalB_any _ _ _ [120] (rdK HK23.out HC23.out.1 HC23.out.2) (rdK HK24.out rfl (Nat.le_refl 1))).mono ?_
          rintro e w12 ⟨rfl, hb2⟩
          refine ⟨_, rfl, ?_⟩
          replace HW := Aside0.mk (below_to HW.out hb2)
          refine hK.out _ _ (hHeld.below hb2) (fun hHeld2 => ?_)
          clear hHeld
          have hHeld := hHeld2
          clear hHeld2
          clear hK K
          refine norm_ (a' := ?_) ?_ ?_
          rotate_left
          · show Act.put _ (some 26) _ = _
            simp only [Act.put, List.setIfInBounds_toArray, List.set_cons_zero, List.set_cons_succ, i64_w, i32_w]
            rfl
          clear hb2
          refine pure_ (i := 20) (N := some 27) (v := ?_) (a' := ?_) #[true, true, true, true, true, true, true, true, true, true, true, true, true, true, true, true, true, true, true, true, true, false] rfl rfl (by kernel_rfl) (fun _ _ _ h => h) (Or.inl ⟨by rfl, ?_⟩) ?_ ?_
          rotate_left
          · intro w'
            go_simp
            with_reducible rfl
          rotate_left
          · simp only [Act.put, List.setIfInBounds_toArray, List.set_cons_zero, List.set_cons_succ, i64_w, i32_w]
            rfl
          refine pure_ (i := 21) (N := some 6) (v := ?_) (a' := ?_) #[true, true, true, true, true, true, true, true, true, true, true, true, true, true, true, true, true, true, true, true, true, true] rfl rfl (by kernel_rfl) (fun _ _ _ h => h) (Or.inl ⟨by rfl, ?_⟩) ?_ ?_
          rotate_left
          · intro w'
            go_simp
            with_reducible rfl
          rotate_left
          · simp only [Act.put, List.setIfInBounds_toArray, List.set_cons_zero, List.set_cons_succ, i64_w, i32_w]
            rfl
          refine done_ (by kernel_rfl) ?_
          go_wp2
          go_ret
          exact ⟨rfl, HW.out⟩
        · refine value_ (N := some 24) (v := .slice (some ⟨w8.heap.size, 0, none⟩) 1 1) (w1 := w8.alloc (.cells #[.int .u8 120] 5)) (by rfl) rfl (by go_simp) ?_
          have hb2 := below_alloc (Below.refl w8.heap.size w8) (.cells #[.int .u8 120] 5)
          have HG24 : Aside0 (w.heap.size ≤ w8.heap.size) := ⟨HW.out.size⟩
          replace HK18 := Aside0.mk (HK18.out.below hb2)
          replace HK21 := Aside0.mk (HK21.out.below hb2)
          replace HW := Aside0.mk (below_to HW.out hb2)
          have HK24 : Aside0 (Blk (w8.alloc (.cells #[.int .u8 120] 5)) w8.heap.size #[.int .u8 120] 5) := ⟨⟨_, heap_alloc_new _ _⟩⟩
          refine hK.out _ _ (hHeld.below hb2) (fun hHeld2 => ?_)
          clear hHeld
          have hHeld := hHeld2
          clear hHeld2
          clear hK K
          refine norm_ (a' := ?_) ?_ ?_
          rotate_left
          · show Act.put _ (some 24) _ = _
            simp only [Act.put, List.setIfInBounds_toArray, List.set_cons_zero, List.set_cons_succ, i64_w, i32_w]
            rfl
          clear hb2
          obtain ⟨g24, hg24⟩ : ∃ x, w8.heap.size = x := ⟨_, rfl⟩
          rw [hg24] at HK24 HG24 ⊢
          clear hg24
          obtain ⟨w9, hw9⟩ : ∃ x, w8.alloc (.cells #[.int .u8 120] 5) = x := ⟨_, rfl⟩
          rw [hw9] at hHeld HW HK18 HK21 HK24 ⊢
          clear hw9
          refine two_ (i := 16) (j := 18) (Ni := some 23) (Nj := some 25) #[true, true, true, true, true, true, true, true, true, true, true, true, true, true, true, true, true, true, false, false, false, false] #[true, true, true, true, true, true, true, true, true, true, true, true, true, true, true, true, false, true, true, false, false, false] rfl rfl rfl rfl (by kernel_rfl) (by decide) (by decide) (fun K hK => ?_) (fun K hK => ?_)
          · refine goes_ Try.func16 (by kernel_rfl) rfl #[.slice (some ⟨g21, 0, none⟩) 1 1, .slice none 0 0, .agg #[.slice none 0 0]] (by rfl) rfl rfl (by simp only [List.map_toArray, List.map_cons, List.map_nil]; rfl) ?_
            refine (expand_any _ (some ⟨g21, 0, none⟩) 1 [⟨[120], -1⟩] none 0 [] none 0 [] 1 (one33 HK21.out HK18.out) (Kd.C_nil _ _) (Nat.le_refl _) (Kd.C_nil _ _) (by decide) (by decide) (by decide)).mono ?_
            rintro e w10 ⟨v23, rfl, ho, hb2⟩
            refine ⟨_, rfl, ?_⟩
            obtain ⟨g23, c23, cs23, rfl, h23, hk23, h0⟩ := blk_of_own ho
            have HK23 := Aside0.mk hk23
            have HC23 := Aside0.mk (And.intro h0 h23)
            clear ho hk23 h0 h23
            replace HK18 := Aside0.mk (HK18.out.below hb2)
            replace HK21 := Aside0.mk (HK21.out.below hb2)
            replace HK24 := Aside0.mk (HK24.out.below hb2)
            replace HW := Aside0.mk (below_to HW.out hb2)
            refine hK.out _ _ (hHeld.below hb2) (fun hHeld2 => ?_)
            clear hHeld
            have hHeld := hHeld2
            clear hHeld2
            clear hK K
            refine norm_ (a' := ?_) ?_ ?_
            rotate_left
            · show Act.put _ (some 23) _ = _
              simp only [Act.put, List.setIfInBounds_toArray, List.set_cons_zero, List.set_cons_succ, i64_w, i32_w]
              rfl
            clear hb2
            refine one_ (i := 18) (N := some 25) #[true, true, true, true, true, true, true, true, true, true, true, true, true, true, true, true, true, true, true, false, false, false] rfl rfl (by kernel_rfl) (by decide) (fun K hK => ?_)
            obtain ⟨w11, hcv, hblk, hbel⟩ := conv8 HK24.out
            refine value_ (N := some 25) (v := .slice (some ⟨g24, 0, none⟩) 1 1) (w1 := w11) (by rfl) rfl (by go_simp) ?_
            clear hcv
            replace HK18 := Aside0.mk (hblk _ _ _ HK18.out)
            replace HK21 := Aside0.mk (hblk _ _ _ HK21.out)
            replace HK24 := Aside0.mk (hblk _ _ _ HK24.out)
            replace HK23 := Aside0.mk (hblk _ _ _ HK23.out)
            replace HW := Aside0.mk (HW.out.trans (hbel _ HG24.out))
            refine hK.out _ _ (hblk _ _ _ hHeld) (fun hHeld2 => ?_)
            clear hHeld
            have hHeld := hHeld2
            clear hHeld2
            clear hK K
            refine norm_ (a' := ?_) ?_ ?_
            rotate_left
            · show Act.put _ (some 25) _ = _
              simp only [Act.put, List.setIfInBounds_toArray, List.set_cons_zero, List.set_cons_succ, i64_w, i32_w]
              rfl
            clear hblk hbel
            refine one_ (i := 19) (N := some 26) #[true, true, true, true, true, true, true, true, true, true, true, true, true, true, true, true, true, true, true, true, false, false] rfl rfl (by kernel_rfl) (by decide) (fun K hK => ?_)
            refine goes_ Try.func15 (by kernel_rfl) rfl #[.slice (some ⟨g23, 0, none⟩) 1 c23, .slice (some ⟨g24, 0, none⟩) 1 1] (by rfl) rfl rfl (by simp only [List.map_toArray, List.map_cons, List.map_nil]; rfl) ?_
            refine (equalB_any _ _ _ [120] (rdK HK23.out HC23.out.1 HC23.out.2) (rdK HK24.out rfl (Nat.le_refl 1))).mono ?_
            rintro e w12 ⟨rfl, hb2⟩
            refine ⟨_, rfl, ?_⟩
            replace HW := Aside0.mk (below_to HW.out hb2)
            refine hK.out _ _ (hHeld.below hb2) (fun hHeld2 => ?_)
            clear hHeld
            have hHeld := hHeld2
            clear hHeld2
            clear hK K
            refine norm_ (a' := ?_) ?_ ?_
            rotate_left
            · show Act.put _ (some 26) _ = _
              simp only [Act.put, List.setIfInBounds_toArray, List.set_cons_zero, List.set_cons_succ, i64_w, i32_w]
              rfl
            clear hb2
            refine pure_ (i := 20) (N := some 27) (v := ?_) (a' := ?_) #[true, true, true, true, true, true, true, true, true, true, true, true, true, true, true, true, true, true, true, true, true, false] rfl rfl (by kernel_rfl) (fun _ _ _ h => h) (Or.inl ⟨by rfl, ?_⟩) ?_ ?_
            rotate_left
            · intro w'
              go_simp
              with_reducible rfl
            rotate_left
            · simp only [Act.put, List.setIfInBounds_toArray, List.set_cons_zero, List.set_cons_succ, i64_w, i32_w]
              rfl
            refine pure_ (i := 21) (N := some 6) (v := ?_) (a' := ?_) #[true, true, true, true, true, true, true, true, true, true, true, true, true, true, true, true, true, true, true, true, true, true] rfl rfl (by kernel_rfl) (fun _ _ _ h => h) (Or.inl ⟨by rfl, ?_⟩) ?_ ?_
            rotate_left
            · intro w'
              go_simp
              with_reducible rfl
            rotate_left
            · simp only [Act.put, List.setIfInBounds_toArray, List.set_cons_zero, List.set_cons_succ, i64_w, i32_w]
              rfl
            refine done_ (by kernel_rfl) ?_
            go_wp2
            go_ret
            exact ⟨rfl, HW.out⟩
          · obtain ⟨w10, hcv, hblk, hbel⟩ := conv8 HK24.out
            refine value_ (N := some 25) (v := .slice (some ⟨g24, 0, none⟩) 1 1) (w1 := w10) (by rfl) rfl (by go_simp) ?_
            clear hcv
            replace HK18 := Aside0.mk (hblk _ _ _ HK18.out)
            replace HK21 := Aside0.mk (hblk _ _ _ HK21.out)
            replace HK24 := Aside0.mk (hblk _ _ _ HK24.out)
            replace HW := Aside0.mk (HW.out.trans (hbel _ HG24.out))
            refine hK.out _ _ (hblk _ _ _ hHeld) (fun hHeld2 => ?_)
            clear hHeld
            have hHeld := hHeld2
            clear hHeld2
            clear hK K
            refine norm_ (a' := ?_) ?_ ?_
            rotate_left
            · show Act.put _ (some 25) _ = _
              simp only [Act.put, List.setIfInBounds_toArray, List.set_cons_zero, List.set_cons_succ, i64_w, i32_w]
              rfl
            clear hblk hbel
            refine one_ (i := 16) (N := some 23) #[true, true, true, true, true, true, true, true, true, true, true, true, true, true, true, true, true, true, true, false, false, false] rfl rfl (by kernel_rfl) (by decide) (fun K hK => ?_)
            refine goes_ Try.func16 (by kernel_rfl) rfl #[.slice (some ⟨g21, 0, none⟩) 1 1, .slice none 0 0, .agg #[.slice none 0 0]] (by rfl) rfl rfl (by simp only [List.map_toArray, List.map_cons, List.map_nil]; rfl) ?_
            refine (expand_any _ (some ⟨g21, 0, none⟩) 1 [⟨[120], -1⟩] none 0 [] none 0 [] 1 (one33 HK21.out HK18.out) (Kd.C_nil _ _) (Nat.le_refl _) (Kd.C_nil _ _) (by decide) (by decide) (by decide)).mono ?_
            rintro e w11 ⟨v23, rfl, ho, hb2⟩
            refine ⟨_, rfl, ?_⟩
            obtain ⟨g23, c23, cs23, rfl, h23, hk23, h0⟩ := blk_of_own ho
            have HK23 := Aside0.mk hk23
            have HC23 := Aside0.mk (And.intro h0 h23)
            clear ho hk23 h0 h23
            replace HK18 := Aside0.mk (HK18.out.below hb2)
            replace HK21 := Aside0.mk (HK21.out.below hb2)
            replace HK24 := Aside0.mk (HK24.out.below hb2)
            replace HW := Aside0.mk (below_to HW.out hb2)
            refine hK.out _ _ (hHeld.below hb2) (fun hHeld2 => ?_)
            clear hHeld
            have hHeld := hHeld2
            clear hHeld2
            clear hK K
            refine norm_ (a' := ?_) ?_ ?_
            rotate_left
            · show Act.put _ (some 23) _ = _
              simp only [Act.put, List.setIfInBounds_toArray, List.set_cons_zero, List.set_cons_succ, i64_w, i32_w]
              rfl
            clear hb2
            refine one_ (i := 19) (N := some 26) #[true, true, true, true, true, true, true, true, true, true, true, true, true, true, true, true, true, true, true, true, false, false] rfl rfl (by kernel_rfl) (by decide) (fun K hK => ?_)
            refine goes_ Try.func15 (by kernel_rfl) rfl #[.slice (some ⟨g23, 0, none⟩) 1 c23, .slice (some ⟨g24, 0, none⟩) 1 1] (by rfl) rfl rfl (by simp only [List.map_toArray, List.map_cons, List.map_nil]; rfl) ?_
            refine (equalB_any _ _ _ [120] (rdK HK23.out HC23.out.1 HC23.out.2) (rdK HK24.out rfl (Nat.le_refl 1))).mono ?_
            rintro e w12 ⟨rfl, hb2⟩
            refine ⟨_, rfl, ?_⟩
            replace HW := Aside0.mk (below_to HW.out hb2)
            refine hK.out _ _ (hHeld.below hb2) (fun hHeld2 => ?_)
            clear hHeld
            have hHeld := hHeld2
            clear hHeld2
            clear hK K
            refine norm_ (a' := ?_) ?_ ?_
            rotate_left
            · show Act.put _ (some 26) _ = _
              simp only [Act.put, List.setIfInBounds_toArray, List.set_cons_zero, List.set_cons_succ, i64_w, i32_w]
              rfl
            clear hb2
            refine pure_ (i := 20) (N := some 27) (v := ?_) (a' := ?_) #[true, true, true, true, true, true, true, true, true, true, true, true, true, true, true, true, true, true, true, true, true, false] rfl rfl (by kernel_rfl) (fun _ _ _ h => h) (Or.inl ⟨by rfl, ?_⟩) ?_ ?_
            rotate_left
            · intro w'
              go_simp
              with_reducible rfl
            rotate_left
            · simp only [Act.put, List.setIfInBounds_toArray, List.set_cons_zero, List.set_cons_succ, i64_w, i32_w]
              rfl
            refine pure_ (i := 21) (N := some 6) (v := ?_) (a' := ?_) #[true, true, true, true, true, true, true, true, true, true, true, true, true, true, true, true, true, true, true, true, true, true] rfl rfl (by kernel_rfl) (fun _ _ _ h => h) (Or.inl ⟨by rfl, ?_⟩) ?_ ?_
            rotate_left
            · intro w'
              go_simp
              with_reducible rfl
            rotate_left
            · simp only [Act.put, List.setIfInBounds_toArray, List.set_cons_zero, List.set_cons_succ, i64_w, i32_w]
              rfl
            refine done_ (by kernel_rfl) ?_
            go_wp2
            go_ret
            exact ⟨rfl, HW.out⟩
      · refine value_ (N := some 24) (v := .slice (some ⟨w7.heap.size, 0, none⟩) 1 1) (w1 := w7.alloc (.cells #[.int .u8 120] 5)) (by rfl) rfl (by go_simp) ?_
        have hb2 := below_alloc (Below.refl w7.heap.size w7) (.cells #[.int .u8 120] 5)
        have HG24 : Aside0 (w.heap.size ≤ w7.heap.size) := ⟨HW.out.size⟩
        replace HK18 := Aside0.mk (HK18.out.below hb2)
        replace HW := Aside0.mk (below_to HW.out hb2)
        have HK24 : Aside0 (Blk (w7.alloc (.cells #[.int .u8 120] 5)) w7.heap.size #[.int .u8 120] 5) := ⟨⟨_, heap_alloc_new _ _⟩⟩
        refine hK.out _ _ (hHeld.below hb2) (fun hHeld2 => ?_)
        clear hHeld
        have hHeld := hHeld2
        clear hHeld2
        clear hK K
        refine norm_ (a' := ?_) ?_ ?_
        rotate_left
        · show Act.put _ (some 24) _ = _
          simp only [Act.put, List.setIfInBounds_toArray, List.set_cons_zero, List.set_cons_succ, i64_w, i32_w]
          rfl
        clear hb2
        obtain ⟨g24, hg24⟩ : ∃ x, w7.heap.size = x := ⟨_, rfl⟩
        rw [hg24] at HK24 HG24 ⊢
        clear hg24
        obtain ⟨w8, hw8⟩ : ∃ x, w7.alloc (.cells #[.int .u8 120] 5) = x := ⟨_, rfl⟩
        rw [hw8] at hHeld HW HK18 HK24 ⊢
        clear hw8
        refine two_ (i := 14) (j := 18) (Ni := some 21) (Nj := some 25) #[true, true, true, true, true, true, true, true, true, true, true, true, true, true, true, true, false, true, false, false, false, false] #[true, true, true, true, true, true, true, true, true, true, true, true, true, true, false, true, false, true, true, false, false, false] rfl rfl rfl rfl (by kernel_rfl) (by decide) (by decide) (fun K hK => ?_) (fun K hK => ?_)
        · refine value_ (N := some 21) (v := .slice (some ⟨w8.heap.size, 0, none⟩) 1 1) (w1 := w8.alloc (.cells #[.slice (some ⟨g18, 0, none⟩) 1 1, .int .i64 (-1)] 33)) (by rfl) rfl (by go_simp) ?_
          have hb2 := below_alloc (Below.refl w8.heap.size w8) (.cells #[.slice (some ⟨g18, 0, none⟩) 1 1, .int .i64 (-1)] 33)
          have HG21 : Aside0 (w.heap.size ≤ w8.heap.size) := ⟨HW.out.size⟩
          replace HK18 := Aside0.mk (HK18.out.below hb2)
          replace HK24 := Aside0.mk (HK24.out.below hb2)
          replace HW := Aside0.mk (below_to HW.out hb2)
          have HK21 : Aside0 (Blk (w8.alloc (.cells #[.slice (some ⟨g18, 0, none⟩) 1 1, .int .i64 (-1)] 33)) w8.heap.size #[.slice (some ⟨g18, 0, none⟩) 1 1, .int .i64 (-1)] 33) := ⟨⟨_, heap_alloc_new _ _⟩⟩
          refine hK.out _ _ (hHeld.below hb2) (fun hHeld2 => ?_)
          clear hHeld
          have hHeld := hHeld2
          clear hHeld2
          clear hK K
          refine norm_ (a' := ?_) ?_ ?_
          rotate_left
          · show Act.put _ (some 21) _ = _
            simp only [Act.put, List.setIfInBounds_toArray, List.set_cons_zero, List.set_cons_succ, i64_w, i32_w]
            rfl
          clear hb2
          obtain ⟨g21, hg21⟩ : ∃ x, w8.heap.size = x := ⟨_, rfl⟩
          rw [hg21] at HK21 HG21 ⊢
          clear hg21
          obtain ⟨w9, hw9⟩ : ∃ x, w8.alloc (.cells #[.slice (some ⟨g18, 0, none⟩) 1 1, .int .i64 (-1)] 33) = x := ⟨_, rfl⟩
          rw [hw9] at hHeld HW HK18 HK24 HK21 ⊢
          clear hw9
          refine two_ (i := 16) (j := 18) (Ni := some 23) (Nj := some 25) #[true, true, true, true, true, true, true, true, true, true, true, true, true, true, true, true, true, true, false, false, false, false] #[true, true, true, true, true, true, true, true, true, true, true, true, true, true, true, true, false, true, true, false, false, false] rfl rfl rfl rfl (by kernel_rfl) (by decide) (by decide) (fun K hK => ?_) (fun K hK => ?_)
          · refine goes_ Try.func16 (by kernel_rfl) rfl #[.slice (some ⟨g21, 0, none⟩) 1 1, .slice none 0 0, .agg #[.slice none 0 0]] (by rfl) rfl rfl (by simp only [List.map_toArray, List.map_cons, List.map_nil]; rfl) ?_
            refine (expand_any _ (some ⟨g21, 0, none⟩) 1 [⟨[120], -1⟩] none 0 [] none 0 [] 1 (one33 HK21.out HK18.out) (Kd.C_nil _ _) (Nat.le_refl _) (Kd.C_nil _ _) (by decide) (by decide) (by decide)).mono ?_
            rintro e w10 ⟨v23, rfl, ho, hb2⟩
            refine ⟨_, rfl, ?_⟩
            obtain ⟨g23, c23, cs23, rfl, h23, hk23, h0⟩ := blk_of_own ho
            have HK23 := Aside0.mk hk23
            have HC23 := Aside0.mk (And.intro h0 h23)
            clear ho hk23 h0 h23
            replace HK18 := Aside0.mk (HK18.out.below hb2)
            replace HK24 := Aside0.mk (HK24.out.below hb2)
            replace HK21 := Aside0.mk (HK21.out.below hb2)
            replace HW := Aside0.mk (below_to HW.out hb2)
            refine hK.out _ _ (hHeld.below hb2) (fun hHeld2 => ?_)
            clear hHeld
            have hHeld := hHeld2
            clear hHeld2
            clear hK K
            refine norm_ (a' := ?_) ?_ ?_
            rotate_left
            · show Act.put _ (some 23) _ = _
              simp only [Act.put, List.setIfInBounds_toArray, List.set_cons_zero, List.set_cons_succ, i64_w, i32_w]
              rfl
            clear hb2
            refine one_ (i := 18) (N := some 25) #[true, true, true, true, true, true, true, true, true, true, true, true, true, true, true, true, true, true, true, false, false, false] rfl rfl (by kernel_rfl) (by decide) (fun K hK => ?_)
            obtain ⟨w11, hcv, hblk, hbel⟩ := conv8 HK24.out
            refine value_ (N := some 25) (v := .slice (some ⟨g24, 0, none⟩) 1 1) (w1 := w11) (by rfl) rfl (by go_simp) ?_
            clear hcv
            replace HK18 := Aside0.mk (hblk _ _ _ HK18.out)
            replace HK24 := Aside0.mk (hblk _ _ _ HK24.out)
            replace HK21 := Aside0.mk (hblk _ _ _ HK21.out)
            replace HK23 := Aside0.mk (hblk _ _ _ HK23.out)
            replace HW := Aside0.mk (HW.out.trans (hbel _ HG24.out))
            refine hK.out _ _ (hblk _ _ _ hHeld) (fun hHeld2 => ?_)
            clear hHeld
            have hHeld := hHeld2
            clear hHeld2
            clear hK K
            refine norm_ (a' := ?_) ?_ ?_
            rotate_left
            · show Act.put _ (some 25) _ = _
              simp only [Act.put, List.setIfInBounds_toArray, List.set_cons_zero, List.set_cons_succ, i64_w, i32_w]
              rfl
            clear hblk hbel
            refine one_ (i := 19) (N := some 26) #[true, true, true, true, true, true, true, true, true, true, true, true, true, true, true, true, true, true, true, true, false, false] rfl rfl (by kernel_rfl) (by decide) (fun K hK => ?_)
            refine goes_ Try.func15 (by kernel_rfl) rfl #[.slice (some ⟨g23, 0, none⟩) 1 c23, .slice (some ⟨g24, 0, none⟩) 1 1] (by rfl) rfl rfl (by simp only [List.map_toArray, List.map_cons, List.map_nil]; rfl) ?_
            refine (equalB_any _ _ _ [120] (rdK HK23.out HC23.out.1 HC23.out.2) (rdK HK24.out rfl (Nat.le_refl 1))).mono ?_
            rintro e w12 ⟨rfl, hb2⟩
            refine ⟨_, rfl, ?_⟩
            replace HW := Aside0.mk (below_to HW.out hb2)
            refine hK.out _ _ (hHeld.below hb2) (fun hHeld2 => ?_)
            clear hHeld
            have hHeld := hHeld2
            clear hHeld2
            clear hK K
            refine norm_ (a' := ?_) ?_ ?_
            rotate_left
            · show Act.put _ (some 26) _ = _
              simp only [Act.put, List.setIfInBounds_toArray, List.set_cons_zero, List.set_cons_succ, i64_w, i32_w]
              rfl
            clear hb2
            refine pure_ (i := 20) (N := some 27) (v := ?_) (a' := ?_) #[true, true, true, true, true, true, true, true, true, true, true, true, true, true, true, true, true, true, true, true, true, false] rfl rfl (by kernel_rfl) (fun _ _ _ h => h) (Or.inl ⟨by rfl, ?_⟩) ?_ ?_
            rotate_left
            · intro w'
              go_simp
              with_reducible rfl
            rotate_left
            · simp only [Act.put, List.setIfInBounds_toArray, List.set_cons_zero, List.set_cons_succ, i64_w, i32_w]
              rfl
            refine pure_ (i := 21) (N := some 6) (v := ?_) (a' := ?_) #[true, true, true, true, true, true, true, true, true, true, true, true, true, true, true, true, true, true, true, true, true, true] rfl rfl (by kernel_rfl) (fun _ _ _ h => h) (Or.inl ⟨by rfl, ?_⟩) ?_ ?_
            rotate_left
            · intro w'
              go_simp
              with_reducible rfl
            rotate_left
            · simp only [Act.put, List.setIfInBounds_toArray, List.set_cons_zero, List.set_cons_succ, i64_w, i32_w]
              rfl
            refine done_ (by kernel_rfl) ?_
            go_wp2
            go_ret
            exact ⟨rfl, HW.out⟩
          · obtain ⟨w10, hcv, hblk, hbel⟩ := conv8 HK24.out
            refine value_ (N := some 25) (v := .slice (some ⟨g24, 0, none⟩) 1 1) (w1 := w10) (by rfl) rfl (by go_simp) ?_
            clear hcv
            replace HK18 := Aside0.mk (hblk _ _ _ HK18.out)
            replace HK24 := Aside0.mk (hblk _ _ _ HK24.out)
            replace HK21 := Aside0.mk (hblk _ _ _ HK21.out)
            replace HW := Aside0.mk (HW.out.trans (hbel _ HG24.out))
            refine hK.out _ _ (hblk _ _ _ hHeld) (fun hHeld2 => ?_)
            clear hHeld
            have hHeld := hHeld2
            clear hHeld2
            clear hK K
            refine norm_ (a' := ?_) ?_ ?_
            rotate_left
            · show Act.put _ (some 25) _ = _
              simp only [Act.put, List.setIfInBounds_toArray, List.set_cons_zero, List.set_cons_succ, i64_w, i32_w]
              rfl
            clear hblk hbel
            refine one_ (i := 16) (N := some 23) #[true, true, true, true, true, true, true, true, true, true, true, true, true, true, true, true, true, true, true, false, false, false] rfl rfl (by kernel_rfl) (by decide) (fun K hK => ?_)
            refine goes_ Try.func16 (by kernel_rfl) rfl #[.slice (some ⟨g21, 0, none⟩) 1 1, .slice none 0 0, .agg #[.slice none 0 0]] (by rfl) rfl rfl (by simp only [List.map_toArray, List.map_cons, List.map_nil]; rfl) ?_
            refine (expand_any _ (some ⟨g21, 0, none⟩) 1 [⟨[120], -1⟩] none 0 [] none 0 [] 1 (one33 HK21.out HK18.out) (Kd.C_nil _ _) (Nat.le_refl _) (Kd.C_nil _ _) (by decide) (by decide) (by decide)).mono ?_
            rintro e w11 ⟨v23, rfl, ho, hb2⟩
            refine ⟨_, rfl, ?_⟩
            obtain ⟨g23, c23, cs23, rfl, h23, hk23, h0⟩ := blk_of_own ho
            have HK23 := Aside0.mk hk23
            have HC23 := Aside0.mk (And.intro h0 h23)
            clear ho hk23 h0 h23
            replace HK18 := Aside0.mk (HK18.out.below hb2)
            replace HK24 := Aside0.mk (HK24.out.below hb2)
            replace HK21 := Aside0.mk (HK21.out.below hb2)
            replace HW := Aside0.mk (below_to HW.out hb2)
            refine hK.out _ _ (hHeld.below hb2) (fun hHeld2 => ?_)
            clear hHeld
            have hHeld := hHeld2
            clear hHeld2
            clear hK K
            refine norm_ (a' := ?_) ?_ ?_
            rotate_left
            · show Act.put _ (some 23) _ = _
              simp only [Act.put, List.setIfInBounds_toArray, List.set_cons_zero, List.set_cons_succ, i64_w, i32_w]
              rfl
            clear hb2
            refine one_ (i := 19) (N := some 26) #[true, true, true, true, true, true, true, true, true, true, true, true, true, true, true, true, true, true, true, true, false, false] rfl rfl (by kernel_rfl) (by decide) (fun K hK => ?_)
            refine goes_ Try.func15 (by kernel_rfl) rfl #[.slice (some ⟨g23, 0, none⟩) 1 c23, .slice (some ⟨g24, 0, none⟩) 1 1] (by rfl) rfl rfl (by simp only [List.map_toArray, List.map_cons, List.map_nil]; rfl) ?_
            refine (equalB_any _ _ _ [120] (rdK HK23.out HC23.out.1 HC23.out.2) (rdK HK24.out rfl (Nat.le_refl 1))).mono ?_
            rintro e w12 ⟨rfl, hb2⟩
            refine ⟨_, rfl, ?_⟩
            replace HW := Aside0.mk (below_to HW.out hb2)
            refine hK.out _ _ (hHeld.below hb2) (fun hHeld2 => ?_)
            clear hHeld
            have hHeld := hHeld2
            clear hHeld2
            clear hK K
            refine norm_ (a' := ?_) ?_ ?_
            rotate_left
            · show Act.put _ (some 26) _ = _
              simp only [Act.put, List.setIfInBounds_toArray, List.set_cons_zero, List.set_cons_succ, i64_w, i32_w]
              rfl
            clear hb2
            refine pure_ (i := 20) (N := some 27) (v := ?_) (a' := ?_) #[true, true, true, true, true, true, true, true, true, true, true, true, true, true, true, true, true, true, true, true, true, false] rfl rfl (by kernel_rfl) (fun _ _ _ h => h) (Or.inl ⟨by rfl, ?_⟩) ?_ ?_
            rotate_left
            · intro w'
              go_simp
              with_reducible rfl
            rotate_left
            · simp only [Act.put, List.setIfInBounds_toArray, List.set_cons_zero, List.set_cons_succ, i64_w, i32_w]
              rfl
            refine pure_ (i := 21) (N := some 6) (v := ?_) (a' := ?_) #[true, true, true, true, true, true, true, true, true, true, true, true, true, true, true, true, true, true, true, true, true, true] rfl rfl (by kernel_rfl) (fun _ _ _ h => h) (Or.inl ⟨by rfl, ?_⟩) ?_ ?_
            rotate_left
            · intro w'
              go_simp
              with_reducible rfl
            rotate_left
            · simp only [Act.put, List.setIfInBounds_toArray, List.set_cons_zero, List.set_cons_succ, i64_w, i32_w]
              rfl
            refine done_ (by kernel_rfl) ?_
            go_wp2
            go_ret
            exact ⟨rfl, HW.out⟩
        · obtain ⟨w9, hcv, hblk, hbel⟩ := conv8 HK24.out
          refine value_ (N := some 25) (v := .slice (some ⟨g24, 0, none⟩) 1 1) (w1 := w9) (by rfl) rfl (by go_simp) ?_
          clear hcv
          replace HK18 := Aside0.mk (hblk _ _ _ HK18.out)
          replace HK24 := Aside0.mk (hblk _ _ _ HK24.out)
          replace HW := Aside0.mk (HW.out.trans (hbel _ HG24.out))
          refine hK.out _ _ (hblk _ _ _ hHeld) (fun hHeld2 => ?_)
          clear hHeld
          have hHeld := hHeld2
          clear hHeld2
          clear hK K
          refine norm_ (a' := ?_) ?_ ?_
          rotate_left
          · show Act.put _ (some 25) _ = _
            simp only [Act.put, List.setIfInBounds_toArray, List.set_cons_zero, List.set_cons_succ, i64_w, i32_w]
            rfl
          clear hblk hbel
          refine one_ (i := 14) (N := some 21) #[true, true, true, true, true, true, true, true, true, true, true, true, true, true, true, true, false, true, true, false, false, false] rfl rfl (by kernel_rfl) (by decide) (fun K hK => ?_)
          refine value_ (N := some 21) (v := .slice (some ⟨w9.heap.size, 0, none⟩) 1 1) (w1 := w9.alloc (.cells #[.slice (some ⟨g18, 0, none⟩) 1 1, .int .i64 (-1)] 33)) (by rfl) rfl (by go_simp) ?_
          have hb2 := below_alloc (Below.refl w9.heap.size w9) (.cells #[.slice (some ⟨g18, 0, none⟩) 1 1, .int .i64 (-1)] 33)
          have HG21 : Aside0 (w.heap.size ≤ w9.heap.size) := ⟨HW.out.size⟩
          replace HK18 := Aside0.mk (HK18.out.below hb2)
          replace HK24 := Aside0.mk (HK24.out.below hb2)
          replace HW := Aside0.mk (below_to HW.out hb2)
          have HK21 : Aside0 (Blk (w9.alloc (.cells #[.slice (some ⟨g18, 0, none⟩) 1 1, .int .i64 (-1)] 33)) w9.heap.size #[.slice (some ⟨g18, 0, none⟩) 1 1, .int .i64 (-1)] 33) := ⟨⟨_, heap_alloc_new _ _⟩⟩
          refine hK.out _ _ (hHeld.below hb2) (fun hHeld2 => ?_)
          clear hHeld
          have hHeld := hHeld2
          clear hHeld2
          clear hK K
          refine norm_ (a' := ?_) ?_ ?_
          rotate_left
          · show Act.put _ (some 21) _ = _
            simp only [Act.put, List.setIfInBounds_toArray, List.set_cons_zero, List.set_cons_succ, i64_w, i32_w]
            rfl
          clear hb2
          obtain ⟨g21, hg21⟩ : ∃ x, w9.heap.size = x := ⟨_, rfl⟩
          rw [hg21] at HK21 HG21 ⊢
          clear hg21
          obtain ⟨w10, hw10⟩ : ∃ x, w9.alloc (.cells #[.slice (some ⟨g18, 0, none⟩) 1 1, .int .i64 (-1)] 33) = x := ⟨_, rfl⟩
          rw [hw10] at hHeld HW HK18 HK24 HK21 ⊢
          clear hw10
          refine one_ (i := 16) (N := some 23) #[true, true, true, true, true, true, true, true, true, true, true, true, true, true, true, true, true, true, true, false, false, false] rfl rfl (by kernel_rfl) (by decide) (fun K hK => ?_)
          refine goes_ Try.func16 (by kernel_rfl) rfl #[.slice (some ⟨g21, 0, none⟩) 1 1, .slice none 0 0, .agg #[.slice none 0 0]] (by rfl) rfl rfl (by simp only [List.map_toArray, List.map_cons, List.map_nil]; rfl) ?_
          refine (expand_any _ (some ⟨g21, 0, none⟩) 1 [⟨[120], -1⟩] none 0 [] none 0 [] 1 (one33 HK21.out HK18.out) (Kd.C_nil _ _) (Nat.le_refl _) (Kd.C_nil _ _) (by decide) (by decide) (by decide)).mono ?_
          rintro e w11 ⟨v23, rfl, ho, hb2⟩
          refine ⟨_, rfl, ?_⟩
          obtain ⟨g23, c23, cs23, rfl, h23, hk23, h0⟩ := blk_of_own ho
          have HK23 := Aside0.mk hk23
          have HC23 := Aside0.mk (And.intro h0 h23)
          clear ho hk23 h0 h23
          replace HK18 := Aside0.mk (HK18.out.below hb2)
          replace HK24 := Aside0.mk (HK24.out.below hb2)
          replace HK21 := Aside0.mk (HK21.out.below hb2)
          replace HW := Aside0.mk (below_to HW.out hb2)
          refine hK.out _ _ (hHeld.below hb2) (fun hHeld2 => ?_)
          clear hHeld
          have hHeld := hHeld2
          clear hHeld2
          clear hK K
          refine norm_ (a' := ?_) ?_ ?_
          rotate_left
          · show Act.put _ (some 23) _ = _
            simp only [Act.put, List.setIfInBounds_toArray, List.set_cons_zero, List.set_cons_succ, i64_w, i32_w]
            rfl
          clear hb2
          refine one_ (i := 19) (N := some 26) #[true, true, true, true, true, true, true, true, true, true, true, true, true, true, true, true, true, true, true, true, false, false] rfl rfl (by kernel_rfl) (by decide) (fun K hK => ?_)
          refine goes_ Try.func15 (by kernel_rfl) rfl #[.slice (some ⟨g23, 0, none⟩) 1 c23, .slice (some ⟨g24, 0, none⟩) 1 1] (by rfl) rfl rfl (by simp only [List.map_toArray, List.map_cons, List.map_nil]; rfl) ?_
          refine (equalB_any _ _ _ [120] (rdK HK23.out HC23.out.1 HC23.out.2) (rdK HK24.out rfl (Nat.le_refl 1))).mono ?_
          rintro e w12 ⟨rfl, hb2⟩
          refine ⟨_, rfl, ?_⟩
          replace HW := Aside0.mk (below_to HW.out hb2)
          refine hK.out _ _ (hHeld.below hb2) (fun hHeld2 => ?_)
          clear hHeld
          have hHeld := hHeld2
          clear hHeld2
          clear hK K
          refine norm_ (a' := ?_) ?_ ?_
          rotate_left
          · show Act.put _ (some 26) _ = _
            simp only [Act.put, List.setIfInBounds_toArray, List.set_cons_zero, List.set_cons_succ, i64_w, i32_w]
            rfl
          clear hb2
          refine pure_ (i := 20) (N := some 27) (v := ?_) (a' := ?_) #[true, true, true, true, true, true, true, true, true, true, true, true, true, true, true, true, true, true, true, true, true, false] rfl rfl (by kernel_rfl) (fun _ _ _ h => h) (Or.inl ⟨by rfl, ?_⟩) ?_ ?_
          rotate_left
          · intro w'
            go_simp
            with_reducible rfl
          rotate_left
          · simp only [Act.put, List.setIfInBounds_toArray, List.set_cons_zero, List.set_cons_succ, i64_w, i32_w]
            rfl
          refine pure_ (i := 21) (N := some 6) (v := ?_) (a' := ?_) #[true, true, true, true, true, true, true, true, true, true, true, true, true, true, true, true, true, true, true, true, true, true] rfl rfl (by kernel_rfl) (fun _ _ _ h => h) (Or.inl ⟨by rfl, ?_⟩) ?_ ?_
          rotate_left
          · intro w'
            go_simp
            with_reducible rfl
          rotate_left
          · simp only [Act.put, List.setIfInBounds_toArray, List.set_cons_zero, List.set_cons_succ, i64_w, i32_w]
            rfl
          refine done_ (by kernel_rfl) ?_
          go_wp2
          go_ret
          exact ⟨rfl, HW.out⟩
    · refine value_ (N := some 24) (v := .slice (some ⟨w6.heap.size, 0, none⟩) 1 1) (w1 := w6.alloc (.cells #[.int .u8 120] 5)) (by rfl) rfl (by go_simp) ?_
      have hb2 := below_alloc (Below.refl w6.heap.size w6) (.cells #[.int .u8 120] 5)
      have HG24 : Aside0 (w.heap.size ≤ w6.heap.size) := ⟨HW.out.size⟩
      replace HK18 := Aside0.mk (HK18.out.below hb2)
      replace HW := Aside0.mk (below_to HW.out hb2)
      have HK24 : Aside0 (Blk (w6.alloc (.cells #[.int .u8 120] 5)) w6.heap.size #[.int .u8 120] 5) := ⟨⟨_, heap_alloc_new _ _⟩⟩
      refine hK.out _ _ (hHeld.below hb2) (fun hHeld2 => ?_)
      clear hHeld
      have hHeld := hHeld2
      clear hHeld2
      clear hK K
      refine norm_ (a' := ?_) ?_ ?_
      rotate_left
      · show Act.put _ (some 24) _ = _
        simp only [Act.put, List.setIfInBounds_toArray, List.set_cons_zero, List.set_cons_succ, i64_w, i32_w]
        rfl
      clear hb2
      obtain ⟨g24, hg24⟩ : ∃ x, w6.heap.size = x := ⟨_, rfl⟩
      rw [hg24] at HK24 HG24 ⊢
      clear hg24
      obtain ⟨w7, hw7⟩ : ∃ x, w6.alloc (.cells #[.int .u8 120] 5) = x := ⟨_, rfl⟩
      rw [hw7] at hHeld HW HK18 HK24 ⊢
      clear hw7
      refine two_ (i := 12) (j := 18) (Ni := some 19) (Nj := some 25) #[true, true, true, true, true, true, true, true, true, true, true, true, true, false, false, true, false, true, false, false, false, false] #[true, true, true, true, true, true, true, true, true, true, true, true, false, false, false, true, false, true, true, false, false, false] rfl rfl rfl rfl (by kernel_rfl) (by decide) (by decide) (fun K hK => ?_) (fun K hK => ?_)
      · obtain ⟨w8, hcv, hblk, hbel⟩ := conv8 HK18.out
        refine value_ (N := some 19) (v := .slice (some ⟨g18, 0, none⟩) 1 1) (w1 := w8) (by rfl) rfl (by go_simp) ?_
        clear hcv
        replace HK18 := Aside0.mk (hblk _ _ _ HK18.out)
        replace HK24 := Aside0.mk (hblk _ _ _ HK24.out)
        replace HW := Aside0.mk (HW.out.trans (hbel _ HG18.out))
        refine hK.out _ _ (hblk _ _ _ hHeld) (fun hHeld2 => ?_)
        clear hHeld
        have hHeld := hHeld2
        clear hHeld2
        clear hK K
        refine norm_ (a' := ?_) ?_ ?_
        rotate_left
        · show Act.put _ (some 19) _ = _
          simp only [Act.put, List.setIfInBounds_toArray, List.set_cons_zero, List.set_cons_succ, i64_w, i32_w]
          rfl
        clear hblk hbel
        refine pure_ (i := 13) (N := some 20) (v := ?_) (a' := ?_) #[true, true, true, true, true, true, true, true, true, true, true, true, true, true, false, true, false, true, false, false, false, false] rfl rfl (by kernel_rfl) (fun _ _ _ h => h) (Or.inl ⟨by rfl, ?_⟩) ?_ ?_
        rotate_left
        · intro w'
          go_simp
          with_reducible rfl
        rotate_left
        · simp only [Act.put, List.setIfInBounds_toArray, List.set_cons_zero, List.set_cons_succ, i64_w, i32_w]
          rfl
        refine two_ (i := 14) (j := 18) (Ni := some 21) (Nj := some 25) #[true, true, true, true, true, true, true, true, true, true, true, true, true, true, true, true, false, true, false, false, false, false] #[true, true, true, true, true, true, true, true, true, true, true, true, true, true, false, true, false, true, true, false, false, false] rfl rfl rfl rfl (by kernel_rfl) (by decide) (by decide) (fun K hK => ?_) (fun K hK => ?_)
        · refine value_ (N := some 21) (v := .slice (some ⟨w8.heap.size, 0, none⟩) 1 1) (w1 := w8.alloc (.cells #[.slice (some ⟨g18, 0, none⟩) 1 1, .int .i64 (-1)] 33)) (by rfl) rfl (by go_simp) ?_
          have hb2 := below_alloc (Below.refl w8.heap.size w8) (.cells #[.slice (some ⟨g18, 0, none⟩) 1 1, .int .i64 (-1)] 33)
          have HG21 : Aside0 (w.heap.size ≤ w8.heap.size) := ⟨HW.out.size⟩
          replace HK18 := Aside0.mk (HK18.out.below hb2)
          replace HK24 := Aside0.mk (HK24.out.below hb2)
          replace HW := Aside0.mk (below_to HW.out hb2)
          have HK21 : Aside0 (Blk (w8.alloc (.cells #[.slice (some ⟨g18, 0, none⟩) 1 1, .int .i64 (-1)] 33)) w8.heap.size #[.slice (some ⟨g18, 0, none⟩) 1 1, .int .i64 (-1)] 33) := ⟨⟨_, heap_alloc_new _ _⟩⟩
          refine hK.out _ _ (hHeld.below hb2) (fun hHeld2 => ?_)
          clear hHeld
          have hHeld := hHeld2
          clear hHeld2
          clear hK K
          refine norm_ (a' := ?_) ?_ ?_
          rotate_left
          · show Act.put _ (some 21) _ = _
            simp only [Act.put, List.setIfInBounds_toArray, List.set_cons_zero, List.set_cons_succ, i64_w, i32_w]
            rfl
          clear hb2
          obtain ⟨g21, hg21⟩ : ∃ x, w8.heap.size = x := ⟨_, rfl⟩
          rw [hg21] at HK21 HG21 ⊢
          clear hg21
          obtain ⟨w9, hw9⟩ : ∃ x, w8.alloc (.cells #[.slice (some ⟨g18, 0, none⟩) 1 1, .int .i64 (-1)] 33) = x := ⟨_, rfl⟩
          rw [hw9] at hHeld HW HK18 HK24 HK21 ⊢
          clear hw9
          refine two_ (i := 16) (j := 18) (Ni := some 23) (Nj := some 25) #[true, true, true, true, true, true, true, true, true, true, true, true, true, true, true, true, true, true, false, false, false, false] #[true, true, true, true, true, true, true, true, true, true, true, true, true, true, true, true, false, true, true, false, false, false] rfl rfl rfl rfl (by kernel_rfl) (by decide) (by decide) (fun K hK => ?_) (fun K hK => ?_)
          · refine goes_ Try.func16 (by kernel_rfl) rfl #[.slice (some ⟨g21, 0, none⟩) 1 1, .slice none 0 0, .agg #[.slice none 0 0]] (by rfl) rfl rfl (by simp only [List.map_toArray, List.map_cons, List.map_nil]; rfl) ?_
            refine (expand_any _ (some ⟨g21, 0, none⟩) 1 [⟨[120], -1⟩] none 0 [] none 0 [] 1 (one33 HK21.out HK18.out) (Kd.C_nil _ _) (Nat.le_refl _) (Kd.C_nil _ _) (by decide) (by decide) (by decide)).mono ?_
            rintro e w10 ⟨v23, rfl, ho, hb2⟩
            refine ⟨_, rfl, ?_⟩
            obtain ⟨g23, c23, cs23, rfl, h23, hk23, h0⟩ := blk_of_own ho
            have HK23 := Aside0.mk hk23
            have HC23 := Aside0.mk (And.intro h0 h23)
            clear ho hk23 h0 h23
            replace HK18 := Aside0.mk (HK18.out.below hb2)
            replace HK24 := Aside0.mk (HK24.out.below hb2)
            replace HK21 := Aside0.mk (HK21.out.below hb2)
            replace HW := Aside0.mk (below_to HW.out hb2)
            refine hK.out _ _ (hHeld.below hb2) (fun hHeld2 => ?_)
            clear hHeld
            have hHeld := hHeld2
            clear hHeld2
            clear hK K
            refine norm_ (a' := ?_) ?_ ?_
            rotate_left
            · show Act.put _ (some 23) _ = _
              simp only [Act.put, List.setIfInBounds_toArray, List.set_cons_zero, List.set_cons_succ, i64_w, i32_w]
              rfl
            clear hb2
            refine one_ (i := 18) (N := some 25) #[true, true, true, true, true, true, true, true, true, true, true, true, true, true, true, true, true, true, true, false, false, false] rfl rfl (by kernel_rfl) (by decide) (fun K hK => ?_)
            obtain ⟨w11, hcv, hblk, hbel⟩ := conv8 HK24.out
            refine value_ (N := some 25) (v := .slice (some ⟨g24, 0, none⟩) 1 1) (w1 := w11) (by rfl) rfl (by go_simp) ?_
            clear hcv
            replace HK18 := Aside0.mk (hblk _ _ _ HK18.out)
            replace HK24 := Aside0.mk (hblk _ _ _ HK24.out)
            replace HK21 := Aside0.mk (hblk _ _ _ HK21.out)
            replace HK23 := Aside0.mk (hblk _ _ _ HK23.out)
            replace HW := Aside0.mk (HW.out.trans (hbel _ HG24.out))
            refine hK.out _ _ (hblk _ _ _ hHeld) (fun hHeld2 => ?_)
            clear hHeld
            have hHeld := hHeld2
            clear hHeld2
            clear hK K
            refine norm_ (a' := ?_) ?_ ?_
            rotate_left
            · show Act.put _ (some 25) _ = _
              simp only [Act.put, List.setIfInBounds_toArray, List.set_cons_zero, List.set_cons_succ, i64_w, i32_w]
              rfl
            clear hblk hbel
            refine one_ (i := 19) (N := some 26) #[true, true, true, true, true, true, true, true, true, true, true, true, true, true, true, true, true, true, true, true, false, false] rfl rfl (by kernel_rfl) (by decide) (fun K hK => ?_)
            refine goes_ Try.func15 (by kernel_rfl) rfl #[.slice (some ⟨g23, 0, none⟩) 1 c23, .slice (some ⟨g24, 0, none⟩) 1 1] (by rfl) rfl rfl (by simp only [List.map_toArray, List.map_cons, List.map_nil]; rfl) ?_
            refine (equalB_any _ _ _ [120] (rdK HK23.out HC23.out.1 HC23.out.2) (rdK HK24.out rfl (Nat.le_refl 1))).mono ?_
            rintro e w12 ⟨rfl, hb2⟩
            refine ⟨_, rfl, ?_⟩
            replace HW := Aside0.mk (below_to HW.out hb2)
            refine hK.out _ _ (hHeld.below hb2) (fun hHeld2 => ?_)
            clear hHeld
            have hHeld := hHeld2
            clear hHeld2
            clear hK K
            refine norm_ (a' := ?_) ?_ ?_
            rotate_left
            · show Act.put _ (some 26) _ = _
              simp only [Act.put, List.setIfInBounds_toArray, List.set_cons_zero, List.set_cons_succ, i64_w, i32_w]
              rfl
            clear hb2
            refine pure_ (i := 20) (N := some 27) (v := ?_) (a' := ?_) #[true, true, true, true, true, true, true, true, true, true, true, true, true, true, true, true, true, true, true, true, true, false] rfl rfl (by kernel_rfl) (fun _ _ _ h => h) (Or.inl ⟨by rfl, ?_⟩) ?_ ?_
            rotate_left
            · intro w'
              go_simp
              with_reducible rfl
            rotate_left
            · simp only [Act.put, List.setIfInBounds_toArray, List.set_cons_zero, List.set_cons_succ, i64_w, i32_w]
              rfl
            refine pure_ (i := 21) (N := some 6) (v := ?_) (a' := ?_) #[true, true, true, true, true, true, true, true, true, true, true, true, true, true, true, true, true, true, true, true, true, true] rfl rfl (by kernel_rfl) (fun _ _ _ h => h) (Or.inl ⟨by rfl, ?_⟩) ?_ ?_
            rotate_left
            · intro w'
              go_simp
              with_reducible rfl
            rotate_left
            · simp only [Act.put, List.setIfInBounds_toArray, List.set_cons_zero, List.set_cons_succ, i64_w, i32_w]
              rfl
            refine done_ (by kernel_rfl) ?_
            go_wp2
            go_ret
            exact ⟨rfl, HW.out⟩
          · obtain ⟨w10, hcv, hblk, hbel⟩ := conv8 HK24.out
            refine value_ (N := some 25) (v := .slice (some ⟨g24, 0, none⟩) 1 1) (w1 := w10) (by rfl) rfl (by go_simp) ?_
            clear hcv
            replace HK18 := Aside0.mk (hblk _ _ _ HK18.out)
            replace HK24 := Aside0.mk (hblk _ _ _ HK24.out)
            replace HK21 := Aside0.mk (hblk _ _ _ HK21.out)
            replace HW := Aside0.mk (HW.out.trans (hbel _ HG24.out))
            refine hK.out _ _ (hblk _ _ _ hHeld) (fun hHeld2 => ?_)
            clear hHeld
            have hHeld := hHeld2
            clear hHeld2
            clear hK K
            refine norm_ (a' := ?_) ?_ ?_
            rotate_left
            · show Act.put _ (some 25) _ = _
              simp only [Act.put, List.setIfInBounds_toArray, List.set_cons_zero, List.set_cons_succ, i64_w, i32_w]
              rfl
            clear hblk hbel
            refine one_ (i := 16) (N := some 23) #[true, true, true, true, true, true, true, true, true, true, true, true, true, true, true, true, true, true, true, false, false, false] rfl rfl (by kernel_rfl) (by decide) (fun K hK => ?_)
            refine goes_ Try.func16 (by kernel_rfl) rfl #[.slice (some ⟨g21, 0, none⟩) 1 1, .slice none 0 0, .agg #[.slice none 0 0]] (by rfl) rfl rfl (by simp only [List.map_toArray, List.map_cons, List.map_nil]; rfl) ?_
            refine (expand_any _ (some ⟨g21, 0, none⟩) 1 [⟨[120], -1⟩] none 0 [] none 0 [] 1 (one33 HK21.out HK18.out) (Kd.C_nil _ _) (Nat.le_refl _) (Kd.C_nil _ _) (by decide) (by decide) (by decide)).mono ?_
            rintro e w11 ⟨v23, rfl, ho, hb2⟩
            refine ⟨_, rfl, ?_⟩
            obtain ⟨g23, c23, cs23, rfl, h23, hk23, h0⟩ := blk_of_own ho
            have HK23 := Aside0.mk hk23
            have HC23 := Aside0.mk (And.intro h0 h23)
            clear ho hk23 h0 h23
            replace HK18 := Aside0.mk (HK18.out.below hb2)
            replace HK24 := Aside0.mk (HK24.out.below hb2)
            replace HK21 := Aside0.mk (HK21.out.below hb2)
            replace HW := Aside0.mk (below_to HW.out hb2)
            refine hK.out _ _ (hHeld.below hb2) (fun hHeld2 => ?_)
            clear hHeld
            have hHeld := hHeld2
            clear hHeld2
            clear hK K
            refine norm_ (a' := ?_) ?_ ?_
            rotate_left
            · show Act.put _ (some 23) _ = _
              simp only [Act.put, List.setIfInBounds_toArray, List.set_cons_zero, List.set_cons_succ, i64_w, i32_w]
              rfl
            clear hb2
            refine one_ (i := 19) (N := some 26) #[true, true, true, true, true, true, true, true, true, true, true, true, true, true, true, true, true, true, true, true, false, false] rfl rfl (by kernel_rfl) (by decide) (fun K hK => ?_)
            refine goes_ Try.func15 (by kernel_rfl) rfl #[.slice (some ⟨g23, 0, none⟩) 1 c23, .slice (some ⟨g24, 0, none⟩) 1 1] (by rfl) rfl rfl (by simp only [List.map_toArray, List.map_cons, List.map_nil]; rfl) ?_
            refine (equalB_any _ _ _ [120] (rdK HK23.out HC23.out.1 HC23.out.2) (rdK HK24.out rfl (Nat.le_refl 1))).mono ?_
            rintro e w12 ⟨rfl, hb2⟩
            refine ⟨_, rfl, ?_⟩
            replace HW := Aside0.mk (below_to HW.out hb2)
            refine hK.out _ _ (hHeld.below hb2) (fun hHeld2 => ?_)
            clear hHeld
            have hHeld := hHeld2
            clear hHeld2
            clear hK K
            refine norm_ (a' := ?_) ?_ ?_
            rotate_left
            · show Act.put _ (some 26) _ = _
              simp only [Act.put, List.setIfInBounds_toArray, List.set_cons_zero, List.set_cons_succ, i64_w, i32_w]
              rfl
            clear hb2
            refine pure_ (i := 20) (N := some 27) (v := ?_) (a' := ?_) #[true, true, true, true, true, true, true, true, true, true, true, true, true, true, true, true, true, true, true, true, true, false] rfl rfl (by kernel_rfl) (fun _ _ _ h => h) (Or.inl ⟨by rfl, ?_⟩) ?_ ?_
            rotate_left
            · intro w'
              go_simp
              with_reducible rfl
            rotate_left
            · simp only [Act.put, List.setIfInBounds_toArray, List.set_cons_zero, List.set_cons_succ, i64_w, i32_w]
              rfl
            refine pure_ (i := 21) (N := some 6) (v := ?_) (a' := ?_) #[true, true, true, true, true, true, true, true, true, true, true, true, true, true, true, true, true, true, true, true, true, true] rfl rfl (by kernel_rfl) (fun _ _ _ h => h) (Or.inl ⟨by rfl, ?_⟩) ?_ ?_
            rotate_left
            · intro w'
              go_simp
              with_reducible rfl
            rotate_left
            · simp only [Act.put, List.setIfInBounds_toArray, List.set_cons_zero, List.set_cons_succ, i64_w, i32_w]
              rfl
            refine done_ (by kernel_rfl) ?_
            go_wp2
            go_ret
            exact ⟨rfl, HW.out⟩
        · obtain ⟨w9, hcv, hblk, hbel⟩ := conv8 HK24.out
          refine value_ (N := some 25) (v := .slice (some ⟨g24, 0, none⟩) 1 1) (w1 := w9) (by rfl) rfl (by go_simp) ?_
          clear hcv
          replace HK18 := Aside0.mk (hblk _ _ _ HK18.out)
          replace HK24 := Aside0.mk (hblk _ _ _ HK24.out)
          replace HW := Aside0.mk (HW.out.trans (hbel _ HG24.out))
          refine hK.out _ _ (hblk _ _ _ hHeld) (fun hHeld2 => ?_)
          clear hHeld
          have hHeld := hHeld2
          clear hHeld2
          clear hK K
          refine norm_ (a' := ?_) ?_ ?_
          rotate_left
          · show Act.put _ (some 25) _ = _
            simp only [Act.put, List.setIfInBounds_toArray, List.set_cons_zero, List.set_cons_succ, i64_w, i32_w]
            rfl
          clear hblk hbel
          refine one_ (i := 14) (N := some 21) #[true, true, true, true, true, true, true, true, true, true, true, true, true, true, true, true, false, true, true, false, false, false] rfl rfl (by kernel_rfl) (by decide) (fun K hK => ?_)
          refine value_ (N := some 21) (v := .slice (some ⟨w9.heap.size, 0, none⟩) 1 1) (w1 := w9.alloc (.cells #[.slice (some ⟨g18, 0, none⟩) 1 1, .int .i64 (-1)] 33)) (by rfl) rfl (by go_simp) ?_
          have hb2 := below_alloc (Below.refl w9.heap.size w9) (.cells #[.slice (some ⟨g18, 0, none⟩) 1 1, .int .i64 (-1)] 33)
          have HG21 : Aside0 (w.heap.size ≤ w9.heap.size) := ⟨HW.out.size⟩
          replace HK18 := Aside0.mk (HK18.out.below hb2)
          replace HK24 := Aside0.mk (HK24.out.below hb2)
          replace HW := Aside0.mk (below_to HW.out hb2)
          have HK21 : Aside0 (Blk (w9.alloc (.cells #[.slice (some ⟨g18, 0, none⟩) 1 1, .int .i64 (-1)] 33)) w9.heap.size #[.slice (some ⟨g18, 0, none⟩) 1 1, .int .i64 (-1)] 33) := ⟨⟨_, heap_alloc_new _ _⟩⟩
          refine hK.out _ _ (hHeld.below hb2) (fun hHeld2 => ?_)
          clear hHeld
          have hHeld := hHeld2
          clear hHeld2
          clear hK K
          refine norm_ (a' := ?_) ?_ ?_
          rotate_left
          · show Act.put _ (some 21) _ = _
            simp only [Act.put, List.setIfInBounds_toArray, List.set_cons_zero, List.set_cons_succ, i64_w, i32_w]
            rfl
          clear hb2
          obtain ⟨g21, hg21⟩ : ∃ x, w9.heap.size = x := ⟨_, rfl⟩
          rw [hg21] at HK21 HG21 ⊢
          clear hg21
          obtain ⟨w10, hw10⟩ : ∃ x, w9.alloc (.cells #[.slice (some ⟨g18, 0, none⟩) 1 1, .int .i64 (-1)] 33) = x := ⟨_, rfl⟩
          rw [hw10] at hHeld HW HK18 HK24 HK21 ⊢
          clear hw10
          refine one_ (i := 16) (N := some 23) #[true, true, true, true, true, true, true, true, true, true, true, true, true, true, true, true, true, true, true, false, false, false] rfl rfl (by kernel_rfl) (by decide) (fun K hK => ?_)
          refine goes_ Try.func16 (by kernel_rfl) rfl #[.slice (some ⟨g21, 0, none⟩) 1 1, .slice none 0 0, .agg #[.slice none 0 0]] (by rfl) rfl rfl (by simp only [List.map_toArray, List.map_cons, List.map_nil]; rfl) ?_
          refine (expand_any _ (some ⟨g21, 0, none⟩) 1 [⟨[120], -1⟩] none 0 [] none 0 [] 1 (one33 HK21.out HK18.out) (Kd.C_nil _ _) (Nat.le_refl _) (Kd.C_nil _ _) (by decide) (by decide) (by decide)).mono ?_
          rintro e w11 ⟨v23, rfl, ho, hb2⟩
          refine ⟨_, rfl, ?_⟩
          obtain ⟨g23, c23, cs23, rfl, h23, hk23, h0⟩ := blk_of_own ho
          have HK23 := Aside0.mk hk23
          have HC23 := Aside0.mk (And.intro h0 h23)
          clear ho hk23 h0 h23
          replace HK18 := Aside0.mk (HK18.out.below hb2)
          replace HK24 := Aside0.mk (HK24.out.below hb2)
          replace HK21 := Aside0.mk (HK21.out.below hb2)
          replace HW := Aside0.mk (below_to HW.out hb2)
          refine hK.out _ _ (hHeld.below hb2) (fun hHeld2 => ?_)
          clear hHeld
          have hHeld := hHeld2
          clear hHeld2
          clear hK K
          refine norm_ (a' := ?_) ?_ ?_
          rotate_left
          · show Act.put _ (some 23) _ = _
            simp only [Act.put, List.setIfInBounds_toArray, List.set_cons_zero, List.set_cons_succ, i64_w, i32_w]
            rfl
          clear hb2
          refine one_ (i := 19) (N := some 26) #[true, true, true, true, true, true, true, true, true, true, true, true, true, true, true, true, true, true, true, true, false, false] rfl rfl (by kernel_rfl) (by decide) (fun K hK => ?_)
          refine goes_ Try.func15 (by kernel_rfl) rfl #[.slice (some ⟨g23, 0, none⟩) 1 c23, .slice (some ⟨g24, 0, none⟩) 1 1] (by rfl) rfl rfl (by simp only [List.map_toArray, List.map_cons, List.map_nil]; rfl) ?_
          refine (equalB_any _ _ _ [120] (rdK HK23.out HC23.out.1 HC23.out.2) (rdK HK24.out rfl (Nat.le_refl 1))).mono ?_
          rintro e w12 ⟨rfl, hb2⟩
          refine ⟨_, rfl, ?_⟩
          replace HW := Aside0.mk (below_to HW.out hb2)
          refine hK.out _ _ (hHeld.below hb2) (fun hHeld2 => ?_)
          clear hHeld
          have hHeld := hHeld2
          clear hHeld2
          clear hK K
          refine norm_ (a' := ?_) ?_ ?_
          rotate_left
          · show Act.put _ (some 26) _ = _
            simp only [Act.put, List.setIfInBounds_toArray, List.set_cons_zero, List.set_cons_succ, i64_w, i32_w]
            rfl
          clear hb2
          refine pure_ (i := 20) (N := some 27) (v := ?_) (a' := ?_) #[true, true, true, true, true, true, true, true, true, true, true, true, true, true, true, true, true, true, true, true, true, false] rfl rfl (by kernel_rfl) (fun _ _ _ h => h) (Or.inl ⟨by rfl, ?_⟩) ?_ ?_
          rotate_left
          · intro w'
            go_simp
            with_reducible rfl
          rotate_left
          · simp only [Act.put, List.setIfInBounds_toArray, List.set_cons_zero, List.set_cons_succ, i64_w, i32_w]
            rfl
          refine pure_ (i := 21) (N := some 6) (v := ?_) (a' := ?_) #[true, true, true, true, true, true, true, true, true, true, true, true, true, true, true, true, true, true, true, true, true, true] rfl rfl (by kernel_rfl) (fun _ _ _ h => h) (Or.inl ⟨by rfl, ?_⟩) ?_ ?_
          rotate_left
          · intro w'
            go_simp
            with_reducible rfl
          rotate_left
          · simp only [Act.put, List.setIfInBounds_toArray, List.set_cons_zero, List.set_cons_succ, i64_w, i32_w]
            rfl
          refine done_ (by kernel_rfl) ?_
          go_wp2
          go_ret
          exact ⟨rfl, HW.out⟩
      · obtain ⟨w8, hcv, hblk, hbel⟩ := conv8 HK24.out
        refine value_ (N := some 25) (v := .slice (some ⟨g24, 0, none⟩) 1 1) (w1 := w8) (by rfl) rfl (by go_simp) ?_
        clear hcv
        replace HK18 := Aside0.mk (hblk _ _ _ HK18.out)
        replace HK24 := Aside0.mk (hblk _ _ _ HK24.out)
        replace HW := Aside0.mk (HW.out.trans (hbel _ HG24.out))
        refine hK.out _ _ (hblk _ _ _ hHeld) (fun hHeld2 => ?_)
        clear hHeld
        have hHeld := hHeld2
        clear hHeld2
        clear hK K
        refine norm_ (a' := ?_) ?_ ?_
        rotate_left
        · show Act.put _ (some 25) _ = _
          simp only [Act.put, List.setIfInBounds_toArray, List.set_cons_zero, List.set_cons_succ, i64_w, i32_w]
          rfl
        clear hblk hbel
        refine one_ (i := 12) (N := some 19) #[true, true, true, true, true, true, true, true, true, true, true, true, true, false, false, true, false, true, true, false, false, false] rfl rfl (by kernel_rfl) (by decide) (fun K hK => ?_)
        obtain ⟨w9, hcv, hblk, hbel⟩ := conv8 HK18.out
        refine value_ (N := some 19) (v := .slice (some ⟨g18, 0, none⟩) 1 1) (w1 := w9) (by rfl) rfl (by go_simp) ?_
        clear hcv
        replace HK18 := Aside0.mk (hblk _ _ _ HK18.out)
        replace HK24 := Aside0.mk (hblk _ _ _ HK24.out)
        replace HW := Aside0.mk (HW.out.trans (hbel _ HG18.out))
        refine hK.out _ _ (hblk _ _ _ hHeld) (fun hHeld2 => ?_)
        clear hHeld
        have hHeld := hHeld2
        clear hHeld2
        clear hK K
        refine norm_ (a' := ?_) ?_ ?_
        rotate_left
        · show Act.put _ (some 19) _ = _
          simp only [Act.put, List.setIfInBounds_toArray, List.set_cons_zero, List.set_cons_succ, i64_w, i32_w]
          rfl
        clear hblk hbel
        refine pure_ (i := 13) (N := some 20) (v := ?_) (a' := ?_) #[true, true, true, true, true, true, true, true, true, true, true, true, true, true, false, true, false, true, true, false, false, false] rfl rfl (by kernel_rfl) (fun _ _ _ h => h) (Or.inl ⟨by rfl, ?_⟩) ?_ ?_
        rotate_left
        · intro w'
          go_simp
          with_reducible rfl
        rotate_left
        · simp only [Act.put, List.setIfInBounds_toArray, List.set_cons_zero, List.set_cons_succ, i64_w, i32_w]
          rfl
        refine one_ (i := 14) (N := some 21) #[true, true, true, true, true, true, true, true, true, true, true, true, true, true, true, true, false, true, true, false, false, false] rfl rfl (by kernel_rfl) (by decide) (fun K hK => ?_)
        refine value_ (N := some 21) (v := .slice (some ⟨w9.heap.size, 0, none⟩) 1 1) (w1 := w9.alloc (.cells #[.slice (some ⟨g18, 0, none⟩) 1 1, .int .i64 (-1)] 33)) (by rfl) rfl (by go_simp) ?_
        have hb2 := below_alloc (Below.refl w9.heap.size w9) (.cells #[.slice (some ⟨g18, 0, none⟩) 1 1, .int .i64 (-1)] 33)
        have HG21 : Aside0 (w.heap.size ≤ w9.heap.size) := ⟨HW.out.size⟩
        replace HK18 := Aside0.mk (HK18.out.below hb2)
        replace HK24 := Aside0.mk (HK24.out.below hb2)
        replace HW := Aside0.mk (below_to HW.out hb2)
        have HK21 : Aside0 (Blk (w9.alloc (.cells #[.slice (some ⟨g18, 0, none⟩) 1 1, .int .i64 (-1)] 33)) w9.heap.size #[.slice (some ⟨g18, 0, none⟩) 1 1, .int .i64 (-1)] 33) := ⟨⟨_, heap_alloc_new _ _⟩⟩
        refine hK.out _ _ (hHeld.below hb2) (fun hHeld2 => ?_)
        clear hHeld
        have hHeld := hHeld2
        clear hHeld2
        clear hK K
        refine norm_ (a' := ?_) ?_ ?_
        rotate_left
        · show Act.put _ (some 21) _ = _
          simp only [Act.put, List.setIfInBounds_toArray, List.set_cons_zero, List.set_cons_succ, i64_w, i32_w]
          rfl
        clear hb2
        obtain ⟨g21, hg21⟩ : ∃ x, w9.heap.size = x := ⟨_, rfl⟩
        rw [hg21] at HK21 HG21 ⊢
        clear hg21
        obtain ⟨w10, hw10⟩ : ∃ x, w9.alloc (.cells #[.slice (some ⟨g18, 0, none⟩) 1 1, .int .i64 (-1)] 33) = x := ⟨_, rfl⟩
        rw [hw10] at hHeld HW HK18 HK24 HK21 ⊢
        clear hw10
        refine one_ (i := 16) (N := some 23) #[true, true, true, true, true, true, true, true, true, true, true, true, true, true, true, true, true, true, true, false, false, false] rfl rfl (by kernel_rfl) (by decide) (fun K hK => ?_)
        refine goes_ Try.func16 (by kernel_rfl) rfl #[.slice (some ⟨g21, 0, none⟩) 1 1, .slice none 0 0, .agg #[.slice none 0 0]] (by rfl) rfl rfl (by simp only [List.map_toArray, List.map_cons, List.map_nil]; rfl) ?_
        refine (expand_any _ (some ⟨g21, 0, none⟩) 1 [⟨[120], -1⟩] none 0 [] none 0 [] 1 (one33 HK21.out HK18.out) (Kd.C_nil _ _) (Nat.le_refl _) (Kd.C_nil _ _) (by decide) (by decide) (by decide)).mono ?_
        rintro e w11 ⟨v23, rfl, ho, hb2⟩
        refine ⟨_, rfl, ?_⟩
        obtain ⟨g23, c23, cs23, rfl, h23, hk23, h0⟩ := blk_of_own ho
        have HK23 := Aside0.mk hk23
        have HC23 := Aside0.mk (And.intro h0 h23)
        clear ho hk23 h0 h23
        replace HK18 := Aside0.mk (HK18.out.below hb2)
        replace HK24 := Aside0.mk (HK24.out.below hb2)
        replace HK21 := Aside0.mk (HK21.out.below hb2)
        replace HW := Aside0.mk (below_to HW.out hb2)
        refine hK.out _ _ (hHeld.below hb2) (fun hHeld2 => ?_)
        clear hHeld
        have hHeld := hHeld2
        clear hHeld2
        clear hK K
        refine norm_ (a' := ?_) ?_ ?_
        rotate_left
        · show Act.put _ (some 23) _ = _
          simp only [Act.put, List.setIfInBounds_toArray, List.set_cons_zero, List.set_cons_succ, i64_w, i32_w]
          rfl
        clear hb2
        refine one_ (i := 19) (N := some 26) #[true, true, true, true, true, true, true, true, true, true, true, true, true, true, true, true, true, true, true, true, false, false] rfl rfl (by kernel_rfl) (by decide) (fun K hK => ?_)
        refine goes_ Try.func15 (by kernel_rfl) rfl #[.slice (some ⟨g23, 0, none⟩) 1 c23, .slice (some ⟨g24, 0, none⟩) 1 1] (by rfl) rfl rfl (by simp only [List.map_toArray, List.map_cons, List.map_nil]; rfl) ?_
        refine (equalB_any _ _ _ [120] (rdK HK23.out HC23.out.1 HC23.out.2) (rdK HK24.out rfl (Nat.le_refl 1))).mono ?_
        rintro e w12 ⟨rfl, hb2⟩
        refine ⟨_, rfl, ?_⟩
        replace HW := Aside0.mk (below_to HW.out hb2)
        refine hK.out _ _ (hHeld.below hb2) (fun hHeld2 => ?_)
        clear hHeld
        have hHeld := hHeld2
        clear hHeld2
        clear hK K
        refine norm_ (a' := ?_) ?_ ?_
        rotate_left
        · show Act.put _ (some 26) _ = _
          simp only [Act.put, List.setIfInBounds_toArray, List.set_cons_zero, List.set_cons_succ, i64_w, i32_w]
          rfl
        clear hb2
        refine pure_ (i := 20) (N := some 27) (v := ?_) (a' := ?_) #[true, true, true, true, true, true, true, true, true, true, true, true, true, true, true, true, true, true, true, true, true, false] rfl rfl (by kernel_rfl) (fun _ _ _ h => h) (Or.inl ⟨by rfl, ?_⟩) ?_ ?_
        rotate_left
        · intro w'
          go_simp
          with_reducible rfl
        rotate_left
        · simp only [Act.put, List.setIfInBounds_toArray, List.set_cons_zero, List.set_cons_succ, i64_w, i32_w]
          rfl
        refine pure_ (i := 21) (N := some 6) (v := ?_) (a' := ?_) #[true, true, true, true, true, true, true, true, true, true, true, true, true, true, true, true, true, true, true, true, true, true] rfl rfl (by kernel_rfl) (fun _ _ _ h => h) (Or.inl ⟨by rfl, ?_⟩) ?_ ?_
        rotate_left
        · intro w'
          go_simp
          with_reducible rfl
        rotate_left
        · simp only [Act.put, List.setIfInBounds_toArray, List.set_cons_zero, List.set_cons_succ, i64_w, i32_w]
          rfl
        refine done_ (by kernel_rfl) ?_
        go_wp2
        go_ret
        exact ⟨rfl, HW.out⟩
  · refine value_ (N := some 24) (v := .slice (some ⟨w5.heap.size, 0, none⟩) 1 1) (w1 := w5.alloc (.cells #[.int .u8 120] 5)) (by rfl) rfl (by go_simp) ?_
    have hb2 := below_alloc (Below.refl w5.heap.size w5) (.cells #[.int .u8 120] 5)
    have HG24 : Aside0 (w.heap.size ≤ w5.heap.size) := ⟨HW.out.size⟩
    replace HW := Aside0.mk (below_to HW.out hb2)
    have HK24 : Aside0 (Blk (w5.alloc (.cells #[.int .u8 120] 5)) w5.heap.size #[.int .u8 120] 5) := ⟨⟨_, heap_alloc_new _ _⟩⟩
    refine hK.out _ _ (hHeld.below hb2) (fun hHeld2 => ?_)
    clear hHeld
    have hHeld := hHeld2
    clear hHeld2
    clear hK K
    refine norm_ (a' := ?_) ?_ ?_
    rotate_left
    · show Act.put _ (some 24) _ = _
      simp only [Act.put, List.setIfInBounds_toArray, List.set_cons_zero, List.set_cons_succ, i64_w, i32_w]
      rfl
    clear hb2
    obtain ⟨g24, hg24⟩ : ∃ x, w5.heap.size = x := ⟨_, rfl⟩
    rw [hg24] at HK24 HG24 ⊢
    clear hg24
    obtain ⟨w6, hw6⟩ : ∃ x, w5.alloc (.cells #[.int .u8 120] 5) = x := ⟨_, rfl⟩
    rw [hw6] at hHeld HW HK24 ⊢
    clear hw6
    refine two_ (i := 11) (j := 18) (Ni := some 18) (Nj := some 25) #[true, true, true, true, true, true, true, true, true, true, true, true, false, false, false, true, false, true, false, false, false, false] #[true, true, true, true, true, true, true, true, true, true, true, false, false, false, false, true, false, true, true, false, false, false] rfl rfl rfl rfl (by kernel_rfl) (by decide) (by decide) (fun K hK => ?_) (fun K hK => ?_)
    · refine value_ (N := some 18) (v := .slice (some ⟨w6.heap.size, 0, none⟩) 1 1) (w1 := w6.alloc (.cells #[.int .u8 120] 5)) (by rfl) rfl (by go_simp) ?_
      have hb2 := below_alloc (Below.refl w6.heap.size w6) (.cells #[.int .u8 120] 5)
      have HG18 : Aside0 (w.heap.size ≤ w6.heap.size) := ⟨HW.out.size⟩
      replace HK24 := Aside0.mk (HK24.out.below hb2)
      replace HW := Aside0.mk (below_to HW.out hb2)
      have HK18 : Aside0 (Blk (w6.alloc (.cells #[.int .u8 120] 5)) w6.heap.size #[.int .u8 120] 5) := ⟨⟨_, heap_alloc_new _ _⟩⟩
      refine hK.out _ _ (hHeld.below hb2) (fun hHeld2 => ?_)
      clear hHeld
      have hHeld := hHeld2
      clear hHeld2
      clear hK K
      refine norm_ (a' := ?_) ?_ ?_
      rotate_left
      · show Act.put _ (some 18) _ = _
        simp only [Act.put, List.setIfInBounds_toArray, List.set_cons_zero, List.set_cons_succ, i64_w, i32_w]
        rfl
      clear hb2
      obtain ⟨g18, hg18⟩ : ∃ x, w6.heap.size = x := ⟨_, rfl⟩
      rw [hg18] at HK18 HG18 ⊢
      clear hg18
      obtain ⟨w7, hw7⟩ : ∃ x, w6.alloc (.cells #[.int .u8 120] 5) = x := ⟨_, rfl⟩
      rw [hw7] at hHeld HW HK24 HK18 ⊢
      clear hw7
      refine two_ (i := 12) (j := 18) (Ni := some 19) (Nj := some 25) #[true, true, true, true, true, true, true, true, true, true, true, true, true, false, false, true, false, true, false, false, false, false] #[true, true, true, true, true, true, true, true, true, true, true, true, false, false, false, true, false, true, true, false, false, false] rfl rfl rfl rfl (by kernel_rfl) (by decide) (by decide) (fun K hK => ?_) (fun K hK => ?_)
      · obtain ⟨w8, hcv, hblk, hbel⟩ := conv8 HK18.out
        refine value_ (N := some 19) (v := .slice (some ⟨g18, 0, none⟩) 1 1) (w1 := w8) (by rfl) rfl (by go_simp) ?_
        clear hcv
        replace HK24 := Aside0.mk (hblk _ _ _ HK24.out)
        replace HK18 := Aside0.mk (hblk _ _ _ HK18.out)
        replace HW := Aside0.mk (HW.out.trans (hbel _ HG18.out))
        refine hK.out _ _ (hblk _ _ _ hHeld) (fun hHeld2 => ?_)
        clear hHeld
        have hHeld := hHeld2
        clear hHeld2
        clear hK K
        refine norm_ (a' := ?_) ?_ ?_
        rotate_left
        · show Act.put _ (some 19) _ = _
          simp only [Act.put, List.setIfInBounds_toArray, List.set_cons_zero, List.set_cons_succ, i64_w, i32_w]
          rfl
        clear hblk hbel
        refine pure_ (i := 13) (N := some 20) (v := ?_) (a' := ?_) #[true, true, true, true, true, true, true, true, true, true, true, true, true, true, false, true, false, true, false, false, false, false] rfl rfl (by kernel_rfl) (fun _ _ _ h => h) (Or.inl ⟨by rfl, ?_⟩) ?_ ?_
        rotate_left
        · intro w'
          go_simp
          with_reducible rfl
        rotate_left
        · simp only [Act.put, List.setIfInBounds_toArray, List.set_cons_zero, List.set_cons_succ, i64_w, i32_w]
          rfl
        refine two_ (i := 14) (j := 18) (Ni := some 21) (Nj := some 25) #[true, true, true, true, true, true, true, true, true, true, true, true, true, true, true, true, false, true, false, false, false, false] #[true, true, true, true, true, true, true, true, true, true, true, true, true, true, false, true, false, true, true, false, false, false] rfl rfl rfl rfl (by kernel_rfl) (by decide) (by decide) (fun K hK => ?_) (fun K hK => ?_)
        · refine value_ (N := some 21) (v := .slice (some ⟨w8.heap.size, 0, none⟩) 1 1) (w1 := w8.alloc (.cells #[.slice (some ⟨g18, 0, none⟩) 1 1, .int .i64 (-1)] 33)) (by rfl) rfl (by go_simp) ?_
          have hb2 := below_alloc (Below.refl w8.heap.size w8) (.cells #[.slice (some ⟨g18, 0, none⟩) 1 1, .int .i64 (-1)] 33)
          have HG21 : Aside0 (w.heap.size ≤ w8.heap.size) := ⟨HW.out.size⟩
          replace HK24 := Aside0.mk (HK24.out.below hb2)
          replace HK18 := Aside0.mk (HK18.out.below hb2)
          replace HW := Aside0.mk (below_to HW.out hb2)
          have HK21 : Aside0 (Blk (w8.alloc (.cells #[.slice (some ⟨g18, 0, none⟩) 1 1, .int .i64 (-1)] 33)) w8.heap.size #[.slice (some ⟨g18, 0, none⟩) 1 1, .int .i64 (-1)] 33) := ⟨⟨_, heap_alloc_new _ _⟩⟩
          refine hK.out _ _ (hHeld.below hb2) (fun hHeld2 => ?_)
          clear hHeld
          have hHeld := hHeld2
          clear hHeld2
          clear hK K
          refine norm_ (a' := ?_) ?_ ?_
          rotate_left
          · show Act.put _ (some 21) _ = _
            simp only [Act.put, List.setIfInBounds_toArray, List.set_cons_zero, List.set_cons_succ, i64_w, i32_w]
            rfl
          clear hb2
          obtain ⟨g21, hg21⟩ : ∃ x, w8.heap.size = x := ⟨_, rfl⟩
          rw [hg21] at HK21 HG21 ⊢
          clear hg21
          obtain ⟨w9, hw9⟩ : ∃ x, w8.alloc (.cells #[.slice (some ⟨g18, 0, none⟩) 1 1, .int .i64 (-1)] 33) = x := ⟨_, rfl⟩
          rw [hw9] at hHeld HW HK24 HK18 HK21 ⊢
          clear hw9
          refine two_ (i := 16) (j := 18) (Ni := some 23) (Nj := some 25) #[true, true, true, true, true, true, true, true, true, true, true, true, true, true, true, true, true, true, false, false, false, false] #[true, true, true, true, true, true, true, true, true, true, true, true, true, true, true, true, false, true, true, false, false, false] rfl rfl rfl rfl (by kernel_rfl) (by decide) (by decide) (fun K hK => ?_) (fun K hK => ?_)
          · refine goes_ Try.func16 (by kernel_rfl) rfl #[.slice (some ⟨g21, 0, none⟩) 1 1, .slice none 0 0, .agg #[.slice none 0 0]] (by rfl) rfl rfl (by simp only [List.map_toArray, List.map_cons, List.map_nil]; rfl) ?_
            refine (expand_any _ (some ⟨g21, 0, none⟩) 1 [⟨[120], -1⟩] none 0 [] none 0 [] 1 (one33 HK21.out HK18.out) (Kd.C_nil _ _) (Nat.le_refl _) (Kd.C_nil _ _) (by decide) (by decide) (by decide)).mono ?_
            rintro e w10 ⟨v23, rfl, ho, hb2⟩
            refine ⟨_, rfl, ?_⟩
            obtain ⟨g23, c23, cs23, rfl, h23, hk23, h0⟩ := blk_of_own ho
            have HK23 := Aside0.mk hk23
            have HC23 := Aside0.mk (And.intro h0 h23)
            clear ho hk23 h0 h23
            replace HK24 := Aside0.mk (HK24.out.below hb2)
            replace HK18 := Aside0.mk (HK18.out.below hb2)
            replace HK21 := Aside0.mk (HK21.out.below hb2)
            replace HW := Aside0.mk (below_to HW.out hb2)
            refine hK.out _ _ (hHeld.below hb2) (fun hHeld2 => ?_)
            clear hHeld
            have hHeld := hHeld2
            clear hHeld2
            clear hK K
            refine norm_ (a' := ?_) ?_ ?_
            rotate_left
            · show Act.put _ (some 23) _ = _
              simp only [Act.put, List.setIfInBounds_toArray, List.set_cons_zero, List.set_cons_succ, i64_w, i32_w]
              rfl
            clear hb2
            refine one_ (i := 18) (N := some 25) #[true, true, true, true, true, true, true, true, true, true, true, true, true, true, true, true, true, true, true, false, false, false] rfl rfl (by kernel_rfl) (by decide) (fun K hK => ?_)
            obtain ⟨w11, hcv, hblk, hbel⟩ := conv8 HK24.out
            refine value_ (N := some 25) (v := .slice (some ⟨g24, 0, none⟩) 1 1) (w1 := w11) (by rfl) rfl (by go_simp) ?_
            clear hcv
            replace HK24 := Aside0.mk (hblk _ _ _ HK24.out)
            replace HK18 := Aside0.mk (hblk _ _ _ HK18.out)
            replace HK21 := Aside0.mk (hblk _ _ _ HK21.out)
            replace HK23 := Aside0.mk (hblk _ _ _ HK23.out)
            replace HW := Aside0.mk (HW.out.trans (hbel _ HG24.out))
            refine hK.out _ _ (hblk _ _ _ hHeld) (fun hHeld2 => ?_)
            clear hHeld
            have hHeld := hHeld2
            clear hHeld2
            clear hK K
            refine norm_ (a' := ?_) ?_ ?_
            rotate_left
            · show Act.put _ (some 25) _ = _
              simp only [Act.put, List.setIfInBounds_toArray, List.set_cons_zero, List.set_cons_succ, i64_w, i32_w]
              rfl
            clear hblk hbel
            refine one_ (i := 19) (N := some 26) #[true, true, true, true, true, true, true, true, true, true, true, true, true, true, true, true, true, true, true, true, false, false] rfl rfl (by kernel_rfl) (by decide) (fun K hK => ?_)
            refine goes_ Try.func15 (by kernel_rfl) rfl #[.slice (some ⟨g23, 0, none⟩) 1 c23, .slice (some ⟨g24, 0, none⟩) 1 1] (by rfl) rfl rfl (by simp only [List.map_toArray, List.map_cons, List.map_nil]; rfl) ?_
            refine (equalB_any _ _ _ [120] (rdK HK23.out HC23.out.1 HC23.out.2) (rdK HK24.out rfl (Nat.le_refl 1))).mono ?_
            rintro e w12 ⟨rfl, hb2⟩
            refine ⟨_, rfl, ?_⟩
            replace HW := Aside0.mk (below_to HW.out hb2)
            refine hK.out _ _ (hHeld.below hb2) (fun hHeld2 => ?_)
            clear hHeld
            have hHeld := hHeld2
            clear hHeld2
            clear hK K
            refine norm_ (a' := ?_) ?_ ?_
            rotate_left
            · show Act.put _ (some 26) _ = _
              simp only [Act.put, List.setIfInBounds_toArray, List.set_cons_zero, List.set_cons_succ, i64_w, i32_w]
              rfl
            clear hb2
            refine pure_ (i := 20) (N := some 27) (v := ?_) (a' := ?_) #[true, true, true, true, true, true, true, true, true, true, true, true, true, true, true, true, true, true, true, true, true, false] rfl rfl (by kernel_rfl) (fun _ _ _ h => h) (Or.inl ⟨by rfl, ?_⟩) ?_ ?_
            rotate_left
            · intro w'
              go_simp
              with_reducible rfl
            rotate_left
            · simp only [Act.put, List.setIfInBounds_toArray, List.set_cons_zero, List.set_cons_succ, i64_w, i32_w]
              rfl
            refine pure_ (i := 21) (N := some 6) (v := ?_) (a' := ?_) #[true, true, true, true, true, true, true, true, true, true, true, true, true, true, true, true, true, true, true, true, true, true] rfl rfl (by kernel_rfl) (fun _ _ _ h => h) (Or.inl ⟨by rfl, ?_⟩) ?_ ?_
            rotate_left
            · intro w'
              go_simp
              with_reducible rfl
            rotate_left
            · simp only [Act.put, List.setIfInBounds_toArray, List.set_cons_zero, List.set_cons_succ, i64_w, i32_w]
              rfl
            refine done_ (by kernel_rfl) ?_
            go_wp2
            go_ret
            exact ⟨rfl, HW.out⟩
          · obtain ⟨w10, hcv, hblk, hbel⟩ := conv8 HK24.out
            refine value_ (N := some 25) (v := .slice (some ⟨g24, 0, none⟩) 1 1) (w1 := w10) (by rfl) rfl (by go_simp) ?_
            clear hcv
            replace HK24 := Aside0.mk (hblk _ _ _ HK24.out)
            replace HK18 := Aside0.mk (hblk _ _ _ HK18.out)
            replace HK21 := Aside0.mk (hblk _ _ _ HK21.out)
            replace HW := Aside0.mk (HW.out.trans (hbel _ HG24.out))
            refine hK.out _ _ (hblk _ _ _ hHeld) (fun hHeld2 => ?_)
            clear hHeld
            have hHeld := hHeld2
            clear hHeld2
            clear hK K
            refine norm_ (a' := ?_) ?_ ?_
            rotate_left
            · show Act.put _ (some 25) _ = _
              simp only [Act.put, List.setIfInBounds_toArray, List.set_cons_zero, List.set_cons_succ, i64_w, i32_w]
              rfl
            clear hblk hbel
            refine one_ (i := 16) (N := some 23) #[true, true, true, true, true, true, true, true, true, true, true, true, true, true, true, true, true, true, true, false, false, false] rfl rfl (by kernel_rfl) (by decide) (fun K hK => ?_)
            refine goes_ Try.func16 (by kernel_rfl) rfl #[.slice (some ⟨g21, 0, none⟩) 1 1, .slice none 0 0, .agg #[.slice none 0 0]] (by rfl) rfl rfl (by simp only [List.map_toArray, List.map_cons, List.map_nil]; rfl) ?_
            refine (expand_any _ (some ⟨g21, 0, none⟩) 1 [⟨[120], -1⟩] none 0 [] none 0 [] 1 (one33 HK21.out HK18.out) (Kd.C_nil _ _) (Nat.le_refl _) (Kd.C_nil _ _) (by decide) (by decide) (by decide)).mono ?_
            rintro e w11 ⟨v23, rfl, ho, hb2⟩
            refine ⟨_, rfl, ?_⟩
            obtain ⟨g23, c23, cs23, rfl, h23, hk23, h0⟩ := blk_of_own ho
            have HK23 := Aside0.mk hk23
            have HC23 := Aside0.mk (And.intro h0 h23)
            clear ho hk23 h0 h23
            replace HK24 := Aside0.mk (HK24.out.below hb2)
            replace HK18 := Aside0.mk (HK18.out.below hb2)
            replace HK21 := Aside0.mk (HK21.out.below hb2)
            replace HW := Aside0.mk (below_to HW.out hb2)
            refine hK.out _ _ (hHeld.below hb2) (fun hHeld2 => ?_)
            clear hHeld
            have hHeld := hHeld2
            clear hHeld2
            clear hK K
            refine norm_ (a' := ?_) ?_ ?_
            rotate_left
            · show Act.put _ (some 23) _ = _
              simp only [Act.put, List.setIfInBounds_toArray, List.set_cons_zero, List.set_cons_succ, i64_w, i32_w]
              rfl
            clear hb2
            refine one_ (i := 19) (N := some 26) #[true, true, true, true, true, true, true, true, true, true, true, true, true, true, true, true, true, true, true, true, false, false] rfl rfl (by kernel_rfl) (by decide) (fun K hK => ?_)
            refine goes_ Try.func15 (by kernel_rfl) rfl #[.slice (some ⟨g23, 0, none⟩) 1 c23, .slice (some ⟨g24, 0, none⟩) 1 1] (by rfl) rfl rfl (by simp only [List.map_toArray, List.map_cons, List.map_nil]; rfl) ?_
            refine (equalB_any _ _ _ [120] (rdK HK23.out HC23.out.1 HC23.out.2) (rdK HK24.out rfl (Nat.le_refl 1))).mono ?_
            rintro e w12 ⟨rfl, hb2⟩
            refine ⟨_, rfl, ?_⟩
            replace HW := Aside0.mk (below_to HW.out hb2)
            refine hK.out _ _ (hHeld.below hb2) (fun hHeld2 => ?_)
            clear hHeld
            have hHeld := hHeld2
            clear hHeld2
            clear hK K
            refine norm_ (a' := ?_) ?_ ?_
            rotate_left
            · show Act.put _ (some 26) _ = _
              simp only [Act.put, List.setIfInBounds_toArray, List.set_cons_zero, List.set_cons_succ, i64_w, i32_w]
              rfl
            clear hb2
            refine pure_ (i := 20) (N := some 27) (v := ?_) (a' := ?_) #[true, true, true, true, true, true, true, true, true, true, true, true, true, true, true, true, true, true, true, true, true, false] rfl rfl (by kernel_rfl) (fun _ _ _ h => h) (Or.inl ⟨by rfl, ?_⟩) ?_ ?_
            rotate_left
            · intro w'
              go_simp
              with_reducible rfl
            rotate_left
            · simp only [Act.put, List.setIfInBounds_toArray, List.set_cons_zero, List.set_cons_succ, i64_w, i32_w]
              rfl
            refine pure_ (i := 21) (N := some 6) (v := ?_) (a' := ?_) #[true, true, true, true, true, true, true, true, true, true, true, true, true, true, true, true, true, true, true, true, true, true] rfl rfl (by kernel_rfl) (fun _ _ _ h => h) (Or.inl ⟨by rfl, ?_⟩) ?_ ?_
            rotate_left
            · intro w'
              go_simp
              with_reducible rfl
            rotate_left
            · simp only [Act.put, List.setIfInBounds_toArray, List.set_cons_zero, List.set_cons_succ, i64_w, i32_w]
              rfl
            refine done_ (by kernel_rfl) ?_
            go_wp2
            go_ret
            exact ⟨rfl, HW.out⟩
        · obtain ⟨w9, hcv, hblk, hbel⟩ := conv8 HK24.out
          refine value_ (N := some 25) (v := .slice (some ⟨g24, 0, none⟩) 1 1) (w1 := w9) (by rfl) rfl (by go_simp) ?_
          clear hcv
          replace HK24 := Aside0.mk (hblk _ _ _ HK24.out)
          replace HK18 := Aside0.mk (hblk _ _ _ HK18.out)
          replace HW := Aside0.mk (HW.out.trans (hbel _ HG24.out))
          refine hK.out _ _ (hblk _ _ _ hHeld) (fun hHeld2 => ?_)
          clear hHeld
          have hHeld := hHeld2
          clear hHeld2
          clear hK K
          refine norm_ (a' := ?_) ?_ ?_
          rotate_left
          · show Act.put _ (some 25) _ = _
            simp only [Act.put, List.setIfInBounds_toArray, List.set_cons_zero, List.set_cons_succ, i64_w, i32_w]
            rfl
          clear hblk hbel
          refine one_ (i := 14) (N := some 21) #[true, true, true, true, true, true, true, true, true, true, true, true, true, true, true, true, false, true, true, false, false, false] rfl rfl (by kernel_rfl) (by decide) (fun K hK => ?_)
          refine value_ (N := some 21) (v := .slice (some ⟨w9.heap.size, 0, none⟩) 1 1) (w1 := w9.alloc (.cells #[.slice (some ⟨g18, 0, none⟩) 1 1, .int .i64 (-1)] 33)) (by rfl) rfl (by go_simp) ?_
          have hb2 := below_alloc (Below.refl w9.heap.size w9) (.cells #[.slice (some ⟨g18, 0, none⟩) 1 1, .int .i64 (-1)] 33)
          have HG21 : Aside0 (w.heap.size ≤ w9.heap.size) := ⟨HW.out.size⟩
          replace HK24 := Aside0.mk (HK24.out.below hb2)
          replace HK18 := Aside0.mk (HK18.out.below hb2)
          replace HW := Aside0.mk (below_to HW.out hb2)
          have HK21 : Aside0 (Blk (w9.alloc (.cells #[.slice (some ⟨g18, 0, none⟩) 1 1, .int .i64 (-1)] 33)) w9.heap.size #[.slice (some ⟨g18, 0, none⟩) 1 1, .int .i64 (-1)] 33) := ⟨⟨_, heap_alloc_new _ _⟩⟩
          refine hK.out _ _ (hHeld.below hb2) (fun hHeld2 => ?_)
          clear hHeld
          have hHeld := hHeld2
          clear hHeld2
          clear hK K
          refine norm_ (a' := ?_) ?_ ?_
          rotate_left
          · show Act.put _ (some 21) _ = _
            simp only [Act.put, List.setIfInBounds_toArray, List.set_cons_zero, List.set_cons_succ, i64_w, i32_w]
            rfl
          clear hb2
          obtain ⟨g21, hg21⟩ : ∃ x, w9.heap.size = x := ⟨_, rfl⟩
          rw [hg21] at HK21 HG21 ⊢
          clear hg21
          obtain ⟨w10, hw10⟩ : ∃ x, w9.alloc (.cells #[.slice (some ⟨g18, 0, none⟩) 1 1, .int .i64 (-1)] 33) = x := ⟨_, rfl⟩
          rw [hw10] at hHeld HW HK24 HK18 HK21 ⊢
          clear hw10
          refine one_ (i := 16) (N := some 23) #[true, true, true, true, true, true, true, true, true, true, true, true, true, true, true, true, true, true, true, false, false, false] rfl rfl (by kernel_rfl) (by decide) (fun K hK => ?_)
          refine goes_ Try.func16 (by kernel_rfl) rfl #[.slice (some ⟨g21, 0, none⟩) 1 1, .slice none 0 0, .agg #[.slice none 0 0]] (by rfl) rfl rfl (by simp only [List.map_toArray, List.map_cons, List.map_nil]; rfl) ?_
          refine (expand_any _ (some ⟨g21, 0, none⟩) 1 [⟨[120], -1⟩] none 0 [] none 0 [] 1 (one33 HK21.out HK18.out) (Kd.C_nil _ _) (Nat.le_refl _) (Kd.C_nil _ _) (by decide) (by decide) (by decide)).mono ?_
          rintro e w11 ⟨v23, rfl, ho, hb2⟩
          refine ⟨_, rfl, ?_⟩
          obtain ⟨g23, c23, cs23, rfl, h23, hk23, h0⟩ := blk_of_own ho
          have HK23 := Aside0.mk hk23
          have HC23 := Aside0.mk (And.intro h0 h23)
          clear ho hk23 h0 h23
          replace HK24 := Aside0.mk (HK24.out.below hb2)
          replace HK18 := Aside0.mk (HK18.out.below hb2)
          replace HK21 := Aside0.mk (HK21.out.below hb2)
          replace HW := Aside0.mk (below_to HW.out hb2)
          refine hK.out _ _ (hHeld.below hb2) (fun hHeld2 => ?_)
          clear hHeld
          have hHeld := hHeld2
          clear hHeld2
          clear hK K
          refine norm_ (a' := ?_) ?_ ?_
          rotate_left
          · show Act.put _ (some 23) _ = _
            simp only [Act.put, List.setIfInBounds_toArray, List.set_cons_zero, List.set_cons_succ, i64_w, i32_w]
            rfl
          clear hb2
          refine one_ (i := 19) (N := some 26) #[true, true, true, true, true, true, true, true, true, true, true, true, true, true, true, true, true, true, true, true, false, false] rfl rfl (by kernel_rfl) (by decide) (fun K hK => ?_)
          refine goes_ Try.func15 (by kernel_rfl) rfl #[.slice (some ⟨g23, 0, none⟩) 1 c23, .slice (some ⟨g24, 0, none⟩) 1 1] (by rfl) rfl rfl (by simp only [List.map_toArray, List.map_cons, List.map_nil]; rfl) ?_
          refine (equalB_any _ _ _ [120] (rdK HK23.out HC23.out.1 HC23.out.2) (rdK HK24.out rfl (Nat.le_refl 1))).mono ?_
          rintro e w12 ⟨rfl, hb2⟩
          refine ⟨_, rfl, ?_⟩
          replace HW := Aside0.mk (below_to HW.out hb2)
          refine hK.out _ _ (hHeld.below hb2) (fun hHeld2 => ?_)
          clear hHeld
          have hHeld := hHeld2
          clear hHeld2
          clear hK K
          refine norm_ (a' := ?_) ?_ ?_
          rotate_left
          · show Act.put _ (some 26) _ = _
            simp only [Act.put, List.setIfInBounds_toArray, List.set_cons_zero, List.set_cons_succ, i64_w, i32_w]
            rfl
          clear hb2
          refine pure_ (i := 20) (N := some 27) (v := ?_) (a' := ?_) #[true, true, true, true, true, true, true, true, true, true, true, true, true, true, true, true, true, true, true, true, true, false] rfl rfl (by kernel_rfl) (fun _ _ _ h => h) (Or.inl ⟨by rfl, ?_⟩) ?_ ?_
          rotate_left
          · intro w'
            go_simp
            with_reducible rfl
          rotate_left
          · simp only [Act.put, List.setIfInBounds_toArray, List.set_cons_zero, List.set_cons_succ, i64_w, i32_w]
            rfl
          refine pure_ (i := 21) (N := some 6) (v := ?_) (a' := ?_) #[true, true, true, true, true, true, true, true, true, true, true, true, true, true, true, true, true, true, true, true, true, true] rfl rfl (by kernel_rfl) (fun _ _ _ h => h) (Or.inl ⟨by rfl, ?_⟩) ?_ ?_
          rotate_left
          · intro w'
            go_simp
            with_reducible rfl
          rotate_left
          · simp only [Act.put, List.setIfInBounds_toArray, List.set_cons_zero, List.set_cons_succ, i64_w, i32_w]
            rfl
          refine done_ (by kernel_rfl) ?_
          go_wp2
          go_ret
          exact ⟨rfl, HW.out⟩
      · obtain ⟨w8, hcv, hblk, hbel⟩ := conv8 HK24.out
        refine value_ (N := some 25) (v := .slice (some ⟨g24, 0, none⟩) 1 1) (w1 := w8) (by rfl) rfl (by go_simp) ?_
        clear hcv
        replace HK24 := Aside0.mk (hblk _ _ _ HK24.out)
        replace HK18 := Aside0.mk (hblk _ _ _ HK18.out)
        replace HW := Aside0.mk (HW.out.trans (hbel _ HG24.out))
        refine hK.out _ _ (hblk _ _ _ hHeld) (fun hHeld2 => ?_)
        clear hHeld
        have hHeld := hHeld2
        clear hHeld2
        clear hK K
        refine norm_ (a' := ?_) ?_ ?_
        rotate_left
        · show Act.put _ (some 25) _ = _
          simp only [Act.put, List.setIfInBounds_toArray, List.set_cons_zero, List.set_cons_succ, i64_w, i32_w]
          rfl
        clear hblk hbel
        refine one_ (i := 12) (N := some 19) #[true, true, true, true, true, true, true, true, true, true, true, true, true, false, false, true, false, true, true, false, false, false] rfl rfl (by kernel_rfl) (by decide) (fun K hK => ?_)
        obtain ⟨w9, hcv, hblk, hbel⟩ := conv8 HK18.out
        refine value_ (N := some 19) (v := .slice (some ⟨g18, 0, none⟩) 1 1) (w1 := w9) (by rfl) rfl (by go_simp) ?_
        clear hcv
        replace HK24 := Aside0.mk (hblk _ _ _ HK24.out)
        replace HK18 := Aside0.mk (hblk _ _ _ HK18.out)
        replace HW := Aside0.mk (HW.out.trans (hbel _ HG18.out))
        refine hK.out _ _ (hblk _ _ _ hHeld) (fun hHeld2 => ?_)
        clear hHeld
        have hHeld := hHeld2
        clear hHeld2
        clear hK K
        refine norm_ (a' := ?_) ?_ ?_
        rotate_left
        · show Act.put _ (some 19) _ = _
          simp only [Act.put, List.setIfInBounds_toArray, List.set_cons_zero, List.set_cons_succ, i64_w, i32_w]
          rfl
        clear hblk hbel
        refine pure_ (i := 13) (N := some 20) (v := ?_) (a' := ?_) #[true, true, true, true, true, true, true, true, true, true, true, true, true, true, false, true, false, true, true, false, false, false] rfl rfl (by kernel_rfl) (fun _ _ _ h => h) (Or.inl ⟨by rfl, ?_⟩) ?_ ?_
        rotate_left
        · intro w'
          go_simp
          with_reducible rfl
        rotate_left
        · simp only [Act.put, List.setIfInBounds_toArray, List.set_cons_zero, List.set_cons_succ, i64_w, i32_w]
          rfl
        refine one_ (i := 14) (N := some 21) #[true, true, true, true, true, true, true, true, true, true, true, true, true, true, true, true, false, true, true, false, false, false] rfl rfl (by kernel_rfl) (by decide) (fun K hK => ?_)
        refine value_ (N := some 21) (v := .slice (some ⟨w9.heap.size, 0, none⟩) 1 1) (w1 := w9.alloc (.cells #[.slice (some ⟨g18, 0, none⟩) 1 1, .int .i64 (-1)] 33)) (by rfl) rfl (by go_simp) ?_
        have hb2 := below_alloc (Below.refl w9.heap.size w9) (.cells #[.slice (some ⟨g18, 0, none⟩) 1 1, .int .i64 (-1)] 33)
        have HG21 : Aside0 (w.heap.size ≤ w9.heap.size) := ⟨HW.out.size⟩
        replace HK24 := Aside0.mk (HK24.out.below hb2)
        replace HK18 := Aside0.mk (HK18.out.below hb2)
        replace HW := Aside0.mk (below_to HW.out hb2)
        have HK21 : Aside0 (Blk (w9.alloc (.cells #[.slice (some ⟨g18, 0, none⟩) 1 1, .int .i64 (-1)] 33)) w9.heap.size #[.slice (some ⟨g18, 0, none⟩) 1 1, .int .i64 (-1)] 33) := ⟨⟨_, heap_alloc_new _ _⟩⟩
        refine hK.out _ _ (hHeld.below hb2) (fun hHeld2 => ?_)
        clear hHeld
        have hHeld := hHeld2
        clear hHeld2
        clear hK K
        refine norm_ (a' := ?_) ?_ ?_
        rotate_left
        · show Act.put _ (some 21) _ = _
          simp only [Act.put, List.setIfInBounds_toArray, List.set_cons_zero, List.set_cons_succ, i64_w, i32_w]
          rfl
        clear hb2
        obtain ⟨g21, hg21⟩ : ∃ x, w9.heap.size = x := ⟨_, rfl⟩
        rw [hg21] at HK21 HG21 ⊢
        clear hg21
        obtain ⟨w10, hw10⟩ : ∃ x, w9.alloc (.cells #[.slice (some ⟨g18, 0, none⟩) 1 1, .int .i64 (-1)] 33) = x := ⟨_, rfl⟩
        rw [hw10] at hHeld HW HK24 HK18 HK21 ⊢
        clear hw10
        refine one_ (i := 16) (N := some 23) #[true, true, true, true, true, true, true, true, true, true, true, true, true, true, true, true, true, true, true, false, false, false] rfl rfl (by kernel_rfl) (by decide) (fun K hK => ?_)
        refine goes_ Try.func16 (by kernel_rfl) rfl #[.slice (some ⟨g21, 0, none⟩) 1 1, .slice none 0 0, .agg #[.slice none 0 0]] (by rfl) rfl rfl (by simp only [List.map_toArray, List.map_cons, List.map_nil]; rfl) ?_
        refine (expand_any _ (some ⟨g21, 0, none⟩) 1 [⟨[120], -1⟩] none 0 [] none 0 [] 1 (one33 HK21.out HK18.out) (Kd.C_nil _ _) (Nat.le_refl _) (Kd.C_nil _ _) (by decide) (by decide) (by decide)).mono ?_
        rintro e w11 ⟨v23, rfl, ho, hb2⟩
        refine ⟨_, rfl, ?_⟩
        obtain ⟨g23, c23, cs23, rfl, h23, hk23, h0⟩ := blk_of_own ho
        have HK23 := Aside0.mk hk23
        have HC23 := Aside0.mk (And.intro h0 h23)
        clear ho hk23 h0 h23
        replace HK24 := Aside0.mk (HK24.out.below hb2)
        replace HK18 := Aside0.mk (HK18.out.below hb2)
        replace HK21 := Aside0.mk (HK21.out.below hb2)
        replace HW := Aside0.mk (below_to HW.out hb2)
        refine hK.out _ _ (hHeld.below hb2) (fun hHeld2 => ?_)
        clear hHeld
        have hHeld := hHeld2
        clear hHeld2
        clear hK K
        refine norm_ (a' := ?_) ?_ ?_
        rotate_left
        · show Act.put _ (some 23) _ = _
          simp only [Act.put, List.setIfInBounds_toArray, List.set_cons_zero, List.set_cons_succ, i64_w, i32_w]
          rfl
        clear hb2
        refine one_ (i := 19) (N := some 26) #[true, true, true, true, true, true, true, true, true, true, true, true, true, true, true, true, true, true, true, true, false, false] rfl rfl (by kernel_rfl) (by decide) (fun K hK => ?_)
        refine goes_ Try.func15 (by kernel_rfl) rfl #[.slice (some ⟨g23, 0, none⟩) 1 c23, .slice (some ⟨g24, 0, none⟩) 1 1] (by rfl) rfl rfl (by simp only [List.map_toArray, List.map_cons, List.map_nil]; rfl) ?_
        refine (equalB_any _ _ _ [120] (rdK HK23.out HC23.out.1 HC23.out.2) (rdK HK24.out rfl (Nat.le_refl 1))).mono ?_
        rintro e w12 ⟨rfl, hb2⟩
        refine ⟨_, rfl, ?_⟩
        replace HW := Aside0.mk (below_to HW.out hb2)
        refine hK.out _ _ (hHeld.below hb2) (fun hHeld2 => ?_)
        clear hHeld
        have hHeld := hHeld2
        clear hHeld2
        clear hK K
        refine norm_ (a' := ?_) ?_ ?_
        rotate_left
        · show Act.put _ (some 26) _ = _
          simp only [Act.put, List.setIfInBounds_toArray, List.set_cons_zero, List.set_cons_succ, i64_w, i32_w]
          rfl
        clear hb2
        refine pure_ (i := 20) (N := some 27) (v := ?_) (a' := ?_) #[true, true, true, true, true, true, true, true, true, true, true, true, true, true, true, true, true, true, true, true, true, false] rfl rfl (by kernel_rfl) (fun _ _ _ h => h) (Or.inl ⟨by rfl, ?_⟩) ?_ ?_
        rotate_left
        · intro w'
          go_simp
          with_reducible rfl
        rotate_left
        · simp only [Act.put, List.setIfInBounds_toArray, List.set_cons_zero, List.set_cons_succ, i64_w, i32_w]
          rfl
        refine pure_ (i := 21) (N := some 6) (v := ?_) (a' := ?_) #[true, true, true, true, true, true, true, true, true, true, true, true, true, true, true, true, true, true, true, true, true, true] rfl rfl (by kernel_rfl) (fun _ _ _ h => h) (Or.inl ⟨by rfl, ?_⟩) ?_ ?_
        rotate_left
        · intro w'
          go_simp
          with_reducible rfl
        rotate_left
        · simp only [Act.put, List.setIfInBounds_toArray, List.set_cons_zero, List.set_cons_succ, i64_w, i32_w]
          rfl
        refine done_ (by kernel_rfl) ?_
        go_wp2
        go_ret
        exact ⟨rfl, HW.out⟩
    · obtain ⟨w7, hcv, hblk, hbel⟩ := conv8 HK24.out
      refine value_ (N := some 25) (v := .slice (some ⟨g24, 0, none⟩) 1 1) (w1 := w7) (by rfl) rfl (by go_simp) ?_
      clear hcv
      replace HK24 := Aside0.mk (hblk _ _ _ HK24.out)
      replace HW := Aside0.mk (HW.out.trans (hbel _ HG24.out))
      refine hK.out _ _ (hblk _ _ _ hHeld) (fun hHeld2 => ?_)
      clear hHeld
      have hHeld := hHeld2
      clear hHeld2
      clear hK K
      refine norm_ (a' := ?_) ?_ ?_
      rotate_left
      · show Act.put _ (some 25) _ = _
        simp only [Act.put, List.setIfInBounds_toArray, List.set_cons_zero, List.set_cons_succ, i64_w, i32_w]
        rfl
      clear hblk hbel
      refine one_ (i := 11) (N := some 18) #[true, true, true, true, true, true, true, true, true, true, true, true, false, false, false, true, false, true, true, false, false, false] rfl rfl (by kernel_rfl) (by decide) (fun K hK => ?_)
      refine value_ (N := some 18) (v := .slice (some ⟨w7.heap.size, 0, none⟩) 1 1) (w1 := w7.alloc (.cells #[.int .u8 120] 5)) (by rfl) rfl (by go_simp) ?_
      have hb2 := below_alloc (Below.refl w7.heap.size w7) (.cells #[.int .u8 120] 5)
      have HG18 : Aside0 (w.heap.size ≤ w7.heap.size) := ⟨HW.out.size⟩
      replace HK24 := Aside0.mk (HK24.out.below hb2)
      replace HW := Aside0.mk (below_to HW.out hb2)
      have HK18 : Aside0 (Blk (w7.alloc (.cells #[.int .u8 120] 5)) w7.heap.size #[.int .u8 120] 5) := ⟨⟨_, heap_alloc_new _ _⟩⟩
      refine hK.out _ _ (hHeld.below hb2) (fun hHeld2 => ?_)
      clear hHeld
      have hHeld := hHeld2
      clear hHeld2
      clear hK K
      refine norm_ (a' := ?_) ?_ ?_
      rotate_left
      · show Act.put _ (some 18) _ = _
        simp only [Act.put, List.setIfInBounds_toArray, List.set_cons_zero, List.set_cons_succ, i64_w, i32_w]
        rfl
      clear hb2
      obtain ⟨g18, hg18⟩ : ∃ x, w7.heap.size = x := ⟨_, rfl⟩
      rw [hg18] at HK18 HG18 ⊢
      clear hg18
      obtain ⟨w8, hw8⟩ : ∃ x, w7.alloc (.cells #[.int .u8 120] 5) = x := ⟨_, rfl⟩
      rw [hw8] at hHeld HW HK24 HK18 ⊢
      clear hw8
      refine one_ (i := 12) (N := some 19) #[true, true, true, true, true, true, true, true, true, true, true, true, true, false, false, true, false, true, true, false, false, false] rfl rfl (by kernel_rfl) (by decide) (fun K hK => ?_)
      obtain ⟨w9, hcv, hblk, hbel⟩ := conv8 HK18.out
      refine value_ (N := some 19) (v := .slice (some ⟨g18, 0, none⟩) 1 1) (w1 := w9) (by rfl) rfl (by go_simp) ?_
      clear hcv
      replace HK24 := Aside0.mk (hblk _ _ _ HK24.out)
      replace HK18 := Aside0.mk (hblk _ _ _ HK18.out)
      replace HW := Aside0.mk (HW.out.trans (hbel _ HG18.out))
      refine hK.out _ _ (hblk _ _ _ hHeld) (fun hHeld2 => ?_)
      clear hHeld
      have hHeld := hHeld2
      clear hHeld2
      clear hK K
      refine norm_ (a' := ?_) ?_ ?_
      rotate_left
      · show Act.put _ (some 19) _ = _
        simp only [Act.put, List.setIfInBounds_toArray, List.set_cons_zero, List.set_cons_succ, i64_w, i32_w]
        rfl
      clear hblk hbel
      refine pure_ (i := 13) (N := some 20) (v := ?_) (a' := ?_) #[true, true, true, true, true, true, true, true, true, true, true, true, true, true, false, true, false, true, true, false, false, false] rfl rfl (by kernel_rfl) (fun _ _ _ h => h) (Or.inl ⟨by rfl, ?_⟩) ?_ ?_
      rotate_left
      · intro w'
        go_simp
        with_reducible rfl
      rotate_left
      · simp only [Act.put, List.setIfInBounds_toArray, List.set_cons_zero, List.set_cons_succ, i64_w, i32_w]
        rfl
      refine one_ (i := 14) (N := some 21) #[true, true, true, true, true, true, true, true, true, true, true, true, true, true, true, true, false, true, true, false, false, false] rfl rfl (by kernel_rfl) (by decide) (fun K hK => ?_)
      refine value_ (N := some 21) (v := .slice (some ⟨w9.heap.size, 0, none⟩) 1 1) (w1 := w9.alloc (.cells #[.slice (some ⟨g18, 0, none⟩) 1 1, .int .i64 (-1)] 33)) (by rfl) rfl (by go_simp) ?_
      have hb2 := below_alloc (Below.refl w9.heap.size w9) (.cells #[.slice (some ⟨g18, 0, none⟩) 1 1, .int .i64 (-1)] 33)
      have HG21 : Aside0 (w.heap.size ≤ w9.heap.size) := ⟨HW.out.size⟩
      replace HK24 := Aside0.mk (HK24.out.below hb2)
      replace HK18 := Aside0.mk (HK18.out.below hb2)
      replace HW := Aside0.mk (below_to HW.out hb2)
      have HK21 : Aside0 (Blk (w9.alloc (.cells #[.slice (some ⟨g18, 0, none⟩) 1 1, .int .i64 (-1)] 33)) w9.heap.size #[.slice (some ⟨g18, 0, none⟩) 1 1, .int .i64 (-1)] 33) := ⟨⟨_, heap_alloc_new _ _⟩⟩
      refine hK.out _ _ (hHeld.below hb2) (fun hHeld2 => ?_)
      clear hHeld
      have hHeld := hHeld2
      clear hHeld2
      clear hK K
      refine norm_ (a' := ?_) ?_ ?_
      rotate_left
      · show Act.put _ (some 21) _ = _
        simp only [Act.put, List.setIfInBounds_toArray, List.set_cons_zero, List.set_cons_succ, i64_w, i32_w]
        rfl
      clear hb2
      obtain ⟨g21, hg21⟩ : ∃ x, w9.heap.size = x := ⟨_, rfl⟩
      rw [hg21] at HK21 HG21 ⊢
      clear hg21
      obtain ⟨w10, hw10⟩ : ∃ x, w9.alloc (.cells #[.slice (some ⟨g18, 0, none⟩) 1 1, .int .i64 (-1)] 33) = x := ⟨_, rfl⟩
      rw [hw10] at hHeld HW HK24 HK18 HK21 ⊢
      clear hw10
      refine one_ (i := 16) (N := some 23) #[true, true, true, true, true, true, true, true, true, true, true, true, true, true, true, true, true, true, true, false, false, false] rfl rfl (by kernel_rfl) (by decide) (fun K hK => ?_)
      refine goes_ Try.func16 (by kernel_rfl) rfl #[.slice (some ⟨g21, 0, none⟩) 1 1, .slice none 0 0, .agg #[.slice none 0 0]] (by rfl) rfl rfl (by simp only [List.map_toArray, List.map_cons, List.map_nil]; rfl) ?_
      refine (expand_any _ (some ⟨g21, 0, none⟩) 1 [⟨[120], -1⟩] none 0 [] none 0 [] 1 (one33 HK21.out HK18.out) (Kd.C_nil _ _) (Nat.le_refl _) (Kd.C_nil _ _) (by decide) (by decide) (by decide)).mono ?_
      rintro e w11 ⟨v23, rfl, ho, hb2⟩
      refine ⟨_, rfl, ?_⟩
      obtain ⟨g23, c23, cs23, rfl, h23, hk23, h0⟩ := blk_of_own ho
      have HK23 := Aside0.mk hk23
      have HC23 := Aside0.mk (And.intro h0 h23)
      clear ho hk23 h0 h23
      replace HK24 := Aside0.mk (HK24.out.below hb2)
      replace HK18 := Aside0.mk (HK18.out.below hb2)
      replace HK21 := Aside0.mk (HK21.out.below hb2)
      replace HW := Aside0.mk (below_to HW.out hb2)
      refine hK.out _ _ (hHeld.below hb2) (fun hHeld2 => ?_)
      clear hHeld
      have hHeld := hHeld2
      clear hHeld2
      clear hK K
      refine norm_ (a' := ?_) ?_ ?_
      rotate_left
      · show Act.put _ (some 23) _ = _
        simp only [Act.put, List.setIfInBounds_toArray, List.set_cons_zero, List.set_cons_succ, i64_w, i32_w]
        rfl
      clear hb2
      refine one_ (i := 19) (N := some 26) #[true, true, true, true, true, true, true, true, true, true, true, true, true, true, true, true, true, true, true, true, false, false] rfl rfl (by kernel_rfl) (by decide) (fun K hK => ?_)
      refine goes_ Try.func15 (by kernel_rfl) rfl #[.slice (some ⟨g23, 0, none⟩) 1 c23, .slice (some ⟨g24, 0, none⟩) 1 1] (by rfl) rfl rfl (by simp only [List.map_toArray, List.map_cons, List.map_nil]; rfl) ?_
      refine (equalB_any _ _ _ [120] (rdK HK23.out HC23.out.1 HC23.out.2) (rdK HK24.out rfl (Nat.le_refl 1))).mono ?_
      rintro e w12 ⟨rfl, hb2⟩
      refine ⟨_, rfl, ?_⟩
      replace HW := Aside0.mk (below_to HW.out hb2)
      refine hK.out _ _ (hHeld.below hb2) (fun hHeld2 => ?_)
      clear hHeld
      have hHeld := hHeld2
      clear hHeld2
      clear hK K
      refine norm_ (a' := ?_) ?_ ?_
      rotate_left
      · show Act.put _ (some 26) _ = _
        simp only [Act.put, List.setIfInBounds_toArray, List.set_cons_zero, List.set_cons_succ, i64_w, i32_w]
        rfl
      clear hb2
      refine pure_ (i := 20) (N := some 27) (v := ?_) (a' := ?_) #[true, true, true, true, true, true, true, true, true, true, true, true, true, true, true, true, true, true, true, true, true, false] rfl rfl (by kernel_rfl) (fun _ _ _ h => h) (Or.inl ⟨by rfl, ?_⟩) ?_ ?_
      rotate_left
      · intro w'
        go_simp
        with_reducible rfl
      rotate_left
      · simp only [Act.put, List.setIfInBounds_toArray, List.set_cons_zero, List.set_cons_succ, i64_w, i32_w]
        rfl
      refine pure_ (i := 21) (N := some 6) (v := ?_) (a' := ?_) #[true, true, true, true, true, true, true, true, true, true, true, true, true, true, true, true, true, true, true, true, true, true] rfl rfl (by kernel_rfl) (fun _ _ _ h => h) (Or.inl ⟨by rfl, ?_⟩) ?_ ?_
      rotate_left
      · intro w'
        go_simp
        with_reducible rfl
      rotate_left
      · simp only [Act.put, List.setIfInBounds_toArray, List.set_cons_zero, List.set_cons_succ, i64_w, i32_w]
        rfl
      refine done_ (by kernel_rfl) ?_
      go_wp2
      go_ret
      exact ⟨rfl, HW.out⟩

end Go.Proofs.Ytpgnfccamcefgaa
