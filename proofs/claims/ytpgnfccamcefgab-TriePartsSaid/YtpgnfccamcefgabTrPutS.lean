/- Merged: TrShS, TrFillPS, TrFillWS, TrFillS. -/
import Derived.Test.YtpgnfccamcefgabTrCore
import Derived.BigRegion
import Derived.Deep.QuietTactic
import Derived.BigQuiet
/- Walk: the trie's shared, over string. -/
namespace Go.Proofs.Ytpgnfccamcefgab
set_option linter.unusedVariables false
set_option linter.unusedSimpArgs false
open Go.RowKit Go.Proofs.YtpgnfccamcefgabW.PrintWords Go.Proofs.YtpgnfccamcefgabW.PrintLast Go.Proofs.YtpgnfccamcefgabW.PrintMore

set_option maxHeartbeats 1000000 in
set_option maxRecDepth 100000 in
theorem sharedS_any (w : World) (T hb nh k : Nat) (vals : List ByteArray) (F H : Int → Option Int) (B : List (List Int)) (h : TrieR Kd.string 65 w T vals F B) (hh : HMap w hb nh H) (hi : TInv F H B) (hk : k < B.length) (hw : ∀ j, j < 256 → (Lit.int .i32 ((B.getD k []).getD j 0)).wf = true) :
    Calls Try.prog 32 #[.pointer (some ⟨T, 0, none⟩), .map (some hb), .int .i64 k] w fun e w' => e = .returned (.bool (decide (H ((B.getD k []).getD 0 0) = some (k : Int)))) ∧ w = w' := by
  obtain ⟨V, m, n, bl, hT, -, -, A, c, rfl, hc, hR⟩ := h.out
  have c2 := row_cell hT 2 _ rfl
  obtain ⟨ad, rfl, hcell⟩ := at_C hR k 0 hk (by omega)
  have hw0 := hw 0 (by omega)
  obtain ⟨x, hx⟩ : ∃ x, (B.getD k []).getD 0 0 = x := ⟨_, rfl⟩
  rw [hx, add0] at hcell
  rw [hx] at hw0 ⊢
  obtain ⟨o, ho⟩ : ∃ o, H x = o := ⟨_, rfl⟩
  have HH := Aside0.mk hh
  have HO := Aside0.mk ho
  have HW := Aside0.mk hw0
  clear hT hc hR h hi hx hw hw0 hh ho
  cases o with
  | none =>
    have HF : Aside0 (decide (H x = some (k : Int)) = false) := ⟨by rw [HO.out]; rfl⟩
    go_enter Try.func32, Try.ntmps32
    go_wp2_with (at_lookup; refine lookupF_ok Try.mtH rfl _ _ rfl rfl HH.out x rfl HW.out ?_; rw [HO.out])
    go_ret
    exact ⟨by rw [HF.out]; rfl, rfl⟩
  | some y =>
    by_cases hy : y = (k : Int)
    · have HF : Aside0 (decide (H x = some (k : Int)) = true) := ⟨by rw [HO.out, hy]; simp⟩
      subst hy
      go_enter Try.func32, Try.ntmps32
      go_wp2_with (at_lookup; refine lookupF_ok Try.mtH rfl _ _ rfl rfl HH.out x rfl HW.out ?_; rw [HO.out])
      go_ret
      exact ⟨by rw [HF.out]; rfl, rfl⟩
    · have HF : Aside0 (decide (H x = some (k : Int)) = false) := ⟨by rw [HO.out]; simp [hy]⟩
      have hyb : (y == (k : Int)) = false := by simpa using hy
      go_enter Try.func32, Try.ntmps32
      go_wp2_with (at_lookup; refine lookupF_ok Try.mtH rfl _ _ rfl rfl HH.out x rfl HW.out ?_; rw [HO.out])
      go_ret
      exact ⟨by rw [HF.out]; rfl, rfl⟩

end Go.Proofs.Ytpgnfccamcefgab

/- Walk: the trie's fill, over string: a part of a block. Written by trgen.py. -/
namespace Go.Proofs.Ytpgnfccamcefgab
set_option linter.unusedVariables false
set_option linter.unusedSimpArgs false
open Go.RowKit Go.Proofs.YtpgnfccamcefgabW.PrintWords Go.Proofs.YtpgnfccamcefgabW.PrintLast Go.Proofs.YtpgnfccamcefgabW.PrintMore

set_option maxHeartbeats 4000000 in
set_option maxRecDepth 100000 in
theorem fillPS_any (wk w0 w : World) (base T m hb : Nat) (V bl : Value) (vals : List ByteArray) (n nv : Nat) (F H : Int → Option Int) (B : List (List Int)) (b v : Int) (f t : Nat) (h : FS Kd.string 9 65 wk w0 base w T m hb V bl vals n n F H B) (hi : TInv F H B) (hvi : VInv nv B)
    (hn : n < 1000000) (hB : B.length < 1000000) (hnv : nv ≤ 2147483647) (hb0 : 0 ≤ b) (hb1 : b ≤ 4351) (hft : f ≤ t) (ht : t ≤ 255) (hv0 : 0 ≤ v) (hv1 : v < nv) (hp : t - f ≠ 255) :
    Calls Try.prog 25 #[.pointer (some ⟨T, 0, none⟩), .map (some hb), .int .i64 b, .int .i64 (b * 256 + f), .int .i64 (b * 256 + t), .int .i32 v] w
      (FillRet Kd.string 9 65 wk w0 base T m hb V vals n nv B.length (fun F' B' => ∀ r, cellOf F' B' r = if r / 256 = b ∧ (f : Int) ≤ r % 256 ∧ r % 256 ≤ t then v else cellOf F B r)) := by
  have hpb : ((b * 256 + (t : Int) - (b * 256 + (f : Int))) == 255) = false := beq_eq_false_iff_ne.2 (by omega)
  obtain ⟨g, cap, rfl⟩ := h.form (by have := hi.zero.1; omega)
  have c1 := row_cell h.hT 1 _ rfl
  have c2 := row_cell h.hT 2 _ rfl
  have HTl : Aside0 (T < w.drew.heap.size) := ⟨(Array.getElem?_eq_some_iff.1 h.hT).1⟩
  have HS := Aside0.mk h
  have HSD : Aside0 (FS Kd.string 9 65 wk w0 base w.drew T m hb V (.slice (some ⟨g, 0, none⟩) B.length cap) vals n n F H B) := ⟨h.to (below_drew (Below.refl _ _))⟩
  have HI := Aside0.mk hi
  have HVI := Aside0.mk hvi
  have hkb := hi.blk_in b
  unfold blkOf at hkb
  obtain ⟨k, hk⟩ : ∃ k : Nat, (F b).getD 0 = (k : Int) := ⟨((F b).getD 0).toNat, by omega⟩
  rw [hk] at hkb
  have hkl : k < B.length := by omega
  have HX : Aside0 ((B.getD k []).length = 256) := ⟨hi.len _ (getD_mem hkl)⟩
  have HC2 : Aside0 (w.drew.cell? ⟨T, 2, none⟩ = some (.slice (some ⟨g, 0, none⟩) B.length cap)) := ⟨row_cell HSD.out.hT 2 _ rfl⟩
  have HCR : Aside0 (∀ j u, (nums .i32 (B.getD k []))[j]? = some u → w.drew.cell? ((⟨g, k * 256, none⟩ : Addr).add j) = some u) := ⟨HSD.out.part hkl⟩
  have HK := Aside0.mk hk
  have hlk := h.hF.run_lookup Try.mtF b (WalkArith.wf_i64 (by omega))
  rw [hk] at hlk
  have HSH := Aside0.mk (sharedS_any w T hb n k vals F H B h.read h.hH hi hkl (fun j hj => by
    have := hvi.at_ hkl HX.out hj
    exact WalkArith.wf_i32 (by omega)))
  obtain ⟨q, hq⟩ : ∃ q, decide (H ((B.getD k []).getD 0 0) = some (k : Int)) = q := ⟨_, rfl⟩
  rw [hq] at HSH
  have HQ := Aside0.mk hq
  clear h hi hvi hk hkb hq
  go_enter Try.func25, Try.ntmps25
  go_upto_if 70 with (go_at_call 32; refine HSH.out.mono ?_; rintro e w' ⟨rfl, rfl⟩)
  clear hlk HSH hpb
  go_cut [16] (fun s16 wx => ∃ (k1 : Nat) (bl1 : Value) (F1 : Int → Option Int) (B1 : List (List Int)), s16 = .int .i64 (k1 : Int) ∧ Aside0 (FS Kd.string 9 65 wk w0 base wx T m hb V bl1 vals (n + 1) n F1 H B1) ∧ Aside0 (TInv F1 H B1 ∧ VInv nv B1 ∧ k1 < B1.length ∧ F1 b = some (k1 : Int) ∧ (∀ y, H y ≠ some (k1 : Int)) ∧ (∀ r, cellOf F1 B1 r = cellOf F B r) ∧ B1.length ≤ B.length + 1))
  case first =>
    cases q with
    | true =>
      go_wp2
      refine start_ (n := 17) (S := fun w' => w'.cell? ⟨T, 2, none⟩ = some (.slice (some ⟨g, 0, none⟩) B.length cap) ∧ ∀ j u, (nums .i32 (B.getD k []))[j]? = some u → w'.cell? ((⟨g, k * 256, none⟩ : Addr).add j) = some u) (ds := [13, 16]) #[false, false, false, false, false, false, false, false, false, false, false, false, false, false, false, false, false] (by kernel_rfl) rfl rfl ⟨HC2.out, HCR.out⟩ (fun hHeld => ?_)
      refine pure_ (i := 0) (N := some 71) (v := ?_) (a' := ?_) #[true, false, false, false, false, false, false, false, false, false, false, false, false, false, false, false, false] rfl rfl (by kernel_rfl) (fun _ _ _ h => h) (Or.inl ⟨by rfl, ?_⟩) ?_ ?_
      rotate_left
      · intro w'
        go_simp
        with_reducible rfl
      rotate_left
      · simp only [Act.put, List.setIfInBounds_toArray, List.set_cons_zero, List.set_cons_succ, i64_w, i32_w]
        rfl
      refine pure_ (i := 1) (N := some 72) (v := ?_) (a' := ?_) #[true, true, false, false, false, false, false, false, false, false, false, false, false, false, false, false, false] rfl rfl (by kernel_rfl) (fun _ _ _ h => h) (Or.inl ⟨by rfl, ?_⟩) ?_ ?_
      rotate_left
      · intro w'
        go_simp
        with_reducible rfl
      rotate_left
      · simp only [Act.put, List.setIfInBounds_toArray, List.set_cons_zero, List.set_cons_succ, i64_w, i32_w]
        rfl
      refine pure_ (i := 2) (N := some 73) (v := ?_) (a' := ?_) #[true, true, true, false, false, false, false, false, false, false, false, false, false, false, false, false, false] rfl rfl (by kernel_rfl) (fun _ _ _ h => h) (Or.inl ⟨by rfl, ?_⟩) ?_ ?_
      rotate_left
      · intro w'
        go_simp
        with_reducible rfl
      rotate_left
      · simp only [Act.put, List.setIfInBounds_toArray, List.set_cons_zero, List.set_cons_succ, i64_w, i32_w]
        rfl
      refine pure_ (i := 3) (N := some 74) (v := ?_) (a' := ?_) #[true, true, true, true, false, false, false, false, false, false, false, false, false, false, false, false, false] rfl rfl (by kernel_rfl) (fun _ _ _ h => h) (Or.inl ⟨by rfl, ?_⟩) ?_ ?_
      rotate_left
      · intro w'
        go_simp
        with_reducible rfl
      rotate_left
      · simp only [Act.put, List.setIfInBounds_toArray, List.set_cons_zero, List.set_cons_succ, i64_w, i32_w]
        rfl
      refine pure_ (i := 5) (N := some 76) (v := ?_) (a' := ?_) #[true, true, true, true, false, true, false, false, false, false, false, false, false, false, false, false, false] rfl rfl (by kernel_rfl) (fun _ _ _ h => h) (Or.inl ⟨by rfl, ?_⟩) ?_ ?_
      rotate_left
      · intro w'
        go_simp
        with_reducible rfl
      rotate_left
      · simp only [Act.put, List.setIfInBounds_toArray, List.set_cons_zero, List.set_cons_succ, i64_w, i32_w]
        rfl
      refine pure_ (i := 6) (N := some 77) (v := ?_) (a' := ?_) #[true, true, true, true, false, true, true, false, false, false, false, false, false, false, false, false, false] rfl rfl (by kernel_rfl) (fun _ _ _ h => h) (Or.inl ⟨by rfl, ?_⟩) ?_ ?_
      rotate_left
      · intro w'
        go_simp
        with_reducible rfl
      rotate_left
      · simp only [Act.put, List.setIfInBounds_toArray, List.set_cons_zero, List.set_cons_succ, i64_w, i32_w]
        rfl
      refine pure_ (i := 7) (N := some 78) (v := ?_) (a' := ?_) #[true, true, true, true, false, true, true, true, false, false, false, false, false, false, false, false, false] rfl rfl (by kernel_rfl) (fun _ _ _ h => h) (Or.inl ⟨by rfl, ?_⟩) ?_ ?_
      rotate_left
      · intro w'
        go_simp
        with_reducible rfl
      rotate_left
      · simp only [Act.put, List.setIfInBounds_toArray, List.set_cons_zero, List.set_cons_succ, i64_w, i32_w]
        rfl
      refine pure_ (i := 9) (N := some 80) (v := ?_) (a' := ?_) #[true, true, true, true, false, true, true, true, false, true, false, false, false, false, false, false, false] rfl rfl (by kernel_rfl) (fun _ _ _ h => h) (Or.inl ⟨by rfl, ?_⟩) ?_ ?_
      rotate_left
      · intro w'
        go_simp
        with_reducible rfl
      rotate_left
      · simp only [Act.put, List.setIfInBounds_toArray, List.set_cons_zero, List.set_cons_succ, i64_w, i32_w]
        rfl
      refine take_ (i := 4) (N := some 75) (v := ?_) (a' := ?_) #[true, true, true, true, true, true, true, true, false, true, false, false, false, false, false, false, false] rfl rfl (by kernel_rfl) (fun _ _ _ h => h) (Or.inl ⟨by rfl, ?_⟩) hHeld ?_ ?_
      rotate_left
      · rintro w' ⟨s0, s1⟩
        go_simp
        with_reducible rfl
      rotate_left
      · simp only [Act.put, List.setIfInBounds_toArray, List.set_cons_zero, List.set_cons_succ, i64_w, i32_w]
        rfl
      refine take_ (i := 8) (N := some 79) (v := ?_) (a' := ?_) #[true, true, true, true, true, true, true, true, true, true, false, false, false, false, false, false, false] rfl rfl (by kernel_rfl) (fun _ _ _ h => h) (Or.inl ⟨by rfl, ?_⟩) hHeld ?_ ?_
      rotate_left
      · rintro w' ⟨s0, s1⟩
        go_simp
        with_reducible rfl
      rotate_left
      · simp only [Act.put, List.setIfInBounds_toArray, List.set_cons_zero, List.set_cons_succ, i64_w, i32_w]
        rfl
      refine pure_ (i := 10) (N := some 81) (v := ?_) (a' := ?_) #[true, true, true, true, true, true, true, true, true, true, true, false, false, false, false, false, false] rfl rfl (by kernel_rfl) (fun _ _ _ h => h) (Or.inl ⟨by rfl, ?_⟩) ?_ ?_
      rotate_left
      · intro w'
        go_simp
        with_reducible rfl
      rotate_left
      · simp only [Act.put, List.setIfInBounds_toArray, List.set_cons_zero, List.set_cons_succ, i64_w, i32_w]
        rfl
      refine take_ (i := 11) (N := some 82) (v := .agg (nums .i32 (B.getD k [])).toArray) (a' := ?_) #[true, true, true, true, true, true, true, true, true, true, true, true, false, false, false, false, false] rfl rfl (by kernel_rfl) (fun _ _ _ h => h) (Or.inl ⟨by rfl, ?_⟩) hHeld ?_ ?_
      · rintro w' ⟨s0, s1⟩
        exact exec_load (ty := 36) (x := .tmp 81) rfl rfl (load_C (x := B.getD k []) HX.out s1)
      rotate_left
      · simp only [Act.put, List.setIfInBounds_toArray, List.set_cons_zero, List.set_cons_succ, i64_w, i32_w]
        rfl
      refine one_ (i := 12) (N := some 83) #[true, true, true, true, true, true, true, true, true, true, true, true, true, false, false, false, false] rfl rfl (by kernel_rfl) (by decide) (fun K hK => ?_)
      refine value_ (by rfl) rfl (build_C (x := .tmp 82) rfl rfl HX.out) ?_
      refine hK.out _ _ ⟨(World.cell?_alloc_past _ _ _ HTl.out).trans HC2.out, fun j u hu => cell_later (HCR.out j u hu)⟩ (fun hHeld => ?_)
      clear hK K
      refine norm_ (a' := ?_) ?_ ?_
      rotate_left
      · show Act.put _ (some 83) _ = _
        simp only [Act.put, List.setIfInBounds_toArray, List.set_cons_zero, List.set_cons_succ, i64_w, i32_w]
        rfl
      refine last_ (i := 13) (N := some 84) #[true, true, true, true, true, true, true, true, true, true, true, true, true, true, false, false, false] rfl rfl (by kernel_rfl) (by decide) (fun K hK => ?_)
      refine Kd.R_append_step kC (w0 := w0) base (by rfl) (.tmp 75) (.tmp 83) 38 36 (.agg (Array.replicate 256 (.int .i32 0))) 1024 rfl Try.underlying38 Try.infoC (by rfl) (by decide) (by omega) (.slice (some ⟨g, 0, none⟩) B.length cap) B (B.getD k []) (nums .i32 (B.getD k [])) (fun _ => True) (fun _ => False) rfl rfl (kC_mkM _ _ _ HX.out) (fun _ h => h.elim) (fun _ _ => trivial) HSD.out.hB HSD.out.below HSD.out.size (by omega) ?_
      intro v1 w1 ho hb hg hat
      obtain ⟨g1, cap1, rfl⟩ : ∃ g1 cap1, v1 = .slice (some ⟨g1, 0, none⟩) (B.length + 1) cap1 := by
        obtain ⟨g1, cap1, e, _⟩ := Kd.R_form ho (by rw [List.length_append]; simp)
        exact ⟨g1, cap1, by rw [e, List.length_append]; rfl⟩
      have hT1 := HSD.out.keepT (by decide) hg
      have HSP := Aside0.mk (HSD.out.putB (by decide) (by decide) hg ho hb)
      have d2 := row_cell hT1 2 _ rfl
      have e2 := row_free hT1 2
      clear ho hb hg hat hT1
      refine hK.out _ _ ?_
      clear hK K
      refine norm_ (a' := ?_) ?_ ?_
      rotate_left
      · show Act.put _ (some 84) _ = _
        simp only [Act.put, List.setIfInBounds_toArray, List.set_cons_zero, List.set_cons_succ, i64_w, i32_w]
        rfl
      refine pure_ (i := 14) (N := some 85) (v := ?_) (a' := ?_) #[true, true, true, true, true, true, true, true, true, true, true, true, true, true, true, false, false] rfl rfl (by kernel_rfl) (fun _ _ _ h => h) (Or.inl ⟨by rfl, ?_⟩) ?_ ?_
      rotate_left
      · intro w'
        go_simp
        with_reducible rfl
      rotate_left
      · simp only [Act.put, List.setIfInBounds_toArray, List.set_cons_zero, List.set_cons_succ, i64_w, i32_w]
        rfl
      refine pure_ (i := 15) (N := some 86) (v := ?_) (a' := ?_) #[true, true, true, true, true, true, true, true, true, true, true, true, true, true, true, true, false] rfl rfl (by kernel_rfl) (fun _ _ _ h => h) (Or.inl ⟨by rfl, ?_⟩) ?_ ?_
      rotate_left
      · intro w'
        go_simp
        with_reducible rfl
      rotate_left
      · simp only [Act.put, List.setIfInBounds_toArray, List.set_cons_zero, List.set_cons_succ, i64_w, i32_w]
        rfl
      refine last_ (i := 16) (N := none) #[true, true, true, true, true, true, true, true, true, true, true, true, true, true, true, true, true] rfl rfl (by kernel_rfl) (by decide) (fun K hK => ?_)
      refine skip_ (w1 := w1.setCell ⟨T, 2, none⟩ (.slice (some ⟨g1, 0, none⟩) (B.length + 1) cap1)) (by rfl) rfl ?_ ?_
      · go_simp
      refine hK.out _ _ ?_
      clear hK K
      refine done_ (by kernel_rfl) ?_
      obtain ⟨W, hW⟩ : ∃ W, w1.setCell ⟨T, 2, none⟩ (.slice (some ⟨g1, 0, none⟩) (B.length + 1) cap1) = W := ⟨_, rfl⟩
      rw [hW] at HSP ⊢
      clear hW d2 e2 c1 c2
      have c1 := row_cell HSP.out.hT 1 _ rfl
      have c2 := row_cell HSP.out.hT 2 _ rfl
      go_wp2_with (at_mapUpdate; refine storeF Try.mtF rfl _ _ _ rfl rfl HSP.out.hF (by omega) b (B.length : Int) rfl rfl (WalkArith.wf_i64 (by omega)) (WalkArith.wf_i64 (by omega)) ?_; intro w2 hF2 hg2)
      go_meet
      have hcp := HI.out.copy b
      have hbk : (blkOf F b).toNat = k := by unfold blkOf; rw [HK.out]; simp
      rw [hbk] at hcp
      exact ⟨B.length, _, upd F b B.length, B ++ [B.getD k []], rfl, ⟨HSP.out.putF hg2 hF2 ⟨hb0, hb1⟩⟩, ⟨hcp.1, HVI.out.snoc (HVI.out _ (getD_mem hkl)), by rw [List.length_append]; simp, upd_same _ _ _, hcp.2.2, hcp.2.1, by rw [List.length_append]; simp⟩⟩
    | false =>
      go_wp2
      go_meet
      have ho := HI.out.own_blk HK.out hkl HQ.out
      exact ⟨k, _, F, B, rfl, ⟨HS.out.more (by omega) (by omega)⟩, ⟨HI.out, HVI.out, hkl, ho.1, ho.2, fun _ => rfl, by omega⟩⟩
  case rest =>
    clear c1 c2 HTl HS HSD HC2 HCR
    obtain ⟨k1, bl1, F1, B1, rfl, HS1, HA⟩ := hcut
    obtain ⟨g1, cap1, rfl⟩ := HS1.out.form (by have := HA.out.2.2.1; omega)
    have hk1 := HA.out.2.2.1
    have HX1 : Aside0 ((B1.getD k1 []).length = 256) := ⟨HA.out.1.len _ (getD_mem hk1)⟩
    go_wp2
    go_loopg [17] (t + 1 - f) (fun gk x w' => ∃ c : Nat, x = .int .i64 (b * 256 + (c : Int)) ∧ Aside0 (f ≤ c ∧ c ≤ t + 1 ∧ gk = t + 1 - c) ∧ Aside0 (FS Kd.string 9 65 wk w0 base w' T m hb V (.slice (some ⟨g1, 0, none⟩) B1.length cap1) vals (n + 1) n F1 H (B1.set k1 (paint (B1.getD k1 []) f c v))))
    case atStart => exact ⟨f, rfl, ⟨Nat.le_refl _, by omega, rfl⟩, ⟨by rw [paint_none _ _ _ HX1.out, set_self hk1 rfl]; exact HS1.out⟩⟩
    case round =>
      clear HS1
      obtain ⟨c, rfl, HC, HSc⟩ := hrel
      have hlen : (B1.set k1 (paint (B1.getD k1 []) f c v)).length = B1.length := List.length_set
      by_cases hc : c ≤ t
      · have c2 := row_cell HSc.out.hT 2 _ rfl
        have h8 : bits .and .i64 (b * 256 + (c : Int)) 255 = (c : Int) := by rw [and255 (by omega) (by omega)]; omega
        have hlt : b * 256 + (c : Int) ≤ b * 256 + (t : Int) := by omega
        have hc256 : c < 256 := by omega
        have hold := HSc.out.part (k := k1) (by rw [hlen]; exact hk1) c (.int .i32 ((paint (B1.getD k1 []) f c v).getD c 0)) (by
          rw [set_at hk1]
          exact nums_at (by rw [paint_len]; exact hc256))
        rw [add_at] at hold
        have hfr := HSc.out.free (k1 * 256 + c)
        clear hlen
        go_wp2
        go_roundg (gk - 1)
        case measure => have := HC.out; omega
        case rel =>
          refine ⟨c + 1, congrArg (Value.int .i64) (by omega), ⟨by have := HC.out; omega, by omega, by have := HC.out; omega⟩, ⟨?_⟩⟩
          have h5 := HSc.out.putC (by decide) (by decide) rfl k1 c (by rw [List.length_set]; exact hk1) hc256 v
          rw [set_twice hk1, paint_step _ _ _ _ HC.out.1 hc256] at h5
          exact h5
      · have hlt : ¬ (b * 256 + (c : Int) ≤ b * 256 + (t : Int)) := by omega
        obtain rfl : c = t + 1 := by have := HC.out; omega
        clear hlen
        go_wp2
        go_end0
        obtain ⟨h1, h2, h3, h4, h5, h6, h7⟩ := HA.out
        have hp := h1.part (v := v) (f := f) (c := t + 1) h4 h5 (by omega) (by omega)
        rw [Int.toNat_natCast] at hp
        refine ⟨rfl, _, F1, H, _, HSc.out.more (by omega) (by omega), hp.1, h2.paint hk1 HX1.out hv0 hv1, by rw [List.length_set]; exact h7, fun r => ?_⟩
        rw [hp.2 r, h6 r]
        by_cases e : r / 256 = b ∧ (f : Int) ≤ r % 256 ∧ r % 256 ≤ t
        · rw [if_pos e, if_pos ⟨e.1, e.2.1, by omega⟩]
        · rw [if_neg e, if_neg (fun h => e ⟨h.1, h.2.1, by omega⟩)]

end Go.Proofs.Ytpgnfccamcefgab

/- Walk: the trie's fill, over string: a whole block. Written by trgen.py. -/
namespace Go.Proofs.Ytpgnfccamcefgab
set_option linter.unusedVariables false
set_option linter.unusedSimpArgs false
open Go.RowKit Go.Proofs.YtpgnfccamcefgabW.PrintWords Go.Proofs.YtpgnfccamcefgabW.PrintLast Go.Proofs.YtpgnfccamcefgabW.PrintMore

set_option maxHeartbeats 4000000 in
set_option maxRecDepth 100000 in
theorem fillWS_old (wk w0 w : World) (base T m hb : Nat) (V bl : Value) (vals : List ByteArray) (n nv : Nat) (F H : Int → Option Int) (B : List (List Int)) (b v k : Int) (h : FS Kd.string 9 65 wk w0 base w T m hb V bl vals n n F H B) (hi : TInv F H B) (hvi : VInv nv B)
    (hn : n < 1000000) (hB : B.length < 1000000) (hnv : nv ≤ 2147483647) (hb0 : 0 ≤ b) (hb1 : b ≤ 4351) (hv0 : 0 ≤ v) (hv1 : v < nv) (hk : H v = some k) :
    Calls Try.prog 25 #[.pointer (some ⟨T, 0, none⟩), .map (some hb), .int .i64 b, .int .i64 (b * 256), .int .i64 (b * 256 + 255), .int .i32 v] w
      (FillRet Kd.string 9 65 wk w0 base T m hb V vals n nv B.length (fun F' B' => ∀ r, cellOf F' B' r = if r / 256 = b then v else cellOf F B r)) := by
  have hpb : ((b * 256 + 255 - b * 256) == 255) = true := beq_iff_eq.2 (by omega)
  have c1 := row_cell h.hT 1 _ rfl
  obtain ⟨k0, k1, _⟩ := hi.wholeIn v k hk
  have HS := Aside0.mk h
  have HI := Aside0.mk hi
  have HVI := Aside0.mk hvi
  have HK := Aside0.mk hk
  clear h hi hvi hk
  go_enter Try.func25, Try.ntmps25
  go_wp2_with (first | (at_lookup; refine lookupF_ok Try.mtH rfl _ _ rfl rfl HS.out.hH v rfl (WalkArith.wf_i32 (by omega)) ?_; rw [HK.out]) | (at_mapUpdate; refine storeF Try.mtF rfl _ _ _ rfl rfl HS.out.hF (by omega) b k rfl rfl (WalkArith.wf_i64 (by omega)) (WalkArith.wf_i64 (by omega)) ?_; intro w2 hF2 hg2))
  go_end0
  have hw := HI.out.whole_old (b := b) HK.out
  exact ⟨rfl, _, _, H, B, (HS.out.putF hg2 hF2 ⟨hb0, hb1⟩).more (Nat.le_refl _) (by omega), hw.1, HVI.out, by omega, hw.2⟩

set_option maxHeartbeats 4000000 in
set_option maxRecDepth 100000 in
theorem fillWS_new (wk w0 w : World) (base T m hb : Nat) (V bl : Value) (vals : List ByteArray) (n nv : Nat) (F H : Int → Option Int) (B : List (List Int)) (b v : Int) (h : FS Kd.string 9 65 wk w0 base w T m hb V bl vals n n F H B) (hi : TInv F H B) (hvi : VInv nv B)
    (hn : n < 1000000) (hB : B.length < 1000000) (hnv : nv ≤ 2147483647) (hb0 : 0 ≤ b) (hb1 : b ≤ 4351) (hv0 : 0 ≤ v) (hv1 : v < nv) (hk : H v = none) :
    Calls Try.prog 25 #[.pointer (some ⟨T, 0, none⟩), .map (some hb), .int .i64 b, .int .i64 (b * 256), .int .i64 (b * 256 + 255), .int .i32 v] w
      (FillRet Kd.string 9 65 wk w0 base T m hb V vals n nv B.length (fun F' B' => ∀ r, cellOf F' B' r = if r / 256 = b then v else cellOf F B r)) := by
  have hpb : ((b * 256 + 255 - b * 256) == 255) = true := beq_iff_eq.2 (by omega)
  obtain ⟨g, cap, rfl⟩ := h.form (by have := hi.zero.1; omega)
  have c1 := row_cell h.hT 1 _ rfl
  have c2 := row_cell h.hT 2 _ rfl
  have HS := Aside0.mk h
  have HI := Aside0.mk hi
  have HVI := Aside0.mk hvi
  have HK := Aside0.mk hk
  clear h hi hvi hk
  go_enter Try.func25, Try.ntmps25
  go_wp2_with (at_lookup; refine lookupF_ok Try.mtH rfl _ _ rfl rfl HS.out.hH v rfl (WalkArith.wf_i32 (by omega)) ?_; rw [HK.out])
  have HSA : Aside0 (Below w.heap.size w (w.alloc (.cells Try.zeroCells36 36))) := ⟨below_alloc (Below.refl _ _) _⟩
  have HZ : Aside0 ((w.alloc (.cells Try.zeroCells36 36)).heap[w.heap.size]? = some (.cells (nums .i32 (part256 v 0)).toArray 36 (0, 0))) := ⟨by rw [← zeros256 v]; exact heap_alloc_new _ _⟩
  obtain ⟨c, hc⟩ : ∃ c, w.heap.size = c := ⟨_, rfl⟩
  have HCC := Aside0.mk hc
  rw [hc] at HZ HSA ⊢
  clear hc c1 c2 hpb
  go_loopg [35] 256 (fun gk x w' => ∃ i : Nat, x = .int .i64 (i : Int) ∧ Aside0 (i ≤ 256 ∧ gk = 256 - i) ∧ Aside0 (w'.heap[c]? = some (.cells (nums .i32 (part256 v i)).toArray 36 (0, 0))) ∧ Aside0 (Below c w w'))
  case atStart => exact ⟨0, by first | rfl | simp, ⟨Nat.zero_le _, rfl⟩, HZ, HSA⟩
  case round =>
    clear HZ HSA
    obtain ⟨i, rfl, HC, HR, HB⟩ := hrel
    by_cases hi2 : i < 256
    · have hold := row_cell HR.out i (.int .i32 ((part256 v i).getD i 0)) (by rw [List.getElem?_toArray]; exact nums_at (by rw [part256_len]; exact hi2))
      have hfr := row_free HR.out i
      go_wp2
      go_roundg (gk - 1)
      case measure => have := HC.out; omega
      case rel =>
        refine ⟨i + 1, by go_num, ⟨by omega, by have := HC.out; omega⟩, ⟨?_⟩, ⟨HB.out.setCell (Nat.le_refl _) _⟩⟩
        rw [heap_setCell_same _ c i _ _ _ HR.out, part256_step hi2]
    · obtain rfl : i = 256 := by have := HC.out; omega
      have hcd := HCC.out
      have HSD : Aside0 (FS Kd.string 9 65 wk w0 base wr.drew T m hb V (.slice (some ⟨g, 0, none⟩) B.length cap) vals n n F H B) := ⟨HS.out.to (below_drew (hcd ▸ HB.out))⟩
      have HC2 : Aside0 (wr.drew.cell? ⟨T, 2, none⟩ = some (.slice (some ⟨g, 0, none⟩) B.length cap)) := ⟨row_cell HSD.out.hT 2 _ rfl⟩
      have HCR : Aside0 (∀ j u, (nums .i32 (part256 v 256))[j]? = some u → wr.drew.cell? ((⟨c, 0, none⟩ : Addr).add j) = some u) := ⟨fun j u hu => by rw [add_plain]; exact row_cell (w := wr.drew) HR.out j u (by rw [List.getElem?_toArray]; exact hu)⟩
      go_wp2
      refine start_ (n := 11) (S := fun w' => w'.cell? ⟨T, 2, none⟩ = some (.slice (some ⟨g, 0, none⟩) B.length cap) ∧ ∀ j u, (nums .i32 (part256 v 256))[j]? = some u → w'.cell? ((⟨c, 0, none⟩ : Addr).add j) = some u) (ds := [7, 10]) #[false, false, false, false, false, false, false, false, false, false, false] (by kernel_rfl) rfl rfl ⟨HC2.out, HCR.out⟩ (fun hHeld => ?_)
      refine pure_ (i := 0) (N := some 42) (v := ?_) (a' := ?_) #[true, false, false, false, false, false, false, false, false, false, false] rfl rfl (by kernel_rfl) (fun _ _ _ h => h) (Or.inl ⟨by rfl, ?_⟩) ?_ ?_
      rotate_left
      · intro w'
        go_simp
        with_reducible rfl
      rotate_left
      · simp only [Act.put, List.setIfInBounds_toArray, List.set_cons_zero, List.set_cons_succ, i64_w, i32_w]
        rfl
      refine pure_ (i := 1) (N := some 43) (v := ?_) (a' := ?_) #[true, true, false, false, false, false, false, false, false, false, false] rfl rfl (by kernel_rfl) (fun _ _ _ h => h) (Or.inl ⟨by rfl, ?_⟩) ?_ ?_
      rotate_left
      · intro w'
        go_simp
        with_reducible rfl
      rotate_left
      · simp only [Act.put, List.setIfInBounds_toArray, List.set_cons_zero, List.set_cons_succ, i64_w, i32_w]
        rfl
      refine pure_ (i := 2) (N := some 44) (v := ?_) (a' := ?_) #[true, true, true, false, false, false, false, false, false, false, false] rfl rfl (by kernel_rfl) (fun _ _ _ h => h) (Or.inl ⟨by rfl, ?_⟩) ?_ ?_
      rotate_left
      · intro w'
        go_simp
        with_reducible rfl
      rotate_left
      · simp only [Act.put, List.setIfInBounds_toArray, List.set_cons_zero, List.set_cons_succ, i64_w, i32_w]
        rfl
      refine pure_ (i := 3) (N := some 45) (v := ?_) (a' := ?_) #[true, true, true, true, false, false, false, false, false, false, false] rfl rfl (by kernel_rfl) (fun _ _ _ h => h) (Or.inl ⟨by rfl, ?_⟩) ?_ ?_
      rotate_left
      · intro w'
        go_simp
        with_reducible rfl
      rotate_left
      · simp only [Act.put, List.setIfInBounds_toArray, List.set_cons_zero, List.set_cons_succ, i64_w, i32_w]
        rfl
      refine take_ (i := 4) (N := some 46) (v := ?_) (a' := ?_) #[true, true, true, true, true, false, false, false, false, false, false] rfl rfl (by kernel_rfl) (fun _ _ _ h => h) (Or.inl ⟨by rfl, ?_⟩) hHeld ?_ ?_
      rotate_left
      · rintro w' ⟨s0, s1⟩
        go_simp
        with_reducible rfl
      rotate_left
      · simp only [Act.put, List.setIfInBounds_toArray, List.set_cons_zero, List.set_cons_succ, i64_w, i32_w]
        rfl
      refine take_ (i := 5) (N := some 47) (v := .agg (nums .i32 (part256 v 256)).toArray) (a' := ?_) #[true, true, true, true, true, true, false, false, false, false, false] rfl rfl (by kernel_rfl) (fun _ _ _ h => h) (Or.inl ⟨by rfl, ?_⟩) hHeld ?_ ?_
      · rintro w' ⟨s0, s1⟩
        exact exec_load (ty := 36) (x := .tmp 14) rfl rfl (load_C (x := part256 v 256) part256_len s1)
      rotate_left
      · simp only [Act.put, List.setIfInBounds_toArray, List.set_cons_zero, List.set_cons_succ, i64_w, i32_w]
        rfl
      refine one_ (i := 6) (N := some 48) #[true, true, true, true, true, true, true, false, false, false, false] rfl rfl (by kernel_rfl) (by decide) (fun K hK => ?_)
      refine value_ (by rfl) rfl (build_C (x := .tmp 47) rfl rfl part256_len) ?_
      refine hK.out _ _ ⟨cell_later HC2.out, fun j u hu => cell_later (HCR.out j u hu)⟩ (fun hHeld => ?_)
      clear hK K
      refine norm_ (a' := ?_) ?_ ?_
      rotate_left
      · show Act.put _ (some 48) _ = _
        simp only [Act.put, List.setIfInBounds_toArray, List.set_cons_zero, List.set_cons_succ, i64_w, i32_w]
        rfl
      refine last_ (i := 7) (N := some 49) #[true, true, true, true, true, true, true, true, false, false, false] rfl rfl (by kernel_rfl) (by decide) (fun K hK => ?_)
      refine Kd.R_append_step kC (w0 := w0) base (by rfl) (.tmp 46) (.tmp 48) 38 36 (.agg (Array.replicate 256 (.int .i32 0))) 1024 rfl Try.underlying38 Try.infoC (by rfl) (by decide) (by omega) (.slice (some ⟨g, 0, none⟩) B.length cap) B (part256 v 256) (nums .i32 (part256 v 256)) (fun _ => True) (fun _ => False) rfl rfl (kC_mkM _ _ _ part256_len) (fun _ h => h.elim) (fun _ _ => trivial) HSD.out.hB HSD.out.below HSD.out.size (by omega) ?_
      intro v1 w1 ho hb2 hg hat
      obtain ⟨g1, cap1, rfl⟩ : ∃ g1 cap1, v1 = .slice (some ⟨g1, 0, none⟩) (B.length + 1) cap1 := by
        obtain ⟨g1, cap1, e, _⟩ := Kd.R_form ho (by rw [List.length_append]; simp)
        exact ⟨g1, cap1, by rw [e, List.length_append]; rfl⟩
      have hT1 := HSD.out.keepT (by decide) hg
      have HSP := Aside0.mk (HSD.out.putB (by decide) (by decide) hg ho hb2)
      have d2 := row_cell hT1 2 _ rfl
      have e2 := row_free hT1 2
      clear ho hb2 hg hat hT1
      refine hK.out _ _ ?_
      clear hK K
      refine norm_ (a' := ?_) ?_ ?_
      rotate_left
      · show Act.put _ (some 49) _ = _
        simp only [Act.put, List.setIfInBounds_toArray, List.set_cons_zero, List.set_cons_succ, i64_w, i32_w]
        rfl
      refine pure_ (i := 8) (N := some 50) (v := ?_) (a' := ?_) #[true, true, true, true, true, true, true, true, true, false, false] rfl rfl (by kernel_rfl) (fun _ _ _ h => h) (Or.inl ⟨by rfl, ?_⟩) ?_ ?_
      rotate_left
      · intro w'
        go_simp
        with_reducible rfl
      rotate_left
      · simp only [Act.put, List.setIfInBounds_toArray, List.set_cons_zero, List.set_cons_succ, i64_w, i32_w]
        rfl
      refine pure_ (i := 9) (N := some 51) (v := ?_) (a' := ?_) #[true, true, true, true, true, true, true, true, true, true, false] rfl rfl (by kernel_rfl) (fun _ _ _ h => h) (Or.inl ⟨by rfl, ?_⟩) ?_ ?_
      rotate_left
      · intro w'
        go_simp
        with_reducible rfl
      rotate_left
      · simp only [Act.put, List.setIfInBounds_toArray, List.set_cons_zero, List.set_cons_succ, i64_w, i32_w]
        rfl
      refine last_ (i := 10) (N := none) #[true, true, true, true, true, true, true, true, true, true, true] rfl rfl (by kernel_rfl) (by decide) (fun K hK => ?_)
      refine skip_ (w1 := w1.setCell ⟨T, 2, none⟩ (.slice (some ⟨g1, 0, none⟩) (B.length + 1) cap1)) (by rfl) rfl ?_ ?_
      · go_simp
      refine hK.out _ _ ?_
      clear hK K
      refine done_ (by kernel_rfl) ?_
      obtain ⟨W, hW⟩ : ∃ W, w1.setCell ⟨T, 2, none⟩ (.slice (some ⟨g1, 0, none⟩) (B.length + 1) cap1) = W := ⟨_, rfl⟩
      rw [hW] at HSP ⊢
      clear hW d2 e2 hcd
      go_wp2_with (first | (at_mapUpdate; refine storeF Try.mtH rfl _ _ _ rfl rfl HSP.out.hH (by omega) v (B.length : Int) rfl rfl (WalkArith.wf_i32 (by omega)) (WalkArith.wf_i64 (by omega)) ?_; intro w2 hH2 hg2; have HSQ := Aside0.mk (HSP.out.putH hg2 hH2); have c1 := row_cell HSQ.out.hT 1 _ rfl; clear hH2 hg2) | (at_mapUpdate; refine storeF Try.mtF rfl _ _ _ rfl rfl HSQ.out.hF (by omega) b (B.length : Int) rfl rfl (WalkArith.wf_i64 (by omega)) (WalkArith.wf_i64 (by omega)) ?_; intro w3 hF3 hg3))
      go_end0
      have hw := HI.out.whole_new (b := b) HK.out
      refine ⟨rfl, _, _, _, _, HSQ.out.putF hg3 hF3 ⟨hb0, hb1⟩, ?_, ?_, ?_, ?_⟩
      · rw [part256_all]; exact hw.1
      · rw [part256_all]; exact HVI.out.snoc (fun x hx => by rw [List.eq_of_mem_replicate hx]; omega)
      · rw [List.length_append]; simp
      · rw [part256_all]; exact hw.2

end Go.Proofs.Ytpgnfccamcefgab

/- The trie's fill, over string, whatever the part. Written by trgen.py. -/
namespace Go.Proofs.Ytpgnfccamcefgab
set_option linter.unusedVariables false
set_option linter.unusedSimpArgs false
open Go.RowKit Go.Proofs.YtpgnfccamcefgabW.PrintWords Go.Proofs.YtpgnfccamcefgabW.PrintLast Go.Proofs.YtpgnfccamcefgabW.PrintMore

theorem fillS_any (wk w0 w : World) (base T m hb : Nat) (V bl : Value) (vals : List ByteArray) (n nv : Nat) (F H : Int → Option Int) (B : List (List Int)) (b v fr tt : Int) (h : FS Kd.string 9 65 wk w0 base w T m hb V bl vals n n F H B) (hi : TInv F H B) (hvi : VInv nv B)
    (hn : n < 1000000) (hB : B.length < 1000000) (hnv : nv ≤ 2147483647) (hb0 : 0 ≤ b) (hb1 : b ≤ 4351) (hfr : b * 256 ≤ fr) (hft : fr ≤ tt) (htt : tt ≤ b * 256 + 255) (hv0 : 0 ≤ v) (hv1 : v < nv) :
    Calls Try.prog 25 #[.pointer (some ⟨T, 0, none⟩), .map (some hb), .int .i64 b, .int .i64 fr, .int .i64 tt, .int .i32 v] w
      (FillRet Kd.string 9 65 wk w0 base T m hb V vals n nv B.length (fun F' B' => ∀ r, cellOf F' B' r = if fr ≤ r ∧ r ≤ tt then v else cellOf F B r)) := by
  obtain ⟨f, rfl⟩ : ∃ f : Nat, fr = b * 256 + (f : Int) := ⟨(fr - b * 256).toNat, by omega⟩
  obtain ⟨t, rfl⟩ : ∃ t : Nat, tt = b * 256 + (t : Int) := ⟨(tt - b * 256).toNat, by omega⟩
  have hif : ∀ (p q : Prop) [Decidable p] [Decidable q] (x y : Int), (p ↔ q) → (if p then x else y) = if q then x else y := fun p q _ _ x y hpq => by
    by_cases hp : p
    · rw [if_pos hp, if_pos (hpq.1 hp)]
    · rw [if_neg hp, if_neg (fun hq => hp (hpq.2 hq))]
  by_cases hp : t - f ≠ 255
  · refine (fillPS_any wk w0 w base T m hb V bl vals n nv F H B b v f t h hi hvi hn hB hnv hb0 hb1 (by omega) (by omega) hv0 hv1 hp).mono ?_
    rintro e w' ⟨he, bl', F', H', B', h1, h2, h3, h4, h5⟩
    exact ⟨he, bl', F', H', B', h1, h2, h3, h4, fun r => (h5 r).trans (hif _ _ _ _ (by omega))⟩
  · obtain rfl : f = 0 := by omega
    obtain rfl : t = 255 := by omega
    have e1 : b * 256 + ((0 : Nat) : Int) = b * 256 := by omega
    have e2 : b * 256 + ((255 : Nat) : Int) = b * 256 + 255 := by omega
    rw [e1, e2]
    cases hk : H v with
    | some k =>
      refine (fillWS_old wk w0 w base T m hb V bl vals n nv F H B b v k h hi hvi hn hB hnv hb0 hb1 hv0 hv1 hk).mono ?_
      rintro e w' ⟨he, bl', F', H', B', h1, h2, h3, h4, h5⟩
      exact ⟨he, bl', F', H', B', h1, h2, h3, h4, fun r => (h5 r).trans (hif _ _ _ _ (by omega))⟩
    | none =>
      refine (fillWS_new wk w0 w base T m hb V bl vals n nv F H B b v h hi hvi hn hB hnv hb0 hb1 hv0 hv1 hk).mono ?_
      rintro e w' ⟨he, bl', F', H', B', h1, h2, h3, h4, h5⟩
      exact ⟨he, bl', F', H', B', h1, h2, h3, h4, fun r => (h5 r).trans (hif _ _ _ _ (by omega))⟩

end Go.Proofs.Ytpgnfccamcefgab
