/- Walk: the trie's fill, over string: a whole block. Written by trgen.py. -/
import Derived.Test.YtpgnfccamcefgaaTrShS
import Derived.Test.YtpgnfccamcefgaaTrV
namespace Go.Proofs.Ytpgnfccamcefgaa
set_option linter.unusedVariables false
set_option linter.unusedSimpArgs false
open Go.RowKit Go.Proofs.YtpgnfccamcefgaaW.PrintWords Go.Proofs.YtpgnfccamcefgaaW.PrintLast Go.Proofs.YtpgnfccamcefgaaW.PrintMore

set_option maxHeartbeats 4000000 in
set_option maxRecDepth 100000 in
theorem fillWS_old (wk w0 w : World) (base T m hb : Nat) (V bl : Value) (vals : List ByteArray) (n nv : Nat) (F H : Int → Option Int) (B : List (List Int)) (b v k : Int) (h : FS Kd.string 9 71 wk w0 base w T m hb V bl vals n n F H B) (hi : TInv F H B) (hvi : VInv nv B)
    (hn : n < 1000000) (hB : B.length < 1000000) (hnv : nv ≤ 2147483647) (hb0 : 0 ≤ b) (hb1 : b ≤ 4351) (hv0 : 0 ≤ v) (hv1 : v < nv) (hk : H v = some k) :
    Calls Try.prog 60 #[.pointer (some ⟨T, 0, none⟩), .map (some hb), .int .i64 b, .int .i64 (b * 256), .int .i64 (b * 256 + 255), .int .i32 v] w
      (FillRet Kd.string 9 71 wk w0 base T m hb V vals n nv B.length (fun F' B' => ∀ r, cellOf F' B' r = if r / 256 = b then v else cellOf F B r)) := by
  have hpb : ((b * 256 + 255 - b * 256) == 255) = true := beq_iff_eq.2 (by omega)
  have c1 := row_cell h.hT 1 _ rfl
  obtain ⟨k0, k1, _⟩ := hi.wholeIn v k hk
  have HS := Aside0.mk h
  have HI := Aside0.mk hi
  have HVI := Aside0.mk hvi
  have HK := Aside0.mk hk
  clear h hi hvi hk
  go_enter Try.func60, Try.ntmps60
  go_wp2_with (first | (at_lookup; refine lookupF_ok Try.mtH rfl _ _ rfl rfl HS.out.hH v rfl (WalkArith.wf_i32 (by omega)) ?_; rw [HK.out]) | (at_mapUpdate; refine storeF Try.mtF rfl _ _ _ rfl rfl HS.out.hF (by omega) b k rfl rfl (WalkArith.wf_i64 (by omega)) (WalkArith.wf_i64 (by omega)) ?_; intro w2 hF2 hg2))
  go_end0
  have hw := HI.out.whole_old (b := b) HK.out
  exact ⟨rfl, _, _, H, B, (HS.out.putF hg2 hF2 ⟨hb0, hb1⟩).more (Nat.le_refl _) (by omega), hw.1, HVI.out, by omega, hw.2⟩

set_option maxHeartbeats 4000000 in
set_option maxRecDepth 100000 in
theorem fillWS_new (wk w0 w : World) (base T m hb : Nat) (V bl : Value) (vals : List ByteArray) (n nv : Nat) (F H : Int → Option Int) (B : List (List Int)) (b v : Int) (h : FS Kd.string 9 71 wk w0 base w T m hb V bl vals n n F H B) (hi : TInv F H B) (hvi : VInv nv B)
    (hn : n < 1000000) (hB : B.length < 1000000) (hnv : nv ≤ 2147483647) (hb0 : 0 ≤ b) (hb1 : b ≤ 4351) (hv0 : 0 ≤ v) (hv1 : v < nv) (hk : H v = none) :
    Calls Try.prog 60 #[.pointer (some ⟨T, 0, none⟩), .map (some hb), .int .i64 b, .int .i64 (b * 256), .int .i64 (b * 256 + 255), .int .i32 v] w
      (FillRet Kd.string 9 71 wk w0 base T m hb V vals n nv B.length (fun F' B' => ∀ r, cellOf F' B' r = if r / 256 = b then v else cellOf F B r)) := by
  have hpb : ((b * 256 + 255 - b * 256) == 255) = true := beq_iff_eq.2 (by omega)
  obtain ⟨g, cap, rfl⟩ := h.form (by have := hi.zero.1; omega)
  have c1 := row_cell h.hT 1 _ rfl
  have c2 := row_cell h.hT 2 _ rfl
  have HS := Aside0.mk h
  have HI := Aside0.mk hi
  have HVI := Aside0.mk hvi
  have HK := Aside0.mk hk
  clear h hi hvi hk
  go_enter Try.func60, Try.ntmps60
  go_wp2_with (at_lookup; refine lookupF_ok Try.mtH rfl _ _ rfl rfl HS.out.hH v rfl (WalkArith.wf_i32 (by omega)) ?_; rw [HK.out])
  have HSA : Aside0 (Below w.heap.size w (w.alloc (.cells Try.zeroCells88 88))) := ⟨below_alloc (Below.refl _ _) _⟩
  have HZ : Aside0 ((w.alloc (.cells Try.zeroCells88 88)).heap[w.heap.size]? = some (.cells (nums .i32 (part256 v 0)).toArray 88 (0, 0))) := ⟨by rw [← zeros256 v]; exact heap_alloc_new _ _⟩
  obtain ⟨c, hc⟩ : ∃ c, w.heap.size = c := ⟨_, rfl⟩
  have HCC := Aside0.mk hc
  rw [hc] at HZ HSA ⊢
  clear hc c1 c2 hpb
  go_loopg [35] 256 (fun gk x w' => ∃ i : Nat, x = .int .i64 (i : Int) ∧ Aside0 (i ≤ 256 ∧ gk = 256 - i) ∧ Aside0 (w'.heap[c]? = some (.cells (nums .i32 (part256 v i)).toArray 88 (0, 0))) ∧ Aside0 (Below c w w'))
  case atStart => exact ⟨0, by first | rfl | simp, ⟨Nat.zero_le _, rfl⟩, HZ, HSA⟩
  case round =>
    clear HZ HSA
    obtain ⟨i, rfl, HC, HR, HB⟩ := hrel
    by_cases hi2 : i < 256
    · have hold := row_cell HR.out i (.int .i32 ((part256 v i).getD i 0)) (by rw [List.getElem?_toArray]; exact nums_at (by rw [part256_len]; exact hi2))
      have hfr := row_free HR.out i
      go_wp2
      go_roundg (gk - 1)
      case measure => have := HC.out; omega
      case rel =>
        refine ⟨i + 1, by go_num, ⟨by omega, by have := HC.out; omega⟩, ⟨?_⟩, ⟨HB.out.setCell (Nat.le_refl _) _⟩⟩
        rw [heap_setCell_same _ c i _ _ _ HR.out, part256_step hi2]
    · obtain rfl : i = 256 := by have := HC.out; omega
      have hcd := HCC.out
      have HSD : Aside0 (FS Kd.string 9 71 wk w0 base wr.drew T m hb V (.slice (some ⟨g, 0, none⟩) B.length cap) vals n n F H B) := ⟨HS.out.to (below_drew (hcd ▸ HB.out))⟩
      have HC2 : Aside0 (wr.drew.cell? ⟨T, 2, none⟩ = some (.slice (some ⟨g, 0, none⟩) B.length cap)) := ⟨row_cell HSD.out.hT 2 _ rfl⟩
      have HCR : Aside0 (∀ j u, (nums .i32 (part256 v 256))[j]? = some u → wr.drew.cell? ((⟨c, 0, none⟩ : Addr).add j) = some u) := ⟨fun j u hu => by rw [add_plain]; exact row_cell (w := wr.drew) HR.out j u (by rw [List.getElem?_toArray]; exact hu)⟩
      go_wp2
      refine start_ (n := 11) (S := fun w' => w'.cell? ⟨T, 2, none⟩ = some (.slice (some ⟨g, 0, none⟩) B.length cap) ∧ ∀ j u, (nums .i32 (part256 v 256))[j]? = some u → w'.cell? ((⟨c, 0, none⟩ : Addr).add j) = some u) (ds := [7, 10]) #[false, false, false, false, false, false, false, false, false, false, false] (by kernel_rfl) rfl rfl ⟨HC2.out, HCR.out⟩ (fun hHeld => ?_)
      refine pure_ (i := 0) (N := some 42) (v := ?_) (a' := ?_) #[true, false, false, false, false, false, false, false, false, false, false] rfl rfl (by kernel_rfl) (fun _ _ _ h => h) (Or.inl ⟨by rfl, ?_⟩) ?_ ?_
      rotate_left
      · intro w'
        go_simp
        with_reducible rfl
      rotate_left
      · simp only [Act.put, List.setIfInBounds_toArray, List.set_cons_zero, List.set_cons_succ, i64_w, i32_w]
        rfl
      refine pure_ (i := 1) (N := some 43) (v := ?_) (a' := ?_) #[true, true, false, false, false, false, false, false, false, false, false] rfl rfl (by kernel_rfl) (fun _ _ _ h => h) (Or.inl ⟨by rfl, ?_⟩) ?_ ?_
      rotate_left
      · intro w'
        go_simp
        with_reducible rfl
      rotate_left
      · simp only [Act.put, List.setIfInBounds_toArray, List.set_cons_zero, List.set_cons_succ, i64_w, i32_w]
        rfl
      refine pure_ (i := 2) (N := some 44) (v := ?_) (a' := ?_) #[true, true, true, false, false, false, false, false, false, false, false] rfl rfl (by kernel_rfl) (fun _ _ _ h => h) (Or.inl ⟨by rfl, ?_⟩) ?_ ?_
      rotate_left
      · intro w'
        go_simp
        with_reducible rfl
      rotate_left
      · simp only [Act.put, List.setIfInBounds_toArray, List.set_cons_zero, List.set_cons_succ, i64_w, i32_w]
        rfl
      refine pure_ (i := 3) (N := some 45) (v := ?_) (a' := ?_) #[true, true, true, true, false, false, false, false, false, false, false] rfl rfl (by kernel_rfl) (fun _ _ _ h => h) (Or.inl ⟨by rfl, ?_⟩) ?_ ?_
      rotate_left
      · intro w'
        go_simp
        with_reducible rfl
      rotate_left
      · simp only [Act.put, List.setIfInBounds_toArray, List.set_cons_zero, List.set_cons_succ, i64_w, i32_w]
        rfl
      refine take_ (i := 4) (N := some 46) (v := ?_) (a' := ?_) #[true, true, true, true, true, false, false, false, false, false, false] rfl rfl (by kernel_rfl) (fun _ _ _ h => h) (Or.inl ⟨by rfl, ?_⟩) hHeld ?_ ?_
      rotate_left
      · rintro w' ⟨s0, s1⟩
        go_simp
        with_reducible rfl
      rotate_left
      · simp only [Act.put, List.setIfInBounds_toArray, List.set_cons_zero, List.set_cons_succ, i64_w, i32_w]
        rfl
      refine take_ (i := 5) (N := some 47) (v := .agg (nums .i32 (part256 v 256)).toArray) (a' := ?_) #[true, true, true, true, true, true, false, false, false, false, false] rfl rfl (by kernel_rfl) (fun _ _ _ h => h) (Or.inl ⟨by rfl, ?_⟩) hHeld ?_ ?_
      · rintro w' ⟨s0, s1⟩
        exact exec_load (ty := 88) (x := .tmp 14) rfl rfl (load_C (x := part256 v 256) part256_len s1)
      rotate_left
      · simp only [Act.put, List.setIfInBounds_toArray, List.set_cons_zero, List.set_cons_succ, i64_w, i32_w]
        rfl
      refine one_ (i := 6) (N := some 48) #[true, true, true, true, true, true, true, false, false, false, false] rfl rfl (by kernel_rfl) (by decide) (fun K hK => ?_)
      refine value_ (by rfl) rfl (build_C (x := .tmp 47) rfl rfl part256_len) ?_
      refine hK.out _ _ ⟨cell_later HC2.out, fun j u hu => cell_later (HCR.out j u hu)⟩ (fun hHeld => ?_)
      clear hK K
      refine norm_ (a' := ?_) ?_ ?_
      rotate_left
      · show Act.put _ (some 48) _ = _
        simp only [Act.put, List.setIfInBounds_toArray, List.set_cons_zero, List.set_cons_succ, i64_w, i32_w]
        rfl
      refine last_ (i := 7) (N := some 49) #[true, true, true, true, true, true, true, true, false, false, false] rfl rfl (by kernel_rfl) (by decide) (fun K hK => ?_)
      refine Kd.R_append_step kC (w0 := w0) base (by rfl) (.tmp 46) (.tmp 48) 69 88 (.agg (Array.replicate 256 (.int .i32 0))) 1024 rfl Try.underlying69 Try.infoC (by rfl) (by decide) (by omega) (.slice (some ⟨g, 0, none⟩) B.length cap) B (part256 v 256) (nums .i32 (part256 v 256)) (fun _ => True) (fun _ => False) rfl rfl (kC_mkM _ _ _ part256_len) (fun _ h => h.elim) (fun _ _ => trivial) HSD.out.hB HSD.out.below HSD.out.size (by omega) ?_
      intro v1 w1 ho hb2 hg hat
      obtain ⟨g1, cap1, rfl⟩ : ∃ g1 cap1, v1 = .slice (some ⟨g1, 0, none⟩) (B.length + 1) cap1 := by
        obtain ⟨g1, cap1, e, _⟩ := Kd.R_form ho (by rw [List.length_append]; simp)
        exact ⟨g1, cap1, by rw [e, List.length_append]; rfl⟩
      have hT1 := HSD.out.keepT (by decide) hg
      have HSP := Aside0.mk (HSD.out.putB (by decide) (by decide) hg ho hb2)
      have d2 := row_cell hT1 2 _ rfl
      have e2 := row_free hT1 2
      clear ho hb2 hg hat hT1
      refine hK.out _ _ ?_
      clear hK K
      refine norm_ (a' := ?_) ?_ ?_
      rotate_left
      · show Act.put _ (some 49) _ = _
        simp only [Act.put, List.setIfInBounds_toArray, List.set_cons_zero, List.set_cons_succ, i64_w, i32_w]
        rfl
      refine pure_ (i := 8) (N := some 50) (v := ?_) (a' := ?_) #[true, true, true, true, true, true, true, true, true, false, false] rfl rfl (by kernel_rfl) (fun _ _ _ h => h) (Or.inl ⟨by rfl, ?_⟩) ?_ ?_
      rotate_left
      · intro w'
        go_simp
        with_reducible rfl
      rotate_left
      · simp only [Act.put, List.setIfInBounds_toArray, List.set_cons_zero, List.set_cons_succ, i64_w, i32_w]
        rfl
      refine pure_ (i := 9) (N := some 51) (v := ?_) (a' := ?_) #[true, true, true, true, true, true, true, true, true, true, false] rfl rfl (by kernel_rfl) (fun _ _ _ h => h) (Or.inl ⟨by rfl, ?_⟩) ?_ ?_
      rotate_left
      · intro w'
        go_simp
        with_reducible rfl
      rotate_left
      · simp only [Act.put, List.setIfInBounds_toArray, List.set_cons_zero, List.set_cons_succ, i64_w, i32_w]
        rfl
      refine last_ (i := 10) (N := none) #[true, true, true, true, true, true, true, true, true, true, true] rfl rfl (by kernel_rfl) (by decide) (fun K hK => ?_)
      refine skip_ (w1 := w1.setCell ⟨T, 2, none⟩ (.slice (some ⟨g1, 0, none⟩) (B.length + 1) cap1)) (by rfl) rfl ?_ ?_
      · go_simp
      refine hK.out _ _ ?_
      clear hK K
      refine done_ (by kernel_rfl) ?_
      obtain ⟨W, hW⟩ : ∃ W, w1.setCell ⟨T, 2, none⟩ (.slice (some ⟨g1, 0, none⟩) (B.length + 1) cap1) = W := ⟨_, rfl⟩
      rw [hW] at HSP ⊢
      clear hW d2 e2 hcd
      go_wp2_with (first | (at_mapUpdate; refine storeF Try.mtH rfl _ _ _ rfl rfl HSP.out.hH (by omega) v (B.length : Int) rfl rfl (WalkArith.wf_i32 (by omega)) (WalkArith.wf_i64 (by omega)) ?_; intro w2 hH2 hg2; have HSQ := Aside0.mk (HSP.out.putH hg2 hH2); have c1 := row_cell HSQ.out.hT 1 _ rfl; clear hH2 hg2) | (at_mapUpdate; refine storeF Try.mtF rfl _ _ _ rfl rfl HSQ.out.hF (by omega) b (B.length : Int) rfl rfl (WalkArith.wf_i64 (by omega)) (WalkArith.wf_i64 (by omega)) ?_; intro w3 hF3 hg3))
      go_end0
      have hw := HI.out.whole_new (b := b) HK.out
      refine ⟨rfl, _, _, _, _, HSQ.out.putF hg3 hF3 ⟨hb0, hb1⟩, ?_, ?_, ?_, ?_⟩
      · rw [part256_all]; exact hw.1
      · rw [part256_all]; exact HVI.out.snoc (fun x hx => by rw [List.eq_of_mem_replicate hx]; omega)
      · rw [List.length_append]; simp
      · rw [part256_all]; exact hw.2

end Go.Proofs.Ytpgnfccamcefgaa
