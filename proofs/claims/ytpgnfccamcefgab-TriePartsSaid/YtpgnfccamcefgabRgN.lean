/- Walk of the reference: both, the set of two. The two arms of a round (an edge behind this one, or none) are alike: written by bothgen.py. -/
import Derived.Test.YtpgnfccamcefgabRgM
import Derived.Test.YtpgnfccamcefgabRgI
namespace Go.Proofs.Ytpgnfccamcefgab
set_option linter.unusedVariables false
set_option linter.unusedSimpArgs false
open Go.RowKit Go.Proofs.YtpgnfccamcefgabW.PrintWords Go.Proofs.YtpgnfccamcefgabW.PrintLast Go.Proofs.YtpgnfccamcefgabW.PrintMore

/-- What is known of the edges. -/
structure Edg (l m : List Rg) (s : List Int) : Prop where
  mk ::
  out : s.Pairwise (· < ·) ∧ (∀ y, y ∈ s ↔ y ∈ edgesL (l ++ m)) ∧ s.length ≤ 2 * (l.length + m.length) + 1
theorem Edg.of_rise {l m : List Rg} {s : List Int} (h : Rise (edgesL (l ++ m)) s) : Edg l m s := ⟨⟨h.1, h.2.1, by
  have h1 := h.2.2
  have h2 := edgesL_len (l ++ m)
  rw [List.length_append] at h2
  omega⟩⟩
def bothP (l m : List Rg) (kind : Int) (x : Int) : Bool := inB kind (hasB l x) (hasB m x)
theorem Edg.at_ {l m : List Rg} {s : List Int} (h : Edg l m s) (kind : Int) (k : Nat) (hk : k < s.length) : 0 ≤ s[k] ∧ s[k] ≤ nextE s (k + 1) - 1 ∧ nextE s (k + 1) - 1 ≤ 1114111 ∧
    ∀ x, s[k] ≤ x → x ≤ nextE s (k + 1) - 1 → bothP l m kind x = bothP l m kind s[k] := by
  obtain ⟨h0, h1, h2, h3⟩ := between h.out.1 h.out.2.1 k hk
  refine ⟨h0, h1, h2, fun x hx hx2 => ?_⟩
  unfold bothP
  rw [hasB_same (L := l ++ m) (fun p hp => List.mem_append_left _ hp) h0 hx (by omega) (h3 x hx hx2), hasB_same (L := l ++ m) (fun p hp => List.mem_append_right _ hp) h0 hx (by omega) (h3 x hx hx2)]
theorem BInv.done {P : Int → Bool} {out : List Rg} (h : BInv P 1114112 out) : SetOf (fun x => P x = true) out := ⟨h.canon, fun x => (h.mem x).trans ⟨fun h => ⟨h.1, by omega, h.2.2⟩, fun h => ⟨h.1, by omega, h.2.2⟩⟩⟩

set_option maxHeartbeats 8000000 in
set_option maxRecDepth 100000 in
theorem both_any (w : World) (v u : Value) (l m : List Rg) (kind : Int) (h : RdS kR w v l) (h' : RdS kR w u m) (hl : (l.length + m.length) * 64 ≤ 1407374883553) :
    Calls Try.prog 23 #[v, u, .int .i64 kind] w (RetOwn kR 49 (fun r => SetOf (fun x => bothP l m kind x = true) r) w) := by
  have HE := Aside0.mk (edges_any w v u l m h h' hl)
  have HV := Aside0.mk h
  have HU := Aside0.mk h'
  have HL := Aside0.mk hl
  obtain ⟨A, c, rfl, -, -⟩ := h
  obtain ⟨B, c', rfl, -, -⟩ := h'
  clear hl
  go_enter Try.func23, Try.ntmps23
  go_wp2_with fail
  refine HE.out.mono ?_
  rintro e w1 ⟨v1, s, rfl, hs, ho, hb⟩
  have HS := Aside0.mk (Edg.of_rise hs)
  have HB0 := Aside0.mk hb
  replace HV := Aside0.mk (HV.out.below hb)
  replace HU := Aside0.mk (HU.out.below hb)
  obtain ⟨S, cS, rfl, -, hr⟩ := RdS.of_R ho
  have HR := Aside0.mk hr
  have hsl : s.length ≤ 9223372036854775807 := hr.2.1
  clear hs hb ho hr HE
  go_wp2
  go_loopg [7, 18] s.length (fun g x i w' => ∃ (k : Nat) (o : List Rg), i = .int .i64 k ∧ Aside0 (k ≤ s.length ∧ g = s.length - k ∧ BInv (bothP l m kind) (nextE s k) o ∧ o.length ≤ k) ∧ Aside0 (Own kR 49 w' w1.heap.size x o) ∧ Aside0 (Below w1.heap.size w1 w'))
  case atStart => exact ⟨0, [], by first | rfl | simp, ⟨Nat.zero_le _, rfl, by rw [first0 HS.out.out.1 HS.out.out.2.1]; exact BInv.start _, Nat.le_refl _⟩, ⟨Kd.R_nil _ _ _ _ _⟩, ⟨Below.refl _ _⟩⟩
  case round =>
    obtain ⟨k, o, rfl, HA, HO, HB⟩ := hrel
    by_cases hk : k < s.length
    · obtain ⟨ad, rfl, hx0⟩ := at_I HR.out k hk
      replace hx0 := (HB.out.cell (World.block_lt_of_cell? w1 _ hx0)).trans hx0
      have HK := HS.out.at_ kind k hk
      have HI := HA.out.2.2.1
      rw [nextE_lt hk] at HI
      have HVr : Aside0 (RdS kR wr (.slice A l.length c) l) := ⟨HV.out.below HB.out⟩
      have HUr : Aside0 (RdS kR wr (.slice B m.length c') m) := ⟨HU.out.below HB.out⟩
      have HoL : Aside0 (o.length ≤ k ∧ k < s.length) := ⟨HA.out.2.2.2, hk⟩
      have hob : o.length ≤ 9223372036854775807 := by have := HoL.out; omega
      by_cases hk2 : k + 1 < s.length
      · obtain ⟨_, hh, hy⟩ := at_I HR.out (k + 1) hk2
        cases hh
        replace hy := (HB.out.cell (World.block_lt_of_cell? w1 _ hy)).trans hy
        have ey : ad.add (k + 1) = ⟨ad.block, ad.off + (k + 1), none⟩ := by simp [Addr.add]
        have hy' := hy
        rw [ey] at hy'
        have hn := nextE_lt hk2
        obtain ⟨y, hyy⟩ : ∃ y, s[k + 1] = y := ⟨_, rfl⟩
        rw [hyy] at hy hy' hn
        have hk2i : (k : Int) + 1 < (s.length : Int) := by omega
        obtain ⟨x, hx⟩ : ∃ x, s[k] = x := ⟨_, rfl⟩
        rw [hx] at hx0 HI HK
        obtain ⟨K0, K1, K2, K3⟩ := HK
        have HI := Aside0.mk HI
        have HK3 := Aside0.mk K3
        have hN : nextE s (k + 1) = ((y - 1 : Int)) + 1 := by rw [hn]; omega
        rw [hN] at K1 K2 HK3
        have e1 : ((y - 1 : Int)) + 1 - 1 = y - 1 := by omega
        rw [e1] at K1 K2 HK3
        have HN := Aside0.mk hN
        clear hx K3 hN e1 hn hyy ey
        go_wp2_with fail
        refine (refIn_any wr _ _ l m kind x HVr.out HUr.out).mono ?_
        rintro e w2 ⟨rfl, hb⟩
        have hP : inB kind (hasB l x) (hasB m x) = bothP l m kind x := rfl
        rw [hP]
        replace HB : Aside0 (Below w1.heap.size w1 w2) := ⟨below_to HB.out hb⟩
        replace HO := Aside0.mk (Kd.R_below HO.out hb)
        clear hb hP HVr HUr hx0
        obtain ⟨b, hb⟩ : ∃ b, bothP l m kind x = b := ⟨_, rfl⟩
        rw [hb]
        cases b with
        | false =>
          have HF : Aside0 (BInv (bothP l m kind) (nextE s (k + 1)) o) := ⟨by rw [HN.out]; exact HI.out.skip HK3.out hb K1⟩
          clear hb
          go_wp2
          go_roundg (gk - 1)
          case measure => have := HA.out; omega
          case rel => exact ⟨k + 1, o, by go_num, ⟨by have := HoL.out; omega, by have := HA.out; have := HoL.out; omega, HF.out, by have := HoL.out; omega⟩, HO, HB⟩
        | true =>
          have HbT := Aside0.mk hb
          clear hb
          rcases snoc_or o with rfl | ⟨t, q, rfl⟩
          · have HF : Aside0 (BInv (bothP l m kind) (nextE s (k + 1)) ([] ++ [(x, y - 1)])) := ⟨by rw [HN.out]; exact HI.out.first HK3.out HbT.out K0 K1 K2⟩
            obtain ⟨A3, c3, rfl, -, -⟩ := RdS.of_R HO.out
            go_wp2_with (at_builtin; refine Kd.R_append kR (w0 := w1) w1.heap.size rfl (.tmp 61) (.tmp 65) 29 49 (.agg #[(.int .i64 0), (.int .i64 0)]) 16 rfl Try.underlying29 Try.infoR rfl (by decide) (by omega) _ [] (x, y - 1) [.int .i64 x, .int .i64 (y - 1)] (fun _ => True) (fun _ => False) rfl ?aX1 (kR_mkM _ _ _ (x, y - 1)) (fun _ h => h.elim) (fun _ _ => trivial) ?aO1 ?aB1 ?aS1 ?aL1 ?_)
            try (case aX1 => first | rfl | exact slice_new _ _ _ _)
            case aO1 => first | exact HO.out | exact Kd.R_alloc HO.out _
            case aB1 => first | exact HB.out | exact below_alloc HB.out _
            case aS1 => first | exact HB.out.size | exact size_le_alloc HB.out.size _
            case aL1 => have h1 := HoL.out; have h2 := HS.out.out.2.2; have h3 := HL.out; simp at h1 ⊢ <;> omega
            intro v3 w3 ho hb _ _
            have HO1 := Aside0.mk ho
            have HB3 := Aside0.mk hb
            clear ho hb HO HB
            go_wp2
            go_roundg (gk - 1)
            case measure => have := HA.out; omega
            case rel => exact ⟨k + 1, _, by go_num, ⟨by have := HoL.out; omega, by have := HA.out; have := HoL.out; omega, HF.out, by have := HoL.out; simp at this ⊢ <;> omega⟩, ⟨by simpa using HO1.out⟩, HB3⟩
          · obtain ⟨g, cap, rfl, hg1, hg2, -⟩ := Kd.R_form HO.out (by simp)
            have hlt : (t ++ [q]).length = t.length + 1 := by simp
            obtain ⟨hy0, hy1, hf0, hf1⟩ := own_atR HO.out t.length (by simp)
            have heq : (t ++ [q])[t.length]'(by simp) = q := by simp
            rw [heq] at hy0 hy1
            rw [hlt] at HO hob
            rw [hlt]
            clear heq hlt
            by_cases hq : q.2 = x - 1
            · have HF : Aside0 (BInv (bothP l m kind) (nextE s (k + 1)) (t ++ [(q.1, y - 1)])) := ⟨by rw [HN.out]; exact HI.out.join HK3.out HbT.out K0 K1 K2 hq⟩
              have HO2 : Aside0 (Own kR 49 (w2.setCell ⟨g, t.length * 2 + 1, none⟩ (.int .i64 (y - 1))) w1.heap.size (.slice (some ⟨g, 0, none⟩) (t.length + 1) cap) (t ++ [(q.1, y - 1)])) := ⟨by
                have h1 := own_setR HO.out t.length (by simp) (y - 1)
                have h2 : (t ++ [q]).set t.length (((t ++ [q])[t.length]'(by simp)).1, y - 1) = t ++ [(q.1, y - 1)] := by simp
                rw [h2] at h1
                exact h1⟩
              go_wp2
              go_roundg (gk - 1)
              case measure => have := HA.out; omega
              case rel => exact ⟨k + 1, _, by go_num, ⟨by have := HoL.out; omega, by have := HA.out; have := HoL.out; omega, HF.out, by have := HoL.out; simp at this ⊢ <;> omega⟩, HO2, ⟨below_set HB.out hg1⟩⟩
            · have HF : Aside0 (BInv (bothP l m kind) (nextE s (k + 1)) (t ++ [q] ++ [(x, y - 1)])) := ⟨by rw [HN.out]; exact HI.out.more HK3.out HbT.out K0 K1 K2 hq⟩
              go_wp2_with (at_builtin; refine Kd.R_append kR (w0 := w1) w1.heap.size rfl (.tmp 61) (.tmp 65) 29 49 (.agg #[(.int .i64 0), (.int .i64 0)]) 16 rfl Try.underlying29 Try.infoR rfl (by decide) (by omega) _ (t ++ [q]) (x, y - 1) [.int .i64 x, .int .i64 (y - 1)] (fun _ => True) (fun _ => False) rfl ?aX2 (kR_mkM _ _ _ (x, y - 1)) (fun _ h => h.elim) (fun _ _ => trivial) ?aO2 ?aB2 ?aS2 ?aL2 ?_)
              try (case aX2 => first | rfl | exact slice_new _ _ _ _)
              case aO2 => first | exact HO.out | exact Kd.R_alloc HO.out _
              case aB2 => first | exact HB.out | exact below_alloc HB.out _
              case aS2 => first | exact HB.out.size | exact size_le_alloc HB.out.size _
              case aL2 => have h1 := HoL.out; have h2 := HS.out.out.2.2; have h3 := HL.out; simp at h1 ⊢ <;> omega
              intro v3 w3 ho hb _ _
              have HO1 := Aside0.mk ho
              have HB3 := Aside0.mk hb
              clear ho hb HO HB
              go_wp2
              go_roundg (gk - 1)
              case measure => have := HA.out; omega
              case rel => exact ⟨k + 1, _, by go_num, ⟨by have := HoL.out; omega, by have := HA.out; have := HoL.out; omega, HF.out, by have := HoL.out; simp at this ⊢ <;> omega⟩, ⟨by simpa using HO1.out⟩, HB3⟩
      · have hn := nextE_ge hk2
        have hk2i : ¬ (k : Int) + 1 < (s.length : Int) := by omega
        obtain ⟨x, hx⟩ : ∃ x, s[k] = x := ⟨_, rfl⟩
        rw [hx] at hx0 HI HK
        obtain ⟨K0, K1, K2, K3⟩ := HK
        have HI := Aside0.mk HI
        have HK3 := Aside0.mk K3
        have hN : nextE s (k + 1) = ((1114111 : Int)) + 1 := by rw [hn]; omega
        rw [hN] at K1 K2 HK3
        have e1 : ((1114111 : Int)) + 1 - 1 = 1114111 := by omega
        rw [e1] at K1 K2 HK3
        have HN := Aside0.mk hN
        clear hx K3 hN e1 hn
        go_wp2_with fail
        refine (refIn_any wr _ _ l m kind x HVr.out HUr.out).mono ?_
        rintro e w2 ⟨rfl, hb⟩
        have hP : inB kind (hasB l x) (hasB m x) = bothP l m kind x := rfl
        rw [hP]
        replace HB : Aside0 (Below w1.heap.size w1 w2) := ⟨below_to HB.out hb⟩
        replace HO := Aside0.mk (Kd.R_below HO.out hb)
        clear hb hP HVr HUr hx0
        obtain ⟨b, hb⟩ : ∃ b, bothP l m kind x = b := ⟨_, rfl⟩
        rw [hb]
        cases b with
        | false =>
          have HF : Aside0 (BInv (bothP l m kind) (nextE s (k + 1)) o) := ⟨by rw [HN.out]; exact HI.out.skip HK3.out hb K1⟩
          clear hb
          go_wp2
          go_roundg (gk - 1)
          case measure => have := HA.out; omega
          case rel => exact ⟨k + 1, o, by go_num, ⟨by have := HoL.out; omega, by have := HA.out; have := HoL.out; omega, HF.out, by have := HoL.out; omega⟩, HO, HB⟩
        | true =>
          have HbT := Aside0.mk hb
          clear hb
          rcases snoc_or o with rfl | ⟨t, q, rfl⟩
          · have HF : Aside0 (BInv (bothP l m kind) (nextE s (k + 1)) ([] ++ [(x, 1114111)])) := ⟨by rw [HN.out]; exact HI.out.first HK3.out HbT.out K0 K1 K2⟩
            obtain ⟨A3, c3, rfl, -, -⟩ := RdS.of_R HO.out
            go_wp2_with (at_builtin; refine Kd.R_append kR (w0 := w1) w1.heap.size rfl (.tmp 61) (.tmp 65) 29 49 (.agg #[(.int .i64 0), (.int .i64 0)]) 16 rfl Try.underlying29 Try.infoR rfl (by decide) (by omega) _ [] (x, 1114111) [.int .i64 x, .int .i64 (1114111)] (fun _ => True) (fun _ => False) rfl ?aX3 (kR_mkM _ _ _ (x, 1114111)) (fun _ h => h.elim) (fun _ _ => trivial) ?aO3 ?aB3 ?aS3 ?aL3 ?_)
            try (case aX3 => first | rfl | exact slice_new _ _ _ _)
            case aO3 => first | exact HO.out | exact Kd.R_alloc HO.out _
            case aB3 => first | exact HB.out | exact below_alloc HB.out _
            case aS3 => first | exact HB.out.size | exact size_le_alloc HB.out.size _
            case aL3 => have h1 := HoL.out; have h2 := HS.out.out.2.2; have h3 := HL.out; simp at h1 ⊢ <;> omega
            intro v3 w3 ho hb _ _
            have HO1 := Aside0.mk ho
            have HB3 := Aside0.mk hb
            clear ho hb HO HB
            go_wp2
            go_roundg (gk - 1)
            case measure => have := HA.out; omega
            case rel => exact ⟨k + 1, _, by go_num, ⟨by have := HoL.out; omega, by have := HA.out; have := HoL.out; omega, HF.out, by have := HoL.out; simp at this ⊢ <;> omega⟩, ⟨by simpa using HO1.out⟩, HB3⟩
          · obtain ⟨g, cap, rfl, hg1, hg2, -⟩ := Kd.R_form HO.out (by simp)
            have hlt : (t ++ [q]).length = t.length + 1 := by simp
            obtain ⟨hy0, hy1, hf0, hf1⟩ := own_atR HO.out t.length (by simp)
            have heq : (t ++ [q])[t.length]'(by simp) = q := by simp
            rw [heq] at hy0 hy1
            rw [hlt] at HO hob
            rw [hlt]
            clear heq hlt
            by_cases hq : q.2 = x - 1
            · have HF : Aside0 (BInv (bothP l m kind) (nextE s (k + 1)) (t ++ [(q.1, 1114111)])) := ⟨by rw [HN.out]; exact HI.out.join HK3.out HbT.out K0 K1 K2 hq⟩
              have HO2 : Aside0 (Own kR 49 (w2.setCell ⟨g, t.length * 2 + 1, none⟩ (.int .i64 (1114111))) w1.heap.size (.slice (some ⟨g, 0, none⟩) (t.length + 1) cap) (t ++ [(q.1, 1114111)])) := ⟨by
                have h1 := own_setR HO.out t.length (by simp) (1114111)
                have h2 : (t ++ [q]).set t.length (((t ++ [q])[t.length]'(by simp)).1, 1114111) = t ++ [(q.1, 1114111)] := by simp
                rw [h2] at h1
                exact h1⟩
              go_wp2
              go_roundg (gk - 1)
              case measure => have := HA.out; omega
              case rel => exact ⟨k + 1, _, by go_num, ⟨by have := HoL.out; omega, by have := HA.out; have := HoL.out; omega, HF.out, by have := HoL.out; simp at this ⊢ <;> omega⟩, HO2, ⟨below_set HB.out hg1⟩⟩
            · have HF : Aside0 (BInv (bothP l m kind) (nextE s (k + 1)) (t ++ [q] ++ [(x, 1114111)])) := ⟨by rw [HN.out]; exact HI.out.more HK3.out HbT.out K0 K1 K2 hq⟩
              go_wp2_with (at_builtin; refine Kd.R_append kR (w0 := w1) w1.heap.size rfl (.tmp 61) (.tmp 65) 29 49 (.agg #[(.int .i64 0), (.int .i64 0)]) 16 rfl Try.underlying29 Try.infoR rfl (by decide) (by omega) _ (t ++ [q]) (x, 1114111) [.int .i64 x, .int .i64 (1114111)] (fun _ => True) (fun _ => False) rfl ?aX4 (kR_mkM _ _ _ (x, 1114111)) (fun _ h => h.elim) (fun _ _ => trivial) ?aO4 ?aB4 ?aS4 ?aL4 ?_)
              try (case aX4 => first | rfl | exact slice_new _ _ _ _)
              case aO4 => first | exact HO.out | exact Kd.R_alloc HO.out _
              case aB4 => first | exact HB.out | exact below_alloc HB.out _
              case aS4 => first | exact HB.out.size | exact size_le_alloc HB.out.size _
              case aL4 => have h1 := HoL.out; have h2 := HS.out.out.2.2; have h3 := HL.out; simp at h1 ⊢ <;> omega
              intro v3 w3 ho hb _ _
              have HO1 := Aside0.mk ho
              have HB3 := Aside0.mk hb
              clear ho hb HO HB
              go_wp2
              go_roundg (gk - 1)
              case measure => have := HA.out; omega
              case rel => exact ⟨k + 1, _, by go_num, ⟨by have := HoL.out; omega, by have := HA.out; have := HoL.out; omega, HF.out, by have := HoL.out; simp at this ⊢ <;> omega⟩, ⟨by simpa using HO1.out⟩, HB3⟩
    · have HF : Aside0 (SetOf (fun x => bothP l m kind x = true) o) := ⟨by
        have h1 := HA.out.2.2.1
        rw [nextE_ge hk] at h1
        exact h1.done⟩
      go_wp2
      go_ret
      exact ⟨_, _, rfl, HF.out, Kd.R_lower HO.out HB0.out.size, HB0.out.trans (HB.out.mono HB0.out.size)⟩

end Go.Proofs.Ytpgnfccamcefgab
