/- Walk: edit.Template. -/
import Derived.Test.YtaejogkinniakaaDoorEdO
namespace Go.Proofs.YtaejogkinniakaaDoor
set_option linter.unusedVariables false
set_option linter.unusedSimpArgs false
open Go.RowKit Go.Proofs.YtaejogkinniakaaDoorW.PrintWords Go.Proofs.YtaejogkinniakaaDoorW.PrintLast Go.Proofs.YtaejogkinniakaaDoorW.PrintMore Go.Proofs.YtaejogkinniakaaDoor.PEd

/-- What edit.Template hands back. -/
def RetT (r : List Pt × Int × Int) (w : World) (e : Ending) (w' : World) : Prop :=
  ∃ v, e = .returned (.tuple #[v, .agg #[.int .i64 r.2.1, .int .i64 r.2.2]]) ∧ Own k37 37 w' w.heap.size v (r.1.map toP) ∧ Below w.heap.size w w'
set_option maxHeartbeats 8000000 in
set_option maxRecDepth 100000 in
theorem template_any (w : World) (A : Option Addr) (c : Nat) (s : List Int) (G : Int) (vn : Value) (ns : List ByteArray) (hs : Kd.C kB w A s.length s) (hc : s.length ≤ c) (hr : ∀ c ∈ s, 0 ≤ c ∧ c ≤ 255) (hn : RdS Kd.string w vn ns) (hsl : s.length ≤ 1048576) :
    Calls Tryd.prog 9 #[.slice A s.length c, .int .i64 G, vn] w (RetT (tmplL s G ns) w) := by
  obtain ⟨An, cn, rfl, hcn, hrn⟩ := hn
  have hn : RdS Kd.string w (.slice An ns.length cn) ns := ⟨An, cn, rfl, hcn, hrn⟩
  obtain ⟨wF, hwF⟩ : ∃ wF, w.alloc (.cells #[.int .i64 0, .int .i64 0] 28) = wF := ⟨_, rfl⟩
  have HBF : Aside0 (Below w.heap.size w wF) := ⟨by rw [← hwF]; exact below_alloc (Below.refl _ _) _⟩
  have HFB : Aside0 (wF.heap[w.heap.size]? = some (.cells #[.int .i64 0, .int .i64 0] 28 (0, 0))) := ⟨by rw [← hwF]; exact heap_alloc_new _ _⟩
  have hFz : wF.heap.size = w.heap.size + 1 := by rw [← hwF]; simp
  obtain ⟨base, hbase⟩ : ∃ base, wF.heap.size = base := ⟨_, rfl⟩
  have hgb : w.heap.size + 1 = base := by rw [← hFz, hbase]
  have HWB : Aside0 (∀ W, Below base wF W → Below w.heap.size w W) := ⟨fun W hW => HBF.out.trans (hW.mono (by omega))⟩
  have HS : Aside0 (∀ W, Below base wF W → Kd.C kB W A s.length s) := ⟨fun W hW => Kd.C_below hs (HWB.out W hW)⟩
  have HN : Aside0 (∀ W, Below base wF W → RdS Kd.string W (.slice An ns.length cn) ns) := ⟨fun W hW => hn.below (HWB.out W hW)⟩
  have HFW : Aside0 (∀ W, Below base wF W → W.heap[w.heap.size]? = some (.cells #[.int .i64 0, .int .i64 0] 28 (0, 0))) := ⟨fun W hW => (hW.block _ (by omega)).trans HFB.out⟩
  have HM0 : Aside0 (MkE wF (wF.alloc (.cells #[.slice none 0 0, .slice none 0 0, .int .i64 G, .slice An ns.length cn] 61)) base base [] [] G (.slice An ns.length cn)) := ⟨⟨⟨.slice none 0 0, .slice none 0 0, ⟨by rw [← hbase]; exact heap_alloc_new _ _, Kd.R_nil _ _ _ _ _, Kd.R_nil _ _ _ _ _, Nat.le_refl _⟩⟩, by rw [← hbase]; exact below_alloc (Below.refl _ _) _⟩⟩
  have HLB : Aside0 (w.heap.size < base) := ⟨by omega⟩
  have HR := Aside0.mk hr
  have HC := Aside0.mk hc
  have HSL := Aside0.mk hsl
  have hsl2 := hsl
  clear hs hr hc hn hrn hcn hsl
  go_enter Tryd.func9, Tryd.ntmps9
  go_wp2
  clear hwF hFz
  go_loopg [9] s.length (fun gk i w' => ∃ (k : Nat) (L : List Pt) (text : List Int), i = .int .i64 (k : Int) ∧ Aside0 (k ≤ s.length ∧ s.length ≤ gk + k ∧ L.length ≤ 2 * k ∧ text.length ≤ k) ∧ Aside0 (tmplR s G ns gk k L text = tmplL s G ns) ∧ Aside0 (MkE wF w' base base L text G (.slice An ns.length cn)))
  case atStart => exact ⟨0, [], [], by first | rfl | simp, ⟨Nat.zero_le _, by omega, Nat.le_refl _, Nat.le_refl _⟩, ⟨rfl⟩, HM0⟩
  case round =>
    clear HM0
    obtain ⟨k, L, text, rfl, HA, HT, HM⟩ := hrel
    have HSZM : Aside0 (base ≤ wr.heap.size) := ⟨by
      obtain ⟨⟨vl, vt, hm⟩, _⟩ := HM.out
      exact Nat.le_of_lt (Nat.lt_of_le_of_lt hm.hg hm.lt)⟩
    by_cases hk : k < s.length
    · obtain ⟨gk, rfl⟩ : ∃ m, gk = m + 1 := ⟨gk - 1, by have := HA.out; omega⟩
      obtain ⟨ad, e, hx⟩ := Kd.at_int (HS.out wr HM.out.2) (k : Int) (by omega) (by omega)
      subst e
      have hrd : rd s (k : Int) = s[k] := by simp [rd, hk]
      rw [hrd] at hx
      have hk4 : decide (k < s.length) = true := decide_eq_true hk
      have HTC := Aside0.mk (fun (h : s[k] ≠ 36) => HT.out.symm.trans (tmplR_char hk h))
      have HK36 := Aside0.mk (fun (h : s[k] = 36) => h)
      have HTN := Aside0.mk (fun (h : s[k] = 36) hd => HT.out.symm.trans (tmplR_self hk h hd))
      have HTG := Aside0.mk (fun (h : s[k] = 36) n w a hd hg => HT.out.symm.trans (tmplR_group (n := n) (w := w) (a := a) hk h hd hg))
      have HTB := Aside0.mk (fun (h : s[k] = 36) n w a e hd hg he => HT.out.symm.trans (tmplR_bad (n := n) (w := w) (a := a) (e := e) hk h hd hg he))
      obtain ⟨ch, hch⟩ : ∃ ch, s[k] = ch := ⟨_, rfl⟩
      rw [hch] at hx HTC HTN HTG HTB
      simp only [Int.toNat_natCast] at hx
      clear hrd hch HK36
      by_cases hc36 : ch = 36
      · have hc1 : (ch != 36) = false := by rw [bne_eq_false_iff_eq]; exact hc36
        obtain ⟨i0, hi0, _, hsz, _⟩ := info_parts info5
        have hcut := cut_from (P := Tryd.prog) 22 5 .i64 Tryd.underlying22 hi0 1 hsz (some ad) s.length c ((k : Int) + 1) (by omega) (by omega)
        have htn : ((k : Int) + 1).toNat = k + 1 := by omega
        have hC : ∀ W, Below base wF W → Kd.C kB W (if c = k + 1 then some ad else (some ad).map (·.add ((k + 1) * 1))) (s.drop (k + 1)).length (s.drop (k + 1)) := fun W hW => Kd.C_drop (c := c) (m := k + 1) (HS.out W hW) (by omega) HC.out
        have hrng : ∀ x ∈ s.drop (k + 1), 0 ≤ x ∧ x ≤ 255 := fun x hx => HR.out x (List.mem_of_mem_drop hx)
        have e1 : (s.drop (k + 1)).length = s.length - (k + 1) := List.length_drop ..
        have hdle := fun n wd (h : dolL (s.drop (k + 1)) = some (n, wd)) => dolL_le h
        have hself : dolL (s.drop (k + 1)) = none → k + 1 < s.length := fun h => by
          rcases Nat.lt_or_ge (k + 1) s.length with h2 | h2
          · exact h2
          · rw [List.drop_of_length_le h2] at h
            cases h
        obtain ⟨md, hmd⟩ : ∃ md, s.drop (k + 1) = md := ⟨_, rfl⟩
        rw [hmd] at hC hrng e1 hdle hself HTN HTG HTB
        obtain ⟨A', hA'⟩ : ∃ A', (if c = k + 1 then some ad else (some ad).map (·.add ((k + 1) * 1))) = A' := ⟨_, rfl⟩
        obtain ⟨c', hc'⟩ : ∃ c', c - (k + 1) = c' := ⟨_, rfl⟩
        rw [htn, hA', hc', ← e1] at hcut
        rw [hA'] at hC
        have HD := Aside0.mk (dollar_any wF wr base base L text G (.slice An ns.length cn) ns A' c' md HM.out HSZM.out hC (by have := HC.out; omega) hrng HN.out (by have := HA.out; omega) (by have := HA.out; omega) (by omega))
        have HE1 := Aside0.mk e1
        have HDLE := Aside0.mk hdle
        have HSELF := Aside0.mk hself
        clear hC hrng hA' hc' hmd hi0 hsz htn e1 hdle hself HTC HM HT
        cases hd : dolL md with
        | none =>
          rw [hd] at HD
          have hk2 := HSELF.out hd
          have HT2 := Aside0.mk (HTN.out hc36 hd)
          clear hd HTN HTG HTB hc36
          go_wp2_with fail
          refine HD.out.mono ?_
          rintro e w3 ⟨rfl, hm3⟩
          have HM3 := Aside0.mk hm3
          clear hm3 hcut hx
          go_wp2
          go_roundg gk
          case measure => omega
          case rel => exact ⟨k + 2, L, text ++ [36], by go_num, ⟨by omega, by have := HA.out; omega, by have := HA.out; omega, by have := HA.out; rw [List.length_append, List.length_singleton]; omega⟩, ⟨HT2.out.symm⟩, HM3⟩
        | some p =>
          obtain ⟨n, wd⟩ := p
          rw [hd] at HD
          have hnl := HDLE.out n wd hd
          have hnl2 : k + 1 + n ≤ s.length := by have := HE1.out; omega
          have HTG2 := Aside0.mk (fun a hg => HTG.out hc36 n wd a hd hg)
          have HTB2 := Aside0.mk (fun a e hg he => HTB.out hc36 n wd a e hd hg he)
          clear hd HTN HTG HTB hc36 hnl
          go_wp2_with fail
          refine HD.out.mono ?_
          rintro e w3 (⟨hz, rfl, hm3⟩ | ⟨hz, rfl, hm3⟩)
          · have HM3 := Aside0.mk hm3
            have HT2 := Aside0.mk (HTG2.out (groupL (strOfNums wd) G ns).1 (by rw [← hz]))
            have hfl := flL_len L text
            clear hm3 hcut hx hz HTG2 HTB2
            go_wp2
            go_roundg gk
            case measure => omega
            case rel => exact ⟨k + 1 + n, _, [], by go_num, ⟨by omega, by have := HA.out; omega, by have := HA.out; rw [List.length_append, List.length_singleton]; omega, Nat.zero_le _⟩, ⟨HT2.out.symm⟩, HM3⟩
          · have HM3 := Aside0.mk hm3
            have HT2 := Aside0.mk (HTB2.out (groupL (strOfNums wd) G ns).1 (groupL (strOfNums wd) G ns).2 rfl hz)
            obtain ⟨er, her⟩ : ∃ er, (groupL (strOfNums wd) G ns).2 = er := ⟨_, rfl⟩
            rw [her] at hz HT2 ⊢
            have hne : (er != 0) = true := by rw [bne_iff_ne]; exact hz
            have HF3 := Aside0.mk (HFW.out _ HM3.out.2)
            have f0 := row_cell HF3.out 0 _ rfl
            have f1 := row_cell HF3.out 1 _ rfl
            have g0 := row_free HF3.out 0
            have g1 := row_free HF3.out 1
            clear hm3 hcut hx hz HTG2 HTB2 her
            go_wp2
            refine bodyPost_ret (results_tc rfl _ _ w.heap.size 28 #[.int .i64 er, .int .i64 (k : Int)] (0, 0) _ rfl (blk_put (blk_put HF3.out 0 _ rfl) 1 _ rfl) Tryd.underlying28 rfl (by kernel_rfl)) rfl ?_
            refine ⟨.slice none 0 0, ?_, ?_, ?_⟩
            · rw [HT2.out]; rfl
            · rw [HT2.out]; exact Kd.R_nil _ _ _ _ _
            · exact ((HWB.out _ HM3.out.2).setCell (Nat.le_refl _) _).setCell (Nat.le_refl _) _
      · have hc1 : (ch != 36) = true := by rw [bne_iff_ne]; exact hc36
        have HT2 : Aside0 (tmplR s G ns gk (k + 1) L (text ++ [ch]) = tmplL s G ns) := ⟨(HTC.out hc36).symm⟩
        clear HTC HTN HTG HTB HT hc36
        obtain ⟨⟨vl, vt, hm⟩, hw⟩ := HM.out
        obtain ⟨At, ct, rfl⟩ := Kd.R_slice hm.txt
        have hbnd := (Kd.R_reads' hm.txt).2.1
        have HD0 : Aside0 (Below wr.heap.size wr wr.drew) := ⟨below_drew (Below.refl _ _)⟩
        have HMK := Aside0.mk (hm.to HD0.out)
        have HC1 : Aside0 (wr.drew.cell? ⟨base, 1, none⟩ = some (.slice At text.length ct)) := ⟨row_cell HMK.out.blk 1 _ rfl⟩
        have HCH : Aside0 (wr.drew.cell? (ad.add k) = some (.int .u8 ch)) := ⟨hx⟩
        have HK0 := Aside0.mk HMK.out.blk
        have HNE := Aside0.mk HMK.out.ne_t
        have HTW := Aside0.mk HMK.out.txt
        have HBW : Aside0 (Below base wF wr.drew) := ⟨below_then hw HSZM.out HD0.out⟩
        have HSZ : Aside0 (base ≤ wr.drew.heap.size) := HSZM
        have HLEN : Aside0 (text.length + 1 ≤ 4194304) := ⟨by have := HA.out; omega⟩
        clear hm hw HM
        go_wp2
        refine start_ (n := 14) (S := fun w' => w'.cell? ⟨base, 1, none⟩ = some (.slice At text.length ct) ∧ w'.cell? (ad.add k) = some (.int .u8 ch)) (ds := [10, 13]) #[false, false, false, false, false, false, false, false, false, false, false, false, false, false] (by kernel_rfl) rfl rfl ⟨HC1.out, HCH.out⟩ (fun hHeld => ?_)
        refine pure_ (i := 0) (N := some 27) (v := ?_) (a' := ?_) #[true, false, false, false, false, false, false, false, false, false, false, false, false, false] rfl rfl (by kernel_rfl) (fun _ _ _ h => h) (Or.inl ⟨by rfl, ?_⟩) ?_ ?_
        rotate_left
        · intro w'
          go_simp
          with_reducible rfl
        rotate_left
        · simp only [Act.put, List.setIfInBounds_toArray, List.set_cons_zero, List.set_cons_succ, i64_w, i32_w]
          rfl
        refine pure_ (i := 1) (N := some 28) (v := ?_) (a' := ?_) #[true, true, false, false, false, false, false, false, false, false, false, false, false, false] rfl rfl (by kernel_rfl) (fun _ _ _ h => h) (Or.inl ⟨by rfl, ?_⟩) ?_ ?_
        rotate_left
        · intro w'
          go_simp
          with_reducible rfl
        rotate_left
        · simp only [Act.put, List.setIfInBounds_toArray, List.set_cons_zero, List.set_cons_succ, i64_w, i32_w]
          rfl
        refine pure_ (i := 2) (N := some 29) (v := ?_) (a' := ?_) #[true, true, true, false, false, false, false, false, false, false, false, false, false, false] rfl rfl (by kernel_rfl) (fun _ _ _ h => h) (Or.inl ⟨by rfl, ?_⟩) ?_ ?_
        rotate_left
        · intro w'
          go_simp
          with_reducible rfl
        rotate_left
        · simp only [Act.put, List.setIfInBounds_toArray, List.set_cons_zero, List.set_cons_succ, i64_w, i32_w]
          rfl
        refine pure_ (i := 3) (N := some 30) (v := ?_) (a' := ?_) #[true, true, true, true, false, false, false, false, false, false, false, false, false, false] rfl rfl (by kernel_rfl) (fun _ _ _ h => h) (Or.inl ⟨by rfl, ?_⟩) ?_ ?_
        rotate_left
        · intro w'
          go_simp
          with_reducible rfl
        rotate_left
        · simp only [Act.put, List.setIfInBounds_toArray, List.set_cons_zero, List.set_cons_succ, i64_w, i32_w]
          rfl
        refine pure_ (i := 5) (N := some 32) (v := ?_) (a' := ?_) #[true, true, true, true, false, true, false, false, false, false, false, false, false, false] rfl rfl (by kernel_rfl) (fun _ _ _ h => h) (Or.inl ⟨by rfl, ?_⟩) ?_ ?_
        rotate_left
        · intro w'
          go_simp
          with_reducible rfl
        rotate_left
        · simp only [Act.put, List.setIfInBounds_toArray, List.set_cons_zero, List.set_cons_succ, i64_w, i32_w]
          rfl
        refine pure_ (i := 6) (N := some 33) (v := ?_) (a' := ?_) #[true, true, true, true, false, true, true, false, false, false, false, false, false, false] rfl rfl (by kernel_rfl) (fun _ _ _ h => h) (Or.inl ⟨by rfl, ?_⟩) ?_ ?_
        rotate_left
        · intro w'
          go_simp
          with_reducible rfl
        rotate_left
        · simp only [Act.put, List.setIfInBounds_toArray, List.set_cons_zero, List.set_cons_succ, i64_w, i32_w]
          rfl
        refine pure_ (i := 7) (N := some 34) (v := ?_) (a' := ?_) #[true, true, true, true, false, true, true, true, false, false, false, false, false, false] rfl rfl (by kernel_rfl) (fun _ _ _ h => h) (Or.inl ⟨by rfl, ?_⟩) ?_ ?_
        rotate_left
        · intro w'
          go_simp
          with_reducible rfl
        rotate_left
        · simp only [Act.put, List.setIfInBounds_toArray, List.set_cons_zero, List.set_cons_succ, i64_w, i32_w]
          rfl
        refine take_ (i := 4) (N := some 31) (v := ?_) (a' := ?_) #[true, true, true, true, true, true, true, true, false, false, false, false, false, false] rfl rfl (by kernel_rfl) (fun _ _ _ h => h) (Or.inl ⟨by rfl, ?_⟩) hHeld ?_ ?_
        rotate_left
        · rintro w' ⟨s0, s1⟩
          go_simp
          with_reducible rfl
        rotate_left
        · simp only [Act.put, List.setIfInBounds_toArray, List.set_cons_zero, List.set_cons_succ, i64_w, i32_w]
          rfl
        refine take_ (i := 8) (N := some 35) (v := ?_) (a' := ?_) #[true, true, true, true, true, true, true, true, true, false, false, false, false, false] rfl rfl (by kernel_rfl) (fun _ _ _ h => h) (Or.inl ⟨by rfl, ?_⟩) hHeld ?_ ?_
        rotate_left
        · rintro w' ⟨s0, s1⟩
          go_simp
          with_reducible rfl
        rotate_left
        · simp only [Act.put, List.setIfInBounds_toArray, List.set_cons_zero, List.set_cons_succ, i64_w, i32_w]
          rfl
        refine one_ (i := 9) (N := some 36) #[true, true, true, true, true, true, true, true, true, true, false, false, false, false] rfl rfl (by kernel_rfl) (by decide) (fun K hK => ?_)
        refine value_ (v := .slice (some ⟨wr.drew.heap.size, 0, none⟩) 1 1) (w1 := wr.drew.alloc (.cells #[.int .u8 ch] 5)) (by rfl) rfl ?_ ?_
        · go_simp
        refine hK.out _ _ ⟨pw_cell_below (below_alloc (Below.refl _ _) _) HC1.out, pw_cell_below (below_alloc (Below.refl _ _) _) HCH.out⟩ (fun hHeld => ?_)
        clear hK K
        refine norm_ (a' := ?_) ?_ ?_
        rotate_left
        · show Act.put _ (some 36) _ = _
          simp only [Act.put, List.setIfInBounds_toArray, List.set_cons_zero, List.set_cons_succ, i64_w, i32_w]
          rfl
        refine last_ (i := 10) (N := some 37) #[true, true, true, true, true, true, true, true, true, true, true, false, false, false] rfl rfl (by kernel_rfl) (by decide) (fun K hK => ?_)
        refine Kd.R_append_step kB (w0 := wF) base (by rfl) (.tmp 31) (.tmp 36) 22 5 (.int .u8 0) 1 rfl Tryd.underlying22 info5 (by rfl) (by decide) (by omega) (.slice At text.length ct) text ch [.int .u8 ch] (fun _ => True) (fun _ => False) rfl rfl (int_mkM _ _ _ _ _) (fun _ h => h.elim) (fun _ _ => trivial) HTW.out HBW.out HSZ.out ?aL ?_
        case aL => have := HLEN.out; omega
        intro v1 w1 ho hb2 hg hat
        obtain ⟨A1, c1, rfl⟩ := Kd.R_slice ho
        rw [List.length_append, List.length_singleton] at ho hat ⊢
        have hT1 := blk_grown HK0.out hg HNE.out
        have d1 := row_cell hT1 1 _ rfl
        have e1 := row_free hT1 1
        have HMP := Aside0.mk (MkR.put_text HMK.out ho hg hat)
        have HB1 := Aside0.mk hb2
        clear ho hb2 hg hat hT1
        refine hK.out _ _ ?_
        clear hK K
        refine norm_ (a' := ?_) ?_ ?_
        rotate_left
        · show Act.put _ (some 37) _ = _
          simp only [Act.put, List.setIfInBounds_toArray, List.set_cons_zero, List.set_cons_succ, i64_w, i32_w]
          rfl
        refine pure_ (i := 11) (N := some 38) (v := ?_) (a' := ?_) #[true, true, true, true, true, true, true, true, true, true, true, true, false, false] rfl rfl (by kernel_rfl) (fun _ _ _ h => h) (Or.inl ⟨by rfl, ?_⟩) ?_ ?_
        rotate_left
        · intro w'
          go_simp
          with_reducible rfl
        rotate_left
        · simp only [Act.put, List.setIfInBounds_toArray, List.set_cons_zero, List.set_cons_succ, i64_w, i32_w]
          rfl
        refine pure_ (i := 12) (N := some 39) (v := ?_) (a' := ?_) #[true, true, true, true, true, true, true, true, true, true, true, true, true, false] rfl rfl (by kernel_rfl) (fun _ _ _ h => h) (Or.inl ⟨by rfl, ?_⟩) ?_ ?_
        rotate_left
        · intro w'
          go_simp
          with_reducible rfl
        rotate_left
        · simp only [Act.put, List.setIfInBounds_toArray, List.set_cons_zero, List.set_cons_succ, i64_w, i32_w]
          rfl
        refine last_ (i := 13) (N := none) #[true, true, true, true, true, true, true, true, true, true, true, true, true, true] rfl rfl (by kernel_rfl) (by decide) (fun K hK => ?_)
        refine skip_ (w1 := w1.setCell ⟨base, 1, none⟩ (.slice A1 (text.length + 1) c1)) (by rfl) rfl ?_ ?_
        · go_simp
        refine hK.out _ _ ?_
        clear hK K
        refine done_ (by kernel_rfl) ?_
        obtain ⟨W, hW⟩ : ∃ W, w1.setCell ⟨base, 1, none⟩ (.slice A1 (text.length + 1) c1) = W := ⟨_, rfl⟩
        have HME : Aside0 (MkE wF W base base L (text ++ [ch]) G (.slice An ns.length cn)) := ⟨by
          rw [← hW]
          exact ⟨⟨_, _, HMP.out⟩, HB1.out.setCell (Nat.le_refl _) _⟩⟩
        rw [hW]
        clear hW HMP HB1 d1 e1 HC1 HCH HK0 HNE HTW HMK HBW
        go_wp2
        go_roundg gk
        case measure => omega
        case rel => exact ⟨k + 1, L, text ++ [ch], by go_num, ⟨by omega, by have := HA.out; omega, by have := HA.out; omega, by have := HA.out; rw [List.length_append, List.length_singleton]; omega⟩, HT2, HME⟩
    · have HT2 : Aside0 (tmplL s G ns = (flL L text, 0, 0)) := ⟨by rw [← HT.out]; exact tmplR_end (by omega)⟩
      go_wp2_with fail
      refine (flush_any wF _ base base L text G (.slice An ns.length cn) HM.out (by have := HA.out; omega) HSZM.out).mono ?_
      rintro e w3 ⟨rfl, hm3⟩
      have HM3 := Aside0.mk hm3
      obtain ⟨⟨vl, vt, hm⟩, hw⟩ := hm3
      have c0 := row_cell hm.blk 0 _ rfl
      have HO := Aside0.mk hm.own
      have HF3 := Aside0.mk (HFW.out _ hw)
      have f0 := row_cell HF3.out 0 _ rfl
      have f1 := row_cell HF3.out 1 _ rfl
      have g0 := row_free HF3.out 0
      have g1 := row_free HF3.out 1
      clear hm hw HT
      go_wp2
      refine bodyPost_ret (results_tc rfl _ _ w.heap.size 28 #[.int .i64 0, .int .i64 0] (0, 0) _ rfl (blk_put (blk_put HF3.out 0 _ rfl) 1 _ rfl) Tryd.underlying28 rfl (by kernel_rfl)) rfl ?_
      have hfk : ∀ q, q ∈ 37 :: k37.E → q ≠ 28 := fun q hq => by
        have hq2 : q ∈ [37, 5] := hq
        simp at hq2
        rcases hq2 with rfl | rfl <;> decide
      refine ⟨vl, ?_, ?_, ?_⟩
      · rw [HT2.out]; rfl
      · rw [HT2.out]
        exact Kd.R_lower (Kd.R_mono (Kd.R_set (Kd.R_set HO.out HF3.out hfk 0 _) (blk_put HF3.out 0 _ rfl) hfk 1 _) (fun _ _ => trivial)) (Nat.le_of_lt HLB.out)
      · exact ((HWB.out _ HM3.out.2).setCell (Nat.le_refl _) _).setCell (Nat.le_refl _) _

end Go.Proofs.YtaejogkinniakaaDoor
