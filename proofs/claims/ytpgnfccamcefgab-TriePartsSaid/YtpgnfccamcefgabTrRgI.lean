/- Walk: the trie's Ranges, over numbers. -/
import Derived.Test.YtpgnfccamcefgabTrRgP
import Derived.Test.YtpgnfccamcefgabTrCore
namespace Go.Proofs.Ytpgnfccamcefgab
set_option linter.unusedVariables false
set_option linter.unusedSimpArgs false
open Go.RowKit Go.Proofs.YtpgnfccamcefgabW.PrintWords Go.Proofs.YtpgnfccamcefgabW.PrintLast Go.Proofs.YtpgnfccamcefgabW.PrintMore

theorem Try.infoBool : (Try.prog.info? 4).map (fun i => (i.zero, i.size, i.bytes)) = some (some (.bool false), 1, 1) := by kernel_rfl

set_option maxHeartbeats 4000000 in
set_option maxRecDepth 100000 in
theorem rangesI_any (w : World) (base T : Nat) (vals : List Int) (F H : Int → Option Int) (B : List (List Int)) (v : Int) (h : TrieO (Kd.int .i64) 40 base w T vals F B) (hi : TInv F H B) (hvi : VInv vals.length B) (hvl : vals.length ≤ 1000000) :
    Calls Try.prog 7 #[.pointer (some ⟨T, 0, none⟩), .int .i64 v] w fun e w' => ∃ v' r, e = .returned v' ∧ SetOf (fun x => F (x / 256) ≠ none ∧ hitC vals v (cellOf F B x)) r ∧ RdS kR w' v' r ∧ Below w.heap.size w w' := by
  obtain ⟨V, m, n, bl, eT, hT, -, hV, hM, -, hC, hn, hkeys⟩ := h.out
  obtain ⟨Av, cv, rfl, hcv, hRv⟩ := RdS.of_R hV
  obtain ⟨Ab, cb, rfl, hcb, hRb⟩ := RdS.of_R hC
  have c0 := row_cell hT 0 _ rfl
  have c1 := row_cell hT 1 _ rfl
  have c2 := row_cell hT 2 _ rfl
  have HT := Aside0.mk hT
  have HM := Aside0.mk hM
  have HRV := Aside0.mk hRv
  have HRB := Aside0.mk hRb
  have HI := Aside0.mk hi
  have HVI := Aside0.mk hvi
  have HKY := Aside0.mk hkeys
  have hb0 : ((B.length : Int) == 0) = false := beq_eq_false_iff_ne.2 (by have := hi.zero.1; omega)
  have hml := hM.lt
  clear hT hV hM hC hcv hRv hcb hRb hi hvi hkeys h
  go_enter Try.func7, Try.ntmps7
  go_wp2_with (refine Kd.R_make Kd.bool (w0 := w) w.heap.size 4 rfl (N := 31) rfl 47 _ _ rfl ((vals.length : Int) + 1) rfl rfl Try.underlying47 (.bool false) 1 Try.infoBool rfl (by decide) (by omega) false (ok := fun _ => True) (okp := fun _ => True) ?aZ (fun _ _ => trivial) trivial ?a0 ?aL ?aB ?aS ?_)
  case aZ => exact rfl
  case a0 => omega
  case aL => omega
  case aB => exact Below.refl _ _
  case aS => exact Nat.le_refl _
  intro v1 w1 ho hb hg bb hob hbl
  obtain ⟨gw, cw, rfl⟩ : ∃ gw cw, v1 = .slice (some ⟨gw, 0, none⟩) (vals.length + 1) cw := by
    obtain ⟨g1, cap1, e, _⟩ := Kd.R_form ho (by rw [List.length_replicate]; omega)
    exact ⟨g1, cap1, by rw [e, List.length_replicate]⟩
  have HW := Aside0.mk ho
  have HB := Aside0.mk hb
  have HGW : Aside0 (w.heap.size ≤ gw) := ⟨Kd.R_base ho gw rfl⟩
  replace c0 := pw_cell_below hb c0
  clear ho hb hg hob hbl
  go_wp2
  go_loopg [37] vals.length (fun gk x w' => ∃ (k : Nat) (ys : List Bool), x = .int .i64 (k : Int) ∧ Aside0 (k ≤ vals.length ∧ gk = vals.length - k ∧ WantTo vals v k ys) ∧ Aside0 (Own Kd.bool 4 w' w.heap.size (.slice (some ⟨gw, 0, none⟩) (vals.length + 1) cw) ys) ∧ Aside0 (Below w.heap.size w w'))
  case atStart => exact ⟨0, _, by first | rfl | simp, ⟨Nat.zero_le _, rfl, WantTo.start _ _⟩, HW, HB⟩
  case round =>
    clear HW HB c0
    obtain ⟨k, ys, rfl, HA, HW, HB⟩ := hrel
    by_cases hk : k < vals.length
    · obtain ⟨ad, rfl, hx⟩ := Kd.at_int HRV.out (k : Int) (by omega) (by omega)
      replace hx := pw_cell_below HB.out hx
      simp only [Int.toNat_natCast] at hx
      have HX : Aside0 (rd vals (k : Int) = vals.getD k 0) := ⟨by simp [rd]⟩
      obtain ⟨x, hx2⟩ : ∃ x, rd vals (k : Int) = x := ⟨_, rfl⟩
      rw [hx2] at hx HX
      have hyl := HA.out.2.2.1
      obtain ⟨hcl, hfr⟩ := Kd.R_cell (xs := ys) (enc := Value.bool) (h1 := fun _ => rfl) false (by have h := HW.out; rw [← hyl] at h; exact h) ((k : Int) + 1) (by omega) (by omega)
      have ek : ((k : Int) + 1).toNat = k + 1 := by omega
      rw [ek] at hcl hfr
      clear hyl ek hx2
      go_wp2
      go_roundg (gk - 1)
      case measure => have := HA.out; omega
      case rel =>
        have hgr := grown_setCell wr gw (k + 1) (.bool (x == v))
        have hyl := HA.out.2.2.1
        refine ⟨k + 1, ys.set (k + 1) (x == v), by go_num, ⟨by omega, by have := HA.out; omega, HA.out.2.2.step hk (by rw [HX.out]; rfl)⟩, ⟨?_⟩, ⟨below_grown1 HB.out hgr HB.out.size HGW.out⟩⟩
        have h := HW.out
        rw [← hyl] at h ⊢
        exact (Kd.R_put h (((k + 1 : Nat)) : Int) (x == v)).1
    · have hkv : k = vals.length := by have := HA.out; omega
      subst hkv
      have HWT : Aside0 (WantTo vals v vals.length ys) := ⟨HA.out.2.2⟩
      have c1 := pw_cell_below HB.out c1
      have HMR : Aside0 (FMap wr m n F) := ⟨HM.out.below HB.out⟩
      clear HA
      go_wp2_with (at_range; refine rangeF Try.mtF rfl _ rfl rfl HMR.out ?_; intro w2 cnt hrg hcn hg hs)
      go_frame
      have HRS : Aside0 (RSt F w w2 m wr.heap.size n (.slice (some ⟨gw, 0, none⟩) (vals.length + 1) cw) ys (.slice none 0 0) [] (fun x => F x ≠ none) cnt) := ⟨⟨hrg, Kd.R_below HW.out ⟨hg.os, hg.tape, hg.output, hg.size, fun i hi => hg.block i hi (by simp)⟩, Kd.R_nil _ _ _ _ _, below_to HB.out ⟨hg.os, hg.tape, hg.output, hg.size, fun i hi => hg.block i hi (by simp)⟩, hml, HB.out.size⟩⟩
      obtain ⟨r0, hr0⟩ : ∃ r0, wr.heap.size = r0 := ⟨_, rfl⟩
      rw [hr0] at HRS ⊢
      clear hrg hg hs hr0 HW HB HMR c1 c2
      go_loopg [8] cnt (fun gk z w' => ∃ (L : List Rg) (left : Int → Prop) (cn : Nat), Aside0 (RSt F w w' m r0 n (.slice (some ⟨gw, 0, none⟩) (vals.length + 1) cw) ys z L left cn) ∧ Aside0 (gk = cn ∧ RgTo F B vals v left L ∧ L.length + 256 * cn ≤ 256 * cnt))
      case atStart => exact ⟨[], _, cnt, HRS, ⟨rfl, RgTo.start _ _ _ _, by simp⟩⟩
      case round =>
        clear HRS
        obtain ⟨L, left, cn, HRS, HA⟩ := hrel
        obtain ⟨Az, cz, rfl⟩ := Kd.R_slice HRS.out.hL
        have hT2 := pw_cell_below HRS.out.hB (row_cell HT.out 2 _ rfl)
        go_wp2_with (at_next; refine nextF Try.mtF rfl _ rfl rfl HRS.out.hR ?hDone ?hMore)
        case hDone =>
          intro hno
          have HMK := Aside0.mk (make_any sort_said wr _ L (RdS.of_R HRS.out.hL) (by have := HA.out; omega))
          have HNO := Aside0.mk hno
          clear hno
          go_wp2_with fail
          refine HMK.out.mono ?_
          rintro e w5 ⟨v5, r5, rfl, ⟨hset, -⟩, ho, hb⟩
          have HF : Aside0 (SetOf (fun x => F (x / 256) ≠ none ∧ hitC vals v (cellOf F B x)) r5) := ⟨setOf_congr hset (fun x h0 h1 => (HA.out.2.1.2 x).trans ⟨fun h => ⟨h.1, h.2.2⟩, fun h => ⟨h.1, HNO.out _ (WalkArith.wf_i64 (by omega)), h.2⟩⟩)⟩
          have HB5 : Aside0 (Below w.heap.size w w5) := ⟨below_to HRS.out.hB hb⟩
          have HO5 := Aside0.mk (RdS.of_R ho)
          clear hset ho hb HMK
          go_wp2
          go_ret
          exact ⟨_, _, rfl, HF.out, HO5.out, HB5.out⟩
        case hMore =>
          intro b kI w3 cn3 hwb hwk hlb hFb hrg3 hlt3 hg3 hs3 hen
          have hkb := HKY.out b (by rw [hFb]; simp)
          have hkk := HI.out.firstIn b kI hFb
          obtain ⟨kk, rfl⟩ : ∃ kk : Nat, kI = (kk : Int) := ⟨kI.toNat, by omega⟩
          have hkl : kk < B.length := by have := hkk.2; simpa using this
          have HFB := Aside0.mk hFb
          have HX : Aside0 ((B.getD kk []).length = 256) := ⟨HI.out.len _ (getD_mem hkl)⟩
          have HRS3 := Aside0.mk (HRS.out.next hrg3 hg3)
          have hT3 := pw_cell_below HRS3.out.hB (row_cell HT.out 2 _ rfl)
          obtain ⟨ad, rfl, -⟩ := at_C HRB.out kk 0 hkl (by omega)
          have HCR : Aside0 (∀ j u, (nums .i32 (B.getD kk []))[j]? = some u → w3.cell? ((ad.add (kk * 256)).add j) = some u) := ⟨fun j u hu => by
            have hj : j < 256 := by
              have := (List.getElem?_eq_some_iff.1 hu).1
              rw [nums_length, HX.out] at this
              exact this
            obtain ⟨ad2, e2, hc2⟩ := at_C HRB.out kk j hkl hj
            cases e2
            have e3 := nums_at (k := .i32) (x := B.getD kk []) (j := j) (by rw [HX.out]; exact hj)
            rw [e3] at hu
            cases hu
            exact pw_cell_below HRS3.out.hB hc2⟩
          obtain ⟨blk, hblk⟩ : ∃ blk, B.getD kk [] = blk := ⟨_, rfl⟩
          have HBK := Aside0.mk hblk
          rw [hblk] at HX HCR
          have HLT := Aside0.mk hlt3
          obtain ⟨hb0, hb1⟩ := hkb
          clear hblk hwb hwk hlb hFb hrg3 hg3 hs3 hkk hlt3
          go_wp2_with (refine Kd.event_run (o := ⟨some 66, _, _, _, _, _⟩) rfl (exec_load (ty := 36) (x := .tmp 65) rfl rfl (load_C (x := blk) HX.out HCR.out)) ?_)
          clear hen
          go_loopg [67, 8] 256 (fun gk x z w' => ∃ (i : Nat) (L2 : List Rg), x = .int .i64 (i : Int) ∧ Aside0 (i ≤ 256 ∧ gk = 256 - i) ∧ Aside0 (RSt F w w' m r0 n (.slice (some ⟨gw, 0, none⟩) (vals.length + 1) cw) ys z L2 (fun z => left z ∧ z ≠ b) cn3) ∧ Aside0 (RgIn F B vals v left b i L2 ∧ L2.length ≤ L.length + i))
          case atStart => exact ⟨0, L, by first | rfl | simp, ⟨Nat.zero_le _, rfl⟩, HRS3, ⟨HA.out.2.1.in_ b, Nat.le_refl _⟩⟩
          case round =>
            clear HRS3 HCR hT3 hT2
            obtain ⟨i, L2, rfl, HC, HR, HG⟩ := hrel
            by_cases hi2 : i < 256
            · obtain ⟨A2, c2, rfl⟩ := Kd.R_slice HR.out.hL
              have hix := fun W => index_C W HX.out hi2
              have HCB : Aside0 (cellOf F B (b * 256 + i) = blk.getD i 0) := ⟨by rw [cell_blk HFB.out hi2, HBK.out]⟩
              obtain ⟨hv0, hv1⟩ : -1 ≤ blk.getD i 0 ∧ blk.getD i 0 < vals.length := by
                have h := HVI.out.at_ hkl (by rw [HBK.out]; exact HX.out) hi2
                rw [HBK.out] at h
                exact h
              obtain ⟨cc, hcc⟩ : ∃ cc, blk.getD i 0 = cc := ⟨_, rfl⟩
              rw [hcc] at HCB hv0 hv1
              simp only [hcc] at hix
              obtain ⟨cj, hcj⟩ : ∃ cj : Nat, cc + 1 = (cj : Int) := ⟨(cc + 1).toNat, by omega⟩
              have hyl := HWT.out.1
              have hcjl : cj < vals.length + 1 := by omega
              obtain ⟨hwc, -⟩ := Kd.R_cell (xs := ys) (enc := Value.bool) (h1 := fun _ => rfl) false (by have h := HR.out.hW; rw [← hyl] at h; exact h) (cj : Int) (by omega) (by omega)
              have hwt : rdOf false ys (cj : Int) = decide (hitC vals v cc) := by
                have h := HWT.out.at_ hv0 hv1
                rw [hcj] at h
                exact h
              rw [hwt] at hwc
              simp only [Int.toNat_natCast] at hwc
              have h8 : bits .or .i64 (b * 256) (i : Int) = b * 256 + i := or_lt hb0 (by omega) hi2
              clear hwt hyl hcc
              by_cases hh : hitC vals v cc
              · have hd : decide (hitC vals v cc) = true := decide_eq_true hh
                rw [hd] at hwc
                have HH : Aside0 (hitC vals v (cellOf F B (b * 256 + i))) := ⟨by rw [HCB.out]; exact hh⟩
                clear hd hh
                rcases snoc_or L2 with rfl | ⟨s, p, rfl⟩
                · go_wp2_with (first | (refine Kd.event_run (o := ⟨some 70, _, _, _, _, _⟩) rfl (exec_index (ty := 36) (x := .tmp 66) (i := .tmp 67) rfl rfl rfl (hix wr)) ?_) | (at_builtin; refine Kd.R_append kR (w0 := w) w.heap.size rfl (.tmp 102) (.tmp 106) 29 49 (.agg #[(.int .i64 0), (.int .i64 0)]) 16 rfl Try.underlying29 Try.infoR rfl (by decide) (by omega) _ [] (b * 256 + i, b * 256 + i) [.int .i64 (b * 256 + i), .int .i64 (b * 256 + i)] (fun _ => True) (fun _ => False) rfl rfl (kR_mkM _ _ _ (b * 256 + i, b * 256 + i)) (fun _ h => h.elim) (fun _ _ => trivial) HR.out.hL HR.out.hB HR.out.hB.size (by simp) ?_))
                  intro v5 w5 ho hb hg hat
                  have HR5 := Aside0.mk (HR.out.put hg ho hb)
                  clear ho hb hg hat
                  go_wp2
                  go_roundg (gk - 1)
                  case measure => have := HC.out; omega
                  case rel => exact ⟨i + 1, _, by go_num, ⟨by omega, by have := HC.out; omega⟩, HR5, ⟨HG.out.1.snoc hi2 HH.out, by have := HG.out.2; simp; omega⟩⟩
                · obtain ⟨g, cap, hgv, hg1, hg2, cs, hcs⟩ := Kd.R_form HR.out.hL (by simp)
                  have hsl : (s ++ [p]).length = s.length + 1 := by simp
                  obtain ⟨rfl, rfl⟩ : A2 = some ⟨g, 0, none⟩ ∧ c2 = cap := by simpa using hgv
                  obtain ⟨-, q1, -, q2⟩ := own_atR HR.out.hL s.length (by omega)
                  rw [snoc_last s p] at q1
                  have hsb : s.length ≤ 1000000000 := by have h1 := HG.out.2; have h2 := HA.out.2.2; rw [hsl] at h1; omega
                  have HSL := Aside0.mk hsl
                  rw [hsl]
                  clear hcs hgv hsl
                  by_cases he : p.2 = b * 256 + i - 1
                  · have hq : (p.2 == b * 256 + (i : Int) - 1) = true := beq_iff_eq.2 he
                    have HE := Aside0.mk he
                    clear he
                    go_wp2_with (refine Kd.event_run (o := ⟨some 70, _, _, _, _, _⟩) rfl (exec_index (ty := 36) (x := .tmp 66) (i := .tmp 67) rfl rfl rfl (hix wr)) ?_)
                    go_roundg (gk - 1)
                    case measure => have := HC.out; omega
                    case rel =>
                      have h5 := HR.out.setHi s.length (by rw [HSL.out]; omega) (b * 256 + i)
                      have e5 : (s ++ [p]).set s.length ((s ++ [p])[s.length].1, b * 256 + (i : Int)) = s ++ [(p.1, b * 256 + (i : Int))] := by rw [snoc_last s p]; simp
                      rw [e5, HSL.out] at h5
                      exact ⟨i + 1, _, by go_num, ⟨by omega, by have := HC.out; omega⟩, ⟨h5⟩, ⟨HG.out.1.grow hi2 HH.out HE.out, by have := HG.out.2; simp at this ⊢; omega⟩⟩
                  · have hq : (p.2 == b * 256 + (i : Int) - 1) = false := beq_eq_false_iff_ne.2 he
                    clear he
                    go_wp2_with (first | (refine Kd.event_run (o := ⟨some 70, _, _, _, _, _⟩) rfl (exec_index (ty := 36) (x := .tmp 66) (i := .tmp 67) rfl rfl rfl (hix wr)) ?_) | (at_builtin; refine Kd.R_append kR (w0 := w) w.heap.size rfl (.tmp 102) (.tmp 106) 29 49 (.agg #[(.int .i64 0), (.int .i64 0)]) 16 rfl Try.underlying29 Try.infoR rfl (by decide) (by omega) _ (s ++ [p]) (b * 256 + i, b * 256 + i) [.int .i64 (b * 256 + i), .int .i64 (b * 256 + i)] (fun _ => True) (fun _ => False) rfl rfl (kR_mkM _ _ _ (b * 256 + i, b * 256 + i)) (fun _ h => h.elim) (fun _ _ => trivial) (by have h6 := HR.out.hL; rw [HSL.out] at h6; exact h6) HR.out.hB HR.out.hB.size ?aLL ?_))
                    case aLL => have := HG.out.2; have := HA.out.2.2; omega
                    intro v5 w5 ho hb hg hat
                    have HR5 := Aside0.mk (HR.out.put hg ho hb)
                    clear ho hb hg hat q1 q2
                    go_wp2
                    go_roundg (gk - 1)
                    case measure => have := HC.out; omega
                    case rel => exact ⟨i + 1, _, by go_num, ⟨by omega, by have := HC.out; omega⟩, HR5, ⟨by have h7 := HG.out.1.snoc hi2 HH.out; rw [List.append_assoc] at h7; exact h7, by have := HG.out.2; simp at this ⊢; omega⟩⟩
              · have hd : decide (hitC vals v cc) = false := decide_eq_false hh
                rw [hd] at hwc
                have HH := Aside0.mk hh
                clear hd hh
                go_wp2_with (refine Kd.event_run (o := ⟨some 70, _, _, _, _, _⟩) rfl (exec_index (ty := 36) (x := .tmp 66) (i := .tmp 67) rfl rfl rfl (hix wr)) ?_)
                go_roundg (gk - 1)
                case measure => have := HC.out; omega
                case rel => exact ⟨i + 1, L2, by go_num, ⟨by omega, by have := HC.out; omega⟩, HR, ⟨HG.out.1.miss hi2 (by rw [HCB.out]; exact HH.out), by have := HG.out; omega⟩⟩
            · obtain rfl : i = 256 := by have := HC.out; omega
              go_wp2
              go_roundg cn3
              case measure => have := HA.out; have := HLT.out; omega
              case rel => exact ⟨L2, _, cn3, HR, ⟨rfl, HG.out.1.out_ (by rw [HFB.out]; simp), by have := HG.out.2; have := HA.out; have := HLT.out; omega⟩⟩

end Go.Proofs.Ytpgnfccamcefgab
