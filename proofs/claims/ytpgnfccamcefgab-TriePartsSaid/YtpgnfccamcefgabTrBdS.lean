/- Walk: the trie's Build, over string. Written by trgen.py. -/
import Derived.Test.YtpgnfccamcefgabTrPutS
import Derived.Test.YtpgnfccamcefgabTrBF
import Derived.Test.YtpgnfccamcefgabTrCore
import Derived.BigRegion
import Derived.Deep.QuietTactic
import Derived.BigQuiet
import Derived.Outline
namespace Go.Proofs.Ytpgnfccamcefgab
set_option linter.unusedVariables false
set_option linter.unusedSimpArgs false
open Go.RowKit Go.Proofs.YtpgnfccamcefgabW.PrintWords Go.Proofs.YtpgnfccamcefgabW.PrintLast Go.Proofs.YtpgnfccamcefgabW.PrintMore

attribute [local go_sem] max2_int min2_int max_two min_two
theorem Try.infoVS : (Try.prog.info? 9).map (fun i => (i.zero, i.size, i.bytes)) = some (some (.string ⟨#[]⟩), 1, 16) := by kernel_rfl

set_option maxHeartbeats 4000000 in
set_option maxRecDepth 100000 in
theorem buildS_any (w : World) (ve vv : Value) (l : List En) (vals : List ByteArray) (he : RdS kE w ve l) (hv : RdS Kd.string w vv vals) (hl : l.length ≤ 13) (hvl : vals.length * 16 ≤ 140737488355328) (hv31 : vals.length ≤ 2147483647) :
    Calls Try.prog 17 #[ve, vv] w (BuildRet Kd.string 65 w l vals) := by
  obtain ⟨Ae, ce, rfl, hce, hre⟩ := he
  obtain ⟨Av, cv, rfl, hcv, hrv⟩ := hv
  have HE := Aside0.mk hre
  have HV := Aside0.mk hrv
  have HCV := Aside0.mk hcv
  have HVL := Aside0.mk hvl
  have HSA : Aside0 (Below w.heap.size w (w.alloc (.cells Try.zeroCells36 36))) := ⟨below_alloc (Below.refl _ _) _⟩
  have HZ : Aside0 ((w.alloc (.cells Try.zeroCells36 36)).heap[w.heap.size]? = some (.cells (nums .i32 (part256 (-1) 0)).toArray 36 (0, 0))) := ⟨by rw [← zeros256 (-1)]; exact heap_alloc_new _ _⟩
  obtain ⟨c, hc⟩ : ∃ c, w.heap.size = c := ⟨_, rfl⟩
  have HCC := Aside0.mk hc
  rw [hc] at HZ HSA
  clear hce hre hcv hrv hvl
  go_enter Try.func17, Try.ntmps17
  go_wp2
  clear hc
  go_loopg [16] 256 (fun gk x w' => ∃ i : Nat, x = .int .i64 (i : Int) ∧ Aside0 (i ≤ 256 ∧ gk = 256 - i) ∧ Aside0 (w'.heap[c]? = some (.cells (nums .i32 (part256 (-1) i)).toArray 36 (0, 0))) ∧ Aside0 (Below c w w'))
  case atStart => exact ⟨0, by first | rfl | simp, ⟨Nat.zero_le _, rfl⟩, HZ, HSA⟩
  case round =>
    clear HZ HSA
    obtain ⟨i, rfl, HC, HR, HB⟩ := hrel
    by_cases hi2 : i < 256
    · have hold := row_cell HR.out i (.int .i32 ((part256 (-1) i).getD i 0)) (by rw [List.getElem?_toArray]; exact nums_at (by rw [part256_len]; exact hi2))
      have hfr := row_free HR.out i
      go_wp2
      go_roundg (gk - 1)
      case measure => have := HC.out; omega
      case rel =>
        refine ⟨i + 1, by go_num, ⟨by omega, by have := HC.out; omega⟩, ⟨?_⟩, ⟨HB.out.setCell (Nat.le_refl _) _⟩⟩
        rw [heap_setCell_same _ c i _ _ _ HR.out, part256_step hi2]
    · obtain rfl : i = 256 := by have := HC.out; omega
      have HB0 : Aside0 (BF Kd.string 9 65 w c (fun _ => false) wr.drew undef undef undef undef undef vals) := ⟨⟨below_drew (HCC.out ▸ HB.out), HR.out, (fun h => by cases h), (fun h => by cases h), (fun h => by cases h), (fun h => by cases h), (fun h => by cases h)⟩⟩
      clear HR HB HC hi2
      go_wp2
      refine start_ (n := 9) (S := fun _ => True) (ds := []) #[false, false, false, false, false, false, false, false, false] (by kernel_rfl) rfl rfl trivial (fun _ => ?_)
      refine pure_ (i := 1) (N := some 23) (v := ?_) (a' := ?_) #[false, true, false, false, false, false, false, false, false] rfl rfl (by kernel_rfl) (fun _ _ _ h => h) (Or.inl ⟨by rfl, ?_⟩) ?_ ?_
      rotate_left
      · intro w'
        go_simp
        with_reducible rfl
      rotate_left
      · simp only [Act.put, List.setIfInBounds_toArray, List.set_cons_zero, List.set_cons_succ, i64_w, i32_w]
        rfl
      have hmm := @run_makeMap Try.prog
      refine inv_at (T := _) (B := [0, 0, 3, 0, 0, 16, 63, 127, 255]) [0, 2, 3, 4, 5, 6, 7, 8] (fun a0 b a w' => ∃ v22 v24 v25 v27 v28 v29 v8, a = putSel a0 b [(0, 22, v22), (2, 24, v24), (3, 25, v25), (4, 26, .agg (nums .i32 (part256 (-1) 256)).toArray), (5, 27, v27), (6, 28, v28), (7, 29, v29), (8, 7, v8)] ∧ (b 6 = true → v28 = .agg #[v24, v25, v27]) ∧ (b 8 = true → v8 = v29) ∧ BF Kd.string 9 65 w c b w' v22 v24 v25 v27 v29 vals) rfl (by kernel_rfl) (by kernel_rfl) (by kernel_rfl) ?h0 ?hs ?hend
      case h0 => exact ⟨undef, undef, undef, undef, undef, undef, undef, rfl, (fun h => by cases h), (fun h => by cases h), HB0.out⟩
      case hs =>
        refine steps_cons ?_ (steps_cons ?_ (steps_cons ?_ (steps_cons ?_ (steps_cons ?_ (steps_cons ?_ (steps_cons ?_ (steps_cons ?_ steps_nil)))))))
        · rintro b a w' ⟨v22, v24, v25, v27, v28, v29, v8, ha, h28, h8, hf⟩ hbi hdep hwait
          refine ⟨_, rfl, fun K hK => ?_⟩
          refine value_ (N := some 22) (v := .slice (some ⟨w'.heap.size, 0, none⟩) 0 0) (w1 := w'.alloc (.cells #[] 9)) (by rfl) rfl (by go_simp) ?_
          exact hK.out _ _ ⟨_, v24, v25, v27, v28, v29, v8, (by rw [ha]; exact putSel_upk 0 hbi rfl rfl rfl), (fun h => h28 (by rw [up_ne (by decide)] at h; exact h)), (fun h => by rw [up_ne (by decide), hwait 8 rfl] at h; cases h), (hf.alloc _).up0 (R_lit0 Kd.string 9 _ w' hf.below.size)⟩
        · rintro b a w' ⟨v22, v24, v25, v27, v28, v29, v8, ha, h28, h8, hf⟩ hbi hdep hwait
          refine ⟨_, rfl, fun K hK => ?_⟩
          refine Kd.R_append_rows_step Kd.string (w0 := w) w.heap.size (by rfl) (.tmp 22) (.tmp 23) 55 9 (.string ⟨#[]⟩) 16 rfl Try.underlying55 Try.infoVS (by rfl) (by decide) (by omega) v22 [] vals Av vals.length cv (fun _ => True) (fun _ => False) (by rw [ha]; exact eval_of (putSel_on (e := (0, 22, v22)) 0 rfl rfl (hdep 0 rfl) rfl)) (by rw [ha]; exact eval_of ((putSel_off rfl).trans rfl)) (hf.h0 (hdep 0 rfl) hbi) (Kd.C_below HV.out hf.below) (fun _ _ h => h) (fun _ h => h.elim) (fun _ _ => trivial) hf.below hf.below.size (by have := HVL.out; simpa using this) ?_
          intro v1 w1 ho hb hg hat
          exact hK.out _ _ ⟨v22, v1, v25, v27, v28, v29, v8, (by rw [ha]; exact putSel_upk 1 hbi rfl rfl rfl), (fun h => by rw [up_ne (by decide), hwait 6 rfl] at h; cases h), (fun h => by rw [up_ne (by decide), hwait 8 rfl] at h; cases h), hf.up2 (hf.h0 (hdep 0 rfl) hbi) (by decide) hg (by simpa using ho) hb (hwait 7 rfl)⟩
        · rintro b a w' ⟨v22, v24, v25, v27, v28, v29, v8, ha, h28, h8, hf⟩ hbi hdep hwait
          refine ⟨_, rfl, fun K hK => ?_⟩
          refine value_ (N := some 25) (v := .map (some w'.heap.size)) (w1 := w'.alloc (.map #[] 0)) (by rfl) rfl (by go_simp) ?_
          exact hK.out _ _ ⟨v22, v24, _, v27, v28, v29, v8, (by rw [ha]; exact putSel_upk 2 hbi rfl rfl rfl), (fun h => by rw [up_ne (by decide), hwait 6 rfl] at h; cases h), (fun h => by rw [up_ne (by decide), hwait 8 rfl] at h; cases h), (hf.alloc _).up3 (MapF.made _ _ _ _ _ _) hf.below.size (hwait 7 rfl)⟩
        · rintro b a w' ⟨v22, v24, v25, v27, v28, v29, v8, ha, h28, h8, hf⟩ hbi hdep hwait
          refine ⟨_, rfl, fun K hK => ?_⟩
          refine value_ (N := some 26) (v := .agg (nums .i32 (part256 (-1) 256)).toArray) (w1 := w') (by rfl) rfl (exec_load (ty := 36) (x := .tmp 5) (a := ⟨c, 0, none⟩) rfl (by rw [ha]; exact eval_of ((putSel_off rfl).trans rfl)) (load_C part256_len (fun j u hu => by rw [add_plain]; exact row_cell hf.hc j u (by rw [List.getElem?_toArray]; exact hu)))) ?_
          exact hK.out _ _ ⟨v22, v24, v25, v27, v28, v29, v8, (by rw [ha]; exact putSel_upk 3 hbi rfl rfl rfl), (fun h => h28 (by rw [up_ne (by decide)] at h; exact h)), (fun h => by rw [up_ne (by decide), hwait 8 rfl] at h; cases h), hf.up_ 4 (by decide) (by decide) (by decide) (by decide) (by decide)⟩
        · rintro b a w' ⟨v22, v24, v25, v27, v28, v29, v8, ha, h28, h8, hf⟩ hbi hdep hwait
          refine ⟨_, rfl, fun K hK => ?_⟩
          refine value_ (N := some 27) (v := .slice (some ⟨w'.heap.size, 0, none⟩) 1 1) (by rfl) rfl (build_C (x := .tmp 26) (l := part256 (-1) 256) rfl (by rw [ha]; exact eval_of (putSel_on (e := (4, 26, .agg (nums .i32 (part256 (-1) 256)).toArray)) 3 rfl rfl (hdep 4 rfl) rfl)) part256_len) ?_
          exact hK.out _ _ ⟨v22, v24, v25, _, v28, v29, v8, (by rw [ha]; exact putSel_upk 4 hbi rfl rfl rfl), (fun h => by rw [up_ne (by decide), hwait 6 rfl] at h; cases h), (fun h => by rw [up_ne (by decide), hwait 8 rfl] at h; cases h), (hf.alloc _).up5 (own_litC hf.below.size part256_len) (hwait 7 rfl)⟩
        · rintro b a w' ⟨v22, v24, v25, v27, v28, v29, v8, ha, h28, h8, hf⟩ hbi hdep hwait
          refine ⟨_, rfl, fun K hK => ?_⟩
          have t24 : a.tmps[24]? = some v24 := by rw [ha]; exact putSel_on (e := (2, 24, v24)) 1 rfl rfl (hdep 2 rfl) rfl
          have t25 : a.tmps[25]? = some v25 := by rw [ha]; exact putSel_on (e := (3, 25, v25)) 2 rfl rfl (hdep 3 rfl) rfl
          have t27 : a.tmps[27]? = some v27 := by rw [ha]; exact putSel_on (e := (5, 27, v27)) 4 rfl rfl (hdep 5 rfl) rfl
          have h2 := hf.h2 (hdep 2 rfl)
          obtain ⟨m, rfl, h3, _⟩ := hf.h3 (hdep 3 rfl)
          have h5 := hf.h5 (hdep 5 rfl)
          obtain ⟨A4, c4, rfl⟩ := Kd.R_slice h2
          obtain ⟨A7, c7, rfl⟩ := Kd.R_slice h5
          refine value_ (N := some 28) (v := .agg #[.slice A4 vals.length c4, .map (some m), .slice A7 [part256 (-1) 256].length c7]) (w1 := w') ?_ rfl ?_ ?_
          · rfl
          · clear hf h2 h3 h5 ha h28 h8 hmm hdep hwait hbi
            go_simp
          exact hK.out _ _ ⟨v22, _, _, _, _, v29, v8, (by rw [ha]; exact putSel_upk 5 hbi rfl rfl rfl), (fun _ => rfl), (fun h => by rw [up_ne (by decide), hwait 8 rfl] at h; cases h), hf.up_ 6 (by decide) (by decide) (by decide) (by decide) (by decide)⟩
        · rintro b a w' ⟨v22, v24, v25, v27, v28, v29, v8, ha, h28, h8, hf⟩ hbi hdep hwait
          refine ⟨_, rfl, fun K hK => ?_⟩
          have t28 : a.tmps[28]? = some (.agg #[v24, v25, v27]) := by rw [← h28 (hdep 6 rfl), ha]; exact putSel_on (e := (6, 28, v28)) 5 rfl rfl (hdep 6 rfl) rfl
          refine value_ (N := some 29) (v := .pointer (some ⟨w'.heap.size, 0, none⟩)) (w1 := w'.alloc (.cells #[v24, v25, v27] 65)) ?_ rfl ?_ ?_
          · rfl
          · clear hf ha h28 h8 hmm hdep hwait hbi
            go_simp
          exact hK.out _ _ ⟨v22, v24, v25, v27, v28, _, v8, (by rw [ha]; exact putSel_upk 6 hbi rfl rfl rfl), (fun h => h28 (by rw [up_ne (by decide)] at h; exact h)), (fun h => by rw [up_ne (by decide), hwait 8 rfl] at h; cases h), (hf.alloc _).up7 (heap_alloc_new _ _) hf.below.size⟩
        · rintro b a w' ⟨v22, v24, v25, v27, v28, v29, v8, ha, h28, h8, hf⟩ hbi hdep hwait
          refine ⟨_, rfl, fun K hK => ?_⟩
          have t29 : a.tmps[29]? = some v29 := by rw [ha]; exact putSel_on (e := (7, 29, v29)) 6 rfl rfl (hdep 7 rfl) rfl
          refine value_ (N := some 7) (v := v29) (w1 := w') ?_ rfl ?_ ?_
          · rfl
          · clear hf ha h28 h8 hmm hdep hwait hbi
            go_simp
          exact hK.out _ _ ⟨v22, v24, v25, v27, v28, v29, v29, (by rw [ha]; exact putSel_upk 7 hbi rfl rfl rfl), (fun h => h28 (by rw [up_ne (by decide)] at h; exact h)), (fun _ => rfl), hf.up_ 8 (by decide) (by decide) (by decide) (by decide) (by decide)⟩
      case hend =>
        rintro b a' w1 hall ⟨v22, v24, v25, v27, v28, v29, v8, rfl, h28, h8, hf⟩
        obtain rfl := h8 (hall 8 rfl)
        obtain ⟨m, rfl, hF, hbm⟩ := hf.h3 (hall 3 rfl)
        obtain ⟨T, rfl, hT, hbT⟩ := hf.h7 (hall 7 rfl)
        have hV := hf.h2 (hall 2 rfl)
        have hC := hf.h5 (hall 5 rfl)
        have hbel := hf.below
        simp only [putSel, hall 0 rfl, hall 2 rfl, hall 3 rfl, hall 4 rfl, hall 5 rfl, hall 6 rfl, hall 7 rfl, hall 8 rfl, if_true, Act.put, List.setIfInBounds_toArray, List.set_cons_zero, List.set_cons_succ]
        clear hf h28 h8 hall HB0 hmm
        have hmT : m ≠ w1.heap.size := Nat.ne_of_lt hF.lt
        have HS0 : Aside0 (FS Kd.string 9 65 w w w.heap.size (w1.alloc (.map #[] 0)) T m w1.heap.size v24 v27 vals 0 0 (fun _ => none) (fun _ => none) [part256 (-1) 256]) := ⟨⟨((below_alloc (Below.refl _ _) _).block T (Array.getElem?_eq_some_iff.1 hT).1).trans hT, hF.alloc _, MapF.made _ _ _ _ _ _, Kd.R_alloc hC _, Kd.R_alloc hV _, hbT, hbm, hbel.size, hmT, below_alloc hbel _, Nat.le_trans hbel.size (by simp), (fun k cs q hk _ _ => ((below_alloc hbel _).block k (Array.getElem?_eq_some_iff.1 hk).1).trans hk), fun b h => (h rfl).elim⟩⟩
        have HH0 : Aside0 (HMap (w1.alloc (.map #[] 0)) w1.heap.size 0 (fun _ => none)) := ⟨MapF.made _ _ _ _ _ _⟩
        obtain ⟨hbk, hhb⟩ : ∃ x, w1.heap.size = x := ⟨_, rfl⟩
        rw [hhb] at HS0 HH0
        clear hF hT hV hC hbel hbT hbm hmT
        have hmm := @run_makeMap Try.prog
        go_wp2_with (with_reducible refine insertF Try.mtH rfl _ _ _ rfl rfl HH0.out (by omega) (-1) 0 rfl rfl (WalkArith.wf_i32 (by omega)) (WalkArith.wf_i64 (by omega)) ?_; intro w2 hH2 hg2)
        have HS1 : Aside0 (FS Kd.string 9 65 w w w.heap.size w2 T m hbk v24 v27 vals 1 1 (fun _ => none) (upd (fun _ => none) (-1) 0) [List.replicate 256 (-1)]) := ⟨by have h := (HS0.out.putH hg2 hH2).more (a := 1) (b := 1) (by omega) (by omega); rw [part256_all] at h; exact h⟩
        clear HS0 HH0 hH2 hg2 hhb hmm
        go_loopg [34] l.length (fun gk x w' => ∃ (i n : Nat) (bl : Value) (F H : Int → Option Int) (B : List (List Int)), x = .int .i64 (i : Int) ∧ Aside0 (i ≤ l.length ∧ gk = l.length - i ∧ n ≤ 4352 * i + 1 ∧ B.length ≤ n) ∧ Aside0 (FS Kd.string 9 65 w w w.heap.size w' T m hbk v24 bl vals n n F H B) ∧ Aside0 (TInv F H B ∧ VInv vals.length B ∧ ∀ r, 0 ≤ r → r ≤ 1114111 → cellOf F B r = valE vals.length (l.take i) r))
        case atStart => exact ⟨0, 1, v27, _, _, _, by first | rfl | simp, ⟨Nat.zero_le _, rfl, by omega, Nat.le_refl _⟩, HS1, ⟨TInv.start, VInv.start _, fun r _ _ => cell_start r⟩⟩
        case round =>
          clear HS1
          obtain ⟨i, n, bl, F, H, B, rfl, HC, HS, HI⟩ := hrel
          by_cases hi : i < l.length
          · obtain ⟨ad, rfl, hx0, hx1, hx2⟩ := at_En HE.out i hi
            replace hx0 := pw_cell_below HS.out.below hx0
            replace hx1 := pw_cell_below HS.out.below hx1
            replace hx2 := pw_cell_below HS.out.below hx2
            have HT : Aside0 (l.take (i + 1) = l.take i ++ [l[i]]) := ⟨List.take_succ_eq_append_getElem hi⟩
            obtain ⟨x, hx⟩ : ∃ x, l[i] = x := ⟨_, rfl⟩
            rw [hx] at hx0 hx1 hx2 HT
            clear hx
            obtain ⟨a, b1, v⟩ := x
            obtain ⟨wo, hwo⟩ : ∃ wo : World, wo = wr := ⟨_, rfl⟩
            subst hwo
            simp only at hx0 hx1 hx2
            obtain ⟨lo, hlo⟩ : ∃ lo, (if a < 0 then 0 else a) = lo := ⟨_, rfl⟩
            obtain ⟨hi2, hhi⟩ : ∃ hi2, (if 1114111 < b1 then 1114111 else b1) = hi2 := ⟨_, rfl⟩
            have HON : Aside0 (∀ r, 0 ≤ r → r ≤ 1114111 → (onE vals.length (a, b1, v) r ↔ 0 ≤ v ∧ v < vals.length ∧ lo ≤ r ∧ r ≤ hi2)) := ⟨fun r h0 h1 => onE_cut hlo hhi h0 h1⟩
            have HLO : Aside0 (0 ≤ lo ∧ hi2 ≤ 1114111) := ⟨by rw [← hlo, ← hhi]; constructor <;> split <;> omega⟩
            by_cases hok : 0 ≤ v ∧ v < vals.length ∧ lo ≤ hi2
            · obtain ⟨hv0, hv1, hlh⟩ := hok
              have hvn : ¬ v < 0 := by omega
              have hlo0 := HLO.out.1
              have hhi1 := HLO.out.2
              go_wp2
              go_quiet (fail)
              have HSW := Aside0.mk (((HS.out.alloc (.cells #[.int .i64 a, .int .i64 b1, .int .i64 v] 43)).drewN nq).rekey (KeepT.refl _ _))
              have HBX : Aside0 (((wo.alloc (.cells #[.int .i64 a, .int .i64 b1, .int .i64 v] 43)).drewN nq).heap[wo.heap.size]? = some (.cells #[.int .i64 a, .int .i64 b1, .int .i64 v] 43 (0, 0))) := ⟨heap_alloc_new _ _⟩
              have x0 := row_cell HBX.out 0 _ rfl
              have x1 := row_cell HBX.out 1 _ rfl
              have x2 := row_cell HBX.out 2 _ rfl
              obtain ⟨W1, hW1⟩ : ∃ W1, (wo.alloc (.cells #[.int .i64 a, .int .i64 b1, .int .i64 v] 43)).drewN nq = W1 := ⟨_, rfl⟩
              rw [hW1] at HSW HBX x0 x1 x2 ⊢
              obtain ⟨g0, hg0⟩ : ∃ g0, wo.heap.size = g0 := ⟨_, rfl⟩
              rw [hg0] at HBX x0 x1 x2 ⊢
              clear hW1 hg0 hlo hhi hx0 hx1 hx2
              go_wp2
              have HX : Aside0 (KeepT 65 w W1) := ⟨fun k cs q hk _ _ => (HSW.out.below.block k (Array.getElem?_eq_some_iff.1 hk).1).trans hk⟩
              clear x0 x1 x2
              go_loopg [13] (hi2 / 256 - lo / 256 + 1).toNat (fun gk2 x w' => ∃ (j n2 : Nat) (bl2 : Value) (F2 H2 : Int → Option Int) (B2 : List (List Int)), x = .int .i64 (lo / 256 + (j : Int)) ∧ Aside0 ((j : Int) ≤ hi2 / 256 - lo / 256 + 1 ∧ (gk2 : Int) = hi2 / 256 - lo / 256 + 1 - j ∧ n2 ≤ n + j ∧ B2.length ≤ n2) ∧ Aside0 (FS Kd.string 9 65 W1 w w.heap.size w' T m hbk v24 bl2 vals n2 n2 F2 H2 B2) ∧ Aside0 (TInv F2 H2 B2 ∧ VInv vals.length B2 ∧ ∀ r, 0 ≤ r → r ≤ 1114111 → cellOf F2 B2 r = if lo ≤ r ∧ r < (lo / 256 + j) * 256 ∧ r ≤ hi2 then v else valE vals.length (l.take i) r))
              case atStart =>
                refine ⟨0, n, bl, F, H, B, by simp, ⟨by omega, by omega, by omega, HC.out.2.2.2⟩, HSW, ⟨HI.out.1, HI.out.2.1, fun r h0 h1 => ?_⟩⟩
                rw [HI.out.2.2 r h0 h1, if_neg (by omega)]
              case round =>
                clear HSW
                obtain ⟨j, n2, bl2, F2, H2, B2, rfl, HC2, HS2, HI2⟩ := hrel
                have hbx := HS2.out.keep _ _ _ HBX.out (by decide) (by decide)
                have x2 := row_cell hbx 2 _ rfl
                obtain ⟨b, hb⟩ : ∃ b, lo / 256 + (j : Int) = b := ⟨_, rfl⟩
                have HBB := Aside0.mk hb
                by_cases hbh : b ≤ hi2 / 256
                · have hb0 : 0 ≤ b := by omega
                  have hb1 : b ≤ 4351 := by omega
                  obtain ⟨fr, hfr⟩ : ∃ fr, (if lo < b * 256 then b * 256 else lo) = fr := ⟨_, rfl⟩
                  have h8 : bits .or .i64 (b * 256) 255 = b * 256 + 255 := or255 hb0 (by omega)
                  obtain ⟨tt, htt⟩ : ∃ tt, (if b * 256 + 255 < hi2 then b * 256 + 255 else hi2) = tt := ⟨_, rfl⟩
                  have HFT : Aside0 (b * 256 ≤ fr ∧ fr ≤ tt ∧ tt ≤ b * 256 + 255 ∧ ∀ r, (fr ≤ r ∧ r ≤ tt ↔ lo ≤ r ∧ b * 256 ≤ r ∧ r ≤ b * 256 + 255 ∧ r ≤ hi2)) := ⟨by rw [← hfr, ← htt]; refine ⟨?_, ?_, ?_, fun r => ?_⟩ <;> split <;> (try split) <;> omega⟩
                  have HFI := Aside0.mk (fillS_any W1 w wr w.heap.size T m hbk v24 bl2 vals n2 vals.length F2 H2 B2 b v fr tt HS2.out HI2.out.1 HI2.out.2.1 (by have := HC2.out; have := HC.out; omega) (by have := HC2.out; have := HC.out; omega) hv31 hb0 hb1 HFT.out.1 HFT.out.2.1 HFT.out.2.2.1 hv0 hv1)
                  go_wp2_with fail
                  refine HFI.out.mono ?_
                  rintro e w3 ⟨rfl, bl3, F3, H3, B3, k1, k2, k3, k4, k5⟩
                  have HS3 := Aside0.mk k1
                  have HK3 := Aside0.mk (And.intro k2 (And.intro k3 (And.intro k4 k5)))
                  have hjb : 0 ≤ lo / 256 + (j : Int) ∧ lo / 256 + (j : Int) ≤ 4351 := by omega
                  obtain ⟨hjb0, hjb1⟩ := hjb
                  clear k1 k2 k3 k4 k5 HFI hbx x2 hfr htt h8 hb HS2
                  go_wp2
                  go_roundg (gk - 1)
                  case measure => have := HC2.out; have := HBB.out; omega
                  case rel =>
                    have hbb := HBB.out
                    have hc2 := HC2.out
                    have hk3 := HK3.out
                    refine ⟨j + 1, n2 + 1, bl3, F3, H3, B3, congrArg (Value.int .i64) (by omega), ⟨by omega, by omega, by omega, by omega⟩, HS3, ⟨hk3.1, hk3.2.1, fun r h0 h1 => ?_⟩⟩
                    rw [hk3.2.2.2 r, HI2.out.2.2 r h0 h1]
                    have h9 := HFT.out.2.2.2 r
                    by_cases e1 : fr ≤ r ∧ r ≤ tt
                    · have e2 := h9.1 e1
                      rw [if_pos e1, if_pos (by omega)]
                    · rw [if_neg e1]
                      by_cases e3 : lo ≤ r ∧ r < (lo / 256 + (j : Int)) * 256 ∧ r ≤ hi2
                      · rw [if_pos e3, if_pos (by omega)]
                      · rw [if_neg e3, if_neg (fun e4 => by
                          by_cases e5 : b * 256 ≤ r
                          · exact e1 (h9.2 (by omega))
                          · exact e3 (by omega))]
                · have hnb : hi2 / 256 < lo / 256 + (j : Int) := by omega
                  clear hbx x2 hb hbh
                  go_wp2
                  go_roundg (l.length - i - 1)
                  case measure => have := HC.out; omega
                  case rel =>
                    have hbb := HBB.out
                    have hc2 := HC2.out
                    have hc := HC.out
                    refine ⟨i + 1, n2, bl2, F2, H2, B2, by go_num, ⟨by omega, by omega, by omega, by omega⟩, ⟨HS2.out.rekey (fun k cs q hk _ _ => (HS2.out.below.block k (Array.getElem?_eq_some_iff.1 hk).1).trans hk)⟩, ⟨HI2.out.1, HI2.out.2.1, fun r h0 h1 => ?_⟩⟩
                    rw [HI2.out.2.2 r h0 h1, HT.out, valE_snoc]
                    have h9 := HON.out r h0 h1
                    by_cases e1 : onE vals.length (a, b1, v) r
                    · have e2 := h9.1 e1
                      rw [if_pos e1, if_pos (by omega)]
                    · rw [if_neg e1, if_neg (fun e2 => e1 (h9.2 ⟨hv0, hv1, e2.1, e2.2.2⟩))]
            · have HNO : Aside0 (∀ r, 0 ≤ r → r ≤ 1114111 → valE vals.length (l.take (i + 1)) r = valE vals.length (l.take i) r) := ⟨fun r h0 h1 => by
                rw [HT.out, valE_snoc, if_neg (fun e => hok (by have := (HON.out r h0 h1).1 e; omega))]⟩
              have hcases : v < 0 ∨ (0 ≤ v ∧ ¬ v < vals.length) ∨ (0 ≤ v ∧ v < vals.length ∧ ¬ lo ≤ hi2) := by omega
              clear hok
              rcases hcases with hv0 | ⟨hv0, hv1⟩ | ⟨hv0, hv1, hlh⟩
              all_goals
                go_wp2
                go_quiet (fail)
                have HSW := Aside0.mk ((HS.out.alloc (.cells #[.int .i64 a, .int .i64 b1, .int .i64 v] 43)).drewN nq)
                have HBX : Aside0 (((wo.alloc (.cells #[.int .i64 a, .int .i64 b1, .int .i64 v] 43)).drewN nq).heap[wo.heap.size]? = some (.cells #[.int .i64 a, .int .i64 b1, .int .i64 v] 43 (0, 0))) := ⟨heap_alloc_new _ _⟩
                have x0 := row_cell HBX.out 0 _ rfl
                have x1 := row_cell HBX.out 1 _ rfl
                have x2 := row_cell HBX.out 2 _ rfl
                clear hlo hhi hx0 hx1 hx2
                go_wp2
                go_roundg (gk - 1)
                case measure => have := HC.out; omega
                case rel => exact ⟨i + 1, n, bl, F, H, B, by go_num, ⟨by omega, by have := HC.out; omega, by have := HC.out; omega, HC.out.2.2.2⟩, HSW, ⟨HI.out.1, HI.out.2.1, fun r h0 h1 => by rw [HNO.out r h0 h1]; exact HI.out.2.2 r h0 h1⟩⟩
          · have HF : Aside0 (l.take i = l) := ⟨List.take_of_length_le (by omega)⟩
            go_wp2
            go_ret
            obtain ⟨h1, h2, h3⟩ := HI.out
            exact ⟨T, F, H, B, rfl, HS.out.own (by have := HC.out; omega), h1, h2, by rw [HF.out] at h3; exact h3, HS.out.below⟩

end Go.Proofs.Ytpgnfccamcefgab
