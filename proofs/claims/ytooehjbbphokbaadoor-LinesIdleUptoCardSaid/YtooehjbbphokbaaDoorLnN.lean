/- Walk: lines.Print. -/
import Derived.Test.YtooehjbbphokbaaDoorLnK
import Derived.Test.YtooehjbbphokbaaDoorLnD
namespace Go.Proofs.YtooehjbbphokbaaDoor
set_option linter.unusedVariables false
set_option linter.unusedSimpArgs false
open Go.RowKit Go.Proofs.YtooehjbbphokbaaDoorW.PrintWords Go.Proofs.YtooehjbbphokbaaDoorW.PrintLast Go.Proofs.YtooehjbbphokbaaDoorW.PrintMore Go.Proofs.YtooehjbbphokbaaDoor.PLinesRead

theorem lt_of_heap {w : World} {g : Nat} {o : Obj} (h : w.heap[g]? = some o) : g < w.heap.size := by
  rcases Nat.lt_or_ge g w.heap.size with h' | h'
  · exact h'
  · rw [Array.getElem?_eq_none h'] at h
    cases h
theorem heap_below {w w' : World} {g : Nat} {o : Obj} (h : w.heap[g]? = some o) (hb : Below w.heap.size w w') : w'.heap[g]? = some o := by
  rw [hb.block g (lt_of_heap h)]
  exact h
theorem fit_field (TH G : List UInt8) (f : ByteArray) (N : Nat) (h1 : TH.length + N + 1 < 4294967281) (h2 : G.length + (fieldT f).length ≤ N) : (TH ++ G).length + (⟨#[32, 59, 32]⟩ ++ f : ByteArray).size ≤ 140737488355328 := by
  have h3 : (fieldT f).length = f.size + 3 := by unfold fieldT; rw [List.length_append, Lib.size_eq f]; simp only [List.length_cons, List.length_nil]; omega
  have h4 : (⟨#[32, 59, 32]⟩ : ByteArray).size = 3 := rfl
  rw [List.length_append, ByteArray.size_append, h4]
  omega
theorem cat_field (f : ByteArray) : (⟨#[32, 59, 32]⟩ ++ f : ByteArray).data.toList = fieldT f := by
  unfold fieldT
  simp [ByteArray.data_append]
theorem rec_cells {W : World} {g : Nat} {a b : Int} {v : Value} {T : TypeId} (h : W.heap[g]? = some (.cells #[.int .i64 a, .int .i64 b, v] T (0, 0))) : W.cell? ⟨g, 0, none⟩ = some (.int .i64 a) ∧ W.cell? ⟨g, 1, none⟩ = some (.int .i64 b) ∧ W.cell? ⟨g, 2, none⟩ = some v :=
  ⟨by rw [Lib.cell_of_heap h]; rfl, by rw [Lib.cell_of_heap h]; rfl, by rw [Lib.cell_of_heap h]; rfl⟩

set_option maxHeartbeats 8000000 in
set_option maxRecDepth 100000 in
theorem print_any (A : Option Addr) (c : Nat) (l : List Rc) (w : World) (hr : Kd.C k48 w A l.length l) (hc : l.length ≤ c) (hl : l.length < 4294967290) (hf : ∀ r ∈ l, r.f2.length < 4294967290) (hs : (textT l).length < 4294967281) :
    Calls Tryd.prog 32 #[.slice A l.length c] w fun e w' => e = .returned (.tuple #[.string (printL l).1, .int .i64 (printL l).2]) ∧ Below w.heap.size w w' := by
  have HC := Aside0.mk hr
  have HF := Aside0.mk hf
  have HS := Aside0.mk hs
  obtain ⟨R, hR⟩ : ∃ R, printL l = R := ⟨_, rfl⟩
  rw [hR]
  have HR := Aside0.mk hR
  clear hr hf hs hR
  go_enter Tryd.func32, Tryd.ntmps32
  go_wp2
  go_loopg [11] l.length (fun gk i w' => ∃ (k : Nat), i = .int .i64 (k : Int) ∧ Aside0 (k ≤ l.length ∧ gk = l.length - k) ∧ Aside0 (∀ r ∈ l.take k, recOk r = true) ∧ Aside0 (Bld w.heap.size w.heap.size (textT (l.take k)) w') ∧ Aside0 (Below w.heap.size w w'))
  case atStart => exact ⟨0, by first | rfl | simp, ⟨Nat.zero_le _, rfl⟩, ⟨by simp⟩, ⟨Lib.fresh_isBuilder _ _ w⟩, ⟨below_alloc (Below.refl _ _) _⟩⟩
  case round =>
    obtain ⟨k, rfl, HA, HK, HB, HBE⟩ := hrel
    by_cases hk : k < l.length
    · obtain ⟨ad, A2, c2, hA, hx0, hx1, hx2, hxl, hxr⟩ := at_T48 HC.out (k : Int) (by omega) (by omega)
      replace hx0 := pw_cell_below HBE.out hx0
      replace hx1 := pw_cell_below HBE.out hx1
      replace hx2 := pw_cell_below HBE.out hx2
      have hin := List.getElem_mem hk
      have hrd : rd_T48 l (k : Int) = l[k] := by simp [rd_T48, hk]
      have HNX : Aside0 (textT (l.take (k + 1)) = textT (l.take k) ++ recT l[k]) := ⟨textT_take hk⟩
      have HKX : Aside0 (recOk l[k] = true → ∀ r ∈ l.take (k + 1), recOk r = true) := ⟨fun h r hr => by
        rw [List.take_succ_eq_append_getElem hk] at hr
        rcases List.mem_append.1 hr with hr | hr
        · exact HK.out r hr
        · rw [List.mem_singleton] at hr
          rw [hr]
          exact h⟩
      have HSZ : Aside0 ((textT (l.take k)).length + (recT l[k]).length < 4294967281) := ⟨by
        have h1 := flatMap_mem recT l k hk
        have h2 := HS.out
        have e1 : textT l = l.flatMap recT := rfl
        have e2 : textT (l.take k) = (l.take k).flatMap recT := rfl
        rw [e1] at h2
        rw [e2]
        omega⟩
      have HFL : Aside0 (l[k].f2.length < 4294967290) := ⟨HF.out _ hin⟩
      have HBAD : Aside0 (recOk l[k] = false → R = (⟨#[]⟩, 1)) := ⟨fun h => by rw [← HR.out]; exact printL_bad hin h⟩
      rw [hrd] at hx0 hx1 hx2 hxl hxr
      obtain ⟨r, hre⟩ : ∃ r, l[k] = r := ⟨_, rfl⟩
      rw [hre] at hx0 hx1 hx2 hxl hxr hin HNX HKX HSZ HFL HBAD
      subst hA
      simp only [Int.toNat_natCast] at hx0 hx1 hx2
      obtain ⟨T, hT⟩ : ∃ T, textT (l.take k) = T := ⟨_, rfl⟩
      rw [hT] at HNX HSZ HB
      have HXR : Aside0 (Kd.string.C w A2 r.f2.length r.f2 ∧ r.f2.length ≤ c2) := ⟨hxr, hxl⟩
      clear hrd hre hin hT hxr hxl
      have HBA : Aside0 (Below w.heap.size w (wr.alloc (.cells #[.int .i64 r.f0, .int .i64 r.f1, .slice A2 r.f2.length c2] 48))) := ⟨below_alloc HBE.out _⟩
      by_cases h1 : r.f0 < 0
      · have hR := HBAD.out (recOk_no (by omega))
        subst hR
        go_wp2
        go_ret2
        exact ⟨rfl, HBA.out⟩
      · by_cases h2 : r.f1 < r.f0
        · have hR := HBAD.out (recOk_no (by omega))
          subst hR
          go_wp2
          go_ret2
          exact ⟨rfl, HBA.out⟩
        · by_cases h3 : 1114111 < r.f1
          · have hR := HBAD.out (recOk_no (by omega))
            subst hR
            go_wp2
            go_ret2
            exact ⟨rfl, HBA.out⟩
          · by_cases h4 : r.f2.length = 0
            · have hR := HBAD.out (recOk_no (by omega))
              subst hR
              have h4b : ((r.f2.length : Int) == 0) = true := beq_iff_eq.2 (by omega)
              go_wp2
              go_ret2
              exact ⟨rfl, by have := HBA.out; rw [h4] at this; exact this⟩
            · have h4b : ((r.f2.length : Int) == 0) = false := beq_eq_false_iff_ne.2 (by omega)
              go_wp2_with fail
              refine (digits_any r.f0 _ (by omega) (by omega)).mono ?_
              rintro e w2 ⟨rfl, hb2⟩
              obtain ⟨g, hg⟩ : ∃ g, wr.heap.size = g := ⟨_, rfl⟩
              have HG2 : Aside0 (w2.heap[g]? = some (.cells #[.int .i64 r.f0, .int .i64 r.f1, .slice A2 r.f2.length c2] 48 (0, 0))) := ⟨by
                subst hg
                exact heap_below (heap_alloc_new wr _) hb2⟩
              have HB2 : Aside0 (Bld w.heap.size w.heap.size T w2) := ⟨(HB.out.below (below_alloc (Below.refl _ _) _)).below hb2⟩
              have HBE2 : Aside0 (Below w.heap.size w w2) := ⟨below_to HBA.out hb2⟩
              have hgb : g ≠ w.heap.size := by
                have h1 : w.heap.size < wr.heap.size := HB.out.elim (fun h => h.lt) (fun h => h.lt)
                omega
              have HRL : Aside0 ((recT r).length = (headT r).length + (r.f2.flatMap fieldT).length + 1) := ⟨by unfold recT; rw [List.length_append, List.length_append]; rfl⟩
              have HRT : Aside0 (recT r = headT r ++ r.f2.flatMap fieldT ++ [10]) := ⟨rfl⟩
              have HHL : Aside0 ((headT r).length ≤ 14) := ⟨headT_length r⟩
              obtain ⟨y0, y1, y2⟩ := rec_cells HG2.out
              have hP0 := pointL_length r.f0.toNat
              obtain ⟨P0, hP0e⟩ : ∃ P, pointL r.f0.toNat = P := ⟨_, rfl⟩
              have HH0 : Aside0 (headT r = P0 ++ (if r.f0 < r.f1 then [46, 46] ++ pointL r.f1.toNat else [])) := ⟨by rw [← hP0e]; rfl⟩
              rw [hP0e] at hP0 ⊢
              rw [hg]
              clear hb2 hg hP0e HBA HB hx0 hx1 hx2
              go_wp2_with fail
              refine (bld_write_g w.heap.size w.heap.size g T (bsL P0) w2 HB2.out (by have := HSZ.out; rw [size_bsL]; omega) HBE2.out.size (by decide) hgb HG2.out).mono ?_
              rintro e w3 ⟨⟨v3, rfl⟩, hB3, hb3, hG3⟩
              rw [data_bsL] at hB3
              have HB3 := Aside0.mk hB3
              have HBE3 : Aside0 (Below w.heap.size w w3) := ⟨HBE2.out.trans hb3⟩
              have HG3 := Aside0.mk hG3
              obtain ⟨y0, y1, y2⟩ := rec_cells HG3.out
              clear hB3 hb3 hG3 HB2 HBE2 HG2
              by_cases h5 : r.f0 < r.f1
              · rw [if_pos h5] at HH0
                go_wp2_with fail
                refine (digits_any r.f1 _ (by omega) (by omega)).mono ?_
                rintro e w4 ⟨rfl, hb4⟩
                have HB4 : Aside0 (Bld w.heap.size w.heap.size (T ++ P0) w4) := ⟨HB3.out.below hb4⟩
                have HBE4 : Aside0 (Below w.heap.size w w4) := ⟨below_to HBE3.out hb4⟩
                have HG4 : Aside0 (w4.heap[g]? = some (.cells #[.int .i64 r.f0, .int .i64 r.f1, .slice A2 r.f2.length c2] 48 (0, 0))) := ⟨heap_below HG3.out hb4⟩
                obtain ⟨y0, y1, y2⟩ := rec_cells HG4.out
                have hP1 := pointL_length r.f1.toNat
                obtain ⟨P1, hP1e⟩ : ∃ P, pointL r.f1.toNat = P := ⟨_, rfl⟩
                rw [hP1e] at hP1 HH0 ⊢
                have k1 : (⟨#[46, 46]⟩ : ByteArray).size + (bsL P1).size ≤ 9223372036854775807 := by
                  rw [size_bsL]
                  have : (⟨#[46, 46]⟩ : ByteArray).size = 2 := rfl
                  omega
                have hcat : ((⟨#[46, 46]⟩ : ByteArray) ++ bsL P1) = bsL (46 :: 46 :: P1) := by
                  apply ByteArray.ext
                  apply Array.toList_inj.1
                  simp [bsL, ByteArray.data_append]
                clear hb4 hP1e HB3 HBE3 HG3
                go_wp2_with fail
                refine (bld_write_g w.heap.size w.heap.size g (T ++ P0) (bsL (46 :: 46 :: P1)) w4 HB4.out (by have := HSZ.out; rw [size_bsL]; simp only [List.length_append, List.length_cons, List.length_nil]; omega) HBE4.out.size (by decide) hgb HG4.out).mono ?_
                rintro e w5 ⟨⟨v5, rfl⟩, hB5, hb5, hG5⟩
                have e46 : (46 :: 46 :: P1 : List UInt8) = [46, 46] ++ P1 := rfl
                rw [data_bsL, e46, List.append_assoc, ← HH0.out] at hB5
                have HB7 := Aside0.mk hB5
                have HBE7 : Aside0 (Below w.heap.size w w5) := ⟨HBE4.out.trans hb5⟩
                obtain ⟨y0, y1, y2⟩ := rec_cells hG5
                clear hB5 hb5 hG5 HB4 HBE4 HG4 HH0 k1 hcat e46
                have HXS : Aside0 (∀ f ∈ r.f2, f.size < 4294967281) := ⟨fun f hf => by
                  obtain ⟨i, hi, rfl⟩ := List.getElem_of_mem hf
                  have h1 := flatMap_mem fieldT r.f2 i hi
                  have h2 : (fieldT r.f2[i]).length = r.f2[i].data.toList.length + 3 := by unfold fieldT; rw [List.length_append]; simp only [List.length_cons, List.length_nil]; omega
                  have h3 := HSZ.out
                  rw [HRL.out] at h3
                  rw [Lib.size_eq r.f2[i]]
                  omega⟩
                have HBF : Aside0 (∀ f ∈ r.f2, fieldOk f = false → R = (⟨#[]⟩, 1)) := ⟨fun f hf h => HBAD.out (recOk_no (fun hh => by have := hh.2.2.2.2 f hf; rw [h] at this; cases this))⟩
                have HOK : Aside0 ((∀ f ∈ r.f2, fieldOk f = true) → recOk r = true) := ⟨fun h => (recOk_iff r).2 ⟨by omega, by omega, by omega, by omega, h⟩⟩
                obtain ⟨Hd, hHd⟩ : ∃ Hd, headT r = Hd := ⟨_, rfl⟩
                rw [hHd] at HB7 HRL HRT
                obtain ⟨F, hF⟩ : ∃ F, r.f2 = F := ⟨_, rfl⟩
                rw [hF] at HRL HRT HXS HBF HOK HXR HFL y2
                have HTT : Aside0 (textT (l.take (k + 1)) = T ++ Hd ++ F.flatMap fieldT ++ [10]) := ⟨by rw [HNX.out, HRT.out]; simp only [List.append_assoc]⟩
                have HLL : Aside0 ((T ++ Hd).length + (F.flatMap fieldT).length + 1 < 4294967281) := ⟨by have h1 := HSZ.out; rw [HRL.out] at h1; rw [List.length_append]; omega⟩
                have HRX : Aside0 ((∀ f ∈ F, fieldOk f = true) → ∀ r ∈ l.take (k + 1), recOk r = true) := ⟨fun h => HKX.out (HOK.out h)⟩
                obtain ⟨TH, hTH⟩ : ∃ TH, T ++ Hd = TH := ⟨_, rfl⟩
                rw [hTH] at HB7 HTT HLL
                clear hHd hF hTH HRL HRT HBAD HKX HNX HSZ HOK
                go_wp2
                go_loopg [53] F.length (fun gk i w' => ∃ (j : Nat), i = .int .i64 (j : Int) ∧ Aside0 (j ≤ F.length ∧ gk = F.length - j) ∧ Aside0 (∀ f ∈ F.take j, fieldOk f = true) ∧ Aside0 (Bld w.heap.size w.heap.size (TH ++ (F.take j).flatMap fieldT) w') ∧ Aside0 (Below w.heap.size w w'))
                case atStart => exact ⟨0, by first | rfl | simp, ⟨Nat.zero_le _, rfl⟩, ⟨by simp⟩, ⟨by simpa using HB7.out⟩, HBE7⟩
                case round =>
                  clear HB7 HBE7 y0 y1 y2
                  obtain ⟨j, rfl, HJ, HJK, HJB, HJE⟩ := hrel
                  by_cases hj : j < F.length
                  · have hjl : j < 4294967290 := by have := HFL.out; omega
                    obtain ⟨bd, rfl, hy⟩ := at_S HXR.out.1 j hj
                    replace hy := pw_cell_below HJE.out hy
                    have hfin := List.getElem_mem hj
                    have HW := Aside0.mk (fun W => wrong_any F[j] W (HXS.out _ hfin))
                    have HFB := Aside0.mk (HBF.out _ hfin)
                    have HFT : Aside0 ((F.take (j + 1)).flatMap fieldT = (F.take j).flatMap fieldT ++ fieldT F[j]) := ⟨fieldsT_take hj⟩
                    have HFK : Aside0 (fieldOk F[j] = true → ∀ f ∈ F.take (j + 1), fieldOk f = true) := ⟨fun h f hf => by
                      rw [List.take_succ_eq_append_getElem hj] at hf
                      rcases List.mem_append.1 hf with hf | hf
                      · exact HJK.out f hf
                      · rw [List.mem_singleton] at hf
                        rw [hf]
                        exact h⟩
                    have HFM : Aside0 (((F.take j).flatMap fieldT).length + (fieldT F[j]).length ≤ (F.flatMap fieldT).length) := ⟨flatMap_mem fieldT F j hj⟩
                    have HFS := Aside0.mk (HXS.out _ hfin)
                    obtain ⟨f, hfe⟩ : ∃ f, F[j] = f := ⟨_, rfl⟩
                    rw [hfe] at hy HW HFB HFT HFK HFM HFS
                    have k1 : (⟨#[32, 59, 32]⟩ : ByteArray).size + f.size ≤ 9223372036854775807 := by
                      have : (⟨#[32, 59, 32]⟩ : ByteArray).size = 3 := rfl
                      have := HFS.out
                      omega
                    clear hfe hfin
                    cases hok : fieldOk f with
                    | false =>
                      rw [hok] at HW
                      have hR := HFB.out hok
                      subst hR
                      go_wp2_with fail
                      refine (HW.out _).mono ?_
                      rintro e w8 ⟨rfl, hb8⟩
                      have HBE8 : Aside0 (Below w.heap.size w w8) := ⟨below_to HJE.out hb8⟩
                      clear hb8
                      go_wp2
                      go_ret2
                      exact ⟨rfl, HBE8.out⟩
                    | true =>
                      rw [hok] at HW
                      have HJK2 := Aside0.mk (HFK.out hok)
                      have HYS := Aside0.mk (fit_field TH _ f _ HLL.out HFM.out)
                      have HYD := Aside0.mk (cat_field f)
                      obtain ⟨y, hye⟩ : ∃ y, (⟨#[32, 59, 32]⟩ : ByteArray) ++ f = y := ⟨_, rfl⟩
                      rw [hye] at HYS HYD
                      go_wp2_with fail
                      refine (HW.out _).mono ?_
                      rintro e w8 ⟨rfl, hb8⟩
                      have HBE8 : Aside0 (Below w.heap.size w w8) := ⟨below_to HJE.out hb8⟩
                      have HB8 : Aside0 (Bld w.heap.size w.heap.size (TH ++ (F.take j).flatMap fieldT) w8) := ⟨HJB.out.below hb8⟩
                      clear hb8
                      go_wp2_with fail
                      refine (bld_write w.heap.size w.heap.size (TH ++ (F.take j).flatMap fieldT) y w8 HB8.out HYS.out HBE8.out.size).mono ?_
                      rintro e w9 ⟨rfl, hB9, hb9⟩
                      have HBE9 : Aside0 (Below w.heap.size w w9) := ⟨HBE8.out.trans hb9⟩
                      have HB9 : Aside0 (Bld w.heap.size w.heap.size (TH ++ (F.take (j + 1)).flatMap fieldT) w9) := ⟨by
                        rw [HFT.out, ← List.append_assoc, ← HYD.out]
                        exact hB9⟩
                      clear hB9 hb9 HB8 HBE8
                      go_wp2
                      go_roundg (F.length - j - 1)
                      case measure => have := HJ.out; omega
                      case rel => exact ⟨j + 1, by go_num, ⟨by omega, by omega⟩, HJK2, HB9, HBE9⟩
                  · have hje : F.take j = F := List.take_of_length_le (by omega)
                    rw [hje] at HJK HJB
                    have HKN := Aside0.mk (HRX.out HJK.out)
                    go_wp2_with fail
                    refine (bld_write w.heap.size w.heap.size (TH ++ F.flatMap fieldT) ⟨#[10]⟩ wr HJB.out (by
                      have h1 := HLL.out
                      have h4 : (⟨#[10]⟩ : ByteArray).size = 1 := rfl
                      rw [List.length_append]
                      omega) HJE.out.size).mono ?_
                    rintro e w9 ⟨rfl, hB9, hb9⟩
                    have HBE9 : Aside0 (Below w.heap.size w w9) := ⟨HJE.out.trans hb9⟩
                    have HB9 : Aside0 (Bld w.heap.size w.heap.size (textT (l.take (k + 1))) w9) := ⟨by
                      rw [HTT.out]
                      exact hB9⟩
                    clear hB9 hb9
                    go_wp2
                    go_roundg (l.length - k - 1)
                    case measure => have := HA.out; omega
                    case rel => exact ⟨k + 1, by go_num, ⟨by omega, by omega⟩, HKN, HB9, HBE9⟩
              · rw [if_neg h5, List.append_nil] at HH0
                have HB7 : Aside0 (Bld w.heap.size w.heap.size (T ++ headT r) w3) := ⟨by rw [HH0.out]; exact HB3.out⟩
                have HBE7 := HBE3
                clear HB3 HBE3 HG3 HH0
                have HXS : Aside0 (∀ f ∈ r.f2, f.size < 4294967281) := ⟨fun f hf => by
                  obtain ⟨i, hi, rfl⟩ := List.getElem_of_mem hf
                  have h1 := flatMap_mem fieldT r.f2 i hi
                  have h2 : (fieldT r.f2[i]).length = r.f2[i].data.toList.length + 3 := by unfold fieldT; rw [List.length_append]; simp only [List.length_cons, List.length_nil]; omega
                  have h3 := HSZ.out
                  rw [HRL.out] at h3
                  rw [Lib.size_eq r.f2[i]]
                  omega⟩
                have HBF : Aside0 (∀ f ∈ r.f2, fieldOk f = false → R = (⟨#[]⟩, 1)) := ⟨fun f hf h => HBAD.out (recOk_no (fun hh => by have := hh.2.2.2.2 f hf; rw [h] at this; cases this))⟩
                have HOK : Aside0 ((∀ f ∈ r.f2, fieldOk f = true) → recOk r = true) := ⟨fun h => (recOk_iff r).2 ⟨by omega, by omega, by omega, by omega, h⟩⟩
                obtain ⟨Hd, hHd⟩ : ∃ Hd, headT r = Hd := ⟨_, rfl⟩
                rw [hHd] at HB7 HRL HRT
                obtain ⟨F, hF⟩ : ∃ F, r.f2 = F := ⟨_, rfl⟩
                rw [hF] at HRL HRT HXS HBF HOK HXR HFL y2
                have HTT : Aside0 (textT (l.take (k + 1)) = T ++ Hd ++ F.flatMap fieldT ++ [10]) := ⟨by rw [HNX.out, HRT.out]; simp only [List.append_assoc]⟩
                have HLL : Aside0 ((T ++ Hd).length + (F.flatMap fieldT).length + 1 < 4294967281) := ⟨by have h1 := HSZ.out; rw [HRL.out] at h1; rw [List.length_append]; omega⟩
                have HRX : Aside0 ((∀ f ∈ F, fieldOk f = true) → ∀ r ∈ l.take (k + 1), recOk r = true) := ⟨fun h => HKX.out (HOK.out h)⟩
                obtain ⟨TH, hTH⟩ : ∃ TH, T ++ Hd = TH := ⟨_, rfl⟩
                rw [hTH] at HB7 HTT HLL
                clear hHd hF hTH HRL HRT HBAD HKX HNX HSZ HOK
                go_wp2
                go_loopg [53] F.length (fun gk i w' => ∃ (j : Nat), i = .int .i64 (j : Int) ∧ Aside0 (j ≤ F.length ∧ gk = F.length - j) ∧ Aside0 (∀ f ∈ F.take j, fieldOk f = true) ∧ Aside0 (Bld w.heap.size w.heap.size (TH ++ (F.take j).flatMap fieldT) w') ∧ Aside0 (Below w.heap.size w w'))
                case atStart => exact ⟨0, by first | rfl | simp, ⟨Nat.zero_le _, rfl⟩, ⟨by simp⟩, ⟨by simpa using HB7.out⟩, HBE7⟩
                case round =>
                  clear HB7 HBE7 y0 y1 y2
                  obtain ⟨j, rfl, HJ, HJK, HJB, HJE⟩ := hrel
                  by_cases hj : j < F.length
                  · have hjl : j < 4294967290 := by have := HFL.out; omega
                    obtain ⟨bd, rfl, hy⟩ := at_S HXR.out.1 j hj
                    replace hy := pw_cell_below HJE.out hy
                    have hfin := List.getElem_mem hj
                    have HW := Aside0.mk (fun W => wrong_any F[j] W (HXS.out _ hfin))
                    have HFB := Aside0.mk (HBF.out _ hfin)
                    have HFT : Aside0 ((F.take (j + 1)).flatMap fieldT = (F.take j).flatMap fieldT ++ fieldT F[j]) := ⟨fieldsT_take hj⟩
                    have HFK : Aside0 (fieldOk F[j] = true → ∀ f ∈ F.take (j + 1), fieldOk f = true) := ⟨fun h f hf => by
                      rw [List.take_succ_eq_append_getElem hj] at hf
                      rcases List.mem_append.1 hf with hf | hf
                      · exact HJK.out f hf
                      · rw [List.mem_singleton] at hf
                        rw [hf]
                        exact h⟩
                    have HFM : Aside0 (((F.take j).flatMap fieldT).length + (fieldT F[j]).length ≤ (F.flatMap fieldT).length) := ⟨flatMap_mem fieldT F j hj⟩
                    have HFS := Aside0.mk (HXS.out _ hfin)
                    obtain ⟨f, hfe⟩ : ∃ f, F[j] = f := ⟨_, rfl⟩
                    rw [hfe] at hy HW HFB HFT HFK HFM HFS
                    have k1 : (⟨#[32, 59, 32]⟩ : ByteArray).size + f.size ≤ 9223372036854775807 := by
                      have : (⟨#[32, 59, 32]⟩ : ByteArray).size = 3 := rfl
                      have := HFS.out
                      omega
                    clear hfe hfin
                    cases hok : fieldOk f with
                    | false =>
                      rw [hok] at HW
                      have hR := HFB.out hok
                      subst hR
                      go_wp2_with fail
                      refine (HW.out _).mono ?_
                      rintro e w8 ⟨rfl, hb8⟩
                      have HBE8 : Aside0 (Below w.heap.size w w8) := ⟨below_to HJE.out hb8⟩
                      clear hb8
                      go_wp2
                      go_ret2
                      exact ⟨rfl, HBE8.out⟩
                    | true =>
                      rw [hok] at HW
                      have HJK2 := Aside0.mk (HFK.out hok)
                      have HYS := Aside0.mk (fit_field TH _ f _ HLL.out HFM.out)
                      have HYD := Aside0.mk (cat_field f)
                      obtain ⟨y, hye⟩ : ∃ y, (⟨#[32, 59, 32]⟩ : ByteArray) ++ f = y := ⟨_, rfl⟩
                      rw [hye] at HYS HYD
                      go_wp2_with fail
                      refine (HW.out _).mono ?_
                      rintro e w8 ⟨rfl, hb8⟩
                      have HBE8 : Aside0 (Below w.heap.size w w8) := ⟨below_to HJE.out hb8⟩
                      have HB8 : Aside0 (Bld w.heap.size w.heap.size (TH ++ (F.take j).flatMap fieldT) w8) := ⟨HJB.out.below hb8⟩
                      clear hb8
                      go_wp2_with fail
                      refine (bld_write w.heap.size w.heap.size (TH ++ (F.take j).flatMap fieldT) y w8 HB8.out HYS.out HBE8.out.size).mono ?_
                      rintro e w9 ⟨rfl, hB9, hb9⟩
                      have HBE9 : Aside0 (Below w.heap.size w w9) := ⟨HBE8.out.trans hb9⟩
                      have HB9 : Aside0 (Bld w.heap.size w.heap.size (TH ++ (F.take (j + 1)).flatMap fieldT) w9) := ⟨by
                        rw [HFT.out, ← List.append_assoc, ← HYD.out]
                        exact hB9⟩
                      clear hB9 hb9 HB8 HBE8
                      go_wp2
                      go_roundg (F.length - j - 1)
                      case measure => have := HJ.out; omega
                      case rel => exact ⟨j + 1, by go_num, ⟨by omega, by omega⟩, HJK2, HB9, HBE9⟩
                  · have hje : F.take j = F := List.take_of_length_le (by omega)
                    rw [hje] at HJK HJB
                    have HKN := Aside0.mk (HRX.out HJK.out)
                    go_wp2_with fail
                    refine (bld_write w.heap.size w.heap.size (TH ++ F.flatMap fieldT) ⟨#[10]⟩ wr HJB.out (by
                      have h1 := HLL.out
                      have h4 : (⟨#[10]⟩ : ByteArray).size = 1 := rfl
                      rw [List.length_append]
                      omega) HJE.out.size).mono ?_
                    rintro e w9 ⟨rfl, hB9, hb9⟩
                    have HBE9 : Aside0 (Below w.heap.size w w9) := ⟨HJE.out.trans hb9⟩
                    have HB9 : Aside0 (Bld w.heap.size w.heap.size (textT (l.take (k + 1))) w9) := ⟨by
                      rw [HTT.out]
                      exact hB9⟩
                    clear hB9 hb9
                    go_wp2
                    go_roundg (l.length - k - 1)
                    case measure => have := HA.out; omega
                    case rel => exact ⟨k + 1, by go_num, ⟨by omega, by omega⟩, HKN, HB9, HBE9⟩
    · have hke : l.take k = l := List.take_of_length_le (by omega)
      rw [hke] at HK HB
      have hR : R = (bsL (textT l), 0) := by rw [← HR.out]; exact printL_good HK.out
      subst hR
      go_wp2_with fail
      refine (bld_string w.heap.size w.heap.size (textT l) _ HB.out HBE.out.size).mono ?_
      rintro e w2 ⟨rfl, hb2⟩
      have HB2 : Aside0 (Below w.heap.size w w2) := ⟨HBE.out.trans hb2⟩
      clear hb2
      go_wp2
      go_ret2
      exact ⟨rfl, HB2.out⟩

end Go.Proofs.YtooehjbbphokbaaDoor
