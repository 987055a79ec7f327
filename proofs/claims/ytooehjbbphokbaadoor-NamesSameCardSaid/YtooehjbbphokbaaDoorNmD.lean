/- Walk: names.find. -/
import Derived.Test.YtooehjbbphokbaaDoorNmC
import Derived.Test.YtooehjbbphokbaaDoorLnU
namespace Go.Proofs.YtooehjbbphokbaaDoor
set_option linter.unusedVariables false
set_option linter.unusedSimpArgs false
open Go.RowKit Go.Proofs.YtooehjbbphokbaaDoorW.PrintWords Go.Proofs.YtooehjbbphokbaaDoorW.PrintLast Go.Proofs.YtooehjbbphokbaaDoorW.PrintMore Go.Proofs.YtooehjbbphokbaaDoor.PLinesRead

theorem row_ok {R : List (List ByteArray)} (h : rowsOk R = true) {f : List ByteArray} (hf : f ∈ R) : f.length = 3 ∧ (∀ x ∈ f, x.size < 1000) ∧ (cellB f 1).size ≠ 0 := by
  unfold rowsOk at h
  rw [List.all_eq_true] at h
  have h1 := h f hf
  simp only [Bool.and_eq_true, beq_iff_eq, List.all_eq_true, decide_eq_true_eq, Bool.not_eq_true'] at h1
  obtain ⟨⟨h1, h2⟩, h3⟩ := h1
  refine ⟨h1, h2, fun h4 => ?_⟩
  rw [Lib.size_eq, List.length_eq_zero_iff] at h4
  rw [h4] at h3
  cases h3
theorem beq_toList {a b : ByteArray} (h : a ≠ b) : (a.toList == b.toList) = false := by
  rw [Lib.toList_data, Lib.toList_data]
  exact beq_eq_false_iff_ne.2 (fun e => h (by rw [← bsL_data a, ← bsL_data b, e]))
theorem drop1_at {f : List ByteArray} {j : Nat} (h : j < (f.drop 1).length) : (f.drop 1)[j] = f[j + 1]'(by rw [List.length_drop] at h; omega) := by
  rw [List.getElem_drop]
  congr 1
  omega
theorem cell_at {f : List ByteArray} {i : Nat} (h : i < f.length) : cellB f i = f[i] := by
  unfold cellB
  rw [List.getD_eq_getElem?_getD, List.getElem?_eq_getElem h]
  rfl

set_option maxHeartbeats 4000000 in
set_option maxRecDepth 100000 in
theorem find_any (b : ByteArray) (hal : AliasIs b) (kind s : ByteArray) (m : Int) (w : World) (hm : MaxIs w m) (hs : s.size < 140737488355328) :
    Calls Tryd.prog 48 #[.string kind, .string s] w fun e w' => e = .returned (.tuple #[.string ((findL kind (looseB s) (rowsB b)).getD ByteArray.empty), .bool (findL kind (looseB s) (rowsB b)).isSome]) ∧ Below w.heap.size w w' := by
  obtain ⟨ha, hbs, hok, -, -⟩ := hal
  have HRK := Aside0.mk (fun f (hf : f ∈ rowsB b) => row_ok hok hf)
  have HRW := Aside0.mk (fun W hm => rows_any b m W hbs hm)
  have HRL := rowsB_len b
  obtain ⟨R, hR⟩ : ∃ R, rowsB b = R := ⟨_, rfl⟩
  rw [hR] at HRK HRW HRL ⊢
  have HL := Aside0.mk (fun W => loose_any s W hs)
  obtain ⟨want, hwant⟩ : ∃ want, looseB s = want := ⟨_, rfl⟩
  rw [hwant] at HL ⊢
  have HE : Aside0 (findL kind want (R.drop 0) = findL kind want R) := ⟨rfl⟩
  obtain ⟨ans, hans⟩ : ∃ ans, findL kind want R = ans := ⟨_, rfl⟩
  rw [hans] at HE ⊢
  have HM := Aside0.mk hm
  have HAL := Aside0.mk ha
  have hrl : R.length < 4294967290 := by omega
  clear ha hbs hok hR HRL hwant hans hm
  go_enter Tryd.func48, Tryd.ntmps48
  go_wp2_with fail
  refine (HL.out _).mono ?_
  rintro e w1 ⟨rfl, hb1⟩
  have HB1 := Aside0.mk hb1
  clear hb1
  go_wp2_with fail
  refine (HAL.out _).mono ?_
  rintro e w2 ⟨rfl, hb2⟩
  have HB2 : Aside0 (Below w.heap.size w w2) := ⟨below_to HB1.out hb2⟩
  clear hb2
  go_wp2_with fail
  refine (HRW.out _ (HM.out.below HB2.out)).mono ?_
  rintro e w3 ⟨v3, rfl, ho3, hb3⟩
  have HB3 : Aside0 (Below w.heap.size w w3) := ⟨below_to HB2.out hb3⟩
  obtain ⟨A, c, rfl, hc, hr⟩ := Kd.R_reads ho3
  have HR := Aside0.mk hr
  clear ho3 hb3 hr
  go_wp2
  go_loopg [16] R.length (fun gk i w' => ∃ (k : Nat), i = .int .i64 (k : Int) ∧ Aside0 (k ≤ R.length ∧ gk = R.length - k) ∧ Aside0 (findL kind want (R.drop k) = ans) ∧ Aside0 (Below w3.heap.size w3 w'))
  case atStart => exact ⟨0, by first | rfl | simp, ⟨Nat.zero_le _, rfl⟩, HE, ⟨Below.refl _ _⟩⟩
  case round =>
    obtain ⟨k, rfl, HA, HF, HB⟩ := hrel
    have HBW : Aside0 (Below w.heap.size w wr) := ⟨below_to HB3.out HB.out⟩
    by_cases hk : k < R.length
    · obtain ⟨ad, A0, c0, rfl, hx0, hxl, hxr⟩ := at_L2 HR.out (k : Int) (by omega) (by omega)
      replace hx0 := pw_cell_below HB.out hx0
      replace hxr := Kd.C_below hxr HB.out
      have hfR : rd_L2 R (k : Int) = R[k] := by simp [rd_L2, hk]
      have hok := HRK.out R[k] (List.getElem_mem hk)
      have hdr : R.drop k = R[k] :: R.drop (k + 1) := List.drop_eq_getElem_cons hk
      rw [hfR] at hx0 hxl hxr
      rw [hdr] at HF
      obtain ⟨f, hff⟩ : ∃ f, R[k] = f := ⟨_, rfl⟩
      rw [hff] at hx0 hxl hxr hok HF
      clear hfR hff hdr
      obtain ⟨hf3, hfs, -⟩ := hok
      simp only [Int.toNat_natCast] at hx0
      obtain ⟨ad0, rfl, hy0⟩ := at_S hxr 0 (by omega)
      obtain ⟨ad0', he1, hy1⟩ := at_S hxr 1 (by omega)
      cases he1
      rw [add_zero] at hy0
      have ha1 := add_field ad0 0 1 (by omega)
      rw [Nat.zero_add, add_zero] at ha1
      rw [ha1] at hy1
      clear ha1
      have hc0e := cell_at (show 0 < f.length by omega)
      have hc1e := cell_at (show 1 < f.length by omega)
      obtain ⟨x0, hxx0⟩ : ∃ x0, f[0]'(by omega) = x0 := ⟨_, rfl⟩
      obtain ⟨x1, hxx1⟩ : ∃ x1, f[1]'(by omega) = x1 := ⟨_, rfl⟩
      rw [hxx0] at hy0 hc0e
      rw [hxx1] at hy1 hc1e
      have HXR := Aside0.mk hxr
      have HFS := Aside0.mk hfs
      clear hxr hfs hxx0 hxx1
      by_cases hkd : x0 = kind
      · subst hkd
        have HH : Aside0 (rowHit x0 want f = (f.drop 1).any (fun n => eqB (looseB n) want)) := ⟨by unfold rowHit; rw [hc0e, eqB_self, Bool.true_and]⟩
        have hdl : (f.drop 1).length = 2 := by rw [List.length_drop]; omega
        have HNS : Aside0 (∀ n ∈ f.drop 1, n.size < 1000) := ⟨fun n hn => HFS.out n (List.mem_of_mem_drop hn)⟩
        have HNC : Aside0 (∀ q (hq : q < (f.drop 1).length), wr.cell? ⟨ad0.block, ad0.off + 1 + q, none⟩ = some (.string ((f.drop 1)[q]))) := ⟨fun q hq => by
          obtain ⟨adn, he, hz⟩ := at_S HXR.out (q + 1) (by omega)
          cases he
          have h2 := add_field ad0 0 (q + 1) (by omega)
          rw [Nat.zero_add, add_zero] at h2
          rw [h2, show ad0.off + (q + 1) = ad0.off + 1 + q by omega] at hz
          rw [drop1_at hq]
          exact hz⟩
        obtain ⟨N, hN⟩ : ∃ N, f.drop 1 = N := ⟨_, rfl⟩
        rw [hN] at HH HNS HNC hdl
        clear hN HFS
        obtain ⟨wo, hwo⟩ : ∃ wo : World, wo = wr := ⟨_, rfl⟩
        subst hwo
        go_wp2
        go_loopg [28] 2 (fun gk i w' => ∃ (q : Nat), i = .int .i64 (q : Int) ∧ Aside0 (q ≤ 2 ∧ gk = 2 - q) ∧ Aside0 ((N.take q).any (fun n => eqB (looseB n) want) = false) ∧ Aside0 (Below wo.heap.size wo w'))
        case atStart => exact ⟨0, by first | rfl | simp, ⟨Nat.zero_le _, rfl⟩, ⟨rfl⟩, ⟨Below.refl _ _⟩⟩
        case round =>
          obtain ⟨q, rfl, HQ, HN, HBQ⟩ := hrel
          by_cases hq : q < 2
          · have hz := HNC.out q (by omega)
            replace hz := pw_cell_below HBQ.out hz
            have hns := HNS.out _ (List.getElem_mem (show q < N.length by omega))
            have htk : (N.take (q + 1)).any (fun n => eqB (looseB n) want) = eqB (looseB (N[q]'(by omega))) want := by
              rw [List.take_succ_eq_append_getElem (by omega), List.any_append, HN.out, Bool.false_or, List.any_cons, List.any_nil, Bool.or_false]
            have hmem : N[q]'(by omega) ∈ N := List.getElem_mem _
            have hany : eqB (looseB (N[q]'(by omega))) want = true → N.any (fun n => eqB (looseB n) want) = true := fun h => List.any_eq_true.2 ⟨_, hmem, h⟩
            obtain ⟨n, hn⟩ : ∃ n, N[q]'(by omega) = n := ⟨_, rfl⟩
            rw [hn] at hz hns htk hany
            have HLN := Aside0.mk (fun W => loose_any n W (by omega))
            obtain ⟨ln, hln⟩ : ∃ ln, looseB n = ln := ⟨_, rfl⟩
            rw [hln] at HLN htk hany
            have HTK := Aside0.mk htk
            have HANY := Aside0.mk hany
            clear hn hmem hns hln htk hany
            go_wp2_with fail
            refine (HLN.out _).mono ?_
            rintro e w5 ⟨rfl, hb5⟩
            have HB5 : Aside0 (Below wo.heap.size wo w5) := ⟨below_to HBQ.out hb5⟩
            replace hy1 := pw_cell_below HB5.out hy1
            clear hb5 hz
            by_cases hw : ln = want
            · subst hw
              have HAN : Aside0 (ans = some x1) := ⟨by
                rw [← HF.out, findL, if_pos (by rw [HH.out]; exact HANY.out (eqB_self _)), hc1e]⟩
              have HBZ : Aside0 (Below w.heap.size w w5) := ⟨below_to HBW.out HB5.out⟩
              go_wp2
              go_ret2
              rw [HAN.out]
              exact ⟨rfl, HBZ.out⟩
            · have hbq := beq_toList hw
              have HT2 : Aside0 ((N.take (q + 1)).any (fun n => eqB (looseB n) want) = false) := ⟨by rw [HTK.out]; exact eqB_ne hw⟩
              go_wp2
              go_roundg (2 - q - 1)
              case measure => have := HQ.out; omega
              case rel => exact ⟨q + 1, by go_num, ⟨by omega, by omega⟩, HT2, HB5⟩
          · have HAN : Aside0 (findL x0 want (R.drop (k + 1)) = ans) := ⟨by
              have hall : N.take q = N := List.take_of_length_le (by omega)
              have := HN.out
              rw [hall] at this
              rw [← HF.out, findL, if_neg (by rw [HH.out, this]; decide)]⟩
            have HB6 : Aside0 (Below w3.heap.size w3 wr) := ⟨below_to HB.out HBQ.out⟩
            go_wp2
            go_roundg (R.length - k - 1)
            case measure => have := HA.out; omega
            case rel => exact ⟨k + 1, by go_num, ⟨by omega, by omega⟩, HAN, HB6⟩
      · have hbq := beq_toList hkd
        have HAN : Aside0 (findL kind want (R.drop (k + 1)) = ans) := ⟨by
          rw [← HF.out, findL, if_neg (by unfold rowHit; rw [hc0e, eqB_ne hkd]; simp)]⟩
        go_wp2
        go_roundg (R.length - k - 1)
        case measure => have := HA.out; omega
        case rel => exact ⟨k + 1, by go_num, ⟨by omega, by omega⟩, HAN, HB⟩
    · have HAN : Aside0 (ans = none) := ⟨by rw [← HF.out, List.drop_of_length_le (by omega)]; rfl⟩
      go_wp2
      go_ret2
      rw [HAN.out]
      exact ⟨rfl, HBW.out⟩

end Go.Proofs.YtooehjbbphokbaaDoor
