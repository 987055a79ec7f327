/- Walk of the law TrieGets, for no more values than an int32 holds. -/
import Derived.Test.YtpgnfccamcefgaaTrH
import Derived.Test.YtpgnfccamcefgaaTrAwake
namespace Go.Proofs.Ytpgnfccamcefgaa
set_option linter.unusedVariables false
set_option linter.unusedSimpArgs false
open Go.RowKit Go.Proofs.YtpgnfccamcefgaaW.PrintWords Go.Proofs.YtpgnfccamcefgaaW.PrintLast Go.Proofs.YtpgnfccamcefgaaW.PrintMore
attribute [local go_sem] max2_int min2_int max_two min_two

theorem R_putS {e : Nat} {w : World} {base g n cap : Nat} {xs : List ByteArray} (h : Own Kd.string e w base (.slice (some ⟨g, 0, none⟩) n cap) xs) (j : Nat) (s : ByteArray) :
    Own Kd.string e (w.setCell ⟨g, j, none⟩ (.string s)) base (.slice (some ⟨g, 0, none⟩) n cap) (xs.set j s) := by
  have hn := (Kd.R_reads' h).1
  subst hn
  exact (Kd.R_put h (j : Int) s).1

set_option maxHeartbeats 4000000 in
set_option maxRecDepth 100000 in
theorem TrieGets_walk (w : World) (ve : Value) (l : List En) (vv : Value) (vals : List ByteArray) (vp : Value) (ps : List Int) (he : RdS kE w ve l) (hv : RdS Kd.string w vv vals) (hp : RdS (Kd.int .i64) w vp ps) (hsz : vals.length ≤ 2147483647) :
    Calls Try.prog 5 #[ve, vv, vp] w fun e w' => e = .returned (.bool true) ∧ Below w.heap.size w w' := by
  have HF := Aside0.mk (few_any w ve l he)
  have HCS := Aside0.mk hv
  have HPL : Aside0 (ps.length ≤ 9223372036854775807) := ⟨hp.len⟩
  obtain ⟨A, c, rfl, -, -⟩ := he
  obtain ⟨Av, cv, rfl, hcv, hrv⟩ := hv
  obtain ⟨Ap, cp, rfl, hcp, hrp⟩ := hp
  have HRV := Aside0.mk hrv
  have HRP := Aside0.mk hrp
  have HVL := Aside0.mk hsz
  clear hrv hrp hcv hcp hsz
  go_enter Try.func5, Try.ntmps5
  go_wp2_with fail
  refine HF.out.mono ?_
  rintro e w1 ⟨v1, rfl, hr1, rfl⟩
  have HL1 : Aside0 ((l.take 12).length ≤ 12) := ⟨by rw [List.length_take]; omega⟩
  obtain ⟨l1, hl1⟩ : ∃ l1, l.take 12 = l1 := ⟨_, rfl⟩
  rw [hl1] at hr1 HL1
  obtain ⟨A1, c1, rfl, hc1, hr1⟩ := hr1
  have HR1 : Aside0 (RdS kE w (.slice A1 l1.length c1) l1) := ⟨⟨A1, c1, rfl, hc1, hr1⟩⟩
  clear hr1 hc1 hl1 HF
  go_wp2_with fail
  refine (cloneE_any w _ l1 HR1.out (by have := HL1.out; omega)).mono ?_
  rintro e w2 ⟨vg, rfl, ho, hb⟩
  have HG := Aside0.mk ho
  have HB2 := Aside0.mk hb
  clear ho hb
  go_wp2_with fail
  refine (cloneS_any w2 _ vals (HCS.out.below HB2.out) (by have := HVL.out; omega)).mono ?_
  rintro e w3 ⟨vt, rfl, ho, hb⟩
  have HT := Aside0.mk (Kd.R_lower ho HB2.out.size)
  have HG3 := Aside0.mk (Kd.R_below HG.out hb)
  have HB3 : Aside0 (Below w.heap.size w w3) := ⟨below_to HB2.out hb⟩
  clear ho hb HG HB2
  go_wp2_with fail
  refine (buildS_any w3 _ _ l1 vals (RdS.of_R HG3.out) (RdS.of_R HT.out) (by have := HL1.out; omega) (by have := HVL.out; omega) HVL.out).mono ?_
  rintro e w4 ⟨T, F, H, B, rfl, hr, hi, hvi, hc, hb⟩
  have HB4 : Aside0 (Below w.heap.size w w4) := ⟨below_to HB3.out hb⟩
  have HG4 := Aside0.mk (Kd.R_below HG3.out hb)
  have HT4 := Aside0.mk (Kd.R_below HT.out hb)
  have HTl : Aside0 (∀ k, vt.ownBlock = some k → k < w3.heap.size) := ⟨Kd.R_lt HT.out⟩
  have HTR := Aside0.mk hr
  have HI := Aside0.mk hi
  have HCV := Aside0.mk hc
  have HS34 : Aside0 (w3.heap.size ≤ w4.heap.size) := ⟨hb.size⟩
  clear hr hi hvi hc hb HG3 HT HB3
  obtain ⟨At, ct, rfl⟩ := Kd.R_slice HT4.out
  go_wp2
  go_loopg [28] vals.length (fun gk x w' => ∃ (i : Nat) (ys : List ByteArray), x = .int .i64 (i : Int) ∧ Aside0 (i ≤ vals.length ∧ gk = vals.length - i ∧ ys.length = vals.length) ∧ Aside0 (Own Kd.string 9 w' w.heap.size (.slice At vals.length ct) ys) ∧ Aside0 (Own kE 40 w' w.heap.size vg l1) ∧ Aside0 (TrieO Kd.string 71 w3.heap.size w' T vals F B) ∧ Aside0 (Below w.heap.size w w') ∧ Aside0 (w3.heap.size ≤ w'.heap.size))
  case atStart => exact ⟨0, vals, by first | rfl | simp, ⟨Nat.zero_le _, rfl, rfl⟩, HT4, HG4, HTR, HB4, HS34⟩
  case round =>
    clear HT4 HG4 HTR HB4 HS34
    obtain ⟨i, ys, rfl, HA, HY, HG, HTR, HB, HS⟩ := hrel
    by_cases hi : i < vals.length
    · have h31 := HVL.out
      have hyl := HA.out.2.2
      have hyi : i < ys.length := by omega
      obtain ⟨g, cap, hgv, hg1, hg2, cs, hcs⟩ := Kd.R_form HY.out (by omega)
      have HGW : Aside0 (g < w3.heap.size) := ⟨HTl.out g (by rw [show (Value.slice At vals.length ct) = _ from hgv]; rfl)⟩
      obtain ⟨rfl, -, rfl⟩ : At = some ⟨g, 0, none⟩ ∧ vals.length = ys.length ∧ ct = cap := by simpa using hgv
      have hcell := Kd.R_cell (xs := ys) (enc := Value.string) (h1 := fun _ => rfl) ByteArray.empty (by have h := HY.out; rw [← hyl] at h; exact h) (i : Int) (by omega) (by omega)
      obtain ⟨hcl, hfr⟩ := hcell
      simp only [Int.toNat_natCast] at hcl hfr
      have HCS2 := Aside0.mk hcs
      clear hcs hgv hyl
      go_wp2
      go_roundg (gk - 1)
      case measure => have := HA.out; omega
      case rel =>
        have hgr := grown_setCell wr g i (.string ⟨#[120]⟩)
        refine ⟨i + 1, ys.set i ⟨#[120]⟩, by go_num, ⟨by omega, by have := HA.out; omega, by rw [List.length_set]; exact HA.out.2.2⟩, ⟨R_putS HY.out i _⟩, ⟨own_other_blk HG.out hgr (fun q hq cs' h => ?_)⟩, ⟨HTR.out.move (fun k hk1 hk2 => hgr.block k hk2 (fun e => ?_))⟩, ⟨below_grown1 HB.out hgr HB.out.size hg1⟩, ⟨Nat.le_trans HS.out hgr.size⟩⟩
        · rw [HCS2.out] at h
          cases h
          revert hq
          decide
        · cases e
          have := HGW.out
          omega
    · have HEN := Aside0.mk (entries_any wr _ l1 vals.length (HR1.out.below HB.out) (by have := HL1.out; omega))
      go_wp2_with fail
      refine HEN.out.mono ?_
      rintro e w5 ⟨v5, rfl, ho, hb⟩
      have HE5 := Aside0.mk (RdS.of_R ho)
      have HB5 : Aside0 (Below w.heap.size w w5) := ⟨below_to HB.out hb⟩
      have HG5 := Aside0.mk (RdS.of_R (Kd.R_below HG.out hb))
      have HT5 := Aside0.mk (HTR.out.below hb).read
      clear ho hb HEN HY HG HTR HB HS HA
      obtain ⟨A5, c5, rfl, -, -⟩ := HE5.out
      obtain ⟨A6, c6, rfl, -, -⟩ := HG5.out
      go_wp2
      go_loopg [41] ps.length (fun gk x w' => ∃ k : Nat, x = .int .i64 (k : Int) ∧ Aside0 (k ≤ ps.length ∧ gk = ps.length - k) ∧ Aside0 (Below w5.heap.size w5 w'))
      case atStart => exact ⟨0, by first | rfl | simp, ⟨Nat.zero_le _, rfl⟩, ⟨Below.refl _ _⟩⟩
      case round =>
        obtain ⟨k, rfl, HA, HB⟩ := hrel
        by_cases hk : k < ps.length
        · have h63 := HPL.out
          obtain ⟨ad, rfl, hx⟩ := Kd.at_int HRP.out (k : Int) (by omega) (by omega)
          replace hx := pw_cell_below HB.out (pw_cell_below HB5.out hx)
          simp only [Int.toNat_natCast] at hx
          obtain ⟨r, hr⟩ : ∃ r, rd ps (k : Int) = r := ⟨_, rfl⟩
          rw [hr] at hx
          clear hr
          have HGT := Aside0.mk (getS_any wr T vals F H B r (HT5.out.below HB.out) HI.out (cell_in HCV.out))
          have HRG := Aside0.mk (fun W (hb : Below w5.heap.size w5 W) => refGet_any W _ (entL vals.length l1) r (HE5.out.below hb))
          have HLV : Aside0 (lastE (entL vals.length l1) r = cellAt F B r) := ⟨by rw [last_val, cellAt_val HCV.out]⟩
          have HVR : Aside0 (-1 ≤ cellAt F B r ∧ cellAt F B r < vals.length) := ⟨by
            unfold cellAt
            split
            · rename_i h; exact cell_in HCV.out r h.1 h.2
            · omega⟩
          obtain ⟨y, hy⟩ : ∃ y, cellAt F B r = y := ⟨_, rfl⟩
          rw [hy] at HGT HLV HVR
          clear hy
          by_cases h60 : k ≤ 60
          · by_cases hn : y = -1
            · subst hn
              go_wp2_with fail
              refine HGT.out.mono ?_
              rintro e w6 ⟨rfl, hd⟩
              have HB6 : Aside0 (Below w5.heap.size w5 w6) := ⟨below_to HB.out hd.below⟩
              clear hd HGT hx
              go_wp2_with fail
              refine (HRG.out w6 HB6.out).mono ?_
              rintro e w7 ⟨rfl, hb⟩
              have HB7 : Aside0 (Below w5.heap.size w5 w7) := ⟨below_to HB6.out hb⟩
              rw [HLV.out]
              clear hb HRG
              go_wp2
              go_roundg (gk - 1)
              case measure => have := HA.out; omega
              case rel => exact ⟨k + 1, by go_num, ⟨by omega, by have := HA.out; omega⟩, HB7⟩
            · obtain ⟨j, rfl⟩ : ∃ j : Nat, y = (j : Int) := ⟨y.toNat, by have := HVR.out; omega⟩
              have hjl : j < vals.length := by have := HVR.out; omega
              obtain ⟨ad2, rfl, hs⟩ := at_VS HRV.out (j : Int) (by omega) (by omega)
              have HSV : Aside0 (rdOf ByteArray.empty vals (j : Int) = vals.getD (j : Int).toNat ByteArray.empty) := ⟨rfl⟩
              obtain ⟨s, hs2⟩ : ∃ s, rdOf ByteArray.empty vals (j : Int) = s := ⟨_, rfl⟩
              rw [hs2] at hs HSV
              have hsw := fun (W : World) (hb : Below w.heap.size w W) => pw_cell_below hb hs
              have HSW := Aside0.mk hsw
              simp only [Int.toNat_natCast] at HSW
              rw [if_neg hn, ← HSV.out, decide_eq_true hn] at HGT
              have hj0 : 0 ≤ (j : Int) := by omega
              clear hs2 hs hsw hn HSV
              go_wp2_with fail
              refine HGT.out.mono ?_
              rintro e w6 ⟨rfl, hd⟩
              have HB6 : Aside0 (Below w5.heap.size w5 w6) := ⟨below_to HB.out hd.below⟩
              clear hd HGT hx
              go_wp2_with fail
              refine (HRG.out w6 HB6.out).mono ?_
              rintro e w7 ⟨rfl, hb⟩
              have HB7 : Aside0 (Below w5.heap.size w5 w7) := ⟨below_to HB6.out hb⟩
              have hs7 := HSW.out w7 (below_to HB5.out HB7.out)
              rw [HLV.out]
              clear hb HRG HSW
              go_wp2
              go_roundg (gk - 1)
              case measure => have := HA.out; omega
              case rel => exact ⟨k + 1, by go_num, ⟨by omega, by have := HA.out; omega⟩, HB7⟩
          · have HEQ := Aside0.mk (equalE_same wr _ _ l1 (HG5.out.below HB.out) (HR1.out.below (below_to HB5.out HB.out)))
            clear HGT HRG
            go_wp2_with fail
            refine HEQ.out.mono ?_
            rintro e w6 ⟨rfl, hd⟩
            have HB6 : Aside0 (Below w.heap.size w w6) := ⟨below_to HB5.out (below_to HB.out hd.below)⟩
            clear hd HEQ hx
            go_wp2_with fail
            refine (awakeT_any _).mono ?_
            rintro e w7 ⟨rfl, hb⟩
            have HB7 : Aside0 (Below w.heap.size w w7) := ⟨below_to HB6.out hb⟩
            clear hb
            go_wp2
            go_ret
            exact ⟨rfl, HB7.out⟩
        · have HEQ := Aside0.mk (equalE_same wr _ _ l1 (HG5.out.below HB.out) (HR1.out.below (below_to HB5.out HB.out)))
          go_wp2_with fail
          refine HEQ.out.mono ?_
          rintro e w6 ⟨rfl, hd⟩
          have HB6 : Aside0 (Below w.heap.size w w6) := ⟨below_to HB5.out (below_to HB.out hd.below)⟩
          clear hd HEQ
          go_wp2_with fail
          refine (awakeT_any _).mono ?_
          rintro e w7 ⟨rfl, hb⟩
          have HB7 : Aside0 (Below w.heap.size w w7) := ⟨below_to HB6.out hb⟩
          clear hb
          go_wp2
          go_ret
          exact ⟨rfl, HB7.out⟩

end Go.Proofs.Ytpgnfccamcefgaa
