/- Walk of the law TrieParts. -/
import Derived.Test.YtpgnfccamcefgabTrRgI
import Derived.Test.YtpgnfccamcefgabTrBdI
import Derived.Test.YtpgnfccamcefgabTrGetXI
import Derived.Test.YtpgnfccamcefgabRgRC
import Derived.Test.YtpgnfccamcefgabRgG
import Derived.Test.YtpgnfccamcefgabTrAwake
namespace Go.Proofs.Ytpgnfccamcefgab
set_option linter.unusedVariables false
set_option linter.unusedSimpArgs false
open Go.RowKit Go.Proofs.YtpgnfccamcefgabW.PrintWords Go.Proofs.YtpgnfccamcefgabW.PrintLast Go.Proofs.YtpgnfccamcefgabW.PrintMore
attribute [local go_sem] max2_int min2_int max_two min_two

theorem canonFrom_len0 : ∀ (l : List Rg) (a : Int), CanonFrom a l → (l.length : Int) ≤ if a ≤ 1114112 then 1114112 - a else 0
  | [], a, _ => by split <;> simp; omega
  | p :: t, a, h => by
    have ih := canonFrom_len0 t _ h.2.2.2
    have h1 := h.1
    have h2 := h.2.1
    have h3 := h.2.2.1
    rw [List.length_cons]
    split at ih <;> split <;> omega
theorem canon_len0 {l : List Rg} (h : Canon l) : l.length ≤ 1114112 := by
  have := canonFrom_len0 l 0 h
  simp at this
  omega
/-- A code point lies in the ranges of its value, and of no other. -/
theorem parts_has {F H : Int → Option Int} {B : List (List Int)} {r x y vv : Int} {s : List Rg} (hi : TInv F H B) (hy : cellAt F B r = y) (hr : ∀ x, 0 ≤ x → x ≤ 1114111 → -1 ≤ cellOf F B x ∧ cellOf F B x < (3 : Nat))
    (hv : vv = if y = -1 then (0 : Int) else ([7, 8, 9] : List Int).getD y.toNat 0)
    (hs : SetOf (fun z => F (z / 256) ≠ none ∧ hitC [7, 8, 9] x (cellOf F B z)) s) : hasB s r = (decide (y ≠ -1) && (x == vv)) := by
  rw [Bool.eq_iff_iff, hasB_iff, hs.2, Bool.and_eq_true, decide_eq_true_iff, beq_iff_eq]
  unfold cellAt at hy
  by_cases hin : 0 ≤ r ∧ r ≤ 1114111
  · rw [if_pos hin] at hy
    have h3 := hr r hin.1 hin.2
    show _ ∧ _ ∧ _ ∧ _ ∧ (F (r / 256) ≠ none ∧ hitC [7, 8, 9] x (cellOf F B r)) ↔ _
    rw [hy] at h3 ⊢
    unfold hitC
    constructor
    · rintro ⟨-, -, -, -, -, h4, h5⟩
      have hn : y ≠ -1 := by omega
      rw [if_neg hn] at hv
      exact ⟨hn, by rw [hv, h5]⟩
    · rintro ⟨hn, h5⟩
      rw [if_neg hn] at hv
      refine ⟨hin.1, hin.2, hin.1, hin.2, fun h => hn ?_, by omega, by rw [h5, hv]⟩
      rw [← hy]
      unfold cellOf
      rw [h]
      have := (hi.wholeIn (-1) 0 hi.zero.2).2.2 (r % 256).toNat (by omega)
      simpa using this
  · rw [if_neg hin] at hy
    constructor
    · rintro ⟨h0, h1, -⟩
      exact absurd ⟨h0, h1⟩ hin
    · rintro ⟨hn, -⟩
      exact absurd hy.symm hn

set_option maxHeartbeats 4000000 in
set_option maxRecDepth 100000 in
theorem TrieParts_walk (w : World) (ve : Value) (l : List En) (r : Int) (he : RdS kE w ve l) :
    Calls Try.prog 3 #[ve, .int .i64 r] w fun e w' => e = .returned (.bool true) ∧ Below w.heap.size w w' := by
  have HF := Aside0.mk (few_any w ve l he)
  obtain ⟨A, c, rfl, -, -⟩ := he
  go_enter Try.func3, Try.ntmps3
  go_wp2_with fail
  refine HF.out.mono ?_
  rintro e w1 ⟨v1, rfl, hr1, rfl⟩
  have HL1 : Aside0 ((l.take 12).length ≤ 12) := ⟨by rw [List.length_take]; omega⟩
  obtain ⟨l1, hl1⟩ : ∃ l1, l.take 12 = l1 := ⟨_, rfl⟩
  rw [hl1] at hr1 HL1
  obtain ⟨A1, c1, rfl, hc1, hr1⟩ := hr1
  have HR1 : Aside0 (RdS kE w (.slice A1 l1.length c1) l1) := ⟨⟨A1, c1, rfl, hc1, hr1⟩⟩
  clear hr1 hc1 hl1 HF
  have HV2 : Aside0 (RdS (Kd.int .i64) (w.alloc (.cells #[.int .i64 7, .int .i64 8, .int .i64 9] 3)) (.slice (some ⟨w.heap.size, 0, none⟩) 3 3) [7, 8, 9]) := ⟨rd_flat (kd := Kd.int .i64) (l := [7, 8, 9]) (fun s => [.int .i64 s]) (fun _ _ => rfl) (heap_alloc_new w _) (by decide)⟩
  have HB2 : Aside0 (Below w.heap.size w (w.alloc (.cells #[.int .i64 7, .int .i64 8, .int .i64 9] 3))) := ⟨below_alloc (Below.refl _ _) _⟩
  obtain ⟨gw, hgw⟩ : ∃ gw, w.heap.size = gw := ⟨_, rfl⟩
  rw [hgw] at HV2
  go_wp2_with fail
  obtain ⟨W2, hW2⟩ : ∃ W2, w.alloc (.cells #[.int .i64 7, .int .i64 8, .int .i64 9] 3) = W2 := ⟨_, rfl⟩
  rw [hW2] at HV2 HB2 ⊢
  clear hW2 
  refine (buildI_any W2 _ _ l1 [7, 8, 9] (HR1.out.below HB2.out) HV2.out (by have := HL1.out; omega) (by decide) (by decide)).mono ?_
  rintro e w4 ⟨T, F, H, B, rfl, hr, hi, hvi, hc, hb⟩
  have HB4 : Aside0 (Below w.heap.size w w4) := ⟨below_to HB2.out hb⟩
  have HV4 := Aside0.mk (HV2.out.below hb)
  have HI := Aside0.mk hi
  have HVI := Aside0.mk hvi
  have HCI := Aside0.mk (cell_in hc)
  have HTR := Aside0.mk hr
  clear hr hi hvi hc hb HV2 HB2 hgw
  have HGT := Aside0.mk (getI_any w4 T _ F H B r HTR.out.read HI.out HCI.out)
  obtain ⟨y, hy⟩ : ∃ y, cellAt F B r = y := ⟨_, rfl⟩
  have HY := Aside0.mk hy
  rw [hy] at HGT
  clear hy
  go_wp2_with fail
  refine HGT.out.mono ?_
  rintro e w5 ⟨rfl, hd⟩
  have HB5 : Aside0 (Below w.heap.size w w5) := ⟨below_to HB4.out hd.below⟩
  have HV5 := Aside0.mk (HV4.out.below hd.below)
  have HT5 := Aside0.mk (HTR.out.below hd.below)
  clear hd HGT HTR HV4 HB4
  obtain ⟨vv, hvv⟩ : ∃ vv, (if y = -1 then (0 : Int) else ([7, 8, 9] : List Int).getD y.toNat 0) = vv := ⟨_, rfl⟩
  have HVV := Aside0.mk hvv.symm
  rw [hvv]
  clear hvv
  obtain ⟨bk, hbk⟩ : ∃ bk, decide (y ≠ -1) = bk := ⟨_, rfl⟩
  have HBK := Aside0.mk hbk
  rw [hbk]
  clear hbk
  go_wp2
  go_loopg [26] 3 (fun gk x w' => ∃ k : Nat, x = .int .i64 (k : Int) ∧ Aside0 (k ≤ 3 ∧ gk = 3 - k) ∧ Aside0 (Below w5.heap.size w5 w'))
  case atStart => exact ⟨0, by first | rfl | simp, ⟨by omega, by omega⟩, ⟨Below.refl _ _⟩⟩
  case round =>
    obtain ⟨k, rfl, HA, HB⟩ := hrel
    by_cases hk : k < 3
    · obtain ⟨A5, c5, e5, -, hr5⟩ := HV5.out
      cases e5
      obtain ⟨ad, e6, hx⟩ := Kd.at_int hr5 (k : Int) (by omega) (by show (k : Int) < ((3 : Nat) : Int); omega)
      cases e6
      replace hx := pw_cell_below HB.out hx
      simp only [Int.toNat_natCast, add_plain, Nat.zero_add] at hx
      obtain ⟨x, hx2⟩ : ∃ x, rd ([7, 8, 9] : List Int) (k : Int) = x := ⟨_, rfl⟩
      rw [hx2] at hx
      clear hx2 hr5
      have HRG := Aside0.mk (rangesI_any wr _ T [7, 8, 9] F H B x (HT5.out.below HB.out) HI.out HVI.out (by decide))
      go_wp2_with fail
      refine HRG.out.mono ?_
      rintro e w6 ⟨v6, s, rfl, hs6, hr6, hb⟩
      have HS6 := Aside0.mk (parts_has HI.out HY.out HCI.out HVV.out hs6)
      have HC6 := Aside0.mk hs6.1
      have HR6 := Aside0.mk hr6
      have HB6 : Aside0 (Below w5.heap.size w5 w6) := ⟨below_to HB.out hb⟩
      have HL6 : Aside0 (s.length * 64 ≤ 1407374883553) := ⟨by have := canon_len0 hs6.1; omega⟩
      clear hs6 hr6 hb HRG HB hx
      obtain ⟨A7, c7, rfl, -, -⟩ := HR6.out
      go_wp2_with fail
      refine (refCan_any w6 _ s HR6.out HL6.out).mono ?_
      rintro e w7 ⟨rfl, hb⟩
      have HB7 : Aside0 (Below w5.heap.size w5 w7) := ⟨below_to HB6.out hb⟩
      have HR7 := Aside0.mk (HR6.out.below hb)
      rw [decide_eq_true HC6.out]
      clear hb HR6 HB6
      go_wp2_with fail
      refine (has_any w7 _ s r HR7.out).mono ?_
      rintro e w8 ⟨rfl, hb⟩
      have HB8 : Aside0 (Below w5.heap.size w5 w8) := ⟨below_to HB7.out hb⟩
      rw [HS6.out, HBK.out]
      clear hb HB7
      by_cases hxv : x = vv
      · have hq : (x == vv) = true := beq_iff_eq.2 hxv
        cases bk
        · go_wp2
          go_roundg (gk - 1)
          case measure => have := HA.out; omega
          case rel => exact ⟨k + 1, by go_num, ⟨by omega, by have := HA.out; omega⟩, HB8⟩
        · go_wp2
          go_roundg (gk - 1)
          case measure => have := HA.out; omega
          case rel => exact ⟨k + 1, by go_num, ⟨by omega, by have := HA.out; omega⟩, HB8⟩
      · have hq : (x == vv) = false := beq_eq_false_iff_ne.2 hxv
        cases bk
        · go_wp2
          go_roundg (gk - 1)
          case measure => have := HA.out; omega
          case rel => exact ⟨k + 1, by go_num, ⟨by omega, by have := HA.out; omega⟩, HB8⟩
        · go_wp2
          go_roundg (gk - 1)
          case measure => have := HA.out; omega
          case rel => exact ⟨k + 1, by go_num, ⟨by omega, by have := HA.out; omega⟩, HB8⟩
    · go_wp2_with fail
      refine (awakeT_any _).mono ?_
      rintro e w9 ⟨rfl, hb⟩
      have HB9 : Aside0 (Below w.heap.size w w9) := ⟨below_to HB5.out (below_to HB.out hb)⟩
      clear hb
      go_wp2
      go_ret
      exact ⟨rfl, HB9.out⟩

end Go.Proofs.Ytpgnfccamcefgab
