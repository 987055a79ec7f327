/- Walk of the law TrieRanges. -/
import Derived.Test.YtpgnfccamcefgaaTrRgI
import Derived.Test.YtpgnfccamcefgaaTrRefR
import Derived.Test.YtpgnfccamcefgaaTrBdI
import Derived.Test.YtpgnfccamcefgaaTrAwake
namespace Go.Proofs.Ytpgnfccamcefgaa
set_option linter.unusedVariables false
set_option linter.unusedSimpArgs false
open Go.RowKit Go.Proofs.YtpgnfccamcefgaaW.PrintWords Go.Proofs.YtpgnfccamcefgaaW.PrintLast Go.Proofs.YtpgnfccamcefgaaW.PrintMore
attribute [local go_sem] max2_int min2_int max_two min_two

/-- The places at which a value stands. -/
def placesOf (vals : List Int) (v : Int) : Nat → List Int
  | 0 => []
  | k + 1 => if vals.getD k 0 = v then placesOf vals v k ++ [(k : Int)] else placesOf vals v k
theorem places_mem (vals : List Int) (v : Int) (c : Int) : ∀ k, c ∈ placesOf vals v k ↔ 0 ≤ c ∧ c < k ∧ vals.getD c.toNat 0 = v
  | 0 => ⟨fun h => (by cases h), fun h => by omega⟩
  | k + 1 => by
    have ih := places_mem vals v c k
    unfold placesOf
    by_cases h : vals.getD k 0 = v
    · rw [if_pos h, List.mem_append, List.mem_singleton, ih]
      constructor
      · rintro (⟨h1, h2, h3⟩ | rfl)
        · exact ⟨h1, by omega, h3⟩
        · exact ⟨by omega, by omega, by simpa using h⟩
      · rintro ⟨h1, h2, h3⟩
        by_cases e : c = (k : Int)
        · exact .inr e
        · exact .inl ⟨h1, by omega, h3⟩
    · rw [if_neg h, ih]
      constructor
      · rintro ⟨h1, h2, h3⟩; exact ⟨h1, by omega, h3⟩
      · rintro ⟨h1, h2, h3⟩
        by_cases e : c = (k : Int)
        · subst e; simp only [Int.toNat_natCast] at h3; exact absurd h3 h
        · exact ⟨h1, by omega, h3⟩
theorem places_len (vals : List Int) (v : Int) : ∀ k, (placesOf vals v k).length ≤ k
  | 0 => Nat.le_refl _
  | k + 1 => by
    have ih := places_len vals v k
    unfold placesOf
    split
    · rw [List.length_append]; simp; omega
    · omega
/-- The trie's set and the reference's are one. -/
theorem ranges_same {F H : Int → Option Int} {B : List (List Int)} {vals : List Int} {v : Int} {l : List En} {r r2 : List Rg} (hi : TInv F H B) (hv : ∀ r, 0 ≤ r → r ≤ 1114111 → cellOf F B r = valE vals.length l r)
    (h1 : SetOf (fun x => F (x / 256) ≠ none ∧ hitC vals v (cellOf F B x)) r) (h2 : SetOf (fun x => inP (placesOf vals v vals.length) (entL vals.length l) x = true) r2) : r = r2 := by
  refine setOf_eq h1 (setOf_congr h2 (fun x h0 h1 => ?_))
  have hm : ¬ (-1 : Int) ∈ placesOf vals v vals.length := fun h => by have := ((places_mem _ _ _ _).1 h).1; omega
  have hx : lastE (entL vals.length l) x = cellOf F B x := by rw [last_val, if_pos ⟨h0, h1⟩, hv x h0 h1]
  have hin := valE_in vals.length l x
  rw [← hv x h0 h1] at hin
  rw [inP_last _ hm, hx, List.contains_iff_mem, places_mem]
  constructor
  · rintro ⟨h3, h4, h5⟩
    refine ⟨fun h => ?_, h3, h5⟩
    have h6 : cellOf F B x = -1 := by
      unfold cellOf
      rw [h]
      have := (hi.wholeIn (-1) 0 hi.zero.2).2.2 (x % 256).toNat (by omega)
      simpa using this
    omega
  · rintro ⟨h3, h4, h5⟩
    exact ⟨h4, hin.2, h5⟩

set_option maxHeartbeats 4000000 in
set_option maxRecDepth 100000 in
theorem TrieRanges_walk (w : World) (ve : Value) (l : List En) (vv : Value) (vals0 : List Int) (v : Int) (he : RdS kE w ve l) (hv : RdS (Kd.int .i64) w vv vals0) :
    Calls Try.prog 14 #[ve, vv, .int .i64 v] w fun e w' => e = .returned (.bool true) ∧ Below w.heap.size w w' := by
  have HF := Aside0.mk (few_any w ve l he)
  have hvl := hv.len
  obtain ⟨A, c, rfl, -, -⟩ := he
  obtain ⟨Av, cv, rfl, hcv, hrv⟩ := hv
  obtain ⟨i0, hi0, _, hsz, _⟩ := info_parts Try.infoInt
  obtain ⟨m, hm, hm2⟩ : ∃ m : Nat, (if (20 : Int) < (vals0.length : Int) then (20 : Int) else (vals0.length : Int)) = (m : Int) ∧ m = min 20 vals0.length := by
    by_cases h : (20 : Int) < (vals0.length : Int)
    · exact ⟨20, by rw [if_pos h]; rfl, by omega⟩
    · exact ⟨vals0.length, by rw [if_neg h], by omega⟩
  have hcut := cut_to (P := Try.prog) 47 3 .i64 Try.underlying47 hi0 Av vals0.length cv (m : Int) (by omega) (by omega) hcv
  obtain ⟨vals, hvals⟩ : ∃ vals, vals0.take m = vals := ⟨_, rfl⟩
  have hlen : vals.length = m := by rw [← hvals, List.length_take]; omega
  have HV : Aside0 (RdS (Kd.int .i64) w (.slice Av m cv) vals) := ⟨⟨Av, cv, by rw [hlen], by omega, by rw [← hvals]; exact Kd.C_take hrv (by omega)⟩⟩
  have HVL : Aside0 (vals.length = m) := ⟨hlen⟩
  have hm20 : m ≤ 20 := by omega
  have HCM : Aside0 (m ≤ cv) := ⟨by omega⟩
  clear hm2 hrv hvals hlen hi0 hsz hcv
  go_enter Try.func14, Try.ntmps14
  go_wp2_with fail
  refine HF.out.mono ?_
  rintro e w1 ⟨v1, rfl, hr1, rfl⟩
  have HL1 : Aside0 ((l.take 12).length ≤ 12) := ⟨by rw [List.length_take]; omega⟩
  obtain ⟨l1, hl1⟩ : ∃ l1, l.take 12 = l1 := ⟨_, rfl⟩
  rw [hl1] at hr1 HL1
  obtain ⟨A1, c1, rfl, hc1, hr1⟩ := hr1
  have HR1 : Aside0 (RdS kE w (.slice A1 l1.length c1) l1) := ⟨⟨A1, c1, rfl, hc1, hr1⟩⟩
  clear hr1 hc1 hl1 HF
  go_wp2
  go_loopg [7, 20] m (fun gk z i w' => ∃ k : Nat, i = .int .i64 (k : Int) ∧ Aside0 (k ≤ m ∧ gk = m - k) ∧ Aside0 (Own (Kd.int .i64) 3 w' w.heap.size z (placesOf vals v k)) ∧ Aside0 (Below w.heap.size w w'))
  case atStart => exact ⟨0, by first | rfl | simp, ⟨Nat.zero_le _, rfl⟩, ⟨Kd.R_nil _ _ _ _ _⟩, ⟨Below.refl _ _⟩⟩
  case round =>
    obtain ⟨k, rfl, HA, HO, HB⟩ := hrel
    by_cases hk : k < m
    · obtain ⟨A2, c2, e2, -, hr2⟩ := HV.out
      rw [HVL.out] at e2
      cases e2
      obtain ⟨ad, rfl, hx⟩ := Kd.at_int hr2 (k : Int) (by omega) (by have := HVL.out; omega)
      replace hx := pw_cell_below HB.out hx
      have HX : Aside0 (rd vals (k : Int) = vals.getD k 0) := ⟨by simp [rd]⟩
      simp only [Int.toNat_natCast] at hx
      obtain ⟨x, hx2⟩ : ∃ x, rd vals (k : Int) = x := ⟨_, rfl⟩
      rw [hx2] at hx HX
      clear hx2 hr2
      by_cases hxv : x = v
      · have HP : Aside0 (placesOf vals v (k + 1) = placesOf vals v k ++ [(k : Int)]) := ⟨by show (if vals.getD k 0 = v then _ else _) = _; rw [if_pos (by rw [← HX.out]; exact hxv)]⟩
        have hq : (x == v) = true := beq_iff_eq.2 hxv
        have HPL := Aside0.mk (places_len vals v k)
        clear hxv
        go_wp2_with (at_builtin; refine Kd.R_append (Kd.int .i64) (w0 := w) w.heap.size rfl (.tmp 28) (.tmp 30) 47 3 (.int .i64 0) 8 rfl Try.underlying47 Try.infoInt rfl (by decide) (by omega) _ (placesOf vals v k) (k : Int) [.int .i64 (k : Int)] (fun _ => True) (fun _ => False) rfl rfl (int_mkM _ _ _ _ (k : Int)) (fun _ h => h.elim) (fun _ _ => trivial) HO.out HB.out HB.out.size ?aL ?_)
        case aL => have := HPL.out; omega
        intro v3 w3 ho hb hg hat
        have HO3 := Aside0.mk ho
        have HB3 := Aside0.mk hb
        clear ho hb hg hat HO HB hx
        go_wp2
        go_roundg (gk - 1)
        case measure => have := HA.out; omega
        case rel => exact ⟨k + 1, by go_num, ⟨by omega, by have := HA.out; omega⟩, ⟨by rw [HP.out]; exact HO3.out⟩, HB3⟩
      · have HP : Aside0 (placesOf vals v (k + 1) = placesOf vals v k) := ⟨by show (if vals.getD k 0 = v then _ else _) = _; rw [if_neg (by rw [← HX.out]; exact hxv)]⟩
        have hq : (x == v) = false := beq_eq_false_iff_ne.2 hxv
        clear hxv
        go_wp2
        go_roundg (gk - 1)
        case measure => have := HA.out; omega
        case rel => exact ⟨k + 1, by go_num, ⟨by omega, by have := HA.out; omega⟩, ⟨by rw [HP.out]; exact HO.out⟩, HB⟩
    · have hkm : k = m := by have := HA.out; omega
      subst hkm
      have HPS : Aside0 (placesOf vals v k = placesOf vals v vals.length) := ⟨by rw [HVL.out]⟩
      rw [HPS.out] at HO
      go_wp2_with fail
      refine (buildI_any wr _ _ l1 vals (HR1.out.below HB.out) (HV.out.below HB.out) (by have := HL1.out; omega) (by have := HVL.out; omega) (by have := HVL.out; omega)).mono ?_
      rintro e w4 ⟨T, F, H, B, rfl, hr, hi, hvi, hc, hb⟩
      have HB4 : Aside0 (Below w.heap.size w w4) := ⟨below_to HB.out hb⟩
      have HP4 := Aside0.mk (RdS.of_R (Kd.R_below HO.out hb))
      have HI := Aside0.mk hi
      have HCV := Aside0.mk hc
      have HRG := Aside0.mk (rangesI_any w4 _ T vals F H B v hr hi hvi (by have := HVL.out; omega))
      clear hr hi hvi hc hb HO HB
      go_wp2_with fail
      refine HRG.out.mono ?_
      rintro e w5 ⟨v5, r5, rfl, hs5, hr5, hb⟩
      have HS5 := Aside0.mk hs5
      have HR5 := Aside0.mk hr5
      have HB5 : Aside0 (Below w.heap.size w w5) := ⟨below_to HB4.out hb⟩
      have HP5 := Aside0.mk (HP4.out.below hb)
      clear hs5 hr5 hb HRG
      go_wp2_with fail
      refine (entries_any w5 _ l1 (k : Int) (HR1.out.below HB5.out) (by have := HL1.out; omega)).mono ?_
      rintro e w6 ⟨v6, rfl, ho, hb⟩
      have HE6 := Aside0.mk (RdS.of_R ho)
      have HB6 : Aside0 (Below w.heap.size w w6) := ⟨below_to HB5.out hb⟩
      have HR6 := Aside0.mk (HR5.out.below hb)
      have HP6 := Aside0.mk (HP5.out.below hb)
      clear ho hb
      obtain ⟨A7, c7, rfl, -, -⟩ := HP6.out
      go_wp2_with fail
      refine (refRanges_any w6 _ _ (entL (k : Int) l1) (placesOf vals v vals.length) HE6.out HP6.out).mono ?_
      rintro e w7 ⟨v7, r7, rfl, hs7, hr7, hb⟩
      have HB7 : Aside0 (Below w.heap.size w w7) := ⟨below_to HB6.out hb⟩
      have HR7 := Aside0.mk (HR6.out.below hb)
      have HSM : Aside0 (r5 = r7) := ⟨ranges_same HI.out HCV.out HS5.out (by rw [HVL.out] at hs7 ⊢; exact hs7)⟩
      have HR8 := Aside0.mk hr7
      clear hs7 hr7 hb
      go_wp2_with fail
      refine (equal_got HR7.out HR8.out HSM.out).mono ?_
      rintro e w8 ⟨rfl, hb⟩
      have HB8 : Aside0 (Below w.heap.size w w8) := ⟨below_to HB7.out hb⟩
      clear hb
      go_wp2_with fail
      refine (awakeT_any _).mono ?_
      rintro e w9 ⟨rfl, hb⟩
      have HB9 : Aside0 (Below w.heap.size w w9) := ⟨below_to HB8.out hb⟩
      clear hb
      go_wp2
      go_ret
      exact ⟨rfl, HB9.out⟩

end Go.Proofs.Ytpgnfccamcefgaa
