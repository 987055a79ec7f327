/- Walks: lines.digits, lines.wrong. -/
import Derived.Test.YtooehjbbphokbaaDoorLnJ
import Derived.Laws.BitsLemmas
namespace Go.Proofs.YtooehjbbphokbaaDoor
set_option linter.unusedVariables false
set_option linter.unusedSimpArgs false
open Go.RowKit Go.Proofs.YtooehjbbphokbaaDoorW.PrintWords Go.Proofs.YtooehjbbphokbaaDoorW.PrintLast Go.Proofs.YtooehjbbphokbaaDoorW.PrintMore

theorem and15 (q : Nat) (h : q < 16777216) : bits .and .i64 (q : Int) 15 = ((q % 16 : Nat) : Int) := by
  have h := bits_mask .i64 63 (by decide) (fun n h0 h1 => by rw [IntKind.wrap_i64]; omega) 4 (by decide) (q : Int) (by omega) (by omega)
  have e : ((2 : Int) ^ 4 - 1) = 15 := by decide
  have e2 : ((2 : Int) ^ 4) = 16 := by decide
  rw [e, e2] at h
  rw [h]
  omega
/-- Six cells at block g, of which those from j on hold the digits. -/
def SixAt (w : World) (g j : Nat) (acc : List UInt8) : Prop := (∀ k, k < 6 → (∃ u, w.cell? ⟨g, k, none⟩ = some u) ∧ w.frozen? ⟨g, k, none⟩ = false) ∧ ∀ k (hk : k < acc.length), w.cell? ⟨g, j + k, none⟩ = some (.int .u8 (acc[k].toNat : Int))
theorem SixAt.put {w : World} {g j : Nat} {acc : List UInt8} (h : SixAt w g (j + 1) acc) (hj : j < 6) (b : UInt8) : SixAt (w.setCell ⟨g, j, none⟩ (.int .u8 (b.toNat : Int))) g j (b :: acc) := by
  refine ⟨fun k hk => ?_, fun k hk => ?_⟩
  · obtain ⟨⟨u, hu⟩, hz⟩ := h.1 k hk
    exact ⟨cell?_setCell_some hu, by rw [World.frozen?_setCell]; exact hz⟩
  · obtain ⟨⟨u, hu⟩, hz⟩ := h.1 j hj
    match k, hk with
    | 0, _ => exact World.cell?_setCell_same _ _ _ hu
    | k + 1, hk =>
      rw [World.cell?_setCell_other _ _ _ _ (by intro e; have := congrArg Addr.off e; simp at this), show j + (k + 1) = j + 1 + k by omega]
      exact h.2 k (by simp only [List.length_cons] at hk; omega)
theorem add_at (b o j : Nat) : (⟨b, o, none⟩ : Addr).add j = ⟨b, o + j, none⟩ := by unfold Addr.add; split <;> simp_all
theorem SixAt.new (w : World) (T : TypeId) : SixAt (w.alloc (.cells #[.int .u8 0, .int .u8 0, .int .u8 0, .int .u8 0, .int .u8 0, .int .u8 0] T)) w.heap.size 6 [] := by
  refine ⟨fun k hk => ⟨⟨.int .u8 0, ?_⟩, Lib.frozen_of_heap (heap_alloc_new w _) k⟩, fun k hk => absurd hk (by simp)⟩
  rw [Lib.cell_of_heap (heap_alloc_new w _)]
  match k, hk with
  | 0, _ => rfl
  | 1, _ => rfl
  | 2, _ => rfl
  | 3, _ => rfl
  | 4, _ => rfl
  | 5, _ => rfl
theorem slice6 (W : World) (g j : Nat) (hj : j ≤ 2) : (Instr.sliceAt 89 (.pointer (some ⟨g, 0, none⟩)) (some (.int .i64 (j : Int))) none none).run Tryd.prog W = .ok (.slice (some ⟨g, j, none⟩) (6 - j) (6 - j)) W := by
  have ha : Tryd.prog.arrayLen 89 = 6 := by kernel_rfl
  have he : Tryd.prog.elem 89 = 5 := by kernel_rfl
  have h := run_sliceAt_array_l (P := Tryd.prog) W 89 ⟨g, 0, none⟩ (by rw [ha, he]; exact Tryd.underlying89) .i64 (j : Int) (by omega) (by rw [ha]; omega)
  rw [h, he, Tryd.sizeOf5, ha]
  simp only [Result.andThen, slicedAt]
  rw [if_neg (by omega), Int.toNat_natCast, Nat.mul_one, add_at, Nat.zero_add]
theorem hexC_at (d : Nat) (hd : d < 16) : (⟨#[48, 49, 50, 51, 52, 53, 54, 55, 56, 57, 65, 66, 67, 68, 69, 70]⟩ : ByteArray)[d]'hd = hexC d := by
  have h : ∀ d : Fin 16, (⟨#[48, 49, 50, 51, 52, 53, 54, 55, 56, 57, 65, 66, 67, 68, 69, 70]⟩ : ByteArray)[d.val]'d.isLt = hexC d.val := by decide
  exact h ⟨d, hd⟩

set_option maxHeartbeats 4000000 in
set_option maxRecDepth 100000 in
theorem digits_any (n : Int) (w : World) (h0 : 0 ≤ n) (h1 : n ≤ 1114111) :
    Calls Tryd.prog 53 #[.int .i64 n] w fun e w' => e = .returned (.string (bsL (pointL n.toNat))) ∧ Below w.heap.size w w' := by
  obtain ⟨R, hR⟩ : ∃ R, pointL n.toNat = R := ⟨_, rfl⟩
  have hst : hexL 6 n.toNat [] = R := hR
  rw [hR]
  obtain ⟨q, rfl⟩ : ∃ q : Nat, n = (q : Int) := ⟨n.toNat, by omega⟩
  rw [Int.toNat_natCast] at hst
  have HST : Aside0 (hexL 6 q [] = R ∧ q < 16 ^ 6) := ⟨hst, by omega⟩
  clear hst hR h0 h1
  go_enter Tryd.func53, Tryd.ntmps53
  go_wp2
  go_loopg [0, 4] 6 (fun gk v0 v4 w' => ∃ (q j : Nat) (acc : List UInt8), v0 = .int .i64 (q : Int) ∧ v4 = .int .i64 (j : Int) ∧ Aside0 (gk = j ∧ acc.length + j = 6) ∧ Aside0 (hexL j q acc = R ∧ q < 16 ^ j) ∧ Aside0 (SixAt w' w.heap.size j acc) ∧ Aside0 (Below w.heap.size w w'))
  case atStart => exact ⟨q, 6, [], by first | rfl | simp, by first | rfl | simp, ⟨rfl, rfl⟩, HST, ⟨SixAt.new _ _⟩, ⟨below_alloc (Below.refl _ _) _⟩⟩
  case round =>
    clear HST
    obtain ⟨q, j, acc, rfl, rfl, HA, HX, HS, HB⟩ := hrel
    by_cases hgo : 0 < q ∨ acc.length < 4
    · have hjb : 0 < j := by
        rcases Nat.eq_zero_or_pos j with h | h
        · subst h
          have h1 := HX.out.2
          have h2 := HA.out.2
          omega
        · exact h
      obtain ⟨i, rfl⟩ : ∃ i, j = i + 1 := ⟨j - 1, by omega⟩
      have hs1 : ((i + 1 : Nat) : Int) - 1 = (i : Int) := by omega
      have hi6 : i < 6 := by have := HA.out; omega
      have hm : q % 16 < 16 := Nat.mod_lt _ (by decide)
      obtain ⟨⟨u, hcell⟩, hfro⟩ := HS.out.1 i hi6
      have HS2 := Aside0.mk (HS.out.put hi6 (hexC (q % 16)))
      have HX2 : Aside0 (hexL i (q / 16) (hexC (q % 16) :: acc) = R ∧ q / 16 < 16 ^ i) := ⟨by rw [← hexL_go hgo]; exact HX.out.1, by have := HX.out.2; rw [Nat.pow_succ] at this; omega⟩
      have hx := hexC_at (q % 16) hm
      have hand := and15 q (by
        have h1 := HX.out.2
        have h2 : 16 ^ (i + 1) ≤ 16 ^ 6 := Nat.pow_le_pow_right (by decide) (by omega)
        omega)
      have HGO := Aside0.mk hgo
      clear hgo
      by_cases h0 : 0 < q
      · have hq : (0 : Int) < (q : Int) := by omega
        go_wp2
        go_roundg i
        case measure => have := HA.out; omega
        case rel => exact ⟨q / 16, i, _, by go_num, by go_num, ⟨rfl, by have := HA.out; simp only [List.length_cons]; omega⟩, HX2, HS2, ⟨below_set HB.out (Nat.le_refl _)⟩⟩
      · have hq : ¬ (0 : Int) < (q : Int) := by omega
        have hi2 : ((i + 1 : Nat) : Int) > 2 := by have := HA.out; have := HGO.out; omega
        go_wp2
        go_roundg i
        case measure => have := HA.out; omega
        case rel => exact ⟨q / 16, i, _, by go_num, by go_num, ⟨rfl, by have := HA.out; simp only [List.length_cons]; omega⟩, HX2, HS2, ⟨below_set HB.out (Nat.le_refl _)⟩⟩
    · have hq : ¬ (0 : Int) < (q : Int) := by omega
      have hq0 : q = 0 := by omega
      have hi2 : ¬ (j : Int) > 2 := by have := HA.out; omega
      have hR : acc = R := by
        have := HX.out.1
        rw [hexL_end (by omega) (by omega)] at this
        exact this
      subst hR
      have hj6 : j ≤ 2 := by omega
      have hlen : 6 - j = acc.length := by have := HA.out; omega
      have hconv := fun W (h : SixAt W w.heap.size j acc) => run_convert_bytes_back (P := Tryd.prog) W 61 9 5 ⟨w.heap.size, j, none⟩ acc.length acc Tryd.underlying61 Tryd.underlying5 Tryd.underlying9 (fun k hk => by rw [add_at]; exact h.2 k hk)
      have hcv := hconv wr HS.out
      have hsl := slice6 wr w.heap.size j hj6
      rw [hlen] at hsl
      clear hconv hgo
      go_wp2
      go_ret
      exact ⟨rfl, HB.out⟩

theorem contains_any (c : UInt8) (f : ByteArray) (w : World) :
    Calls Tryd.prog 72 #[.string f, .string ⟨#[c]⟩] w fun e w' => e = .returned (.bool (f.data.toList.contains c)) ∧ Below w.heap.size w w' := by
  refine (Tryd.strings_Contains_one f c w).mono ?_
  rintro e w1 ⟨rfl, rfl⟩
  refine ⟨?_, Below.refl _ _⟩
  have h : decide (0 ≤ Lib.indexByte f.data.toList c) = f.data.toList.contains c := by
    rw [← Lib.index_one, Bool.eq_iff_iff, decide_eq_true_eq, List.contains_iff_mem]
    rcases index_or f.data.toList c with hm | ⟨i, hi⟩
    · refine ⟨fun h => by rw [hm] at h; omega, fun h => absurd rfl (index_miss hm c h)⟩
    · refine ⟨fun _ => ?_, fun _ => by rw [hi]; omega⟩
      obtain ⟨hs, _⟩ := index_split hi
      rw [hs]
      simp
  rw [h]

set_option maxHeartbeats 4000000 in
set_option maxRecDepth 100000 in
theorem wrong_any (f : ByteArray) (w : World) (hs : f.size < 4294967281) :
    Calls Tryd.prog 54 #[.string f] w fun e w' => e = .returned (.bool (!fieldOk f)) ∧ Below w.heap.size w w' := by
  have HT := Aside0.mk (fun W => trimS_any f W hs)
  have H1 := Aside0.mk (fun W => contains_any 59 f W)
  have H2 := Aside0.mk (fun W => contains_any 35 f W)
  have H3 := Aside0.mk (fun W => contains_any 10 f W)
  have hF : fieldOk f = (decide (trimB f = f) && !(f.data.toList.contains 59) && !(f.data.toList.contains 35) && !(f.data.toList.contains 10)) := rfl
  obtain ⟨b1, hb1⟩ : ∃ b, f.data.toList.contains 59 = b := ⟨_, rfl⟩
  obtain ⟨b2, hb2⟩ : ∃ b, f.data.toList.contains 35 = b := ⟨_, rfl⟩
  obtain ⟨b3, hb3⟩ : ∃ b, f.data.toList.contains 10 = b := ⟨_, rfl⟩
  rw [hb1, hb2, hb3] at hF
  rw [hb1] at H1
  rw [hb2] at H2
  rw [hb3] at H3
  rw [hF]
  clear hF hb1 hb2 hb3 hs
  go_enter Tryd.func54, Tryd.ntmps54
  by_cases ht : trimB f = f
  · rw [decide_eq_true ht]
    rw [ht] at HT
    clear ht
    go_wp2_with fail
    refine (HT.out _).mono ?_
    rintro e w2 ⟨rfl, hb2⟩
    have HB2 : Aside0 (Below w.heap.size w w2) := ⟨hb2⟩
    clear hb2
    go_wp2_with fail
    refine (H1.out _).mono ?_
    rintro e w3 ⟨rfl, hb3⟩
    have HB3 : Aside0 (Below w.heap.size w w3) := ⟨below_to HB2.out hb3⟩
    clear hb3
    cases b1 with
    | true =>
      go_wp2
      go_ret
      exact ⟨rfl, HB3.out⟩
    | false =>
      go_wp2_with fail
      refine (H2.out _).mono ?_
      rintro e w4 ⟨rfl, hb4⟩
      have HB4 : Aside0 (Below w.heap.size w w4) := ⟨below_to HB3.out hb4⟩
      clear hb4
      cases b2 with
      | true =>
        go_wp2
        go_ret
        exact ⟨rfl, HB4.out⟩
      | false =>
        go_wp2_with fail
        refine (H3.out _).mono ?_
        rintro e w5 ⟨rfl, hb5⟩
        have HB5 : Aside0 (Below w.heap.size w w5) := ⟨below_to HB4.out hb5⟩
        clear hb5
        go_wp2
        go_ret
        exact ⟨by cases b3 <;> rfl, HB5.out⟩
  · rw [decide_eq_false ht]
    obtain ⟨t, hte⟩ : ∃ t, trimB f = t := ⟨_, rfl⟩
    rw [hte] at HT ht
    have h1 : ¬ t.toList = f.toList := fun e => by
      rw [Lib.toList_data, Lib.toList_data] at e
      exact ht (by rw [← bsL_data t, e, bsL_data])
    have h2 : (t.toList == f.toList) = false := beq_eq_false_iff_ne.2 h1
    clear hte ht
    go_wp2_with fail
    refine (HT.out _).mono ?_
    rintro e w2 ⟨rfl, hb2⟩
    have HB2 : Aside0 (Below w.heap.size w w2) := ⟨hb2⟩
    clear hb2
    go_wp2
    go_ret
    exact ⟨rfl, HB2.out⟩

end Go.Proofs.YtooehjbbphokbaaDoor
