/- Walk: edit.Expand. -/
import Derived.Test.YtaejogkinniakaaDoorEdA
namespace Go.Proofs.YtaejogkinniakaaDoor
set_option linter.unusedVariables false
set_option linter.unusedSimpArgs false
open Go.RowKit Go.Proofs.YtaejogkinniakaaDoorW.PrintWords Go.Proofs.YtaejogkinniakaaDoorW.PrintLast Go.Proofs.YtaejogkinniakaaDoorW.PrintMore Go.Proofs.YtaejogkinniakaaDoor.PEd

theorem row_cellE {w : World} {g : Nat} {cs : Array Value} {t : TypeId} {fr : Nat × Nat} (h : w.heap[g]? = some (.cells cs t fr)) (j : Nat) (v : Value) (hj : cs[j]? = some v) : w.cell? ⟨g, j, none⟩ = some v := by
  simp [World.cell?, h, hj]
theorem cut_none (b : List Int) : cutL b (-1, -1) = [] := by unfold cutL; rw [if_neg (fun h => absurd h.1 (by decide))]
theorem part_out (b : List Int) (f : List S46) (t : List Int) (a : Int) (ha : 0 ≤ a) (h : ¬ a < f.length) : partL b (f.map sp) (pt ⟨t, a⟩) = [] := by
  show (if a < 0 then t else cutL b ((f.map sp).getD a.toNat (-1, -1))) = _
  rw [if_neg (by omega)]
  have h2 : (f.map sp).getD a.toNat (-1, -1) = (-1, -1) := by
    have : ¬ a.toNat < (f.map sp).length := by rw [List.length_map]; omega
    simp [List.getD, List.getElem?_eq_none (Nat.le_of_not_lt this)]
  rw [h2, cut_none]
theorem part_in (b : List Int) (f : List S46) (t : List Int) (a : Int) (ha : 0 ≤ a) (h : a < f.length) : partL b (f.map sp) (pt ⟨t, a⟩) = cutL b ((rd_T46 f a).f0, (rd_T46 f a).f1) := by
  obtain ⟨m, rfl⟩ : ∃ m : Nat, a = (m : Int) := ⟨a.toNat, by omega⟩
  have hm : m < f.length := by omega
  show (if (m : Int) < 0 then t else cutL b ((f.map sp).getD (m : Int).toNat (-1, -1))) = _
  rw [if_neg (by omega)]
  simp [rd_T46, hm, sp]
theorem part_text (b : List Int) (f : List S46) (t : List Int) (a : Int) (ha : ¬ 0 ≤ a) : partL b (f.map sp) (pt ⟨t, a⟩) = t := by
  show (if a < 0 then t else cutL b ((f.map sp).getD a.toNat (-1, -1))) = _
  rw [if_pos (by omega)]

set_option maxHeartbeats 4000000 in
set_option maxRecDepth 100000 in
theorem expand_any (w : World) (A : Option Addr) (c : Nat) (l : List S37) (Ab : Option Addr) (cb : Nat) (b : List Int) (Af : Option Addr) (cf : Nat) (f : List S46) (n : Nat)
    (hl : Kd.C k37 w A l.length l) (hb : Kd.C kB w Ab b.length b) (hcb : b.length ≤ cb) (hf : Kd.C k46 w Af f.length f)
    (hn : b.length ≤ n) (hp : ∀ p ∈ l, p.f0.length ≤ n) (hsz : l.length * n ≤ 140737488355328) :
    Calls Tryd.prog 32 #[.slice A l.length c, .slice Ab b.length cb, .agg #[.slice Af f.length cf]] w fun e w' => ∃ v, e = .returned v ∧ Own kB 5 w' w.heap.size v (expandL b (f.map sp) (l.map pt)) ∧ Below w.heap.size w w' := by
  have HB1 : Aside0 (Below w.heap.size w (w.alloc (.cells #[.slice Af f.length cf] 56))) := ⟨below_alloc (Below.refl _ _) _⟩
  have HL := Aside0.mk (Kd.C_below hl HB1.out)
  have HB := Aside0.mk (Kd.C_below hb HB1.out)
  have HF := Aside0.mk (Kd.C_below hf HB1.out)
  have HSZ := Aside0.mk (And.intro hn (And.intro hp hsz))
  have HLL := Aside0.mk hl.2.1
  have HFL := Aside0.mk hf.2.1
  have HCB := Aside0.mk hcb
  have HBL := Aside0.mk hb.2.1
  clear hl hb hf hn hp hsz hcb
  have HFB : Aside0 ((w.alloc (.cells #[.slice Af f.length cf] 56)).heap[w.heap.size]? = some (.cells #[.slice Af f.length cf] 56 (0, 0))) := ⟨heap_alloc_new _ _⟩
  obtain ⟨gf, hgf⟩ : ∃ gf, w.heap.size = gf := ⟨_, rfl⟩
  have HGF := Aside0.mk hgf
  rw [hgf] at HFB
  go_enter Tryd.func32, Tryd.ntmps32
  go_wp2
  obtain ⟨w0, hw0⟩ : ∃ w0, w.alloc (.cells #[.slice Af f.length cf] 56) = w0 := ⟨_, rfl⟩
  rw [hw0] at HFB HB1 HL HB HF ⊢
  clear hw0 hgf
  go_loopg [7, 13] l.length (fun gk z i w' => ∃ k : Nat, i = .int .i64 (k : Int) ∧ Aside0 (k ≤ l.length ∧ gk = l.length - k) ∧ Aside0 (Own kB 5 w' w0.heap.size z (expandL b (f.map sp) ((l.take k).map pt))) ∧ Aside0 (Below w0.heap.size w0 w'))
  case atStart => exact ⟨0, by first | rfl | simp, ⟨Nat.zero_le _, rfl⟩, ⟨Kd.R_nil _ _ _ _ _⟩, ⟨Below.refl _ _⟩⟩
  case round =>
    obtain ⟨k, rfl, HA, HO, HX⟩ := hrel
    by_cases hk : k < l.length
    · have h63 := HLL.out
      obtain ⟨ad, A0, c0, rfl, hx0, hx1, hle, hC0⟩ := at_T37 HL.out (k : Int) (by omega) (by omega)
      have HT : Aside0 (l.take (k + 1) = l.take k ++ [l[k]]) := ⟨List.take_succ_eq_append_getElem hk⟩
      have hmem : l[k] ∈ l := List.getElem_mem hk
      rw [rd33_at hk] at hx0 hx1 hle hC0
      obtain ⟨p, hp⟩ : ∃ p, l[k] = p := ⟨_, rfl⟩
      rw [hp] at hx0 hx1 hle hC0 HT hmem
      have HPL : Aside0 (p.f0.length ≤ n) := ⟨HSZ.out.2.1 p hmem⟩
      clear hp hmem
      have HEL : Aside0 ((expandL b (f.map sp) ((l.take k).map pt)).length ≤ k * n) := ⟨by
        have h := expandL_len b (f.map sp) ((l.take k).map pt) HSZ.out.1 (fun q hq => by
          obtain ⟨s, hs, rfl⟩ := List.mem_map.1 hq
          exact HSZ.out.2.1 s (List.mem_of_mem_take hs))
        rw [List.length_map, List.length_take, Nat.min_eq_left (by omega)] at h
        exact h⟩
      have HKN : Aside0 (k * n + n ≤ 140737488355328) := ⟨by
        have h := Nat.mul_le_mul_right n (show k + 1 ≤ l.length from hk)
        rw [Nat.succ_mul] at h
        exact Nat.le_trans h HSZ.out.2.2⟩
      obtain ⟨ex, hex⟩ : ∃ ex, expandL b (f.map sp) ((l.take k).map pt) = ex := ⟨_, rfl⟩
      have HEX := Aside0.mk hex
      rw [hex] at HO HEL
      clear hex
      replace hx0 := pw_cell_below HX.out hx0
      replace hx1 := pw_cell_below HX.out hx1
      simp only [Int.toNat_natCast] at hx0 hx1
      have HC0 := Aside0.mk (And.intro hle (Kd.C_below hC0 HX.out))
      clear hle hC0
      obtain ⟨t, a⟩ := p
      simp only at hx0 hx1 HPL HC0
      have HPB : Aside0 ((wr.alloc (.cells #[.slice A0 t.length c0, .int .i64 a] 37)).heap[wr.heap.size]? = some (.cells #[.slice A0 t.length c0, .int .i64 a] 37 (0, 0))) := ⟨heap_alloc_new _ _⟩
      have HBW : Aside0 (Below w0.heap.size w0 (wr.alloc (.cells #[.slice A0 t.length c0, .int .i64 a] 37))) := ⟨below_alloc HX.out _⟩
      have HFB2 : Aside0 ((wr.alloc (.cells #[.slice A0 t.length c0, .int .i64 a] 37)).heap[gf]? = some (.cells #[.slice Af f.length cf] 56 (0, 0))) := ⟨(HBW.out.block gf (Array.getElem?_eq_some_iff.1 HFB.out).1).trans HFB.out⟩
      have HOW := Aside0.mk (Kd.R_alloc HO.out (.cells #[.slice A0 t.length c0, .int .i64 a] 37))
      have HCW := Aside0.mk (Kd.C_below HC0.out.2 (below_alloc (Below.refl wr.heap.size wr) (.cells #[.slice A0 t.length c0, .int .i64 a] 37)))
      have f0 := row_cellE HFB2.out 0 _ rfl
      have p0 := row_cellE HPB.out 0 _ rfl
      have p1 := row_cellE HPB.out 1 _ rfl
      by_cases ha : 0 ≤ a
      · by_cases haf : a < f.length
        · have hfl := HFL.out
          obtain ⟨af, rfl, hs0, hs1⟩ := at_T46 HF.out a ha haf
          have HPT := Aside0.mk (part_in b f t a ha haf)
          obtain ⟨s0, hs0e⟩ : ∃ s0, (rd_T46 f a).f0 = s0 := ⟨_, rfl⟩
          obtain ⟨s1, hs1e⟩ : ∃ s1, (rd_T46 f a).f1 = s1 := ⟨_, rfl⟩
          rw [hs0e] at hs0 HPT
          rw [hs1e] at hs1 HPT
          replace hs0 := pw_cell_below HBW.out hs0
          replace hs1 := pw_cell_below HBW.out hs1
          clear hs0e hs1e
          have HBC := Aside0.mk (Kd.C_below HB.out HBW.out)
          go_wp2_with fail
          refine (cut_any _ Ab cb b s0 s1 HBC.out HCB.out).mono ?_
          rintro e w2 ⟨A2, c2, ok, rfl, hle, hC, hb⟩
          have HB2 : Aside0 (Below w0.heap.size w0 w2) := ⟨below_to HBW.out hb⟩
          have HO2 := Aside0.mk (Kd.R_below HOW.out hb)
          have HC2 := Aside0.mk hC
          have HCL := Aside0.mk (Nat.le_trans (cutL_len b (s0, s1)) HSZ.out.1)
          clear hle hC hb hs0 hs1
          obtain ⟨cl, hcl⟩ : ∃ cl, cutL b (s0, s1) = cl := ⟨_, rfl⟩
          rw [hcl] at HC2 HPT HCL ⊢
          clear hcl
          go_wp2_with (at_builtin; refine Kd.R_append_rows kB (w0 := w0) w0.heap.size rfl (.tmp 39) (.tmp 40) 22 5 (.int .u8 0) 1 rfl Tryd.underlying22 info5 rfl (by decide) (by omega) _ ex cl A2 cl.length c2 (fun _ => True) (fun _ => False) rfl rfl HO2.out HC2.out (fun _ _ h => h) (fun _ h => h.elim) (fun _ _ => trivial) HB2.out HB2.out.size ?aL1 ?_)
          case aL1 =>
            have h1 := HEL.out
            have h2 := HPL.out
            have h3 := HKN.out
            have h4 : (cl : List Int).length ≤ n := by exact HCL.out
            first | omega | (simp only [List.length_nil]; omega)
          intro v3 w3 ho hb hg hat
          have HO3 : Aside0 (Own kB 5 w3 w0.heap.size v3 (expandL b (f.map sp) ((l.take (k + 1)).map pt))) := ⟨by
            rw [HT.out, List.map_append, List.map_singleton, expandL_snoc, HPT.out, HEX.out]
            first | exact ho | (rw [List.append_nil]; exact ho)⟩
          have HB3 := Aside0.mk hb
          clear ho hb hg hat HX HO HC0 HPB HFB2 f0 p0 p1 hx0 hx1
          go_wp2
          go_roundg (gk - 1)
          case measure => have := HA.out; omega
          case rel => exact ⟨k + 1, by go_num, ⟨by omega, by have := HA.out; omega⟩, HO3, HB3⟩
        · have HPT := Aside0.mk (part_out b f t a ha haf)
          have haf2 : (f.length : Int) ≤ a := by omega
          have hfl := HFL.out
          clear haf
          go_wp2_with (at_builtin; refine Kd.R_append_rows kB (w0 := w0) w0.heap.size rfl (.tmp 39) (.tmp 40) 22 5 (.int .u8 0) 1 rfl Tryd.underlying22 info5 rfl (by decide) (by omega) _ ex [] none 0 0 (fun _ => True) (fun _ => False) rfl rfl HOW.out (Kd.C_nil _ _) (fun _ _ h => h) (fun _ h => h.elim) (fun _ _ => trivial) HBW.out HBW.out.size ?aL2 ?_)
          case aL2 =>
            have h1 := HEL.out
            have h2 := HPL.out
            have h3 := HKN.out
            have h4 : ([] : List Int).length ≤ n := by simp
            first | omega | (simp only [List.length_nil]; omega)
          intro v3 w3 ho hb hg hat
          have HO3 : Aside0 (Own kB 5 w3 w0.heap.size v3 (expandL b (f.map sp) ((l.take (k + 1)).map pt))) := ⟨by
            rw [HT.out, List.map_append, List.map_singleton, expandL_snoc, HPT.out, HEX.out]
            first | exact ho | (rw [List.append_nil]; exact ho)⟩
          have HB3 := Aside0.mk hb
          clear ho hb hg hat HX HO HC0 HPB HFB2 f0 p0 p1 hx0 hx1
          go_wp2
          go_roundg (gk - 1)
          case measure => have := HA.out; omega
          case rel => exact ⟨k + 1, by go_num, ⟨by omega, by have := HA.out; omega⟩, HO3, HB3⟩
      · have HPT := Aside0.mk (part_text b f t a ha)
        have ha2 : a < 0 := by omega
        clear ha
        go_wp2_with (at_builtin; refine Kd.R_append_rows kB (w0 := w0) w0.heap.size rfl (.tmp 39) (.tmp 40) 22 5 (.int .u8 0) 1 rfl Tryd.underlying22 info5 rfl (by decide) (by omega) _ ex t A0 t.length c0 (fun _ => True) (fun _ => False) rfl rfl HOW.out HCW.out (fun _ _ h => h) (fun _ h => h.elim) (fun _ _ => trivial) HBW.out HBW.out.size ?aL3 ?_)
        case aL3 =>
          have h1 := HEL.out
          have h2 := HPL.out
          have h3 := HKN.out
          have h4 : (t : List Int).length ≤ n := by exact HPL.out
          first | omega | (simp only [List.length_nil]; omega)
        intro v3 w3 ho hb hg hat
        have HO3 : Aside0 (Own kB 5 w3 w0.heap.size v3 (expandL b (f.map sp) ((l.take (k + 1)).map pt))) := ⟨by
          rw [HT.out, List.map_append, List.map_singleton, expandL_snoc, HPT.out, HEX.out]
          first | exact ho | (rw [List.append_nil]; exact ho)⟩
        have HB3 := Aside0.mk hb
        clear ho hb hg hat HX HO HC0 HPB HFB2 f0 p0 p1 hx0 hx1
        go_wp2
        go_roundg (gk - 1)
        case measure => have := HA.out; omega
        case rel => exact ⟨k + 1, by go_num, ⟨by omega, by have := HA.out; omega⟩, HO3, HB3⟩
    · have hkl : k = l.length := by have := HA.out; omega
      subst hkl
      have hO := HO.out
      rw [List.take_length] at hO
      have HO2 := Aside0.mk (Kd.R_lower hO HB1.out.size)
      have HB9 : Aside0 (Below w.heap.size w wr) := ⟨below_to HB1.out HX.out⟩
      clear hO
      go_wp2
      go_ret
      exact ⟨_, rfl, HO2.out, HB9.out⟩

end Go.Proofs.YtaejogkinniakaaDoor
