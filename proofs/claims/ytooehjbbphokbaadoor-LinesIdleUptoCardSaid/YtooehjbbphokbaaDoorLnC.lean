/- Walk: lines.fields. -/
import Derived.Test.YtooehjbbphokbaaDoorBase
import Derived.Test.YtooehjbbphokbaaDoorLnP
import Derived.Test.YtooehjbbphokbaaDoorShelf
import Derived.Test.YtooehjbbphokbaaDoorProg
import Derived.Laws.RangeAny
import Derived.Laws.RangeString
import Derived.LoopTactic
namespace Go.Proofs.YtooehjbbphokbaaDoor
set_option linter.unusedVariables false
set_option linter.unusedSimpArgs false
open Go.RowKit Go.Proofs.YtooehjbbphokbaaDoorW.PrintWords Go.Proofs.YtooehjbbphokbaaDoorW.PrintLast Go.Proofs.YtooehjbbphokbaaDoorW.PrintMore

/-- The library's variable bytealg.MaxLen holds m. -/
def MaxIs (w : World) (m : Int) : Prop := w.cell? ⟨1, 0, none⟩ = some (.int .i64 m)
theorem MaxIs.below {w w1 : World} {m : Int} (h : MaxIs w m) (hb : Below w.heap.size w w1) : MaxIs w1 m := pw_cell_below hb h
theorem drewN_below (w : World) (n : Nat) : Below w.heap.size w (w.drewN n) := pw_below_drewN (Below.refl _ _) n

theorem at_S {w : World} {A : Option Addr} {xs : List ByteArray} (h : Kd.C Kd.string w A xs.length xs) (j : Nat) (hj : j < xs.length) : ∃ ad, A = some ad ∧ w.cell? (ad.add j) = some (.string xs[j]) := by
  obtain ⟨ad, c, e, _, hK, hc⟩ := Kd.C_get h ByteArray.empty (j : Int) (by omega) (by omega)
  have e1 : xs.getD ((j : Int).toNat) ByteArray.empty = xs[j] := by simp [hj]
  rw [e1] at hK
  have hK2 : c = [.string xs[j]] := hK
  subst hK2
  have hz : (Kd.string).sz = 1 := rfl
  refine ⟨ad, e, ?_⟩
  have := hc 0 _ rfl
  simpa [hz] using this
theorem add_zero (ad : Addr) : ad.add 0 = ad := by
  cases ad with
  | mk b o s => cases s <;> simp [Addr.add]

theorem cutS_any (c : UInt8) (s : ByteArray) (m : Int) (w : World) (hs : s.size < 4294967281) (hm : MaxIs w m) :
    Calls Tryd.prog 64 #[.string s, .string ⟨#[c]⟩] w fun e w' => (∃ y b, e = .returned (.tuple #[.string (upB c s), .string y, .bool b])) ∧ Below w.heap.size w w' := by
  refine (Tryd.strings_Cut s ⟨#[c]⟩ m w hs hm).mono ?_
  rintro e w1 ⟨rfl, n, rfl⟩
  have h1 : (⟨(Lib.cut s.data.toList (⟨#[c]⟩ : ByteArray).data.toList).1.toArray⟩ : ByteArray) = upB c s := by
    unfold upB bsL
    rw [← cut_up]
  rw [h1]
  exact ⟨⟨_, _, rfl⟩, drewN_below _ _⟩
theorem splitS_any (c : UInt8) (s : ByteArray) (m : Int) (w : World) (hs : s.size < 4294967281) (hm : MaxIs w m) :
    Calls Tryd.prog 38 #[.string s, .string ⟨#[c]⟩] w fun e w' => e = .returned (.slice (some ⟨w.heap.size, 0, none⟩) (cutB c s).length (cutB c s).length) ∧ Own Kd.string 9 w' w.heap.size (.slice (some ⟨w.heap.size, 0, none⟩) (cutB c s).length (cutB c s).length) (cutB c s) ∧ Below w.heap.size w w' := by
  refine (Tryd.strings_Split s ⟨#[c]⟩ m w hs hm (Nat.le_refl 1)).mono ?_
  rintro e w1 ⟨rfl, rfl⟩
  rw [countB_cut, splitB_cut]
  have hl := cutB_length c s
  exact ⟨rfl, Kd.R_of_own (own_lit_of w w.heap.size 9 (cutB c s) (Nat.le_refl _) (by omega)) (fun _ _ => trivial), below_alloc (Below.refl _ _) _⟩
theorem trimS_any (s : ByteArray) (w : World) (hs : s.size < 4294967281) :
    Calls Tryd.prog 65 #[.string s, .string ⟨#[32, 9]⟩] w fun e w' => e = .returned (.string (trimB s)) ∧ Below w.heap.size w w' := Tryd.strings_Trim_blank s w (by omega)

set_option maxHeartbeats 4000000 in
set_option maxRecDepth 100000 in
theorem fields_any (s : ByteArray) (m : Int) (w : World) (hs : s.size < 4294967281) (hm : MaxIs w m) :
    Calls Tryd.prog 39 #[.string s] w fun e w' => ∃ v, e = .returned v ∧ Own Kd.string 9 w' w.heap.size v (fieldsB s) ∧ (fieldsB s = [] → v = .slice none 0 0) ∧ (fieldsB s ≠ [] → ∃ g, v = .slice (some ⟨g, 0, none⟩) (fieldsB s).length (fieldsB s).length) ∧ Below w.heap.size w w' := by
  have hcut := cutS_any 35 s m w hs hm
  have hus := upB_size 35 s
  have hF : fieldsB s = if (trimB (upB 35 s)).size = 0 then [] else (cutB 59 (trimB (upB 35 s))).map trimB := rfl
  obtain ⟨u, hu⟩ : ∃ u, upB 35 s = u := ⟨_, rfl⟩
  rw [hu] at hcut hus hF
  have hts := trimB_size u
  have htrim := fun W => trimS_any u W (by omega)
  obtain ⟨t, ht⟩ : ∃ t, trimB u = t := ⟨_, rfl⟩
  rw [ht] at hF hts htrim
  obtain ⟨F, hFF⟩ : ∃ F, fieldsB s = F := ⟨_, rfl⟩
  rw [hFF] at hF ⊢
  have HF := Aside0.mk hF
  have HM := Aside0.mk hm
  have hT : t.size < 4294967281 := by omega
  clear hF hm hFF hu ht
  go_enter Tryd.func39, Tryd.ntmps39
  go_wp2_with fail
  refine hcut.mono ?_
  rintro e w1 ⟨⟨y, b, rfl⟩, hb1⟩
  have HB1 := Aside0.mk hb1
  clear hb1
  go_wp2_with fail
  refine (htrim w1).mono ?_
  rintro e w2 ⟨rfl, hb2⟩
  have HB2 : Aside0 (Below w.heap.size w w2) := ⟨below_to HB1.out hb2⟩
  clear hb2 htrim hcut
  by_cases h0 : t.size = 0
  · have he : t = ByteArray.empty := ByteArray.size_eq_zero_iff.1 h0
    subst he
    have HF0 : Aside0 (F = []) := ⟨by rw [HF.out, if_pos h0]⟩
    go_wp2
    go_ret
    rw [HF0.out]
    exact ⟨_, rfl, Kd.R_nil _ _ _ _ _, fun _ => rfl, fun h => absurd rfl h, HB2.out⟩
  · have hne : t.toList.isEmpty = false := by
      rw [Lib.toList_data]
      cases h : t.data.toList with
      | nil => have := Lib.size_eq t; rw [h, List.length_nil] at this; omega
      | cons _ _ => rfl
    have HF1 : Aside0 (F = (cutB 59 t).map trimB) := ⟨by rw [HF.out, if_neg h0]⟩
    have hspl := splitS_any 59 t m w2 hT (HM.out.below HB2.out)
    have HPS : Aside0 (∀ x ∈ cutB 59 t, x.size < 4294967281) := ⟨fun x hx => Nat.lt_of_le_of_lt (cutB_part hx) hT⟩
    have HNE : Aside0 (cutB 59 t ≠ []) := ⟨cutB_ne _ _⟩
    have hPL := cutB_length 59 t
    obtain ⟨ps, hps⟩ : ∃ ps, cutB 59 t = ps := ⟨_, rfl⟩
    rw [hps] at hspl HF1 HPS HNE hPL
    clear hps
    go_wp2_with fail
    refine hspl.mono ?_
    rintro e w3 ⟨rfl, ho3, hb3⟩
    have HB3 : Aside0 (Below w.heap.size w w3) := ⟨below_to HB2.out hb3⟩
    have HG : Aside0 (w.heap.size ≤ w2.heap.size) := ⟨HB2.out.size⟩
    have HO3 : Aside0 (Own Kd.string 9 w3 w.heap.size (.slice (some ⟨w2.heap.size, 0, none⟩) ps.length ps.length) ps) := ⟨Kd.R_lower ho3 HG.out⟩
    obtain ⟨g, hg⟩ : ∃ g, w2.heap.size = g := ⟨_, rfl⟩
    rw [hg] at HO3 HG ⊢
    clear ho3 hb3 hspl hg
    go_wp2
    go_loopg [19] ps.length (fun gk i w' => ∃ (k : Nat) (l : List ByteArray), i = .int .i64 (k : Int) ∧ Aside0 (k ≤ ps.length ∧ gk = ps.length - k) ∧ Aside0 (l = (ps.take k).map trimB ++ ps.drop k) ∧ Aside0 (Own Kd.string 9 w' w.heap.size (.slice (some ⟨g, 0, none⟩) ps.length ps.length) l) ∧ Aside0 (Below w.heap.size w w'))
    case atStart => exact ⟨0, ps, by first | rfl | simp, ⟨Nat.zero_le _, rfl⟩, ⟨by simp⟩, HO3, HB3⟩
    case round =>
      obtain ⟨k, l, rfl, HA, HL, HO, HB⟩ := hrel
      by_cases hk : k < ps.length
      · have hl : l.length = ps.length := by rw [HL.out]; simp; omega
        obtain ⟨hc, hz⟩ := Kd.R_celln ByteArray.empty HO.out (k : Int) (by omega) (by omega)
        have he : rdOf ByteArray.empty l (k : Int) = ps[k] := by
          have e1 : l[k]? = some ps[k] := by
            rw [HL.out, List.getElem?_append_right (by simp; omega)]
            simp [hk, Nat.min_eq_left (Nat.le_of_lt hk)]
          unfold rdOf
          rw [Int.toNat_natCast, List.getD_eq_getElem?_getD, e1]
          rfl
        have hset : l.set k (trimB ps[k]) = (ps.take (k + 1)).map trimB ++ ps.drop (k + 1) := by
          have hk2 : ((ps.take k).map trimB).length = k := by simp; omega
          rw [HL.out, List.set_append_right _ _ (by omega), hk2, Nat.sub_self, List.drop_eq_getElem_cons hk, List.set_cons_zero, List.take_succ_eq_append_getElem hk, List.map_append, List.append_assoc]
          rfl
        rw [he] at hc
        have htr := fun W => trimS_any ps[k] W (HPS.out _ (List.getElem_mem hk))
        have HS := Aside0.mk hset
        obtain ⟨x, hx⟩ : ∃ x, ps[k] = x := ⟨_, rfl⟩
        rw [hx] at hc htr HS
        obtain ⟨r, hr⟩ : ∃ r, trimB x = r := ⟨_, rfl⟩
        rw [hr] at htr HS
        clear hset he hx hr
        simp only [Int.toNat_natCast] at hc hz
        go_wp2_with fail
        refine (htr _).mono ?_
        rintro e w4 ⟨rfl, hb4⟩
        have HO4 : Aside0 (Own Kd.string 9 w4 w.heap.size (.slice (some ⟨g, 0, none⟩) ps.length ps.length) l) := ⟨Kd.R_below HO.out hb4⟩
        have HB4 : Aside0 (Below w.heap.size w w4) := ⟨below_to HB.out hb4⟩
        obtain ⟨hc4, hz4⟩ := Kd.R_celln ByteArray.empty HO4.out (k : Int) (by omega) (by omega)
        have HO5 := Aside0.mk (Kd.R_putn HO4.out (k : Int) r)
        simp only [Int.toNat_natCast] at hc4 hz4 HO5
        rw [HS.out] at HO5
        clear hb4
        go_wp2
        go_roundg (ps.length - k - 1)
        case measure => have := HA.out; omega
        case rel => exact ⟨k + 1, _, by go_num, ⟨by omega, by omega⟩, ⟨rfl⟩, HO5, ⟨below_set HB4.out HG.out⟩⟩
      · have hall : l = F := by
          rw [HL.out, HF1.out, List.take_of_length_le (by omega), List.drop_of_length_le (by omega), List.append_nil]
        have HLN : Aside0 (F.length = ps.length) := ⟨by rw [HF1.out, List.length_map]⟩
        have HFN : Aside0 (F ≠ []) := ⟨fun h => HNE.out (List.map_eq_nil_iff.1 (HF1.out.symm.trans h))⟩
        subst hall
        go_wp2
        go_ret
        exact ⟨_, rfl, HO.out, fun h => absurd h HFN.out, fun _ => ⟨g, by rw [HLN.out]; rfl⟩, HB.out⟩

end Go.Proofs.YtooehjbbphokbaaDoor
