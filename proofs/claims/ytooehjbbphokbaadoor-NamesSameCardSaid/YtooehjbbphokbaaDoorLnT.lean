/- Walk: lines.Rows. -/
import Derived.Test.YtooehjbbphokbaaDoorLnE
import Derived.Test.YtooehjbbphokbaaDoorLnR
import Derived.WalkSpells
namespace Go.Proofs.YtooehjbbphokbaaDoor
set_option linter.unusedVariables false
set_option linter.unusedSimpArgs false
open Go.RowKit Go.Proofs.YtooehjbbphokbaaDoorW.PrintWords Go.Proofs.YtooehjbbphokbaaDoorW.PrintLast Go.Proofs.YtooehjbbphokbaaDoorW.PrintMore

abbrev kSl : Kd (List ByteArray) := Kd.slice 9 Kd.string

set_option maxHeartbeats 4000000 in
set_option maxRecDepth 100000 in
theorem rows_any (s : ByteArray) (m : Int) (w : World) (hs : s.size < 4294967281) (hm : MaxIs w m) :
    Calls Tryd.prog 21 #[.string s] w fun e w' => ∃ v, e = .returned v ∧ Own kSl 34 w' w.heap.size v (rowsB s) ∧ Below w.heap.size w w' := by
  have hspl := splitS_any 10 s m w hs hm
  have HPS : Aside0 (∀ x ∈ cutB 10 s, x.size < 4294967281) := ⟨fun x hx => Nat.lt_of_le_of_lt (cutB_part hx) hs⟩
  have hPL := cutB_length 10 s
  have HE : Aside0 (rowsL (cutB 10 s) [] = rowsB s) := ⟨rfl⟩
  obtain ⟨ps, hps⟩ : ∃ ps, cutB 10 s = ps := ⟨_, rfl⟩
  rw [hps] at hspl HPS hPL HE
  obtain ⟨E, hE⟩ : ∃ E, rowsB s = E := ⟨_, rfl⟩
  rw [hE] at HE ⊢
  have hpl2 : ps.length < 4294967282 := by omega
  have HM := Aside0.mk hm
  clear hps hE hm hPL
  have hq : ∀ (W : World) (A : Option Addr) (n c : Nat), (binOp .neq 34 (.slice A n c) (.slice none 0 0)).run Tryd.prog W = .ok (.bool (!A.isNone)) W := fun W A n c => run_neq_slice_nil_any W _ _ A n c 0 0 Tryd.underlying34
  go_enter Tryd.func21, Tryd.ntmps21
  go_wp2_with fail
  refine hspl.mono ?_
  rintro e w1 ⟨rfl, ho1, hb1⟩
  have HO1 := Aside0.mk ho1
  have HB1 := Aside0.mk hb1
  clear hspl ho1 hb1
  go_wp2
  go_loopg [3, 10] ps.length (fun gk z i w' => ∃ (k : Nat) (out : List (List ByteArray)), i = .int .i64 (k : Int) ∧ Aside0 (k ≤ ps.length ∧ gk = ps.length - k ∧ out.length ≤ k) ∧ Aside0 (rowsL (ps.drop k) out = E) ∧ Aside0 (Own kSl 34 w' w.heap.size z out) ∧ Aside0 (Own Kd.string 9 w' w.heap.size (.slice (some ⟨w.heap.size, 0, none⟩) ps.length ps.length) ps) ∧ Aside0 (Below w.heap.size w w'))
  case atStart => exact ⟨0, [], by first | rfl | simp, ⟨Nat.zero_le _, rfl, Nat.le_refl _⟩, HE, ⟨Kd.R_nil _ _ _ _ _⟩, HO1, HB1⟩
  case round =>
    obtain ⟨k, out, rfl, HA, HL, HO, HC, HB⟩ := hrel
    by_cases hk : k < ps.length
    · obtain ⟨ad, hae, hx0⟩ := at_S (Kd.R_reads' HC.out).2.2 k hk
      cases hae
      rw [add_plain] at hx0
      have hxs := HPS.out _ (List.getElem_mem hk)
      have hdr : ps.drop k = ps[k] :: ps.drop (k + 1) := List.drop_eq_getElem_cons hk
      obtain ⟨x, hx⟩ : ∃ x, ps[k] = x := ⟨_, rfl⟩
      rw [hx] at hx0 hxs hdr
      rw [hdr] at HL
      clear hx hdr
      have hfl := fieldsB_length x
      have hfa := fields_any x m wr hxs (HM.out.below HB.out)
      have HSK := Aside0.mk (fun h => rowsL_skip (x := x) (r := ps.drop (k + 1)) (out := out) h)
      have HGD := Aside0.mk (fun h => rowsL_take (x := x) (r := ps.drop (k + 1)) (out := out) h)
      obtain ⟨F, hF⟩ : ∃ F, fieldsB x = F := ⟨_, rfl⟩
      rw [hF] at hfl hfa HSK HGD
      clear hF
      obtain ⟨inner, hin⟩ := Kd.R_own HO.out
      have HIN := Aside0.mk hin
      clear hin
      go_wp2_with fail
      refine hfa.mono ?_
      rintro e w2 ⟨v, rfl, ho2, hn2, hs2, hb2⟩
      have HB2 : Aside0 (Below w.heap.size w w2) := ⟨below_to HB.out hb2⟩
      have HO2 : Aside0 (Own kSl 34 w2 w.heap.size u3 out) := ⟨Kd.R_below HO.out hb2⟩
      have HC2 : Aside0 (Own Kd.string 9 w2 w.heap.size (.slice (some ⟨w.heap.size, 0, none⟩) ps.length ps.length) ps) := ⟨Kd.R_below HC.out hb2⟩
      have HOV : Aside0 (Kd.R Kd.string 9 w2 w.heap.size (fun k => True ∧ some k ≠ u3.ownBlock) v F) := ⟨Kd.R_lower (Kd.R_new ho2 HIN.out) HB.out.size⟩
      clear hfa ho2 hb2 HB HO HC HIN
      by_cases hF0 : F = []
      · obtain rfl := hn2 hF0
        have HS := Aside0.mk (HSK.out hF0)
        clear hn2 hs2
        go_wp2
        go_roundg (ps.length - k - 1)
        case measure => have := HA.out; omega
        case rel => exact ⟨k + 1, out, by go_num, ⟨by have := HA.out; omega, by have := HA.out; omega, by have := HA.out; omega⟩, ⟨by rw [← HS.out]; exact HL.out⟩, HO2, HC2, HB2⟩
      · obtain ⟨g, rfl⟩ := hs2 hF0
        have HE2 : Aside0 (rowsL (ps.drop (k + 1)) (out ++ [F]) = E) := ⟨by rw [← HL.out, HGD.out hF0]⟩
        clear hn2 hs2 hF0 HSK HGD
        go_wp2_with (at_builtin; refine Kd.R_append kSl (w0 := w) w.heap.size rfl (.tmp 18) (.tmp 20) 33 34 (.slice none 0 0) 24 rfl Tryd.underlying33 Go.Proofs.YtooehjbbphokbaaDoor.PLinesRead.info34 rfl (by decide) (by omega) u3 out F [.slice (some ⟨g, 0, none⟩) F.length F.length] (fun _ => True) (fun k => True ∧ some k ≠ u3.ownBlock) rfl ?aX ⟨_, rfl, HOV.out⟩ (fun _ h => h) (fun _ _ => trivial) HO2.out HB2.out ?aS ?aL ?_)
        case aX => rfl
        case aS => exact HB2.out.size
        case aL => have := HA.out; omega
        intro v5 w5 ho5 hb5 hg5 _
        have HO5 := Aside0.mk ho5
        have HB5 := Aside0.mk hb5
        have HC5 : Aside0 (Own Kd.string 9 w5 w.heap.size (.slice (some ⟨w.heap.size, 0, none⟩) ps.length ps.length) ps) := ⟨by
          obtain ⟨inner, hin⟩ := Kd.R_own HO2.out
          have ho := Kd.own_of_R HC2.out
          exact Kd.R_of_own (own_other ho hg5 (own_type_ne ho hin (by decide))) (fun _ _ => trivial)⟩
        clear ho5 hb5 hg5
        go_wp2
        go_roundg (ps.length - k - 1)
        case measure => have := HA.out; omega
        case rel => exact ⟨k + 1, out ++ [F], by go_num, ⟨by have := HA.out; omega, by have := HA.out; omega, by have := HA.out; simp; omega⟩, HE2, HO5, HC5, HB5⟩
    · have HE2 : Aside0 (E = out) := ⟨by rw [← HL.out, List.drop_of_length_le (by omega)]; rfl⟩
      go_wp2
      go_ret
      rw [HE2.out]
      exact ⟨_, rfl, HO.out, HB.out⟩

end Go.Proofs.YtooehjbbphokbaaDoor
