/- Walk: awake of layer 22. -/
import Derived.Test.YtaejogkinniakaaDoorEdR
namespace Go.Proofs.YtaejogkinniakaaDoor
set_option linter.unusedVariables false
set_option linter.unusedSimpArgs false
open Go.RowKit Go.Proofs.YtaejogkinniakaaDoorW.PrintWords Go.Proofs.YtaejogkinniakaaDoorW.PrintLast Go.Proofs.YtaejogkinniakaaDoorW.PrintMore Go.Proofs.YtaejogkinniakaaDoor.PEd

theorem tmpl_awake : tmplL [36, 50, 36, 49] 2 [] = ([([], 2), ([], 1)], 0, 0) := by decide +kernel
theorem tmpl_self : tmplL [36, 48] 0 [] = ([([], 0)], 0, 0) := by decide +kernel
/-- A slice of bytes out of a block that holds them, marked or not. -/
theorem rdB {W : World} {g : Nat} {l : List Int} {t : TypeId} {fr : Nat × Nat} (h : W.heap[g]? = some (.cells (l.map (Value.int .u8)).toArray t fr)) (hm : l.length ≤ 9223372036854775807) : Kd.C kB W (some ⟨g, 0, none⟩) l.length l := by
  refine ⟨rfl, hm, fun _ => ⟨_, rfl, fun j p hj => ⟨[.int .u8 p], rfl, rfl, fun i u hu => ?_⟩⟩⟩
  have hi : i = 0 := by
    have := (List.getElem?_eq_some_iff.1 hu).1
    simpa using this
  subst hi
  cases hu
  have hz : kB.sz = 1 := rfl
  rw [hz, Nat.mul_one, Nat.add_zero, add_plain]
  refine row_cellE h j _ ?_
  rw [List.getElem?_toArray, List.getElem?_map, hj]
  rfl
set_option maxHeartbeats 4000000 in
set_option maxRecDepth 100000 in
theorem awake_any (w : World) : Calls Tryd.prog 14 #[] w fun e w' => e = .returned (.bool true) ∧ Below w.heap.size w w' := by
  have kc := fun (w : World) (C : Array Value) (n c : Nat) => Lib.run_convert_bytes_const (P := Tryd.prog) w 22 5 C n c Tryd.underlying22 Tryd.underlying5
  obtain ⟨w1, hw1⟩ : ∃ w1, w.alloc (.cells #[.int .u8 36, .int .u8 50, .int .u8 36, .int .u8 49] 5 (4, 5)) = w1 := ⟨_, rfl⟩
  have hb1 : Below w.heap.size w w1 := by rw [← hw1]; exact below_alloc (Below.refl _ _) _
  have hC : Kd.C kB w1 (some ⟨w.heap.size, 0, none⟩) [36, 50, 36, 49].length [36, 50, 36, 49] := by rw [← hw1]; exact rdB (fr := (4, 5)) (heap_alloc_new _ _) (by decide)
  have HT := Aside0.mk (template_any w1 (some ⟨w.heap.size, 0, none⟩) 4 [36, 50, 36, 49] 2 (.slice none 0 0) [] hC (by decide) (by decide) (RdS.nil _ _) (by decide))
  rw [tmpl_awake] at HT
  have HB1 := Aside0.mk hb1
  clear hb1 hC
  go_enter Tryd.func14, Tryd.ntmps14
  go_wp2_with fail
  refine HT.out.mono ?_
  rintro e w2 ⟨v, rfl, ho, hb2⟩
  have HB2 : Aside0 (Below w.heap.size w w2) := ⟨below_to HB1.out hb2⟩
  obtain ⟨A, c, rfl, hle, hC⟩ := Kd.R_reads ho
  obtain ⟨ad, A0, c0, e, hx0, hx1, -, -⟩ := at_T37 hC 0 (by decide) (by decide)
  subst e
  have hx1' : w2.cell? ⟨ad.block, ad.off + 1, none⟩ = some (.int .i64 2) := by
    have h : w2.cell? ⟨(ad.add 0).block, (ad.add 0).off + 1, none⟩ = some (.int .i64 2) := hx1
    rw [Addr.add_zero'] at h
    exact h
  have HX := Aside0.mk hx1'
  clear kc hw1 ho hb2 hle hC hx0 hx1 hx1'
  have hx := pw_cell_below (below_alloc (Below.refl w2.heap.size w2) (.cells #[.int .i64 0, .int .i64 0] 28)) HX.out
  go_wp2
  go_ret
  exact ⟨rfl, below_alloc HB2.out _⟩

end Go.Proofs.YtaejogkinniakaaDoor
