/- Walks: lines.digits, lines.wrong; the builder's contracts as lines.Print calls them. -/
import Derived.Test.YtooehjbbphokbaaDoorLnG
import Derived.Test.YtooehjbbphokbaaDoorLnC
import Derived.Test.YtooehjbbphokbaaDoorShelfU
import Derived.Test.YtooehjbbphokbaaDoorShelfV
import Derived.Laws.IdiomStrings
import Derived.Lib.Builder
namespace Go.Proofs.YtooehjbbphokbaaDoor
set_option linter.unusedVariables false
set_option linter.unusedSimpArgs false
open Go.RowKit Go.Proofs.YtooehjbbphokbaaDoorW.PrintWords Go.Proofs.YtooehjbbphokbaaDoorW.PrintLast Go.Proofs.YtooehjbbphokbaaDoorW.PrintMore

abbrev Bld (B b : Nat) (l : List UInt8) (w : World) : Prop := Lib.IsBuilder 69 5 B b (Lib.byteCells l) w
theorem bld_write (B b : Nat) (l : List UInt8) (s : ByteArray) (w : World) (h : Bld B b l w) (hl : l.length + s.size ≤ 140737488355328) (hB : B ≤ w.heap.size) :
    Calls Tryd.prog 52 #[.pointer (some ⟨b, 0, none⟩), .string s] w fun e w' => e = .returned (.tuple #[.int .i64 s.size, .nilIface]) ∧ Bld B b (l ++ s.data.toList) w' ∧ Below B w w' := by
  refine (Any.Builder_WriteString { Tryd.lays158 with } Tryd.Builder_Extra_158 B b (Lib.byteCells l) s w h (by rw [Lib.byteCells_length]; exact hl) hB).mono ?_
  rintro e w1 ⟨he, h1, hb⟩
  refine ⟨he, Or.inr ?_, hb⟩
  rw [Lib.strCells_eq] at h1
  have e2 : Lib.byteCells (l ++ s.data.toList) = Lib.byteCells l ++ Lib.byteCells s.data.toList := by simp [Lib.byteCells]
  rw [e2]
  exact h1
theorem bld_string (B b : Nat) (l : List UInt8) (w : World) (h : Bld B b l w) (hB : B ≤ w.heap.size) :
    Calls Tryd.prog 55 #[.pointer (some ⟨b, 0, none⟩)] w fun e w' => e = .returned (.string (bsL l)) ∧ Below B w w' := Tryd.Builder_String_any B b l w h hB
theorem ownsRow_under {B : Nat} {e : TypeId} {k : Nat} {v : Value} {n : Nat} {xs : List Value} {w w' : World} (h : w.ownsRow B e k v n xs) (hb : Below w.heap.size w w') : w'.ownsRow B e k v n xs :=
  h.kept (row := none) ⟨hb.os, hb.tape, hb.output, hb.size, fun j hj _ => hb.block j hj⟩ (by cases hv : v.ownBlock <;> simp)
theorem bldAt_below {T e : TypeId} {B b : Nat} {p : Value} {bs : List Value} {w w' : World} (h : Lib.BuilderAt T e B b p bs w) (hb : Below w.heap.size w w') : Lib.BuilderAt T e B b p bs w' := by
  have hlt := h.lt
  obtain ⟨hB, v, hv, ho, hne⟩ := h
  refine ⟨hB, v, ?_, ownsRow_under ho hb, hne⟩
  rw [← hv]
  exact hb.block _ hlt
theorem Bld.below {B b : Nat} {l : List UInt8} {w w' : World} (h : Bld B b l w) (hb : Below w.heap.size w w') : Bld B b l w' :=
  h.elim (fun h => Or.inl (bldAt_below h hb)) (fun h => Or.inr (bldAt_below h hb))

theorem bld_check (B b : Nat) (l : List UInt8) (w : World) (h : Bld B b l w) :
    Calls Tryd.prog 71 #[.pointer (some ⟨b, 0, none⟩)] w fun e w' => e = .returned (.tuple #[]) ∧ Lib.BuilderAt 69 5 B b (.pointer (some ⟨b, 0, none⟩)) (Lib.byteCells l) w' ∧ Below B w w' ∧ (∀ k, k ≠ b → w'.heap[k]? = w.heap[k]?) ∧ w'.cell? ⟨b, 1, none⟩ = w.cell? ⟨b, 1, none⟩ := by
  rcases h with h | h
  · refine (Any.Builder_copyCheck_fresh { Tryd.lays158 with } Tryd.Builder_Extra_158.toX72 b w h.cell0 h.shape h.frozen0).mono ?_
    rintro e w' ⟨rfl, rfl⟩
    exact ⟨rfl, h.used _, (Below.refl B w).setCell (p := ⟨b, 0, none⟩) h.1 _, fun k hk => Below.heap_setCell _ _ _ _ hk, World.cell?_setCell_other _ _ _ _ (by simp)⟩
  · refine (Any.Builder_copyCheck_used { Tryd.lays158 with } Tryd.Builder_Extra_158.toX72 b w h.cell0).mono ?_
    rintro e w' ⟨rfl, rfl⟩
    exact ⟨rfl, h, Below.refl B _, fun _ _ => rfl, rfl⟩

set_option maxHeartbeats 2000000 in
set_option maxRecDepth 100000 in
theorem bld_write_g (B b g : Nat) (l : List UInt8) (s : ByteArray) (w : World) (h : Bld B b l w) (hl : l.length + s.size ≤ 140737488355328) (hB : B ≤ w.heap.size) {cs : Array Value} {T : TypeId} {fr : Nat × Nat} (hT : T ≠ 5) (hgb : g ≠ b) (hg : w.heap[g]? = some (.cells cs T fr)) :
    Calls Tryd.prog 52 #[.pointer (some ⟨b, 0, none⟩), .string s] w fun e w' => (∃ v, e = .returned v) ∧ Bld B b (l ++ s.data.toList) w' ∧ Below B w w' ∧ w'.heap[g]? = some (.cells cs T fr) := by
  obtain ⟨i0, hi, hz0, hz1, hz2⟩ := info_parts Tryd.Builder_Extra_158.infoByte
  go_enter Tryd.func52, Tryd.ntmps52
  go_wp2_with fail
  refine (bld_check B b l w h).mono ?_
  rintro e w1 ⟨rfl, h1, hb1, hk1, hc1⟩
  obtain ⟨hBb, v, hbk, hown, hne⟩ := h1
  have hsz1 := hb1.size
  have c1 : w1.cell? ⟨b, 1, none⟩ = some v := by rw [Lib.cell_of_heap hbk]; rfl
  have hg1 : w1.heap[g]? = some (.cells cs T fr) := (hk1 g hgb).trans hg
  have hvg : v.ownBlock ≠ some g := Lib.ownBlock_ne hown hg1 hT
  have hlt1 : g < w1.heap.size := by
    rcases Nat.lt_or_ge g w1.heap.size with h' | h'
    · exact h'
    · simp [Array.getElem?_eq_none h'] at hg1
  have HB := Aside0.mk hb1
  have HG1 := Aside0.mk hg1
  have HW := Aside0.mk hown
  clear hb1 hg hg1 hk1 hc1 hown
  go_wp2_with (at_builtin; refine Lib.wpList_append_own_string _ rfl _ _ 61 9 rfl B 5 i0 Tryd.underlying61 Tryd.underlying9 hi hz0 hz1 hz2 _ _ _ rfl HW.out s rfl ?c3 ?c4 ?c5 ?_)
  case c3 => rw [Lib.byteCells_length]; unfold maxLen; omega
  case c4 => rw [Lib.byteCells_length]; omega
  case c5 => omega
  intro v' w2 hown' hgrow _
  have hlt : b < w1.heap.size := (show Lib.BuilderAt _ _ _ _ _ _ _ from ⟨hBb, v, hbk, HW.out, hne⟩).lt
  have hb2 : w2.heap[b]? = some (.cells #[.pointer (some ⟨b, 0, none⟩), v] 69 (0, 0)) := by
    rw [hgrow.block b hlt (fun e => hne e.symm)]
    exact hbk
  have d0 : w2.cell? ⟨b, 0, none⟩ = some (.pointer (some ⟨b, 0, none⟩)) := by rw [Lib.cell_of_heap hb2]; rfl
  have d1 : w2.cell? ⟨b, 1, none⟩ = some v := by rw [Lib.cell_of_heap hb2]; rfl
  have f1 : w2.frozen? ⟨b, 1, none⟩ = false := Lib.frozen_of_heap hb2 1
  obtain ⟨ao, n', cap, rfl⟩ : ∃ ao n' cap, v' = .slice ao n' cap := by
    rcases hown'.2 with ⟨hv, _⟩ | ⟨_, _, _, hv, _⟩
    · exact ⟨_, _, _, hv⟩
    · exact ⟨_, _, _, hv⟩
  have HO := Aside0.mk hown'
  have HR := Aside0.mk hgrow
  clear hown' hgrow
  go_wp2
  go_ret2
  have hown' := HO.out
  have hgrow := HR.out
  have hput := Lib.BuilderAt.put (T := 69) (e := 5) hBb hb2 (bs' := Lib.byteCells l ++ Lib.strCells s) (by simpa [Lib.strCells_length] using hown') (by decide)
  refine ⟨⟨_, rfl⟩, Or.inr ?_, (HB.out.grown hgrow (by omega) (fun k hk => (HW.out.lt k hk).1)).setCell (p := ⟨b, 1, none⟩) hBb _, ?_⟩
  · rw [Lib.strCells_eq] at hput
    have e2 : Lib.byteCells (l ++ s.data.toList) = Lib.byteCells l ++ Lib.byteCells s.data.toList := by simp [Lib.byteCells]
    rw [e2]
    exact hput
  · rw [Below.heap_setCell _ _ _ _ (by exact hgb), hgrow.block g hlt1 (fun e => hvg e.symm)]
    exact HG1.out

end Go.Proofs.YtooehjbbphokbaaDoor
