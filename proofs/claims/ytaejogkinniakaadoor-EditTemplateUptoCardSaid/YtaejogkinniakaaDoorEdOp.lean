/- For the cards of layer 22: a witness at a world that lays the listed tables; the bulk of what is read; arguments []byte, []api.Span, []string read. -/
import Derived.Test.YtaejogkinniakaaDoorRows
import Derived.Test.YtaejogkinniakaaDoorEdA
import Derived.Test.YtaejogkinniakaaDoorRd
import Derived.Deep.DeepHandedRow
import Derived.Deep.SlicePairs
import Derived.SliceStrings
import Derived.ChangeSame
import Derived.Lay
namespace Go.Proofs.YtaejogkinniakaaDoor
set_option linter.unusedVariables false
set_option linter.unusedSimpArgs false
open Go.ChangeShapes Go.WideShapes Go.ChangeAt Go.RowKit Go.Proofs.YtaejogkinniakaaDoorW.PrintWords Go.Proofs.YtaejogkinniakaaDoor.PEd

theorem witness_row_zip {H : Type} {enc : TypeId × Value → H} {C : Checked} {os : Os} {f : FuncId} {fn : Func} {s : OpenSpec} {conds : List PathCond} {apart : Bool} {laid : List (String × DataW Unit)} (w0 : World) (args : Array Value) (hos : w0.os = os)
    (hsh : (w0.forCall (fun _ _ => 0) ⟨#[], args, []⟩).Shaped C.prog)
    (hok : Input.okWideB C.prog (w0.forCall (fun _ _ => 0) ⟨#[], args, []⟩) f ⟨#[], args, []⟩ = true)
    (hrow : s.preRow enc C.prog fn conds apart laid (w0.forCall (fun _ _ => 0) ⟨#[], args, []⟩).memory args) :
    ∃ (w : World) (tape : Tape) (i : Input), w.os = os ∧ (w.forCall tape i).Shaped C.prog ∧ i.vars = [] ∧ Input.okWide C.prog (w.forCall tape i) .any w.heap.size f i ∧
      s.preRow enc C.prog fn conds apart laid (w.forCall tape i).memory i.args ∧ ({} : Assume).holds C.prog (lone (Frame.enter C.prog f i.args .normal) [] (w.forCall tape i)) :=
  ⟨w0, fun _ _ => 0, ⟨#[], args, []⟩, hos, hsh, rfl, (Input.okWide_of_okWideB (base := w0.heap.size) hok).2, hrow, by
    simp only [Assume.holds]
    exact ⟨by simp, by simp, fun _ => Modest.zero, by simp, by simp⟩⟩

theorem bulk_one {H : Type} (d : DataW H) : 1 ≤ Rows.uptoBulk d := by
  cases d with
  | lit l => cases l <;> simp [Rows.uptoBulk]
  | nil => exact Nat.le_refl _
  | held h => exact Nat.le_refl _
  | _ => simp only [Rows.uptoBulk]; omega
theorem bulk_len {H : Type} : ∀ l : List (DataW H), l.length ≤ Rows.uptoBulkAll l
  | [] => Nat.zero_le _
  | d :: r => by
    have h1 := bulk_one d
    have h2 := bulk_len r
    simp only [Rows.uptoBulkAll, List.length_cons]
    omega
theorem bulk_slice {H : Type} (elems spare : List (DataW H)) : elems.length ≤ Rows.uptoBulk (.slice elems spare) := by
  have h := bulk_len elems
  simp only [Rows.uptoBulk]
  omega
theorem bulk_lt {H : Type} (elems spare : List (DataW H)) : elems.length < Rows.uptoBulk (.slice elems spare) := by
  have h := bulk_len elems
  simp only [Rows.uptoBulk]
  omega
theorem bulk_all {H : Type} {l : List (DataW H)} (h : Rows.uptoSmall H l = true) : Rows.uptoBulkAll l ≤ 1048576 := of_decide_eq_true h
/-- A row out of what each of its elements is. -/
theorem C_of_rows {α : Type} (z : α) {kd : Kd α} {W : World} {a : Addr} {len : Nat} {Q : Nat → α → Prop} (hm : len ≤ 9223372036854775807)
    (h : ∀ i, i < len → ∃ (p : α) (c : List Value), kd.K W p c ∧ (∀ j u, c[j]? = some u → W.cell? (a.add (i * kd.sz + j)) = some u) ∧ Q i p) :
    ∃ l : List α, l.length = len ∧ Kd.C kd W (some a) len l ∧ ∀ i (hi : i < l.length), Q i l[i] := by
  classical
  let g : Nat → α := fun i => if h2 : i < len then (h i h2).choose else z
  have hg : ∀ i (hi : i < len), g i = (h i hi).choose := fun i hi => by simp [g, hi]
  refine ⟨(List.range len).map g, by simp, ⟨by simp, hm, fun _ => ⟨a, rfl, fun j p hj => ?_⟩⟩, fun i hi => ?_⟩
  · obtain ⟨hlt, rfl⟩ := List.getElem?_eq_some_iff.1 hj
    have hjl : j < len := by simpa using hlt
    have e : ((List.range len).map g)[j] = (h j hjl).choose := by simp [hg j hjl]
    obtain ⟨c, hK, hc, hQ⟩ := (h j hjl).choose_spec
    rw [e]
    exact ⟨c, kd.K_len hK, hK, hc⟩
  · have hil : i < len := by simpa using hi
    have e : ((List.range len).map g)[i] = (h i hil).choose := by simp [hg i hil]
    obtain ⟨c, hK, hc, hQ⟩ := (h i hil).choose_spec
    rw [e]
    exact hQ
section
variable {H : Type} {enc : TypeId × Value → H} {W : World}
set_option maxRecDepth 100000 in
theorem trod_bytes {fuel : Nat} {cs : List Value} {x : DataW H × List MemPlace} (h : DataW.trod enc Tryd.prog W 0 (fun _ => true) true fuel 22 cs = some x) :
    ∃ a len cap, ∃ l : List Int, cs = [.slice a len cap] ∧ l.length = len ∧ len ≤ cap ∧ Kd.C kB W a len l ∧ l.length < Rows.uptoBulk x.1 ∧ ∀ n ∈ l, 0 ≤ n ∧ n ≤ 255 := by
  rcases open_ints Tryd.underlying22 Tryd.underlying5 (by kernel_rfl) h with ⟨hcs, _⟩ | ⟨a, len, cap, ss, hcs, _, hl, hm, hss, hd, hc, hwf⟩
  · exact ⟨none, 0, 0, [], hcs, rfl, Nat.le_refl _, Kd.C_nil _ _, by have := bulk_one x.1; show 0 < _; omega, fun n hn => by cases hn⟩
  · have hsl : len ≤ ss.length := by rw [hss]; split <;> omega
    have hlen : (ss.take len).length = len := by rw [List.length_take]; omega
    have hr : RdS kB W (.slice (some a) len cap) (ss.take len) := by
      refine rd_cells (kd := kB) (fun s => [.int .u8 s]) (fun _ _ => rfl) hlen hl (Nat.le_trans hl (by simpa [maxLen] using hm)) (fun j hj i u hu => ?_)
      have hj2 : j < ss.length := by omega
      have hz : kB.sz = 1 := rfl
      rw [hz, Nat.mul_one]
      match i, hu with
      | 0, hu =>
        cases hu
        have h := hc j hj2
        simpa [hj2] using h
    obtain ⟨A, c', e, h1, h2⟩ := hr
    rw [hlen] at e h2
    cases e
    refine ⟨some a, len, cap, ss.take len, hcs, hlen, hl, h2, ?_, fun n hn => ?_⟩
    · rw [hd]
      have h := bulk_lt (H := H) (lits .u8 (ss.take len)) (lits .u8 (ss.drop len))
      have hl2 : (lits .u8 (ss.take len) : List (DataW H)).length = (ss.take len).length := by simp [lits]
      rw [← hl2]
      exact h
    · have := hwf n (List.mem_of_mem_take hn)
      have h2 : IntKind.u8.min ≤ n ∧ n ≤ IntKind.u8.max := by simpa [Lit.wf] using this
      exact h2
set_option maxRecDepth 100000 in
theorem trod_span {fuel : Nat} {cs : List Value} {x : DataW H × List MemPlace} (h : DataW.trod enc Tryd.prog W 0 (fun _ => true) true fuel 46 cs = some x) : ∃ p : S46, k46.K W p cs := by
  obtain ⟨y0, y1, n, rfl, hlen, h0, h1⟩ := Go.ChangeShapes.trod_struct2 Tryd.underlying46 h
  have c2 : Tryd.prog.cellsOf 46 = 2 := by kernel_rfl
  have cI : Tryd.prog.cellsOf 3 = 1 := by kernel_rfl
  rw [c2] at hlen
  obtain ⟨v0, v1, rfl⟩ : ∃ v0 v1, cs = [v0, v1] := by
    match cs, hlen with
    | [y0, y1], _ => exact ⟨y0, y1, rfl⟩
  simp [cI] at h0 h1
  obtain ⟨p0, q0, _⟩ := DataW.trod_int Tryd.underlying3 h0
  obtain ⟨p1, q1, _⟩ := DataW.trod_int Tryd.underlying3 h1
  have e0 : v0 = .int .i64 p0 := by simpa using q0
  have e1 : v1 = .int .i64 p1 := by simpa using q1
  subst e0 e1
  exact ⟨⟨p0, p1⟩, k46_mk W ⟨p0, p1⟩⟩
set_option maxRecDepth 100000 in
theorem open_By {a : Option Addr} {len cap : Nat} {d : DataW H} {ps : List MemPlace}
    (h : DataW.Trod enc Tryd.prog W 0 (fun _ => true) true 22 (.slice a len cap) d ps) : ∃ l : List Int, l.length = len ∧ len ≤ cap ∧ Kd.C kB W a len l ∧ l.length < Rows.uptoBulk d ∧ ∀ n ∈ l, 0 ≤ n ∧ n ≤ 255 := by
  obtain ⟨fuel, hf⟩ := h
  obtain ⟨a', len', cap', l, e, hl, hc, hC, hb⟩ := trod_bytes hf
  have e2 : a = a' ∧ len = len' ∧ cap = cap' := by simpa [Value.cells] using e
  obtain ⟨rfl, rfl, rfl⟩ := e2
  exact ⟨l, hl, hc, hC, hb⟩
set_option maxRecDepth 100000 in
theorem open_Sp {a : Option Addr} {len cap : Nat} {d : DataW H} {ps : List MemPlace}
    (h : DataW.Trod enc Tryd.prog W 0 (fun _ => true) true 41 (.slice a len cap) d ps) : ∃ l : List S46, l.length = len ∧ len ≤ cap ∧ Kd.C k46 W a len l ∧ l.length < Rows.uptoBulk d := by
  obtain ⟨fuel, hf⟩ := h
  rcases Go.Deep.open_slice Tryd.underlying41 hf with ⟨hcs, _⟩ | ⟨x, l, c, m, n, D, Pl, hcs, _, hl, hm, hmm, hx2, hx⟩
  · simp [Value.cells] at hcs
    obtain ⟨rfl, rfl, rfl⟩ := hcs
    exact ⟨[], rfl, Nat.le_refl _, Kd.C_nil _ _, by have := bulk_one d; show 0 < _; omega⟩
  · simp [Value.cells] at hcs
    obtain ⟨rfl, rfl, rfl⟩ := hcs
    have hlm : len ≤ m := by rw [hmm]; simpa using hl
    have c2 : Tryd.prog.cellsOf 46 = 2 := by kernel_rfl
    obtain ⟨L, hL, hC, hQ⟩ := C_of_rows z46 (kd := k46) (W := W) (a := x) (len := len) (Q := fun _ _ => True) (Nat.le_trans hl (by simpa [maxLen] using hm)) (fun i hi => by
      obtain ⟨cs', h1, h2⟩ := hx i (by omega)
      rw [c2] at h1
      obtain ⟨_, hlen, hcell⟩ := World.cells?_some h1
      obtain ⟨p, hK⟩ := trod_span h2
      refine ⟨p, cs', hK, fun j u hu => ?_, trivial⟩
      have e := hcell j (by have := (List.getElem?_eq_some_iff.1 hu).1; omega)
      rw [Go.Deep.add_add] at e
      have hs : k46.sz = 2 := rfl
      rw [hs]
      exact e.trans hu)
    have hd : d = .slice ((List.range len).map D) ((List.range (m - len)).map fun j => D (len + j)) := congrArg Prod.fst hx2
    refine ⟨L, hL, hl, hC, ?_⟩
    have h := bulk_lt ((List.range len).map D) ((List.range (m - len)).map fun j => D (len + j))
    rw [List.length_map, List.length_range] at h
    rw [hd, hL]
    exact h
set_option maxRecDepth 100000 in
theorem open_Ss {a : Option Addr} {len cap : Nat} {d : DataW H} {ps : List MemPlace}
    (h : DataW.Trod enc Tryd.prog W 0 (fun _ => true) true 23 (.slice a len cap) d ps) : ∃ l : List ByteArray, RdS Kd.string W (.slice a len cap) l := by
  obtain ⟨fuel, hf⟩ := h
  rcases open_strings Tryd.underlying23 Tryd.underlying9 (by kernel_rfl) hf with ⟨hcs, hx⟩ | ⟨a', len', cap', ss, hcs, _, hl, hm, hss, hd, hc, _⟩
  · simp [Value.cells] at hcs
    obtain ⟨rfl, rfl, rfl⟩ := hcs
    exact ⟨[], ⟨none, 0, rfl, Nat.le_refl _, Kd.C_nil _ _⟩⟩
  · simp [Value.cells] at hcs
    obtain ⟨rfl, rfl, rfl⟩ := hcs
    have hsl : len ≤ ss.length := by rw [hss]; split <;> omega
    have hlen : (ss.take len).length = len := by rw [List.length_take]; omega
    refine ⟨ss.take len, rd_cells (kd := Kd.string) (fun s => [.string s]) (fun _ _ => rfl) hlen hl (Nat.le_trans hl (by simpa [maxLen] using hm)) (fun j hj i u hu => ?_)⟩
    have hj2 : j < ss.length := by omega
    have hz : Kd.string.sz = 1 := rfl
    rw [hz, Nat.mul_one]
    match i, hu with
    | 0, hu =>
      cases hu
      have h := hc j hj2
      simpa [hj2] using h
end

end Go.Proofs.YtaejogkinniakaaDoor
