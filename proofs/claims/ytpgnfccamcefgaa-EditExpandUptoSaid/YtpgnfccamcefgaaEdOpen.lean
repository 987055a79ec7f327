/- Arguments of types []edit.Part, []byte and api.Found, read; what is known of what is of little bulk. -/
import Derived.Test.YtpgnfccamcefgaaUp
import Derived.Test.YtpgnfccamcefgaaEdA
import Derived.Deep.SlicePairs
import Derived.ChangeSame
namespace Go.Proofs.Ytpgnfccamcefgaa
set_option linter.unusedVariables false
set_option linter.unusedSimpArgs false
open Go.ChangeShapes Go.WideShapes Go.RowKit Go.Proofs.YtpgnfccamcefgaaW.PrintWords Go.Proofs.Ytpgnfccamcefgaa.PEditExpand

theorem laidOutB_E : laidOutB Try.prog = true := by kernel_rfl
/-- A row out of what each of its elements is. -/
theorem C_of_rows {α : Type} (z : α) {kd : Kd α} {W : World} {a : Addr} {len : Nat} {Q : Nat → α → Prop} (hm : len ≤ 9223372036854775807)
    (h : ∀ i, i < len → ∃ (p : α) (c : List Value), kd.K W p c ∧ (∀ j u, c[j]? = some u → W.cell? (a.add (i * kd.sz + j)) = some u) ∧ Q i p) :
    ∃ l : List α, l.length = len ∧ Kd.C kd W (some a) len l ∧ ∀ i (hi : i < l.length), Q i l[i] := by
  classical
  let g : Nat → α := fun i => if h2 : i < len then (h i h2).choose else z
  have hg : ∀ i (hi : i < len), g i = (h i hi).choose := fun i hi => by simp [g, hi]
  refine ⟨(List.range len).map g, by simp, ⟨by simp, hm, fun _ => ⟨a, rfl, fun j p hj => ?_⟩⟩, fun i hi => ?_⟩
  · obtain ⟨hlt, rfl⟩ := List.getElem?_eq_some_iff.1 hj
    have hjl : j < len := by simpa using hlt
    have e : ((List.range len).map g)[j] = (h j hjl).choose := by simp [hg j hjl]
    obtain ⟨c, hK, hc, hQ⟩ := (h j hjl).choose_spec
    rw [e]
    exact ⟨c, kd.K_len hK, hK, hc⟩
  · have hil : i < len := by simpa using hi
    have e : ((List.range len).map g)[i] = (h i hil).choose := by simp [hg i hil]
    obtain ⟨c, hK, hc, hQ⟩ := (h i hil).choose_spec
    rw [e]
    exact hQ
section
variable {H : Type} {enc : TypeId × Value → H} {W : World}
set_option maxRecDepth 100000 in
theorem trod_bytes {fuel : Nat} {cs : List Value} {x : DataW H × List MemPlace} (h : DataW.trod enc Try.prog W 0 (fun _ => true) true fuel 23 cs = some x) :
    ∃ a len cap, ∃ l : List Int, cs = [.slice a len cap] ∧ l.length = len ∧ len ≤ cap ∧ Kd.C kB W a len l ∧ l.length ≤ Rows.uptoBulk x.1 := by
  rcases open_ints Try.underlying23 Try.underlying5 (by kernel_rfl) h with ⟨hcs, _⟩ | ⟨a, len, cap, ss, hcs, _, hl, hm, hss, hd, hc, _⟩
  · exact ⟨none, 0, 0, [], hcs, rfl, Nat.le_refl _, Kd.C_nil _ _, Nat.zero_le _⟩
  · have hsl : len ≤ ss.length := by rw [hss]; split <;> omega
    have hlen : (ss.take len).length = len := by rw [List.length_take]; omega
    have hr : RdS kB W (.slice (some a) len cap) (ss.take len) := by
      refine rd_cells (kd := kB) (fun s => [.int .u8 s]) (fun _ _ => rfl) hlen hl (Nat.le_trans hl (by simpa [maxLen] using hm)) (fun j hj i u hu => ?_)
      have hj2 : j < ss.length := by omega
      have hz : kB.sz = 1 := rfl
      rw [hz, Nat.mul_one]
      match i, hu with
      | 0, hu =>
        cases hu
        have h := hc j hj2
        simpa [hj2] using h
    obtain ⟨A, c', e, h1, h2⟩ := hr
    rw [hlen] at e h2
    cases e
    refine ⟨some a, len, cap, ss.take len, hcs, hlen, hl, h2, ?_⟩
    rw [hd]
    exact Nat.le_trans (by simp [lits]) (bulk_slice _ _)
set_option maxRecDepth 100000 in
theorem trod_part {fuel : Nat} {cs : List Value} {x : DataW H × List MemPlace} (h : DataW.trod enc Try.prog W 0 (fun _ => true) true fuel 33 cs = some x) :
    ∃ p : S33, k33.K W p cs ∧ p.f0.length ≤ Rows.uptoBulk x.1 := by
  obtain ⟨y0, y1, n, rfl, hlen, h0, h1⟩ := Go.ChangeShapes.trod_struct2 Try.underlying33 h
  have c2 : Try.prog.cellsOf 33 = 2 := by kernel_rfl
  have cI : Try.prog.cellsOf 3 = 1 := by kernel_rfl
  have cS : Try.prog.cellsOf 23 = 1 := by kernel_rfl
  rw [c2] at hlen
  obtain ⟨v0, v1, rfl⟩ : ∃ v0 v1, cs = [v0, v1] := by
    match cs, hlen with
    | [y0, y1], _ => exact ⟨y0, y1, rfl⟩
  simp [cI, cS] at h0 h1
  obtain ⟨a, len, cap, l, e, hl, hc, hC, hb⟩ := trod_bytes h0
  obtain ⟨p, q, _⟩ := DataW.trod_int Try.underlying3 h1
  have e0 : v0 = .slice a len cap := by simpa using e
  have e1 : v1 = .int .i64 p := by simpa using q
  subst e0 e1 hl
  refine ⟨⟨l, p⟩, k33_mk W ⟨l, p⟩ hc hC, Nat.le_trans hb ?_⟩
  simp only [Rows.uptoBulk, Rows.uptoBulkAll]
  omega
set_option maxRecDepth 100000 in
theorem trod_span {fuel : Nat} {cs : List Value} {x : DataW H × List MemPlace} (h : DataW.trod enc Try.prog W 0 (fun _ => true) true fuel 84 cs = some x) : ∃ p : S84, k84.K W p cs := by
  obtain ⟨y0, y1, n, rfl, hlen, h0, h1⟩ := Go.ChangeShapes.trod_struct2 Try.underlying84 h
  have c2 : Try.prog.cellsOf 84 = 2 := by kernel_rfl
  have cI : Try.prog.cellsOf 3 = 1 := by kernel_rfl
  rw [c2] at hlen
  obtain ⟨v0, v1, rfl⟩ : ∃ v0 v1, cs = [v0, v1] := by
    match cs, hlen with
    | [y0, y1], _ => exact ⟨y0, y1, rfl⟩
  simp [cI] at h0 h1
  obtain ⟨p0, q0, _⟩ := DataW.trod_int Try.underlying3 h0
  obtain ⟨p1, q1, _⟩ := DataW.trod_int Try.underlying3 h1
  have e0 : v0 = .int .i64 p0 := by simpa using q0
  have e1 : v1 = .int .i64 p1 := by simpa using q1
  subst e0 e1
  exact ⟨⟨p0, p1⟩, k84_mk W ⟨p0, p1⟩⟩
theorem bulk_mem {l : List (DataW H)} {d : DataW H} (h : d ∈ l) : Rows.uptoBulk d ≤ Rows.uptoBulkAll l := by
  induction l with
  | nil => cases h
  | cons x r ih =>
    simp only [Rows.uptoBulkAll]
    rcases List.mem_cons.1 h with rfl | h
    · omega
    · have := ih h
      omega
set_option maxRecDepth 100000 in
theorem open_P {a : Option Addr} {len cap : Nat} {d : DataW H} {ps : List MemPlace}
    (h : DataW.Trod enc Try.prog W 0 (fun _ => true) true 22 (.slice a len cap) d ps) : ∃ l : List S33, l.length = len ∧ len ≤ cap ∧ Kd.C k33 W a len l ∧ l.length ≤ Rows.uptoBulk d ∧ ∀ p ∈ l, p.f0.length ≤ Rows.uptoBulk d := by
  obtain ⟨fuel, hf⟩ := h
  rcases Go.Deep.open_slice Try.underlying22 hf with ⟨hcs, _⟩ | ⟨x, l, c, m, n, D, Pl, hcs, _, hl, hm, hmm, hx2, hx⟩
  · simp [Value.cells] at hcs
    obtain ⟨rfl, rfl, rfl⟩ := hcs
    exact ⟨[], rfl, Nat.le_refl _, Kd.C_nil _ _, Nat.zero_le _, fun p hp => by cases hp⟩
  · simp [Value.cells] at hcs
    obtain ⟨rfl, rfl, rfl⟩ := hcs
    have hlm : len ≤ m := by rw [hmm]; simpa using hl
    have c2 : Try.prog.cellsOf 33 = 2 := by kernel_rfl
    obtain ⟨L, hL, hC, hQ⟩ := C_of_rows z33 (kd := k33) (W := W) (a := x) (len := len) (Q := fun i p => p.f0.length ≤ Rows.uptoBulk (D i)) (Nat.le_trans hl (by simpa [maxLen] using hm)) (fun i hi => by
      obtain ⟨cs', h1, h2⟩ := hx i (by omega)
      rw [c2] at h1
      obtain ⟨_, hlen, hcell⟩ := World.cells?_some h1
      obtain ⟨p, hK, hb⟩ := trod_part h2
      refine ⟨p, cs', hK, fun j u hu => ?_, hb⟩
      have e := hcell j (by have := (List.getElem?_eq_some_iff.1 hu).1; omega)
      rw [Go.Deep.add_add] at e
      have hs : k33.sz = 2 := rfl
      rw [hs]
      exact e.trans hu)
    have hd : d = .slice ((List.range len).map D) ((List.range (m - len)).map fun j => D (len + j)) := congrArg Prod.fst hx2
    refine ⟨L, hL, hl, hC, ?_, fun p hp => ?_⟩
    · rw [hd]
      exact Nat.le_trans (by simp [hL]) (bulk_slice _ _)
    · obtain ⟨i, hi, rfl⟩ := List.getElem_of_mem hp
      refine Nat.le_trans (hQ i hi) ?_
      rw [hd]
      have := bulk_mem (l := (List.range len).map D) (d := D i) (List.mem_map.2 ⟨i, List.mem_range.2 (by omega), rfl⟩)
      simp only [Rows.uptoBulk]
      omega
set_option maxRecDepth 100000 in
theorem open_By {a : Option Addr} {len cap : Nat} {d : DataW H} {ps : List MemPlace}
    (h : DataW.Trod enc Try.prog W 0 (fun _ => true) true 23 (.slice a len cap) d ps) : ∃ l : List Int, l.length = len ∧ len ≤ cap ∧ Kd.C kB W a len l ∧ l.length ≤ Rows.uptoBulk d := by
  obtain ⟨fuel, hf⟩ := h
  obtain ⟨a', len', cap', l, e, hl, hc, hC, hb⟩ := trod_bytes hf
  have e2 : a = a' ∧ len = len' ∧ cap = cap' := by simpa [Value.cells] using e
  obtain ⟨rfl, rfl, rfl⟩ := e2
  exact ⟨l, hl, hc, hC, hb⟩
set_option maxRecDepth 100000 in
theorem open_F {v : Value} {base : Nat} {d : DataW H} {ps : List MemPlace} (hv : Value.okWide Try.prog W .any base 26 v)
    (h : DataW.Trod enc Try.prog W 0 (fun _ => true) true 26 v d ps) : ∃ (a : Option Addr) (len cap : Nat) (l : List S84), v = .agg #[.slice a len cap] ∧ l.length = len ∧ len ≤ cap ∧ Kd.C k84 W a len l := by
  obtain ⟨cs, rfl, hcs⟩ := okWide_struct Try.underlying26 hv
  have c1 : Try.prog.cellsOf 26 = 1 := by kernel_rfl
  have cS : Try.prog.cellsOf 24 = 1 := by kernel_rfl
  rw [c1] at hcs
  obtain ⟨v0, rfl⟩ : ∃ v0, cs = #[v0] := by
    obtain ⟨cl⟩ := cs
    match cl, hcs with
    | [y], _ => exact ⟨y, rfl⟩
  obtain ⟨fuel, hf⟩ := h
  obtain ⟨y0, n, -, hlen, h0⟩ := Go.ChangeShapes.trod_struct1 Try.underlying26 hf
  simp [cS, Value.cells] at h0
  rcases Go.Deep.open_slice Try.underlying24 h0 with ⟨hcs2, _⟩ | ⟨x, l, c, m, n, D, Pl, hcs2, _, hl, hm, hmm, hx2, hx⟩
  · have : v0 = .slice none 0 0 := by simpa using hcs2
    subst this
    exact ⟨none, 0, 0, [], rfl, rfl, Nat.le_refl _, Kd.C_nil _ _⟩
  · have : v0 = .slice (some x) l c := by simpa using hcs2
    subst this
    have hlm : l ≤ m := by rw [hmm]; simpa using hl
    have c2 : Try.prog.cellsOf 84 = 2 := by kernel_rfl
    obtain ⟨L, hL, hC, hQ⟩ := C_of_rows z84 (kd := k84) (W := W) (a := x) (len := l) (Q := fun _ _ => True) (Nat.le_trans hl (by simpa [maxLen] using hm)) (fun i hi => by
      obtain ⟨cs', h1, h2⟩ := hx i (by omega)
      rw [c2] at h1
      obtain ⟨_, hlen, hcell⟩ := World.cells?_some h1
      obtain ⟨p, hK⟩ := trod_span h2
      refine ⟨p, cs', hK, fun j u hu => ?_, trivial⟩
      have e := hcell j (by have := (List.getElem?_eq_some_iff.1 hu).1; omega)
      rw [Go.Deep.add_add] at e
      have hs : k84.sz = 2 := rfl
      rw [hs]
      exact e.trans hu)
    exact ⟨some x, l, c, L, rfl, hL, hl, hC⟩
end

end Go.Proofs.Ytpgnfccamcefgaa
