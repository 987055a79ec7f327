/- Arguments of type []api.Record, read; what is known of what is of little bulk. -/
import Derived.Test.YtooehjbbphokbaaDoorLnM
import Derived.Test.YtooehjbbphokbaaDoorLnG
import Derived.Test.YtooehjbbphokbaaDoorLnE
import Derived.Test.YtooehjbbphokbaaDoorRd
import Derived.SliceStrings
import Derived.Deep.SlicePairs
import Derived.Deep.Strs
import Derived.ChangeSame
namespace Go.Proofs.YtooehjbbphokbaaDoor
set_option linter.unusedVariables false
set_option linter.unusedSimpArgs false
open Go.ChangeShapes Go.WideShapes Go.RowKit Go.Proofs.YtooehjbbphokbaaDoorW.PrintWords Go.Proofs.YtooehjbbphokbaaDoor.PLinesRead

/-! ### The weight of records: what their bulk bounds -/
def fW : List ByteArray → Nat
  | [] => 0
  | f :: l => f.size + 1 + fW l
def kW : List Rc → Nat
  | [] => 0
  | r :: l => fW r.f2 + 4 + kW l
theorem fW_text : ∀ l : List ByteArray, (l.flatMap fieldT).length ≤ 4 * fW l ∧ l.length ≤ fW l
  | [] => ⟨Nat.zero_le _, Nat.le_refl _⟩
  | f :: l => by
    obtain ⟨h1, h2⟩ := fW_text l
    have h3 : (fieldT f).length = f.size + 3 := by unfold fieldT; rw [List.length_append, Lib.size_eq f]; simp only [List.length_cons, List.length_nil]; omega
    rw [List.flatMap_cons, List.length_append]
    simp only [fW, List.length_cons]
    omega
theorem kW_text : ∀ l : List Rc, (textT l).length ≤ 4 * kW l ∧ l.length ≤ kW l
  | [] => ⟨Nat.zero_le _, Nat.le_refl _⟩
  | r :: l => by
    obtain ⟨h1, h2⟩ := kW_text l
    obtain ⟨h3, h4⟩ := fW_text r.f2
    have h5 := headT_length r
    have e : textT (r :: l) = recT r ++ textT l := by unfold textT; rw [List.flatMap_cons]
    have e2 : (recT r).length = (headT r).length + (r.f2.flatMap fieldT).length + 1 := by unfold recT; rw [List.length_append, List.length_append]; rfl
    rw [e, List.length_append]
    simp only [kW, List.length_cons]
    omega
theorem kW_f2 : ∀ (l : List Rc), ∀ r ∈ l, r.f2.length ≤ kW l
  | [], r, h => by cases h
  | q :: l, r, h => by
    simp only [kW]
    rcases List.mem_cons.1 h with rfl | h
    · have := (fW_text r.f2).2
      omega
    · have := kW_f2 l r h
      omega
theorem fW_bulk {H : Type} : ∀ l : List ByteArray, fW l ≤ Rows.uptoBulkAll (strs l : List (DataW H))
  | [] => Nat.zero_le _
  | f :: l => by
    have h := fW_bulk (H := H) l
    have h1 := bulk_one (.lit (.string f.data.toList) : DataW H)
    have e : Rows.uptoBulk (.lit (.string f.data.toList) : DataW H) = f.data.toList.length + 1 := by simp only [Rows.uptoBulk]
    show f.size + 1 + fW l ≤ Rows.uptoBulk (.lit (.string f.data.toList) : DataW H) + Rows.uptoBulkAll (strs l : List (DataW H))
    rw [e, Lib.size_eq f]
    omega
theorem kW_bulk {H : Type} : ∀ (l : List Rc) (D : List (DataW H)), l.length = D.length → (∀ i (h1 : i < l.length) (h2 : i < D.length), fW (l[i]).f2 + 4 ≤ Rows.uptoBulk D[i]) → kW l ≤ Rows.uptoBulkAll D
  | [], D, _, _ => Nat.zero_le _
  | r :: l, d :: D, hl, h => by
    have h0 := h 0 (Nat.zero_lt_succ _) (Nat.zero_lt_succ _)
    have ih := kW_bulk l D (by simpa using hl) (fun i h1 h2 => h (i + 1) (Nat.succ_lt_succ h1) (Nat.succ_lt_succ h2))
    show fW r.f2 + 4 + kW l ≤ Rows.uptoBulk d + Rows.uptoBulkAll D
    have h0' : fW r.f2 + 4 ≤ Rows.uptoBulk d := h0
    omega
  | r :: l, [], hl, _ => by simp at hl

theorem C_of_rows {α : Type} (z : α) {kd : Kd α} {W : World} {a : Addr} {len : Nat} {Q : Nat → α → Prop} (hm : len ≤ 9223372036854775807)
    (h : ∀ i, i < len → ∃ (p : α) (c : List Value), kd.K W p c ∧ (∀ j u, c[j]? = some u → W.cell? (a.add (i * kd.sz + j)) = some u) ∧ Q i p) :
    ∃ l : List α, l.length = len ∧ Kd.C kd W (some a) len l ∧ ∀ i (hi : i < l.length), Q i l[i] := by
  classical
  let g : Nat → α := fun i => if h2 : i < len then (h i h2).choose else z
  have hg : ∀ i (hi : i < len), g i = (h i hi).choose := fun i hi => by simp [g, hi]
  refine ⟨(List.range len).map g, by simp, ⟨by simp, hm, fun _ => ⟨a, rfl, fun j p hj => ?_⟩⟩, fun i hi => ?_⟩
  · obtain ⟨hlt, rfl⟩ := List.getElem?_eq_some_iff.1 hj
    have hjl : j < len := by simpa using hlt
    have e : ((List.range len).map g)[j] = (h j hjl).choose := by simp [hg j hjl]
    obtain ⟨c, hK, hc, hQ⟩ := (h j hjl).choose_spec
    rw [e]
    exact ⟨c, kd.K_len hK, hK, hc⟩
  · have hil : i < len := by simpa using hi
    have e : ((List.range len).map g)[i] = (h i hil).choose := by simp [hg i hil]
    obtain ⟨c, hK, hc, hQ⟩ := (h i hil).choose_spec
    rw [e]
    exact hQ
section
variable {H : Type} {enc : TypeId × Value → H} {W : World}
set_option maxRecDepth 100000 in
theorem trod_strs {fuel : Nat} {cs : List Value} {x : DataW H × List MemPlace} (h : DataW.trod enc Tryd.prog W 0 (fun _ => true) true fuel 34 cs = some x) :
    ∃ A c, ∃ l : List ByteArray, cs = [.slice A l.length c] ∧ l.length ≤ c ∧ Kd.C Kd.string W A l.length l ∧ fW l + 1 ≤ Rows.uptoBulk x.1 := by
  rcases open_strings Tryd.underlying34 Tryd.underlying9 (by kernel_rfl) h with ⟨hcs, hx⟩ | ⟨a, len, cap, ss, hcs, _, hl, hm, hss, hd, hc, _⟩
  · rw [hx]
    exact ⟨none, 0, [], hcs, Nat.le_refl _, Kd.C_nil _ _, Nat.le_refl _⟩
  · have hsl : len ≤ ss.length := by rw [hss]; split <;> omega
    have hlen : (ss.take len).length = len := by rw [List.length_take]; omega
    have hr : RdS Kd.string W (.slice (some a) len cap) (ss.take len) := by
      refine rd_cells (kd := Kd.string) (fun s => [.string s]) (fun _ _ => rfl) hlen hl (Nat.le_trans hl (by simpa [maxLen] using hm)) (fun j hj i u hu => ?_)
      have hj2 : j < ss.length := by omega
      have hz : Kd.string.sz = 1 := rfl
      rw [hz, Nat.mul_one]
      match i, hu with
      | 0, hu =>
        cases hu
        have h := hc j hj2
        simpa [hj2] using h
    obtain ⟨A, c', e, h1, h2⟩ := hr
    rw [hlen] at e
    cases e
    refine ⟨some a, cap, ss.take len, by rw [hlen]; exact hcs, h1, h2, ?_⟩
    rw [hd]
    have := fW_bulk (H := H) (ss.take len)
    simp only [Rows.uptoBulk]
    omega
set_option maxRecDepth 100000 in
theorem trod_rec {fuel : Nat} {cs : List Value} {x : DataW H × List MemPlace} (h : DataW.trod enc Tryd.prog W 0 (fun _ => true) true fuel 48 cs = some x) :
    ∃ p : Rc, kRc.K W p cs ∧ fW p.f2 + 4 ≤ Rows.uptoBulk x.1 := by
  obtain ⟨y0, y1, y2, n, rfl, hlen, h0, h1, h2⟩ := Go.Deep.trod_struct3 Tryd.underlying48 h
  have c3 : Tryd.prog.cellsOf 48 = 3 := by kernel_rfl
  have cI : Tryd.prog.cellsOf 3 = 1 := by kernel_rfl
  have cS : Tryd.prog.cellsOf 34 = 1 := by kernel_rfl
  rw [c3] at hlen
  obtain ⟨v0, v1, v2, rfl⟩ : ∃ v0 v1 v2, cs = [v0, v1, v2] := by
    match cs, hlen with
    | [a, b, c], _ => exact ⟨a, b, c, rfl⟩
  simp [cI, cS] at h0 h1 h2
  obtain ⟨p0, q0, _⟩ := DataW.trod_int Tryd.underlying3 h0
  obtain ⟨p1, q1, _⟩ := DataW.trod_int Tryd.underlying3 h1
  obtain ⟨A, c, l, e, hc, hC, hb⟩ := trod_strs h2
  have e0 : v0 = .int .i64 p0 := by simpa using q0
  have e1 : v1 = .int .i64 p1 := by simpa using q1
  have e2 : v2 = .slice A l.length c := by simpa using e
  subst e0 e1 e2
  refine ⟨⟨p0, p1, l⟩, k48_mk W ⟨p0, p1, l⟩ hc hC, ?_⟩
  have b0 := bulk_one y0.1
  have b1 := bulk_one y1.1
  simp only [Rows.uptoBulk, Rows.uptoBulkAll]
  show fW l + 4 ≤ _
  omega
set_option maxRecDepth 100000 in
theorem open_K {a : Option Addr} {len cap : Nat} {d : DataW H} {ps : List MemPlace}
    (h : DataW.Trod enc Tryd.prog W 0 (fun _ => true) true 26 (.slice a len cap) d ps) : ∃ l : List Rc, RdS kRc W (.slice a len cap) l ∧ kW l ≤ Rows.uptoBulk d := by
  obtain ⟨fuel, hf⟩ := h
  rcases Go.Deep.open_slice Tryd.underlying26 hf with ⟨hcs, _⟩ | ⟨x, l, c, m, n, D, Pl, hcs, _, hl, hm, hmm, hx2, hx⟩
  · simp [Value.cells] at hcs
    obtain ⟨rfl, rfl, rfl⟩ := hcs
    exact ⟨[], ⟨none, 0, rfl, Nat.le_refl _, Kd.C_nil _ _⟩, Nat.zero_le _⟩
  · simp [Value.cells] at hcs
    obtain ⟨rfl, rfl, rfl⟩ := hcs
    have hlm : len ≤ m := by rw [hmm]; simpa using hl
    have c3 : Tryd.prog.cellsOf 48 = 3 := by kernel_rfl
    obtain ⟨L, hL, hC, hQ⟩ := C_of_rows z48 (kd := kRc) (W := W) (a := x) (len := len) (Q := fun i p => fW p.f2 + 4 ≤ Rows.uptoBulk (D i)) (Nat.le_trans hl (by simpa [maxLen] using hm)) (fun i hi => by
      obtain ⟨cs', h1, h2⟩ := hx i (by omega)
      rw [c3] at h1
      obtain ⟨_, hlen, hcell⟩ := World.cells?_some h1
      obtain ⟨p, hK, hb⟩ := trod_rec h2
      refine ⟨p, cs', hK, fun j u hu => ?_, hb⟩
      have e := hcell j (by have := (List.getElem?_eq_some_iff.1 hu).1; omega)
      rw [Go.Deep.add_add] at e
      have hs : kRc.sz = 3 := rfl
      rw [hs]
      exact e.trans hu)
    have hd : d = .slice ((List.range len).map D) ((List.range (m - len)).map fun j => D (len + j)) := congrArg Prod.fst hx2
    subst hL
    refine ⟨L, ⟨some x, cap, rfl, hl, hC⟩, ?_⟩
    have hk := kW_bulk L ((List.range L.length).map D) (by simp) (fun i h1 h2 => by
      have := hQ i h1
      simpa using this)
    rw [hd]
    simp only [Rows.uptoBulk]
    omega
end

end Go.Proofs.YtooehjbbphokbaaDoor
