/- NdOp, CkJ, CkS, CkK, CkL, CkM. -/
import Derived.Test.YtkipjalfgdfaiaaGreatDoorRows
import Derived.ChangeSlices
import Derived.Deep.DeepHandedRow
import Derived.Deep.SlicePairs
import Derived.SliceStrings
import Derived.ChangeSame
import Derived.Lay
import Derived.Maps.Own
import Derived.Maps.OwnSet
import Derived.Maps.OwnOps
import Derived.Maps.RangeWalk
import Derived.Deep.RegionHeld3
import Derived.Deep.DrawnRows
import Derived.Test.YtkipjalfgdfaiaaGreatDoorSD4
namespace Go.Proofs.YtkipjalfgdfaiaaGreatDoor
set_option linter.unusedVariables false
set_option linter.unusedSimpArgs false
open Go.ChangeShapes Go.WideShapes Go.ChangeAt Go.RowKit Go.Proofs.YtkipjalfgdfaiaaGreatDoorW.PrintWords Go.Proofs.YtkipjalfgdfaiaaGreatDoor.PTk

mutual
def weightN : Nd → Nat
  | ⟨_, _, _, _, _, nm, set, ks⟩ => 1 + nm.size + set.length + weightK ks
def weightK : List Nd → Nat
  | [] => 0
  | n :: ns => weightN n + weightK ns
end
theorem weightN_eq (n : Nd) : weightN n = 1 + n.f5.size + n.f6.length + weightK n.f7 := by cases n; rw [weightN]
theorem weightK_nil : weightK [] = 0 := by rw [weightK]
theorem weightK_cons (n : Nd) (ns : List Nd) : weightK (n :: ns) = weightN n + weightK ns := by rw [weightK]
theorem weightK_bulk {H : Type} : ∀ (l : List Nd) (D : List (DataW H)), l.length ≤ D.length → (∀ i (h1 : i < l.length) (h2 : i < D.length), weightN (l[i]) ≤ Rows.uptoBulk D[i]) → weightK l ≤ Rows.uptoBulkAll D
  | [], D, _, _ => by rw [weightK_nil]; exact Nat.zero_le _
  | r :: l, d :: D, hl, h => by
    have h0 := h 0 (Nat.zero_lt_succ _) (Nat.zero_lt_succ _)
    have ih := weightK_bulk l D (by simpa using hl) (fun i h1 h2 => h (i + 1) (Nat.succ_lt_succ h1) (Nat.succ_lt_succ h2))
    rw [weightK_cons]
    show weightN r + weightK l ≤ Rows.uptoBulk d + Rows.uptoBulkAll D
    have h0' : weightN r ≤ Rows.uptoBulk d := h0
    omega
  | r :: l, [], hl, _ => by simp at hl
theorem C_of_rowsN {α : Type} (z : α) {kd : Kd α} {W : World} {a : Addr} {len : Nat} {Q : Nat → α → Prop} (hm : len ≤ 9223372036854775807)
    (h : ∀ i, i < len → ∃ (p : α) (c : List Value), kd.K W p c ∧ (∀ j u, c[j]? = some u → W.cell? (a.add (i * kd.sz + j)) = some u) ∧ Q i p) :
    ∃ l : List α, l.length = len ∧ Kd.C kd W (some a) len l ∧ ∀ i (hi : i < l.length), Q i l[i] := by
  classical
  let g : Nat → α := fun i => if h2 : i < len then (h i h2).choose else z
  have hg : ∀ i (hi : i < len), g i = (h i hi).choose := fun i hi => by simp [g, hi]
  refine ⟨(List.range len).map g, by simp, ⟨by simp, hm, fun _ => ⟨a, rfl, fun j p hj => ?_⟩⟩, fun i hi => ?_⟩
  · obtain ⟨hlt, rfl⟩ := List.getElem?_eq_some_iff.1 hj
    have hjl : j < len := by simpa using hlt
    have e : ((List.range len).map g)[j] = (h j hjl).choose := by simp [hg j hjl]
    obtain ⟨c, hK, hc, hQ⟩ := (h j hjl).choose_spec
    rw [e]
    exact ⟨c, kd.K_len hK, hK, hc⟩
  · have hil : i < len := by simpa using hi
    have e : ((List.range len).map g)[i] = (h i hil).choose := by simp [hg i hil]
    obtain ⟨c, hK, hc, hQ⟩ := (h i hil).choose_spec
    rw [e]
    exact hQ
section
variable {H : Type} {enc : TypeId × Value → H} {W : World}
set_option maxRecDepth 100000 in
theorem trod_range {fuel : Nat} {cs : List Value} {x : DataW H × List MemPlace} (h : DataW.trod enc Tryz.prog W 0 (fun _ => true) true fuel 63 cs = some x) : ∃ p : S63, k63.K W p cs := by
  obtain ⟨y0, y1, n, rfl, hlen, h0, h1⟩ := Go.ChangeShapes.trod_struct2 Tryz.underlying63 h
  have c2 : Tryz.prog.cellsOf 63 = 2 := by kernel_rfl
  have cI : Tryz.prog.cellsOf 3 = 1 := by kernel_rfl
  rw [c2] at hlen
  obtain ⟨v0, v1, rfl⟩ : ∃ v0 v1, cs = [v0, v1] := by
    match cs, hlen with
    | [y0, y1], _ => exact ⟨y0, y1, rfl⟩
  simp [cI] at h0 h1
  obtain ⟨p0, q0, _⟩ := DataW.trod_int Tryz.underlying3 h0
  obtain ⟨p1, q1, _⟩ := DataW.trod_int Tryz.underlying3 h1
  have e0 : v0 = .int .i64 p0 := by simpa using q0
  have e1 : v1 = .int .i64 p1 := by simpa using q1
  subst e0 e1
  exact ⟨⟨p0, p1⟩, k63_mk W ⟨p0, p1⟩⟩
set_option maxRecDepth 100000 in
theorem trod_set {fuel : Nat} {cs : List Value} {x : DataW H × List MemPlace} (h : DataW.trod enc Tryz.prog W 0 (fun _ => true) true fuel 22 cs = some x) :
    ∃ A c, ∃ l : List S63, cs = [.slice A l.length c] ∧ l.length ≤ c ∧ Kd.C k63 W A l.length l ∧ l.length < Rows.uptoBulk x.1 := by
  rcases Go.Deep.open_slice Tryz.underlying22 h with ⟨hcs, _⟩ | ⟨a, l, c, m, n, D, Pl, hcs, _, hl, hm, hmm, hx2, hx⟩
  · exact ⟨none, 0, [], hcs, Nat.le_refl _, Kd.C_nil _ _, by have := bulk_one x.1; show 0 < _; omega⟩
  · have c2 : Tryz.prog.cellsOf 63 = 2 := by kernel_rfl
    have hlm : l ≤ m := by rw [hmm]; simpa using hl
    obtain ⟨L, hL, hC, hQ⟩ := C_of_rowsN z63 (kd := k63) (W := W) (a := a) (len := l) (Q := fun _ _ => True) (Nat.le_trans hl (by simpa [maxLen] using hm)) (fun i hi => by
      obtain ⟨cs', h1, h2⟩ := hx i (by omega)
      rw [c2] at h1
      obtain ⟨_, hlen, hcell⟩ := World.cells?_some h1
      obtain ⟨p, hK⟩ := trod_range h2
      refine ⟨p, cs', hK, fun j u hu => ?_, trivial⟩
      have e := hcell j (by have := (List.getElem?_eq_some_iff.1 hu).1; omega)
      rw [Go.Deep.add_add] at e
      have hs : k63.sz = 2 := rfl
      rw [hs]
      exact e.trans hu)
    have hd : x.1 = .slice ((List.range l).map D) ((List.range (m - l)).map fun j => D (l + j)) := congrArg Prod.fst hx2
    refine ⟨some a, c, L, by rw [hL]; exact hcs, by rw [hL]; exact hl, by rw [hL]; exact hC, ?_⟩
    have h := bulk_len ((List.range l).map D)
    rw [List.length_map, List.length_range] at h
    rw [hd, hL]
    simp only [Rows.uptoBulk]
    omega
set_option maxRecDepth 100000 in
set_option maxHeartbeats 1000000 in
/-- A node, with all below it. -/
theorem trod_node : ∀ (fuel : Nat) {cs : List Value} {x : DataW H × List MemPlace}, DataW.trod enc Tryz.prog W 0 (fun _ => true) true fuel 25 cs = some x → ∃ p : Nd, kN.K W p cs ∧ weightN p ≤ Rows.uptoBulk x.1 := by
  intro fuel
  induction fuel using Nat.strongRecOn with
  | _ fuel ih =>
  intro cs x h
  obtain ⟨xs, n, hfu, rfl, hlen, hxl, hf⟩ := DataW.trod_struct Tryz.underlying25 h
  have c8 : Tryz.prog.cellsOf 25 = 8 := by kernel_rfl
  have cI : Tryz.prog.cellsOf 3 = 1 := by kernel_rfl
  have cB : Tryz.prog.cellsOf 4 = 1 := by kernel_rfl
  have cS : Tryz.prog.cellsOf 9 = 1 := by kernel_rfl
  have cR : Tryz.prog.cellsOf 22 = 1 := by kernel_rfl
  have cN : Tryz.prog.cellsOf 23 = 1 := by kernel_rfl
  rw [c8] at hlen
  obtain ⟨v0, v1, v2, v3, v4, v5, v6, v7, rfl⟩ : ∃ v0 v1 v2 v3 v4 v5 v6 v7, cs = [v0, v1, v2, v3, v4, v5, v6, v7] := by
    match cs, hlen with
    | [y0, y1, y2, y3, y4, y5, y6, y7], _ => exact ⟨y0, y1, y2, y3, y4, y5, y6, y7, rfl⟩
  obtain ⟨x0, x1, x2, x3, x4, x5, x6, x7, rfl⟩ : ∃ x0 x1 x2 x3 x4 x5 x6 x7, xs = [x0, x1, x2, x3, x4, x5, x6, x7] := by
    match xs, hxl with
    | [y0, y1, y2, y3, y4, y5, y6, y7], _ => exact ⟨y0, y1, y2, y3, y4, y5, y6, y7, rfl⟩
  have h0 := hf 0 _ rfl
  have h1 := hf 1 _ rfl
  have h2 := hf 2 _ rfl
  have h3 := hf 3 _ rfl
  have h4 := hf 4 _ rfl
  have h5 := hf 5 _ rfl
  have h6 := hf 6 _ rfl
  have h7 := hf 7 _ rfl
  clear hf hxl hlen h
  simp [cI, cB, cS, cR, cN] at h0 h1 h2 h3 h4 h5 h6 h7
  obtain ⟨p0, q0, _⟩ := DataW.trod_int Tryz.underlying3 h0
  obtain ⟨p1, q1, _⟩ := DataW.trod_int Tryz.underlying3 h1
  obtain ⟨p2, q2, _⟩ := DataW.trod_int Tryz.underlying3 h2
  obtain ⟨p3, q3, _⟩ := DataW.trod_int Tryz.underlying3 h3
  obtain ⟨p4, q4, _⟩ := DataW.trod_bool Tryz.underlying4 h4
  obtain ⟨p5, q5, hx5, _⟩ := DataW.trod_string Tryz.underlying9 h5
  obtain ⟨A6, c6, l6, q6, hc6, hC6, hb6⟩ := trod_set h6
  have e0 : v0 = .int .i64 p0 := by simpa using q0
  have e1 : v1 = .int .i64 p1 := by simpa using q1
  have e2 : v2 = .int .i64 p2 := by simpa using q2
  have e3 : v3 = .int .i64 p3 := by simpa using q3
  have e4 : v4 = .bool p4 := by simpa using q4
  have e5 : v5 = .string p5 := by simpa using q5
  have e6 : v6 = .slice A6 l6.length c6 := by simpa using q6
  have h7' : ∃ A7 c7, ∃ l7 : List Nd, v7 = .slice A7 l7.length c7 ∧ l7.length ≤ c7 ∧ Kd.C kN W A7 l7.length l7 ∧ weightK l7 ≤ Rows.uptoBulk x7.1 := by
    rcases DataW.trod_slice Tryz.underlying23 h7 with ⟨hcs, _⟩ | ⟨a, len, cap, elems, rest, n2, hn2, hcs, hx, _, hl, hm, hel, hall, _, _⟩
    · have e : v7 = .slice none 0 0 := by simpa using hcs
      exact ⟨none, 0, [], e, Nat.le_refl _, Kd.C_nil _ _, by rw [weightK_nil]; exact Nat.zero_le _⟩
    · have e : v7 = .slice (some a) len cap := by simpa using hcs
      obtain ⟨L, hL, hC, hQ⟩ := C_of_rowsN z25 (kd := kN) (W := W) (a := a) (len := len) (Q := fun i p => ∀ hi : i < elems.length, weightN p ≤ Rows.uptoBulk (elems[i]).1) (Nat.le_trans hl (by simpa [maxLen] using hm)) (fun i hi => by
        have h8 := hall i hi
        rw [List.getElem?_eq_getElem (by omega), Option.bind_eq_some_iff] at h8
        obtain ⟨cs', h9, h10⟩ := h8
        rw [c8] at h9
        obtain ⟨_, hlen, hcell⟩ := World.cells?_some h9
        obtain ⟨p, hK, hw⟩ := ih n2 (by omega) h10
        refine ⟨p, cs', hK, fun j u hu => ?_, fun _ => hw⟩
        have e := hcell j (by have := (List.getElem?_eq_some_iff.1 hu).1; omega)
        rw [Go.Deep.add_add] at e
        have hs : kN.sz = 8 := rfl
        rw [hs]
        exact e.trans hu)
      refine ⟨some a, cap, L, by rw [e, hL], by omega, by rw [hL]; exact hC, ?_⟩
      have hx1 : x7.1 = .slice (elems.map (·.1)) (rest.map (·.1)) := congrArg Prod.fst hx
      rw [hx1]
      have hwk := weightK_bulk (H := H) L (elems.map (·.1)) (by rw [List.length_map]; omega) (fun i h1 h2 => by
        rw [List.getElem_map]
        exact hQ i h1 (by rw [List.length_map] at h2; exact h2))
      simp only [Rows.uptoBulk]
      omega
  obtain ⟨A7, c7, l7, e7, hc7, hC7, hb7⟩ := h7'
  subst e0 e1 e2 e3 e4 e5 e6 e7
  refine ⟨⟨p0, p1, p2, p3, p4, p5, l6, l7⟩, k25_mk W ⟨p0, p1, p2, p3, p4, p5, l6, l7⟩ hc6 hC6 hc7 hC7, ?_⟩
  rw [weightN_eq]
  have hb5 : Rows.uptoBulk x5.1 = p5.size + 1 := by
    rw [hx5]
    simp only [Rows.uptoBulk]
    rw [Array.length_toList]
    rfl
  simp only [List.map_cons, List.map_nil, Rows.uptoBulk, Rows.uptoBulkAll]
  have b0 := bulk_one x0.1
  omega
set_option maxRecDepth 100000 in
theorem open_Nd {v : Value} {base : Nat} {d : DataW H} {ps : List MemPlace} (hv : Value.okWide Tryz.prog W .any base 25 v) (h : DataW.Trod enc Tryz.prog W 0 (fun _ => true) true 25 v d ps) : ∃ n : Nd, RdN W n v ∧ weightN n ≤ Rows.uptoBulk d := by
  obtain ⟨cs, rfl, hcs⟩ := okWide_struct Tryz.underlying25 hv
  obtain ⟨fuel, hf⟩ := h
  obtain ⟨n, hK, hw⟩ := trod_node fuel hf
  obtain ⟨A6, c6, A7, c7, e, h6, g6, h7, g7⟩ := k25_open hK
  refine ⟨n, ⟨A6, c6, A7, c7, ?_, h6, g6, h7, g7⟩, hw⟩
  have e2 : cs.toList = [.int .i64 n.f0, .int .i64 n.f1, .int .i64 n.f2, .int .i64 n.f3, .bool n.f4, .string n.f5, .slice A6 n.f6.length c6, .slice A7 n.f7.length c7] := e
  exact congrArg Value.agg (Array.ext' e2)
end

end Go.Proofs.YtkipjalfgdfaiaaGreatDoor
namespace Go.Proofs.YtkipjalfgdfaiaaGreatDoor
set_option linter.unusedVariables false
set_option linter.unusedSimpArgs false
open Go.RowKit Go.Proofs.YtkipjalfgdfaiaaGreatDoorW.PrintWords Go.Proofs.YtkipjalfgdfaiaaGreatDoorW.PrintLast Go.Proofs.YtkipjalfgdfaiaaGreatDoorW.PrintMore Go.Proofs.YtkipjalfgdfaiaaGreatDoor.PTk

theorem weightK_mem {n : Nd} : ∀ {ns : List Nd}, n ∈ ns → weightN n ≤ weightK ns
  | x :: xs, h => by
    rw [weightK_cons]
    rcases List.mem_cons.1 h with rfl | h
    · omega
    · have := weightK_mem h; omega
theorem weightN_pos (n : Nd) : 1 ≤ weightN n := by rw [weightN_eq]; omega
theorem weightK_len : ∀ ns : List Nd, ns.length ≤ weightK ns
  | [] => Nat.zero_le _
  | x :: xs => by rw [weightK_cons, List.length_cons]; have := weightN_pos x; have := weightK_len xs; omega
theorem weight_kid {n k : Nd} {B : Nat} (h : weightN n ≤ B) (hk : k ∈ n.f7) : weightN k ≤ B := by have := weightK_mem hk; rw [weightN_eq] at h; omega
theorem weight_len {n : Nd} {B : Nat} (h : weightN n ≤ B) : n.f7.length ≤ B := by have := weightK_len n.f7; rw [weightN_eq] at h; omega
theorem weight_name {n : Nd} {B : Nat} (h : weightN n ≤ B) : n.f5.size ≤ B := by rw [weightN_eq] at h; omega
theorem TVars.max {w : World} {m : Int} (h : TVars w m) : MaxIs w m := h.mx
theorem class_any (b : ByteArray) (hal : AliasIs b) (m0 : Int) : ∀ (n : Nd) (deep : Nat) (w W : World) (v : Value), RdN w n v → Below w.heap.size w W → TVars w m0 → weightN n ≤ 2147483648 →
    Calls Tryz.prog 69 #[v, .int .i64 (deep : Int)] W (OkPan (classN (resolveL (rowsB b)) n deep) W) := by
  refine Nd.all ?_
  intro n ih deep w W v h hW hv hw
  have hvW := hv.stay hW
  rw [classN_eq]
  by_cases hk : n.f0 = 3 ∧ deep ≤ 50
  · obtain ⟨h0, h1⟩ := hk
    rw [show (n.f0 == 3) = true by rw [h0]; rfl, decide_eq_true h1, Bool.true_and, Bool.true_and]
    cases ho : onlyB n n.f1 0 0 n.f4 e0 n.f7.length with
    | false => exact class_o h deep W h0 h1 ho
    | true =>
      rw [Bool.true_and]
      by_cases h3 : n.f1 = 0
      · rw [if_pos h3]
        refine class_union _ h deep W hW h0 h1 ho h3 (weight_len hw) (fun r W' hb => point_any r W' m0 (hvW.stay hb)) ?_ ?_
        · intro k hk v W' hr hb
          exact propT_any b hal hr m0 W' (hvW.stay hb).max (by have := weight_name (weight_kid hw hk); omega)
        · intro k hk v W' hr hb
          exact ih k hk (deep + 1) w W' v hr (hW.trans (hb.mono hW.size)) hv (weight_kid hw hk)
      · rw [if_neg h3]
        by_cases h4 : 1 ≤ n.f1 ∧ n.f1 ≤ 3
        · rw [decide_eq_true h4.1, decide_eq_true h4.2, Bool.true_and, Bool.true_and]
          match hl : n.f7 with
          | [a, c] =>
            rw [sidesK_two]
            exact class_two h deep W hW a c hl h0 h1 ho h3 h4 _ _ (fun v W' hr hb => ih a (by rw [hl]; simp) deep w W' v hr hb hv (weight_kid hw (by rw [hl]; simp))) (fun v W' hr hb => ih c (by rw [hl]; simp) deep w W' v hr hb hv (weight_kid hw (by rw [hl]; simp)))
          | [] =>
            have : sidesK (resolveL (rowsB b)) [] deep = false := by rw [sidesK]; simp
            rw [this]
            exact class_m h deep W h0 h1 ho h3 (fun h => by rw [hl] at h; simp at h)
          | [x] =>
            have : sidesK (resolveL (rowsB b)) [x] deep = false := by rw [sidesK]; simp
            rw [this]
            exact class_m h deep W h0 h1 ho h3 (fun h => by rw [hl] at h; simp at h)
          | x :: y :: z :: t =>
            have : sidesK (resolveL (rowsB b)) (x :: y :: z :: t) deep = false := by rw [sidesK]; simp
            rw [this]
            exact class_m h deep W h0 h1 ho h3 (fun h => by rw [hl] at h; simp at h)
        · have e : (decide (1 ≤ n.f1) && decide (n.f1 ≤ 3) && sidesK (resolveL (rowsB b)) n.f7 deep) = false := by
            by_cases g : 1 ≤ n.f1
            · rw [decide_eq_false (show ¬ n.f1 ≤ 3 from fun h => h4 ⟨g, h⟩), Bool.and_false, Bool.false_and]
            · rw [decide_eq_false g, Bool.false_and, Bool.false_and]
          rw [e]
          exact class_m h deep W h0 h1 ho h3 (fun h => h4 ⟨h.1, h.2.1⟩)
  · have e : (n.f0 == 3 && decide (deep ≤ 50)) = false := by
      by_cases g : n.f0 = 3
      · rw [decide_eq_false (show ¬ deep ≤ 50 from fun h => hk ⟨g, h⟩), Bool.and_false]
      · rw [beq_eq_false_iff_ne.2 g, Bool.false_and]
    rw [e, Bool.false_and, Bool.false_and]
    exact class_k h deep W hk

end Go.Proofs.YtkipjalfgdfaiaaGreatDoor
namespace Go.Proofs.YtkipjalfgdfaiaaGreatDoor
set_option linter.unusedVariables false
set_option linter.unusedSimpArgs false
open Go.RowKit Go.Maps

/-- The types of a map from texts to bools. -/
structure STy (P : Program) (t k e : TypeId) : Prop where
  ht : P.underlying t = some (.map k e)
  hk : P.underlying k = some .string
  he : P.underlying e = some .bool
  hz : ∀ w, (zeroValue e).run P w = .ok (.bool false) w
def freshB (l : List ByteArray) (x : ByteArray) : Bool := l.all (fun y => decide (y ≠ x))
theorem freshB_iff {l : List ByteArray} {x : ByteArray} : freshB l x = true ↔ x ∉ l := by
  unfold freshB
  rw [List.all_eq_true]
  constructor
  · intro h hx; exact (of_decide_eq_true (h x hx)) rfl
  · intro h y hy; exact decide_eq_true (fun e => h (e ▸ hy))
abbrev litS (x : ByteArray) : Lit := .string x.data.toList
theorem litS_inj {x y : ByteArray} (h : litS x = litS y) : x = y := by
  unfold litS at h
  injection h with h
  exact ByteArray.ext (Array.ext' h)
theorem keyS {P : Program} {k : TypeId} (hk : P.underlying k = some .string) {x : ByteArray} (hx : x.size ≤ maxLen) : keyOf P k (.string x) = some (litS x) := by
  simp [keyOf, hk, mapKey, hx]
/-- D reads as the texts of l. -/
structure ReadS (D : DataW Unit) (l : List ByteArray) : Prop where
  isMap : IsMap D
  hit : ∀ x ∈ l, Maps.has D (litS x) = true ∧ ∀ zd, D.atKey (litS x) zd = .lit (.bool true)
  miss : ∀ x, x ∉ l → Maps.has D (litS x) = false
theorem ReadS.nil : ReadS (.map []) [] := ⟨isMap_empty, fun x h => absurd h (by simp), fun x _ => rfl⟩
theorem ReadS.put {D : DataW Unit} {l : List ByteArray} (h : ReadS D l) (x : ByteArray) : ReadS (D.put (litS x) (.lit (.bool true))) (x :: l) := by
  refine ⟨h.isMap.put _ _, fun y hy => ?_, fun y hy => ?_⟩
  · by_cases e : y = x
    · subst e
      exact ⟨has_put_same h.isMap (show WideAt.IsKeyLit (litS y) from trivial) _, fun zd => atKey_put_same h.isMap (show WideAt.IsKeyLit (litS y) from trivial) _ _⟩
    · have hne : litS y ≠ litS x := fun hh => e (litS_inj hh)
      obtain ⟨h1, h2⟩ := h.hit y ((List.mem_cons.1 hy).resolve_left e)
      exact ⟨by rw [has_put_other hne]; exact h1, fun zd => by rw [atKey_put_other hne]; exact h2 zd⟩
  · have hne : litS y ≠ litS x := fun hh => hy (by rw [litS_inj hh]; exact List.mem_cons_self)
    rw [has_put_other hne]
    exact h.miss y (fun hm => hy (List.mem_cons_of_mem _ hm))
/-- Block b is a map that reads as the texts of l, of at most n entries. -/
def SetF (P : Program) (k e : TypeId) (w : World) (b n : Nat) (l : List ByteArray) : Prop := ∃ D : DataW Unit, w.ownsMap P k (plainElem P e) b n D ∧ ReadS D l
section
variable {P : Program} {t k e : TypeId} {w w1 : World} {b n : Nat} {l : List ByteArray}
theorem SetF.lt (h : SetF P k e w b n l) : b < w.heap.size := by obtain ⟨D, h, _⟩ := h; exact h.lt
theorem SetF.move (h : SetF P k e w b n l) (hb : w1.heap[b]? = w.heap[b]?) : SetF P k e w1 b n l := by
  obtain ⟨D, ⟨es, clock, h1, h2, h3, h4⟩, h5⟩ := h
  exact ⟨D, ⟨es, clock, hb.trans h1, h2, h3, h4⟩, h5⟩
theorem SetF.mono (h : SetF P k e w b n l) {m : Nat} (hm : n ≤ m) : SetF P k e w b m l := by obtain ⟨D, h, h2⟩ := h; exact ⟨D, h.mono hm, h2⟩
theorem SetF.below (h : SetF P k e w b n l) (hb : Below w.heap.size w w1) : SetF P k e w1 b n l := h.move (hb.block b h.lt)
theorem SetF.made (P : Program) (k e : TypeId) (w : World) : SetF P k e (w.alloc (.map #[] 0)) w.heap.size 0 [] := ⟨_, World.ownsMap_made _ _ _ _, ReadS.nil⟩
theorem SetF.not_cells (h : SetF P k e w b n l) {g : Nat} {cs : Array Value} {u : TypeId} {fr : Nat × Nat} (hg : w.heap[g]? = some (.cells cs u fr)) : b ≠ g := by
  obtain ⟨D, ⟨es, clock, hb, _⟩, _⟩ := h
  rintro rfl
  rw [hb] at hg
  cases hg
theorem plainElem_bool_inv {P : Program} {e : TypeId} (he : P.underlying e = some .bool) {v : Value} {z : DataW Unit × List MemPlace} (h : plainElem P e v = some z) : ∃ c, v = .bool c ∧ z.1 = .lit (.bool c) := by
  cases v <;> simp [plainElem, he] at h
  exact ⟨_, rfl, by rw [← h]⟩
theorem SetF.run_lookup (T : STy P t k e) (h : SetF P k e w b n l) (x : ByteArray) (hx : x.size ≤ maxLen) : (Instr.lookup t (.map (some b)) (.string x) false).run P w = .ok (.bool (!freshB l x)) w := by
  obtain ⟨D, h, hF⟩ := h
  obtain ⟨v, ps, hrun, hv⟩ := h.lookup (string_keyed T.hk) T.ht (T.hz w) (plainElem_bool T.he false) (keyS T.hk hx)
  obtain ⟨c, rfl, hc⟩ := plainElem_bool_inv T.he hv
  have : (!freshB l x) = c := by
    cases hf : freshB l x with
    | true =>
      have h2 := atKey_of_not_has (hF.miss x (freshB_iff.1 hf)) (.lit (.bool false))
      have h3 := h2.symm.trans hc
      cases h3; rfl
    | false =>
      have hm : x ∈ l := by
        rcases Classical.em (x ∈ l) with h | h
        · exact h
        · rw [freshB_iff.2 h] at hf; cases hf
      have h2 := (hF.hit x hm).2 (.lit (.bool false))
      have h3 := h2.symm.trans hc
      cases h3; rfl
  rw [this]
  exact hrun
theorem SetF.run_update (T : STy P t k e) (h : SetF P k e w b n l) (hn : n < maxLen) (x : ByteArray) (hx : x.size ≤ maxLen) : ∃ w', (Instr.mapUpdate t (.map (some b)) (.string x) (.bool true)).run P w = .ok () w' ∧ SetF P k e w' b (n + 1) (x :: l) ∧ But (· = b) w w' := by
  obtain ⟨D, h, hF⟩ := h
  obtain ⟨w', hrun, h1, h2⟩ := h.update (string_keyed T.hk) T.ht hn (keyS T.hk hx) (plainElem_bool T.he true)
  exact ⟨w', hrun, ⟨_, h1, hF.put x⟩, h2.os, h2.tape, h2.output, h2.size, fun k hk hne => h2.block k hk (fun e => hne (Option.some.inj e))⟩
end
theorem sTy : STy Tryz.prog 68 9 4 := ⟨Tryz.underlying68, Tryz.underlying9, Tryz.underlying4, fun w => by kernel_rfl⟩

end Go.Proofs.YtkipjalfgdfaiaaGreatDoor
namespace Go.Proofs.YtkipjalfgdfaiaaGreatDoor
set_option linter.unusedVariables false
set_option linter.unusedSimpArgs false
open Go.RowKit Go.Proofs.YtkipjalfgdfaiaaGreatDoorW.PrintWords Go.Proofs.YtkipjalfgdfaiaaGreatDoorW.PrintLast Go.Proofs.YtkipjalfgdfaiaaGreatDoorW.PrintMore Go.Proofs.YtkipjalfgdfaiaaGreatDoor.PTk

attribute [local go_sem ↓] Go.wp_at_zero Go.wp_at_succ
theorem must_eq (b : Bool) (w : World) : Calls Tryz.prog 50 #[.bool b] w fun e w' => e = (if b = true then .returned (.tuple #[]) else Pan) ∧ w' = w := by
  cases b with
  | true =>
    go_enter Tryz.func50, Tryz.ntmps50
    go_wp2_with fail
    go_end0
    exact ⟨rfl, rfl⟩
  | false =>
    go_enter Tryz.func50, Tryz.ntmps50
    go_wp2_with fail
    exact ⟨rfl, rfl, rfl⟩
/-- A call that gives up. -/
theorem dies_ {P : Program} {ops : Array Oper} {Q : Exit → Act → World → Prop} {oi : Oper} {N : Option Tmp} {a : Act} {w : World} {K : Act → World → Prop} {f : FuncId} {fn : Func} {ars : Array Operand} {ts : Array TypeId} (hf : P.funcs[f]? = some fn) (hname : (fn.name == "runtime.NumGoroutine") = false) (hb : fn.body.isSome = true) (args : Array Value)
    (hw : Region.wanted oi (yielded ops a.tmps) = true) (hN : oi.dst = N) (hop : oi.op = .call { callee := .value (.func f), args := ars, argTypes := ts }) (hargs : ars.map a.eval = args)
    (h : Calls P f args w fun e w' => ∃ ch, e = .panicked ch ∧ Q (.panic ch) a w') : if Region.wanted oi (yielded ops a.tmps) = true then Oper.wp P oi a w K Q else K (a.put N undef) w := by
  rw [if_pos hw]
  have he := enters_ hf hname hb args w
  have hrun : (execOp a.eval oi).run P w = .ok (.enter f args) w := by
    unfold execOp
    simp [hop, resolve, Deferred.ofValue, invoke, Act.eval, hargs, he]
  unfold Oper.wp
  rw [hrun, Oper.upon_enter]
  refine h.mono fun e w'' hh => ?_
  obtain ⟨v, rfl, hk⟩ := hh
  exact hk
/-- The check's variable g and its map mb: the groups that have begun and their names. -/
structure Chk (w : World) (g mb : Nat) (c : Gs) : Prop where
  blk : w.heap[g]? = some (.cells #[.int .i64 (c.1 : Int), .map (some mb)] 70 (0, 0))
  set : SetF Tryz.prog 9 4 w mb c.1 c.2
  few : c.1 ≤ 20
abbrev Ex (g mb : Nat) : Nat → Prop := fun k => k = g ∨ k = mb
section
variable {w w' : World} {g mb : Nat} {c : Gs}
theorem Chk.ne (h : Chk w g mb c) : mb ≠ g := h.set.not_cells h.blk
theorem Chk.glt (h : Chk w g mb c) : g < w.heap.size := (Array.getElem?_eq_some_iff.1 h.blk).1
theorem Chk.mlt (h : Chk w g mb c) : mb < w.heap.size := h.set.lt
theorem Chk.below (h : Chk w g mb c) (hb : Below w.heap.size w w') : Chk w' g mb c := ⟨(hb.block g h.glt).trans h.blk, h.set.below hb, h.few⟩
end
/-- What a call that may give up hands back. -/
def RetCk (r : Option Gs) (w : World) (g mb : Nat) (e : Ending) (w' : World) : Prop := But (Ex g mb) w w' ∧ match r with
  | some c => e = .returned (.tuple #[]) ∧ Chk w' g mb c
  | none => e = Pan
theorem RetCk.dead {w w' : World} {g mb : Nat} (hb : But (Ex g mb) w w') : RetCk none w g mb Pan w' := ⟨hb, rfl⟩
theorem RetCk.fine {w w' : World} {g mb : Nat} {c : Gs} (hb : But (Ex g mb) w w') (h : Chk w' g mb c) : RetCk (some c) w g mb (.returned (.tuple #[])) w' := ⟨hb, rfl, h⟩
theorem size_empty (s : ByteArray) : (s.toList.isEmpty) = decide (s = e0) := by
  by_cases h : s = e0
  · subst h; rw [decide_eq_true rfl, ByteArray.toList_eq]; rfl
  · rw [decide_eq_false h]
    cases hl : s.toList with
    | nil => exact absurd (ba_inj (hl.trans (show ([] : List UInt8) = e0.toList by rw [ByteArray.toList_eq]))) h
    | cons a l => rfl
set_option maxHeartbeats 4000000 in
set_option maxRecDepth 100000 in
theorem group_any {n : Nd} {w0 w : World} {v : Value} (h : RdN w0 n v) (g mb : Nat) (c : Gs) (hK : Chk w g mb c) (hs : n.f5.size ≤ 2147483648) :
    Calls Tryz.prog 72 #[.pointer (some ⟨g, 0, none⟩), v] w (RetCk (groupS n.f2 n.f5 c) w g mb) := by
  have HM := Aside0.mk must_any
  obtain ⟨A6, c6, A7, c7, rfl, -, -, -, -⟩ := h
  have HE := Aside0.mk (size_empty n.f5)
  have hgl := hK.glt
  have k0 := rowc hK.blk 0 _ rfl
  have k1 := rowc hK.blk 1 _ rfl
  have HKK := Aside0.mk hK
  have hc20 : (c.1 : Int) ≤ 20 := by have := hK.few; omega
  by_cases ha : n.f2 = 0
  · have e0' : (n.f2 == 0) = true := by rw [ha]; rfl
    by_cases hn : n.f5 = e0
    · have he : n.f5.toList.isEmpty = true := by rw [size_empty]; exact decide_eq_true hn
      have HG : Aside0 (groupS n.f2 n.f5 c = some c) := ⟨by unfold groupS; rw [if_pos ha, if_pos hn]⟩
      rw [HG.out]
      clear ha hn hK k0 k1
      go_enter Tryz.func72, Tryz.ntmps72
      go_wp2_with fail
      refine (HM.out true _).mono ?_
      rintro e w1 ⟨rfl, hb1⟩
      have HB1 := Aside0.mk (below_box hb1)
      clear hb1
      go_wp2_with fail
      go_end0
      exact RetCk.fine (But.of_below HB1.out) (HKK.out.below HB1.out)
    · have he : n.f5.toList.isEmpty = false := by rw [size_empty]; exact decide_eq_false hn
      have HG : Aside0 (groupS n.f2 n.f5 c = none) := ⟨by unfold groupS; rw [if_pos ha, if_neg hn]⟩
      rw [HG.out]
      clear ha hn hK k0 k1
      go_enter Tryz.func72, Tryz.ntmps72
      go_wp2_with fail
      refine (HM.out false _).mono ?_
      rintro e w1 ⟨rfl, hb1⟩
      have HB1 := Aside0.mk (below_box hb1)
      clear hb1
      go_wp2_with fail
      exact ⟨rfl, RetCk.dead (But.of_below HB1.out)⟩
  · have e0' : (n.f2 == 0) = false := by rw [beq_eq_false_iff_ne]; exact ha
    have HQ := Aside0.mk must_eq
    have fz : w.frozen? ⟨g, 0, none⟩ = false := Lib.frozen_of_heap hK.blk 0
    have hsz : (w.setCell ⟨g, 0, none⟩ (.int .i64 ((c.1 : Int) + 1))).heap.size = w.heap.size := by simp
    have hb1 : But (Ex g mb) w ((w.setCell ⟨g, 0, none⟩ (.int .i64 ((c.1 : Int) + 1))).alloc (.cells #[.int .i64 n.f0, .int .i64 n.f1, .int .i64 n.f2, .int .i64 n.f3, .bool n.f4, .string n.f5, .slice A6 n.f6.length c6, .slice A7 n.f7.length c7] 25)) := But.alloc (But.set (But.refl _ _) g 0 (.inl rfl) _) _
    have hg1 : ((w.setCell ⟨g, 0, none⟩ (.int .i64 ((c.1 : Int) + 1))).alloc (.cells #[.int .i64 n.f0, .int .i64 n.f1, .int .i64 n.f2, .int .i64 n.f3, .bool n.f4, .string n.f5, .slice A6 n.f6.length c6, .slice A7 n.f7.length c7] 25)).heap[g]? = some (.cells #[.int .i64 ((c.1 : Int) + 1), .map (some mb)] 70 (0, 0)) := by
      have h2 := heap_setCell_same _ g 0 _ _ (.int .i64 ((c.1 : Int) + 1)) hK.blk
      exact (heap_alloc_old _ _ (by rw [hsz]; exact hgl)).trans h2
    have hx1 : ((w.setCell ⟨g, 0, none⟩ (.int .i64 ((c.1 : Int) + 1))).alloc (.cells #[.int .i64 n.f0, .int .i64 n.f1, .int .i64 n.f2, .int .i64 n.f3, .bool n.f4, .string n.f5, .slice A6 n.f6.length c6, .slice A7 n.f7.length c7] 25)).heap[w.heap.size]? = some (.cells #[.int .i64 n.f0, .int .i64 n.f1, .int .i64 n.f2, .int .i64 n.f3, .bool n.f4, .string n.f5, .slice A6 n.f6.length c6, .slice A7 n.f7.length c7] 25 (0, 0)) := by
      have h3 := heap_alloc_new (w.setCell ⟨g, 0, none⟩ (.int .i64 ((c.1 : Int) + 1))) (.cells #[.int .i64 n.f0, .int .i64 n.f1, .int .i64 n.f2, .int .i64 n.f3, .bool n.f4, .string n.f5, .slice A6 n.f6.length c6, .slice A7 n.f7.length c7] 25)
      rw [hsz] at h3
      exact h3
    have hs1 : SetF Tryz.prog 9 4 ((w.setCell ⟨g, 0, none⟩ (.int .i64 ((c.1 : Int) + 1))).alloc (.cells #[.int .i64 n.f0, .int .i64 n.f1, .int .i64 n.f2, .int .i64 n.f3, .bool n.f4, .string n.f5, .slice A6 n.f6.length c6, .slice A7 n.f7.length c7] 25)) mb c.1 c.2 := hK.set.move ((heap_alloc_old _ _ (by rw [hsz]; exact hK.mlt)).trans (Below.heap_setCell w ⟨g, 0, none⟩ _ mb hK.ne))
    have HB1 := Aside0.mk hb1
    have HG1 := Aside0.mk hg1
    have HX1 := Aside0.mk hx1
    have HS1 := Aside0.mk hs1
    have hne := hK.ne
    clear hb1 hg1 hx1 hs1
    go_enter Tryz.func72, Tryz.ntmps72
    go_wp2_with fail
    obtain ⟨W1, hW1⟩ : ∃ W1, ((w.setCell ⟨g, 0, none⟩ (.int .i64 ((c.1 : Int) + 1))).alloc (.cells #[.int .i64 n.f0, .int .i64 n.f1, .int .i64 n.f2, .int .i64 n.f3, .bool n.f4, .string n.f5, .slice A6 n.f6.length c6, .slice A7 n.f7.length c7] 25)) = W1 := ⟨_, rfl⟩
    have hb1 := HB1.out
    have hg1 := HG1.out
    have hx1 := HX1.out
    have hs1 := HS1.out
    clear HB1 HG1 HX1 HS1
    rw [hW1] at hb1 hg1 hx1 hs1 ⊢
    clear hW1
    have HB1 := Aside0.mk hb1
    have HG1 := Aside0.mk hg1
    have HX1 := Aside0.mk hx1
    have HS1 := Aside0.mk hs1
    clear hs1
    have g0 := rowc hg1 0 _ rfl
    have g1 := rowc hg1 1 _ rfl
    have x2 := rowc hx1 2 _ rfl
    have x5 := rowc hx1 5 _ rfl
    clear hb1 hg1 hx1 k0 k1 fz
    by_cases hm : n.f2 = (c.1 : Int) + 1
    rotate_left
    · have e1 : (n.f2 == (c.1 : Int) + 1) = false := by rw [beq_eq_false_iff_ne]; exact hm
      have HG : groupS n.f2 n.f5 c = none := by unfold groupS; rw [if_neg ha, if_neg (fun h => hm h.1)]
      rw [HG]
      clear hm HG
      refine start_ (n := 13) (S := fun w' => w'.cell? ⟨w.heap.size, 2, none⟩ = some (.int .i64 n.f2) ∧ w'.cell? ⟨g, 0, none⟩ = some (.int .i64 ((c.1 : Int) + 1))) (ds := [12]) #[false, false, false, false, false, false, false, false, false, false, false, false, false] (by kernel_rfl) rfl rfl ⟨x2, g0⟩ (fun hHeld => ?_)
      refine pure_ (i := 0) (N := some 18) (v := ?_) (a' := ?_) #[true, false, false, false, false, false, false, false, false, false, false, false, false] rfl rfl (by kernel_rfl) (fun _ _ _ h => h) (Or.inl ⟨by rfl, ?_⟩) ?_ ?_
      rotate_left
      · intro w'
        go_simp
        with_reducible rfl
      rotate_left
      · simp only [Act.put, List.setIfInBounds_toArray, List.set_cons_zero, List.set_cons_succ, i64_w, i32_w]
        rfl
      refine take_ (i := 1) (N := some 19) (v := ?_) (a' := ?_) #[true, true, false, false, false, false, false, false, false, false, false, false, false] rfl rfl (by kernel_rfl) (fun _ _ _ h => h) (Or.inl ⟨by rfl, ?_⟩) hHeld ?_ ?_
      rotate_left
      · rintro w' ⟨s0, s1⟩
        go_simp
        with_reducible rfl
      rotate_left
      · simp only [Act.put, List.setIfInBounds_toArray, List.set_cons_zero, List.set_cons_succ, i64_w, i32_w]
        rfl
      refine pure_ (i := 2) (N := some 20) (v := ?_) (a' := ?_) #[true, true, true, false, false, false, false, false, false, false, false, false, false] rfl rfl (by kernel_rfl) (fun _ _ _ h => h) (Or.inl ⟨by rfl, ?_⟩) ?_ ?_
      rotate_left
      · intro w'
        go_simp
        with_reducible rfl
      rotate_left
      · simp only [Act.put, List.setIfInBounds_toArray, List.set_cons_zero, List.set_cons_succ, i64_w, i32_w]
        rfl
      refine pure_ (i := 3) (N := some 21) (v := ?_) (a' := ?_) #[true, true, true, true, false, false, false, false, false, false, false, false, false] rfl rfl (by kernel_rfl) (fun _ _ _ h => h) (Or.inl ⟨by rfl, ?_⟩) ?_ ?_
      rotate_left
      · intro w'
        go_simp
        with_reducible rfl
      rotate_left
      · simp only [Act.put, List.setIfInBounds_toArray, List.set_cons_zero, List.set_cons_succ, i64_w, i32_w]
        rfl
      refine pure_ (i := 4) (N := some 22) (v := ?_) (a' := ?_) #[true, true, true, true, true, false, false, false, false, false, false, false, false] rfl rfl (by kernel_rfl) (fun _ _ _ h => h) (Or.inl ⟨by rfl, ?_⟩) ?_ ?_
      rotate_left
      · intro w'
        go_simp
        with_reducible rfl
      rotate_left
      · simp only [Act.put, List.setIfInBounds_toArray, List.set_cons_zero, List.set_cons_succ, i64_w, i32_w]
        rfl
      refine take_ (i := 5) (N := some 23) (v := ?_) (a' := ?_) #[true, true, true, true, true, true, false, false, false, false, false, false, false] rfl rfl (by kernel_rfl) (fun _ _ _ h => h) (Or.inl ⟨by rfl, ?_⟩) hHeld ?_ ?_
      rotate_left
      · rintro w' ⟨s0, s1⟩
        go_simp
        with_reducible rfl
      rotate_left
      · simp only [Act.put, List.setIfInBounds_toArray, List.set_cons_zero, List.set_cons_succ, i64_w, i32_w]
        rfl
      refine pure_ (i := 6) (N := some 24) (v := ?_) (a' := ?_) #[true, true, true, true, true, true, true, false, false, false, false, false, false] rfl rfl (by kernel_rfl) (fun _ _ _ h => h) (Or.inl ⟨by rfl, ?_⟩) ?_ ?_
      rotate_left
      · intro w'
        go_simp
        with_reducible rfl
      rotate_left
      · simp only [Act.put, List.setIfInBounds_toArray, List.set_cons_zero, List.set_cons_succ, i64_w, i32_w]
        rfl
      refine pure_ (i := 7) (N := some 25) (v := ?_) (a' := ?_) #[true, true, true, true, true, true, true, true, false, false, false, false, false] rfl rfl (by kernel_rfl) (fun _ _ _ h => h) (Or.inl ⟨by rfl, ?_⟩) ?_ ?_
      rotate_left
      · intro w'
        go_simp
        with_reducible rfl
      rotate_left
      · simp only [Act.put, List.setIfInBounds_toArray, List.set_cons_zero, List.set_cons_succ, i64_w, i32_w]
        rfl
      refine pure_ (i := 8) (N := some 26) (v := undef) (a' := ?_) #[true, true, true, true, true, true, true, true, true, false, false, false, false] rfl rfl (by kernel_rfl) (fun _ _ _ h => h) (Or.inr ⟨by rfl, rfl⟩) ?_ ?_
      rotate_left
      · simp only [Act.put, List.setIfInBounds_toArray, List.set_cons_zero, List.set_cons_succ, i64_w, i32_w]
        rfl
      refine pure_ (i := 9) (N := some 27) (v := undef) (a' := ?_) #[true, true, true, true, true, true, true, true, true, true, false, false, false] rfl rfl (by kernel_rfl) (fun _ _ _ h => h) (Or.inr ⟨by rfl, rfl⟩) ?_ ?_
      rotate_left
      · simp only [Act.put, List.setIfInBounds_toArray, List.set_cons_zero, List.set_cons_succ, i64_w, i32_w]
        rfl
      refine pure_ (i := 10) (N := some 28) (v := undef) (a' := ?_) #[true, true, true, true, true, true, true, true, true, true, true, false, false] rfl rfl (by kernel_rfl) (fun _ _ _ h => h) (Or.inr ⟨by rfl, rfl⟩) ?_ ?_
      rotate_left
      · simp only [Act.put, List.setIfInBounds_toArray, List.set_cons_zero, List.set_cons_succ, i64_w, i32_w]
        rfl
      refine pure_ (i := 11) (N := some 29) (v := ?_) (a' := ?_) #[true, true, true, true, true, true, true, true, true, true, true, true, false] rfl rfl (by kernel_rfl) (fun _ _ _ h => h) (Or.inl ⟨by rfl, ?_⟩) ?_ ?_
      rotate_left
      · intro w'
        go_simp
        with_reducible rfl
      rotate_left
      · simp only [Act.put, List.setIfInBounds_toArray, List.set_cons_zero, List.set_cons_succ, i64_w, i32_w]
        rfl
      refine last_ (i := 12) (N := some 30) #[true, true, true, true, true, true, true, true, true, true, true, true, true] rfl rfl (by kernel_rfl) (by decide) (fun K hK => ?_)
      refine dies_ Tryz.func50 (by kernel_rfl) rfl #[.bool false] (by rfl) rfl rfl (by simp only [List.map_toArray, List.map_cons, List.map_nil]; rfl) ?_
      refine (HQ.out false _).mono ?_
      rintro e w' ⟨rfl, rfl⟩
      exact ⟨_, rfl, rfl, RetCk.dead (HB1.out.trans (But.of_below (below_drew (Below.refl _ _))))⟩
    have e1 : (n.f2 == (c.1 : Int) + 1) = true := by rw [beq_iff_eq]; exact hm
    by_cases hm2 : n.f2 ≤ 20
    rotate_left
    · have HG : groupS n.f2 n.f5 c = none := by unfold groupS; rw [if_neg ha, if_neg (fun h => hm2 h.2)]
      rw [HG]
      clear hm HG
      refine start_ (n := 13) (S := fun w' => w'.cell? ⟨w.heap.size, 2, none⟩ = some (.int .i64 n.f2) ∧ w'.cell? ⟨g, 0, none⟩ = some (.int .i64 ((c.1 : Int) + 1))) (ds := [12]) #[false, false, false, false, false, false, false, false, false, false, false, false, false] (by kernel_rfl) rfl rfl ⟨x2, g0⟩ (fun hHeld => ?_)
      refine pure_ (i := 0) (N := some 18) (v := ?_) (a' := ?_) #[true, false, false, false, false, false, false, false, false, false, false, false, false] rfl rfl (by kernel_rfl) (fun _ _ _ h => h) (Or.inl ⟨by rfl, ?_⟩) ?_ ?_
      rotate_left
      · intro w'
        go_simp
        with_reducible rfl
      rotate_left
      · simp only [Act.put, List.setIfInBounds_toArray, List.set_cons_zero, List.set_cons_succ, i64_w, i32_w]
        rfl
      refine take_ (i := 1) (N := some 19) (v := ?_) (a' := ?_) #[true, true, false, false, false, false, false, false, false, false, false, false, false] rfl rfl (by kernel_rfl) (fun _ _ _ h => h) (Or.inl ⟨by rfl, ?_⟩) hHeld ?_ ?_
      rotate_left
      · rintro w' ⟨s0, s1⟩
        go_simp
        with_reducible rfl
      rotate_left
      · simp only [Act.put, List.setIfInBounds_toArray, List.set_cons_zero, List.set_cons_succ, i64_w, i32_w]
        rfl
      refine pure_ (i := 2) (N := some 20) (v := ?_) (a' := ?_) #[true, true, true, false, false, false, false, false, false, false, false, false, false] rfl rfl (by kernel_rfl) (fun _ _ _ h => h) (Or.inl ⟨by rfl, ?_⟩) ?_ ?_
      rotate_left
      · intro w'
        go_simp
        with_reducible rfl
      rotate_left
      · simp only [Act.put, List.setIfInBounds_toArray, List.set_cons_zero, List.set_cons_succ, i64_w, i32_w]
        rfl
      refine pure_ (i := 3) (N := some 21) (v := ?_) (a' := ?_) #[true, true, true, true, false, false, false, false, false, false, false, false, false] rfl rfl (by kernel_rfl) (fun _ _ _ h => h) (Or.inl ⟨by rfl, ?_⟩) ?_ ?_
      rotate_left
      · intro w'
        go_simp
        with_reducible rfl
      rotate_left
      · simp only [Act.put, List.setIfInBounds_toArray, List.set_cons_zero, List.set_cons_succ, i64_w, i32_w]
        rfl
      refine pure_ (i := 4) (N := some 22) (v := ?_) (a' := ?_) #[true, true, true, true, true, false, false, false, false, false, false, false, false] rfl rfl (by kernel_rfl) (fun _ _ _ h => h) (Or.inl ⟨by rfl, ?_⟩) ?_ ?_
      rotate_left
      · intro w'
        go_simp
        with_reducible rfl
      rotate_left
      · simp only [Act.put, List.setIfInBounds_toArray, List.set_cons_zero, List.set_cons_succ, i64_w, i32_w]
        rfl
      refine take_ (i := 5) (N := some 23) (v := ?_) (a' := ?_) #[true, true, true, true, true, true, false, false, false, false, false, false, false] rfl rfl (by kernel_rfl) (fun _ _ _ h => h) (Or.inl ⟨by rfl, ?_⟩) hHeld ?_ ?_
      rotate_left
      · rintro w' ⟨s0, s1⟩
        go_simp
        with_reducible rfl
      rotate_left
      · simp only [Act.put, List.setIfInBounds_toArray, List.set_cons_zero, List.set_cons_succ, i64_w, i32_w]
        rfl
      refine pure_ (i := 6) (N := some 24) (v := ?_) (a' := ?_) #[true, true, true, true, true, true, true, false, false, false, false, false, false] rfl rfl (by kernel_rfl) (fun _ _ _ h => h) (Or.inl ⟨by rfl, ?_⟩) ?_ ?_
      rotate_left
      · intro w'
        go_simp
        with_reducible rfl
      rotate_left
      · simp only [Act.put, List.setIfInBounds_toArray, List.set_cons_zero, List.set_cons_succ, i64_w, i32_w]
        rfl
      refine pure_ (i := 7) (N := some 25) (v := ?_) (a' := ?_) #[true, true, true, true, true, true, true, true, false, false, false, false, false] rfl rfl (by kernel_rfl) (fun _ _ _ h => h) (Or.inl ⟨by rfl, ?_⟩) ?_ ?_
      rotate_left
      · intro w'
        go_simp
        with_reducible rfl
      rotate_left
      · simp only [Act.put, List.setIfInBounds_toArray, List.set_cons_zero, List.set_cons_succ, i64_w, i32_w]
        rfl
      refine pure_ (i := 8) (N := some 26) (v := ?_) (a' := ?_) #[true, true, true, true, true, true, true, true, true, false, false, false, false] rfl rfl (by kernel_rfl) (fun _ _ _ h => h) (Or.inl ⟨by rfl, ?_⟩) ?_ ?_
      rotate_left
      · intro w'
        go_simp
        with_reducible rfl
      rotate_left
      · simp only [Act.put, List.setIfInBounds_toArray, List.set_cons_zero, List.set_cons_succ, i64_w, i32_w]
        rfl
      refine take_ (i := 9) (N := some 27) (v := ?_) (a' := ?_) #[true, true, true, true, true, true, true, true, true, true, false, false, false] rfl rfl (by kernel_rfl) (fun _ _ _ h => h) (Or.inl ⟨by rfl, ?_⟩) hHeld ?_ ?_
      rotate_left
      · rintro w' ⟨s0, s1⟩
        go_simp
        with_reducible rfl
      rotate_left
      · simp only [Act.put, List.setIfInBounds_toArray, List.set_cons_zero, List.set_cons_succ, i64_w, i32_w]
        rfl
      refine pure_ (i := 10) (N := some 28) (v := ?_) (a' := ?_) #[true, true, true, true, true, true, true, true, true, true, true, false, false] rfl rfl (by kernel_rfl) (fun _ _ _ h => h) (Or.inl ⟨by rfl, ?_⟩) ?_ ?_
      rotate_left
      · intro w'
        go_simp
        with_reducible rfl
      rotate_left
      · simp only [Act.put, List.setIfInBounds_toArray, List.set_cons_zero, List.set_cons_succ, i64_w, i32_w]
        rfl
      refine pure_ (i := 11) (N := some 29) (v := ?_) (a' := ?_) #[true, true, true, true, true, true, true, true, true, true, true, true, false] rfl rfl (by kernel_rfl) (fun _ _ _ h => h) (Or.inl ⟨by rfl, ?_⟩) ?_ ?_
      rotate_left
      · intro w'
        go_simp
        with_reducible rfl
      rotate_left
      · simp only [Act.put, List.setIfInBounds_toArray, List.set_cons_zero, List.set_cons_succ, i64_w, i32_w]
        rfl
      refine last_ (i := 12) (N := some 30) #[true, true, true, true, true, true, true, true, true, true, true, true, true] rfl rfl (by kernel_rfl) (by decide) (fun K hK => ?_)
      refine dies_ Tryz.func50 (by kernel_rfl) rfl #[.bool false] (by rfl) rfl rfl (by simp only [List.map_toArray, List.map_cons, List.map_nil]; rfl) ?_
      refine (HQ.out false _).mono ?_
      rintro e w' ⟨rfl, rfl⟩
      exact ⟨_, rfl, rfl, RetCk.dead (HB1.out.trans (But.of_below (below_drew (Below.refl _ _))))⟩
    have HG : Aside0 (groupS n.f2 n.f5 c = if n.f5 = e0 then some (c.1 + 1, c.2) else if nameB (bytesOf n.f5) = true ∧ c.2.all (fun x => decide (x ≠ n.f5)) = true then some (c.1 + 1, n.f5 :: c.2) else none) := ⟨by unfold groupS; rw [if_neg ha, if_pos ⟨hm, hm2⟩]⟩
    have hc19 : c.1 + 1 ≤ 20 := by omega
    clear hm
    refine start_ (n := 13) (S := fun w' => w'.cell? ⟨w.heap.size, 2, none⟩ = some (.int .i64 n.f2) ∧ w'.cell? ⟨g, 0, none⟩ = some (.int .i64 ((c.1 : Int) + 1))) (ds := [12]) #[false, false, false, false, false, false, false, false, false, false, false, false, false] (by kernel_rfl) rfl rfl ⟨x2, g0⟩ (fun hHeld => ?_)
    refine pure_ (i := 0) (N := some 18) (v := ?_) (a' := ?_) #[true, false, false, false, false, false, false, false, false, false, false, false, false] rfl rfl (by kernel_rfl) (fun _ _ _ h => h) (Or.inl ⟨by rfl, ?_⟩) ?_ ?_
    rotate_left
    · intro w'
      go_simp
      with_reducible rfl
    rotate_left
    · simp only [Act.put, List.setIfInBounds_toArray, List.set_cons_zero, List.set_cons_succ, i64_w, i32_w]
      rfl
    refine take_ (i := 1) (N := some 19) (v := ?_) (a' := ?_) #[true, true, false, false, false, false, false, false, false, false, false, false, false] rfl rfl (by kernel_rfl) (fun _ _ _ h => h) (Or.inl ⟨by rfl, ?_⟩) hHeld ?_ ?_
    rotate_left
    · rintro w' ⟨s0, s1⟩
      go_simp
      with_reducible rfl
    rotate_left
    · simp only [Act.put, List.setIfInBounds_toArray, List.set_cons_zero, List.set_cons_succ, i64_w, i32_w]
      rfl
    refine pure_ (i := 2) (N := some 20) (v := ?_) (a' := ?_) #[true, true, true, false, false, false, false, false, false, false, false, false, false] rfl rfl (by kernel_rfl) (fun _ _ _ h => h) (Or.inl ⟨by rfl, ?_⟩) ?_ ?_
    rotate_left
    · intro w'
      go_simp
      with_reducible rfl
    rotate_left
    · simp only [Act.put, List.setIfInBounds_toArray, List.set_cons_zero, List.set_cons_succ, i64_w, i32_w]
      rfl
    refine pure_ (i := 3) (N := some 21) (v := ?_) (a' := ?_) #[true, true, true, true, false, false, false, false, false, false, false, false, false] rfl rfl (by kernel_rfl) (fun _ _ _ h => h) (Or.inl ⟨by rfl, ?_⟩) ?_ ?_
    rotate_left
    · intro w'
      go_simp
      with_reducible rfl
    rotate_left
    · simp only [Act.put, List.setIfInBounds_toArray, List.set_cons_zero, List.set_cons_succ, i64_w, i32_w]
      rfl
    refine pure_ (i := 4) (N := some 22) (v := ?_) (a' := ?_) #[true, true, true, true, true, false, false, false, false, false, false, false, false] rfl rfl (by kernel_rfl) (fun _ _ _ h => h) (Or.inl ⟨by rfl, ?_⟩) ?_ ?_
    rotate_left
    · intro w'
      go_simp
      with_reducible rfl
    rotate_left
    · simp only [Act.put, List.setIfInBounds_toArray, List.set_cons_zero, List.set_cons_succ, i64_w, i32_w]
      rfl
    refine take_ (i := 5) (N := some 23) (v := ?_) (a' := ?_) #[true, true, true, true, true, true, false, false, false, false, false, false, false] rfl rfl (by kernel_rfl) (fun _ _ _ h => h) (Or.inl ⟨by rfl, ?_⟩) hHeld ?_ ?_
    rotate_left
    · rintro w' ⟨s0, s1⟩
      go_simp
      with_reducible rfl
    rotate_left
    · simp only [Act.put, List.setIfInBounds_toArray, List.set_cons_zero, List.set_cons_succ, i64_w, i32_w]
      rfl
    refine pure_ (i := 6) (N := some 24) (v := ?_) (a' := ?_) #[true, true, true, true, true, true, true, false, false, false, false, false, false] rfl rfl (by kernel_rfl) (fun _ _ _ h => h) (Or.inl ⟨by rfl, ?_⟩) ?_ ?_
    rotate_left
    · intro w'
      go_simp
      with_reducible rfl
    rotate_left
    · simp only [Act.put, List.setIfInBounds_toArray, List.set_cons_zero, List.set_cons_succ, i64_w, i32_w]
      rfl
    refine pure_ (i := 7) (N := some 25) (v := ?_) (a' := ?_) #[true, true, true, true, true, true, true, true, false, false, false, false, false] rfl rfl (by kernel_rfl) (fun _ _ _ h => h) (Or.inl ⟨by rfl, ?_⟩) ?_ ?_
    rotate_left
    · intro w'
      go_simp
      with_reducible rfl
    rotate_left
    · simp only [Act.put, List.setIfInBounds_toArray, List.set_cons_zero, List.set_cons_succ, i64_w, i32_w]
      rfl
    refine pure_ (i := 8) (N := some 26) (v := ?_) (a' := ?_) #[true, true, true, true, true, true, true, true, true, false, false, false, false] rfl rfl (by kernel_rfl) (fun _ _ _ h => h) (Or.inl ⟨by rfl, ?_⟩) ?_ ?_
    rotate_left
    · intro w'
      go_simp
      with_reducible rfl
    rotate_left
    · simp only [Act.put, List.setIfInBounds_toArray, List.set_cons_zero, List.set_cons_succ, i64_w, i32_w]
      rfl
    refine take_ (i := 9) (N := some 27) (v := ?_) (a' := ?_) #[true, true, true, true, true, true, true, true, true, true, false, false, false] rfl rfl (by kernel_rfl) (fun _ _ _ h => h) (Or.inl ⟨by rfl, ?_⟩) hHeld ?_ ?_
    rotate_left
    · rintro w' ⟨s0, s1⟩
      go_simp
      with_reducible rfl
    rotate_left
    · simp only [Act.put, List.setIfInBounds_toArray, List.set_cons_zero, List.set_cons_succ, i64_w, i32_w]
      rfl
    refine pure_ (i := 10) (N := some 28) (v := ?_) (a' := ?_) #[true, true, true, true, true, true, true, true, true, true, true, false, false] rfl rfl (by kernel_rfl) (fun _ _ _ h => h) (Or.inl ⟨by rfl, ?_⟩) ?_ ?_
    rotate_left
    · intro w'
      go_simp
      with_reducible rfl
    rotate_left
    · simp only [Act.put, List.setIfInBounds_toArray, List.set_cons_zero, List.set_cons_succ, i64_w, i32_w]
      rfl
    refine pure_ (i := 11) (N := some 29) (v := ?_) (a' := ?_) #[true, true, true, true, true, true, true, true, true, true, true, true, false] rfl rfl (by kernel_rfl) (fun _ _ _ h => h) (Or.inl ⟨by rfl, ?_⟩) ?_ ?_
    rotate_left
    · intro w'
      go_simp
      with_reducible rfl
    rotate_left
    · simp only [Act.put, List.setIfInBounds_toArray, List.set_cons_zero, List.set_cons_succ, i64_w, i32_w]
      rfl
    refine last_ (i := 12) (N := some 30) #[true, true, true, true, true, true, true, true, true, true, true, true, true] rfl rfl (by kernel_rfl) (by decide) (fun K hK => ?_)
    refine goes_ Tryz.func50 (by kernel_rfl) rfl #[.bool true] (by rfl) rfl rfl (by simp only [List.map_toArray, List.map_cons, List.map_nil]; rfl) ?_
    refine (HQ.out true _).mono ?_
    rintro e w' ⟨rfl, hw'⟩
    rw [hw']
    clear hw' w'
    refine ⟨_, rfl, ?_⟩
    refine hK.out _ _ ?_
    clear hK K
    refine norm_ (a' := ?_) ?_ ?_
    rotate_left
    · show Act.put _ (some 30) _ = _
      simp only [Act.put, List.setIfInBounds_toArray, List.set_cons_zero, List.set_cons_succ, i64_w, i32_w]
      rfl
    refine done_ (by kernel_rfl) ?_
    clear hHeld e1 g0 g1 x2 x5
    have hb2 : But (Ex g mb) w W1.drew := HB1.out.trans (But.of_below (below_drew (Below.refl _ _)))
    have hg2 : W1.drew.heap[g]? = _ := HG1.out
    have hx2 : W1.drew.heap[w.heap.size]? = _ := HX1.out
    have hs2 : SetF Tryz.prog 9 4 W1.drew mb c.1 c.2 := HS1.out.move rfl
    clear HB1 HG1 HX1 HS1
    obtain ⟨W2, hW2⟩ : ∃ W2, W1.drew = W2 := ⟨_, rfl⟩
    rw [hW2] at hb2 hg2 hx2 hs2 ⊢
    clear hW2 W1
    have HB2 := Aside0.mk hb2
    have HG2 := Aside0.mk hg2
    have HX2 := Aside0.mk hx2
    have HS2 := Aside0.mk hs2
    have g0 := rowc hg2 0 _ rfl
    have g1 := rowc hg2 1 _ rfl
    have x5 := rowc hx2 5 _ rfl
    clear hb2 hg2 hx2 hs2
    by_cases hn : n.f5 = e0
    · have he : n.f5.toList.isEmpty = true := by rw [size_empty]; exact decide_eq_true hn
      have HR : groupS n.f2 n.f5 c = some (c.1 + 1, c.2) := by rw [HG.out, if_pos hn]
      have HRR := Aside0.mk HR
      clear hn HR
      go_wp2_with fail
      go_end0
      rw [HRR.out]
      exact RetCk.fine (c := (c.1 + 1, c.2)) HB2.out ⟨by first | exact HG2.out | (rw [HG2.out]; rfl), HS2.out.mono (Nat.le_succ _), hc19⟩
    have he : n.f5.toList.isEmpty = false := by rw [size_empty]; exact decide_eq_false hn
    have HG3 : Aside0 (groupS n.f2 n.f5 c = if nameB (bytesOf n.f5) = true ∧ freshB c.2 n.f5 = true then some (c.1 + 1, n.f5 :: c.2) else none) := ⟨by rw [HG.out, if_neg hn]; rfl⟩
    clear hn HG
    have HN := Aside0.mk (fine_any n.f5)
    have hlk : ∀ W', SetF Tryz.prog 9 4 W' mb c.1 c.2 → (Instr.lookup 68 (.map (some mb)) (.string n.f5) false).run Tryz.prog W' = .ok (.bool (!freshB c.2 n.f5)) W' := fun W' h => h.run_lookup sTy n.f5 (by unfold maxLen; omega)
    obtain ⟨F, hF⟩ : ∃ F, nameB (bytesOf n.f5) = F := ⟨_, rfl⟩
    obtain ⟨Z, hZ⟩ : ∃ Z, freshB c.2 n.f5 = Z := ⟨_, rfl⟩
    rw [hF] at HN HG3
    rw [hZ] at hlk HG3
    have HLK := Aside0.mk hlk
    have HSZ2 := Aside0.mk (show w.heap.size < W2.heap.size from (Array.getElem?_eq_some_iff.1 HX2.out).1)
    have HGL2 := Aside0.mk (show g < W2.heap.size from (Array.getElem?_eq_some_iff.1 HG2.out).1)
    clear hF hlk hZ
    go_wp2_with fail
    cases F with
    | false =>
      have HR : groupS n.f2 n.f5 c = none := by rw [HG3.out, if_neg (fun h => by cases h.1)]
      rw [HR]
      clear HR
      cases Z with
      | false =>
        refine start_ (n := 14) (S := fun w' => w'.cell? ⟨w.heap.size, 5, none⟩ = some (.string n.f5) ∧ w'.cell? ⟨g, 1, none⟩ = some (.map (some mb)) ∧ (Instr.lookup 68 (.map (some mb)) (.string n.f5) false).run Tryz.prog w' = .ok (.bool (!false)) w') (ds := [13]) #[false, false, false, false, false, false, false, false, false, false, false, false, false, false] (by kernel_rfl) rfl rfl ⟨x5, g1, HLK.out _ (HS2.out.move rfl)⟩ (fun hHeld => ?_)
        refine pure_ (i := 0) (N := some 34) (v := ?_) (a' := ?_) #[true, false, false, false, false, false, false, false, false, false, false, false, false, false] rfl rfl (by kernel_rfl) (fun _ _ _ h => h) (Or.inl ⟨by rfl, ?_⟩) ?_ ?_
        rotate_left
        · intro w'
          go_simp
          with_reducible rfl
        rotate_left
        · simp only [Act.put, List.setIfInBounds_toArray, List.set_cons_zero, List.set_cons_succ, i64_w, i32_w]
          rfl
        refine take_ (i := 1) (N := some 35) (v := ?_) (a' := ?_) #[true, true, false, false, false, false, false, false, false, false, false, false, false, false] rfl rfl (by kernel_rfl) (fun _ _ _ h => h) (Or.inl ⟨by rfl, ?_⟩) hHeld ?_ ?_
        rotate_left
        · rintro w' ⟨s0, s1, s2⟩
          go_simp
          with_reducible rfl
        rotate_left
        · simp only [Act.put, List.setIfInBounds_toArray, List.set_cons_zero, List.set_cons_succ, i64_w, i32_w]
          rfl
        refine one_ (i := 2) (N := some 36) #[true, true, true, false, false, false, false, false, false, false, false, false, false, false] rfl rfl (by kernel_rfl) (by decide) (fun K hK => ?_)
        refine goes_ Tryz.func103 (by kernel_rfl) rfl #[.string n.f5] (by rfl) rfl rfl (by simp only [List.map_toArray, List.map_cons, List.map_nil]; rfl) ?_
        refine (HN.out _).mono ?_
        rintro e w3 ⟨rfl, hb3⟩
        refine ⟨_, rfl, ?_⟩
        have hb3 : Below W2.heap.size W2 w3 := below_to (below_drew (Below.refl _ _)) hb3
        have HB3 := Aside0.mk (HB2.out.trans (But.of_below hb3))
        have HS3 := Aside0.mk (HS2.out.below hb3)
        have hg3 := (hb3.block g HGL2.out).trans HG2.out
        have hx3 := (hb3.block _ HSZ2.out).trans HX2.out
        have y1 := rowc hg3 1 _ rfl
        have y5 := rowc hx3 5 _ rfl
        have HG3b := Aside0.mk hg3
        clear hb3 hg3 hx3
        refine hK.out _ _ ⟨y5, y1, HLK.out _ HS3.out⟩ (fun hHeld => ?_)
        clear hK K
        refine norm_ (a' := ?_) ?_ ?_
        rotate_left
        · show Act.put _ (some 36) _ = _
          simp only [Act.put, List.setIfInBounds_toArray, List.set_cons_zero, List.set_cons_succ, i64_w, i32_w]
          rfl
        refine pure_ (i := 3) (N := some 37) (v := ?_) (a' := ?_) #[true, true, true, true, false, false, false, false, false, false, false, false, false, false] rfl rfl (by kernel_rfl) (fun _ _ _ h => h) (Or.inl ⟨by rfl, ?_⟩) ?_ ?_
        rotate_left
        · intro w'
          go_simp
          with_reducible rfl
        rotate_left
        · simp only [Act.put, List.setIfInBounds_toArray, List.set_cons_zero, List.set_cons_succ, i64_w, i32_w]
          rfl
        refine pure_ (i := 4) (N := some 38) (v := undef) (a' := ?_) #[true, true, true, true, true, false, false, false, false, false, false, false, false, false] rfl rfl (by kernel_rfl) (fun _ _ _ h => h) (Or.inr ⟨by rfl, rfl⟩) ?_ ?_
        rotate_left
        · simp only [Act.put, List.setIfInBounds_toArray, List.set_cons_zero, List.set_cons_succ, i64_w, i32_w]
          rfl
        refine pure_ (i := 5) (N := some 39) (v := undef) (a' := ?_) #[true, true, true, true, true, true, false, false, false, false, false, false, false, false] rfl rfl (by kernel_rfl) (fun _ _ _ h => h) (Or.inr ⟨by rfl, rfl⟩) ?_ ?_
        rotate_left
        · simp only [Act.put, List.setIfInBounds_toArray, List.set_cons_zero, List.set_cons_succ, i64_w, i32_w]
          rfl
        refine pure_ (i := 6) (N := some 40) (v := undef) (a' := ?_) #[true, true, true, true, true, true, true, false, false, false, false, false, false, false] rfl rfl (by kernel_rfl) (fun _ _ _ h => h) (Or.inr ⟨by rfl, rfl⟩) ?_ ?_
        rotate_left
        · simp only [Act.put, List.setIfInBounds_toArray, List.set_cons_zero, List.set_cons_succ, i64_w, i32_w]
          rfl
        refine pure_ (i := 7) (N := some 41) (v := undef) (a' := ?_) #[true, true, true, true, true, true, true, true, false, false, false, false, false, false] rfl rfl (by kernel_rfl) (fun _ _ _ h => h) (Or.inr ⟨by rfl, rfl⟩) ?_ ?_
        rotate_left
        · simp only [Act.put, List.setIfInBounds_toArray, List.set_cons_zero, List.set_cons_succ, i64_w, i32_w]
          rfl
        refine pure_ (i := 8) (N := some 42) (v := undef) (a' := ?_) #[true, true, true, true, true, true, true, true, true, false, false, false, false, false] rfl rfl (by kernel_rfl) (fun _ _ _ h => h) (Or.inr ⟨by rfl, rfl⟩) ?_ ?_
        rotate_left
        · simp only [Act.put, List.setIfInBounds_toArray, List.set_cons_zero, List.set_cons_succ, i64_w, i32_w]
          rfl
        refine pure_ (i := 9) (N := some 43) (v := undef) (a' := ?_) #[true, true, true, true, true, true, true, true, true, true, false, false, false, false] rfl rfl (by kernel_rfl) (fun _ _ _ h => h) (Or.inr ⟨by rfl, rfl⟩) ?_ ?_
        rotate_left
        · simp only [Act.put, List.setIfInBounds_toArray, List.set_cons_zero, List.set_cons_succ, i64_w, i32_w]
          rfl
        refine pure_ (i := 10) (N := some 44) (v := undef) (a' := ?_) #[true, true, true, true, true, true, true, true, true, true, true, false, false, false] rfl rfl (by kernel_rfl) (fun _ _ _ h => h) (Or.inr ⟨by rfl, rfl⟩) ?_ ?_
        rotate_left
        · simp only [Act.put, List.setIfInBounds_toArray, List.set_cons_zero, List.set_cons_succ, i64_w, i32_w]
          rfl
        refine pure_ (i := 11) (N := some 45) (v := undef) (a' := ?_) #[true, true, true, true, true, true, true, true, true, true, true, true, false, false] rfl rfl (by kernel_rfl) (fun _ _ _ h => h) (Or.inr ⟨by rfl, rfl⟩) ?_ ?_
        rotate_left
        · simp only [Act.put, List.setIfInBounds_toArray, List.set_cons_zero, List.set_cons_succ, i64_w, i32_w]
          rfl
        refine pure_ (i := 12) (N := some 46) (v := ?_) (a' := ?_) #[true, true, true, true, true, true, true, true, true, true, true, true, true, false] rfl rfl (by kernel_rfl) (fun _ _ _ h => h) (Or.inl ⟨by rfl, ?_⟩) ?_ ?_
        rotate_left
        · intro w'
          go_simp
          with_reducible rfl
        rotate_left
        · simp only [Act.put, List.setIfInBounds_toArray, List.set_cons_zero, List.set_cons_succ, i64_w, i32_w]
          rfl
        refine last_ (i := 13) (N := some 47) #[true, true, true, true, true, true, true, true, true, true, true, true, true, true] rfl rfl (by kernel_rfl) (by decide) (fun K hK => ?_)
        refine dies_ Tryz.func50 (by kernel_rfl) rfl #[.bool false] (by rfl) rfl rfl (by simp only [List.map_toArray, List.map_cons, List.map_nil]; rfl) ?_
        refine (HQ.out false _).mono ?_
        rintro e w' ⟨rfl, rfl⟩
        exact ⟨_, rfl, rfl, RetCk.dead HB3.out⟩
      | true =>
        refine start_ (n := 14) (S := fun w' => w'.cell? ⟨w.heap.size, 5, none⟩ = some (.string n.f5) ∧ w'.cell? ⟨g, 1, none⟩ = some (.map (some mb)) ∧ (Instr.lookup 68 (.map (some mb)) (.string n.f5) false).run Tryz.prog w' = .ok (.bool (!true)) w') (ds := [13]) #[false, false, false, false, false, false, false, false, false, false, false, false, false, false] (by kernel_rfl) rfl rfl ⟨x5, g1, HLK.out _ (HS2.out.move rfl)⟩ (fun hHeld => ?_)
        refine pure_ (i := 0) (N := some 34) (v := ?_) (a' := ?_) #[true, false, false, false, false, false, false, false, false, false, false, false, false, false] rfl rfl (by kernel_rfl) (fun _ _ _ h => h) (Or.inl ⟨by rfl, ?_⟩) ?_ ?_
        rotate_left
        · intro w'
          go_simp
          with_reducible rfl
        rotate_left
        · simp only [Act.put, List.setIfInBounds_toArray, List.set_cons_zero, List.set_cons_succ, i64_w, i32_w]
          rfl
        refine take_ (i := 1) (N := some 35) (v := ?_) (a' := ?_) #[true, true, false, false, false, false, false, false, false, false, false, false, false, false] rfl rfl (by kernel_rfl) (fun _ _ _ h => h) (Or.inl ⟨by rfl, ?_⟩) hHeld ?_ ?_
        rotate_left
        · rintro w' ⟨s0, s1, s2⟩
          go_simp
          with_reducible rfl
        rotate_left
        · simp only [Act.put, List.setIfInBounds_toArray, List.set_cons_zero, List.set_cons_succ, i64_w, i32_w]
          rfl
        refine one_ (i := 2) (N := some 36) #[true, true, true, false, false, false, false, false, false, false, false, false, false, false] rfl rfl (by kernel_rfl) (by decide) (fun K hK => ?_)
        refine goes_ Tryz.func103 (by kernel_rfl) rfl #[.string n.f5] (by rfl) rfl rfl (by simp only [List.map_toArray, List.map_cons, List.map_nil]; rfl) ?_
        refine (HN.out _).mono ?_
        rintro e w3 ⟨rfl, hb3⟩
        refine ⟨_, rfl, ?_⟩
        have hb3 : Below W2.heap.size W2 w3 := below_to (below_drew (Below.refl _ _)) hb3
        have HB3 := Aside0.mk (HB2.out.trans (But.of_below hb3))
        have HS3 := Aside0.mk (HS2.out.below hb3)
        have hg3 := (hb3.block g HGL2.out).trans HG2.out
        have hx3 := (hb3.block _ HSZ2.out).trans HX2.out
        have y1 := rowc hg3 1 _ rfl
        have y5 := rowc hx3 5 _ rfl
        have HG3b := Aside0.mk hg3
        clear hb3 hg3 hx3
        refine hK.out _ _ ⟨y5, y1, HLK.out _ HS3.out⟩ (fun hHeld => ?_)
        clear hK K
        refine norm_ (a' := ?_) ?_ ?_
        rotate_left
        · show Act.put _ (some 36) _ = _
          simp only [Act.put, List.setIfInBounds_toArray, List.set_cons_zero, List.set_cons_succ, i64_w, i32_w]
          rfl
        refine pure_ (i := 3) (N := some 37) (v := ?_) (a' := ?_) #[true, true, true, true, false, false, false, false, false, false, false, false, false, false] rfl rfl (by kernel_rfl) (fun _ _ _ h => h) (Or.inl ⟨by rfl, ?_⟩) ?_ ?_
        rotate_left
        · intro w'
          go_simp
          with_reducible rfl
        rotate_left
        · simp only [Act.put, List.setIfInBounds_toArray, List.set_cons_zero, List.set_cons_succ, i64_w, i32_w]
          rfl
        refine pure_ (i := 4) (N := some 38) (v := undef) (a' := ?_) #[true, true, true, true, true, false, false, false, false, false, false, false, false, false] rfl rfl (by kernel_rfl) (fun _ _ _ h => h) (Or.inr ⟨by rfl, rfl⟩) ?_ ?_
        rotate_left
        · simp only [Act.put, List.setIfInBounds_toArray, List.set_cons_zero, List.set_cons_succ, i64_w, i32_w]
          rfl
        refine pure_ (i := 5) (N := some 39) (v := undef) (a' := ?_) #[true, true, true, true, true, true, false, false, false, false, false, false, false, false] rfl rfl (by kernel_rfl) (fun _ _ _ h => h) (Or.inr ⟨by rfl, rfl⟩) ?_ ?_
        rotate_left
        · simp only [Act.put, List.setIfInBounds_toArray, List.set_cons_zero, List.set_cons_succ, i64_w, i32_w]
          rfl
        refine pure_ (i := 6) (N := some 40) (v := undef) (a' := ?_) #[true, true, true, true, true, true, true, false, false, false, false, false, false, false] rfl rfl (by kernel_rfl) (fun _ _ _ h => h) (Or.inr ⟨by rfl, rfl⟩) ?_ ?_
        rotate_left
        · simp only [Act.put, List.setIfInBounds_toArray, List.set_cons_zero, List.set_cons_succ, i64_w, i32_w]
          rfl
        refine pure_ (i := 7) (N := some 41) (v := undef) (a' := ?_) #[true, true, true, true, true, true, true, true, false, false, false, false, false, false] rfl rfl (by kernel_rfl) (fun _ _ _ h => h) (Or.inr ⟨by rfl, rfl⟩) ?_ ?_
        rotate_left
        · simp only [Act.put, List.setIfInBounds_toArray, List.set_cons_zero, List.set_cons_succ, i64_w, i32_w]
          rfl
        refine pure_ (i := 8) (N := some 42) (v := undef) (a' := ?_) #[true, true, true, true, true, true, true, true, true, false, false, false, false, false] rfl rfl (by kernel_rfl) (fun _ _ _ h => h) (Or.inr ⟨by rfl, rfl⟩) ?_ ?_
        rotate_left
        · simp only [Act.put, List.setIfInBounds_toArray, List.set_cons_zero, List.set_cons_succ, i64_w, i32_w]
          rfl
        refine pure_ (i := 9) (N := some 43) (v := undef) (a' := ?_) #[true, true, true, true, true, true, true, true, true, true, false, false, false, false] rfl rfl (by kernel_rfl) (fun _ _ _ h => h) (Or.inr ⟨by rfl, rfl⟩) ?_ ?_
        rotate_left
        · simp only [Act.put, List.setIfInBounds_toArray, List.set_cons_zero, List.set_cons_succ, i64_w, i32_w]
          rfl
        refine pure_ (i := 10) (N := some 44) (v := undef) (a' := ?_) #[true, true, true, true, true, true, true, true, true, true, true, false, false, false] rfl rfl (by kernel_rfl) (fun _ _ _ h => h) (Or.inr ⟨by rfl, rfl⟩) ?_ ?_
        rotate_left
        · simp only [Act.put, List.setIfInBounds_toArray, List.set_cons_zero, List.set_cons_succ, i64_w, i32_w]
          rfl
        refine pure_ (i := 11) (N := some 45) (v := undef) (a' := ?_) #[true, true, true, true, true, true, true, true, true, true, true, true, false, false] rfl rfl (by kernel_rfl) (fun _ _ _ h => h) (Or.inr ⟨by rfl, rfl⟩) ?_ ?_
        rotate_left
        · simp only [Act.put, List.setIfInBounds_toArray, List.set_cons_zero, List.set_cons_succ, i64_w, i32_w]
          rfl
        refine pure_ (i := 12) (N := some 46) (v := ?_) (a' := ?_) #[true, true, true, true, true, true, true, true, true, true, true, true, true, false] rfl rfl (by kernel_rfl) (fun _ _ _ h => h) (Or.inl ⟨by rfl, ?_⟩) ?_ ?_
        rotate_left
        · intro w'
          go_simp
          with_reducible rfl
        rotate_left
        · simp only [Act.put, List.setIfInBounds_toArray, List.set_cons_zero, List.set_cons_succ, i64_w, i32_w]
          rfl
        refine last_ (i := 13) (N := some 47) #[true, true, true, true, true, true, true, true, true, true, true, true, true, true] rfl rfl (by kernel_rfl) (by decide) (fun K hK => ?_)
        refine dies_ Tryz.func50 (by kernel_rfl) rfl #[.bool false] (by rfl) rfl rfl (by simp only [List.map_toArray, List.map_cons, List.map_nil]; rfl) ?_
        refine (HQ.out false _).mono ?_
        rintro e w' ⟨rfl, rfl⟩
        exact ⟨_, rfl, rfl, RetCk.dead HB3.out⟩
    | true =>
      cases Z with
      | false =>
        have HR : groupS n.f2 n.f5 c = none := by rw [HG3.out, if_neg (fun h => by cases h.2)]
        rw [HR]
        clear HR
        refine start_ (n := 14) (S := fun w' => w'.cell? ⟨w.heap.size, 5, none⟩ = some (.string n.f5) ∧ w'.cell? ⟨g, 1, none⟩ = some (.map (some mb)) ∧ (Instr.lookup 68 (.map (some mb)) (.string n.f5) false).run Tryz.prog w' = .ok (.bool (!false)) w') (ds := [13]) #[false, false, false, false, false, false, false, false, false, false, false, false, false, false] (by kernel_rfl) rfl rfl ⟨x5, g1, HLK.out _ (HS2.out.move rfl)⟩ (fun hHeld => ?_)
        refine pure_ (i := 0) (N := some 34) (v := ?_) (a' := ?_) #[true, false, false, false, false, false, false, false, false, false, false, false, false, false] rfl rfl (by kernel_rfl) (fun _ _ _ h => h) (Or.inl ⟨by rfl, ?_⟩) ?_ ?_
        rotate_left
        · intro w'
          go_simp
          with_reducible rfl
        rotate_left
        · simp only [Act.put, List.setIfInBounds_toArray, List.set_cons_zero, List.set_cons_succ, i64_w, i32_w]
          rfl
        refine take_ (i := 1) (N := some 35) (v := ?_) (a' := ?_) #[true, true, false, false, false, false, false, false, false, false, false, false, false, false] rfl rfl (by kernel_rfl) (fun _ _ _ h => h) (Or.inl ⟨by rfl, ?_⟩) hHeld ?_ ?_
        rotate_left
        · rintro w' ⟨s0, s1, s2⟩
          go_simp
          with_reducible rfl
        rotate_left
        · simp only [Act.put, List.setIfInBounds_toArray, List.set_cons_zero, List.set_cons_succ, i64_w, i32_w]
          rfl
        refine one_ (i := 2) (N := some 36) #[true, true, true, false, false, false, false, false, false, false, false, false, false, false] rfl rfl (by kernel_rfl) (by decide) (fun K hK => ?_)
        refine goes_ Tryz.func103 (by kernel_rfl) rfl #[.string n.f5] (by rfl) rfl rfl (by simp only [List.map_toArray, List.map_cons, List.map_nil]; rfl) ?_
        refine (HN.out _).mono ?_
        rintro e w3 ⟨rfl, hb3⟩
        refine ⟨_, rfl, ?_⟩
        have hb3 : Below W2.heap.size W2 w3 := below_to (below_drew (Below.refl _ _)) hb3
        have HB3 := Aside0.mk (HB2.out.trans (But.of_below hb3))
        have HS3 := Aside0.mk (HS2.out.below hb3)
        have hg3 := (hb3.block g HGL2.out).trans HG2.out
        have hx3 := (hb3.block _ HSZ2.out).trans HX2.out
        have y1 := rowc hg3 1 _ rfl
        have y5 := rowc hx3 5 _ rfl
        have HG3b := Aside0.mk hg3
        clear hb3 hg3 hx3
        refine hK.out _ _ ⟨y5, y1, HLK.out _ HS3.out⟩ (fun hHeld => ?_)
        clear hK K
        refine norm_ (a' := ?_) ?_ ?_
        rotate_left
        · show Act.put _ (some 36) _ = _
          simp only [Act.put, List.setIfInBounds_toArray, List.set_cons_zero, List.set_cons_succ, i64_w, i32_w]
          rfl
        refine pure_ (i := 3) (N := some 37) (v := ?_) (a' := ?_) #[true, true, true, true, false, false, false, false, false, false, false, false, false, false] rfl rfl (by kernel_rfl) (fun _ _ _ h => h) (Or.inl ⟨by rfl, ?_⟩) ?_ ?_
        rotate_left
        · intro w'
          go_simp
          with_reducible rfl
        rotate_left
        · simp only [Act.put, List.setIfInBounds_toArray, List.set_cons_zero, List.set_cons_succ, i64_w, i32_w]
          rfl
        refine pure_ (i := 4) (N := some 38) (v := ?_) (a' := ?_) #[true, true, true, true, true, false, false, false, false, false, false, false, false, false] rfl rfl (by kernel_rfl) (fun _ _ _ h => h) (Or.inl ⟨by rfl, ?_⟩) ?_ ?_
        rotate_left
        · intro w'
          go_simp
          with_reducible rfl
        rotate_left
        · simp only [Act.put, List.setIfInBounds_toArray, List.set_cons_zero, List.set_cons_succ, i64_w, i32_w]
          rfl
        refine pure_ (i := 5) (N := some 39) (v := ?_) (a' := ?_) #[true, true, true, true, true, true, false, false, false, false, false, false, false, false] rfl rfl (by kernel_rfl) (fun _ _ _ h => h) (Or.inl ⟨by rfl, ?_⟩) ?_ ?_
        rotate_left
        · intro w'
          go_simp
          with_reducible rfl
        rotate_left
        · simp only [Act.put, List.setIfInBounds_toArray, List.set_cons_zero, List.set_cons_succ, i64_w, i32_w]
          rfl
        refine pure_ (i := 6) (N := some 40) (v := ?_) (a' := ?_) #[true, true, true, true, true, true, true, false, false, false, false, false, false, false] rfl rfl (by kernel_rfl) (fun _ _ _ h => h) (Or.inl ⟨by rfl, ?_⟩) ?_ ?_
        rotate_left
        · intro w'
          go_simp
          with_reducible rfl
        rotate_left
        · simp only [Act.put, List.setIfInBounds_toArray, List.set_cons_zero, List.set_cons_succ, i64_w, i32_w]
          rfl
        refine take_ (i := 7) (N := some 41) (v := ?_) (a' := ?_) #[true, true, true, true, true, true, true, true, false, false, false, false, false, false] rfl rfl (by kernel_rfl) (fun _ _ _ h => h) (Or.inl ⟨by rfl, ?_⟩) hHeld ?_ ?_
        rotate_left
        · rintro w' ⟨s0, s1, s2⟩
          go_simp
          with_reducible rfl
        rotate_left
        · simp only [Act.put, List.setIfInBounds_toArray, List.set_cons_zero, List.set_cons_succ, i64_w, i32_w]
          rfl
        refine pure_ (i := 8) (N := some 42) (v := ?_) (a' := ?_) #[true, true, true, true, true, true, true, true, true, false, false, false, false, false] rfl rfl (by kernel_rfl) (fun _ _ _ h => h) (Or.inl ⟨by rfl, ?_⟩) ?_ ?_
        rotate_left
        · intro w'
          go_simp
          with_reducible rfl
        rotate_left
        · simp only [Act.put, List.setIfInBounds_toArray, List.set_cons_zero, List.set_cons_succ, i64_w, i32_w]
          rfl
        refine take_ (i := 9) (N := some 43) (v := ?_) (a' := ?_) #[true, true, true, true, true, true, true, true, true, true, false, false, false, false] rfl rfl (by kernel_rfl) (fun _ _ _ h => h) (Or.inl ⟨by rfl, ?_⟩) hHeld ?_ ?_
        rotate_left
        · rintro w' ⟨s0, s1, s2⟩
          go_simp
          with_reducible rfl
        rotate_left
        · simp only [Act.put, List.setIfInBounds_toArray, List.set_cons_zero, List.set_cons_succ, i64_w, i32_w]
          rfl
        refine take_ (i := 10) (N := some 44) (v := ?_) (a' := ?_) #[true, true, true, true, true, true, true, true, true, true, true, false, false, false] rfl rfl (by kernel_rfl) (fun _ _ _ h => h) (Or.inl ⟨by rfl, ?_⟩) hHeld ?_ ?_
        rotate_left
        · rintro w' ⟨s0, s1, s2⟩
          go_simp
          with_reducible rfl
        rotate_left
        · simp only [Act.put, List.setIfInBounds_toArray, List.set_cons_zero, List.set_cons_succ, i64_w, i32_w]
          rfl
        refine pure_ (i := 11) (N := some 45) (v := ?_) (a' := ?_) #[true, true, true, true, true, true, true, true, true, true, true, true, false, false] rfl rfl (by kernel_rfl) (fun _ _ _ h => h) (Or.inl ⟨by rfl, ?_⟩) ?_ ?_
        rotate_left
        · intro w'
          go_simp
          with_reducible rfl
        rotate_left
        · simp only [Act.put, List.setIfInBounds_toArray, List.set_cons_zero, List.set_cons_succ, i64_w, i32_w]
          rfl
        refine pure_ (i := 12) (N := some 46) (v := ?_) (a' := ?_) #[true, true, true, true, true, true, true, true, true, true, true, true, true, false] rfl rfl (by kernel_rfl) (fun _ _ _ h => h) (Or.inl ⟨by rfl, ?_⟩) ?_ ?_
        rotate_left
        · intro w'
          go_simp
          with_reducible rfl
        rotate_left
        · simp only [Act.put, List.setIfInBounds_toArray, List.set_cons_zero, List.set_cons_succ, i64_w, i32_w]
          rfl
        refine last_ (i := 13) (N := some 47) #[true, true, true, true, true, true, true, true, true, true, true, true, true, true] rfl rfl (by kernel_rfl) (by decide) (fun K hK => ?_)
        refine dies_ Tryz.func50 (by kernel_rfl) rfl #[.bool false] (by rfl) rfl rfl (by simp only [List.map_toArray, List.map_cons, List.map_nil]; rfl) ?_
        refine (HQ.out false _).mono ?_
        rintro e w' ⟨rfl, rfl⟩
        exact ⟨_, rfl, rfl, RetCk.dead HB3.out⟩
      | true =>
        have HR : groupS n.f2 n.f5 c = some (c.1 + 1, n.f5 :: c.2) := by rw [HG3.out, if_pos ⟨rfl, rfl⟩]
        have HRR := Aside0.mk HR
        clear HR
        refine start_ (n := 14) (S := fun w' => w'.cell? ⟨w.heap.size, 5, none⟩ = some (.string n.f5) ∧ w'.cell? ⟨g, 1, none⟩ = some (.map (some mb)) ∧ (Instr.lookup 68 (.map (some mb)) (.string n.f5) false).run Tryz.prog w' = .ok (.bool (!true)) w') (ds := [13]) #[false, false, false, false, false, false, false, false, false, false, false, false, false, false] (by kernel_rfl) rfl rfl ⟨x5, g1, HLK.out _ (HS2.out.move rfl)⟩ (fun hHeld => ?_)
        refine pure_ (i := 0) (N := some 34) (v := ?_) (a' := ?_) #[true, false, false, false, false, false, false, false, false, false, false, false, false, false] rfl rfl (by kernel_rfl) (fun _ _ _ h => h) (Or.inl ⟨by rfl, ?_⟩) ?_ ?_
        rotate_left
        · intro w'
          go_simp
          with_reducible rfl
        rotate_left
        · simp only [Act.put, List.setIfInBounds_toArray, List.set_cons_zero, List.set_cons_succ, i64_w, i32_w]
          rfl
        refine take_ (i := 1) (N := some 35) (v := ?_) (a' := ?_) #[true, true, false, false, false, false, false, false, false, false, false, false, false, false] rfl rfl (by kernel_rfl) (fun _ _ _ h => h) (Or.inl ⟨by rfl, ?_⟩) hHeld ?_ ?_
        rotate_left
        · rintro w' ⟨s0, s1, s2⟩
          go_simp
          with_reducible rfl
        rotate_left
        · simp only [Act.put, List.setIfInBounds_toArray, List.set_cons_zero, List.set_cons_succ, i64_w, i32_w]
          rfl
        refine one_ (i := 2) (N := some 36) #[true, true, true, false, false, false, false, false, false, false, false, false, false, false] rfl rfl (by kernel_rfl) (by decide) (fun K hK => ?_)
        refine goes_ Tryz.func103 (by kernel_rfl) rfl #[.string n.f5] (by rfl) rfl rfl (by simp only [List.map_toArray, List.map_cons, List.map_nil]; rfl) ?_
        refine (HN.out _).mono ?_
        rintro e w3 ⟨rfl, hb3⟩
        refine ⟨_, rfl, ?_⟩
        have hb3 : Below W2.heap.size W2 w3 := below_to (below_drew (Below.refl _ _)) hb3
        have HB3 := Aside0.mk (HB2.out.trans (But.of_below hb3))
        have HS3 := Aside0.mk (HS2.out.below hb3)
        have hg3 := (hb3.block g HGL2.out).trans HG2.out
        have hx3 := (hb3.block _ HSZ2.out).trans HX2.out
        have y1 := rowc hg3 1 _ rfl
        have y5 := rowc hx3 5 _ rfl
        have HG3b := Aside0.mk hg3
        clear hb3 hg3 hx3
        refine hK.out _ _ ⟨y5, y1, HLK.out _ HS3.out⟩ (fun hHeld => ?_)
        clear hK K
        refine norm_ (a' := ?_) ?_ ?_
        rotate_left
        · show Act.put _ (some 36) _ = _
          simp only [Act.put, List.setIfInBounds_toArray, List.set_cons_zero, List.set_cons_succ, i64_w, i32_w]
          rfl
        refine pure_ (i := 3) (N := some 37) (v := ?_) (a' := ?_) #[true, true, true, true, false, false, false, false, false, false, false, false, false, false] rfl rfl (by kernel_rfl) (fun _ _ _ h => h) (Or.inl ⟨by rfl, ?_⟩) ?_ ?_
        rotate_left
        · intro w'
          go_simp
          with_reducible rfl
        rotate_left
        · simp only [Act.put, List.setIfInBounds_toArray, List.set_cons_zero, List.set_cons_succ, i64_w, i32_w]
          rfl
        refine pure_ (i := 4) (N := some 38) (v := ?_) (a' := ?_) #[true, true, true, true, true, false, false, false, false, false, false, false, false, false] rfl rfl (by kernel_rfl) (fun _ _ _ h => h) (Or.inl ⟨by rfl, ?_⟩) ?_ ?_
        rotate_left
        · intro w'
          go_simp
          with_reducible rfl
        rotate_left
        · simp only [Act.put, List.setIfInBounds_toArray, List.set_cons_zero, List.set_cons_succ, i64_w, i32_w]
          rfl
        refine pure_ (i := 5) (N := some 39) (v := ?_) (a' := ?_) #[true, true, true, true, true, true, false, false, false, false, false, false, false, false] rfl rfl (by kernel_rfl) (fun _ _ _ h => h) (Or.inl ⟨by rfl, ?_⟩) ?_ ?_
        rotate_left
        · intro w'
          go_simp
          with_reducible rfl
        rotate_left
        · simp only [Act.put, List.setIfInBounds_toArray, List.set_cons_zero, List.set_cons_succ, i64_w, i32_w]
          rfl
        refine pure_ (i := 6) (N := some 40) (v := ?_) (a' := ?_) #[true, true, true, true, true, true, true, false, false, false, false, false, false, false] rfl rfl (by kernel_rfl) (fun _ _ _ h => h) (Or.inl ⟨by rfl, ?_⟩) ?_ ?_
        rotate_left
        · intro w'
          go_simp
          with_reducible rfl
        rotate_left
        · simp only [Act.put, List.setIfInBounds_toArray, List.set_cons_zero, List.set_cons_succ, i64_w, i32_w]
          rfl
        refine take_ (i := 7) (N := some 41) (v := ?_) (a' := ?_) #[true, true, true, true, true, true, true, true, false, false, false, false, false, false] rfl rfl (by kernel_rfl) (fun _ _ _ h => h) (Or.inl ⟨by rfl, ?_⟩) hHeld ?_ ?_
        rotate_left
        · rintro w' ⟨s0, s1, s2⟩
          go_simp
          with_reducible rfl
        rotate_left
        · simp only [Act.put, List.setIfInBounds_toArray, List.set_cons_zero, List.set_cons_succ, i64_w, i32_w]
          rfl
        refine pure_ (i := 8) (N := some 42) (v := ?_) (a' := ?_) #[true, true, true, true, true, true, true, true, true, false, false, false, false, false] rfl rfl (by kernel_rfl) (fun _ _ _ h => h) (Or.inl ⟨by rfl, ?_⟩) ?_ ?_
        rotate_left
        · intro w'
          go_simp
          with_reducible rfl
        rotate_left
        · simp only [Act.put, List.setIfInBounds_toArray, List.set_cons_zero, List.set_cons_succ, i64_w, i32_w]
          rfl
        refine take_ (i := 9) (N := some 43) (v := ?_) (a' := ?_) #[true, true, true, true, true, true, true, true, true, true, false, false, false, false] rfl rfl (by kernel_rfl) (fun _ _ _ h => h) (Or.inl ⟨by rfl, ?_⟩) hHeld ?_ ?_
        rotate_left
        · rintro w' ⟨s0, s1, s2⟩
          go_simp
          with_reducible rfl
        rotate_left
        · simp only [Act.put, List.setIfInBounds_toArray, List.set_cons_zero, List.set_cons_succ, i64_w, i32_w]
          rfl
        refine take_ (i := 10) (N := some 44) (v := ?_) (a' := ?_) #[true, true, true, true, true, true, true, true, true, true, true, false, false, false] rfl rfl (by kernel_rfl) (fun _ _ _ h => h) (Or.inl ⟨by rfl, ?_⟩) hHeld ?_ ?_
        rotate_left
        · rintro w' ⟨s0, s1, s2⟩
          go_simp
          with_reducible rfl
        rotate_left
        · simp only [Act.put, List.setIfInBounds_toArray, List.set_cons_zero, List.set_cons_succ, i64_w, i32_w]
          rfl
        refine pure_ (i := 11) (N := some 45) (v := ?_) (a' := ?_) #[true, true, true, true, true, true, true, true, true, true, true, true, false, false] rfl rfl (by kernel_rfl) (fun _ _ _ h => h) (Or.inl ⟨by rfl, ?_⟩) ?_ ?_
        rotate_left
        · intro w'
          go_simp
          with_reducible rfl
        rotate_left
        · simp only [Act.put, List.setIfInBounds_toArray, List.set_cons_zero, List.set_cons_succ, i64_w, i32_w]
          rfl
        refine pure_ (i := 12) (N := some 46) (v := ?_) (a' := ?_) #[true, true, true, true, true, true, true, true, true, true, true, true, true, false] rfl rfl (by kernel_rfl) (fun _ _ _ h => h) (Or.inl ⟨by rfl, ?_⟩) ?_ ?_
        rotate_left
        · intro w'
          go_simp
          with_reducible rfl
        rotate_left
        · simp only [Act.put, List.setIfInBounds_toArray, List.set_cons_zero, List.set_cons_succ, i64_w, i32_w]
          rfl
        refine last_ (i := 13) (N := some 47) #[true, true, true, true, true, true, true, true, true, true, true, true, true, true] rfl rfl (by kernel_rfl) (by decide) (fun K hK => ?_)
        refine goes_ Tryz.func50 (by kernel_rfl) rfl #[.bool true] (by rfl) rfl rfl (by simp only [List.map_toArray, List.map_cons, List.map_nil]; rfl) ?_
        refine (HQ.out true _).mono ?_
        rintro e w' ⟨rfl, hw'⟩
        rw [hw']
        clear hw' w'
        refine ⟨_, rfl, ?_⟩
        refine hK.out _ _ ?_
        clear hK K
        refine norm_ (a' := ?_) ?_ ?_
        rotate_left
        · show Act.put _ (some 47) _ = _
          simp only [Act.put, List.setIfInBounds_toArray, List.set_cons_zero, List.set_cons_succ, i64_w, i32_w]
          rfl
        refine done_ (by kernel_rfl) ?_
        clear hHeld
        obtain ⟨w4, hup, hs4, hb4⟩ := (show SetF Tryz.prog 9 4 w3.drew mb c.1 c.2 from HS3.out.move rfl).run_update sTy (by have := hc19; unfold maxLen; omega) n.f5 (by unfold maxLen; omega)
        have HS4 := Aside0.mk hs4
        have HB4 := Aside0.mk (HB3.out.trans ((But.of_below (below_drew (Below.refl _ _))).trans (hb4.mono (ex' := Ex g mb) fun k e => .inr e)))
        have HUP := Aside0.mk hup
        have hg4 : w4.heap[g]? = _ := (hb4.block g (Array.getElem?_eq_some_iff.1 HG3b.out).1 (Ne.symm hne)).trans HG3b.out
        have HG4 := Aside0.mk hg4
        clear hs4 hb4 hup hg4
        go_wp2_with fail
        refine start_ (n := 7) (S := fun w' => w'.cell? ⟨w.heap.size, 5, none⟩ = some (.string n.f5) ∧ w'.cell? ⟨g, 1, none⟩ = some (.map (some mb))) (ds := [6]) #[false, false, false, false, false, false, false] (by kernel_rfl) rfl rfl ⟨y5, y1⟩ (fun hHeld => ?_)
        refine pure_ (i := 0) (N := some 48) (v := ?_) (a' := ?_) #[true, false, false, false, false, false, false] rfl rfl (by kernel_rfl) (fun _ _ _ h => h) (Or.inl ⟨by rfl, ?_⟩) ?_ ?_
        rotate_left
        · intro w'
          go_simp
          with_reducible rfl
        rotate_left
        · simp only [Act.put, List.setIfInBounds_toArray, List.set_cons_zero, List.set_cons_succ, i64_w, i32_w]
          rfl
        refine pure_ (i := 1) (N := some 49) (v := ?_) (a' := ?_) #[true, true, false, false, false, false, false] rfl rfl (by kernel_rfl) (fun _ _ _ h => h) (Or.inl ⟨by rfl, ?_⟩) ?_ ?_
        rotate_left
        · intro w'
          go_simp
          with_reducible rfl
        rotate_left
        · simp only [Act.put, List.setIfInBounds_toArray, List.set_cons_zero, List.set_cons_succ, i64_w, i32_w]
          rfl
        refine pure_ (i := 2) (N := some 50) (v := ?_) (a' := ?_) #[true, true, true, false, false, false, false] rfl rfl (by kernel_rfl) (fun _ _ _ h => h) (Or.inl ⟨by rfl, ?_⟩) ?_ ?_
        rotate_left
        · intro w'
          go_simp
          with_reducible rfl
        rotate_left
        · simp only [Act.put, List.setIfInBounds_toArray, List.set_cons_zero, List.set_cons_succ, i64_w, i32_w]
          rfl
        refine take_ (i := 3) (N := some 51) (v := ?_) (a' := ?_) #[true, true, true, true, false, false, false] rfl rfl (by kernel_rfl) (fun _ _ _ h => h) (Or.inl ⟨by rfl, ?_⟩) hHeld ?_ ?_
        rotate_left
        · rintro w' ⟨s0, s1⟩
          go_simp
          with_reducible rfl
        rotate_left
        · simp only [Act.put, List.setIfInBounds_toArray, List.set_cons_zero, List.set_cons_succ, i64_w, i32_w]
          rfl
        refine pure_ (i := 4) (N := some 52) (v := ?_) (a' := ?_) #[true, true, true, true, true, false, false] rfl rfl (by kernel_rfl) (fun _ _ _ h => h) (Or.inl ⟨by rfl, ?_⟩) ?_ ?_
        rotate_left
        · intro w'
          go_simp
          with_reducible rfl
        rotate_left
        · simp only [Act.put, List.setIfInBounds_toArray, List.set_cons_zero, List.set_cons_succ, i64_w, i32_w]
          rfl
        refine take_ (i := 5) (N := some 53) (v := ?_) (a' := ?_) #[true, true, true, true, true, true, false] rfl rfl (by kernel_rfl) (fun _ _ _ h => h) (Or.inl ⟨by rfl, ?_⟩) hHeld ?_ ?_
        rotate_left
        · rintro w' ⟨s0, s1⟩
          go_simp
          with_reducible rfl
        rotate_left
        · simp only [Act.put, List.setIfInBounds_toArray, List.set_cons_zero, List.set_cons_succ, i64_w, i32_w]
          rfl
        refine last_ (i := 6) (N := none) #[true, true, true, true, true, true, true] rfl rfl (by kernel_rfl) (by decide) (fun K hK => ?_)
        refine skip_ (w1 := w4) (by rfl) rfl ?_ ?_
        · have hup := HUP.out
          go_simp
        refine hK.out _ _ ?_
        clear hK K
        refine done_ (by kernel_rfl) ?_
        go_wp2_with fail
        go_end0
        rw [HRR.out]
        exact RetCk.fine (c := (c.1 + 1, n.f5 :: c.2)) HB4.out ⟨HG4.out, HS4.out, hc19⟩

end Go.Proofs.YtkipjalfgdfaiaaGreatDoor
namespace Go.Proofs.YtkipjalfgdfaiaaGreatDoor
set_option linter.unusedVariables false
set_option linter.unusedSimpArgs false
open Go.RowKit Go.Proofs.YtkipjalfgdfaiaaGreatDoorW.PrintWords Go.Proofs.YtkipjalfgdfaiaaGreatDoorW.PrintLast Go.Proofs.YtkipjalfgdfaiaaGreatDoorW.PrintMore Go.Proofs.YtkipjalfgdfaiaaGreatDoor.PTk

attribute [local go_sem ↓] Go.wp_at_zero Go.wp_at_succ
/-- What walks of the check start from: the nodes lie in w0, the check's variables came later. -/
structure Env (w0 w : World) (m0 : Int) (g mb : Nat) (c : Gs) : Prop where
  bel : Below w0.heap.size w0 w
  gge : w0.heap.size ≤ g
  mge : w0.heap.size ≤ mb
  tv : TVars w0 m0
  chk : Chk w g mb c
theorem Env.step {w0 w w' : World} {m0 : Int} {g mb : Nat} {c : Gs} (E : Env w0 w m0 g mb c) (hb : Below w.heap.size w w') : Env w0 w' m0 g mb c := ⟨E.bel.trans (hb.mono E.bel.size), E.gge, E.mge, E.tv, E.chk.below hb⟩
theorem Env.next {w0 w w' : World} {m0 : Int} {g mb : Nat} {c c' : Gs} (E : Env w0 w m0 g mb c) (hb : But (Ex g mb) w w') (hk : Chk w' g mb c') : Env w0 w' m0 g mb c' :=
  ⟨E.bel.trans (hb.below E.bel.size fun k hk e => by have := E.gge; have := E.mge; rcases e with rfl | rfl <;> omega), E.gge, E.mge, E.tv, hk⟩
theorem RetCk.up {r : Option Gs} {w w1 w' : World} {g mb : Nat} {e : Ending} (hb : But (Ex g mb) w w1) (h : RetCk r w1 g mb e w') : RetCk r w g mb e w' := ⟨hb.trans h.1, h.2⟩
abbrev PartC (res : ByteArray → Int × ByteArray × Int) (m0 : Int) (n : Nd) : Prop := ∀ (deep : Nat) (c : Gs) (w0 w : World) (g mb : Nat) (v : Value), RdN w0 n v → Env w0 w m0 g mb c → deep ≤ 50 →
  Calls Tryz.prog 51 #[.pointer (some ⟨g, 0, none⟩), v, .int .i64 (deep : Int)] w (RetCk (partN res n deep c) w g mb)
abbrev BodyC (res : ByteArray → Int × ByteArray × Int) (m0 : Int) (n : Nd) : Prop := ∀ (deep : Nat) (c : Gs) (w0 w : World) (g mb : Nat) (v : Value), RdN w0 n v → Env w0 w m0 g mb c → deep ≤ 50 →
  Calls Tryz.prog 31 #[.pointer (some ⟨g, 0, none⟩), v, .int .i64 (deep : Int)] w (RetCk (bodyN res n deep c) w g mb)
theorem withK_dead (res : ByteArray → Int × ByteArray × Int) {ks : List Nd} (deep : Nat) (c : Gs) (h : ¬ (ks.length = 1 ∧ deep < 50)) : withK res ks deep c = none := by
  match ks with
  | [] => rw [withK]; simp
  | [m] => rw [withK, if_neg (fun hd => h ⟨rfl, hd⟩)]
  | a :: b :: t => rw [withK]; simp
set_option maxHeartbeats 4000000 in
set_option maxRecDepth 100000 in
theorem withC_any (res : ByteArray → Int × ByteArray × Int) (m0 : Int) {n : Nd} (hB : ∀ k ∈ n.f7, BodyC res m0 k) (deep : Nat) (c : Gs) (w0 w : World) (g mb : Nat) (v : Value) (h : RdN w0 n v) (E : Env w0 w m0 g mb c) (hd : deep ≤ 50) :
    Calls Tryz.prog 73 #[.pointer (some ⟨g, 0, none⟩), v, .int .i64 (deep : Int)] w (RetCk (withK res n.f7 deep c) w g mb) := by
  have HM := Aside0.mk must_any
  obtain ⟨A6, c6, A7, c7, rfl, -, -, l7, hC⟩ := h
  have HE := Aside0.mk E
  by_cases hl : n.f7.length = 1 ∧ deep < 50
  rotate_left
  · rw [withK_dead res deep c hl]
    by_cases h1 : n.f7.length = 1
    · have e1 : ((n.f7.length : Int) == 1) = true := by rw [h1]; rfl
      have e2 : ¬ ((deep : Int) < 50) := by omega
      clear hC hl h1
      go_enter Tryz.func73, Tryz.ntmps73
      go_wp2_with fail
      refine (HM.out false _).mono ?_
      rintro e w1 ⟨rfl, hb1⟩
      have HB1 := Aside0.mk (below_box hb1)
      clear hb1
      go_wp2_with fail
      exact ⟨rfl, RetCk.dead (But.of_below HB1.out)⟩
    · have e1 : ((n.f7.length : Int) == 1) = false := by rw [beq_eq_false_iff_ne]; omega
      clear hC hl h1
      go_enter Tryz.func73, Tryz.ntmps73
      go_wp2_with fail
      refine (HM.out false _).mono ?_
      rintro e w1 ⟨rfl, hb1⟩
      have HB1 := Aside0.mk (below_box hb1)
      clear hb1
      go_wp2_with fail
      exact ⟨rfl, RetCk.dead (But.of_below HB1.out)⟩
  obtain ⟨hl1, hd2⟩ := hl
  obtain ⟨ad, P6, p6, P7, p7, rfl, hk, rk⟩ := kids_at hC 0 (by omega)
  have hmem := List.getElem_mem (show 0 < n.f7.length by omega)
  obtain ⟨m, hm⟩ : ∃ m, n.f7[0]'(by omega) = m := ⟨_, rfl⟩
  rw [hm] at hk rk hmem
  have hwk : withK res n.f7 deep c = bodyN res m (deep + 1) c := by
    match hf : n.f7, hl1 with
    | [x], _ =>
      have : m = x := by rw [← hm]; simp [hf]
      rw [this, withK, if_pos hd2]
  rw [hwk]
  obtain ⟨r, hr⟩ : ∃ r, bodyN res m (deep + 1) c = r := ⟨_, rfl⟩
  have hbc := (fun W' E' => hB m hmem (deep + 1) c w0 W' g mb _ rk E' (by omega))
  rw [hr] at hbc ⊢
  have HBC := Aside0.mk hbc
  have HKD := Aside0.mk hk
  have e1 : ((n.f7.length : Int) == 1) = true := by rw [hl1]; rfl
  have e2 : (deep : Int) < 50 := by omega
  have e3 : 0 < n.f7.length := by omega
  have e4 : (0 : Int) < (n.f7.length : Int) := by omega
  clear hC hwk hm hmem rk hl1 hd2 hk hB hbc hr
  go_enter Tryz.func73, Tryz.ntmps73
  go_wp2_with fail
  refine (HM.out true _).mono ?_
  rintro e w1 ⟨rfl, hb1⟩
  have HB1 := Aside0.mk (below_box hb1)
  obtain ⟨hbx1, hlt1⟩ := box_after hb1
  have HX1 := Aside0.mk hbx1
  have q1_7 := rowc hbx1 7 _ rfl
  clear hb1 hbx1
  obtain ⟨x0, x1, x2, x3, x4, x5, x6, x7⟩ := HKD.out.up (HE.out.step HB1.out).bel
  simp only [Nat.zero_mul, Addr.add_zero'] at x0 x1 x2 x3 x4 x5 x6 x7
  go_wp2_with fail
  refine (HBC.out _ (HE.out.step HB1.out)).mono ?_
  intro e w2 hr
  cases r with
  | none =>
    obtain ⟨hb, rfl⟩ := RetCk.up (But.of_below HB1.out) hr
    have HBT := Aside0.mk hb
    clear hb hr
    go_wp2_with fail
    exact ⟨rfl, RetCk.dead HBT.out⟩
  | some c' =>
    obtain ⟨hb, rfl, hk⟩ := RetCk.up (But.of_below HB1.out) hr
    have HBT := Aside0.mk hb
    have HKT := Aside0.mk hk
    clear hb hk hr
    go_wp2_with fail
    go_end0
    exact RetCk.fine HBT.out HKT.out
set_option maxHeartbeats 4000000 in
set_option maxRecDepth 100000 in
theorem rep_only (res : ByteArray → Int × ByteArray × Int) (m0 : Int) {n : Nd} (deep : Nat) (c : Gs) (w0 w : World) (g mb : Nat) (v : Value) (h : RdN w0 n v) (E : Env w0 w m0 g mb c) (hd : deep ≤ 50) (ho : onlyB n n.f1 n.f2 n.f3 false e0 n.f7.length = false) :
    Calls Tryz.prog 71 #[.pointer (some ⟨g, 0, none⟩), v, .int .i64 (deep : Int)] w (RetCk none w g mb) := by
  have HM := Aside0.mk must_any
  have hO := fun A6 c6 A7 c7 (hv : v = ndV n A6 c6 A7 c7) W => only_any h 0 n.f1 n.f2 n.f3 false e0 none A7 0 0 n.f7.length c7 W
  rw [ho] at hO
  obtain ⟨A6, c6, A7, c7, rfl, -, -, l7, hC⟩ := h
  have HO := Aside0.mk (hO A6 c6 A7 c7 rfl)
  have HE := Aside0.mk E
  clear hO ho
  clear hC
  go_enter Tryz.func71, Tryz.ntmps71
  go_wp2_with fail
  refine (HO.out _).mono ?_
  rintro e w1 ⟨rfl, hb1⟩
  have HB1 := Aside0.mk (below_box hb1)
  clear hb1
  go_wp2_with fail
  exact ⟨rfl, RetCk.dead (But.of_below HB1.out)⟩
set_option maxHeartbeats 4000000 in
set_option maxRecDepth 100000 in
theorem rep_m0 (res : ByteArray → Int × ByteArray × Int) (m0 : Int) {n : Nd} (deep : Nat) (c : Gs) (w0 w : World) (g mb : Nat) (v : Value) (h : RdN w0 n v) (E : Env w0 w m0 g mb c) (hd : deep ≤ 50) (ho : onlyB n n.f1 n.f2 n.f3 false e0 n.f7.length = true) (h1 : n.f7.length ≠ 1) :
    Calls Tryz.prog 71 #[.pointer (some ⟨g, 0, none⟩), v, .int .i64 (deep : Int)] w (RetCk none w g mb) := by
  have HM := Aside0.mk must_any
  have hO := fun A6 c6 A7 c7 (hv : v = ndV n A6 c6 A7 c7) W => only_any h 0 n.f1 n.f2 n.f3 false e0 none A7 0 0 n.f7.length c7 W
  rw [ho] at hO
  obtain ⟨A6, c6, A7, c7, rfl, -, -, l7, hC⟩ := h
  have HO := Aside0.mk (hO A6 c6 A7 c7 rfl)
  have HE := Aside0.mk E
  clear hO ho
  have e1 : ((n.f7.length : Int) == 1) = false := by rw [beq_eq_false_iff_ne]; omega
  clear hC h1
  go_enter Tryz.func71, Tryz.ntmps71
  go_wp2_with fail
  refine (HO.out _).mono ?_
  rintro e w1 ⟨rfl, hb1⟩
  have HB1 := Aside0.mk (below_box hb1)
  obtain ⟨hbx1, hlt1⟩ := box_after hb1
  have HX1 := Aside0.mk hbx1
  have q1_0 := rowc hbx1 0 _ rfl
  have q1_1 := rowc hbx1 1 _ rfl
  have q1_2 := rowc hbx1 2 _ rfl
  have q1_3 := rowc hbx1 3 _ rfl
  have q1_4 := rowc hbx1 4 _ rfl
  have q1_5 := rowc hbx1 5 _ rfl
  have q1_6 := rowc hbx1 6 _ rfl
  have q1_7 := rowc hbx1 7 _ rfl
  clear hb1 hbx1
  go_wp2_with fail
  refine (HM.out false _).mono ?_
  rintro e w2 ⟨rfl, hb2⟩
  have HB2 := Aside0.mk (below_to HB1.out hb2)
  clear hb2
  go_wp2_with fail
  exact ⟨rfl, RetCk.dead (But.of_below HB2.out)⟩
set_option maxHeartbeats 4000000 in
set_option maxRecDepth 100000 in
theorem rep_m1 (res : ByteArray → Int × ByteArray × Int) (m0 : Int) {n : Nd} (deep : Nat) (c : Gs) (w0 w : World) (g mb : Nat) (v : Value) (h : RdN w0 n v) (E : Env w0 w m0 g mb c) (hd : deep ≤ 50) (ho : onlyB n n.f1 n.f2 n.f3 false e0 n.f7.length = true) (h1 : n.f7.length = 1) (h2 : ¬ 0 ≤ n.f1) :
    Calls Tryz.prog 71 #[.pointer (some ⟨g, 0, none⟩), v, .int .i64 (deep : Int)] w (RetCk none w g mb) := by
  have HM := Aside0.mk must_any
  have hO := fun A6 c6 A7 c7 (hv : v = ndV n A6 c6 A7 c7) W => only_any h 0 n.f1 n.f2 n.f3 false e0 none A7 0 0 n.f7.length c7 W
  rw [ho] at hO
  obtain ⟨A6, c6, A7, c7, rfl, -, -, l7, hC⟩ := h
  have HO := Aside0.mk (hO A6 c6 A7 c7 rfl)
  have HE := Aside0.mk E
  clear hO ho
  have e1 : ((n.f7.length : Int) == 1) = true := by rw [h1]; rfl
  clear hC h1
  go_enter Tryz.func71, Tryz.ntmps71
  go_wp2_with fail
  refine (HO.out _).mono ?_
  rintro e w1 ⟨rfl, hb1⟩
  have HB1 := Aside0.mk (below_box hb1)
  obtain ⟨hbx1, hlt1⟩ := box_after hb1
  have HX1 := Aside0.mk hbx1
  have q1_0 := rowc hbx1 0 _ rfl
  have q1_1 := rowc hbx1 1 _ rfl
  have q1_2 := rowc hbx1 2 _ rfl
  have q1_3 := rowc hbx1 3 _ rfl
  have q1_4 := rowc hbx1 4 _ rfl
  have q1_5 := rowc hbx1 5 _ rfl
  have q1_6 := rowc hbx1 6 _ rfl
  have q1_7 := rowc hbx1 7 _ rfl
  clear hb1 hbx1
  go_wp2_with fail
  refine (HM.out false _).mono ?_
  rintro e w2 ⟨rfl, hb2⟩
  have HB2 := Aside0.mk (below_to HB1.out hb2)
  clear hb2
  go_wp2_with fail
  exact ⟨rfl, RetCk.dead (But.of_below HB2.out)⟩
set_option maxHeartbeats 4000000 in
set_option maxRecDepth 100000 in
theorem rep_m2 (res : ByteArray → Int × ByteArray × Int) (m0 : Int) {n : Nd} (deep : Nat) (c : Gs) (w0 w : World) (g mb : Nat) (v : Value) (h : RdN w0 n v) (E : Env w0 w m0 g mb c) (hd : deep ≤ 50) (ho : onlyB n n.f1 n.f2 n.f3 false e0 n.f7.length = true) (h1 : n.f7.length = 1) (h2 : 0 ≤ n.f1) (h3 : ¬ n.f1 ≤ 2) :
    Calls Tryz.prog 71 #[.pointer (some ⟨g, 0, none⟩), v, .int .i64 (deep : Int)] w (RetCk none w g mb) := by
  have HM := Aside0.mk must_any
  have hO := fun A6 c6 A7 c7 (hv : v = ndV n A6 c6 A7 c7) W => only_any h 0 n.f1 n.f2 n.f3 false e0 none A7 0 0 n.f7.length c7 W
  rw [ho] at hO
  obtain ⟨A6, c6, A7, c7, rfl, -, -, l7, hC⟩ := h
  have HO := Aside0.mk (hO A6 c6 A7 c7 rfl)
  have HE := Aside0.mk E
  clear hO ho
  have e1 : ((n.f7.length : Int) == 1) = true := by rw [h1]; rfl
  have d3 : decide (n.f1 ≤ 2) = false := decide_eq_false h3
  clear hC h1 h3
  go_enter Tryz.func71, Tryz.ntmps71
  go_wp2_with fail
  refine (HO.out _).mono ?_
  rintro e w1 ⟨rfl, hb1⟩
  have HB1 := Aside0.mk (below_box hb1)
  obtain ⟨hbx1, hlt1⟩ := box_after hb1
  have HX1 := Aside0.mk hbx1
  have q1_0 := rowc hbx1 0 _ rfl
  have q1_1 := rowc hbx1 1 _ rfl
  have q1_2 := rowc hbx1 2 _ rfl
  have q1_3 := rowc hbx1 3 _ rfl
  have q1_4 := rowc hbx1 4 _ rfl
  have q1_5 := rowc hbx1 5 _ rfl
  have q1_6 := rowc hbx1 6 _ rfl
  have q1_7 := rowc hbx1 7 _ rfl
  clear hb1 hbx1
  go_wp2_with fail
  refine (HM.out false _).mono ?_
  rintro e w2 ⟨rfl, hb2⟩
  have HB2 := Aside0.mk (below_to HB1.out hb2)
  clear hb2
  go_wp2_with fail
  exact ⟨rfl, RetCk.dead (But.of_below HB2.out)⟩
set_option maxHeartbeats 4000000 in
set_option maxRecDepth 100000 in
theorem rep_a0 (res : ByteArray → Int × ByteArray × Int) (m0 : Int) {n : Nd} (deep : Nat) (c : Gs) (w0 w : World) (g mb : Nat) (v : Value) (h : RdN w0 n v) (E : Env w0 w m0 g mb c) (hd : deep ≤ 50) (ho : onlyB n n.f1 n.f2 n.f3 false e0 n.f7.length = true) (h1 : n.f7.length = 1) (h2 : 0 ≤ n.f1) (h3 : n.f1 ≤ 2) (h4 : ¬ 0 ≤ n.f2) :
    Calls Tryz.prog 71 #[.pointer (some ⟨g, 0, none⟩), v, .int .i64 (deep : Int)] w (RetCk none w g mb) := by
  have HM := Aside0.mk must_any
  have hO := fun A6 c6 A7 c7 (hv : v = ndV n A6 c6 A7 c7) W => only_any h 0 n.f1 n.f2 n.f3 false e0 none A7 0 0 n.f7.length c7 W
  rw [ho] at hO
  obtain ⟨A6, c6, A7, c7, rfl, -, -, l7, hC⟩ := h
  have HO := Aside0.mk (hO A6 c6 A7 c7 rfl)
  have HE := Aside0.mk E
  clear hO ho
  have e1 : ((n.f7.length : Int) == 1) = true := by rw [h1]; rfl
  clear hC h1
  go_enter Tryz.func71, Tryz.ntmps71
  go_wp2_with fail
  refine (HO.out _).mono ?_
  rintro e w1 ⟨rfl, hb1⟩
  have HB1 := Aside0.mk (below_box hb1)
  obtain ⟨hbx1, hlt1⟩ := box_after hb1
  have HX1 := Aside0.mk hbx1
  have q1_0 := rowc hbx1 0 _ rfl
  have q1_1 := rowc hbx1 1 _ rfl
  have q1_2 := rowc hbx1 2 _ rfl
  have q1_3 := rowc hbx1 3 _ rfl
  have q1_4 := rowc hbx1 4 _ rfl
  have q1_5 := rowc hbx1 5 _ rfl
  have q1_6 := rowc hbx1 6 _ rfl
  have q1_7 := rowc hbx1 7 _ rfl
  clear hb1 hbx1
  go_wp2_with fail
  refine (HM.out true _).mono ?_
  rintro e w2 ⟨rfl, hb2⟩
  have HB2 := Aside0.mk (below_to HB1.out hb2)
  have hbx2 := (hb2.block _ hlt1).trans HX1.out
  have hlt2 := Nat.lt_of_lt_of_le hlt1 hb2.size
  have HX2 := Aside0.mk hbx2
  have q2_0 := rowc hbx2 0 _ rfl
  have q2_1 := rowc hbx2 1 _ rfl
  have q2_2 := rowc hbx2 2 _ rfl
  have q2_3 := rowc hbx2 3 _ rfl
  have q2_4 := rowc hbx2 4 _ rfl
  have q2_5 := rowc hbx2 5 _ rfl
  have q2_6 := rowc hbx2 6 _ rfl
  have q2_7 := rowc hbx2 7 _ rfl
  clear hb2 hbx2 hlt1 q1_0 q1_1 q1_2 q1_3 q1_4 q1_5 q1_6 q1_7
  go_wp2_with fail
  refine (HM.out false _).mono ?_
  rintro e w3 ⟨rfl, hb3⟩
  have HB3 := Aside0.mk (below_to HB2.out hb3)
  clear hb3
  go_wp2_with fail
  exact ⟨rfl, RetCk.dead (But.of_below HB3.out)⟩
set_option maxHeartbeats 4000000 in
set_option maxRecDepth 100000 in
theorem rep_a1 (res : ByteArray → Int × ByteArray × Int) (m0 : Int) {n : Nd} (deep : Nat) (c : Gs) (w0 w : World) (g mb : Nat) (v : Value) (h : RdN w0 n v) (E : Env w0 w m0 g mb c) (hd : deep ≤ 50) (ho : onlyB n n.f1 n.f2 n.f3 false e0 n.f7.length = true) (h1 : n.f7.length = 1) (h2 : 0 ≤ n.f1) (h3 : n.f1 ≤ 2) (h4 : 0 ≤ n.f2) (h5 : ¬ n.f2 ≤ 100) :
    Calls Tryz.prog 71 #[.pointer (some ⟨g, 0, none⟩), v, .int .i64 (deep : Int)] w (RetCk none w g mb) := by
  have HM := Aside0.mk must_any
  have hO := fun A6 c6 A7 c7 (hv : v = ndV n A6 c6 A7 c7) W => only_any h 0 n.f1 n.f2 n.f3 false e0 none A7 0 0 n.f7.length c7 W
  rw [ho] at hO
  obtain ⟨A6, c6, A7, c7, rfl, -, -, l7, hC⟩ := h
  have HO := Aside0.mk (hO A6 c6 A7 c7 rfl)
  have HE := Aside0.mk E
  clear hO ho
  have e1 : ((n.f7.length : Int) == 1) = true := by rw [h1]; rfl
  have d3 : decide (n.f2 ≤ 100) = false := decide_eq_false h5
  clear hC h1
  go_enter Tryz.func71, Tryz.ntmps71
  go_wp2_with fail
  refine (HO.out _).mono ?_
  rintro e w1 ⟨rfl, hb1⟩
  have HB1 := Aside0.mk (below_box hb1)
  obtain ⟨hbx1, hlt1⟩ := box_after hb1
  have HX1 := Aside0.mk hbx1
  have q1_0 := rowc hbx1 0 _ rfl
  have q1_1 := rowc hbx1 1 _ rfl
  have q1_2 := rowc hbx1 2 _ rfl
  have q1_3 := rowc hbx1 3 _ rfl
  have q1_4 := rowc hbx1 4 _ rfl
  have q1_5 := rowc hbx1 5 _ rfl
  have q1_6 := rowc hbx1 6 _ rfl
  have q1_7 := rowc hbx1 7 _ rfl
  clear hb1 hbx1
  go_wp2_with fail
  refine (HM.out true _).mono ?_
  rintro e w2 ⟨rfl, hb2⟩
  have HB2 := Aside0.mk (below_to HB1.out hb2)
  have hbx2 := (hb2.block _ hlt1).trans HX1.out
  have hlt2 := Nat.lt_of_lt_of_le hlt1 hb2.size
  have HX2 := Aside0.mk hbx2
  have q2_0 := rowc hbx2 0 _ rfl
  have q2_1 := rowc hbx2 1 _ rfl
  have q2_2 := rowc hbx2 2 _ rfl
  have q2_3 := rowc hbx2 3 _ rfl
  have q2_4 := rowc hbx2 4 _ rfl
  have q2_5 := rowc hbx2 5 _ rfl
  have q2_6 := rowc hbx2 6 _ rfl
  have q2_7 := rowc hbx2 7 _ rfl
  clear hb2 hbx2 hlt1 q1_0 q1_1 q1_2 q1_3 q1_4 q1_5 q1_6 q1_7
  go_wp2_with fail
  refine (HM.out false _).mono ?_
  rintro e w3 ⟨rfl, hb3⟩
  have HB3 := Aside0.mk (below_to HB2.out hb3)
  clear hb3
  go_wp2_with fail
  exact ⟨rfl, RetCk.dead (But.of_below HB3.out)⟩
set_option maxHeartbeats 4000000 in
set_option maxRecDepth 100000 in
theorem rep_b0 (res : ByteArray → Int × ByteArray × Int) (m0 : Int) {n : Nd} (deep : Nat) (c : Gs) (w0 w : World) (g mb : Nat) (v : Value) (h : RdN w0 n v) (E : Env w0 w m0 g mb c) (hd : deep ≤ 50) (ho : onlyB n n.f1 n.f2 n.f3 false e0 n.f7.length = true) (h1 : n.f7.length = 1) (h2 : 0 ≤ n.f1) (h3 : n.f1 ≤ 2) (h4 : 0 ≤ n.f2) (h5 : n.f2 ≤ 100) (h6 : n.f3 ≠ -1) (h7 : ¬ n.f2 ≤ n.f3) :
    Calls Tryz.prog 71 #[.pointer (some ⟨g, 0, none⟩), v, .int .i64 (deep : Int)] w (RetCk none w g mb) := by
  have HM := Aside0.mk must_any
  have hO := fun A6 c6 A7 c7 (hv : v = ndV n A6 c6 A7 c7) W => only_any h 0 n.f1 n.f2 n.f3 false e0 none A7 0 0 n.f7.length c7 W
  rw [ho] at hO
  obtain ⟨A6, c6, A7, c7, rfl, -, -, l7, hC⟩ := h
  have HO := Aside0.mk (hO A6 c6 A7 c7 rfl)
  have HE := Aside0.mk E
  clear hO ho
  have e1 : ((n.f7.length : Int) == 1) = true := by rw [h1]; rfl
  have e6 : (n.f3 == -1) = false := by rw [beq_eq_false_iff_ne]; exact h6
  clear hC h1 h6
  go_enter Tryz.func71, Tryz.ntmps71
  go_wp2_with fail
  refine (HO.out _).mono ?_
  rintro e w1 ⟨rfl, hb1⟩
  have HB1 := Aside0.mk (below_box hb1)
  obtain ⟨hbx1, hlt1⟩ := box_after hb1
  have HX1 := Aside0.mk hbx1
  have q1_0 := rowc hbx1 0 _ rfl
  have q1_1 := rowc hbx1 1 _ rfl
  have q1_2 := rowc hbx1 2 _ rfl
  have q1_3 := rowc hbx1 3 _ rfl
  have q1_4 := rowc hbx1 4 _ rfl
  have q1_5 := rowc hbx1 5 _ rfl
  have q1_6 := rowc hbx1 6 _ rfl
  have q1_7 := rowc hbx1 7 _ rfl
  clear hb1 hbx1
  go_wp2_with fail
  refine (HM.out true _).mono ?_
  rintro e w2 ⟨rfl, hb2⟩
  have HB2 := Aside0.mk (below_to HB1.out hb2)
  have hbx2 := (hb2.block _ hlt1).trans HX1.out
  have hlt2 := Nat.lt_of_lt_of_le hlt1 hb2.size
  have HX2 := Aside0.mk hbx2
  have q2_0 := rowc hbx2 0 _ rfl
  have q2_1 := rowc hbx2 1 _ rfl
  have q2_2 := rowc hbx2 2 _ rfl
  have q2_3 := rowc hbx2 3 _ rfl
  have q2_4 := rowc hbx2 4 _ rfl
  have q2_5 := rowc hbx2 5 _ rfl
  have q2_6 := rowc hbx2 6 _ rfl
  have q2_7 := rowc hbx2 7 _ rfl
  clear hb2 hbx2 hlt1 q1_0 q1_1 q1_2 q1_3 q1_4 q1_5 q1_6 q1_7
  go_wp2_with fail
  refine (HM.out false _).mono ?_
  rintro e w3 ⟨rfl, hb3⟩
  have HB3 := Aside0.mk (below_to HB2.out hb3)
  clear hb3
  go_wp2_with fail
  exact ⟨rfl, RetCk.dead (But.of_below HB3.out)⟩
set_option maxHeartbeats 4000000 in
set_option maxRecDepth 100000 in
theorem rep_b1 (res : ByteArray → Int × ByteArray × Int) (m0 : Int) {n : Nd} (deep : Nat) (c : Gs) (w0 w : World) (g mb : Nat) (v : Value) (h : RdN w0 n v) (E : Env w0 w m0 g mb c) (hd : deep ≤ 50) (ho : onlyB n n.f1 n.f2 n.f3 false e0 n.f7.length = true) (h1 : n.f7.length = 1) (h2 : 0 ≤ n.f1) (h3 : n.f1 ≤ 2) (h4 : 0 ≤ n.f2) (h5 : n.f2 ≤ 100) (h6 : n.f3 ≠ -1) (h7 : n.f2 ≤ n.f3) (h8 : ¬ n.f3 ≤ 100) :
    Calls Tryz.prog 71 #[.pointer (some ⟨g, 0, none⟩), v, .int .i64 (deep : Int)] w (RetCk none w g mb) := by
  have HM := Aside0.mk must_any
  have hO := fun A6 c6 A7 c7 (hv : v = ndV n A6 c6 A7 c7) W => only_any h 0 n.f1 n.f2 n.f3 false e0 none A7 0 0 n.f7.length c7 W
  rw [ho] at hO
  obtain ⟨A6, c6, A7, c7, rfl, -, -, l7, hC⟩ := h
  have HO := Aside0.mk (hO A6 c6 A7 c7 rfl)
  have HE := Aside0.mk E
  clear hO ho
  have e1 : ((n.f7.length : Int) == 1) = true := by rw [h1]; rfl
  have e6 : (n.f3 == -1) = false := by rw [beq_eq_false_iff_ne]; exact h6
  have d3 : decide (n.f3 ≤ 100) = false := decide_eq_false h8
  clear hC h1 h6 h8
  go_enter Tryz.func71, Tryz.ntmps71
  go_wp2_with fail
  refine (HO.out _).mono ?_
  rintro e w1 ⟨rfl, hb1⟩
  have HB1 := Aside0.mk (below_box hb1)
  obtain ⟨hbx1, hlt1⟩ := box_after hb1
  have HX1 := Aside0.mk hbx1
  have q1_0 := rowc hbx1 0 _ rfl
  have q1_1 := rowc hbx1 1 _ rfl
  have q1_2 := rowc hbx1 2 _ rfl
  have q1_3 := rowc hbx1 3 _ rfl
  have q1_4 := rowc hbx1 4 _ rfl
  have q1_5 := rowc hbx1 5 _ rfl
  have q1_6 := rowc hbx1 6 _ rfl
  have q1_7 := rowc hbx1 7 _ rfl
  clear hb1 hbx1
  go_wp2_with fail
  refine (HM.out true _).mono ?_
  rintro e w2 ⟨rfl, hb2⟩
  have HB2 := Aside0.mk (below_to HB1.out hb2)
  have hbx2 := (hb2.block _ hlt1).trans HX1.out
  have hlt2 := Nat.lt_of_lt_of_le hlt1 hb2.size
  have HX2 := Aside0.mk hbx2
  have q2_0 := rowc hbx2 0 _ rfl
  have q2_1 := rowc hbx2 1 _ rfl
  have q2_2 := rowc hbx2 2 _ rfl
  have q2_3 := rowc hbx2 3 _ rfl
  have q2_4 := rowc hbx2 4 _ rfl
  have q2_5 := rowc hbx2 5 _ rfl
  have q2_6 := rowc hbx2 6 _ rfl
  have q2_7 := rowc hbx2 7 _ rfl
  clear hb2 hbx2 hlt1 q1_0 q1_1 q1_2 q1_3 q1_4 q1_5 q1_6 q1_7
  go_wp2_with fail
  refine (HM.out false _).mono ?_
  rintro e w3 ⟨rfl, hb3⟩
  have HB3 := Aside0.mk (below_to HB2.out hb3)
  clear hb3
  go_wp2_with fail
  exact ⟨rfl, RetCk.dead (But.of_below HB3.out)⟩
set_option maxHeartbeats 4000000 in
set_option maxRecDepth 100000 in
theorem rep_k8u (res : ByteArray → Int × ByteArray × Int) (m0 : Int) {n : Nd} (deep : Nat) (c : Gs) (w0 w : World) (g mb : Nat) (v : Value) (h : RdN w0 n v) (E : Env w0 w m0 g mb c) (hd : deep ≤ 50) (ho : onlyB n n.f1 n.f2 n.f3 false e0 n.f7.length = true) (h1 : n.f7.length = 1) (h2 : 0 ≤ n.f1) (h3 : n.f1 ≤ 2) (h4 : 0 ≤ n.f2) (h5 : n.f2 ≤ 100) (h6 : n.f3 = -1) (m : Nd) (h0 : 0 < n.f7.length) (hm : n.f7[0]'h0 = m) (h9 : m.f0 = 8) :
    Calls Tryz.prog 71 #[.pointer (some ⟨g, 0, none⟩), v, .int .i64 (deep : Int)] w (RetCk none w g mb) := by
  have HM := Aside0.mk must_any
  have hO := fun A6 c6 A7 c7 (hv : v = ndV n A6 c6 A7 c7) W => only_any h 0 n.f1 n.f2 n.f3 false e0 none A7 0 0 n.f7.length c7 W
  rw [ho] at hO
  obtain ⟨A6, c6, A7, c7, rfl, -, -, l7, hC⟩ := h
  have HO := Aside0.mk (hO A6 c6 A7 c7 rfl)
  have HE := Aside0.mk E
  clear hO ho
  have e1 : ((n.f7.length : Int) == 1) = true := by rw [h1]; rfl
  have e6 : (n.f3 == -1) = true := by rw [h6]; rfl
  obtain ⟨ad, P6, p6, P7, p7, rfl, hk, rk⟩ := kids_at hC 0 (by omega)
  have hmem := List.getElem_mem (show 0 < n.f7.length by omega)
  rw [hm] at hk rk hmem
  have HKD := Aside0.mk hk
  have HRK := Aside0.mk rk
  have e3 : 0 < n.f7.length := by omega
  have e4 : (0 : Int) < (n.f7.length : Int) := by omega
  have k8 : (m.f0 == 8) = true := by first | (rw [h9]; rfl) | (rw [beq_eq_false_iff_ne, h9]; decide)
  have k10 : (m.f0 == 10) = false := by first | (rw [h9]; rfl) | (rw [beq_eq_false_iff_ne, h9]; decide)
  have k12 : (m.f0 == 12) = false := by first | (rw [h9]; rfl) | (rw [beq_eq_false_iff_ne, h9]; decide)
  clear hC h1 h6 hk rk hmem hm h0 h9
  go_enter Tryz.func71, Tryz.ntmps71
  go_wp2_with fail
  refine (HO.out _).mono ?_
  rintro e w1 ⟨rfl, hb1⟩
  have HB1 := Aside0.mk (below_box hb1)
  obtain ⟨hbx1, hlt1⟩ := box_after hb1
  have HX1 := Aside0.mk hbx1
  have q1_0 := rowc hbx1 0 _ rfl
  have q1_1 := rowc hbx1 1 _ rfl
  have q1_2 := rowc hbx1 2 _ rfl
  have q1_3 := rowc hbx1 3 _ rfl
  have q1_4 := rowc hbx1 4 _ rfl
  have q1_5 := rowc hbx1 5 _ rfl
  have q1_6 := rowc hbx1 6 _ rfl
  have q1_7 := rowc hbx1 7 _ rfl
  clear hb1 hbx1
  go_wp2_with fail
  refine (HM.out true _).mono ?_
  rintro e w2 ⟨rfl, hb2⟩
  have HB2 := Aside0.mk (below_to HB1.out hb2)
  have hbx2 := (hb2.block _ hlt1).trans HX1.out
  have hlt2 := Nat.lt_of_lt_of_le hlt1 hb2.size
  have HX2 := Aside0.mk hbx2
  have q2_0 := rowc hbx2 0 _ rfl
  have q2_1 := rowc hbx2 1 _ rfl
  have q2_2 := rowc hbx2 2 _ rfl
  have q2_3 := rowc hbx2 3 _ rfl
  have q2_4 := rowc hbx2 4 _ rfl
  have q2_5 := rowc hbx2 5 _ rfl
  have q2_6 := rowc hbx2 6 _ rfl
  have q2_7 := rowc hbx2 7 _ rfl
  clear hb2 hbx2 hlt1 q1_0 q1_1 q1_2 q1_3 q1_4 q1_5 q1_6 q1_7
  go_wp2_with fail
  refine (HM.out true _).mono ?_
  rintro e w3 ⟨rfl, hb3⟩
  have HB3 := Aside0.mk (below_to HB2.out hb3)
  have hbx3 := (hb3.block _ hlt2).trans HX2.out
  have hlt3 := Nat.lt_of_lt_of_le hlt2 hb3.size
  have HX3 := Aside0.mk hbx3
  have q3_0 := rowc hbx3 0 _ rfl
  have q3_1 := rowc hbx3 1 _ rfl
  have q3_2 := rowc hbx3 2 _ rfl
  have q3_3 := rowc hbx3 3 _ rfl
  have q3_4 := rowc hbx3 4 _ rfl
  have q3_5 := rowc hbx3 5 _ rfl
  have q3_6 := rowc hbx3 6 _ rfl
  have q3_7 := rowc hbx3 7 _ rfl
  clear hb3 hbx3 hlt2 q2_0 q2_1 q2_2 q2_3 q2_4 q2_5 q2_6 q2_7
  obtain ⟨x0, x1, x2, x3, x4, x5, x6, x7⟩ := HKD.out.up (HE.out.step HB3.out).bel
  simp only [Nat.zero_mul, Addr.add_zero'] at x0 x1 x2 x3 x4 x5 x6 x7
  go_wp2_with fail
  exact ⟨rfl, RetCk.dead (But.of_below HB3.out)⟩
set_option maxHeartbeats 4000000 in
set_option maxRecDepth 100000 in
theorem rep_k10u (res : ByteArray → Int × ByteArray × Int) (m0 : Int) {n : Nd} (deep : Nat) (c : Gs) (w0 w : World) (g mb : Nat) (v : Value) (h : RdN w0 n v) (E : Env w0 w m0 g mb c) (hd : deep ≤ 50) (ho : onlyB n n.f1 n.f2 n.f3 false e0 n.f7.length = true) (h1 : n.f7.length = 1) (h2 : 0 ≤ n.f1) (h3 : n.f1 ≤ 2) (h4 : 0 ≤ n.f2) (h5 : n.f2 ≤ 100) (h6 : n.f3 = -1) (m : Nd) (h0 : 0 < n.f7.length) (hm : n.f7[0]'h0 = m) (h9 : m.f0 = 10) :
    Calls Tryz.prog 71 #[.pointer (some ⟨g, 0, none⟩), v, .int .i64 (deep : Int)] w (RetCk none w g mb) := by
  have HM := Aside0.mk must_any
  have hO := fun A6 c6 A7 c7 (hv : v = ndV n A6 c6 A7 c7) W => only_any h 0 n.f1 n.f2 n.f3 false e0 none A7 0 0 n.f7.length c7 W
  rw [ho] at hO
  obtain ⟨A6, c6, A7, c7, rfl, -, -, l7, hC⟩ := h
  have HO := Aside0.mk (hO A6 c6 A7 c7 rfl)
  have HE := Aside0.mk E
  clear hO ho
  have e1 : ((n.f7.length : Int) == 1) = true := by rw [h1]; rfl
  have e6 : (n.f3 == -1) = true := by rw [h6]; rfl
  obtain ⟨ad, P6, p6, P7, p7, rfl, hk, rk⟩ := kids_at hC 0 (by omega)
  have hmem := List.getElem_mem (show 0 < n.f7.length by omega)
  rw [hm] at hk rk hmem
  have HKD := Aside0.mk hk
  have HRK := Aside0.mk rk
  have e3 : 0 < n.f7.length := by omega
  have e4 : (0 : Int) < (n.f7.length : Int) := by omega
  have k8 : (m.f0 == 8) = false := by first | (rw [h9]; rfl) | (rw [beq_eq_false_iff_ne, h9]; decide)
  have k10 : (m.f0 == 10) = true := by first | (rw [h9]; rfl) | (rw [beq_eq_false_iff_ne, h9]; decide)
  have k12 : (m.f0 == 12) = false := by first | (rw [h9]; rfl) | (rw [beq_eq_false_iff_ne, h9]; decide)
  clear hC h1 h6 hk rk hmem hm h0 h9
  go_enter Tryz.func71, Tryz.ntmps71
  go_wp2_with fail
  refine (HO.out _).mono ?_
  rintro e w1 ⟨rfl, hb1⟩
  have HB1 := Aside0.mk (below_box hb1)
  obtain ⟨hbx1, hlt1⟩ := box_after hb1
  have HX1 := Aside0.mk hbx1
  have q1_0 := rowc hbx1 0 _ rfl
  have q1_1 := rowc hbx1 1 _ rfl
  have q1_2 := rowc hbx1 2 _ rfl
  have q1_3 := rowc hbx1 3 _ rfl
  have q1_4 := rowc hbx1 4 _ rfl
  have q1_5 := rowc hbx1 5 _ rfl
  have q1_6 := rowc hbx1 6 _ rfl
  have q1_7 := rowc hbx1 7 _ rfl
  clear hb1 hbx1
  go_wp2_with fail
  refine (HM.out true _).mono ?_
  rintro e w2 ⟨rfl, hb2⟩
  have HB2 := Aside0.mk (below_to HB1.out hb2)
  have hbx2 := (hb2.block _ hlt1).trans HX1.out
  have hlt2 := Nat.lt_of_lt_of_le hlt1 hb2.size
  have HX2 := Aside0.mk hbx2
  have q2_0 := rowc hbx2 0 _ rfl
  have q2_1 := rowc hbx2 1 _ rfl
  have q2_2 := rowc hbx2 2 _ rfl
  have q2_3 := rowc hbx2 3 _ rfl
  have q2_4 := rowc hbx2 4 _ rfl
  have q2_5 := rowc hbx2 5 _ rfl
  have q2_6 := rowc hbx2 6 _ rfl
  have q2_7 := rowc hbx2 7 _ rfl
  clear hb2 hbx2 hlt1 q1_0 q1_1 q1_2 q1_3 q1_4 q1_5 q1_6 q1_7
  go_wp2_with fail
  refine (HM.out true _).mono ?_
  rintro e w3 ⟨rfl, hb3⟩
  have HB3 := Aside0.mk (below_to HB2.out hb3)
  have hbx3 := (hb3.block _ hlt2).trans HX2.out
  have hlt3 := Nat.lt_of_lt_of_le hlt2 hb3.size
  have HX3 := Aside0.mk hbx3
  have q3_0 := rowc hbx3 0 _ rfl
  have q3_1 := rowc hbx3 1 _ rfl
  have q3_2 := rowc hbx3 2 _ rfl
  have q3_3 := rowc hbx3 3 _ rfl
  have q3_4 := rowc hbx3 4 _ rfl
  have q3_5 := rowc hbx3 5 _ rfl
  have q3_6 := rowc hbx3 6 _ rfl
  have q3_7 := rowc hbx3 7 _ rfl
  clear hb3 hbx3 hlt2 q2_0 q2_1 q2_2 q2_3 q2_4 q2_5 q2_6 q2_7
  obtain ⟨x0, x1, x2, x3, x4, x5, x6, x7⟩ := HKD.out.up (HE.out.step HB3.out).bel
  simp only [Nat.zero_mul, Addr.add_zero'] at x0 x1 x2 x3 x4 x5 x6 x7
  go_wp2_with fail
  exact ⟨rfl, RetCk.dead (But.of_below HB3.out)⟩
set_option maxHeartbeats 4000000 in
set_option maxRecDepth 100000 in
theorem rep_k12u (res : ByteArray → Int × ByteArray × Int) (m0 : Int) {n : Nd} (deep : Nat) (c : Gs) (w0 w : World) (g mb : Nat) (v : Value) (h : RdN w0 n v) (E : Env w0 w m0 g mb c) (hd : deep ≤ 50) (ho : onlyB n n.f1 n.f2 n.f3 false e0 n.f7.length = true) (h1 : n.f7.length = 1) (h2 : 0 ≤ n.f1) (h3 : n.f1 ≤ 2) (h4 : 0 ≤ n.f2) (h5 : n.f2 ≤ 100) (h6 : n.f3 = -1) (m : Nd) (h0 : 0 < n.f7.length) (hm : n.f7[0]'h0 = m) (h9 : m.f0 = 12) :
    Calls Tryz.prog 71 #[.pointer (some ⟨g, 0, none⟩), v, .int .i64 (deep : Int)] w (RetCk none w g mb) := by
  have HM := Aside0.mk must_any
  have hO := fun A6 c6 A7 c7 (hv : v = ndV n A6 c6 A7 c7) W => only_any h 0 n.f1 n.f2 n.f3 false e0 none A7 0 0 n.f7.length c7 W
  rw [ho] at hO
  obtain ⟨A6, c6, A7, c7, rfl, -, -, l7, hC⟩ := h
  have HO := Aside0.mk (hO A6 c6 A7 c7 rfl)
  have HE := Aside0.mk E
  clear hO ho
  have e1 : ((n.f7.length : Int) == 1) = true := by rw [h1]; rfl
  have e6 : (n.f3 == -1) = true := by rw [h6]; rfl
  obtain ⟨ad, P6, p6, P7, p7, rfl, hk, rk⟩ := kids_at hC 0 (by omega)
  have hmem := List.getElem_mem (show 0 < n.f7.length by omega)
  rw [hm] at hk rk hmem
  have HKD := Aside0.mk hk
  have HRK := Aside0.mk rk
  have e3 : 0 < n.f7.length := by omega
  have e4 : (0 : Int) < (n.f7.length : Int) := by omega
  have k8 : (m.f0 == 8) = false := by first | (rw [h9]; rfl) | (rw [beq_eq_false_iff_ne, h9]; decide)
  have k10 : (m.f0 == 10) = false := by first | (rw [h9]; rfl) | (rw [beq_eq_false_iff_ne, h9]; decide)
  have k12 : (m.f0 == 12) = true := by first | (rw [h9]; rfl) | (rw [beq_eq_false_iff_ne, h9]; decide)
  clear hC h1 h6 hk rk hmem hm h0 h9
  go_enter Tryz.func71, Tryz.ntmps71
  go_wp2_with fail
  refine (HO.out _).mono ?_
  rintro e w1 ⟨rfl, hb1⟩
  have HB1 := Aside0.mk (below_box hb1)
  obtain ⟨hbx1, hlt1⟩ := box_after hb1
  have HX1 := Aside0.mk hbx1
  have q1_0 := rowc hbx1 0 _ rfl
  have q1_1 := rowc hbx1 1 _ rfl
  have q1_2 := rowc hbx1 2 _ rfl
  have q1_3 := rowc hbx1 3 _ rfl
  have q1_4 := rowc hbx1 4 _ rfl
  have q1_5 := rowc hbx1 5 _ rfl
  have q1_6 := rowc hbx1 6 _ rfl
  have q1_7 := rowc hbx1 7 _ rfl
  clear hb1 hbx1
  go_wp2_with fail
  refine (HM.out true _).mono ?_
  rintro e w2 ⟨rfl, hb2⟩
  have HB2 := Aside0.mk (below_to HB1.out hb2)
  have hbx2 := (hb2.block _ hlt1).trans HX1.out
  have hlt2 := Nat.lt_of_lt_of_le hlt1 hb2.size
  have HX2 := Aside0.mk hbx2
  have q2_0 := rowc hbx2 0 _ rfl
  have q2_1 := rowc hbx2 1 _ rfl
  have q2_2 := rowc hbx2 2 _ rfl
  have q2_3 := rowc hbx2 3 _ rfl
  have q2_4 := rowc hbx2 4 _ rfl
  have q2_5 := rowc hbx2 5 _ rfl
  have q2_6 := rowc hbx2 6 _ rfl
  have q2_7 := rowc hbx2 7 _ rfl
  clear hb2 hbx2 hlt1 q1_0 q1_1 q1_2 q1_3 q1_4 q1_5 q1_6 q1_7
  go_wp2_with fail
  refine (HM.out true _).mono ?_
  rintro e w3 ⟨rfl, hb3⟩
  have HB3 := Aside0.mk (below_to HB2.out hb3)
  have hbx3 := (hb3.block _ hlt2).trans HX2.out
  have hlt3 := Nat.lt_of_lt_of_le hlt2 hb3.size
  have HX3 := Aside0.mk hbx3
  have q3_0 := rowc hbx3 0 _ rfl
  have q3_1 := rowc hbx3 1 _ rfl
  have q3_2 := rowc hbx3 2 _ rfl
  have q3_3 := rowc hbx3 3 _ rfl
  have q3_4 := rowc hbx3 4 _ rfl
  have q3_5 := rowc hbx3 5 _ rfl
  have q3_6 := rowc hbx3 6 _ rfl
  have q3_7 := rowc hbx3 7 _ rfl
  clear hb3 hbx3 hlt2 q2_0 q2_1 q2_2 q2_3 q2_4 q2_5 q2_6 q2_7
  obtain ⟨x0, x1, x2, x3, x4, x5, x6, x7⟩ := HKD.out.up (HE.out.step HB3.out).bel
  simp only [Nat.zero_mul, Addr.add_zero'] at x0 x1 x2 x3 x4 x5 x6 x7
  go_wp2_with fail
  exact ⟨rfl, RetCk.dead (But.of_below HB3.out)⟩
set_option maxHeartbeats 4000000 in
set_option maxRecDepth 100000 in
theorem rep_liveu (res : ByteArray → Int × ByteArray × Int) (m0 : Int) {n : Nd} (deep : Nat) (c : Gs) (w0 w : World) (g mb : Nat) (v : Value) (h : RdN w0 n v) (E : Env w0 w m0 g mb c) (hd : deep ≤ 50) (ho : onlyB n n.f1 n.f2 n.f3 false e0 n.f7.length = true) (h1 : n.f7.length = 1) (h2 : 0 ≤ n.f1) (h3 : n.f1 ≤ 2) (h4 : 0 ≤ n.f2) (h5 : n.f2 ≤ 100) (h6 : n.f3 = -1) (m : Nd) (h0 : 0 < n.f7.length) (hm : n.f7[0]'h0 = m) (g8 : m.f0 ≠ 8) (g10 : m.f0 ≠ 10) (g12 : m.f0 ≠ 12) (hP : PartC res m0 m) :
    Calls Tryz.prog 71 #[.pointer (some ⟨g, 0, none⟩), v, .int .i64 (deep : Int)] w (RetCk (partN res m deep c) w g mb) := by
  have HM := Aside0.mk must_any
  have hO := fun A6 c6 A7 c7 (hv : v = ndV n A6 c6 A7 c7) W => only_any h 0 n.f1 n.f2 n.f3 false e0 none A7 0 0 n.f7.length c7 W
  rw [ho] at hO
  obtain ⟨A6, c6, A7, c7, rfl, -, -, l7, hC⟩ := h
  have HO := Aside0.mk (hO A6 c6 A7 c7 rfl)
  have HE := Aside0.mk E
  clear hO ho
  have e1 : ((n.f7.length : Int) == 1) = true := by rw [h1]; rfl
  have e6 : (n.f3 == -1) = true := by rw [h6]; rfl
  obtain ⟨ad, P6, p6, P7, p7, rfl, hk, rk⟩ := kids_at hC 0 (by omega)
  have hmem := List.getElem_mem (show 0 < n.f7.length by omega)
  rw [hm] at hk rk hmem
  have HKD := Aside0.mk hk
  have HRK := Aside0.mk rk
  have e3 : 0 < n.f7.length := by omega
  have e4 : (0 : Int) < (n.f7.length : Int) := by omega
  have k8 : (m.f0 == 8) = false := by rw [beq_eq_false_iff_ne]; exact g8
  have k10 : (m.f0 == 10) = false := by rw [beq_eq_false_iff_ne]; exact g10
  have k12 : (m.f0 == 12) = false := by rw [beq_eq_false_iff_ne]; exact g12
  have hpc := (fun W' E' => hP deep c w0 W' g mb _ rk E' hd)
  obtain ⟨r, hr⟩ : ∃ r, partN res m deep c = r := ⟨_, rfl⟩
  rw [hr] at hpc ⊢
  have HPC := Aside0.mk hpc
  clear hC h1 h6 hk rk hmem hm h0 g8 g10 g12 hpc hP hr
  go_enter Tryz.func71, Tryz.ntmps71
  go_wp2_with fail
  refine (HO.out _).mono ?_
  rintro e w1 ⟨rfl, hb1⟩
  have HB1 := Aside0.mk (below_box hb1)
  obtain ⟨hbx1, hlt1⟩ := box_after hb1
  have HX1 := Aside0.mk hbx1
  have q1_0 := rowc hbx1 0 _ rfl
  have q1_1 := rowc hbx1 1 _ rfl
  have q1_2 := rowc hbx1 2 _ rfl
  have q1_3 := rowc hbx1 3 _ rfl
  have q1_4 := rowc hbx1 4 _ rfl
  have q1_5 := rowc hbx1 5 _ rfl
  have q1_6 := rowc hbx1 6 _ rfl
  have q1_7 := rowc hbx1 7 _ rfl
  clear hb1 hbx1
  go_wp2_with fail
  refine (HM.out true _).mono ?_
  rintro e w2 ⟨rfl, hb2⟩
  have HB2 := Aside0.mk (below_to HB1.out hb2)
  have hbx2 := (hb2.block _ hlt1).trans HX1.out
  have hlt2 := Nat.lt_of_lt_of_le hlt1 hb2.size
  have HX2 := Aside0.mk hbx2
  have q2_0 := rowc hbx2 0 _ rfl
  have q2_1 := rowc hbx2 1 _ rfl
  have q2_2 := rowc hbx2 2 _ rfl
  have q2_3 := rowc hbx2 3 _ rfl
  have q2_4 := rowc hbx2 4 _ rfl
  have q2_5 := rowc hbx2 5 _ rfl
  have q2_6 := rowc hbx2 6 _ rfl
  have q2_7 := rowc hbx2 7 _ rfl
  clear hb2 hbx2 hlt1 q1_0 q1_1 q1_2 q1_3 q1_4 q1_5 q1_6 q1_7
  go_wp2_with fail
  refine (HM.out true _).mono ?_
  rintro e w3 ⟨rfl, hb3⟩
  have HB3 := Aside0.mk (below_to HB2.out hb3)
  have hbx3 := (hb3.block _ hlt2).trans HX2.out
  have hlt3 := Nat.lt_of_lt_of_le hlt2 hb3.size
  have HX3 := Aside0.mk hbx3
  have q3_0 := rowc hbx3 0 _ rfl
  have q3_1 := rowc hbx3 1 _ rfl
  have q3_2 := rowc hbx3 2 _ rfl
  have q3_3 := rowc hbx3 3 _ rfl
  have q3_4 := rowc hbx3 4 _ rfl
  have q3_5 := rowc hbx3 5 _ rfl
  have q3_6 := rowc hbx3 6 _ rfl
  have q3_7 := rowc hbx3 7 _ rfl
  clear hb3 hbx3 hlt2 q2_0 q2_1 q2_2 q2_3 q2_4 q2_5 q2_6 q2_7
  obtain ⟨x0, x1, x2, x3, x4, x5, x6, x7⟩ := HKD.out.up (HE.out.step HB3.out).bel
  simp only [Nat.zero_mul, Addr.add_zero'] at x0 x1 x2 x3 x4 x5 x6 x7
  go_wp2_with fail
  refine (HPC.out _ (HE.out.step HB3.out)).mono ?_
  intro e w4 hr
  cases r with
  | none =>
    obtain ⟨hb, rfl⟩ := RetCk.up (But.of_below HB3.out) hr
    have HBT := Aside0.mk hb
    clear hb hr
    go_wp2_with fail
    exact ⟨rfl, RetCk.dead HBT.out⟩
  | some c' =>
    obtain ⟨hb, rfl, hk⟩ := RetCk.up (But.of_below HB3.out) hr
    have HBT := Aside0.mk hb
    have HKT := Aside0.mk hk
    clear hb hk hr
    go_wp2_with fail
    go_end0
    exact RetCk.fine HBT.out HKT.out
set_option maxHeartbeats 4000000 in
set_option maxRecDepth 100000 in
theorem rep_k8v (res : ByteArray → Int × ByteArray × Int) (m0 : Int) {n : Nd} (deep : Nat) (c : Gs) (w0 w : World) (g mb : Nat) (v : Value) (h : RdN w0 n v) (E : Env w0 w m0 g mb c) (hd : deep ≤ 50) (ho : onlyB n n.f1 n.f2 n.f3 false e0 n.f7.length = true) (h1 : n.f7.length = 1) (h2 : 0 ≤ n.f1) (h3 : n.f1 ≤ 2) (h4 : 0 ≤ n.f2) (h5 : n.f2 ≤ 100) (h6 : n.f3 ≠ -1) (h7 : n.f2 ≤ n.f3) (h8 : n.f3 ≤ 100) (m : Nd) (h0 : 0 < n.f7.length) (hm : n.f7[0]'h0 = m) (h9 : m.f0 = 8) :
    Calls Tryz.prog 71 #[.pointer (some ⟨g, 0, none⟩), v, .int .i64 (deep : Int)] w (RetCk none w g mb) := by
  have HM := Aside0.mk must_any
  have hO := fun A6 c6 A7 c7 (hv : v = ndV n A6 c6 A7 c7) W => only_any h 0 n.f1 n.f2 n.f3 false e0 none A7 0 0 n.f7.length c7 W
  rw [ho] at hO
  obtain ⟨A6, c6, A7, c7, rfl, -, -, l7, hC⟩ := h
  have HO := Aside0.mk (hO A6 c6 A7 c7 rfl)
  have HE := Aside0.mk E
  clear hO ho
  have e1 : ((n.f7.length : Int) == 1) = true := by rw [h1]; rfl
  have e6 : (n.f3 == -1) = false := by rw [beq_eq_false_iff_ne]; exact h6
  obtain ⟨ad, P6, p6, P7, p7, rfl, hk, rk⟩ := kids_at hC 0 (by omega)
  have hmem := List.getElem_mem (show 0 < n.f7.length by omega)
  rw [hm] at hk rk hmem
  have HKD := Aside0.mk hk
  have HRK := Aside0.mk rk
  have e3 : 0 < n.f7.length := by omega
  have e4 : (0 : Int) < (n.f7.length : Int) := by omega
  have k8 : (m.f0 == 8) = true := by first | (rw [h9]; rfl) | (rw [beq_eq_false_iff_ne, h9]; decide)
  have k10 : (m.f0 == 10) = false := by first | (rw [h9]; rfl) | (rw [beq_eq_false_iff_ne, h9]; decide)
  have k12 : (m.f0 == 12) = false := by first | (rw [h9]; rfl) | (rw [beq_eq_false_iff_ne, h9]; decide)
  clear hC h1 h6 hk rk hmem hm h0 h9
  go_enter Tryz.func71, Tryz.ntmps71
  go_wp2_with fail
  refine (HO.out _).mono ?_
  rintro e w1 ⟨rfl, hb1⟩
  have HB1 := Aside0.mk (below_box hb1)
  obtain ⟨hbx1, hlt1⟩ := box_after hb1
  have HX1 := Aside0.mk hbx1
  have q1_0 := rowc hbx1 0 _ rfl
  have q1_1 := rowc hbx1 1 _ rfl
  have q1_2 := rowc hbx1 2 _ rfl
  have q1_3 := rowc hbx1 3 _ rfl
  have q1_4 := rowc hbx1 4 _ rfl
  have q1_5 := rowc hbx1 5 _ rfl
  have q1_6 := rowc hbx1 6 _ rfl
  have q1_7 := rowc hbx1 7 _ rfl
  clear hb1 hbx1
  go_wp2_with fail
  refine (HM.out true _).mono ?_
  rintro e w2 ⟨rfl, hb2⟩
  have HB2 := Aside0.mk (below_to HB1.out hb2)
  have hbx2 := (hb2.block _ hlt1).trans HX1.out
  have hlt2 := Nat.lt_of_lt_of_le hlt1 hb2.size
  have HX2 := Aside0.mk hbx2
  have q2_0 := rowc hbx2 0 _ rfl
  have q2_1 := rowc hbx2 1 _ rfl
  have q2_2 := rowc hbx2 2 _ rfl
  have q2_3 := rowc hbx2 3 _ rfl
  have q2_4 := rowc hbx2 4 _ rfl
  have q2_5 := rowc hbx2 5 _ rfl
  have q2_6 := rowc hbx2 6 _ rfl
  have q2_7 := rowc hbx2 7 _ rfl
  clear hb2 hbx2 hlt1 q1_0 q1_1 q1_2 q1_3 q1_4 q1_5 q1_6 q1_7
  go_wp2_with fail
  refine (HM.out true _).mono ?_
  rintro e w3 ⟨rfl, hb3⟩
  have HB3 := Aside0.mk (below_to HB2.out hb3)
  have hbx3 := (hb3.block _ hlt2).trans HX2.out
  have hlt3 := Nat.lt_of_lt_of_le hlt2 hb3.size
  have HX3 := Aside0.mk hbx3
  have q3_0 := rowc hbx3 0 _ rfl
  have q3_1 := rowc hbx3 1 _ rfl
  have q3_2 := rowc hbx3 2 _ rfl
  have q3_3 := rowc hbx3 3 _ rfl
  have q3_4 := rowc hbx3 4 _ rfl
  have q3_5 := rowc hbx3 5 _ rfl
  have q3_6 := rowc hbx3 6 _ rfl
  have q3_7 := rowc hbx3 7 _ rfl
  clear hb3 hbx3 hlt2 q2_0 q2_1 q2_2 q2_3 q2_4 q2_5 q2_6 q2_7
  obtain ⟨x0, x1, x2, x3, x4, x5, x6, x7⟩ := HKD.out.up (HE.out.step HB3.out).bel
  simp only [Nat.zero_mul, Addr.add_zero'] at x0 x1 x2 x3 x4 x5 x6 x7
  go_wp2_with fail
  exact ⟨rfl, RetCk.dead (But.of_below HB3.out)⟩
set_option maxHeartbeats 4000000 in
set_option maxRecDepth 100000 in
theorem rep_k10v (res : ByteArray → Int × ByteArray × Int) (m0 : Int) {n : Nd} (deep : Nat) (c : Gs) (w0 w : World) (g mb : Nat) (v : Value) (h : RdN w0 n v) (E : Env w0 w m0 g mb c) (hd : deep ≤ 50) (ho : onlyB n n.f1 n.f2 n.f3 false e0 n.f7.length = true) (h1 : n.f7.length = 1) (h2 : 0 ≤ n.f1) (h3 : n.f1 ≤ 2) (h4 : 0 ≤ n.f2) (h5 : n.f2 ≤ 100) (h6 : n.f3 ≠ -1) (h7 : n.f2 ≤ n.f3) (h8 : n.f3 ≤ 100) (m : Nd) (h0 : 0 < n.f7.length) (hm : n.f7[0]'h0 = m) (h9 : m.f0 = 10) :
    Calls Tryz.prog 71 #[.pointer (some ⟨g, 0, none⟩), v, .int .i64 (deep : Int)] w (RetCk none w g mb) := by
  have HM := Aside0.mk must_any
  have hO := fun A6 c6 A7 c7 (hv : v = ndV n A6 c6 A7 c7) W => only_any h 0 n.f1 n.f2 n.f3 false e0 none A7 0 0 n.f7.length c7 W
  rw [ho] at hO
  obtain ⟨A6, c6, A7, c7, rfl, -, -, l7, hC⟩ := h
  have HO := Aside0.mk (hO A6 c6 A7 c7 rfl)
  have HE := Aside0.mk E
  clear hO ho
  have e1 : ((n.f7.length : Int) == 1) = true := by rw [h1]; rfl
  have e6 : (n.f3 == -1) = false := by rw [beq_eq_false_iff_ne]; exact h6
  obtain ⟨ad, P6, p6, P7, p7, rfl, hk, rk⟩ := kids_at hC 0 (by omega)
  have hmem := List.getElem_mem (show 0 < n.f7.length by omega)
  rw [hm] at hk rk hmem
  have HKD := Aside0.mk hk
  have HRK := Aside0.mk rk
  have e3 : 0 < n.f7.length := by omega
  have e4 : (0 : Int) < (n.f7.length : Int) := by omega
  have k8 : (m.f0 == 8) = false := by first | (rw [h9]; rfl) | (rw [beq_eq_false_iff_ne, h9]; decide)
  have k10 : (m.f0 == 10) = true := by first | (rw [h9]; rfl) | (rw [beq_eq_false_iff_ne, h9]; decide)
  have k12 : (m.f0 == 12) = false := by first | (rw [h9]; rfl) | (rw [beq_eq_false_iff_ne, h9]; decide)
  clear hC h1 h6 hk rk hmem hm h0 h9
  go_enter Tryz.func71, Tryz.ntmps71
  go_wp2_with fail
  refine (HO.out _).mono ?_
  rintro e w1 ⟨rfl, hb1⟩
  have HB1 := Aside0.mk (below_box hb1)
  obtain ⟨hbx1, hlt1⟩ := box_after hb1
  have HX1 := Aside0.mk hbx1
  have q1_0 := rowc hbx1 0 _ rfl
  have q1_1 := rowc hbx1 1 _ rfl
  have q1_2 := rowc hbx1 2 _ rfl
  have q1_3 := rowc hbx1 3 _ rfl
  have q1_4 := rowc hbx1 4 _ rfl
  have q1_5 := rowc hbx1 5 _ rfl
  have q1_6 := rowc hbx1 6 _ rfl
  have q1_7 := rowc hbx1 7 _ rfl
  clear hb1 hbx1
  go_wp2_with fail
  refine (HM.out true _).mono ?_
  rintro e w2 ⟨rfl, hb2⟩
  have HB2 := Aside0.mk (below_to HB1.out hb2)
  have hbx2 := (hb2.block _ hlt1).trans HX1.out
  have hlt2 := Nat.lt_of_lt_of_le hlt1 hb2.size
  have HX2 := Aside0.mk hbx2
  have q2_0 := rowc hbx2 0 _ rfl
  have q2_1 := rowc hbx2 1 _ rfl
  have q2_2 := rowc hbx2 2 _ rfl
  have q2_3 := rowc hbx2 3 _ rfl
  have q2_4 := rowc hbx2 4 _ rfl
  have q2_5 := rowc hbx2 5 _ rfl
  have q2_6 := rowc hbx2 6 _ rfl
  have q2_7 := rowc hbx2 7 _ rfl
  clear hb2 hbx2 hlt1 q1_0 q1_1 q1_2 q1_3 q1_4 q1_5 q1_6 q1_7
  go_wp2_with fail
  refine (HM.out true _).mono ?_
  rintro e w3 ⟨rfl, hb3⟩
  have HB3 := Aside0.mk (below_to HB2.out hb3)
  have hbx3 := (hb3.block _ hlt2).trans HX2.out
  have hlt3 := Nat.lt_of_lt_of_le hlt2 hb3.size
  have HX3 := Aside0.mk hbx3
  have q3_0 := rowc hbx3 0 _ rfl
  have q3_1 := rowc hbx3 1 _ rfl
  have q3_2 := rowc hbx3 2 _ rfl
  have q3_3 := rowc hbx3 3 _ rfl
  have q3_4 := rowc hbx3 4 _ rfl
  have q3_5 := rowc hbx3 5 _ rfl
  have q3_6 := rowc hbx3 6 _ rfl
  have q3_7 := rowc hbx3 7 _ rfl
  clear hb3 hbx3 hlt2 q2_0 q2_1 q2_2 q2_3 q2_4 q2_5 q2_6 q2_7
  obtain ⟨x0, x1, x2, x3, x4, x5, x6, x7⟩ := HKD.out.up (HE.out.step HB3.out).bel
  simp only [Nat.zero_mul, Addr.add_zero'] at x0 x1 x2 x3 x4 x5 x6 x7
  go_wp2_with fail
  exact ⟨rfl, RetCk.dead (But.of_below HB3.out)⟩
set_option maxHeartbeats 4000000 in
set_option maxRecDepth 100000 in
theorem rep_k12v (res : ByteArray → Int × ByteArray × Int) (m0 : Int) {n : Nd} (deep : Nat) (c : Gs) (w0 w : World) (g mb : Nat) (v : Value) (h : RdN w0 n v) (E : Env w0 w m0 g mb c) (hd : deep ≤ 50) (ho : onlyB n n.f1 n.f2 n.f3 false e0 n.f7.length = true) (h1 : n.f7.length = 1) (h2 : 0 ≤ n.f1) (h3 : n.f1 ≤ 2) (h4 : 0 ≤ n.f2) (h5 : n.f2 ≤ 100) (h6 : n.f3 ≠ -1) (h7 : n.f2 ≤ n.f3) (h8 : n.f3 ≤ 100) (m : Nd) (h0 : 0 < n.f7.length) (hm : n.f7[0]'h0 = m) (h9 : m.f0 = 12) :
    Calls Tryz.prog 71 #[.pointer (some ⟨g, 0, none⟩), v, .int .i64 (deep : Int)] w (RetCk none w g mb) := by
  have HM := Aside0.mk must_any
  have hO := fun A6 c6 A7 c7 (hv : v = ndV n A6 c6 A7 c7) W => only_any h 0 n.f1 n.f2 n.f3 false e0 none A7 0 0 n.f7.length c7 W
  rw [ho] at hO
  obtain ⟨A6, c6, A7, c7, rfl, -, -, l7, hC⟩ := h
  have HO := Aside0.mk (hO A6 c6 A7 c7 rfl)
  have HE := Aside0.mk E
  clear hO ho
  have e1 : ((n.f7.length : Int) == 1) = true := by rw [h1]; rfl
  have e6 : (n.f3 == -1) = false := by rw [beq_eq_false_iff_ne]; exact h6
  obtain ⟨ad, P6, p6, P7, p7, rfl, hk, rk⟩ := kids_at hC 0 (by omega)
  have hmem := List.getElem_mem (show 0 < n.f7.length by omega)
  rw [hm] at hk rk hmem
  have HKD := Aside0.mk hk
  have HRK := Aside0.mk rk
  have e3 : 0 < n.f7.length := by omega
  have e4 : (0 : Int) < (n.f7.length : Int) := by omega
  have k8 : (m.f0 == 8) = false := by first | (rw [h9]; rfl) | (rw [beq_eq_false_iff_ne, h9]; decide)
  have k10 : (m.f0 == 10) = false := by first | (rw [h9]; rfl) | (rw [beq_eq_false_iff_ne, h9]; decide)
  have k12 : (m.f0 == 12) = true := by first | (rw [h9]; rfl) | (rw [beq_eq_false_iff_ne, h9]; decide)
  clear hC h1 h6 hk rk hmem hm h0 h9
  go_enter Tryz.func71, Tryz.ntmps71
  go_wp2_with fail
  refine (HO.out _).mono ?_
  rintro e w1 ⟨rfl, hb1⟩
  have HB1 := Aside0.mk (below_box hb1)
  obtain ⟨hbx1, hlt1⟩ := box_after hb1
  have HX1 := Aside0.mk hbx1
  have q1_0 := rowc hbx1 0 _ rfl
  have q1_1 := rowc hbx1 1 _ rfl
  have q1_2 := rowc hbx1 2 _ rfl
  have q1_3 := rowc hbx1 3 _ rfl
  have q1_4 := rowc hbx1 4 _ rfl
  have q1_5 := rowc hbx1 5 _ rfl
  have q1_6 := rowc hbx1 6 _ rfl
  have q1_7 := rowc hbx1 7 _ rfl
  clear hb1 hbx1
  go_wp2_with fail
  refine (HM.out true _).mono ?_
  rintro e w2 ⟨rfl, hb2⟩
  have HB2 := Aside0.mk (below_to HB1.out hb2)
  have hbx2 := (hb2.block _ hlt1).trans HX1.out
  have hlt2 := Nat.lt_of_lt_of_le hlt1 hb2.size
  have HX2 := Aside0.mk hbx2
  have q2_0 := rowc hbx2 0 _ rfl
  have q2_1 := rowc hbx2 1 _ rfl
  have q2_2 := rowc hbx2 2 _ rfl
  have q2_3 := rowc hbx2 3 _ rfl
  have q2_4 := rowc hbx2 4 _ rfl
  have q2_5 := rowc hbx2 5 _ rfl
  have q2_6 := rowc hbx2 6 _ rfl
  have q2_7 := rowc hbx2 7 _ rfl
  clear hb2 hbx2 hlt1 q1_0 q1_1 q1_2 q1_3 q1_4 q1_5 q1_6 q1_7
  go_wp2_with fail
  refine (HM.out true _).mono ?_
  rintro e w3 ⟨rfl, hb3⟩
  have HB3 := Aside0.mk (below_to HB2.out hb3)
  have hbx3 := (hb3.block _ hlt2).trans HX2.out
  have hlt3 := Nat.lt_of_lt_of_le hlt2 hb3.size
  have HX3 := Aside0.mk hbx3
  have q3_0 := rowc hbx3 0 _ rfl
  have q3_1 := rowc hbx3 1 _ rfl
  have q3_2 := rowc hbx3 2 _ rfl
  have q3_3 := rowc hbx3 3 _ rfl
  have q3_4 := rowc hbx3 4 _ rfl
  have q3_5 := rowc hbx3 5 _ rfl
  have q3_6 := rowc hbx3 6 _ rfl
  have q3_7 := rowc hbx3 7 _ rfl
  clear hb3 hbx3 hlt2 q2_0 q2_1 q2_2 q2_3 q2_4 q2_5 q2_6 q2_7
  obtain ⟨x0, x1, x2, x3, x4, x5, x6, x7⟩ := HKD.out.up (HE.out.step HB3.out).bel
  simp only [Nat.zero_mul, Addr.add_zero'] at x0 x1 x2 x3 x4 x5 x6 x7
  go_wp2_with fail
  exact ⟨rfl, RetCk.dead (But.of_below HB3.out)⟩
set_option maxHeartbeats 4000000 in
set_option maxRecDepth 100000 in
theorem rep_livev (res : ByteArray → Int × ByteArray × Int) (m0 : Int) {n : Nd} (deep : Nat) (c : Gs) (w0 w : World) (g mb : Nat) (v : Value) (h : RdN w0 n v) (E : Env w0 w m0 g mb c) (hd : deep ≤ 50) (ho : onlyB n n.f1 n.f2 n.f3 false e0 n.f7.length = true) (h1 : n.f7.length = 1) (h2 : 0 ≤ n.f1) (h3 : n.f1 ≤ 2) (h4 : 0 ≤ n.f2) (h5 : n.f2 ≤ 100) (h6 : n.f3 ≠ -1) (h7 : n.f2 ≤ n.f3) (h8 : n.f3 ≤ 100) (m : Nd) (h0 : 0 < n.f7.length) (hm : n.f7[0]'h0 = m) (g8 : m.f0 ≠ 8) (g10 : m.f0 ≠ 10) (g12 : m.f0 ≠ 12) (hP : PartC res m0 m) :
    Calls Tryz.prog 71 #[.pointer (some ⟨g, 0, none⟩), v, .int .i64 (deep : Int)] w (RetCk (partN res m deep c) w g mb) := by
  have HM := Aside0.mk must_any
  have hO := fun A6 c6 A7 c7 (hv : v = ndV n A6 c6 A7 c7) W => only_any h 0 n.f1 n.f2 n.f3 false e0 none A7 0 0 n.f7.length c7 W
  rw [ho] at hO
  obtain ⟨A6, c6, A7, c7, rfl, -, -, l7, hC⟩ := h
  have HO := Aside0.mk (hO A6 c6 A7 c7 rfl)
  have HE := Aside0.mk E
  clear hO ho
  have e1 : ((n.f7.length : Int) == 1) = true := by rw [h1]; rfl
  have e6 : (n.f3 == -1) = false := by rw [beq_eq_false_iff_ne]; exact h6
  obtain ⟨ad, P6, p6, P7, p7, rfl, hk, rk⟩ := kids_at hC 0 (by omega)
  have hmem := List.getElem_mem (show 0 < n.f7.length by omega)
  rw [hm] at hk rk hmem
  have HKD := Aside0.mk hk
  have HRK := Aside0.mk rk
  have e3 : 0 < n.f7.length := by omega
  have e4 : (0 : Int) < (n.f7.length : Int) := by omega
  have k8 : (m.f0 == 8) = false := by rw [beq_eq_false_iff_ne]; exact g8
  have k10 : (m.f0 == 10) = false := by rw [beq_eq_false_iff_ne]; exact g10
  have k12 : (m.f0 == 12) = false := by rw [beq_eq_false_iff_ne]; exact g12
  have hpc := (fun W' E' => hP deep c w0 W' g mb _ rk E' hd)
  obtain ⟨r, hr⟩ : ∃ r, partN res m deep c = r := ⟨_, rfl⟩
  rw [hr] at hpc ⊢
  have HPC := Aside0.mk hpc
  clear hC h1 h6 hk rk hmem hm h0 g8 g10 g12 hpc hP hr
  go_enter Tryz.func71, Tryz.ntmps71
  go_wp2_with fail
  refine (HO.out _).mono ?_
  rintro e w1 ⟨rfl, hb1⟩
  have HB1 := Aside0.mk (below_box hb1)
  obtain ⟨hbx1, hlt1⟩ := box_after hb1
  have HX1 := Aside0.mk hbx1
  have q1_0 := rowc hbx1 0 _ rfl
  have q1_1 := rowc hbx1 1 _ rfl
  have q1_2 := rowc hbx1 2 _ rfl
  have q1_3 := rowc hbx1 3 _ rfl
  have q1_4 := rowc hbx1 4 _ rfl
  have q1_5 := rowc hbx1 5 _ rfl
  have q1_6 := rowc hbx1 6 _ rfl
  have q1_7 := rowc hbx1 7 _ rfl
  clear hb1 hbx1
  go_wp2_with fail
  refine (HM.out true _).mono ?_
  rintro e w2 ⟨rfl, hb2⟩
  have HB2 := Aside0.mk (below_to HB1.out hb2)
  have hbx2 := (hb2.block _ hlt1).trans HX1.out
  have hlt2 := Nat.lt_of_lt_of_le hlt1 hb2.size
  have HX2 := Aside0.mk hbx2
  have q2_0 := rowc hbx2 0 _ rfl
  have q2_1 := rowc hbx2 1 _ rfl
  have q2_2 := rowc hbx2 2 _ rfl
  have q2_3 := rowc hbx2 3 _ rfl
  have q2_4 := rowc hbx2 4 _ rfl
  have q2_5 := rowc hbx2 5 _ rfl
  have q2_6 := rowc hbx2 6 _ rfl
  have q2_7 := rowc hbx2 7 _ rfl
  clear hb2 hbx2 hlt1 q1_0 q1_1 q1_2 q1_3 q1_4 q1_5 q1_6 q1_7
  go_wp2_with fail
  refine (HM.out true _).mono ?_
  rintro e w3 ⟨rfl, hb3⟩
  have HB3 := Aside0.mk (below_to HB2.out hb3)
  have hbx3 := (hb3.block _ hlt2).trans HX2.out
  have hlt3 := Nat.lt_of_lt_of_le hlt2 hb3.size
  have HX3 := Aside0.mk hbx3
  have q3_0 := rowc hbx3 0 _ rfl
  have q3_1 := rowc hbx3 1 _ rfl
  have q3_2 := rowc hbx3 2 _ rfl
  have q3_3 := rowc hbx3 3 _ rfl
  have q3_4 := rowc hbx3 4 _ rfl
  have q3_5 := rowc hbx3 5 _ rfl
  have q3_6 := rowc hbx3 6 _ rfl
  have q3_7 := rowc hbx3 7 _ rfl
  clear hb3 hbx3 hlt2 q2_0 q2_1 q2_2 q2_3 q2_4 q2_5 q2_6 q2_7
  obtain ⟨x0, x1, x2, x3, x4, x5, x6, x7⟩ := HKD.out.up (HE.out.step HB3.out).bel
  simp only [Nat.zero_mul, Addr.add_zero'] at x0 x1 x2 x3 x4 x5 x6 x7
  go_wp2_with fail
  refine (HPC.out _ (HE.out.step HB3.out)).mono ?_
  intro e w4 hr
  cases r with
  | none =>
    obtain ⟨hb, rfl⟩ := RetCk.up (But.of_below HB3.out) hr
    have HBT := Aside0.mk hb
    clear hb hr
    go_wp2_with fail
    exact ⟨rfl, RetCk.dead HBT.out⟩
  | some c' =>
    obtain ⟨hb, rfl, hk⟩ := RetCk.up (But.of_below HB3.out) hr
    have HBT := Aside0.mk hb
    have HKT := Aside0.mk hk
    clear hb hk hr
    go_wp2_with fail
    go_end0
    exact RetCk.fine HBT.out HKT.out

end Go.Proofs.YtkipjalfgdfaiaaGreatDoor
namespace Go.Proofs.YtkipjalfgdfaiaaGreatDoor
set_option linter.unusedVariables false
set_option linter.unusedSimpArgs false
open Go.RowKit Go.Proofs.YtkipjalfgdfaiaaGreatDoorW.PrintWords Go.Proofs.YtkipjalfgdfaiaaGreatDoorW.PrintLast Go.Proofs.YtkipjalfgdfaiaaGreatDoorW.PrintMore Go.Proofs.YtkipjalfgdfaiaaGreatDoor.PTk

attribute [local go_sem ↓] Go.wp_at_zero Go.wp_at_succ
set_option maxHeartbeats 4000000 in
set_option maxRecDepth 100000 in
theorem part_char (res : ByteArray → Int × ByteArray × Int) (m0 : Int) {n : Nd} (deep : Nat) (c : Gs) (w0 w : World) (g mb : Nat) (v : Value) (h : RdN w0 n v) (E : Env w0 w m0 g mb c) (hd : deep ≤ 50) (h0 : n.f0 = 1)  :
    Calls Tryz.prog 51 #[.pointer (some ⟨g, 0, none⟩), v, .int .i64 (deep : Int)] w (RetCk (if (onlyB n 0 n.f2 0 false e0 0 && runeB n.f2) = true then some c else none) w g mb) := by
  have HM := Aside0.mk must_any
  have HQ := Aside0.mk must_eq
  have hO := fun A6 c6 A7 c7 (hv : v = ndV n A6 c6 A7 c7) W => only_any h 0 0 n.f2 0 false e0 none none 0 0 0 0 W
  obtain ⟨A6, c6, A7, c7, rfl, -, -, l7, hC⟩ := h
  have HE := Aside0.mk E
  have HO := Aside0.mk (hO A6 c6 A7 c7 rfl)
  clear hO
  have t1 : (n.f0 == 1) = true := by rw [h0]; rfl
  obtain ⟨r, hr⟩ : ∃ r, (if (onlyB n 0 n.f2 0 false e0 0 && runeB n.f2) = true then some c else none) = r := ⟨_, rfl⟩
  rw [hr]
  have HRR := Aside0.mk hr
  clear hr hC h0
  go_enter Tryz.func51, Tryz.ntmps51
  go_wp2_with fail
  have hc0 := fun W' => HO.out W'
  cases hq0 : onlyB n 0 n.f2 0 false e0 0 with
  | false =>
    rw [hq0] at hc0
    have HRN : Aside0 (r = none) := ⟨by rw [← HRR.out, hq0]; simp⟩
    refine (hc0 _).mono ?_
    rintro e w1 ⟨rfl, hb1⟩
    have HB1 := Aside0.mk (below_box hb1)
    clear hb1 hc0 
    clear hq0
    go_wp2_with fail
    exact ⟨rfl, by rw [HRN.out]; exact RetCk.dead (But.of_below HB1.out)⟩
  | true =>
    rw [hq0] at hc0
    refine (hc0 _).mono ?_
    rintro e w1 ⟨rfl, hb1⟩
    have HB1 := Aside0.mk (below_box hb1)
    obtain ⟨hbx1, hlt1⟩ := box_after hb1
    have HX1 := Aside0.mk hbx1
    have q1_2 := rowc hbx1 2 _ rfl
    clear hb1 hbx1
    clear hc0
    go_wp2_with fail
    have hc1 := fun (_ : Unit) => point_any n.f2 w1 m0 ((HE.out.tv.stay HE.out.bel).stay HB1.out)
    cases hq1 : runeB n.f2 with
    | false =>
      rw [hq1] at hc1
      have HRN : Aside0 (r = none) := ⟨by rw [← HRR.out, hq0, hq1]; simp⟩
      refine (hc1 ()).mono ?_
      rintro e w2 ⟨rfl, hb2⟩
      have HB2 := Aside0.mk (below_to HB1.out hb2)
      clear hb2 hc1 q1_2
      clear hq0 hq1
      go_wp2_with fail
      exact ⟨rfl, by rw [HRN.out]; exact RetCk.dead (But.of_below HB2.out)⟩
    | true =>
      rw [hq1] at hc1
      refine (hc1 ()).mono ?_
      rintro e w2 ⟨rfl, hb2⟩
      have HB2 := Aside0.mk (below_to HB1.out hb2)
      have hbx2 := (hb2.block _ hlt1).trans HX1.out
      have hlt2 := Nat.lt_of_lt_of_le hlt1 hb2.size
      have HX2 := Aside0.mk hbx2
      clear hb2 hbx2 hlt1 q1_2
      clear hc1
      go_wp2_with fail
      have HRS : Aside0 (r = some c) := ⟨by rw [← HRR.out, hq0, hq1]; simp⟩
      go_end0
      rw [HRS.out]
      exact RetCk.fine (But.of_below HB2.out) (HE.out.chk.below HB2.out)
set_option maxHeartbeats 4000000 in
set_option maxRecDepth 100000 in
theorem part_any (res : ByteArray → Int × ByteArray × Int) (m0 : Int) {n : Nd} (deep : Nat) (c : Gs) (w0 w : World) (g mb : Nat) (v : Value) (h : RdN w0 n v) (E : Env w0 w m0 g mb c) (hd : deep ≤ 50) (h0 : n.f0 = 2)  :
    Calls Tryz.prog 51 #[.pointer (some ⟨g, 0, none⟩), v, .int .i64 (deep : Int)] w (RetCk (if (onlyB n 0 0 0 false e0 0) = true then some c else none) w g mb) := by
  have HM := Aside0.mk must_any
  have HQ := Aside0.mk must_eq
  have hO := fun A6 c6 A7 c7 (hv : v = ndV n A6 c6 A7 c7) W => only_any h 0 0 0 0 false e0 none none 0 0 0 0 W
  obtain ⟨A6, c6, A7, c7, rfl, -, -, l7, hC⟩ := h
  have HE := Aside0.mk E
  have HO := Aside0.mk (hO A6 c6 A7 c7 rfl)
  clear hO
  have t1 : (n.f0 == 1) = false := by rw [beq_eq_false_iff_ne, h0]; decide
  have t2 : (n.f0 == 2) = true := by rw [h0]; rfl
  obtain ⟨r, hr⟩ : ∃ r, (if (onlyB n 0 0 0 false e0 0) = true then some c else none) = r := ⟨_, rfl⟩
  rw [hr]
  have HRR := Aside0.mk hr
  clear hr hC h0
  go_enter Tryz.func51, Tryz.ntmps51
  go_wp2_with fail
  have hc0 := fun W' => HO.out W'
  cases hq0 : onlyB n 0 0 0 false e0 0 with
  | false =>
    rw [hq0] at hc0
    have HRN : Aside0 (r = none) := ⟨by rw [← HRR.out, hq0]; simp⟩
    refine (hc0 _).mono ?_
    rintro e w1 ⟨rfl, hb1⟩
    have HB1 := Aside0.mk (below_box hb1)
    clear hb1 hc0 
    clear hq0
    go_wp2_with fail
    exact ⟨rfl, by rw [HRN.out]; exact RetCk.dead (But.of_below HB1.out)⟩
  | true =>
    rw [hq0] at hc0
    refine (hc0 _).mono ?_
    rintro e w1 ⟨rfl, hb1⟩
    have HB1 := Aside0.mk (below_box hb1)
    obtain ⟨hbx1, hlt1⟩ := box_after hb1
    have HX1 := Aside0.mk hbx1
    clear hb1 hbx1
    clear hc0
    go_wp2_with fail
    have HRS : Aside0 (r = some c) := ⟨by rw [← HRR.out, hq0]; simp⟩
    go_end0
    rw [HRS.out]
    exact RetCk.fine (But.of_below HB1.out) (HE.out.chk.below HB1.out)
set_option maxHeartbeats 4000000 in
set_option maxRecDepth 100000 in
theorem part_cluster (res : ByteArray → Int × ByteArray × Int) (m0 : Int) {n : Nd} (deep : Nat) (c : Gs) (w0 w : World) (g mb : Nat) (v : Value) (h : RdN w0 n v) (E : Env w0 w m0 g mb c) (hd : deep ≤ 50) (h0 : n.f0 = 14)  :
    Calls Tryz.prog 51 #[.pointer (some ⟨g, 0, none⟩), v, .int .i64 (deep : Int)] w (RetCk (if (onlyB n 0 0 0 false e0 0) = true then some c else none) w g mb) := by
  have HM := Aside0.mk must_any
  have HQ := Aside0.mk must_eq
  have hO := fun A6 c6 A7 c7 (hv : v = ndV n A6 c6 A7 c7) W => only_any h 0 0 0 0 false e0 none none 0 0 0 0 W
  obtain ⟨A6, c6, A7, c7, rfl, -, -, l7, hC⟩ := h
  have HE := Aside0.mk E
  have HO := Aside0.mk (hO A6 c6 A7 c7 rfl)
  clear hO
  have t1 : (n.f0 == 1) = false := by rw [beq_eq_false_iff_ne, h0]; decide
  have t2 : (n.f0 == 2) = false := by rw [beq_eq_false_iff_ne, h0]; decide
  have t14 : (n.f0 == 14) = true := by rw [h0]; rfl
  obtain ⟨r, hr⟩ : ∃ r, (if (onlyB n 0 0 0 false e0 0) = true then some c else none) = r := ⟨_, rfl⟩
  rw [hr]
  have HRR := Aside0.mk hr
  clear hr hC h0
  go_enter Tryz.func51, Tryz.ntmps51
  go_wp2_with fail
  have hc0 := fun W' => HO.out W'
  cases hq0 : onlyB n 0 0 0 false e0 0 with
  | false =>
    rw [hq0] at hc0
    have HRN : Aside0 (r = none) := ⟨by rw [← HRR.out, hq0]; simp⟩
    refine (hc0 _).mono ?_
    rintro e w1 ⟨rfl, hb1⟩
    have HB1 := Aside0.mk (below_box hb1)
    clear hb1 hc0 
    clear hq0
    go_wp2_with fail
    exact ⟨rfl, by rw [HRN.out]; exact RetCk.dead (But.of_below HB1.out)⟩
  | true =>
    rw [hq0] at hc0
    refine (hc0 _).mono ?_
    rintro e w1 ⟨rfl, hb1⟩
    have HB1 := Aside0.mk (below_box hb1)
    obtain ⟨hbx1, hlt1⟩ := box_after hb1
    have HX1 := Aside0.mk hbx1
    clear hb1 hbx1
    clear hc0
    go_wp2_with fail
    have HRS : Aside0 (r = some c) := ⟨by rw [← HRR.out, hq0]; simp⟩
    go_end0
    rw [HRS.out]
    exact RetCk.fine (But.of_below HB1.out) (HE.out.chk.below HB1.out)
set_option maxHeartbeats 4000000 in
set_option maxRecDepth 100000 in
theorem part_class (res : ByteArray → Int × ByteArray × Int) (m0 : Int) {n : Nd} (deep : Nat) (c : Gs) (w0 w : World) (g mb : Nat) (v : Value) (h : RdN w0 n v) (E : Env w0 w m0 g mb c) (hd : deep ≤ 50) (h0 : n.f0 = 3) (hX : ∀ v W', RdN w0 n v → Below w.heap.size w W' → Calls Tryz.prog 69 #[v, .int .i64 ((deep : Int) + 1)] W' (OkPan (classN res n (deep + 1)) W')) :
    Calls Tryz.prog 51 #[.pointer (some ⟨g, 0, none⟩), v, .int .i64 (deep : Int)] w (RetCk (if (classN res n (deep + 1)) = true then some c else none) w g mb) := by
  have HM := Aside0.mk must_any
  have HQ := Aside0.mk must_eq
  have hx := fun W' hb => hX v W' h hb
  have HX := Aside0.mk hx
  clear hX hx
  obtain ⟨A6, c6, A7, c7, rfl, -, -, l7, hC⟩ := h
  have HE := Aside0.mk E
  have t1 : (n.f0 == 1) = false := by rw [beq_eq_false_iff_ne, h0]; decide
  have t2 : (n.f0 == 2) = false := by rw [beq_eq_false_iff_ne, h0]; decide
  have t14 : (n.f0 == 14) = false := by rw [beq_eq_false_iff_ne, h0]; decide
  have t3 : (n.f0 == 3) = true := by rw [h0]; rfl
  obtain ⟨r, hr⟩ : ∃ r, (if (classN res n (deep + 1)) = true then some c else none) = r := ⟨_, rfl⟩
  rw [hr]
  have HRR := Aside0.mk hr
  clear hr hC h0
  go_enter Tryz.func51, Tryz.ntmps51
  go_wp2_with fail
  have hc0 := fun oo => HX.out (w.alloc oo) (below_alloc (Below.refl _ _) oo)
  cases hq0 : classN res n (deep + 1) with
  | false =>
    rw [hq0] at hc0
    have HRN : Aside0 (r = none) := ⟨by rw [← HRR.out, hq0]; simp⟩
    refine (hc0 _).mono ?_
    rintro e w1 ⟨rfl, hb1⟩
    have HB1 := Aside0.mk (below_box hb1)
    clear hb1 hc0 
    clear hq0
    go_wp2_with fail
    exact ⟨rfl, by rw [HRN.out]; exact RetCk.dead (But.of_below HB1.out)⟩
  | true =>
    rw [hq0] at hc0
    refine (hc0 _).mono ?_
    rintro e w1 ⟨rfl, hb1⟩
    have HB1 := Aside0.mk (below_box hb1)
    obtain ⟨hbx1, hlt1⟩ := box_after hb1
    have HX1 := Aside0.mk hbx1
    clear hb1 hbx1
    clear hc0
    go_wp2_with fail
    have HRS : Aside0 (r = some c) := ⟨by rw [← HRR.out, hq0]; simp⟩
    go_end0
    rw [HRS.out]
    exact RetCk.fine (But.of_below HB1.out) (HE.out.chk.below HB1.out)
set_option maxHeartbeats 4000000 in
set_option maxRecDepth 100000 in
theorem part_prop (res : ByteArray → Int × ByteArray × Int) (m0 : Int) {n : Nd} (deep : Nat) (c : Gs) (w0 w : World) (g mb : Nat) (v : Value) (h : RdN w0 n v) (E : Env w0 w m0 g mb c) (hd : deep ≤ 50) (h0 : n.f0 = 5) (hX : ∀ v W', RdN w0 n v → Below w.heap.size w W' → Calls Tryz.prog 70 #[v] W' (OkPan (propN res n) W')) :
    Calls Tryz.prog 51 #[.pointer (some ⟨g, 0, none⟩), v, .int .i64 (deep : Int)] w (RetCk (if (propN res n) = true then some c else none) w g mb) := by
  have HM := Aside0.mk must_any
  have HQ := Aside0.mk must_eq
  have hx := fun W' hb => hX v W' h hb
  have HX := Aside0.mk hx
  clear hX hx
  obtain ⟨A6, c6, A7, c7, rfl, -, -, l7, hC⟩ := h
  have HE := Aside0.mk E
  have t1 : (n.f0 == 1) = false := by rw [beq_eq_false_iff_ne, h0]; decide
  have t2 : (n.f0 == 2) = false := by rw [beq_eq_false_iff_ne, h0]; decide
  have t14 : (n.f0 == 14) = false := by rw [beq_eq_false_iff_ne, h0]; decide
  have t3 : (n.f0 == 3) = false := by rw [beq_eq_false_iff_ne, h0]; decide
  have t5 : (n.f0 == 5) = true := by rw [h0]; rfl
  obtain ⟨r, hr⟩ : ∃ r, (if (propN res n) = true then some c else none) = r := ⟨_, rfl⟩
  rw [hr]
  have HRR := Aside0.mk hr
  clear hr hC h0
  go_enter Tryz.func51, Tryz.ntmps51
  go_wp2_with fail
  have hc0 := fun oo => HX.out (w.alloc oo) (below_alloc (Below.refl _ _) oo)
  cases hq0 : propN res n with
  | false =>
    rw [hq0] at hc0
    have HRN : Aside0 (r = none) := ⟨by rw [← HRR.out, hq0]; simp⟩
    refine (hc0 _).mono ?_
    rintro e w1 ⟨rfl, hb1⟩
    have HB1 := Aside0.mk (below_box hb1)
    clear hb1 hc0 
    clear hq0
    go_wp2_with fail
    exact ⟨rfl, by rw [HRN.out]; exact RetCk.dead (But.of_below HB1.out)⟩
  | true =>
    rw [hq0] at hc0
    refine (hc0 _).mono ?_
    rintro e w1 ⟨rfl, hb1⟩
    have HB1 := Aside0.mk (below_box hb1)
    obtain ⟨hbx1, hlt1⟩ := box_after hb1
    have HX1 := Aside0.mk hbx1
    clear hb1 hbx1
    clear hc0
    go_wp2_with fail
    have HRS : Aside0 (r = some c) := ⟨by rw [← HRR.out, hq0]; simp⟩
    go_end0
    rw [HRS.out]
    exact RetCk.fine (But.of_below HB1.out) (HE.out.chk.below HB1.out)
set_option maxHeartbeats 4000000 in
set_option maxRecDepth 100000 in
theorem part_assert (res : ByteArray → Int × ByteArray × Int) (m0 : Int) {n : Nd} (deep : Nat) (c : Gs) (w0 w : World) (g mb : Nat) (v : Value) (h : RdN w0 n v) (E : Env w0 w m0 g mb c) (hd : deep ≤ 50) (h0 : n.f0 = 12)  :
    Calls Tryz.prog 51 #[.pointer (some ⟨g, 0, none⟩), v, .int .i64 (deep : Int)] w (RetCk (if (onlyB n n.f1 0 0 false e0 0 && decide (1 ≤ n.f1) && decide (n.f1 ≤ 10)) = true then some c else none) w g mb) := by
  have HM := Aside0.mk must_any
  have HQ := Aside0.mk must_eq
  have hO := fun A6 c6 A7 c7 (hv : v = ndV n A6 c6 A7 c7) W => only_any h 0 n.f1 0 0 false e0 none none 0 0 0 0 W
  obtain ⟨A6, c6, A7, c7, rfl, -, -, l7, hC⟩ := h
  have HE := Aside0.mk E
  have HO := Aside0.mk (hO A6 c6 A7 c7 rfl)
  clear hO
  have t1 : (n.f0 == 1) = false := by rw [beq_eq_false_iff_ne, h0]; decide
  have t2 : (n.f0 == 2) = false := by rw [beq_eq_false_iff_ne, h0]; decide
  have t14 : (n.f0 == 14) = false := by rw [beq_eq_false_iff_ne, h0]; decide
  have t3 : (n.f0 == 3) = false := by rw [beq_eq_false_iff_ne, h0]; decide
  have t5 : (n.f0 == 5) = false := by rw [beq_eq_false_iff_ne, h0]; decide
  have t12 : (n.f0 == 12) = true := by rw [h0]; rfl
  obtain ⟨r, hr⟩ : ∃ r, (if (onlyB n n.f1 0 0 false e0 0 && decide (1 ≤ n.f1) && decide (n.f1 ≤ 10)) = true then some c else none) = r := ⟨_, rfl⟩
  rw [hr]
  have HRR := Aside0.mk hr
  clear hr hC h0
  go_enter Tryz.func51, Tryz.ntmps51
  go_wp2_with fail
  have hc0 := fun W' => HO.out W'
  cases hq0 : onlyB n n.f1 0 0 false e0 0 with
  | false =>
    rw [hq0] at hc0
    have HRN : Aside0 (r = none) := ⟨by rw [← HRR.out, hq0]; simp⟩
    refine (hc0 _).mono ?_
    rintro e w1 ⟨rfl, hb1⟩
    have HB1 := Aside0.mk (below_box hb1)
    clear hb1 hc0 
    clear hq0
    go_wp2_with fail
    exact ⟨rfl, by rw [HRN.out]; exact RetCk.dead (But.of_below HB1.out)⟩
  | true =>
    rw [hq0] at hc0
    refine (hc0 _).mono ?_
    rintro e w1 ⟨rfl, hb1⟩
    have HB1 := Aside0.mk (below_box hb1)
    obtain ⟨hbx1, hlt1⟩ := box_after hb1
    have HX1 := Aside0.mk hbx1
    have q1_0 := rowc hbx1 0 _ rfl
    have q1_1 := rowc hbx1 1 _ rfl
    have q1_2 := rowc hbx1 2 _ rfl
    have q1_3 := rowc hbx1 3 _ rfl
    have q1_4 := rowc hbx1 4 _ rfl
    have q1_5 := rowc hbx1 5 _ rfl
    have q1_6 := rowc hbx1 6 _ rfl
    have q1_7 := rowc hbx1 7 _ rfl
    clear hb1 hbx1
    clear hc0
    by_cases g1 : 1 ≤ n.f1
    rotate_left
    · have HRN : Aside0 (r = none) := ⟨by rw [← HRR.out, hq0]; simp [g1]⟩
      clear hq0
      go_wp2_with fail
      refine (HM.out false _).mono ?_
      rintro e w2 ⟨rfl, hb2⟩
      have HB2 := Aside0.mk (below_to HB1.out hb2)
      clear hb2 q1_0 q1_1 q1_2 q1_3 q1_4 q1_5 q1_6 q1_7
      go_wp2_with fail
      exact ⟨rfl, by rw [HRN.out]; exact RetCk.dead (But.of_below HB2.out)⟩
    by_cases g2 : n.f1 ≤ 10
    rotate_left
    · have HRN : Aside0 (r = none) := ⟨by rw [← HRR.out, hq0]; simp [g1, g2]⟩
      have d2 : decide (n.f1 ≤ 10) = false := decide_eq_false g2
      clear g2
      clear hq0
      go_wp2_with fail
      refine (HM.out false _).mono ?_
      rintro e w2 ⟨rfl, hb2⟩
      have HB2 := Aside0.mk (below_to HB1.out hb2)
      clear hb2 q1_0 q1_1 q1_2 q1_3 q1_4 q1_5 q1_6 q1_7
      go_wp2_with fail
      exact ⟨rfl, by rw [HRN.out]; exact RetCk.dead (But.of_below HB2.out)⟩
    have HRS : Aside0 (r = some c) := ⟨by rw [← HRR.out, hq0]; simp [g1, g2]⟩
    clear hq0
    go_wp2_with fail
    refine (HM.out true _).mono ?_
    rintro e w2 ⟨rfl, hb2⟩
    have HB2 := Aside0.mk (below_to HB1.out hb2)
    have hbx2 := (hb2.block _ hlt1).trans HX1.out
    have hlt2 := Nat.lt_of_lt_of_le hlt1 hb2.size
    have HX2 := Aside0.mk hbx2
    clear hb2 hbx2 hlt1 q1_0 q1_1 q1_2 q1_3 q1_4 q1_5 q1_6 q1_7
    go_wp2_with fail
    go_end0
    rw [HRS.out]
    exact RetCk.fine (But.of_below HB2.out) (HE.out.chk.below HB2.out)
set_option maxHeartbeats 4000000 in
set_option maxRecDepth 100000 in
theorem part_look (res : ByteArray → Int × ByteArray × Int) (m0 : Int) {n : Nd} (deep : Nat) (c : Gs) (w0 w : World) (g mb : Nat) (v : Value) (h : RdN w0 n v) (E : Env w0 w m0 g mb c) (hd : deep ≤ 50) (h0 : n.f0 = 10) (hX : ∀ v W', RdN w0 n v → Env w0 W' m0 g mb c → Calls Tryz.prog 73 #[.pointer (some ⟨g, 0, none⟩), v, .int .i64 (deep : Int)] W' (RetCk (withK res n.f7 deep c) W' g mb)) :
    Calls Tryz.prog 51 #[.pointer (some ⟨g, 0, none⟩), v, .int .i64 (deep : Int)] w (RetCk (if (onlyB n n.f1 0 0 false e0 n.f7.length && decide (0 ≤ n.f1) && decide (n.f1 ≤ 3)) = true then withK res n.f7 deep c else none) w g mb) := by
  have HM := Aside0.mk must_any
  have HQ := Aside0.mk must_eq
  have hO := fun A6 c6 A7 c7 (hv : v = ndV n A6 c6 A7 c7) W => only_any h 0 n.f1 0 0 false e0 none A7 0 0 n.f7.length c7 W
  have hx := fun W' hb => hX v W' h hb
  have HX := Aside0.mk hx
  clear hX hx
  obtain ⟨A6, c6, A7, c7, rfl, -, -, l7, hC⟩ := h
  have HE := Aside0.mk E
  have HO := Aside0.mk (hO A6 c6 A7 c7 rfl)
  clear hO
  have t1 : (n.f0 == 1) = false := by rw [beq_eq_false_iff_ne, h0]; decide
  have t2 : (n.f0 == 2) = false := by rw [beq_eq_false_iff_ne, h0]; decide
  have t14 : (n.f0 == 14) = false := by rw [beq_eq_false_iff_ne, h0]; decide
  have t3 : (n.f0 == 3) = false := by rw [beq_eq_false_iff_ne, h0]; decide
  have t5 : (n.f0 == 5) = false := by rw [beq_eq_false_iff_ne, h0]; decide
  have t12 : (n.f0 == 12) = false := by rw [beq_eq_false_iff_ne, h0]; decide
  have t13 : (n.f0 == 13) = false := by rw [beq_eq_false_iff_ne, h0]; decide
  have t8 : (n.f0 == 8) = false := by rw [beq_eq_false_iff_ne, h0]; decide
  have t9 : (n.f0 == 9) = false := by rw [beq_eq_false_iff_ne, h0]; decide
  have t10 : (n.f0 == 10) = true := by rw [h0]; rfl
  obtain ⟨r, hr⟩ : ∃ r, (if (onlyB n n.f1 0 0 false e0 n.f7.length && decide (0 ≤ n.f1) && decide (n.f1 ≤ 3)) = true then withK res n.f7 deep c else none) = r := ⟨_, rfl⟩
  rw [hr]
  have HRR := Aside0.mk hr
  clear hr hC h0
  go_enter Tryz.func51, Tryz.ntmps51
  go_wp2_with fail
  have hc0 := fun W' => HO.out W'
  cases hq0 : onlyB n n.f1 0 0 false e0 n.f7.length with
  | false =>
    rw [hq0] at hc0
    have HRN : Aside0 (r = none) := ⟨by rw [← HRR.out, hq0]; simp⟩
    refine (hc0 _).mono ?_
    rintro e w1 ⟨rfl, hb1⟩
    have HB1 := Aside0.mk (below_box hb1)
    clear hb1 hc0 
    clear hq0
    go_wp2_with fail
    exact ⟨rfl, by rw [HRN.out]; exact RetCk.dead (But.of_below HB1.out)⟩
  | true =>
    rw [hq0] at hc0
    refine (hc0 _).mono ?_
    rintro e w1 ⟨rfl, hb1⟩
    have HB1 := Aside0.mk (below_box hb1)
    obtain ⟨hbx1, hlt1⟩ := box_after hb1
    have HX1 := Aside0.mk hbx1
    have q1_0 := rowc hbx1 0 _ rfl
    have q1_1 := rowc hbx1 1 _ rfl
    have q1_2 := rowc hbx1 2 _ rfl
    have q1_3 := rowc hbx1 3 _ rfl
    have q1_4 := rowc hbx1 4 _ rfl
    have q1_5 := rowc hbx1 5 _ rfl
    have q1_6 := rowc hbx1 6 _ rfl
    have q1_7 := rowc hbx1 7 _ rfl
    clear hb1 hbx1
    clear hc0
    by_cases g1 : 0 ≤ n.f1
    rotate_left
    · have HRN : Aside0 (r = none) := ⟨by rw [← HRR.out, hq0]; simp [g1]⟩
      clear hq0
      go_wp2_with fail
      refine (HM.out false _).mono ?_
      rintro e w2 ⟨rfl, hb2⟩
      have HB2 := Aside0.mk (below_to HB1.out hb2)
      clear hb2 q1_0 q1_1 q1_2 q1_3 q1_4 q1_5 q1_6 q1_7
      go_wp2_with fail
      exact ⟨rfl, by rw [HRN.out]; exact RetCk.dead (But.of_below HB2.out)⟩
    by_cases g2 : n.f1 ≤ 3
    rotate_left
    · have HRN : Aside0 (r = none) := ⟨by rw [← HRR.out, hq0]; simp [g1, g2]⟩
      have d2 : decide (n.f1 ≤ 3) = false := decide_eq_false g2
      clear g2
      clear hq0
      go_wp2_with fail
      refine (HM.out false _).mono ?_
      rintro e w2 ⟨rfl, hb2⟩
      have HB2 := Aside0.mk (below_to HB1.out hb2)
      clear hb2 q1_0 q1_1 q1_2 q1_3 q1_4 q1_5 q1_6 q1_7
      go_wp2_with fail
      exact ⟨rfl, by rw [HRN.out]; exact RetCk.dead (But.of_below HB2.out)⟩
    have HRS : Aside0 (r = withK res n.f7 deep c) := ⟨by rw [← HRR.out, hq0]; simp [g1, g2]⟩
    clear hq0
    go_wp2_with fail
    refine (HM.out true _).mono ?_
    rintro e w2 ⟨rfl, hb2⟩
    have HB2 := Aside0.mk (below_to HB1.out hb2)
    have hbx2 := (hb2.block _ hlt1).trans HX1.out
    have hlt2 := Nat.lt_of_lt_of_le hlt1 hb2.size
    have HX2 := Aside0.mk hbx2
    have q2_0 := rowc hbx2 0 _ rfl
    have q2_1 := rowc hbx2 1 _ rfl
    have q2_2 := rowc hbx2 2 _ rfl
    have q2_3 := rowc hbx2 3 _ rfl
    have q2_4 := rowc hbx2 4 _ rfl
    have q2_5 := rowc hbx2 5 _ rfl
    have q2_6 := rowc hbx2 6 _ rfl
    have q2_7 := rowc hbx2 7 _ rfl
    clear hb2 hbx2 hlt1 q1_0 q1_1 q1_2 q1_3 q1_4 q1_5 q1_6 q1_7
    go_wp2_with fail
    obtain ⟨r', hr'⟩ : ∃ r', withK res n.f7 deep c = r' := ⟨_, rfl⟩
    have hx := HX.out w2 (HE.out.step HB2.out)
    have HRS2 := Aside0.mk HRS.out
    rw [hr'] at hx HRS2
    clear hr' HRS
    refine hx.mono ?_
    clear hx
    intro e w3 hr
    cases r' with
    | none =>
      obtain ⟨hb, rfl⟩ := RetCk.up (But.of_below HB2.out) hr
      have HBT := Aside0.mk hb
      clear hb hr q2_0 q2_1 q2_2 q2_3 q2_4 q2_5 q2_6 q2_7
      go_wp2_with fail
      exact ⟨rfl, by rw [HRS2.out]; exact RetCk.dead HBT.out⟩
    | some c' =>
      obtain ⟨hb, rfl, hk⟩ := RetCk.up (But.of_below HB2.out) hr
      have HBT := Aside0.mk hb
      have HKT := Aside0.mk hk
      clear hb hk hr q2_0 q2_1 q2_2 q2_3 q2_4 q2_5 q2_6 q2_7
      go_wp2_with fail
      go_end0
      rw [HRS2.out]
      exact RetCk.fine HBT.out HKT.out
set_option maxHeartbeats 4000000 in
set_option maxRecDepth 100000 in
theorem part_atomic (res : ByteArray → Int × ByteArray × Int) (m0 : Int) {n : Nd} (deep : Nat) (c : Gs) (w0 w : World) (g mb : Nat) (v : Value) (h : RdN w0 n v) (E : Env w0 w m0 g mb c) (hd : deep ≤ 50) (h0 : n.f0 = 11) (hX : ∀ v W', RdN w0 n v → Env w0 W' m0 g mb c → Calls Tryz.prog 73 #[.pointer (some ⟨g, 0, none⟩), v, .int .i64 (deep : Int)] W' (RetCk (withK res n.f7 deep c) W' g mb)) :
    Calls Tryz.prog 51 #[.pointer (some ⟨g, 0, none⟩), v, .int .i64 (deep : Int)] w (RetCk (if onlyB n 0 0 0 false e0 n.f7.length = true then withK res n.f7 deep c else none) w g mb) := by
  have HM := Aside0.mk must_any
  have HQ := Aside0.mk must_eq
  have hO := fun A6 c6 A7 c7 (hv : v = ndV n A6 c6 A7 c7) W => only_any h 0 0 0 0 false e0 none A7 0 0 n.f7.length c7 W
  have hx := fun W' hb => hX v W' h hb
  have HX := Aside0.mk hx
  clear hX hx
  obtain ⟨A6, c6, A7, c7, rfl, -, -, l7, hC⟩ := h
  have HE := Aside0.mk E
  have HO := Aside0.mk (hO A6 c6 A7 c7 rfl)
  clear hO
  have t1 : (n.f0 == 1) = false := by rw [beq_eq_false_iff_ne, h0]; decide
  have t2 : (n.f0 == 2) = false := by rw [beq_eq_false_iff_ne, h0]; decide
  have t14 : (n.f0 == 14) = false := by rw [beq_eq_false_iff_ne, h0]; decide
  have t3 : (n.f0 == 3) = false := by rw [beq_eq_false_iff_ne, h0]; decide
  have t5 : (n.f0 == 5) = false := by rw [beq_eq_false_iff_ne, h0]; decide
  have t12 : (n.f0 == 12) = false := by rw [beq_eq_false_iff_ne, h0]; decide
  have t13 : (n.f0 == 13) = false := by rw [beq_eq_false_iff_ne, h0]; decide
  have t8 : (n.f0 == 8) = false := by rw [beq_eq_false_iff_ne, h0]; decide
  have t9 : (n.f0 == 9) = false := by rw [beq_eq_false_iff_ne, h0]; decide
  have t10 : (n.f0 == 10) = false := by rw [beq_eq_false_iff_ne, h0]; decide
  have t11 : (n.f0 == 11) = true := by rw [h0]; rfl
  obtain ⟨r, hr⟩ : ∃ r, (if onlyB n 0 0 0 false e0 n.f7.length = true then withK res n.f7 deep c else none) = r := ⟨_, rfl⟩
  rw [hr]
  have HRR := Aside0.mk hr
  clear hr hC h0
  go_enter Tryz.func51, Tryz.ntmps51
  go_wp2_with fail
  have hc0 := fun W' => HO.out W'
  cases hq0 : onlyB n 0 0 0 false e0 n.f7.length with
  | false =>
    rw [hq0] at hc0
    have HRN : Aside0 (r = none) := ⟨by rw [← HRR.out, hq0]; simp⟩
    refine (hc0 _).mono ?_
    rintro e w1 ⟨rfl, hb1⟩
    have HB1 := Aside0.mk (below_box hb1)
    clear hb1 hc0 
    clear hq0
    go_wp2_with fail
    exact ⟨rfl, by rw [HRN.out]; exact RetCk.dead (But.of_below HB1.out)⟩
  | true =>
    rw [hq0] at hc0
    refine (hc0 _).mono ?_
    rintro e w1 ⟨rfl, hb1⟩
    have HB1 := Aside0.mk (below_box hb1)
    obtain ⟨hbx1, hlt1⟩ := box_after hb1
    have HX1 := Aside0.mk hbx1
    have q1_0 := rowc hbx1 0 _ rfl
    have q1_1 := rowc hbx1 1 _ rfl
    have q1_2 := rowc hbx1 2 _ rfl
    have q1_3 := rowc hbx1 3 _ rfl
    have q1_4 := rowc hbx1 4 _ rfl
    have q1_5 := rowc hbx1 5 _ rfl
    have q1_6 := rowc hbx1 6 _ rfl
    have q1_7 := rowc hbx1 7 _ rfl
    clear hb1 hbx1
    clear hc0
    go_wp2_with fail
    have HRS : Aside0 (r = withK res n.f7 deep c) := ⟨by rw [← HRR.out, hq0]; simp⟩
    clear hq0
    obtain ⟨r', hr'⟩ : ∃ r', withK res n.f7 deep c = r' := ⟨_, rfl⟩
    have hx := HX.out w1 (HE.out.step HB1.out)
    have HRS2 := Aside0.mk HRS.out
    rw [hr'] at hx HRS2
    clear hr' HRS
    refine hx.mono ?_
    clear hx
    intro e w2 hr
    cases r' with
    | none =>
      obtain ⟨hb, rfl⟩ := RetCk.up (But.of_below HB1.out) hr
      have HBT := Aside0.mk hb
      clear hb hr q1_0 q1_1 q1_2 q1_3 q1_4 q1_5 q1_6 q1_7
      go_wp2_with fail
      exact ⟨rfl, by rw [HRS2.out]; exact RetCk.dead HBT.out⟩
    | some c' =>
      obtain ⟨hb, rfl, hk⟩ := RetCk.up (But.of_below HB1.out) hr
      have HBT := Aside0.mk hb
      have HKT := Aside0.mk hk
      clear hb hk hr q1_0 q1_1 q1_2 q1_3 q1_4 q1_5 q1_6 q1_7
      go_wp2_with fail
      go_end0
      rw [HRS2.out]
      exact RetCk.fine HBT.out HKT.out
set_option maxHeartbeats 4000000 in
set_option maxRecDepth 100000 in
theorem part_repeat (res : ByteArray → Int × ByteArray × Int) (m0 : Int) {n : Nd} (deep : Nat) (c : Gs) (w0 w : World) (g mb : Nat) (v : Value) (h : RdN w0 n v) (E : Env w0 w m0 g mb c) (hd : deep ≤ 50) (h0 : n.f0 = 8) (q : Option Gs) (hX : ∀ v W', RdN w0 n v → Env w0 W' m0 g mb c → Calls Tryz.prog 71 #[.pointer (some ⟨g, 0, none⟩), v, .int .i64 (deep : Int)] W' (RetCk q W' g mb)) :
    Calls Tryz.prog 51 #[.pointer (some ⟨g, 0, none⟩), v, .int .i64 (deep : Int)] w (RetCk (q) w g mb) := by
  have HM := Aside0.mk must_any
  have HQ := Aside0.mk must_eq
  have hx := fun W' hb => hX v W' h hb
  clear hX
  obtain ⟨A6, c6, A7, c7, rfl, -, -, l7, hC⟩ := h
  have HE := Aside0.mk E
  have t1 : (n.f0 == 1) = false := by rw [beq_eq_false_iff_ne, h0]; decide
  have t2 : (n.f0 == 2) = false := by rw [beq_eq_false_iff_ne, h0]; decide
  have t14 : (n.f0 == 14) = false := by rw [beq_eq_false_iff_ne, h0]; decide
  have t3 : (n.f0 == 3) = false := by rw [beq_eq_false_iff_ne, h0]; decide
  have t5 : (n.f0 == 5) = false := by rw [beq_eq_false_iff_ne, h0]; decide
  have t12 : (n.f0 == 12) = false := by rw [beq_eq_false_iff_ne, h0]; decide
  have t13 : (n.f0 == 13) = false := by rw [beq_eq_false_iff_ne, h0]; decide
  have t8 : (n.f0 == 8) = true := by rw [h0]; rfl
  obtain ⟨r, hr⟩ : ∃ r, q = r := ⟨_, rfl⟩
  rw [hr] at hx ⊢
  have HX := Aside0.mk hx
  clear hr hC h0 hx
  go_enter Tryz.func51, Tryz.ntmps51
  go_wp2_with fail
  refine (HX.out _ (HE.out.step (below_alloc (Below.refl _ _) _))).mono ?_
  intro e w1 hr
  have hr2 := RetCk.up (But.of_below (below_alloc (Below.refl _ _) _)) hr
  clear hr
  cases r with
  | none =>
    obtain ⟨hb, rfl⟩ := hr2
    have HBT := Aside0.mk hb
    clear hb
    go_wp2_with fail
    exact ⟨rfl, RetCk.dead HBT.out⟩
  | some c' =>
    obtain ⟨hb, rfl, hk⟩ := hr2
    have HBT := Aside0.mk hb
    have HKT := Aside0.mk hk
    clear hb hk
    go_wp2_with fail
    go_end0
    exact RetCk.fine HBT.out HKT.out
set_option maxHeartbeats 4000000 in
set_option maxRecDepth 100000 in
theorem part_default (res : ByteArray → Int × ByteArray × Int) (m0 : Int) {n : Nd} (deep : Nat) (c : Gs) (w0 w : World) (g mb : Nat) (v : Value) (h : RdN w0 n v) (E : Env w0 w m0 g mb c) (hd : deep ≤ 50) (h0 : ∀ k ∈ [1, 2, 14, 3, 5, 12, 13, 8, 9, 10, 11], n.f0 ≠ (k : Int)) :
    Calls Tryz.prog 51 #[.pointer (some ⟨g, 0, none⟩), v, .int .i64 (deep : Int)] w (RetCk ((none : Option Gs)) w g mb) := by
  have HM := Aside0.mk must_any
  have HQ := Aside0.mk must_eq
  obtain ⟨A6, c6, A7, c7, rfl, -, -, l7, hC⟩ := h
  have HE := Aside0.mk E
  have t1 : (n.f0 == 1) = false := by rw [beq_eq_false_iff_ne]; exact h0 1 (by simp)
  have t2 : (n.f0 == 2) = false := by rw [beq_eq_false_iff_ne]; exact h0 2 (by simp)
  have t14 : (n.f0 == 14) = false := by rw [beq_eq_false_iff_ne]; exact h0 14 (by simp)
  have t3 : (n.f0 == 3) = false := by rw [beq_eq_false_iff_ne]; exact h0 3 (by simp)
  have t5 : (n.f0 == 5) = false := by rw [beq_eq_false_iff_ne]; exact h0 5 (by simp)
  have t12 : (n.f0 == 12) = false := by rw [beq_eq_false_iff_ne]; exact h0 12 (by simp)
  have t13 : (n.f0 == 13) = false := by rw [beq_eq_false_iff_ne]; exact h0 13 (by simp)
  have t8 : (n.f0 == 8) = false := by rw [beq_eq_false_iff_ne]; exact h0 8 (by simp)
  have t9 : (n.f0 == 9) = false := by rw [beq_eq_false_iff_ne]; exact h0 9 (by simp)
  have t10 : (n.f0 == 10) = false := by rw [beq_eq_false_iff_ne]; exact h0 10 (by simp)
  have t11 : (n.f0 == 11) = false := by rw [beq_eq_false_iff_ne]; exact h0 11 (by simp)
  have HRN : Aside0 (∀ r : Option Gs, none = r → r = none) := ⟨fun r h => h.symm⟩
  obtain ⟨r, hr⟩ : ∃ r, ((none : Option Gs)) = r := ⟨_, rfl⟩
  rw [hr]
  have HRR := Aside0.mk hr
  clear hr hC
  go_enter Tryz.func51, Tryz.ntmps51
  go_wp2_with fail
  exact ⟨rfl, by rw [HRN.out r HRR.out]; exact RetCk.dead (But.of_below (below_alloc (Below.refl _ _) _))⟩

end Go.Proofs.YtkipjalfgdfaiaaGreatDoor
