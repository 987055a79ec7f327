/- Walks: same (parts), Spoil of one text of a row of parts. -/
import Derived.Test.YtaejogkinniakaaDoorEdW
import Derived.Test.YtaejogkinniakaaDoorEdRT
import Derived.Test.YtaejogkinniakaaDoorWEqStruct
namespace Go.Proofs.YtaejogkinniakaaDoor
set_option linter.unusedVariables false
set_option linter.unusedSimpArgs false
open Go.RowKit Go.Proofs.YtaejogkinniakaaDoorW.PrintWords Go.Proofs.YtaejogkinniakaaDoorW.PrintLast Go.Proofs.YtaejogkinniakaaDoorW.PrintMore Go.Proofs.YtaejogkinniakaaDoor.PEd

theorem eqFault (d : Nat) (w : World) (x0 y0 : Int) (x1 y1 : Int) :
    (Op.equalIn (d + 2) 28 (.agg #[.int .i64 x0, .int .i64 x1]) (.agg #[.int .i64 y0, .int .i64 y1])).run Tryd.prog w = .ok (x0 == y0 && (x1 == y1)) w := by
  refine eqA_of Tryd.underlying28 (by kernel_rfl) ?_
  refine eqf_cons (by rfl) (by go_simp; rfl) (by go_simp; rfl) (by go_simp) ?_
  exact eqf_last (by rfl) (by go_simp; rfl) (by go_simp; rfl) (by go_simp)
/-- A row of so many parts, of the call's own. -/
def PtO (W : World) (base : Nat) (v : Value) (n : Nat) : Prop := ∃ ys : List S37, ys.length = n ∧ Own k37 37 W base v ys
theorem list_of {α : Type} {n : Nat} {Q : Nat → α → Prop} (h : ∀ i, i < n → ∃ p, Q i p) : ∃ l : List α, l.length = n ∧ ∀ i p, l[i]? = some p → Q i p := by
  induction n with
  | zero => exact ⟨[], rfl, fun i p hp => by cases hp⟩
  | succ n ih =>
    obtain ⟨l, hl, hq⟩ := ih (fun i hi => h i (by omega))
    obtain ⟨p, hp⟩ := h n (by omega)
    refine ⟨l ++ [p], by simp [hl], fun i q hi => ?_⟩
    rcases Nat.lt_or_ge i n with hlt | hge
    · rw [List.getElem?_append_left (by omega)] at hi
      exact hq i q hi
    · rw [List.getElem?_append_right (by omega)] at hi
      have hi0 : i - l.length = 0 := by
        have := (List.getElem?_eq_some_iff.1 hi).1
        simpa using this
      rw [hi0] at hi
      cases hi
      have : i = n := by omega
      rw [this]
      exact hp
theorem PtO.set {W : World} {base : Nat} {v : Value} {n : Nat} (h : PtO W base v n) {g : Nat} {cs : Array Value} (hg : W.heap[g]? = some (.cells cs 5 (0, 0))) (j : Nat) (u : Int) : PtO (W.setCell ⟨g, j, none⟩ (.int .u8 u)) base v n := by
  obtain ⟨ys, hl, -, inner, ho, hr⟩ := h
  have hN : ∀ i, i < n → ∃ p : S37, k37.M (W.setCell ⟨g, j, none⟩ (.int .u8 u)) base (fun k => True ∧ some k ≠ v.ownBlock) p ((inner.drop (i * k37.sz)).take k37.sz) := fun i hi => by
    obtain ⟨v0, e, hR⟩ := k37_openM (hr.2 i ys[i] (List.getElem?_eq_getElem (by omega)))
    obtain ⟨zs, hz, hR2⟩ := any_set hR g j u
    rw [e]
    exact ⟨⟨zs, ys[i].f1⟩, k37_mkM _ _ _ ⟨zs, ys[i].f1⟩ hR2⟩
  obtain ⟨l, hll, hq⟩ := list_of hN
  refine ⟨l, hll, fun _ _ => trivial, inner, ?_, ?_, hq⟩
  · rw [hll, ← hl]
    exact own_setCell ho (own_ne ho hg (by decide)) _
  · rw [hr.1, hll, hl]
theorem PtO.cell {W : World} {base : Nat} {v : Value} {n : Nat} (h : PtO W base v n) {k : Nat} (hk : k < n) : ∃ g c A0 c0 xs a, v = .slice (some ⟨g, 0, none⟩) n c ∧ W.cell? ⟨g, k * 2, none⟩ = some (.slice A0 xs.length c0) ∧ W.cell? ⟨g, k * 2 + 1, none⟩ = some (.int .i64 a) ∧ Own kB 5 W base (.slice A0 xs.length c0) xs := by
  obtain ⟨ys, hl, -, inner, ho, hr⟩ := h
  obtain ⟨v0, e, hR⟩ := k37_openM (hr.2 k ys[k] (List.getElem?_eq_getElem (by omega)))
  obtain ⟨A0, c0, rfl⟩ := Kd.R_slice hR
  have hsz : k37.sz = 2 := rfl
  rw [hsz] at e
  have hin : ∀ i u, ([Value.slice A0 ys[k].f0.length c0, .int .i64 ys[k].f1])[i]? = some u → inner[k * 2 + i]? = some u := fun i u hu => by
    rw [← e, List.getElem?_take] at hu
    split at hu
    · rwa [List.getElem?_drop] at hu
    · cases hu
  obtain ⟨h1, h2⟩ := ho
  rcases h2 with ⟨_, h3⟩ | ⟨g, cap, cur, rfl, hb, hh, hc, hm, hsz2, ht⟩
  · omega
  · have hcur : ∀ i u, inner[i]? = some u → cur[i]? = some u := fun i u hu => by
      rw [← ht, List.getElem?_take] at hu
      split at hu
      · rwa [Array.getElem?_toList] at hu
      · cases hu
    refine ⟨g, cap, A0, c0, ys[k].f0, ys[k].f1, by rw [hl], row_cell hh _ _ (hcur _ _ (hin 0 _ rfl)), row_cell hh _ _ (hcur _ _ (hin 1 _ rfl)), Kd.R_mono hR (fun _ _ => trivial)⟩
theorem PtO.slice {W : World} {base : Nat} {v : Value} {n : Nat} (h : PtO W base v n) : ∃ A c, v = .slice A n c := by
  obtain ⟨ys, hl, hR⟩ := h
  rw [← hl]
  exact Kd.R_slice hR
set_option maxHeartbeats 4000000 in
set_option maxRecDepth 100000 in
theorem spoil_inv (I : World → Prop) (hI : ∀ W g cs j u, W.heap[g]? = some (.cells cs 5 (0, 0)) → I W → I (W.setCell ⟨g, j, none⟩ (.int .u8 u))) (w : World) (hw : I w) (base : Nat) (v : Value) (hs : List Value) (h : SpR w base v hs) (hl : hs.length ≤ 9223372036854775807) :
    Calls Tryd.prog 13 #[v] w fun e w' => e = .returned (.tuple #[]) ∧ I w' ∧ Below base w w' := by
  obtain ⟨A, c, rfl⟩ := h.slice
  have HH := Aside0.mk (And.intro h hw)
  have HI := Aside0.mk hI
  clear h hw hI
  go_enter Tryd.func13, Tryd.ntmps13
  go_wp2
  go_loopg [7] hs.length (fun gk i w' => ∃ k : Nat, i = .int .i64 (k : Int) ∧ Aside0 (k ≤ hs.length ∧ gk = hs.length - k) ∧ Aside0 (SpR w' base (.slice A hs.length c) hs ∧ I w') ∧ Aside0 (Below base w w'))
  case atStart => exact ⟨0, by first | rfl | simp, ⟨Nat.zero_le _, rfl⟩, HH, ⟨Below.refl _ _⟩⟩
  case round =>
    obtain ⟨k, rfl, HA, HS, HB⟩ := hrel
    by_cases hk : k < hs.length
    · obtain ⟨gv, c', e, hx⟩ := HS.out.1.cell hk
      cases e
      obtain ⟨h, hh⟩ : ∃ h, hs[k] = h := ⟨_, rfl⟩
      have hmem : h ∈ hs := by rw [← hh]; exact List.getElem_mem hk
      rw [hh] at hx
      obtain ⟨xs0, hR0⟩ := HS.out.1.2 h hmem
      obtain ⟨Ah, ch, rfl⟩ := Kd.R_slice hR0
      obtain ⟨n, hn⟩ : ∃ n, xs0.length = n := ⟨_, rfl⟩
      have hnm := (Kd.R_reads' hR0).2.2.2.1
      rw [hn] at hx hmem hnm
      have HMEM := Aside0.mk hmem
      clear hR0 hh hmem hn
      have hkd : decide ((k : Int) < (hs.length : Int)) = true := decide_eq_true (by omega)
      go_wp2
      go_loopg [13] n (fun gj i w' => ∃ j : Nat, i = .int .i64 (j : Int) ∧ Aside0 (j ≤ n ∧ gj = n - j) ∧ Aside0 (SpR w' base (.slice (some ⟨gv, 0, none⟩) hs.length c) hs ∧ I w') ∧ Aside0 (Below base w w'))
      case atStart => exact ⟨0, by first | rfl | simp, ⟨Nat.zero_le _, rfl⟩, HS, HB⟩
      case round =>
        obtain ⟨j, rfl, HJ, HT, HC⟩ := hrel
        by_cases hj : j < n
        · obtain ⟨xs, hR⟩ := HT.out.1.2 _ HMEM.out
          have hln := (Kd.R_reads' hR).1
          obtain ⟨g, cap, e, hg1, hg2, cs, hcs⟩ := Kd.R_form hR (by omega)
          cases e
          obtain ⟨hc0, hf0⟩ := own_atI hR j (by omega)
          have HSET := Aside0.mk (fun u => And.intro (HT.out.1.set hcs j u) (HI.out _ g cs j u hcs HT.out.2))
          have HBB := Aside0.mk (fun u => HC.out.setCell (p := ⟨g, j, none⟩) hg1 (.int .u8 u))
          obtain ⟨b0, hb0⟩ : ∃ b0, xs[j]'(by omega) = b0 := ⟨_, rfl⟩
          rw [hb0] at hc0
          clear hR hcs hb0
          have hjd : decide ((j : Int) < (xs.length : Int)) = true := decide_eq_true (by omega)
          clear hln
          go_wp2
          go_roundg (xs.length - j - 1)
          case measure => have := HJ.out; omega
          case rel => exact ⟨j + 1, by go_num, ⟨by omega, by have := HJ.out; omega⟩, ⟨HSET.out _⟩, ⟨HBB.out _⟩⟩
        · go_wp2
          go_roundg (hs.length - k - 1)
          case measure => have := HA.out; omega
          case rel => exact ⟨k + 1, by go_num, ⟨by omega, by have := HA.out; omega⟩, HT, HC⟩
    · go_wp2
      go_end0
      exact ⟨rfl, HS.out.2, HB.out⟩
/-- The row of one text that is handed to Spoil. -/
theorem one_sp {W : World} {base : Nat} {v : Value} {xs : List Int} (hb : base ≤ W.heap.size) (h : Own kB 5 W base v xs) : SpR (W.alloc (.cells #[v] 22)) base (.slice (some ⟨W.heap.size, 0, none⟩) 1 1) [v] := by
  refine ⟨⟨rfl, .inr ⟨W.heap.size, 1, #[v], rfl, hb, heap_alloc_new _ _, by simp, by decide, by simp, rfl⟩⟩, fun x hx => ?_⟩
  have : x = v := by simpa using hx
  rw [this]
  exact ⟨xs, Kd.R_alloc h _⟩
theorem PtO.alloc {W : World} {base : Nat} {v : Value} {n : Nat} (h : PtO W base v n) (o : Obj) : PtO (W.alloc o) base v n := by
  obtain ⟨ys, hl, hR⟩ := h
  exact ⟨ys, hl, Kd.R_alloc hR _⟩

/-! ### same -/
set_option maxHeartbeats 4000000 in
set_option maxRecDepth 100000 in
theorem same1_any (w : World) (A1 A2 : Option Addr) (c1 c2 : Nat) (q : List Int) (a : Int) (h1 : Kd.C kB w A1 q.length q) (h2 : q.length ≤ c1) (h3 : Kd.C kB w A2 q.length q) (h4 : q.length ≤ c2) :
    Calls Tryd.prog 28 #[.agg #[.slice A1 q.length c1, .int .i64 a], .agg #[.slice A2 q.length c2, .int .i64 a]] w fun e w' => e = .returned (.bool true) ∧ Below w.heap.size w w' := by
  have HE := Aside0.mk (fun W (hW : Below w.heap.size w W) => equalB_any W (.slice A1 q.length c1) (.slice A2 q.length c2) q ⟨A1, c1, rfl, h2, Kd.C_below h1 hW⟩ ⟨A2, c2, rfl, h4, Kd.C_below h3 hW⟩)
  have HB : Aside0 (Below w.heap.size w ((w.alloc (.cells #[.slice A1 q.length c1, .int .i64 a] 37)).alloc (.cells #[.slice A2 q.length c2, .int .i64 a] 68))) := ⟨below_alloc (below_alloc (Below.refl _ _) _) _⟩
  clear h1 h2 h3 h4
  go_enter Tryd.func28, Tryd.ntmps28
  go_wp2_with fail
  refine (HE.out _ HB.out).mono ?_
  rintro e w1 ⟨rfl, hb1⟩
  have HB1 : Aside0 (Below w.heap.size w w1) := ⟨below_to HB.out hb1⟩
  clear hb1
  go_wp2
  go_ret
  exact ⟨rfl, HB1.out⟩
abbrev fSame : Value := .func (.func 28) #[] #[]
theorem rdP_at {L : List Pt} {k : Nat} (h : k < L.length) : rd_T37 (L.map toP) (k : Int) = toP L[k] := by simp [rd_T37, h]
theorem rdQ_at {L : List Pt} {k : Nat} (h : k < L.length) : rd_T68 (L.map toQ) (k : Int) = toQ L[k] := by simp [rd_T68, h]
set_option maxHeartbeats 4000000 in
set_option maxRecDepth 100000 in
theorem eqParts_any (w : World) (v u : Value) (L : List Pt) (hv : RdS k37 w v (L.map toP)) (hu : RdS kQ w u (L.map toQ)) :
    Calls Tryd.prog 27 #[v, u, fSame] w fun e w' => e = .returned (.bool true) ∧ Below w.heap.size w w' := by
  obtain ⟨A1, c1, rfl, hc1, hr1⟩ := hv
  obtain ⟨A2, c2, rfl, hc2, hr2⟩ := hu
  have l1 : (L.map toP).length = L.length := List.length_map ..
  have l2 : (L.map toQ).length = L.length := List.length_map ..
  rw [l1] at hr1
  rw [l2] at hr2
  rw [l1, l2]
  have HR1 := Aside0.mk hr1
  have HR2 := Aside0.mk hr2
  have h63 : L.length ≤ 9223372036854775807 := hr1.2.1
  clear hr1 hr2 hc1 hc2 l1 l2
  go_enter Tryd.func27, Tryd.ntmps27
  go_wp2
  go_loopg [17] L.length (fun gk i w' => ∃ k : Nat, i = .int .i64 (k : Int) ∧ Aside0 (k ≤ L.length ∧ gk = L.length - k) ∧ Aside0 (Below w.heap.size w w'))
  case atStart => exact ⟨0, by first | rfl | simp, ⟨Nat.zero_le _, rfl⟩, ⟨Below.refl _ _⟩⟩
  case round =>
    obtain ⟨k, rfl, HA, HB⟩ := hrel
    by_cases hk : k < L.length
    · obtain ⟨ad1, B1, d1, rfl, hx0, hx1, hxl, hxC⟩ := at_T37 HR1.out (k : Int) (by omega) (by omega)
      obtain ⟨ad2, B2, d2, rfl, hy0, hy1, hyl, hyC⟩ := at_T68 HR2.out (k : Int) (by omega) (by omega)
      rw [rdP_at hk] at hx0 hx1 hxl hxC
      rw [rdQ_at hk] at hy0 hy1 hyl hyC
      obtain ⟨p, hp⟩ : ∃ p, L[k] = p := ⟨_, rfl⟩
      rw [hp] at hx0 hx1 hxl hxC hy0 hy1 hyl hyC
      clear hp
      obtain ⟨q, a⟩ := p
      simp only [toP, toQ, Int.toNat_natCast] at hx0 hx1 hxl hxC hy0 hy1 hyl hyC
      replace hx0 := pw_cell_below HB.out hx0
      replace hx1 := pw_cell_below HB.out hx1
      replace hy0 := pw_cell_below HB.out hy0
      replace hy1 := pw_cell_below HB.out hy1
      have HC := Aside0.mk (fun W (hW : Below w.heap.size w W) => same1_any W B1 B2 d1 d2 q a (Kd.C_below hxC hW) hxl (Kd.C_below hyC hW) hyl)
      have HBB : Aside0 (Below w.heap.size w ((wr.alloc (.cells #[.slice B1 q.length d1, .int .i64 a] 37)).alloc (.cells #[.slice B2 q.length d2, .int .i64 a] 68))) := ⟨below_alloc (below_alloc HB.out _) _⟩
      have hw0 := pw_cell_below (below_alloc (Below.refl wr.heap.size wr) (.cells #[.slice B1 q.length d1, .int .i64 a] 37)) hy0
      have hw1 := pw_cell_below (below_alloc (Below.refl wr.heap.size wr) (.cells #[.slice B1 q.length d1, .int .i64 a] 37)) hy1
      clear hxl hxC hyl hyC
      go_wp2_with fail
      refine (HC.out _ HBB.out).mono ?_
      rintro e w4 ⟨rfl, hb4⟩
      have HB4 : Aside0 (Below w.heap.size w w4) := ⟨below_to HBB.out hb4⟩
      clear hb4 hx0 hx1 hy0 hy1 hw0 hw1
      go_wp2
      go_roundg (L.length - k - 1)
      case measure => have := HA.out; omega
      case rel => exact ⟨k + 1, by go_num, ⟨by omega, by omega⟩, HB4⟩
    · go_wp2
      go_ret
      exact ⟨rfl, HB.out⟩
set_option maxHeartbeats 1000000 in
theorem sameParts_any (w : World) (v u : Value) (L : List Pt) (hv : RdS k37 w v (L.map toP)) (hu : RdS kQ w u (L.map toQ)) :
    Calls Tryd.prog 11 #[v, u] w fun e w' => e = .returned (.bool true) ∧ Below w.heap.size w w' := by
  have HC := Aside0.mk (eqParts_any w v u L hv hu)
  obtain ⟨A1, c1, rfl, -, -⟩ := hv
  obtain ⟨A2, c2, rfl, -, -⟩ := hu
  have l1 : (L.map toP).length = L.length := List.length_map ..
  have l2 : (L.map toQ).length = L.length := List.length_map ..
  rw [l1, l2] at HC
  rw [l1, l2]
  clear l1 l2
  go_enter Tryd.func11, Tryd.ntmps11
  go_wp2_with fail
  refine HC.out.mono ?_
  rintro e w1 ⟨rfl, hb1⟩
  have HB1 := Aside0.mk hb1
  clear hb1
  go_wp2
  go_ret
  exact ⟨rfl, HB1.out⟩

end Go.Proofs.YtaejogkinniakaaDoor
