/- Walks: Spoil, SameTexts of the plain package. -/
import Derived.Test.YtaejogkinniakaaDoorEdS
namespace Go.Proofs.YtaejogkinniakaaDoor
set_option linter.unusedVariables false
set_option linter.unusedSimpArgs false
open Go.RowKit Go.Proofs.YtaejogkinniakaaDoorW.PrintWords Go.Proofs.YtaejogkinniakaaDoorW.PrintLast Go.Proofs.YtaejogkinniakaaDoorW.PrintMore Go.Proofs.YtaejogkinniakaaDoor.PEd

/-- A byte is stored, wherever: a row of bytes stays one of as many. -/
theorem any_set {W : World} {base : Nat} {ok : Nat → Prop} {v : Value} {xs : List Int} (h : Kd.R kB 5 W base ok v xs) (g j : Nat) (u : Int) :
    ∃ ys : List Int, ys.length = xs.length ∧ Kd.R kB 5 (W.setCell ⟨g, j, none⟩ (.int .u8 u)) base ok v ys := by
  have ho := Kd.own_of_R h
  by_cases hg : v.ownBlock = some g
  · obtain ⟨h1, h2⟩ := ho
    rcases h2 with ⟨rfl, _⟩ | ⟨g', cap, cur, rfl, hb, hh, hc, hm, hsz, ht⟩
    · simp [Value.ownBlock] at hg
    · obtain rfl : g' = g := by simpa [Value.ownBlock] using hg
      refine ⟨xs.set j u, List.length_set, ?_⟩
      refine Kd.R_of_own ⟨by simp [encs], .inr ⟨g', cap, cur.setIfInBounds j (.int .u8 u), by rw [List.length_set], hb, blk_set hh j _, by rw [List.length_set]; exact hc, hm, by simpa using hsz, ?_⟩⟩ h.1
      rw [List.length_set, Array.toList_setIfInBounds, List.take_set, ht]
      simp [encs, List.map_set]
  · refine ⟨xs, rfl, Kd.R_of_own (own_move ho fun k hk => Below.heap_setCell W ⟨g, j, none⟩ _ k fun e => ?_) h.1⟩
    have e2 : k = g := e
    exact hg (by rw [← e2]; exact hk)
/-- A row of slices, each of which is a row of bytes of the call's own. -/
def SpR (W : World) (base : Nat) (v : Value) (hs : List Value) : Prop := W.ownsRow base 22 1 v hs.length hs ∧ ∀ h ∈ hs, ∃ xs, Own kB 5 W base h xs
theorem SpR.of {W : World} {base : Nat} {v : Value} {xs : List (List Int)} (h : Own kBs 22 W base v xs) : ∃ hs, hs.length = xs.length ∧ SpR W base v hs := by
  obtain ⟨-, inner, ho, hr⟩ := h
  have hl : inner.length = xs.length := by
    have := hr.1
    have hz : kBs.sz = 1 := rfl
    rw [hz] at this
    omega
  refine ⟨inner, hl, by rw [hl]; exact ho, fun h hh => ?_⟩
  obtain ⟨i, hi, rfl⟩ := List.getElem_of_mem hh
  obtain ⟨v0, e, hR⟩ := hr.2 i xs[i] (List.getElem?_eq_getElem (by omega))
  have hz : kBs.sz = 1 := rfl
  rw [hz, Nat.mul_one] at e
  have e2 : (inner.drop i).take 1 = [inner[i]] := by
    rw [List.drop_eq_getElem_cons hi]
    rfl
  rw [e2] at e
  cases e
  exact ⟨_, Kd.R_mono hR (fun _ _ => trivial)⟩
theorem SpR.set {W : World} {base : Nat} {v : Value} {hs : List Value} (h : SpR W base v hs) {g : Nat} {cs : Array Value} (hg : W.heap[g]? = some (.cells cs 5 (0, 0))) (j : Nat) (u : Int) : SpR (W.setCell ⟨g, j, none⟩ (.int .u8 u)) base v hs := by
  refine ⟨own_setCell h.1 (own_ne h.1 hg (by decide)) _, fun x hx => ?_⟩
  obtain ⟨xs, hR⟩ := h.2 x hx
  obtain ⟨ys, -, hR2⟩ := any_set hR g j u
  exact ⟨ys, hR2⟩
theorem SpR.cell {W : World} {base : Nat} {v : Value} {hs : List Value} (h : SpR W base v hs) {k : Nat} (hk : k < hs.length) : ∃ g c, v = .slice (some ⟨g, 0, none⟩) hs.length c ∧ W.cell? ⟨g, k, none⟩ = some hs[k] := by
  obtain ⟨h1, h2⟩ := h.1
  rcases h2 with ⟨_, h3⟩ | ⟨g, cap, cur, rfl, hb, hh, hc, hm, hsz, ht⟩
  · omega
  · refine ⟨g, cap, rfl, row_cell hh k _ ?_⟩
    have e : (cur.toList.take (hs.length * 1))[k]? = some hs[k] := by rw [ht]; exact List.getElem?_eq_getElem hk
    rw [List.getElem?_take, if_pos (by omega), Array.getElem?_toList] at e
    exact e
theorem SpR.slice {W : World} {base : Nat} {v : Value} {hs : List Value} (h : SpR W base v hs) : ∃ A c, v = .slice A hs.length c := own_slice h.1
set_option maxHeartbeats 4000000 in
set_option maxRecDepth 100000 in
theorem spoil_any (w : World) (base : Nat) (v : Value) (hs : List Value) (h : SpR w base v hs) (hl : hs.length ≤ 9223372036854775807) :
    Calls Tryd.prog 13 #[v] w fun e w' => e = .returned (.tuple #[]) ∧ SpR w' base v hs ∧ Below base w w' := by
  obtain ⟨A, c, rfl⟩ := h.slice
  have HH := Aside0.mk h
  clear h
  go_enter Tryd.func13, Tryd.ntmps13
  go_wp2
  go_loopg [7] hs.length (fun gk i w' => ∃ k : Nat, i = .int .i64 (k : Int) ∧ Aside0 (k ≤ hs.length ∧ gk = hs.length - k) ∧ Aside0 (SpR w' base (.slice A hs.length c) hs) ∧ Aside0 (Below base w w'))
  case atStart => exact ⟨0, by first | rfl | simp, ⟨Nat.zero_le _, rfl⟩, HH, ⟨Below.refl _ _⟩⟩
  case round =>
    obtain ⟨k, rfl, HA, HS, HB⟩ := hrel
    by_cases hk : k < hs.length
    · obtain ⟨gv, c', e, hx⟩ := HS.out.cell hk
      cases e
      obtain ⟨h, hh⟩ : ∃ h, hs[k] = h := ⟨_, rfl⟩
      have hmem : h ∈ hs := by rw [← hh]; exact List.getElem_mem hk
      rw [hh] at hx
      obtain ⟨xs0, hR0⟩ := HS.out.2 h hmem
      obtain ⟨Ah, ch, rfl⟩ := Kd.R_slice hR0
      obtain ⟨n, hn⟩ : ∃ n, xs0.length = n := ⟨_, rfl⟩
      have hnm := (Kd.R_reads' hR0).2.2.2.1
      rw [hn] at hx hmem hnm
      have HMEM := Aside0.mk hmem
      clear hR0 hh hmem hn
      have hkd : decide ((k : Int) < (hs.length : Int)) = true := decide_eq_true (by omega)
      go_wp2
      go_loopg [13] n (fun gj i w' => ∃ j : Nat, i = .int .i64 (j : Int) ∧ Aside0 (j ≤ n ∧ gj = n - j) ∧ Aside0 (SpR w' base (.slice (some ⟨gv, 0, none⟩) hs.length c) hs) ∧ Aside0 (Below base w w'))
      case atStart => exact ⟨0, by first | rfl | simp, ⟨Nat.zero_le _, rfl⟩, HS, HB⟩
      case round =>
        obtain ⟨j, rfl, HJ, HT, HC⟩ := hrel
        by_cases hj : j < n
        · obtain ⟨xs, hR⟩ := HT.out.2 _ HMEM.out
          have hln := (Kd.R_reads' hR).1
          obtain ⟨g, cap, e, hg1, hg2, cs, hcs⟩ := Kd.R_form hR (by omega)
          cases e
          obtain ⟨hc0, hf0⟩ := own_atI hR j (by omega)
          have HSET := Aside0.mk (fun u => HT.out.set hcs j u)
          have HBB := Aside0.mk (fun u => HC.out.setCell (p := ⟨g, j, none⟩) hg1 (.int .u8 u))
          obtain ⟨b0, hb0⟩ : ∃ b0, xs[j]'(by omega) = b0 := ⟨_, rfl⟩
          rw [hb0] at hc0
          clear hR hcs hb0
          have hjd : decide ((j : Int) < (xs.length : Int)) = true := decide_eq_true (by omega)
          clear hln
          go_wp2
          go_roundg (xs.length - j - 1)
          case measure => have := HJ.out; omega
          case rel => exact ⟨j + 1, by go_num, ⟨by omega, by have := HJ.out; omega⟩, ⟨HSET.out _⟩, ⟨HBB.out _⟩⟩
        · go_wp2
          go_roundg (hs.length - k - 1)
          case measure => have := HA.out; omega
          case rel => exact ⟨k + 1, by go_num, ⟨by omega, by have := HA.out; omega⟩, HT, HC⟩
    · go_wp2
      go_end0
      exact ⟨rfl, HS.out, HB.out⟩

abbrev fEq : Value := .func (.func 12) #[] #[]
set_option maxHeartbeats 4000000 in
set_option maxRecDepth 100000 in
theorem eqFunc_any (w : World) (v u : Value) (G : List (List Int)) (hv : RdS kBs w v G) (hu : RdS kBs w u G) :
    Calls Tryd.prog 31 #[v, u, fEq] w fun e w' => e = .returned (.bool true) ∧ Below w.heap.size w w' := by
  obtain ⟨A1, c1, rfl, hc1, hr1⟩ := hv
  obtain ⟨A2, c2, rfl, hc2, hr2⟩ := hu
  have HR1 := Aside0.mk hr1
  have HR2 := Aside0.mk hr2
  have h63 := hr1.2.1
  clear hr1 hr2
  go_enter Tryd.func31, Tryd.ntmps31
  go_wp2
  go_loopg [17] G.length (fun gk i w' => ∃ k : Nat, i = .int .i64 (k : Int) ∧ Aside0 (k ≤ G.length ∧ gk = G.length - k) ∧ Aside0 (Below w.heap.size w w'))
  case atStart => exact ⟨0, by first | rfl | simp, ⟨Nat.zero_le _, rfl⟩, ⟨Below.refl _ _⟩⟩
  case round =>
    obtain ⟨k, rfl, HA, HB⟩ := hrel
    by_cases hk : k < G.length
    · obtain ⟨ad1, B1, d1, rfl, hx, hxl, hxC⟩ := at_L2 HR1.out (k : Int) (by omega) (by omega)
      obtain ⟨ad2, B2, d2, rfl, hy, hyl, hyC⟩ := at_L2 HR2.out (k : Int) (by omega) (by omega)
      obtain ⟨q, hq⟩ : ∃ q, rd_L2 G (k : Int) = q := ⟨_, rfl⟩
      rw [hq] at hx hxl hxC hy hyl hyC
      clear hq
      simp only [Int.toNat_natCast] at hx hy
      replace hx := pw_cell_below HB.out hx
      replace hy := pw_cell_below HB.out hy
      have HC := Aside0.mk (equalB_any wr (.slice B1 q.length d1) (.slice B2 q.length d2) q ⟨B1, d1, rfl, hxl, Kd.C_below hxC HB.out⟩ ⟨B2, d2, rfl, hyl, Kd.C_below hyC HB.out⟩)
      clear hxl hxC hyl hyC
      go_wp2_with fail
      refine HC.out.mono ?_
      rintro e w4 ⟨rfl, hb4⟩
      have HB4 : Aside0 (Below w.heap.size w w4) := ⟨below_to HB.out hb4⟩
      clear hb4 hx hy
      go_wp2
      go_roundg (G.length - k - 1)
      case measure => have := HA.out; omega
      case rel => exact ⟨k + 1, by go_num, ⟨by omega, by omega⟩, HB4⟩
    · go_wp2
      go_ret
      exact ⟨rfl, HB.out⟩
set_option maxHeartbeats 1000000 in
theorem sameTexts_any (w : World) (v u : Value) (G : List (List Int)) (hv : RdS kBs w v G) (hu : RdS kBs w u G) :
    Calls Tryd.prog 17 #[v, u] w fun e w' => e = .returned (.bool true) ∧ Below w.heap.size w w' := by
  have HC := Aside0.mk (eqFunc_any w v u G hv hu)
  obtain ⟨A1, c1, rfl, -, -⟩ := hv
  obtain ⟨A2, c2, rfl, -, -⟩ := hu
  go_enter Tryd.func17, Tryd.ntmps17
  go_wp2_with fail
  refine HC.out.mono ?_
  rintro e w1 ⟨rfl, hb1⟩
  have HB1 := Aside0.mk hb1
  clear hb1
  go_wp2
  go_ret
  exact ⟨rfl, HB1.out⟩

end Go.Proofs.YtaejogkinniakaaDoor
