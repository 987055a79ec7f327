/- Walks: lists of texts, and of records, that are the same: slices.Equal, slices.EqualFunc, SameRecords answer true. -/
import Derived.Test.YtooehjbbphokbaaDoorLnE
import Derived.Test.YtooehjbbphokbaaDoorPLinesReadx2
namespace Go.Proofs.YtooehjbbphokbaaDoor
set_option linter.unusedVariables false
set_option linter.unusedSimpArgs false
open Go.RowKit Go.Proofs.YtooehjbbphokbaaDoorW.PrintWords Go.Proofs.YtooehjbbphokbaaDoorW.PrintLast Go.Proofs.YtooehjbbphokbaaDoorW.PrintMore Go.Proofs.YtooehjbbphokbaaDoor.PLinesRead

theorem seq_ev0 (l : List ByteArray) (hl : l.length < 4611686018427387904) : ∀ (n j : Nat), j + n = l.length → Ev (fun k => slices_Equal_string_string.l0 k l l (l.length : Int) (j : Int)) true
  | 0, j, h => by
    refine Ev.step (f := fun _ => some true) (fun k => ?_) (Ev.now _)
    rw [slices_Equal_string_string.l0, if_neg (by omega)]
  | n + 1, j, h => by
    have e2 : wrap64 ((j : Int) + 1) = ((j + 1 : Nat) : Int) := by unfold wrap64; omega
    refine Ev.step (fun k => ?_) (seq_ev0 l hl n (j + 1) (by omega))
    rw [slices_Equal_string_string.l0, if_pos (by omega), if_pos (by omega), if_pos (by omega), if_pos (by omega), if_pos rfl, e2]
theorem seq_ev (l : List ByteArray) (hl : l.length < 4611686018427387904) : ∃ k, slices_Equal_string_string.f k l l = some true := by
  obtain ⟨k, hk⟩ := (seq_ev0 l hl l.length 0 (by omega)).rounds
  refine ⟨k, ?_⟩
  unfold slices_Equal_string_string.f
  rw [if_pos rfl]
  exact hk
theorem sameStr_any (l : List ByteArray) (w : World) (v1 v2 : Value) (h1 : RdS Kd.string w v1 l) (h2 : RdS Kd.string w v2 l) (hl : l.length < 4611686018427387904) :
    Calls Tryd.prog 24 #[v1, v2] w fun e w' => e = .returned (.bool true) ∧ Below w.heap.size w w' := by
  obtain ⟨A1, c1, rfl, hc1, hr1⟩ := h1
  obtain ⟨A2, c2, rfl, hc2, hr2⟩ := h2
  obtain ⟨k, hk⟩ := seq_ev l hl
  refine (slices_Equal_string_string.calls k A1 c1 l A2 c2 l true w hr1 hc1 hr2 hc2 hk).mono ?_
  rintro e w' ⟨rfl, hd⟩
  exact ⟨rfl, hd.below⟩

set_option maxHeartbeats 4000000 in
set_option maxRecDepth 100000 in
theorem same1_any (a b : Int) (l : List ByteArray) (w : World) (v1 v2 : Value) (h1 : RdS Kd.string w v1 l) (h2 : RdS Kd.string w v2 l) (hl : l.length < 4611686018427387904) :
    Calls Tryd.prog 42 #[.agg #[.int .i64 a, .int .i64 b, v1], .agg #[.int .i64 a, .int .i64 b, v2]] w fun e w' => e = .returned (.bool true) ∧ Below w.heap.size w w' := by
  have HB : Aside0 (Below w.heap.size w ((w.alloc (.cells #[.int .i64 a, .int .i64 b, v1] 48)).alloc (.cells #[.int .i64 a, .int .i64 b, v2] 48))) := ⟨below_alloc (below_alloc (Below.refl _ _) _) _⟩
  have HC := Aside0.mk (sameStr_any l _ v1 v2 (h1.below HB.out) (h2.below HB.out) hl)
  obtain ⟨A1, c1, rfl, -, -⟩ := h1
  obtain ⟨A2, c2, rfl, -, -⟩ := h2
  go_enter Tryd.func42, Tryd.ntmps42
  go_wp2_with fail
  refine HC.out.mono ?_
  rintro e w1 ⟨rfl, hb1⟩
  have HB1 : Aside0 (Below w.heap.size w w1) := ⟨below_to HB.out hb1⟩
  clear hb1
  go_wp2
  go_ret
  exact ⟨rfl, HB1.out⟩

set_option maxHeartbeats 4000000 in
set_option maxRecDepth 100000 in
theorem eqRec_any (l : List Rc) (w : World) (v1 v2 : Value) (h1 : RdS kRc w v1 l) (h2 : RdS kRc w v2 l) (hl : l.length < 4611686018427387904) (hq : ∀ q ∈ l, q.f2.length < 4611686018427387904) :
    Calls Tryd.prog 41 #[v1, v2, .func (.func 42) #[] #[]] w fun e w' => e = .returned (.bool true) ∧ Below w.heap.size w w' := by
  obtain ⟨A1, c1, rfl, hc1, hr1⟩ := h1
  obtain ⟨A2, c2, rfl, hc2, hr2⟩ := h2
  have HR1 := Aside0.mk hr1
  have HR2 := Aside0.mk hr2
  clear hr1 hr2
  go_enter Tryd.func41, Tryd.ntmps41
  go_wp2
  go_loopg [17] l.length (fun gk i w' => ∃ (k : Nat), i = .int .i64 (k : Int) ∧ Aside0 (k ≤ l.length ∧ gk = l.length - k) ∧ Aside0 (Below w.heap.size w w'))
  case atStart => exact ⟨0, by first | rfl | simp, ⟨Nat.zero_le _, rfl⟩, ⟨Below.refl _ _⟩⟩
  case round =>
    obtain ⟨k, rfl, HA, HB⟩ := hrel
    by_cases hk : k < l.length
    · obtain ⟨ad1, B1, d1, rfl, hx0, hx1, hx2, hxl, hxr⟩ := at_T48 HR1.out (k : Int) (by omega) (by omega)
      obtain ⟨ad2, B2, d2, rfl, hy0, hy1, hy2, hyl, hyr⟩ := at_T48 HR2.out (k : Int) (by omega) (by omega)
      replace hx0 := pw_cell_below HB.out hx0
      replace hx1 := pw_cell_below HB.out hx1
      replace hx2 := pw_cell_below HB.out hx2
      have HX : Aside0 (RdS Kd.string wr (.slice B1 (rd_T48 l (k : Int)).f2.length d1) (rd_T48 l (k : Int)).f2) := ⟨⟨B1, d1, rfl, hxl, Kd.C_below hxr HB.out⟩⟩
      have HY : Aside0 (RdS Kd.string wr (.slice B2 (rd_T48 l (k : Int)).f2.length d2) (rd_T48 l (k : Int)).f2) := ⟨⟨B2, d2, rfl, hyl, Kd.C_below hyr HB.out⟩⟩
      clear hxl hxr hyl hyr
      have HQ : Aside0 ((rd_T48 l (k : Int)).f2.length < 4611686018427387904) := ⟨hq _ (by simp [rd_T48, hk])⟩
      obtain ⟨q, hqq⟩ : ∃ q, rd_T48 l (k : Int) = q := ⟨_, rfl⟩
      rw [hqq] at hx0 hx1 hx2 hy0 hy1 hy2 HX HY HQ
      obtain ⟨q0, q1, q2⟩ := q
      clear hqq
      simp only [Int.toNat_natCast] at hx0 hx1 hx2 hy0 hy1 hy2 HX HY HQ
      have HBA : Aside0 (Below w.heap.size w (wr.alloc (.cells #[.int .i64 q0, .int .i64 q1, .slice B1 q2.length d1] 48))) := ⟨below_alloc HB.out _⟩
      replace hy0 := pw_cell_below HBA.out hy0
      replace hy1 := pw_cell_below HBA.out hy1
      replace hy2 := pw_cell_below HBA.out hy2
      have HBB : Aside0 (Below w.heap.size w ((wr.alloc (.cells #[.int .i64 q0, .int .i64 q1, .slice B1 q2.length d1] 48)).alloc (.cells #[.int .i64 q0, .int .i64 q1, .slice B2 q2.length d2] 48))) := ⟨below_alloc HBA.out _⟩
      have HBR : Aside0 (Below wr.heap.size wr ((wr.alloc (.cells #[.int .i64 q0, .int .i64 q1, .slice B1 q2.length d1] 48)).alloc (.cells #[.int .i64 q0, .int .i64 q1, .slice B2 q2.length d2] 48))) := ⟨below_alloc (below_alloc (Below.refl _ _) _) _⟩
      have hql : q2.length < 4611686018427387904 := HQ.out
      have HCL := Aside0.mk (same1_any q0 q1 q2 _ _ _ (HX.out.below HBR.out) (HY.out.below HBR.out) hql)
      go_wp2_with fail
      refine HCL.out.mono ?_
      rintro e w4 ⟨rfl, hb4⟩
      have HB4 : Aside0 (Below w.heap.size w w4) := ⟨below_to HBB.out hb4⟩
      clear hb4 hx0 hx1 hx2 hy0 hy1 hy2
      go_wp2
      go_roundg (l.length - k - 1)
      case measure => have := HA.out; omega
      case rel => exact ⟨k + 1, by go_num, ⟨by omega, by omega⟩, HB4⟩
    · go_wp2
      go_ret
      exact ⟨rfl, HB.out⟩

set_option maxHeartbeats 4000000 in
set_option maxRecDepth 100000 in
theorem sameRec_any (l : List Rc) (w : World) (v1 v2 : Value) (h1 : RdS kRc w v1 l) (h2 : RdS kRc w v2 l) (hl : l.length < 4611686018427387904) (hq : ∀ q ∈ l, q.f2.length < 4611686018427387904) :
    Calls Tryd.prog 18 #[v1, v2] w fun e w' => e = .returned (.bool true) ∧ Below w.heap.size w w' := by
  have HC := Aside0.mk (eqRec_any l w v1 v2 h1 h2 hl hq)
  obtain ⟨A1, c1, rfl, -, -⟩ := h1
  obtain ⟨A2, c2, rfl, -, -⟩ := h2
  clear hq
  go_enter Tryd.func18, Tryd.ntmps18
  go_wp2_with fail
  refine HC.out.mono ?_
  rintro e w1 ⟨rfl, hb1⟩
  have HB1 := Aside0.mk hb1
  clear hb1
  go_wp2
  go_ret
  exact ⟨rfl, HB1.out⟩

abbrev kSs : Kd (List ByteArray) := Kd.slice 9 Kd.string
set_option maxHeartbeats 4000000 in
set_option maxRecDepth 100000 in
theorem same2_any (l : List ByteArray) (w : World) (v1 v2 : Value) (h1 : RdS Kd.string w v1 l) (h2 : RdS Kd.string w v2 l) (hl : l.length < 4611686018427387904) :
    Calls Tryd.prog 23 #[v1, v2] w fun e w' => e = .returned (.bool true) ∧ Below w.heap.size w w' := by
  have HC := Aside0.mk (sameStr_any l w v1 v2 h1 h2 hl)
  obtain ⟨A1, c1, rfl, -, -⟩ := h1
  obtain ⟨A2, c2, rfl, -, -⟩ := h2
  go_enter Tryd.func23, Tryd.ntmps23
  go_wp2_with fail
  refine HC.out.mono ?_
  rintro e w1 ⟨rfl, hb1⟩
  have HB1 := Aside0.mk hb1
  clear hb1
  go_wp2
  go_ret
  exact ⟨rfl, HB1.out⟩
set_option maxHeartbeats 4000000 in
set_option maxRecDepth 100000 in
theorem eqRows_any (l : List (List ByteArray)) (w : World) (v1 v2 : Value) (h1 : RdS kSs w v1 l) (h2 : RdS kSs w v2 l) (hl : l.length < 4611686018427387904) (hq : ∀ q ∈ l, q.length < 4611686018427387904) :
    Calls Tryd.prog 20 #[v1, v2, .func (.func 23) #[] #[]] w fun e w' => e = .returned (.bool true) ∧ Below w.heap.size w w' := by
  obtain ⟨A1, c1, rfl, hc1, hr1⟩ := h1
  obtain ⟨A2, c2, rfl, hc2, hr2⟩ := h2
  have HR1 := Aside0.mk hr1
  have HR2 := Aside0.mk hr2
  clear hr1 hr2
  go_enter Tryd.func20, Tryd.ntmps20
  go_wp2
  go_loopg [17] l.length (fun gk i w' => ∃ (k : Nat), i = .int .i64 (k : Int) ∧ Aside0 (k ≤ l.length ∧ gk = l.length - k) ∧ Aside0 (Below w.heap.size w w'))
  case atStart => exact ⟨0, by first | rfl | simp, ⟨Nat.zero_le _, rfl⟩, ⟨Below.refl _ _⟩⟩
  case round =>
    obtain ⟨k, rfl, HA, HB⟩ := hrel
    by_cases hk : k < l.length
    · obtain ⟨ad1, B1, d1, rfl, hx0, hxl, hxr⟩ := at_L2 HR1.out (k : Int) (by omega) (by omega)
      obtain ⟨ad2, B2, d2, rfl, hy0, hyl, hyr⟩ := at_L2 HR2.out (k : Int) (by omega) (by omega)
      replace hx0 := pw_cell_below HB.out hx0
      replace hy0 := pw_cell_below HB.out hy0
      have HX : Aside0 (RdS Kd.string wr (.slice B1 (rd_L2 l (k : Int)).length d1) (rd_L2 l (k : Int))) := ⟨⟨B1, d1, rfl, hxl, Kd.C_below hxr HB.out⟩⟩
      have HY : Aside0 (RdS Kd.string wr (.slice B2 (rd_L2 l (k : Int)).length d2) (rd_L2 l (k : Int))) := ⟨⟨B2, d2, rfl, hyl, Kd.C_below hyr HB.out⟩⟩
      clear hxl hxr hyl hyr
      have HQ : Aside0 ((rd_L2 l (k : Int)).length < 4611686018427387904) := ⟨hq _ (by simp [rd_L2, hk])⟩
      obtain ⟨q, hqq⟩ : ∃ q, rd_L2 l (k : Int) = q := ⟨_, rfl⟩
      rw [hqq] at hx0 hy0 HX HY HQ
      clear hqq
      simp only [Int.toNat_natCast] at hx0 hy0 HX HY HQ
      have hql : q.length < 4611686018427387904 := HQ.out
      have HCL := Aside0.mk (same2_any q _ _ _ HX.out HY.out hql)
      go_wp2_with fail
      refine HCL.out.mono ?_
      rintro e w4 ⟨rfl, hb4⟩
      have HB4 : Aside0 (Below w.heap.size w w4) := ⟨below_to HB.out hb4⟩
      clear hb4 hx0 hy0
      go_wp2
      go_roundg (l.length - k - 1)
      case measure => have := HA.out; omega
      case rel => exact ⟨k + 1, by go_num, ⟨by omega, by omega⟩, HB4⟩
    · go_wp2
      go_ret
      exact ⟨rfl, HB.out⟩

end Go.Proofs.YtooehjbbphokbaaDoor
