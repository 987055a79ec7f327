/- A row of records as a row of cells: slices.Clone of records, read on. -/
import Derived.Test.YtooehjbbphokbaaDoorLnE
import Derived.Test.YtooehjbbphokbaaDoorUpK
import Derived.Deep.AppendLies
namespace Go.Proofs.YtooehjbbphokbaaDoor
set_option linter.unusedVariables false
set_option linter.unusedSimpArgs false
open Go.RowKit Go.Proofs.YtooehjbbphokbaaDoorW.PrintWords Go.Proofs.YtooehjbbphokbaaDoorW.PrintLast Go.Proofs.YtooehjbbphokbaaDoorW.PrintMore Go.Proofs.YtooehjbbphokbaaDoor.PLinesRead

/-- A record's cells, as they lie. -/
abbrev T3 := Int × Int × (Option Addr × Nat × Nat)
def cellsT (t : T3) : List Value := [.int .i64 t.1, .int .i64 t.2.1, .slice t.2.2.1 t.2.2.2.1 t.2.2.2.2]
def kT : Kd T3 := Kd.pair (Kd.int .i64) (Kd.pair (Kd.int .i64) (Kd.scalar (fun t : Option Addr × Nat × Nat => Value.slice t.1 t.2.1 t.2.2) (fun _ => rfl)))
theorem kT_K {w : World} {t : T3} {cs : List Value} (h : kT.K w t cs) : cs = cellsT t := by
  obtain ⟨_, _, rfl, rfl, ⟨_, _, rfl, rfl, rfl⟩⟩ := h
  rfl
theorem kT_mk (w : World) (t : T3) : kT.K w t (cellsT t) := ⟨[.int .i64 t.1], [.int .i64 t.2.1, .slice t.2.2.1 t.2.2.2.1 t.2.2.2.2], rfl, rfl, ⟨[.int .i64 t.2.1], [.slice t.2.2.1 t.2.2.2.1 t.2.2.2.2], rfl, rfl, rfl⟩⟩
theorem kT_M (w : World) (base : Nat) (ok : Nat → Prop) (t : T3) : kT.M w base ok t (cellsT t) := ⟨[.int .i64 t.1], [.int .i64 t.2.1, .slice t.2.2.1 t.2.2.2.1 t.2.2.2.2], rfl, rfl, ⟨[.int .i64 t.2.1], [.slice t.2.2.1 t.2.2.2.1 t.2.2.2.2], rfl, rfl, rfl⟩⟩
/-- Records that these cells say in this world. -/
def SaysT (w : World) (l : List Rc) (rs : List T3) : Prop := rs.length = l.length ∧ ∀ i (h1 : i < l.length) (h2 : i < rs.length), kRc.K w l[i] (cellsT rs[i])
theorem SaysT.below {w w1 : World} {l : List Rc} {rs : List T3} (h : SaysT w l rs) (hb : Below w.heap.size w w1) : SaysT w1 l rs := ⟨h.1, fun i h1 h2 => kRc.K_below hb (h.2 i h1 h2)⟩
theorem raw_of {w : World} {A : Option Addr} {n : Nat} {l : List Rc} (h : Kd.C kRc w A n l) : ∃ rs, Kd.C kT w A n rs ∧ SaysT w l rs := by
  obtain ⟨hn, hm, hr⟩ := h
  rcases Nat.eq_zero_or_pos n with h0 | h0
  · have hl : l = [] := List.length_eq_zero_iff.1 (by omega)
    subst hl h0
    exact ⟨[], ⟨rfl, hm, fun h => absurd h (Nat.lt_irrefl _)⟩, rfl, fun i h1 => absurd h1 (Nat.not_lt_zero _)⟩
  · obtain ⟨a, rfl, hr2⟩ := hr h0
    obtain ⟨rs, hl, hC, hQ⟩ := C_of_rows (0, 0, none, 0, 0) (kd := kT) (W := w) (a := a) (len := n) (Q := fun i p => ∀ h1 : i < l.length, kRc.K w l[i] (cellsT p)) hm (fun i hi => by
      have hil : i < l.length := by omega
      obtain ⟨c, hcl, hK, hc⟩   := hr2 i l[i] (List.getElem?_eq_getElem hil)
      obtain ⟨A2, c2, hce, l2, g2⟩ := k48_open hK
      refine ⟨(l[i].f0, l[i].f1, A2, l[i].f2.length, c2), c, ?_, hc, fun _ => ?_⟩
      · rw [hce]
        exact kT_mk w _
      · rw [hce] at hK
        exact hK)
    exact ⟨rs, hC, by omega, fun i h1 h2 => hQ i h2 h1⟩
theorem of_raw {w : World} {A : Option Addr} {n : Nat} {l : List Rc} {rs : List T3} (h : Kd.C kT w A n rs) (hs : SaysT w l rs) : Kd.C kRc w A n l := by
  obtain ⟨hn, hm, hr⟩ := h
  refine ⟨by rw [← hs.1]; exact hn, hm, fun h0 => ?_⟩
  obtain ⟨a, e, hr2⟩ := hr h0
  refine ⟨a, e, fun j p hj => ?_⟩
  obtain ⟨hlt, rfl⟩ := List.getElem?_eq_some_iff.1 hj
  have hlt2 : j < rs.length := by rw [hs.1]; exact hlt
  obtain ⟨c, hcl, hK, hc⟩ := hr2 j rs[j] (List.getElem?_eq_getElem hlt2)
  have hce := kT_K hK
  refine ⟨c, hcl, ?_, hc⟩
  rw [hce]
  exact hs.2 j hlt hlt2
theorem rds_raw {w : World} {v : Value} {l : List Rc} {rs : List T3} (h : RdS kT w v rs) (hs : SaysT w l rs) : RdS kRc w v l := by
  obtain ⟨A, c, e, hc, hC⟩ := h
  exact ⟨A, c, by rw [← hs.1]; exact e, by rw [← hs.1]; exact hc, of_raw (by rw [← hs.1]; exact hC) hs⟩
theorem SaysT.snoc {w : World} {l : List Rc} {rs : List T3} {r : Rc} {t : T3} (h : SaysT w l rs) (hk : kRc.K w r (cellsT t)) : SaysT w (l ++ [r]) (rs ++ [t]) := by
  refine ⟨by simp [h.1], fun i h1 h2 => ?_⟩
  by_cases hi : i < l.length
  · have hi2 : i < rs.length := by rw [h.1]; exact hi
    rw [List.getElem_append_left hi, List.getElem_append_left hi2]
    exact h.2 i hi hi2
  · have e1 : i = l.length := by simp at h1; omega
    subst e1
    have e2 := h.1
    rw [List.getElem_append_right (Nat.le_refl _), List.getElem_append_right (by omega)]
    simpa using hk

set_option maxHeartbeats 400000 in
set_option maxRecDepth 100000 in
theorem cloneK_any (w : World) (v : Value) (l : List Rc) (h : RdS kRc w v l) (hl : l.length * 40 ≤ 140737488355328) :
    Calls Tryd.prog 34 #[v] w fun e w' => ∃ v' rs, e = .returned v' ∧ Own kT 48 w' w.heap.size v' rs ∧ SaysT w l rs ∧ Below w.heap.size w w' := by
  obtain ⟨A, c, rfl, hc, hr⟩ := h
  cases A with
  | none =>
    have heq : ∀ w, (binOp .eql 26 (.slice none l.length c) (.slice none 0 0)).run Tryd.prog w = .ok (.bool true) w := fun w => Lib.run_eql_slice_nil (P := Tryd.prog) w 26 48 none l.length c 0 0 Tryd.underlying26
    have hl0 : l = [] := by
      rcases Nat.eq_zero_or_pos l.length with h0 | h0
      · exact List.length_eq_zero_iff.1 h0
      · obtain ⟨ad, e, _⟩ := hr.2.2 h0
        cases e
    have HL := Aside0.mk hl0
    clear hr hl hc hl0
    go_enter Tryd.func34, Tryd.ntmps34
    go_wp2
    go_ret
    exact ⟨_, [], rfl, Kd.R_nil _ _ _ _ _, by rw [HL.out]; exact ⟨rfl, fun i h1 => absurd h1 (Nat.not_lt_zero _)⟩, Below.refl _ _⟩
  | some ad =>
    have heq : ∀ w, (binOp .eql 26 (.slice (some ad) l.length c) (.slice none 0 0)).run Tryd.prog w = .ok (.bool false) w := fun w => Lib.run_eql_slice_nil (P := Tryd.prog) w 26 48 (some ad) l.length c 0 0 Tryd.underlying26
    obtain ⟨rs, hrs, hsy⟩ := raw_of hr
    have HS := Aside0.mk hsy
    have HR := Aside0.mk hrs
    have HL : Aside0 (rs.length * 40 ≤ 140737488355328 ∧ rs.length = l.length) := ⟨by rw [hsy.1]; exact hl, hsy.1⟩
    clear hr hl hc hrs hsy
    go_enter Tryd.func34, Tryd.ntmps34
    go_wp2_with (at_builtin; refine Kd.R_append_rows kT (w0 := w) w.heap.size rfl (.tmp 5) (.tmp 6) 26 48 (.agg #[(.int .i64 0), (.int .i64 0), (.slice none 0 0)]) 40 rfl Tryd.underlying26 Go.Proofs.YtooehjbbphokbaaDoor.PLinesRead.info48 rfl (by decide) (by omega) _ [] rs (some ad) l.length c (fun _ => True) (fun _ => False) rfl rfl ?aO (Kd.C_below HR.out (below_alloc (Below.refl _ _) _)) (fun t cs h => by rw [kT_K h]; exact kT_M _ _ _ _) (fun _ h => h.elim) (fun _ _ => trivial) ?aB ?aS ?aL ?_)
    case aO => exact R_lit0 kT _ _ _ (Nat.le_refl _)
    case aB => exact below_alloc (Below.refl _ _) _
    case aS => simp
    case aL => have := HL.out; simp only [List.length_nil]; omega
    intro v1 w1 ho hb _ _
    clear heq
    go_wp2
    go_ret
    exact ⟨_, rs, rfl, by simpa using ho, HS.out, hb⟩

end Go.Proofs.YtooehjbbphokbaaDoor
