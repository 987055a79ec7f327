/- An argument of type []api.Entry, read: it is a slice of some entries. -/
import Derived.Test.YtpgnfccamcefgabTrCore
import Derived.Test.YtpgnfccamcefgabRd
import Derived.Deep.SlicePairs
namespace Go.Proofs.Ytpgnfccamcefgab
set_option linter.unusedVariables false
set_option linter.unusedSimpArgs false
open Go.ChangeShapes Go.WideShapes Go.RowKit Go.Proofs.YtpgnfccamcefgabW.PrintWords

theorem laidOutE : laidOutB Try.prog = true := by kernel_rfl
set_option maxRecDepth 10000 in
theorem open_E {H : Type} {enc : TypeId × Value → H} {W : World} {a : Option Addr} {len cap : Nat} {d : DataW H} {ps : List MemPlace}
    (h : DataW.Trod enc Try.prog W 0 (fun _ => true) true 22 (.slice a len cap) d ps) : ∃ l : List En, RdS kE W (.slice a len cap) l := by
  obtain ⟨fuel, hf⟩ := h
  rcases Go.Deep.open_slice Try.underlying22 hf with ⟨hcs, _⟩ | ⟨x, l, c, m, n, D, Pl, hcs, _, hl, hm, hmm, _, hx⟩
  · simp [Value.cells] at hcs
    obtain ⟨rfl, rfl, rfl⟩ := hcs
    exact ⟨[], RdS.nil _ _⟩
  · simp [Value.cells] at hcs
    obtain ⟨rfl, rfl, rfl⟩ := hcs
    have hlm : len ≤ m := by rw [hmm]; simpa using hl
    have hcE : Try.prog.cellsOf 43 = 3 := by kernel_rfl
    have hi2 : ∀ i, i < m → ∃ e : En, W.cell? (x.add (i * 3)) = some (.int .i64 e.1) ∧ W.cell? (x.add (i * 3 + 1)) = some (.int .i64 e.2.1) ∧ W.cell? (x.add (i * 3 + 2)) = some (.int .i64 e.2.2) := fun i hi => by
      obtain ⟨cs', h1, h2⟩ := hx i hi
      rw [hcE] at h1
      obtain ⟨_, hlen, hcell⟩ := World.cells?_some h1
      obtain ⟨xs, k, hk, hxy, _, hxl, hf⟩ := DataW.trod_struct Try.underlying43 h2
      have hx3 : xs.length = 3 := hxl
      obtain ⟨y0, y1, y2, rfl⟩ : ∃ y0 y1 y2, xs = [y0, y1, y2] := by
        match xs, hx3 with
        | [y0, y1, y2], _ => exact ⟨y0, y1, y2, rfl⟩
      obtain ⟨v0, v1, v2, rfl⟩ : ∃ v0 v1 v2, cs' = [v0, v1, v2] := by
        match cs', hlen with
        | [y0, y1, y2], _ => exact ⟨y0, y1, y2, rfl⟩
      clear hxl hx3
      · have g0 := hf 0 _ rfl
        have g1 := hf 1 _ rfl
        have g2 := hf 2 _ rfl
        have cI : Try.prog.cellsOf 3 = 1 := by kernel_rfl
        simp [cI] at g0 g1 g2
        obtain ⟨p0, q0, _⟩ := DataW.trod_int Try.underlying3 g0
        obtain ⟨p1, q1, _⟩ := DataW.trod_int Try.underlying3 g1
        obtain ⟨p2, q2, _⟩ := DataW.trod_int Try.underlying3 g2
        have e0 := hcell 0 (by omega)
        have e1 := hcell 1 (by omega)
        have e2 := hcell 2 (by omega)
        rw [Go.Deep.add_add] at e0 e1 e2
        refine ⟨(p0, p1, p2), ?_, ?_, ?_⟩
        · have : v0 = .int .i64 p0 := by simpa using q0
          subst this
          simpa using e0
        · have : v1 = .int .i64 p1 := by simpa using q1
          subst this
          simpa using e1
        · have : v2 = .int .i64 p2 := by simpa using q2
          subst this
          simpa using e2
    let g : Nat → En := fun i => if h : i < m then (hi2 i h).choose else (0, 0, 0)
    refine ⟨(List.range len).map g, rd_cells (fun e => [.int .i64 e.1, .int .i64 e.2.1, .int .i64 e.2.2]) kE_mk (by simp) hl (Nat.le_trans hl (by simpa [maxLen] using hm)) fun j hj i u hu => ?_⟩
    have hj2 : j < len := by simpa using hj
    have hjm : j < m := by omega
    obtain ⟨c0, c1, c2⟩ := (hi2 j hjm).choose_spec
    have hg : ((List.range len).map g)[j] = (hi2 j hjm).choose := by simp [g, hjm]
    rw [hg] at hu
    have hs : kE.sz = 3 := rfl
    rw [hs]
    match i, hu with
    | 0, hu => cases hu; exact c0
    | 1, hu => cases hu; exact c1
    | 2, hu => cases hu; exact c2

end Go.Proofs.Ytpgnfccamcefgab
