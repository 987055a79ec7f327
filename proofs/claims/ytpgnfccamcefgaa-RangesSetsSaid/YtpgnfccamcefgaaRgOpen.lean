/- An argument of type []api.Range, read: it is a slice of some ranges. -/
import Derived.Test.YtpgnfccamcefgaaRgK
import Derived.Deep.SlicePairs
namespace Go.Proofs.Ytpgnfccamcefgaa
set_option linter.unusedVariables false
set_option linter.unusedSimpArgs false
open Go.ChangeShapes Go.WideShapes Go.RowKit Go.Proofs.YtpgnfccamcefgaaW.PrintWords

theorem laidOut : laidOutB Try.prog = true := by kernel_rfl
theorem open_R {H : Type} {enc : TypeId × Value → H} {W : World} {a : Option Addr} {len cap : Nat} {d : DataW H} {ps : List MemPlace}
    (h : DataW.Trod enc Try.prog W 0 (fun _ => true) true 57 (.slice a len cap) d ps) : ∃ l : List Rg, RdS kR W (.slice a len cap) l := by
  obtain ⟨fuel, hf⟩ := h
  rcases Go.Deep.open_slice_pairs Try.underlying57 Try.underlying60 (by kernel_rfl) rfl rfl (by kernel_rfl) (by kernel_rfl) hf with ⟨hcs, _⟩ | ⟨x, l, c, m, n, V0, V1, D0, D1, P0, P1, hcs, _, hl, hm, hmm, _, hi⟩
  · simp [Value.cells] at hcs
    obtain ⟨rfl, rfl, rfl⟩ := hcs
    exact ⟨[], RdS.nil _ _⟩
  · simp [Value.cells] at hcs
    obtain ⟨rfl, rfl, rfl⟩ := hcs
    have hlm : len ≤ m := by rw [hmm]; simpa using hl
    have hi2 : ∀ i, i < m → ∃ y z, V0 i = .int .i64 y ∧ V1 i = .int .i64 z := fun i h => by
      obtain ⟨_, _, h0, h1⟩ := hi i h
      obtain ⟨y, e0, _⟩ := DataW.trod_int Try.underlying3 h0
      obtain ⟨z, e1, _⟩ := DataW.trod_int Try.underlying3 h1
      exact ⟨y, z, by simpa using e0, by simpa using e1⟩
    let g : Nat → Rg := fun i => match V0 i, V1 i with | .int _ y, .int _ z => (y, z) | _, _ => (0, 0)
    refine ⟨(List.range len).map g, rdR_of (by simp) hl (Nat.le_trans hl (by simpa [maxLen] using hm)) fun j hj => ?_⟩
    have hj2 : j < len := by simpa using hj
    obtain ⟨c0, c1, _, _⟩ := hi j (by omega)
    obtain ⟨y, z, e0, e1⟩ := hi2 j (by omega)
    have hg : ((List.range len).map g)[j] = (y, z) := by simp [g, e0, e1]
    rw [hg, c0, c1, e0, e1]
    exact ⟨rfl, rfl⟩

end Go.Proofs.Ytpgnfccamcefgaa
