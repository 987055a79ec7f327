/- Arguments of type []string and []int, read; what is known of what is of little bulk. -/
import Derived.Test.YtpgnfccamcefgaaRows
import Derived.Test.YtpgnfccamcefgaaRd
import Derived.SliceStrings
import Derived.ChangeSlices
namespace Go.Proofs.Ytpgnfccamcefgaa
set_option linter.unusedVariables false
set_option linter.unusedSimpArgs false
open Go.ChangeShapes Go.WideShapes Go.RowKit Go.Proofs.YtpgnfccamcefgaaW.PrintWords

theorem bulk_one {H : Type} (d : DataW H) : 1 ≤ Rows.uptoBulk d := by
  cases d with
  | lit l => cases l <;> simp [Rows.uptoBulk]
  | nil => exact Nat.le_refl _
  | held h => exact Nat.le_refl _
  | _ => simp only [Rows.uptoBulk]; omega
theorem bulk_len {H : Type} : ∀ l : List (DataW H), l.length ≤ Rows.uptoBulkAll l
  | [] => Nat.zero_le _
  | d :: r => by
    have h1 := bulk_one d
    have h2 := bulk_len r
    simp only [Rows.uptoBulkAll, List.length_cons]
    omega
/-- A slice's elements are no more than its bulk. -/
theorem bulk_slice {H : Type} (elems spare : List (DataW H)) : elems.length ≤ Rows.uptoBulk (.slice elems spare) := by
  have h := bulk_len elems
  simp only [Rows.uptoBulk]
  omega
theorem bulk_all {H : Type} {l : List (DataW H)} (h : Rows.uptoSmall H l = true) : Rows.uptoBulkAll l ≤ 1048576 := of_decide_eq_true h

theorem open_S {H : Type} {enc : TypeId × Value → H} {W : World} {a : Option Addr} {len cap : Nat} {d : DataW H} {ps : List MemPlace}
    (h : DataW.Trod enc Try.prog W 0 (fun _ => true) true 46 (.slice a len cap) d ps) : ∃ l : List ByteArray, RdS Kd.string W (.slice a len cap) l ∧ l.length ≤ Rows.uptoBulk d := by
  obtain ⟨fuel, hf⟩ := h
  rcases open_strings Try.underlying46 Try.underlying9 (by kernel_rfl) hf with ⟨hcs, _⟩ | ⟨x, l, c, ss, hcs, _, hl, hm, hss, hd, hc, _⟩
  · simp [Value.cells] at hcs
    obtain ⟨rfl, rfl, rfl⟩ := hcs
    exact ⟨[], RdS.nil _ _, Nat.zero_le _⟩
  · simp [Value.cells] at hcs
    obtain ⟨rfl, rfl, rfl⟩ := hcs
    have hsl : len ≤ ss.length := by rw [hss]; split <;> omega
    have hlen : (ss.take len).length = len := by rw [List.length_take]; omega
    refine ⟨ss.take len, rd_cells (kd := Kd.string) (fun s => [.string s]) (fun _ _ => rfl) hlen hl (Nat.le_trans hl (by simpa [maxLen] using hm)) (fun j hj i u hu => ?_), ?_⟩
    · have hj2 : j < ss.length := by omega
      have hz : Kd.string.sz = 1 := rfl
      rw [hz, Nat.mul_one]
      match i, hu with
      | 0, hu =>
        cases hu
        have h := hc j hj2
        simpa [hj2] using h
    · cases hd
      exact Nat.le_trans (by simp [strs]) (bulk_slice _ _)
theorem open_N {H : Type} {enc : TypeId × Value → H} {W : World} {a : Option Addr} {len cap : Nat} {d : DataW H} {ps : List MemPlace}
    (h : DataW.Trod enc Try.prog W 0 (fun _ => true) true 47 (.slice a len cap) d ps) : ∃ l : List Int, RdS (Kd.int .i64) W (.slice a len cap) l ∧ l.length ≤ Rows.uptoBulk d := by
  obtain ⟨fuel, hf⟩ := h
  rcases open_ints Try.underlying47 Try.underlying3 (by kernel_rfl) hf with ⟨hcs, _⟩ | ⟨x, l, c, ss, hcs, _, hl, hm, hss, hd, hc, _⟩
  · simp [Value.cells] at hcs
    obtain ⟨rfl, rfl, rfl⟩ := hcs
    exact ⟨[], RdS.nil _ _, Nat.zero_le _⟩
  · simp [Value.cells] at hcs
    obtain ⟨rfl, rfl, rfl⟩ := hcs
    have hsl : len ≤ ss.length := by rw [hss]; split <;> omega
    have hlen : (ss.take len).length = len := by rw [List.length_take]; omega
    refine ⟨ss.take len, rd_cells (kd := Kd.int .i64) (fun s => [.int .i64 s]) (fun _ _ => rfl) hlen hl (Nat.le_trans hl (by simpa [maxLen] using hm)) (fun j hj i u hu => ?_), ?_⟩
    · have hj2 : j < ss.length := by omega
      have hz : (Kd.int .i64).sz = 1 := rfl
      rw [hz, Nat.mul_one]
      match i, hu with
      | 0, hu =>
        cases hu
        have h := hc j hj2
        simpa [hj2] using h
    · cases hd
      exact Nat.le_trans (by simp [lits]) (bulk_slice _ _)

end Go.Proofs.Ytpgnfccamcefgaa
