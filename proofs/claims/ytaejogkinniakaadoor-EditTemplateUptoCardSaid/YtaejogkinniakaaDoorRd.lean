/- Slices read out of a block that holds their elements' cells, one behind the other. -/
import Derived.Test.YtaejogkinniakaaDoorBase
namespace Go.Proofs.YtaejogkinniakaaDoor
set_option linter.unusedVariables false
set_option linter.unusedSimpArgs false
open Go.RowKit Go.Proofs.YtaejogkinniakaaDoorW.PrintWords

theorem flat_at {α β : Type} {enc : α → List β} {sz : Nat} (hsz : ∀ x, (enc x).length = sz) : ∀ (l : List α) (j i : Nat) (hj : j < l.length), i < sz → (l.flatMap enc)[j * sz + i]? = (enc l[j])[i]?
  | x :: r, 0, i, hj, hi => by
    simp only [List.flatMap_cons, Nat.zero_mul, Nat.zero_add, List.getElem_cons_zero]
    rw [List.getElem?_append_left (by rw [hsz]; exact hi)]
  | x :: r, j + 1, i, hj, hi => by
    simp only [List.flatMap_cons, List.getElem_cons_succ]
    have e : (j + 1) * sz + i = (enc x).length + (j * sz + i) := by rw [hsz, Nat.succ_mul]; omega
    rw [e, List.getElem?_append_right (by omega), Nat.add_sub_cancel_left]
    exact flat_at hsz r j i (by simpa using hj) hi
theorem rd_cells {α : Type} {kd : Kd α} (enc : α → List Value) (hk : ∀ w x, kd.K w x (enc x)) {w : World} {a : Addr} {l : List α} {n c : Nat} (hn : l.length = n) (hl : n ≤ c) (hm : n ≤ 9223372036854775807)
    (hc : ∀ j (hj : j < l.length) i u, (enc l[j])[i]? = some u → w.cell? (a.add (j * kd.sz + i)) = some u) : RdS kd w (.slice (some a) n c) l := by
  subst hn
  refine ⟨some a, c, rfl, hl, rfl, hm, fun _ => ⟨a, rfl, fun j p hj => ⟨enc p, kd.K_len (hk w p), hk w p, fun i u hu => ?_⟩⟩⟩
  obtain ⟨hlt, rfl⟩ := List.getElem?_eq_some_iff.1 hj
  exact hc j hlt i u hu
/-- A block that holds just the elements' cells. -/
theorem rd_flat {α : Type} {kd : Kd α} (enc : α → List Value) (hk : ∀ w x, kd.K w x (enc x)) {w : World} {b t : Nat} {l : List α} (hb : w.heap[b]? = some (.cells (l.flatMap enc).toArray t (0, 0))) (hm : l.length ≤ 9223372036854775807) : RdS kd w (.slice (some ⟨b, 0, none⟩) l.length l.length) l :=
  rd_cells enc hk rfl (Nat.le_refl _) hm fun j hj i u hu => by
    have hsz : ∀ x, (enc x).length = kd.sz := fun x => kd.K_len (hk w x)
    have hi : i < kd.sz := by
      have := (List.getElem?_eq_some_iff.1 hu).1
      rw [hsz] at this
      exact this
    rw [add_plain]
    refine (blk_cell hb _).trans ?_
    rw [List.getElem?_toArray, flat_at hsz l j i hj hi]
    exact hu

end Go.Proofs.YtaejogkinniakaaDoor
