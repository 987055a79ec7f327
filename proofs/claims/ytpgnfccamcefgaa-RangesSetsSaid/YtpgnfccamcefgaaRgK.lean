/- Walk of the law's own helper 'awake': true. Slices of ranges that are read, out of their cells. -/
import Derived.Test.YtpgnfccamcefgaaRgH
import Derived.Test.YtpgnfccamcefgaaRgA
namespace Go.Proofs.Ytpgnfccamcefgaa
set_option linter.unusedVariables false
set_option linter.unusedSimpArgs false
open Go.RowKit Go.Proofs.YtpgnfccamcefgaaW.PrintWords Go.Proofs.YtpgnfccamcefgaaW.PrintLast Go.Proofs.YtpgnfccamcefgaaW.PrintMore

theorem rdR_of {w : World} {a : Addr} {l : List Rg} {n c : Nat} (hn : l.length = n) (hl : n ≤ c) (hm : n ≤ 9223372036854775807)
    (hc : ∀ j (hj : j < l.length), w.cell? (a.add (j * 2)) = some (.int .i64 l[j].1) ∧ w.cell? (a.add (j * 2 + 1)) = some (.int .i64 l[j].2)) : RdS kR w (.slice (some a) n c) l := by
  subst hn
  refine ⟨some a, c, rfl, hl, rfl, hm, fun _ => ⟨a, rfl, fun j p hj => ⟨[.int .i64 p.1, .int .i64 p.2], rfl, kR_mk w p, fun i u hu => ?_⟩⟩⟩
  obtain ⟨hlt, rfl⟩ := List.getElem?_eq_some_iff.1 hj
  have h := hc j hlt
  match i, hu with
  | 0, hu => cases hu; exact h.1
  | 1, hu => cases hu; exact h.2
theorem rdR_blk {w : World} {b t : Nat} {cs : Array Value} {l : List Rg} {n : Nat} (hb : w.heap[b]? = some (.cells cs t (0, 0))) (hn : l.length = n) (hm : n ≤ 9223372036854775807)
    (hc : ∀ j (hj : j < l.length), cs[j * 2]? = some (.int .i64 l[j].1) ∧ cs[j * 2 + 1]? = some (.int .i64 l[j].2)) : RdS kR w (.slice (some ⟨b, 0, none⟩) n n) l :=
  rdR_of hn (Nat.le_refl _) hm fun j hj => by
    have e0 : ∀ i, (⟨b, 0, none⟩ : Addr).add i = ⟨b, i, none⟩ := fun i => by simp [Addr.add]; omega
    have e1 := e0 (j * 2)
    have e2 := e0 (j * 2 + 1)
    rw [e1, e2]
    exact ⟨(blk_cell hb _).trans (hc j hj).1, (blk_cell hb _).trans (hc j hj).2⟩

theorem set59 {r : List Rg} (h : SetOf (fun x => Mem x [(8, 9), (5, 7)]) r) : r = [(5, 9)] := by
  have h2 : SetOf (fun x => Mem x [(8, 9), (5, 7)]) [(5, 9)] := by
    refine ⟨⟨by decide, by decide, by decide, trivial⟩, fun x => ?_⟩
    simp only [mem_cons]
    have := mem_nil x
    constructor
    · rintro (h | h)
      · exact ⟨by omega, by omega, by omega⟩
      · exact absurd h this
    · rintro ⟨h0, h1, h | h | h⟩
      · exact .inl ⟨by omega, by omega⟩
      · exact .inl ⟨by omega, by omega⟩
      · exact absurd h this
  exact setOf_eq h h2

set_option maxHeartbeats 1000000 in
set_option maxRecDepth 100000 in
theorem awake_any (w : World) : Calls Try.prog 41 #[] w fun e w' => e = .returned (.bool true) ∧ Below w.heap.size w w' := by
  go_enter Try.func41, Try.ntmps41
  go_wp2_with fail
  refine (make_any sort_said _ _ [(8, 9), (5, 7)] (rdR_blk (heap_alloc_new w _) rfl (by decide) ?hc) (by decide)).mono ?_
  case hc =>
    intro j hj
    match j, hj with
    | 0, _ => exact ⟨rfl, rfl⟩
    | 1, _ => exact ⟨rfl, rfl⟩
  rintro e w1 ⟨v1, r, rfl, ⟨hs, -⟩, ho, hb⟩
  obtain rfl := set59 hs
  have HB : Aside0 (Below w.heap.size w w1) := ⟨below_to (below_alloc (Below.refl _ _) _) hb⟩
  have HO := Aside0.mk (RdS.of_R ho)
  clear hs ho hb
  go_wp2_with fail
  refine (equalR_any _ v1 _ [(5, 9)] [(5, 9)] (HO.out.below (below_alloc (Below.refl _ _) _)) (rdR_blk (heap_alloc_new w1 _) rfl (by decide) ?hd)).mono ?_
  case hd =>
    intro j hj
    match j, hj with
    | 0, _ => exact ⟨rfl, rfl⟩
  rintro e w2 ⟨rfl, hd⟩
  have HD : Aside0 (Below w.heap.size w w2) := ⟨below_to HB.out (below_to (below_alloc (Below.refl _ _) _) hd.below)⟩
  clear hd
  go_wp2
  go_ret
  exact ⟨rfl, HD.out⟩

end Go.Proofs.Ytpgnfccamcefgaa
