/- Blocks that are marked, and read on. -/
import Derived.Test.YtpgnfccamcefgaaEdC
import Derived.Test.YtpgnfccamcefgaaRd
namespace Go.Proofs.Ytpgnfccamcefgaa
set_option linter.unusedVariables false
set_option linter.unusedSimpArgs false
open Go.RowKit Go.Proofs.YtpgnfccamcefgaaW.PrintWords Go.Proofs.YtpgnfccamcefgaaW.PrintLast Go.Proofs.YtpgnfccamcefgaaW.PrintMore Go.Proofs.Ytpgnfccamcefgaa.PEditExpand

/-- The block holds these cells, marked or not. -/
def Blk (W : World) (g : Nat) (cs : Array Value) (t : TypeId) : Prop := ∃ fr : Nat × Nat, W.heap[g]? = some (.cells cs t fr)
theorem Blk.cell {W : World} {g : Nat} {cs : Array Value} {t : TypeId} (h : Blk W g cs t) (j : Nat) (v : Value) (hj : cs[j]? = some v) : W.cell? ⟨g, j, none⟩ = some v := by
  obtain ⟨fr, h⟩ := h
  exact row_cellE h j v hj
theorem Blk.below {W W' : World} {g : Nat} {cs : Array Value} {t : TypeId} (h : Blk W g cs t) (hb : Below W.heap.size W W') : Blk W' g cs t := by
  obtain ⟨fr, h⟩ := h
  exact ⟨fr, (hb.block g (Array.getElem?_eq_some_iff.1 h).1).trans h⟩
theorem Blk.freeze {W : World} {g : Nat} {cs : Array Value} {t : TypeId} (h : Blk W g cs t) (a : Addr) (n : Nat) : Blk (W.freeze a n) g cs t := by
  obtain ⟨⟨lo, hi⟩, h⟩ := h
  unfold World.freeze
  split
  · exact ⟨_, h⟩
  · unfold Blk
    simp only [Array.getElem?_modify]
    by_cases e : a.block = g
    · rw [if_pos e, h]
      exact ⟨_, rfl⟩
    · rw [if_neg e]
      exact ⟨_, h⟩
theorem below_freeze {W : World} {B : Nat} (a : Addr) (n : Nat) (hB : B ≤ a.block) : Below B W (W.freeze a n) := by
  unfold World.freeze
  split
  · exact Below.refl _ _
  · refine ⟨rfl, rfl, rfl, by simp, fun k hk => ?_⟩
    simp only [Array.getElem?_modify]
    rw [if_neg (by omega)]
theorem conv8 {W : World} {g : Nat} (h : Blk W g #[.int .u8 120] 5) : ∃ W', (convert 23 23 (.slice (some ⟨g, 0, none⟩) 1 1)).run Try.prog W = .ok (.slice (some ⟨g, 0, none⟩) 1 1) W' ∧ (∀ k cs t, Blk W k cs t → Blk W' k cs t) ∧ (∀ B, B ≤ g → Below B W W') := by
  have hsh : W.shape? g = some (5, 1) := by
    obtain ⟨fr, h⟩ := h
    unfold World.shape?
    rw [h]
    rfl
  refine ⟨W.freeze ⟨g, 1, none⟩ 1, ?_, fun k cs t hk => hk.freeze _ _, fun B hB => below_freeze _ _ hB⟩
  simp [convert, run_underlying Try.underlying23, run_underlying Try.underlying5, markStringish, hsh]
theorem rdK {W : World} {g c : Nat} {cs : Array Value} {t : TypeId} (h : Blk W g cs t) (h0 : cs[0]? = some (.int .u8 120)) (hc : 1 ≤ c) : RdS kB W (.slice (some ⟨g, 0, none⟩) 1 c) [120] := by
  refine rd_cells (kd := kB) (fun s => [.int .u8 s]) (fun _ _ => rfl) rfl hc (by decide) fun j hj i u hu => ?_
  have hj0 : j = 0 := by simpa using hj
  subst hj0
  have hi0 : i = 0 := by
    have := (List.getElem?_eq_some_iff.1 hu).1
    simpa using this
  subst hi0
  have hu2 : u = .int .u8 120 := by simpa using hu.symm
  subst hu2
  rw [add_plain]
  exact h.cell 0 _ h0
theorem blk_of_own {W : World} {base : Nat} {v : Value} (h : Own kB 5 W base v [120]) : ∃ g c cs, v = .slice (some ⟨g, 0, none⟩) 1 c ∧ 1 ≤ c ∧ Blk W g cs 5 ∧ cs[0]? = some (.int .u8 120) := by
  obtain ⟨g, cap, rfl, hg1, hg2, cs, hcs⟩ := Kd.R_form h (by decide)
  have hr := (Kd.R_reads' h).2
  obtain ⟨ad, e, hx⟩ := Kd.at_int hr.2 0 (by omega) (by decide)
  cases e
  refine ⟨g, cap, cs, rfl, hr.1, ⟨_, hcs⟩, ?_⟩
  have hx2 : W.cell? ⟨g, 0, none⟩ = some (.int .u8 120) := hx
  simpa [World.cell?, hcs] using hx2
theorem one33 {W : World} {k g : Nat} {t t' : TypeId} (hb : Blk W g #[.slice (some ⟨k, 0, none⟩) 1 1, .int .i64 (-1)] t) (hC : Blk W k #[.int .u8 120] t') : Kd.C k33 W (some ⟨g, 0, none⟩) 1 [⟨[120], -1⟩] := by
  have hC2 : Kd.C kB W (some ⟨k, 0, none⟩) 1 [120] := by
    obtain ⟨A, c', e, h1, h2⟩ := rdK hC rfl (Nat.le_refl 1)
    cases e
    exact h2
  refine ⟨rfl, by decide, fun _ => ⟨⟨g, 0, none⟩, rfl, fun j p hj => ?_⟩⟩
  have hj0 : j = 0 := by
    have := (List.getElem?_eq_some_iff.1 hj).1
    simpa using this
  subst hj0
  cases hj
  have hK : k33.K W ⟨[120], -1⟩ [.slice (some ⟨k, 0, none⟩) 1 1, .int .i64 (-1)] := k33_mk W ⟨[120], -1⟩ (A0 := some ⟨k, 0, none⟩) (c0 := 1) (by decide) hC2
  refine ⟨_, k33.K_len hK, hK, fun i u hu => ?_⟩
  rw [add_plain]
  refine hb.cell _ u ?_
  simpa using hu

end Go.Proofs.Ytpgnfccamcefgaa
