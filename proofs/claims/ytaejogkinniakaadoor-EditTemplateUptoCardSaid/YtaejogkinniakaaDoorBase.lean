/- Words for the walks: slices that are read, rows of one's own, as one predicate each. -/
import Derived.Test.YtaejogkinniakaaDoorWMore
import Derived.Test.YtaejogkinniakaaDoorWWords
namespace Go.Proofs.YtaejogkinniakaaDoor
set_option linter.unusedVariables false
set_option linter.unusedSimpArgs false
open Go.RowKit Go.Proofs.YtaejogkinniakaaDoorW.PrintWords

/-- The value v is a slice that reads as l. -/
def RdS {α : Type} (d : Kd α) (w : World) (v : Value) (l : List α) : Prop := ∃ A c, v = .slice A l.length c ∧ l.length ≤ c ∧ d.C w A l.length l
theorem RdS.below {α : Type} {d : Kd α} {w w1 : World} {v : Value} {l : List α} (h : RdS d w v l) (hb : Below w.heap.size w w1) : RdS d w1 v l := by
  obtain ⟨A, c, e, hc, hr⟩ := h
  exact ⟨A, c, e, hc, Kd.C_below hr hb⟩
theorem RdS.of_R {α : Type} {d : Kd α} {e : Nat} {w : World} {base : Nat} {ok : Nat → Prop} {v : Value} {l : List α} (h : d.R e w base ok v l) : RdS d w v l := by
  obtain ⟨A, c, he, hc, hr⟩ := Kd.R_reads h
  exact ⟨A, c, he, hc, hr⟩
theorem RdS.nil {α : Type} (d : Kd α) (w : World) : RdS d w (.slice none 0 0) [] := RdS.of_R (Kd.R_nil d 0 w 0 (fun _ => True))
theorem RdS.len {α : Type} {d : Kd α} {w : World} {v : Value} {l : List α} (h : RdS d w v l) : l.length ≤ 9223372036854775807 := by
  obtain ⟨A, c, e, hc, hr⟩ := h
  exact hr.2.1

/-- A row of one's own since 'base', of whatever blocks. -/
abbrev Own {α : Type} (d : Kd α) (e : Nat) (w : World) (base : Nat) (v : Value) (l : List α) : Prop := d.R e w base (fun _ => True) v l

theorem below_to {w w1 w2 : World} (h : Below w.heap.size w w1) (k : Below w1.heap.size w1 w2) : Below w.heap.size w w2 := h.trans (k.mono h.size)

/-- A literal without elements. -/
theorem R_lit0 {α : Type} (d : Kd α) (e base : Nat) (w : World) (hb : base ≤ w.heap.size) : Own d e (w.alloc (.cells #[] e)) base (.slice (some ⟨w.heap.size, 0, none⟩) 0 0) [] := by
  refine ⟨fun _ _ => trivial, [], ?_, Reps.none _ _⟩
  have h := World.ownsRow_made (base := base) (e := e) (size := d.sz) w #[] 0 hb (Nat.zero_le _) (by simp)
  exact h

theorem take_snoc_eq {α : Type} {l m : List α} {k : Nat} (h : l.take k = m.take k) (hl : k < l.length) (hm : k < m.length) (he : l[k] = m[k]) : l.take (k + 1) = m.take (k + 1) := by
  rw [List.take_succ_eq_append_getElem hl, List.take_succ_eq_append_getElem hm, h, he]

theorem slice_new (w : World) (o : Obj) (n c : Nat) : Value.slice (some ⟨w.heap.size + 1, 0, none⟩) n c = .slice (some ⟨(w.alloc o).heap.size, 0, none⟩) n c := by simp
theorem size_le_alloc {n : Nat} {w : World} (h : n ≤ w.heap.size) (o : Obj) : n ≤ (w.alloc o).heap.size := by simp; omega

theorem slice_newN (w : World) (o : Obj) (m n c : Nat) : Value.slice (some ⟨w.heap.size + 1, 0, none⟩) n c = .slice (some ⟨((w.alloc o).drewN m).heap.size, 0, none⟩) n c := slice_new w o n c
theorem size_le_allocN {n : Nat} {w : World} (h : n ≤ w.heap.size) (o : Obj) (m : Nat) : n ≤ ((w.alloc o).drewN m).heap.size := size_le_alloc h o

/-- A cell of the block that was laid last, behind an append to an elder row. -/
theorem cell_after {α : Type} {d : Kd α} {e : Nat} {W w2 : World} {base : Nat} {ok : Nat → Prop} {u : Value} {xs : List α} (h : d.R e W base ok u xs) {cs : Array Value} {t : Nat} (hg : (W.alloc (.cells cs t)).grownBy w2 u.ownBlock) (j : Nat) (v : Value) (hj : cs[j]? = some v) :
    w2.cell? ⟨W.heap.size, j, none⟩ = some v := by
  refine hg.cell ?_ ?_
  · rw [World.cell?_alloc_at _ _ _ _ rfl]
    exact hj
  · intro hh
    have := Kd.R_lt h _ hh.symm
    simp at this

/-- The call hands back a row of its own, of which Q is known; nothing that was there has changed. -/
def RetOwn {α : Type} (d : Kd α) (t : Nat) (Q : List α → Prop) (w : World) (e : Ending) (w' : World) : Prop :=
  ∃ v' r, e = .returned v' ∧ Q r ∧ Own d t w' w.heap.size v' r ∧ Below w.heap.size w w'

/-! ### rows of whole numbers -/
theorem at_I {k : IntKind} {w : World} {A : Option Addr} {xs : List Int} (h : Kd.C (Kd.int k) w A xs.length xs) (j : Nat) (hj : j < xs.length) : ∃ ad, A = some ad ∧ w.cell? (ad.add j) = some (.int k xs[j]) := by
  obtain ⟨ad, c, e, _, hK, hc⟩ := Kd.C_get h (0 : Int) (j : Int) (by omega) (by omega)
  have e1 : xs.getD ((j : Int).toNat) 0 = xs[j] := by simp [hj]
  rw [e1] at hK
  have hK2 : c = [.int k xs[j]] := hK
  subst hK2
  have hz : (Kd.int k).sz = 1 := rfl
  refine ⟨ad, e, ?_⟩
  have := hc 0 _ rfl
  simpa [hz] using this
theorem own_atI {k : IntKind} {e : Nat} {w : World} {base g n cap : Nat} {xs : List Int} (h : Own (Kd.int k) e w base (.slice (some ⟨g, 0, none⟩) n cap) xs) (j : Nat) (hj : j < xs.length) :
    w.cell? ⟨g, j, none⟩ = some (.int k xs[j]) ∧ w.frozen? ⟨g, j, none⟩ = false := by
  have hn := (Kd.R_reads' h).1
  obtain ⟨c, hcl, hM, hcc, hf⟩ := Kd.R_elem h (0 : Int) (j : Int) (by omega) (by omega)
  have e1 : xs.getD ((j : Int).toNat) 0 = xs[j] := by simp [hj]
  rw [e1] at hM
  have hK2 : c = [.int k xs[j]] := hM
  subst hK2
  have hz : (Kd.int k).sz = 1 := rfl
  have h0 := hcc 0 _ rfl
  have h1 := hf 0
  simp only [hz, Int.toNat_natCast, Nat.mul_one, Nat.add_zero] at h0 h1
  exact ⟨h0, h1⟩
theorem own_setI {k : IntKind} {e : Nat} {w : World} {base g n cap : Nat} {xs : List Int} (h : Own (Kd.int k) e w base (.slice (some ⟨g, 0, none⟩) n cap) xs) (j : Nat) (hj : j < xs.length) (u : Int) :
    Own (Kd.int k) e (w.setCell ⟨g, j, none⟩ (.int k u)) base (.slice (some ⟨g, 0, none⟩) n cap) (xs.set j u) := by
  have hn := (Kd.R_reads' h).1
  obtain ⟨c, hcl, hM, hcc, hf⟩ := Kd.R_elem h (0 : Int) (j : Int) (by omega) (by omega)
  have h2 := Kd.R_seg (seg := [.int k u]) (j := 0) h (j : Int) (by omega) (by omega) (x' := u) hcl hcc (by show 0 + 1 ≤ 1; omega) (okp := fun _ => False) (by
    have hz : c.length = 1 := hcl
    obtain ⟨u0, rfl⟩ := List.length_eq_one_iff.1 hz
    rfl) (fun _ hh => hh.elim)
  have hz : (Kd.int k).sz = 1 := rfl
  simp only [hz, Int.toNat_natCast, Nat.mul_one, Nat.add_zero] at h2
  exact h2.1
theorem int_mkM (k : IntKind) (w : World) (base : Nat) (ok : Nat → Prop) (x : Int) : (Kd.int k).M w base ok x [.int k x] := rfl
theorem split_at {α : Type} {l : List α} {k : Nat} (hk : k < l.length) : l = l.take k ++ l[k] :: l.drop (k + 1) := by
  rw [← List.drop_eq_getElem_cons hk, List.take_append_drop]

theorem snoc_or {α : Type} (l : List α) : l = [] ∨ ∃ s r, l = s ++ [r] := by
  rcases List.eq_nil_or_concat l with he | ⟨s, r, he⟩
  · exact .inl he
  · exact .inr ⟨s, r, by rw [he, List.concat_eq_append]⟩

end Go.Proofs.YtaejogkinniakaaDoor
