/- Walks: slices.Grow of nil, slices.Concat of two, ranges.Union. -/
import Derived.Test.YtpgnfccamcefgaaRgSort
import Derived.Test.YtpgnfccamcefgaaWZeros
import Derived.WalkSpells
import Derived.WalkLawsBesides
namespace Go.Proofs.Ytpgnfccamcefgaa
set_option linter.unusedVariables false
set_option linter.unusedSimpArgs false
open Go.RowKit Go.Proofs.YtpgnfccamcefgaaW.PrintWords Go.Proofs.YtpgnfccamcefgaaW.PrintLast Go.Proofs.YtpgnfccamcefgaaW.PrintMore
attribute [local go_sem] max2_int min2_int max_two min_two

set_option maxHeartbeats 1000000 in
set_option maxRecDepth 100000 in
theorem growR0_any (w : World) (n : Int) (h0 : 0 ≤ n) (hn : n * 16 ≤ 140737488355328) :
    Calls Try.prog 80 #[.slice none 0 0, .int .i64 n] w (RetOwn kR 60 (fun r => r = []) w) := by
  obtain ⟨n, rfl⟩ := Int.eq_ofNat_of_zero_le h0
  have HL := Aside0.mk hn
  clear h0
  rcases Nat.eq_zero_or_pos n with h0 | h0
  · subst h0
    go_enter Try.func80, Try.ntmps80
    go_wp2
    go_ret
    exact ⟨_, _, rfl, rfl, Kd.R_nil _ _ _ _ _, Below.refl _ _⟩
  · have hn2 : (n : Int) ≤ 9223372036854775807 := by omega
    obtain ⟨i0, hi0, _, hsz, _⟩ := info_parts Try.infoR
    have hcut0 := cut_to (P := Try.prog) 57 60 .i64 Try.underlying57 hi0 none 0 0 0 (by omega) (by omega) (by omega)
    have hcut := fun A m c (hc : m ≤ c) => cut_to (P := Try.prog) 57 60 .i64 Try.underlying57 hi0 A m c 0 (by omega) (by omega) hc
    have HC := Aside0.mk hcut
    clear hn hcut hi0 hsz
    go_enter Try.func80, Try.ntmps80
    go_wp2_with (at_builtin; refine Kd.R_append_zeros kR (w0 := w) w.heap.size rfl (.tmp 20) (.tmp 21) 57 3 60 (.agg #[(.int .i64 0), (.int .i64 0)]) 16 rfl Try.underlying57 Try.underlying3 Try.infoR rfl (by decide) (by omega) _ [] (0, 0) (n : Int) (fun _ => True) rfl rfl (kR_mkM _ _ _ (0, 0)) (fun _ _ => trivial) (Kd.R_nil _ _ _ _ _) (by omega) (Below.refl _ _) (Nat.le_refl _) ?aL ?_)
    case aL => have := HL.out; simp; omega
    intro v1 w1 ho hb _ _
    obtain ⟨A, c, rfl⟩ := Kd.R_slice ho
    have hc := (Kd.R_reads' ho).2.1
    have hcut := HC.out A _ c hc
    have HO := Aside0.mk ho
    have HB := Aside0.mk hb
    clear ho hb hc HC hcut0
    go_wp2
    go_ret
    refine ⟨_, _, rfl, rfl, ?_, HB.out⟩
    have := Kd.R_take (m := 0) HO.out (Nat.zero_le _)
    simpa using this

theorem cells2 {w : World} {b : Nat} {v u : Value} {t : Nat} (h : w.heap[b]? = some (.cells #[v, u] t (0, 0))) : w.cell? ⟨b, 0, none⟩ = some v ∧ w.cell? ⟨b, 1, none⟩ = some u := ⟨(blk_cell h 0).trans rfl, (blk_cell h 1).trans rfl⟩

set_option maxHeartbeats 4000000 in
set_option maxRecDepth 100000 in
theorem concatR_any (w : World) (b : Nat) (v u : Value) (l m : List Rg) (hb : w.heap[b]? = some (.cells #[v, u] 57 (0, 0))) (h : RdS kR w v l) (h' : RdS kR w u m) (hl : (l.length + m.length) * 16 ≤ 140737488355328) :
    Calls Try.prog 70 #[.slice (some ⟨b, 0, none⟩) 2 2] w (RetOwn kR 60 (fun r => r = l ++ m) w) := by
  have HL := Aside0.mk hl
  obtain ⟨A, c, rfl, hc, hr⟩ := h
  obtain ⟨B, c', rfl, hc', hr'⟩ := h'
  have HR := Aside0.mk hr
  have HR' := Aside0.mk hr'
  obtain ⟨hx0, hx1⟩ := cells2 hb
  have hlt := blk_lt hb
  have h1 := hr.2.1
  have h2 := hr'.2.1
  have hs1 : (l.length : Int) + (m.length : Int) ≤ 9223372036854775807 := by omega
  clear hb hl hr hr' hc hc'
  go_enter Try.func70, Try.ntmps70
  go_wp2
  refine wp_loop_rounds 3 ?_
  rw [rounds_succ]
  go_wp2
  rw [rounds_succ]
  go_wp2
  rw [rounds_succ]
  go_wp2_with fail
  refine (growR0_any _ _ (by omega) (by have := HL.out; omega)).mono ?_
  rintro e w1 ⟨v1, r, rfl, rfl, ho, hb⟩
  have hy0 : w1.cell? ⟨b, 0, none⟩ = some (.slice A l.length c) := (hb.cell (p := ⟨b, 0, none⟩) hlt).trans hx0
  have hy1 : w1.cell? ⟨b, 1, none⟩ = some (.slice B m.length c') := (hb.cell (p := ⟨b, 1, none⟩) hlt).trans hx1
  have HO := Aside0.mk ho
  have HB := Aside0.mk hb
  clear ho hb hx0 hx1
  go_wp2
  refine wp_loop_rounds 3 ?_
  rw [rounds_succ]
  go_wp2_with (at_builtin; refine Kd.R_append_rows kR (w0 := w) w.heap.size rfl (.tmp 31) (.tmp 32) 57 60 (.agg #[(.int .i64 0), (.int .i64 0)]) 16 rfl Try.underlying57 Try.infoR rfl (by decide) (by omega) _ [] l A l.length c (fun _ => True) (fun _ => False) rfl rfl HO.out (Kd.C_below HR.out HB.out) (fun _ _ h => h) (fun _ h => h.elim) (fun _ _ => trivial) HB.out HB.out.size ?aL ?_)
  case aL => have := HL.out; simp; omega
  intro v2 w2 ho hb _ _
  have hz1 : w2.cell? ⟨b, 1, none⟩ = some (.slice B m.length c') := (hb.cell (p := ⟨b, 1, none⟩) hlt).trans (by have := HB.out.cell (p := ⟨b, 1, none⟩) hlt; exact this.symm.trans hy1)
  have HO2 : Aside0 (Own kR 60 w2 w.heap.size v2 l) := ⟨by simpa using ho⟩
  have HB2 := Aside0.mk hb
  clear ho hb hy0 hy1 HO HB
  go_wp2
  rw [rounds_succ]
  go_wp2_with (at_builtin; refine Kd.R_append_rows kR (w0 := w) w.heap.size rfl (.tmp 31) (.tmp 32) 57 60 (.agg #[(.int .i64 0), (.int .i64 0)]) 16 rfl Try.underlying57 Try.infoR rfl (by decide) (by omega) _ l m B m.length c' (fun _ => True) (fun _ => False) rfl rfl HO2.out (Kd.C_below HR'.out HB2.out) (fun _ _ h => h) (fun _ h => h.elim) (fun _ _ => trivial) HB2.out HB2.out.size ?aL2 ?_)
  case aL2 => have := HL.out; omega
  intro v3 w3 ho hb _ _
  have HO3 := Aside0.mk ho
  have HB3 := Aside0.mk hb
  clear ho hb hz1 HO2 HB2
  go_wp2
  rw [rounds_succ]
  go_wp2
  go_ret
  exact ⟨_, _, rfl, rfl, by have := HO3.out; simpa using this, HB3.out⟩

theorem memU (l m : List Rg) {r : List Rg} (h : SetOf (fun x => Mem x (l ++ m)) r) : SetOf (fun x => Mem x l ∨ Mem x m) r := setOf_congr h (fun x _ _ => mem_append x l m)

set_option maxHeartbeats 1000000 in
set_option maxRecDepth 100000 in
theorem union_any (w : World) (v u : Value) (l m : List Rg) (h : RdS kR w v l) (h' : RdS kR w u m) (hl : (l.length + m.length) * 16 ≤ 140737488355328) :
    Calls Try.prog 45 #[v, u] w (RetOwn kR 60 (fun r => SetOf (fun x => Mem x l ∨ Mem x m) r ∧ r.length ≤ l.length + m.length) w) := by
  have HL := Aside0.mk hl
  have hh := Aside0.mk h
  have hh' := Aside0.mk h'
  obtain ⟨A, c, rfl, -, -⟩ := h
  obtain ⟨B, c', rfl, -, -⟩ := h'
  clear hl
  go_enter Try.func45, Try.ntmps45
  go_wp2_with fail
  refine (concatR_any _ w.heap.size _ _ l m (heap_alloc_new w _) (hh.out.below (below_alloc (Below.refl _ _) _)) (hh'.out.below (below_alloc (Below.refl _ _) _)) HL.out).mono ?_
  rintro e w1 ⟨v1, r, rfl, rfl, ho, hb⟩
  have HB : Aside0 (Below w.heap.size w w1) := ⟨below_to (below_alloc (Below.refl _ _) _) hb⟩
  have HO := Aside0.mk ho
  clear ho hb
  go_wp2_with fail
  refine (make_any sort_said _ _ (l ++ m) (RdS.of_R HO.out) (by have := HL.out; simpa using this)).mono ?_
  rintro e w2 ⟨v2, r, rfl, ⟨hs, hl⟩, ho, hb⟩
  have HF : Aside0 (SetOf (fun x => Mem x l ∨ Mem x m) r ∧ r.length ≤ l.length + m.length) := ⟨memU _ _ hs, by simpa using hl⟩
  have HB2 : Aside0 (Below w.heap.size w w2) := ⟨below_to HB.out hb⟩
  have HO2 := Aside0.mk (Kd.R_lower ho HB.out.size)
  clear hs hl ho hb
  go_wp2
  go_ret
  exact ⟨_, _, rfl, HF.out, HO2.out, HB2.out⟩

end Go.Proofs.Ytpgnfccamcefgaa
