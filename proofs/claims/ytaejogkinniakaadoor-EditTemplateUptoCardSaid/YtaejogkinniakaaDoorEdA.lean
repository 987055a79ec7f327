/- Walks: edit.cut, edit.Expand. -/
import Derived.Test.YtaejogkinniakaaDoorEdP
import Derived.Test.YtaejogkinniakaaDoorEdPure
import Derived.Test.YtaejogkinniakaaDoorBase
namespace Go.Proofs.YtaejogkinniakaaDoor
set_option linter.unusedVariables false
set_option linter.unusedSimpArgs false
open Go.RowKit Go.Proofs.YtaejogkinniakaaDoorW.PrintWords Go.Proofs.YtaejogkinniakaaDoorW.PrintLast Go.Proofs.YtaejogkinniakaaDoorW.PrintMore Go.Proofs.YtaejogkinniakaaDoor.PEd

abbrev kB : Kd Int := Kd.int .u8
def sp (x : S46) : Sp := (x.f0, x.f1)
def pt (x : S37) : Pt := (x.f0, x.f1)
theorem rd33_at {l : List S37} {k : Nat} (h : k < l.length) : rd_T37 l (k : Int) = l[k] := by simp [rd_T37, h]
theorem rd84_at {l : List S46} {k : Nat} (h : k < l.length) : rd_T46 l (k : Int) = l[k] := by simp [rd_T46, h]

/-- A cut comes back as a slice that reads as the cut. -/
def RetCut (r : List Int) (w : World) (e : Ending) (w' : World) : Prop := ∃ A c ok, e = .returned (.tuple #[.slice A r.length c, .bool ok]) ∧ r.length ≤ c ∧ Kd.C kB w' A r.length r ∧ Below w.heap.size w w'

set_option maxHeartbeats 1000000 in
set_option maxRecDepth 100000 in
theorem cut_any (w : World) (A : Option Addr) (c : Nat) (b : List Int) (s0 s1 : Int) (hr : Kd.C kB w A b.length b) (hc : b.length ≤ c) :
    Calls Tryd.prog 39 #[.slice A b.length c, .agg #[.int .i64 s0, .int .i64 s1]] w (RetCut (cutL b (s0, s1)) w) := by
  have HR := Aside0.mk hr
  have hlen := hr.2.1
  clear hr
  by_cases h0 : 0 ≤ s0
  · by_cases h1 : s0 ≤ s1
    · by_cases h2 : s1 ≤ b.length
      · obtain ⟨i0, hi0, _, hsz, _⟩ := info_parts info5
        have hcut := cut_mid (P := Tryd.prog) 22 5 .i64 .i64 Tryd.underlying22 hi0 1 hsz A b.length c s0 s1 h0 h1 h2 hc
        have hd : Kd.C kB w (if c = s0.toNat then A else A.map (·.add (s0.toNat * 1))) ((b.take s1.toNat).drop s0.toNat).length ((b.take s1.toNat).drop s0.toNat) := Kd.C_drop (c := c) (m := s0.toNat) (Kd.C_take (m := s1.toNat) HR.out (by omega)) (by rw [List.length_take]; omega) (by rw [List.length_take]; omega)
        have e1 : ((b.take s1.toNat).drop s0.toNat).length = s1.toNat - s0.toNat := by rw [List.length_drop, List.length_take]; omega
        obtain ⟨A', hA'⟩ : ∃ A', (if c = s0.toNat then A else A.map (·.add (s0.toNat * 1))) = A' := ⟨_, rfl⟩
        obtain ⟨c', hc'⟩ : ∃ c', c - s0.toNat = c' := ⟨_, rfl⟩
        rw [hA'] at hcut hd
        rw [hc'] at hcut
        have HC' : Aside0 (s1.toNat - s0.toNat ≤ c') := ⟨by omega⟩
        have HD := Aside0.mk hd
        clear hA' hc' hd
        have hF : cutL b (s0, s1) = (b.take s1.toNat).drop s0.toNat := by unfold cutL; rw [if_pos ⟨h0, h1, h2⟩]
        have HF := Aside0.mk hF
        have HE := Aside0.mk e1
        clear hF e1 hi0 hsz
        go_enter Tryd.func39, Tryd.ntmps39
        go_wp2
        go_ret2
        refine ⟨A', c', true, ?_, ?_, ?_, below_alloc (Below.refl _ _) _⟩
        · rw [HF.out, HE.out]; rfl
        · rw [HF.out, HE.out]; exact HC'.out
        · rw [HF.out]; exact Kd.C_below HD.out (below_alloc (Below.refl _ _) _)
      · have HF : Aside0 (cutL b (s0, s1) = []) := ⟨by unfold cutL; rw [if_neg (fun h => h2 h.2.2)]⟩
        go_enter Tryd.func39, Tryd.ntmps39
        go_wp2
        go_ret2
        exact ⟨none, 0, false, by rw [HF.out]; rfl, by rw [HF.out]; exact Nat.le_refl _, by rw [HF.out]; exact Kd.C_nil _ _, below_alloc (Below.refl _ _) _⟩
    · have HF : Aside0 (cutL b (s0, s1) = []) := ⟨by unfold cutL; rw [if_neg (fun h => h1 h.2.1)]⟩
      go_enter Tryd.func39, Tryd.ntmps39
      go_wp2
      go_ret2
      exact ⟨none, 0, false, by rw [HF.out]; rfl, by rw [HF.out]; exact Nat.le_refl _, by rw [HF.out]; exact Kd.C_nil _ _, below_alloc (Below.refl _ _) _⟩
  · have HF : Aside0 (cutL b (s0, s1) = []) := ⟨by unfold cutL; rw [if_neg (fun h => h0 h.1)]⟩
    go_enter Tryd.func39, Tryd.ntmps39
    go_wp2
    go_ret2
    exact ⟨none, 0, false, by rw [HF.out]; rfl, by rw [HF.out]; exact Nat.le_refl _, by rw [HF.out]; exact Kd.C_nil _ _, below_alloc (Below.refl _ _) _⟩

end Go.Proofs.YtaejogkinniakaaDoor
