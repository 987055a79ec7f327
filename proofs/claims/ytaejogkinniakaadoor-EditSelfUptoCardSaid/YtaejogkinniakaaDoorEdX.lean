/- The reference's Split, tied; small facts on spans. -/
import Derived.Test.YtaejogkinniakaaDoorEdJ
import Derived.Test.YtaejogkinniakaaDoorEdS
namespace Go.Proofs.YtaejogkinniakaaDoor
set_option linter.unusedVariables false
set_option linter.unusedSimpArgs false
open Go.RowKit Go.Proofs.YtaejogkinniakaaDoorW.PrintWords Go.Proofs.YtaejogkinniakaaDoorW.PrintLast Go.Proofs.YtaejogkinniakaaDoorW.PrintMore Go.Proofs.YtaejogkinniakaaDoor.PEd

theorem refSplit_any (w : World) (Ab : Option Addr) (cb : Nat) (b : List Int) (Al : Option Addr) (cl : Nat) (l : List S46)
    (hb : Kd.C kB w Ab b.length b) (hcb : b.length ≤ cb) (hl : Kd.C k46 w Al l.length l) (hcl : l.length ≤ cl) (hn : b.length ≤ 1048576) (hm : l.length ≤ 1048576) :
    Calls Tryd.prog 16 #[.slice Ab b.length cb, .slice Al l.length cl] w fun e w' => ∃ v, e = .returned (.tuple #[v, .int .i64 (splitR b (oneL l)).2]) ∧ Own kBs 22 w' w.heap.size v (splitR b (oneL l)).1 ∧ Below w.heap.size w w' := by
  obtain ⟨k, hk⟩ := split_f b (by omega) l hm
  exact (rubricatorref22_Split.calls k Ab cb b Al cl l _ _ w hb hcb hl hcl hk).mono fun e w' ⟨v, e1, hS, hb⟩ => ⟨v, e1, Kd.S_R hS, hb⟩
theorem add_pos (a : Addr) (j : Nat) (h : 0 < j) : a.add j = ⟨a.block, a.off + j, none⟩ := by
  have := add_field a 0 j h
  rwa [Nat.zero_add, Addr.add_zero'] at this
theorem oneL_len (l : List S46) : (oneL l).length = l.length := List.length_map ..
theorem oneL_at {l : List S46} {k : Nat} (hk : k < l.length) : (oneL l)[k]'(by rw [oneL_len]; exact hk) = [sp l[k]] := by
  unfold oneL
  rw [List.getElem_map]

end Go.Proofs.YtaejogkinniakaaDoor
