/- Walk: the trie's shared, over string. -/
import Derived.Test.YtpgnfccamcefgaaTrBase
import Derived.BigRegion
import Derived.Deep.QuietTactic
import Derived.BigQuiet
namespace Go.Proofs.Ytpgnfccamcefgaa
set_option linter.unusedVariables false
set_option linter.unusedSimpArgs false
open Go.RowKit Go.Proofs.YtpgnfccamcefgaaW.PrintWords Go.Proofs.YtpgnfccamcefgaaW.PrintLast Go.Proofs.YtpgnfccamcefgaaW.PrintMore

set_option maxHeartbeats 1000000 in
set_option maxRecDepth 100000 in
theorem sharedS_any (w : World) (T hb nh k : Nat) (vals : List ByteArray) (F H : Int → Option Int) (B : List (List Int)) (h : TrieR Kd.string 71 w T vals F B) (hh : HMap w hb nh H) (hi : TInv F H B) (hk : k < B.length) (hw : ∀ j, j < 256 → (Lit.int .i32 ((B.getD k []).getD j 0)).wf = true) :
    Calls Try.prog 73 #[.pointer (some ⟨T, 0, none⟩), .map (some hb), .int .i64 k] w fun e w' => e = .returned (.bool (decide (H ((B.getD k []).getD 0 0) = some (k : Int)))) ∧ w = w' := by
  obtain ⟨V, m, n, bl, hT, -, -, A, c, rfl, hc, hR⟩ := h.out
  have c2 := row_cell hT 2 _ rfl
  obtain ⟨ad, rfl, hcell⟩ := at_C hR k 0 hk (by omega)
  have hw0 := hw 0 (by omega)
  obtain ⟨x, hx⟩ : ∃ x, (B.getD k []).getD 0 0 = x := ⟨_, rfl⟩
  rw [hx, add0] at hcell
  rw [hx] at hw0 ⊢
  obtain ⟨o, ho⟩ : ∃ o, H x = o := ⟨_, rfl⟩
  have HH := Aside0.mk hh
  have HO := Aside0.mk ho
  have HW := Aside0.mk hw0
  clear hT hc hR h hi hx hw hw0 hh ho
  cases o with
  | none =>
    have HF : Aside0 (decide (H x = some (k : Int)) = false) := ⟨by rw [HO.out]; rfl⟩
    go_enter Try.func73, Try.ntmps73
    go_wp2_with (at_lookup; refine lookupF_ok Try.mtH rfl _ _ rfl rfl HH.out x rfl HW.out ?_; rw [HO.out])
    go_ret
    exact ⟨by rw [HF.out]; rfl, rfl⟩
  | some y =>
    by_cases hy : y = (k : Int)
    · have HF : Aside0 (decide (H x = some (k : Int)) = true) := ⟨by rw [HO.out, hy]; simp⟩
      subst hy
      go_enter Try.func73, Try.ntmps73
      go_wp2_with (at_lookup; refine lookupF_ok Try.mtH rfl _ _ rfl rfl HH.out x rfl HW.out ?_; rw [HO.out])
      go_ret
      exact ⟨by rw [HF.out]; rfl, rfl⟩
    · have HF : Aside0 (decide (H x = some (k : Int)) = false) := ⟨by rw [HO.out]; simp [hy]⟩
      have hyb : (y == (k : Int)) = false := by simpa using hy
      go_enter Try.func73, Try.ntmps73
      go_wp2_with (at_lookup; refine lookupF_ok Try.mtH rfl _ _ rfl rfl HH.out x rfl HW.out ?_; rw [HO.out])
      go_ret
      exact ⟨by rw [HF.out]; rfl, rfl⟩

end Go.Proofs.Ytpgnfccamcefgaa
