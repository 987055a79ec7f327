/- Walk: the trie's at, over string. -/
import Derived.Test.YtpgnfccamcefgaaTrBase
import Derived.BigRegion
import Derived.Deep.QuietTactic
import Derived.BigQuiet
namespace Go.Proofs.Ytpgnfccamcefgaa
set_option linter.unusedVariables false
set_option linter.unusedSimpArgs false
open Go.RowKit Go.Proofs.YtpgnfccamcefgaaW.PrintWords Go.Proofs.YtpgnfccamcefgaaW.PrintLast Go.Proofs.YtpgnfccamcefgaaW.PrintMore

set_option maxHeartbeats 1000000 in
set_option maxRecDepth 100000 in
theorem atS_any (w : World) (T : Nat) (vals : List ByteArray) (F H : Int → Option Int) (B : List (List Int)) (r : Int) (h : TrieR Kd.string 71 w T vals F B) (hi : TInv F H B) (h0 : 0 ≤ r) (h1 : r ≤ 1114111) :
    Calls Try.prog 61 #[.pointer (some ⟨T, 0, none⟩), .int .i64 r] w fun e w' => e = .returned (.int .i32 (cellOf F B r)) ∧ Drawn0 w w' := by
  obtain ⟨V, m, n, bl, hT, -, hM, A, c, rfl, hc, hR⟩ := h.out
  have c1 := row_cell hT 1 _ rfl
  have c2 := row_cell hT 2 _ rfl
  have hlk := fun q => (hM.drewN q).run_lookup Try.mtF (r / 256) (WalkArith.wf_i64 (by omega))
  have hb := hi.blk_in (r / 256)
  unfold blkOf at hb
  obtain ⟨k, hk⟩ : ∃ k : Nat, (F (r / 256)).getD 0 = (k : Int) := ⟨((F (r / 256)).getD 0).toNat, by omega⟩
  rw [hk] at hb
  simp only [hk] at hlk
  obtain ⟨j, hj⟩ : ∃ j : Nat, r % 256 = (j : Int) := ⟨(r % 256).toNat, by omega⟩
  obtain ⟨ad, rfl, hcell⟩ := at_C hR k j (by omega) (by omega)
  have HF : Aside0 (cellOf F B r = (B.getD k []).getD j 0) := ⟨by unfold cellOf; rw [hk, hj]; simp⟩
  obtain ⟨v, hv⟩ : ∃ v, (B.getD k []).getD j 0 = v := ⟨_, rfl⟩
  rw [hv] at hcell HF
  have h8 : bits .and .i64 r 255 = (j : Int) := by rw [and255 h0 (by omega), hj]
  have hkl : k < B.length := by omega
  have hjl : j < 256 := by omega
  clear hb hk hT hM hc hR h hi hv
  go_enter Try.func61, Try.ntmps61
  go_wp2
  go_quiet (fail)
  go_wp2
  go_ret
  exact ⟨by rw [HF.out]; rfl, ⟨_, rfl⟩⟩

end Go.Proofs.Ytpgnfccamcefgaa
