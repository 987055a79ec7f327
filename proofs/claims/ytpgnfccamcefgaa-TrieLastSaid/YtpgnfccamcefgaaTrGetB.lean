/- Walk: the trie's Get, over bool. -/
import Derived.Test.YtpgnfccamcefgaaTrAtB
namespace Go.Proofs.Ytpgnfccamcefgaa
set_option linter.unusedVariables false
set_option linter.unusedSimpArgs false
open Go.RowKit Go.Proofs.YtpgnfccamcefgaaW.PrintWords Go.Proofs.YtpgnfccamcefgaaW.PrintLast Go.Proofs.YtpgnfccamcefgaaW.PrintMore

theorem at_VB {w : World} {A : Option Addr} {n : Nat} {xs : List Bool} (h : Kd.C Kd.bool w A n xs) (i : Int) (h0 : 0 ≤ i) (h1 : i < n) : ∃ ad, A = some ad ∧ w.cell? (ad.add i.toNat) = some (.bool (rdOf (false) xs i)) := Kd.at_bool h i h0 h1

set_option maxHeartbeats 1000000 in
set_option maxRecDepth 100000 in
theorem getB_any (w : World) (T : Nat) (vals : List Bool) (F H : Int → Option Int) (B : List (List Int)) (r : Int) (h : TrieR Kd.bool 90 w T vals F B) (hi : TInv F H B) (hv : ∀ x, 0 ≤ x → x ≤ 1114111 → -1 ≤ cellOf F B x ∧ cellOf F B x < vals.length) :
    Calls Try.prog 22 #[.pointer (some ⟨T, 0, none⟩), .int .i64 r] w fun e w' => e = .returned (.tuple #[.bool (if cellAt F B r = -1 then false else vals.getD (cellAt F B r).toNat false), .bool (decide (cellAt F B r ≠ -1))]) ∧ Drawn0 w w' := by
  have HT := Aside0.mk h
  obtain ⟨V, m, n, bl, hT, hV, hM, A, c, rfl, hc, hR⟩ := h.out
  obtain ⟨Av, cv, rfl, hcv, hRv⟩ := hV
  have c0 := row_cell hT 0 _ rfl
  have c2 := row_cell hT 2 _ rfl
  have hB : 0 < B.length := hi.zero.1
  have hVl : vals.length ≤ 9223372036854775807 := hRv.2.1
  have HI := Aside0.mk hi
  have HRv := Aside0.mk hRv
  have HVV := Aside0.mk hv
  have hb0 : ((B.length : Int) == 0) = false := beq_eq_false_iff_ne.2 (by omega)
  clear hT hM hc hR h hi hcv hRv hv
  by_cases h0 : 0 ≤ r
  · by_cases h1 : r ≤ 1114111
    · have HA := Aside0.mk (atB_any w T vals F H B r HT.out HI.out h0 h1)
      have HC : Aside0 (cellAt F B r = cellOf F B r) := ⟨by unfold cellAt; rw [if_pos ⟨h0, h1⟩]⟩
      rw [HC.out]
      obtain ⟨hlo, hhi⟩ := HVV.out r h0 h1
      obtain ⟨v, hv⟩ : ∃ v, cellOf F B r = v := ⟨_, rfl⟩
      rw [hv] at HA hlo hhi ⊢
      clear hv HC
      by_cases hn : v = -1
      · subst hn
        go_enter Try.func22, Try.ntmps22
        go_wp2_with fail
        refine HA.out.mono ?_
        rintro e w1 ⟨rfl, hd⟩
        go_wp2
        go_ret2
        exact ⟨rfl, hd⟩
      · obtain ⟨j, rfl⟩ : ∃ j : Nat, v = (j : Int) := ⟨v.toNat, by omega⟩
        obtain ⟨ad, rfl, hx⟩ := at_VB HRv.out (j : Int) (by omega) (by omega)
        have HX : Aside0 (rdOf (false) vals (j : Int) = vals.getD (j : Int).toNat false) := ⟨rfl⟩
        obtain ⟨s, hs⟩ : ∃ s, rdOf (false) vals (j : Int) = s := ⟨_, rfl⟩
        rw [hs] at hx HX
        simp only [Int.toNat_natCast] at hx
        have hjl : j < vals.length := by omega
        have hjb : ((j : Int) == -1) = false := beq_eq_false_iff_ne.2 (by omega)
        rw [if_neg hn, ← HX.out, decide_eq_true hn]
        clear hs HX
        go_enter Try.func22, Try.ntmps22
        go_wp2_with fail
        refine HA.out.mono ?_
        rintro e w1 ⟨rfl, ⟨nd, rfl⟩⟩
        go_wp2
        go_ret2
        exact ⟨rfl, ⟨_, rfl⟩⟩
    · have HC : Aside0 (cellAt F B r = -1) := ⟨by unfold cellAt; rw [if_neg (by omega)]⟩
      rw [HC.out]
      go_enter Try.func22, Try.ntmps22
      go_wp2
      go_ret2
      exact ⟨rfl, Drawn0.refl _⟩
  · have HC : Aside0 (cellAt F B r = -1) := ⟨by unfold cellAt; rw [if_neg (by omega)]⟩
    rw [HC.out]
    go_enter Try.func22, Try.ntmps22
    go_wp2
    go_ret2
    exact ⟨rfl, Drawn0.refl _⟩

end Go.Proofs.Ytpgnfccamcefgaa
