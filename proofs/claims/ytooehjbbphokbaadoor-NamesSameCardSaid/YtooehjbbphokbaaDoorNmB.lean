/- What the printed Loose of the reference comes to. -/
import Derived.Test.YtooehjbbphokbaaDoorNmA
import Derived.Test.YtooehjbbphokbaaDoorLnR
namespace Go.Proofs.YtooehjbbphokbaaDoor
set_option linter.unusedVariables false
set_option linter.unusedSimpArgs false
open Go.RowKit Go.Proofs.YtooehjbbphokbaaDoorW.PrintWords Go.Proofs.YtooehjbbphokbaaDoorW.PrintLast Go.Proofs.YtooehjbbphokbaaDoorW.PrintMore Go.Proofs.YtooehjbbphokbaaDoor.PNamesBack

theorem bsL_app (a b : List UInt8) : bsL a ++ bsL b = bsL (a ++ b) := by
  have h : (bsL a ++ bsL b).data.toList = a ++ b := by
    rw [ByteArray.data_append]
    simp [bsL]
  rw [← h, bsL_data]
theorem one_bsL (L : List UInt8) (i : Nat) (h : i < L.length) : (bsL L).extract i (i + 1) = bsL [L[i]] := by
  rw [ext_bsL, show i + 1 - i = 1 by omega, List.drop_eq_getElem_cons h]
  rfl
theorem strOf_one (b : UInt8) (h0 : 65 ≤ b.toNat) (h1 : b.toNat ≤ 90) : strOfNums [((b.toNat : Int) + 32) % 256] = bsL [b + 32] := by
  have key : ∀ n : Fin 256, 65 ≤ n.val → n.val ≤ 90 → ((n.val : Int) + 32) % 256 = ((UInt8.ofNat n.val + 32).toNat : Int) := by decide +kernel
  have h := key ⟨b.toNat, UInt8.toNat_lt b⟩ h0 h1
  have h2 : ((b.toNat : Int) + 32) % 256 = ((b + 32).toNat : Int) := by
    rw [show UInt8.ofNat b.toNat = b by simp] at h
    exact h
  rw [h2]
  exact strOf_nums [b + 32]
theorem loose_ev0 (L : List UInt8) (hL : L.length < 140737488355328) : ∀ (n i : Nat), i + n = L.length → Ev (fun k => rubricatorref05_Loose.l0 k (bsL L) (bsL (lowL (L.take i))) (i : Int)) (bsL (cutIs (lowL L)))
  | 0, i, h => by
    rw [List.take_of_length_le (by omega)]
    refine Ev.step (f := fun _ => some (bsL (cutIs (lowL L)))) (fun k => ?_) (Ev.now _)
    rw [rubricatorref05_Loose.l0, size_bsL, size_bsL, if_neg (by omega)]
    unfold cutIs
    by_cases h2 : 2 < (lowL L).length
    · rw [if_pos (by omega), if_pos (by omega), if_pos (by omega), take_two (by omega), toList_bsL]
      by_cases hq : (lowL L).take 2 = [105, 115]
      · rw [if_pos hq, if_pos ⟨h2, hq⟩]
        have := drop_two (lowL L)
        rw [size_bsL] at this
        rw [this]
      · rw [if_neg hq, if_neg (fun hh => hq hh.2)]
    · rw [if_neg (by omega), if_neg (fun hh => h2 hh.1)]
  | n + 1, i, h => by
    have hlt : i < L.length := by omega
    have ih := loose_ev0 L hL n (i + 1) (by omega)
    rw [List.take_succ_eq_append_getElem hlt, lowL_snoc] at ih
    have e2 : wrap64 ((i : Int) + 1) = ((i + 1 : Nat) : Int) := by rw [w64_in _ (by omega)]; omega
    have hb := bt_bsL L i hlt
    have hlen := lowL_length (L.take i)
    rw [List.length_take, Nat.min_eq_left (by omega)] at hlen
    obtain ⟨O, hO⟩ : ∃ O, lowL (L.take i) = O := ⟨_, rfl⟩
    have hone := one_bsL L i hlt
    obtain ⟨b, hbb⟩ : ∃ b, L[i] = b := ⟨_, rfl⟩
    rw [hO] at ih hlen ⊢
    rw [hbb] at ih hb hone
    by_cases hs : skipB b = true
    · rw [if_pos hs, List.append_nil] at ih
      have hj : Ev (fun k => rubricatorref05_Loose.j1 k (bsL L) (bsL O) (i : Int) (b.toNat : Int) true) (bsL (cutIs (lowL L))) := by
        refine Ev.step (fun k => ?_) ih
        rw [rubricatorref05_Loose.j1, if_pos rfl, e2]
      refine Ev.step (fun k => ?_) hj
      have hv := (skipB_is b).1 hs
      rw [rubricatorref05_Loose.l0, size_bsL, hb, if_pos (by omega), if_pos (by omega)]
      by_cases h1 : (b.toNat : Int) = 32
      · rw [if_pos h1]
      · rw [if_neg h1]
        by_cases h2 : (b.toNat : Int) = 45
        · rw [if_pos h2]
        · rw [if_neg h2, beq_iff_eq.2 (show (b.toNat : Int) = 95 by omega)]
    · rw [if_neg hs] at ih
      have hv : ¬ (b.toNat = 32 ∨ b.toNat = 45 ∨ b.toNat = 95) := fun hh => hs ((skipB_is b).2 hh)
      have hj : Ev (fun k => rubricatorref05_Loose.j1 k (bsL L) (bsL O) (i : Int) (b.toNat : Int) false) (bsL (cutIs (lowL L))) := by
        by_cases hup : 65 ≤ b.toNat ∧ b.toNat ≤ 90
        · have hl : lowB b = b + 32 := by unfold lowB; rw [if_pos hup]
          rw [hl] at ih
          refine Ev.step (fun k => ?_) ih
          rw [rubricatorref05_Loose.j1, if_neg (by decide), if_pos (by omega), if_pos (by omega), Option.bind_some, strOf_one b hup.1 hup.2, if_pos (by rw [size_bsL O, size_bsL [_], List.length_singleton]; omega), bsL_app, e2]
        · have hl : lowB b = b := by unfold lowB; rw [if_neg hup]
          rw [hl] at ih
          refine Ev.step (fun k => ?_) ih
          rw [rubricatorref05_Loose.j1, if_neg (by decide), e2, size_bsL L, Int.toNat_natCast, Int.toNat_natCast, hone, bsL_app]
          by_cases h65 : (b.toNat : Int) ≥ 65
          · rw [if_pos h65, if_neg (by omega), if_pos (by omega), if_pos (by omega), if_pos (by omega), if_pos (by rw [size_bsL O, size_bsL [_], List.length_singleton]; omega)]
          · rw [if_neg h65, if_pos (by omega), if_pos (by omega), if_pos (by omega), if_pos (by rw [size_bsL O, size_bsL [_], List.length_singleton]; omega)]
      refine Ev.step (fun k => ?_) hj
      rw [rubricatorref05_Loose.l0, size_bsL, hb, if_pos (by omega), if_pos (by omega), if_neg (by omega), if_neg (by omega), beq_eq_false_iff_ne.2 (show ¬ (b.toNat : Int) = 95 by omega)]
theorem loose_ev (s : ByteArray) (hs : s.size < 140737488355328) : Ev (fun k => rubricatorref05_Loose.f k s) (looseB s) := by
  have h := loose_ev0 s.data.toList (by rw [← Lib.size_eq s]; exact hs) s.data.toList.length 0 (by omega)
  rw [bsL_data] at h
  exact h
theorem refLoose_any (s : ByteArray) (w : World) (hs : s.size < 140737488355328) :
    Calls Tryd.prog 26 #[.string s] w fun e w' => e = .returned (.string (looseB s)) ∧ Below w.heap.size w w' := by
  obtain ⟨k, hk⟩ := (loose_ev s hs).rounds
  exact rubricatorref05_Loose.calls k s (looseB s) w hk

end Go.Proofs.YtooehjbbphokbaaDoor
