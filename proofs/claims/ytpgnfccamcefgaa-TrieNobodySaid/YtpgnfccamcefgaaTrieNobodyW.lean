/- Walk of the law TrieNobody. -/
import Derived.Test.YtpgnfccamcefgaaTrRgS
import Derived.Test.YtpgnfccamcefgaaTrAwake
namespace Go.Proofs.Ytpgnfccamcefgaa
set_option linter.unusedVariables false
set_option linter.unusedSimpArgs false
open Go.RowKit Go.Proofs.YtpgnfccamcefgaaW.PrintWords Go.Proofs.YtpgnfccamcefgaaW.PrintLast Go.Proofs.YtpgnfccamcefgaaW.PrintMore

set_option maxHeartbeats 4000000 in
set_option maxRecDepth 100000 in
theorem TrieNobody_walk (w : World) (r : Int) :
    Calls Try.prog 12 #[.int .i64 r] w fun e w' => e = .returned (.bool true) ∧ Below w.heap.size w w' := by
  have HBO : Aside0 ((w.alloc (.cells #[.slice none 0 0, .map none, .slice none 0 0] 71)).heap[w.heap.size]? = some (.cells #[.slice none 0 0, .map none, .slice none 0 0] 71 (0, 0))) := ⟨heap_alloc_new _ _⟩
  have HB0 : Aside0 (Below w.heap.size w (w.alloc (.cells #[.slice none 0 0, .map none, .slice none 0 0] 71))) := ⟨below_alloc (Below.refl _ _) _⟩
  obtain ⟨eb, heb⟩ : ∃ eb, w.heap.size = eb := ⟨_, rfl⟩
  rw [heb] at HBO
  have HEB := Aside0.mk heb
  go_enter Try.func12, Try.ntmps12
  go_wp2_with fail
  refine (buildS_any _ _ _ [] [] (RdS.nil _ _) (RdS.nil _ _) (by decide) (by decide) (by decide)).mono ?_
  rintro e w1 ⟨T, F, H, B, rfl, hr, hi, hvi, hc, hb⟩
  have HTR := Aside0.mk hr
  have HI := Aside0.mk hi
  have HVI := Aside0.mk hvi
  have HC := Aside0.mk hc
  have HB1 : Aside0 (Below w.heap.size w w1) := ⟨below_to HB0.out hb⟩
  have HBX : Aside0 (w1.heap[eb]? = some (.cells #[.slice none 0 0, .map none, .slice none 0 0] 71 (0, 0))) := ⟨(hb.block eb (Array.getElem?_eq_some_iff.1 HBO.out).1).trans HBO.out⟩
  clear hr hi hvi hc hb HB0 HBO heb
  have HRW : Aside0 ((w1.alloc (.cells #[.pointer none, .pointer (some ⟨eb, 0, none⟩), .pointer (some ⟨T, 0, none⟩)] 49)).heap[w1.heap.size]? = some (.cells #[.pointer none, .pointer (some ⟨eb, 0, none⟩), .pointer (some ⟨T, 0, none⟩)] 49 (0, 0))) := ⟨heap_alloc_new _ _⟩
  have HB2 : Aside0 (Below w.heap.size w (w1.alloc (.cells #[.pointer none, .pointer (some ⟨eb, 0, none⟩), .pointer (some ⟨T, 0, none⟩)] 49))) := ⟨below_alloc HB1.out _⟩
  have HBX2 : Aside0 ((w1.alloc (.cells #[.pointer none, .pointer (some ⟨eb, 0, none⟩), .pointer (some ⟨T, 0, none⟩)] 49)).heap[eb]? = some (.cells #[.slice none 0 0, .map none, .slice none 0 0] 71 (0, 0))) := ⟨((below_alloc (Below.refl _ _) _).block eb (Array.getElem?_eq_some_iff.1 HBX.out).1).trans HBX.out⟩
  have HTR2 := Aside0.mk (HTR.out.below (below_alloc (Below.refl w1.heap.size w1) (.cells #[.pointer none, .pointer (some ⟨eb, 0, none⟩), .pointer (some ⟨T, 0, none⟩)] 49)))
  obtain ⟨gw, hgw⟩ : ∃ gw, w1.heap.size = gw := ⟨_, rfl⟩
  rw [hgw] at HRW
  go_wp2
  obtain ⟨W2, hW2⟩ : ∃ W2, w1.alloc (.cells #[.pointer none, .pointer (some ⟨eb, 0, none⟩), .pointer (some ⟨T, 0, none⟩)] 49) = W2 := ⟨_, rfl⟩
  rw [hW2] at HRW HB2 HBX2 HTR2 ⊢
  clear hW2 hgw HBX HTR HB1
  go_loopg [12] 3 (fun gk x w' => ∃ k : Nat, x = .int .i64 (k : Int) ∧ Aside0 (k ≤ 3 ∧ gk = 3 - k) ∧ Aside0 (Below W2.heap.size W2 w'))
  case atStart => exact ⟨0, by first | rfl | simp, ⟨by omega, by omega⟩, ⟨Below.refl _ _⟩⟩
  case round =>
    obtain ⟨k, rfl, HA, HB⟩ := hrel
    have hrw : wr.heap[gw]? = some (.cells #[.pointer none, .pointer (some ⟨eb, 0, none⟩), .pointer (some ⟨T, 0, none⟩)] 49 (0, 0)) := (HB.out.block gw (Array.getElem?_eq_some_iff.1 HRW.out).1).trans HRW.out
    have hbx : wr.heap[eb]? = some (.cells #[.slice none 0 0, .map none, .slice none 0 0] 71 (0, 0)) := (HB.out.block eb (Array.getElem?_eq_some_iff.1 HBX2.out).1).trans HBX2.out
    have HXB := Aside0.mk hbx
    have q0 := row_cell hrw 0 _ rfl
    have q1 := row_cell hrw 1 _ rfl
    have q2 := row_cell hrw 2 _ rfl
    clear hbx hrw
    have hk3 : k = 0 ∨ k = 1 ∨ k = 2 ∨ k = 3 := by have := HA.out; omega
    rcases hk3 with rfl | rfl | rfl | rfl
    · go_wp2_with fail
      refine (getS_nil wr r).mono ?_
      rintro e w3 ⟨rfl, rfl⟩
      go_wp2_with fail
      refine (rangesS_nil _ _).mono ?_
      rintro e w4 ⟨rfl, rfl⟩
      go_wp2
      go_roundg 2
      case measure => have := HA.out; omega
      case rel => exact ⟨1, rfl, ⟨by omega, by omega⟩, HB⟩
    · go_wp2_with fail
      refine (getS_empty wr eb r HXB.out).mono ?_
      rintro e w3 ⟨rfl, rfl⟩
      go_wp2_with fail
      refine (rangesS_empty _ eb _ HXB.out).mono ?_
      rintro e w4 ⟨rfl, rfl⟩
      go_wp2
      go_roundg 1
      case measure => have := HA.out; omega
      case rel => exact ⟨2, rfl, ⟨by omega, by omega⟩, HB⟩
    · have HG := Aside0.mk (getS_any wr T [] F H B r (HTR2.out.below HB.out).read HI.out (cell_in HC.out))
      have hv : cellAt F B r = -1 := by
        rw [cellAt_val HC.out]
        split <;> rfl
      rw [hv] at HG
      clear hv
      go_wp2_with fail
      refine HG.out.mono ?_
      rintro e w3 ⟨rfl, hd⟩
      have HB3 : Aside0 (Below W2.heap.size W2 w3) := ⟨below_to HB.out hd.below⟩
      clear hd HG q0 q1 q2
      go_wp2_with fail
      refine (rangesS_none w3 _ T F H B _ (HTR2.out.below HB3.out) HI.out HVI.out).mono ?_
      rintro e w4 ⟨v4, rfl, hr4, hb⟩
      have HB4 : Aside0 (Below W2.heap.size W2 w4) := ⟨below_to HB3.out hb⟩
      obtain ⟨A4, c4, rfl, -, -⟩ := hr4
      clear hb
      go_wp2
      go_roundg 0
      case measure => have := HA.out; omega
      case rel => exact ⟨3, rfl, ⟨by omega, by omega⟩, HB4⟩
    · go_wp2_with fail
      refine (awakeT_any _).mono ?_
      rintro e w7 ⟨rfl, hb⟩
      have HB7 : Aside0 (Below w.heap.size w w7) := ⟨below_to HB2.out (below_to HB.out hb)⟩
      clear hb
      go_wp2
      go_ret
      exact ⟨rfl, HB7.out⟩

end Go.Proofs.Ytpgnfccamcefgaa
