/- Walk of the law's own helper 'awake': true. -/
import Derived.Test.YtpgnfccamcefgabTrBdS
import Derived.Test.YtpgnfccamcefgabTrGetXS
import Derived.Test.YtpgnfccamcefgabTrCore
import Derived.Test.YtpgnfccamcefgabRd
namespace Go.Proofs.Ytpgnfccamcefgab
set_option linter.unusedVariables false
set_option linter.unusedSimpArgs false
open Go.RowKit Go.Proofs.YtpgnfccamcefgabW.PrintWords Go.Proofs.YtpgnfccamcefgabW.PrintLast Go.Proofs.YtpgnfccamcefgabW.PrintMore

def encE (x : En) : List Value := [.int .i64 x.1, .int .i64 x.2.1, .int .i64 x.2.2]
theorem cellAt_val {F : Int → Option Int} {B : List (List Int)} {nv : Nat} {l : List En} (h : ∀ r, 0 ≤ r → r ≤ 1114111 → cellOf F B r = valE nv l r) (r : Int) : cellAt F B r = if 0 ≤ r ∧ r ≤ 1114111 then valE nv l r else -1 := by
  unfold cellAt
  by_cases e : 0 ≤ r ∧ r ≤ 1114111
  · rw [if_pos e, if_pos e, h r e.1 e.2]
  · rw [if_neg e, if_neg e]
theorem cell_in {F : Int → Option Int} {B : List (List Int)} {nv : Nat} {l : List En} (h : ∀ r, 0 ≤ r → r ≤ 1114111 → cellOf F B r = valE nv l r) : ∀ x, 0 ≤ x → x ≤ 1114111 → -1 ≤ cellOf F B x ∧ cellOf F B x < nv := fun x h0 h1 => by
  rw [h x h0 h1]
  exact valE_in nv l x

set_option maxHeartbeats 1000000 in
set_option maxRecDepth 100000 in
theorem awakeT_any (w : World) : Calls Try.prog 10 #[] w fun e w' => e = .returned (.bool true) ∧ Below w.heap.size w w' := by
  go_enter Try.func10, Try.ntmps10
  go_wp2_with fail
  refine (buildS_any _ _ _ [(3, 9, 1)] [⟨#[97]⟩, ⟨#[98]⟩] ?he ?hv (by decide) (by decide) (by decide)).mono ?_
  case he => exact rd_flat (l := [(3, 9, 1)]) encE kE_mk ((below_alloc (Below.refl _ _) _).block _ (by simp) |>.trans (heap_alloc_new w _)) (by decide)
  case hv => exact rd_flat (kd := Kd.string) (l := [⟨#[97]⟩, ⟨#[98]⟩]) (fun s => [.string s]) (fun _ _ => rfl) (heap_alloc2_new w _ _) (by decide)
  rintro e w1 ⟨T, F, H, B, rfl, hr, hi, hv, hc, hb⟩
  have HB : Aside0 (Below w.heap.size w w1) := ⟨below_to (below_alloc (below_alloc (Below.refl _ _) _) _) hb⟩
  have HG := Aside0.mk (getS_any w1 T _ F H B 5 hr.read hi (cell_in hc))
  have hv5 : cellAt F B 5 = 1 := by rw [cellAt_val hc]; rfl
  rw [hv5] at HG
  clear hr hi hv hc hb hv5
  go_wp2_with fail
  refine HG.out.mono ?_
  rintro e w2 ⟨rfl, hd⟩
  have HD : Aside0 (Below w.heap.size w w2) := ⟨below_to HB.out hd.below⟩
  clear hd HG
  go_wp2
  go_ret
  exact ⟨rfl, HD.out⟩

end Go.Proofs.Ytpgnfccamcefgab
