/- Walk: awake of the laws of layer 2. -/
import Derived.Test.YtooehjbbphokbaaDoorLnE
import Derived.Test.YtooehjbbphokbaaDoorPLinesReadx2
namespace Go.Proofs.YtooehjbbphokbaaDoor
set_option linter.unusedVariables false
set_option linter.unusedSimpArgs false
open Go.RowKit Go.Proofs.YtooehjbbphokbaaDoorW.PrintWords Go.Proofs.YtooehjbbphokbaaDoorW.PrintLast Go.Proofs.YtooehjbbphokbaaDoorW.PrintMore

theorem hex_0041 : hexAns ⟨#[48, 48, 52, 49]⟩ = (65, true) := by
  unfold hexAns
  rw [if_neg (by decide)]
  rw [hexFrom_step (by decide) (by decide), hexFrom_step (by decide) (by decide), hexFrom_step (by decide) (by decide), hexFrom_step (by decide) (by decide), hexFrom_end (by decide)]
  rfl
theorem hex_005A : hexAns ⟨#[48, 48, 53, 65]⟩ = (90, true) := by
  unfold hexAns
  rw [if_neg (by decide)]
  rw [hexFrom_step (by decide) (by decide), hexFrom_step (by decide) (by decide), hexFrom_step (by decide) (by decide), hexFrom_step (by decide) (by decide), hexFrom_end (by decide)]
  rfl
theorem awake_lines : cutB 10 ⟨#[48, 48, 52, 49, 46, 46, 48, 48, 53, 65, 32, 59, 32, 76, 117, 32, 35, 32, 120]⟩ = [⟨#[48, 48, 52, 49, 46, 46, 48, 48, 53, 65, 32, 59, 32, 76, 117, 32, 35, 32, 120]⟩] := by kernel_rfl
theorem awake_fields : fieldsB ⟨#[48, 48, 52, 49, 46, 46, 48, 48, 53, 65, 32, 59, 32, 76, 117, 32, 35, 32, 120]⟩ = [⟨#[48, 48, 52, 49, 46, 46, 48, 48, 53, 65]⟩, ⟨#[76, 117]⟩] := by kernel_rfl
theorem awake_dots : dotsB ⟨#[48, 48, 52, 49, 46, 46, 48, 48, 53, 65]⟩ = (⟨#[48, 48, 52, 49]⟩, ⟨#[48, 48, 53, 65]⟩) := by kernel_rfl
theorem awake_rec : recB [⟨#[48, 48, 52, 49, 46, 46, 48, 48, 53, 65]⟩, ⟨#[76, 117]⟩] = some ⟨65, 90, [⟨#[76, 117]⟩]⟩ := by
  simp only [recB, awake_dots, hex_0041, hex_005A]
  rfl
theorem awake_parse : parseB ⟨#[48, 48, 52, 49, 46, 46, 48, 48, 53, 65, 32, 59, 32, 76, 117, 32, 35, 32, 120]⟩ = ([⟨65, 90, [⟨#[76, 117]⟩]⟩], 0, 0) := by
  unfold parseB
  rw [awake_lines, linesB_good (q := ⟨65, 90, [⟨#[76, 117]⟩]⟩) (by rw [awake_fields]; simp) (by rw [awake_fields]; exact awake_rec), linesB_nil]
  rfl

set_option maxHeartbeats 4000000 in
set_option maxRecDepth 100000 in
theorem awake_any (m : Int) (w : World) (hm : MaxIs w m) :
    Calls Tryd.prog 16 #[] w fun e w' => e = .returned (.bool true) ∧ Below w.heap.size w w' := by
  have hp := parse_any ⟨#[48, 48, 52, 49, 46, 46, 48, 48, 53, 65, 32, 59, 32, 76, 117, 32, 35, 32, 120]⟩ m w (by decide) hm
  rw [awake_parse] at hp
  go_enter Tryd.func16, Tryd.ntmps16
  go_wp2_with fail
  refine hp.mono ?_
  rintro e w1 ⟨v, rfl, ho, hb⟩
  have HB := Aside0.mk hb
  clear hp hb
  obtain ⟨A, c, rfl, hc, hr⟩ := Kd.R_reads ho
  obtain ⟨ad, A2, c2, rfl, h0, h1, h2, hl2, hr2⟩ := Go.Proofs.YtooehjbbphokbaaDoor.PLinesRead.at_T48 hr 0 (by decide) (by decide)
  simp [Go.Proofs.YtooehjbbphokbaaDoor.PLinesRead.rd_T48, add_zero] at h0 h1 h2 hl2 hr2
  have HR2 := Aside0.mk hr2
  have HL2 := Aside0.mk hl2
  clear hr2 hl2 ho hr
  go_wp2_with fail
  refine (Go.Proofs.YtooehjbbphokbaaDoor.PLinesRead.slices_Equal_string_string.calls 4 A2 c2 [⟨#[76, 117]⟩] (some ⟨w1.heap.size, 0, none⟩) 1 [⟨#[76, 117]⟩] true (w1.alloc (.cells #[.string ⟨#[76, 117]⟩] 9)) (Kd.C_below HR2.out (below_alloc (Below.refl _ _) _)) HL2.out ?_ (Nat.le_refl 1) (by kernel_rfl)).mono ?_
  · exact (Kd.R_reads' (Kd.R_of_own (own_lit_of (enc := Value.string) w1 w1.heap.size 9 [⟨#[76, 117]⟩] (Nat.le_refl _) (by decide)) (ok := fun _ => True) (h1 := fun _ => rfl) (fun _ _ => trivial))).2.2
  rintro e w2 ⟨rfl, hd⟩
  have HB2 : Aside0 (Below w.heap.size w w2) := ⟨below_to (below_alloc HB.out _) hd.below⟩
  clear hd
  go_wp2
  go_ret
  exact ⟨rfl, HB2.out⟩

end Go.Proofs.YtooehjbbphokbaaDoor
