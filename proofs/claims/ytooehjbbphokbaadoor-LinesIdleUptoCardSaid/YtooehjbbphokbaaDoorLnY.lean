/- Remarks play no part. Pure: no program. -/
import Derived.Test.YtooehjbbphokbaaDoorLnO
namespace Go.Proofs.YtooehjbbphokbaaDoor
set_option linter.unusedVariables false
set_option linter.unusedSimpArgs false

def tailT (rm : List UInt8) : List UInt8 := [48, 48, 52, 49, 32, 59, 32, 120, 32, 35] ++ rm
def idleT (l : List Rc) (rm : List UInt8) : List UInt8 := [35] ++ rm ++ [10, 32, 9, 10] ++ textT l ++ tailT rm
abbrev xRc : Rc := ⟨65, 65, [⟨#[120]⟩]⟩
theorem fields_remark (rm : List UInt8) : fieldsB (bsL (35 :: rm)) = [] := by
  have hu : upB 35 (bsL (35 :: rm)) = bsL [] := by
    unfold upB upL
    rw [data_bsL, cutL, if_pos rfl]
    rfl
  unfold fieldsB
  rw [hu, if_pos (by decide)]
theorem fields_tail (rm : List UInt8) : fieldsB (bsL (tailT rm)) = [bsL [48, 48, 52, 49], ⟨#[120]⟩] := by
  have hu : upB 35 (bsL (tailT rm)) = bsL [48, 48, 52, 49, 32, 59, 32, 120, 32] := by
    unfold upB upL
    have e : tailT rm = [48, 48, 52, 49, 32, 59, 32, 120, 32] ++ 35 :: rm := rfl
    rw [data_bsL, e, cutL_hit rm (by decide)]
    rfl
  unfold fieldsB
  rw [hu]
  decide
theorem rec_tail : recB [bsL [48, 48, 52, 49], ⟨#[120]⟩] = some xRc := by
  have hd : dotsB (bsL [48, 48, 52, 49]) = (bsL [48, 48, 52, 49], bsL [48, 48, 52, 49]) := by decide
  have hp : bsL [48, 48, 52, 49] = bsL (pointL (65 : Int).toNat) := by decide
  have ha := hexAns_point 65 (by decide) (by decide)
  rw [← hp] at ha
  rw [recB_long (by decide)]
  have e0 : [bsL [48, 48, 52, 49], (⟨#[120]⟩ : ByteArray)][0] = bsL [48, 48, 52, 49] := rfl
  rw [e0, hd, ha, if_pos ⟨rfl, rfl, Int.le_refl _⟩]
  rfl
theorem parse_idle (l : List Rc) (rm : List UInt8) (h : ∀ r ∈ l, recOk r = true) (hr : ∀ b ∈ rm, b ≠ 10) : parseB (bsL (idleT l rm)) = (l ++ [xRc], 0, 0) := by
  have h1 : cutL 10 (idleT l rm) = (35 :: rm) :: [32, 9] :: (l.map bodyT ++ [tailT rm]) := by
    have e : idleT l rm = (35 :: rm) ++ 10 :: ([32, 9] ++ 10 :: (textT l ++ tailT rm)) := by
      unfold idleT
      simp
    rw [e, cutL_hit _ (fun b hb => by
      rcases List.mem_cons.1 hb with rfl | hb
      · decide
      · exact hr b hb), cutL_hit _ (by decide), cut_text _ l h, cutL_none (p := tailT rm) (fun b hb => by
      unfold tailT at hb
      rcases List.mem_append.1 hb with hb | hb
      · exact (show ∀ b ∈ ([48, 48, 52, 49, 32, 59, 32, 120, 32, 35] : List UInt8), b ≠ 10 by decide) b hb
      · exact hr b hb)]
  unfold parseB cutB
  rw [data_bsL, h1, List.map_cons, List.map_cons, List.map_append, linesB_skip (fields_remark rm), linesB_skip (by decide), lines_text l _ _ [] h]
  show linesB [bsL (tailT rm)] _ _ = _
  rw [linesB_good (q := xRc) (by rw [fields_tail]; simp) (by rw [fields_tail]; exact rec_tail), linesB_nil]
  simp

end Go.Proofs.YtooehjbbphokbaaDoor
