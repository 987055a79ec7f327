/- Walk of the law NamesBack. -/
import Derived.Test.YtooehjbbphokbaaDoorNmY
namespace Go.Proofs.YtooehjbbphokbaaDoor
set_option linter.unusedVariables false
set_option linter.unusedSimpArgs false
open Go.RowKit Go.Proofs.YtooehjbbphokbaaDoorW.PrintWords Go.Proofs.YtooehjbbphokbaaDoorW.PrintLast Go.Proofs.YtooehjbbphokbaaDoorW.PrintMore
attribute [local go_sem] max2_int min2_int max_two min_two

set_option maxHeartbeats 4000000 in
set_option maxRecDepth 100000 in
theorem NamesBack_walk (w : World) (s : ByteArray) (m : Int) (hm : MaxIs w m) (hs : s.size ≤ 1048576) :
    Calls Tryd.prog 9 #[.string s] w fun e w' => e = .returned (.bool true) ∧ Below w.heap.size w w' := by
  obtain ⟨b, hal⟩ := alias_ex
  have HA := Aside0.mk (fun W hm => awake5_any b hal m W hm)
  have H1 := Aside0.mk (fun W hm => resolve_all b hal s m W hm (by omega))
  have H2 := Aside0.mk (fun W => refResolve_any b hal s W (by omega))
  have hf := resolve_found hal.2.2.2.2 s
  have HM := Aside0.mk hm
  have HLS := Aside0.mk (fun n v l (h : longL n v (rowsB b) = some l) => longL_small (fun f hf => row_ok hal.2.2.1 hf) h)
  obtain ⟨r, hr⟩ : ∃ r, resolveL (rowsB b) s = r := ⟨_, rfl⟩
  rw [hr] at H1 H2 hf
  clear hm hr
  rcases hf with rfl | rfl | ⟨n, v, l, rfl, hn, hl, hback⟩
  · unfold errN at H1 H2
    simp only at H1 H2
    go_enter Tryd.func9, Tryd.ntmps9
    go_wp2_with fail
    refine (H1.out _ HM.out).mono ?_
    rintro e w1 ⟨rfl, hb1⟩
    have HB1 := Aside0.mk hb1
    clear hb1
    go_wp2_with fail
    refine (H2.out _).mono ?_
    rintro e w2 ⟨rfl, hb2⟩
    have HB2 : Aside0 (Below w.heap.size w w2) := ⟨below_to HB1.out hb2⟩
    clear hb2
    go_wp2_with fail
    refine (HA.out _ (HM.out.below HB2.out)).mono ?_
    rintro e w3 ⟨rfl, hb3⟩
    have HB3 : Aside0 (Below w.heap.size w w3) := ⟨below_to HB2.out hb3⟩
    clear hb3
    go_wp2
    go_ret
    exact ⟨rfl, HB3.out⟩
  · unfold errV at H1 H2
    simp only at H1 H2
    go_enter Tryd.func9, Tryd.ntmps9
    go_wp2_with fail
    refine (H1.out _ HM.out).mono ?_
    rintro e w1 ⟨rfl, hb1⟩
    have HB1 := Aside0.mk hb1
    clear hb1
    go_wp2_with fail
    refine (H2.out _).mono ?_
    rintro e w2 ⟨rfl, hb2⟩
    have HB2 : Aside0 (Below w.heap.size w w2) := ⟨below_to HB1.out hb2⟩
    clear hb2
    go_wp2_with fail
    refine (HA.out _ (HM.out.below HB2.out)).mono ?_
    rintro e w3 ⟨rfl, hb3⟩
    have HB3 : Aside0 (Below w.heap.size w w3) := ⟨below_to HB2.out hb3⟩
    clear hb3
    go_wp2
    go_ret
    exact ⟨rfl, HB3.out⟩
  · have hls := HLS.out n v l hl
    have H3 := Aside0.mk (fun W hm => long_any b hal n v m W hm)
    rw [hl] at H3
    simp only [Option.getD_some, Option.isSome_some] at H3
    simp only at H1
    clear H2 HLS hl
    rcases hn with rfl | rfl | rfl
    · have ha : aheadB 1 = ⟨#[103, 99, 61]⟩ := rfl
      rw [ha] at hback
      have hsz : (⟨#[103, 99, 61]⟩ ++ l : ByteArray).size < 4294967281 := by
        rw [ByteArray.size_append]
        show 3 + l.size < 4294967281
        omega
      have H4 := Aside0.mk (fun W hm => resolve_all b hal (⟨#[103, 99, 61]⟩ ++ l) m W hm hsz)
      rw [hback] at H4
      simp only at H4
      have HBX : ∀ W : World, Below w.heap.size w W → Below w.heap.size w (W.alloc (.cells #[.string ⟨#[]⟩, .string ⟨#[103, 99, 61]⟩, .string ⟨#[115, 99, 61]⟩, .string ⟨#[]⟩] 9)) := fun W h => below_alloc h _
      have HBX2 := Aside0.mk HBX
      clear hback ha hsz hal HBX
      go_enter Tryd.func9, Tryd.ntmps9
      go_wp2_with fail
      refine (H1.out _ HM.out).mono ?_
      rintro e w1 ⟨rfl, hb1⟩
      have HB1 := Aside0.mk hb1
      clear hb1
      go_wp2_with fail
      refine (H3.out _ (HM.out.below HB1.out)).mono ?_
      rintro e w2 ⟨rfl, hb2⟩
      have HB2 : Aside0 (Below w.heap.size w w2) := ⟨below_to HB1.out hb2⟩
      have HB2X := Aside0.mk (HBX2.out w2 HB2.out)
      clear hb2
      go_wp2_with fail
      refine (H4.out _ (HM.out.below HB2X.out)).mono ?_
      rintro e w3 ⟨rfl, hb3⟩
      have HB3 : Aside0 (Below w.heap.size w w3) := ⟨below_to HB2X.out hb3⟩
      clear hb3
      go_wp2
      go_ret
      exact ⟨rfl, HB3.out⟩
    · have ha : aheadB 2 = ⟨#[115, 99, 61]⟩ := rfl
      rw [ha] at hback
      have hsz : (⟨#[115, 99, 61]⟩ ++ l : ByteArray).size < 4294967281 := by
        rw [ByteArray.size_append]
        show 3 + l.size < 4294967281
        omega
      have H4 := Aside0.mk (fun W hm => resolve_all b hal (⟨#[115, 99, 61]⟩ ++ l) m W hm hsz)
      rw [hback] at H4
      simp only at H4
      have HBX : ∀ W : World, Below w.heap.size w W → Below w.heap.size w (W.alloc (.cells #[.string ⟨#[]⟩, .string ⟨#[103, 99, 61]⟩, .string ⟨#[115, 99, 61]⟩, .string ⟨#[]⟩] 9)) := fun W h => below_alloc h _
      have HBX2 := Aside0.mk HBX
      clear hback ha hsz hal HBX
      go_enter Tryd.func9, Tryd.ntmps9
      go_wp2_with fail
      refine (H1.out _ HM.out).mono ?_
      rintro e w1 ⟨rfl, hb1⟩
      have HB1 := Aside0.mk hb1
      clear hb1
      go_wp2_with fail
      refine (H3.out _ (HM.out.below HB1.out)).mono ?_
      rintro e w2 ⟨rfl, hb2⟩
      have HB2 : Aside0 (Below w.heap.size w w2) := ⟨below_to HB1.out hb2⟩
      have HB2X := Aside0.mk (HBX2.out w2 HB2.out)
      clear hb2
      go_wp2_with fail
      refine (H4.out _ (HM.out.below HB2X.out)).mono ?_
      rintro e w3 ⟨rfl, hb3⟩
      have HB3 : Aside0 (Below w.heap.size w w3) := ⟨below_to HB2X.out hb3⟩
      clear hb3
      go_wp2
      go_ret
      exact ⟨rfl, HB3.out⟩
    · have ha : aheadB 3 = ⟨#[]⟩ := rfl
      rw [ha] at hback
      have hsz : (⟨#[]⟩ ++ l : ByteArray).size < 4294967281 := by
        rw [ByteArray.size_append]
        show 0 + l.size < 4294967281
        omega
      have H4 := Aside0.mk (fun W hm => resolve_all b hal (⟨#[]⟩ ++ l) m W hm hsz)
      rw [hback] at H4
      simp only at H4
      have HBX : ∀ W : World, Below w.heap.size w W → Below w.heap.size w (W.alloc (.cells #[.string ⟨#[]⟩, .string ⟨#[103, 99, 61]⟩, .string ⟨#[115, 99, 61]⟩, .string ⟨#[]⟩] 9)) := fun W h => below_alloc h _
      have HBX2 := Aside0.mk HBX
      clear hback ha hsz hal HBX
      go_enter Tryd.func9, Tryd.ntmps9
      go_wp2_with fail
      refine (H1.out _ HM.out).mono ?_
      rintro e w1 ⟨rfl, hb1⟩
      have HB1 := Aside0.mk hb1
      clear hb1
      go_wp2_with fail
      refine (H3.out _ (HM.out.below HB1.out)).mono ?_
      rintro e w2 ⟨rfl, hb2⟩
      have HB2 : Aside0 (Below w.heap.size w w2) := ⟨below_to HB1.out hb2⟩
      have HB2X := Aside0.mk (HBX2.out w2 HB2.out)
      clear hb2
      go_wp2_with fail
      refine (H4.out _ (HM.out.below HB2X.out)).mono ?_
      rintro e w3 ⟨rfl, hb3⟩
      have HB3 : Aside0 (Below w.heap.size w w3) := ⟨below_to HB2X.out hb3⟩
      clear hb3
      go_wp2
      go_ret
      exact ⟨rfl, HB3.out⟩

end Go.Proofs.YtooehjbbphokbaaDoor
