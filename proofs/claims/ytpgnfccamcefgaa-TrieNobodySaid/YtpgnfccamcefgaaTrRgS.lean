/- Walk: the trie's Ranges, over texts, of a trie without values; and of none. -/
import Derived.Test.YtpgnfccamcefgaaTrRgP
import Derived.Test.YtpgnfccamcefgaaTrV
import Derived.Test.YtpgnfccamcefgaaTrGetS
namespace Go.Proofs.Ytpgnfccamcefgaa
set_option linter.unusedVariables false
set_option linter.unusedSimpArgs false
open Go.RowKit Go.Proofs.YtpgnfccamcefgaaW.PrintWords Go.Proofs.YtpgnfccamcefgaaW.PrintLast Go.Proofs.YtpgnfccamcefgaaW.PrintMore

theorem Try.infoBoolS : (Try.prog.info? 4).map (fun i => (i.zero, i.size, i.bytes)) = some (some (.bool false), 1, 1) := by kernel_rfl

set_option maxHeartbeats 4000000 in
set_option maxRecDepth 100000 in
theorem rangesS_none (w : World) (base T : Nat) (F H : Int → Option Int) (B : List (List Int)) (s : ByteArray) (h : TrieO Kd.string 71 base w T [] F B) (hi : TInv F H B) (hvi : VInv 0 B) :
    Calls Try.prog 52 #[.pointer (some ⟨T, 0, none⟩), .string s] w fun e w' => ∃ v', e = .returned v' ∧ RdS kR w' v' [] ∧ Below w.heap.size w w' := by
  obtain ⟨V, m, n, bl, eT, hT, -, hV, hM, -, hC, hn, hkeys⟩ := h.out
  obtain ⟨Av, cv, rfl, hcv, hRv⟩ := RdS.of_R hV
  obtain ⟨Ab, cb, rfl, hcb, hRb⟩ := RdS.of_R hC
  have c0 := row_cell hT 0 _ rfl
  have c1 := row_cell hT 1 _ rfl
  have c2 := row_cell hT 2 _ rfl
  have HT := Aside0.mk hT
  have HM := Aside0.mk hM
  have HRB := Aside0.mk hRb
  have HI := Aside0.mk hi
  have HVI := Aside0.mk hvi
  have HKY := Aside0.mk hkeys
  have hb0 : ((B.length : Int) == 0) = false := beq_eq_false_iff_ne.2 (by have := hi.zero.1; omega)
  have hml := hM.lt
  clear hT hV hM hC hcv hRv hcb hRb hi hvi hkeys h
  go_enter Try.func52, Try.ntmps52
  go_wp2_with (refine Kd.R_make Kd.bool (w0 := w) w.heap.size 4 rfl (N := 31) rfl 41 _ _ rfl 1 rfl rfl Try.underlying41 (.bool false) 1 Try.infoBoolS rfl (by decide) (by omega) false (ok := fun _ => True) (okp := fun _ => True) ?aZ (fun _ _ => trivial) trivial ?a0 ?aL ?aB ?aS ?_)
  case aZ => exact rfl
  case a0 => omega
  case aL => decide
  case aB => exact Below.refl _ _
  case aS => exact Nat.le_refl _
  intro v1 w1 ho hb hg bb hob hbl
  have ho : Own Kd.bool 4 w1 w.heap.size v1 [false] := ho
  obtain ⟨gw, cw, rfl⟩ : ∃ gw cw, v1 = .slice (some ⟨gw, 0, none⟩) 1 cw := by
    obtain ⟨g1, cap1, e, _⟩ := Kd.R_form ho (by decide)
    exact ⟨g1, cap1, e⟩
  have HW := Aside0.mk ho
  have HB := Aside0.mk hb
  have HGW : Aside0 (w.heap.size ≤ gw) := ⟨Kd.R_base ho gw rfl⟩
  replace c0 := pw_cell_below hb c0
  replace c1 := pw_cell_below hb c1
  have HMR : Aside0 (FMap w1 m n F) := ⟨HM.out.below hb⟩
  clear ho hb hg hob hbl
  go_wp2
  go_loopg [37] 0 (fun gk x w' => x = .int .i64 0 ∧ w' = w1)
  case atStart => exact ⟨by first | rfl | simp, rfl⟩
  case round =>
    obtain ⟨rfl, rfl⟩ := hrel
    go_wp2_with (at_range; refine rangeF Try.mtF rfl _ rfl rfl HMR.out ?_; intro w2 cnt hrg hcn hg hs)
    go_frame
    have HRS : Aside0 (RSt F w w2 m wr.heap.size n (.slice (some ⟨gw, 0, none⟩) 1 cw) [false] (.slice none 0 0) [] (fun x => F x ≠ none) cnt) := ⟨⟨hrg, Kd.R_below HW.out ⟨hg.os, hg.tape, hg.output, hg.size, fun i hi => hg.block i hi (by simp)⟩, Kd.R_nil _ _ _ _ _, below_to HB.out ⟨hg.os, hg.tape, hg.output, hg.size, fun i hi => hg.block i hi (by simp)⟩, hml, HB.out.size⟩⟩
    obtain ⟨r0, hr0⟩ : ∃ r0, wr.heap.size = r0 := ⟨_, rfl⟩
    rw [hr0] at HRS ⊢
    clear hrg hg hs hr0 HW HB HMR c1 c2
    go_loopg [8] cnt (fun gk z w' => ∃ (left : Int → Prop) (cn : Nat), z = .slice none 0 0 ∧ Aside0 (RSt F w w' m r0 n (.slice (some ⟨gw, 0, none⟩) 1 cw) [false] (.slice none 0 0) [] left cn) ∧ Aside0 (gk = cn))
    case atStart => exact ⟨_, cnt, rfl, HRS, ⟨rfl⟩⟩
    case round =>
      clear HRS
      obtain ⟨left, cn, rfl, HRS, HA⟩ := hrel
      have hT2 := pw_cell_below HRS.out.hB (row_cell HT.out 2 _ rfl)
      go_wp2_with (at_next; refine nextF Try.mtF rfl _ rfl rfl HRS.out.hR ?hDone ?hMore)
      case hDone =>
        intro hno
        clear hno
        have HMK := Aside0.mk (make_any sort_said wr _ [] (RdS.nil kR wr) (by decide))
        go_wp2_with fail
        refine HMK.out.mono ?_
        rintro e w5 ⟨v5, r5, rfl, ⟨hset, hlen⟩, ho, hb⟩
        have hr5 : r5 = [] := List.length_eq_zero_iff.1 (by simpa using hlen)
        subst hr5
        have HB5 : Aside0 (Below w.heap.size w w5) := ⟨below_to HRS.out.hB hb⟩
        have HO5 := Aside0.mk (RdS.of_R ho)
        clear hset ho hb HMK
        go_wp2
        go_ret
        exact ⟨_, rfl, HO5.out, HB5.out⟩
      case hMore =>
        intro b kI w3 cn3 hwb hwk hlb hFb hrg3 hlt3 hg3 hs3 hen
        have hkb := HKY.out b (by rw [hFb]; simp)
        have hkk := HI.out.firstIn b kI hFb
        obtain ⟨kk, rfl⟩ : ∃ kk : Nat, kI = (kk : Int) := ⟨kI.toNat, by omega⟩
        have hkl : kk < B.length := by have := hkk.2; simpa using this
        have HX : Aside0 ((B.getD kk []).length = 256) := ⟨HI.out.len _ (getD_mem hkl)⟩
        have HRS3 := Aside0.mk (HRS.out.next hrg3 hg3)
        have hT3 := pw_cell_below HRS3.out.hB (row_cell HT.out 2 _ rfl)
        obtain ⟨ad, rfl, -⟩ := at_C HRB.out kk 0 hkl (by omega)
        have HCR : Aside0 (∀ j u, (nums .i32 (B.getD kk []))[j]? = some u → w3.cell? ((ad.add (kk * 256)).add j) = some u) := ⟨fun j u hu => by
          have hj : j < 256 := by
            have := (List.getElem?_eq_some_iff.1 hu).1
            rw [nums_length, HX.out] at this
            exact this
          obtain ⟨ad2, e2, hc2⟩ := at_C HRB.out kk j hkl hj
          cases e2
          have e3 := nums_at (k := .i32) (x := B.getD kk []) (j := j) (by rw [HX.out]; exact hj)
          rw [e3] at hu
          cases hu
          exact pw_cell_below HRS3.out.hB hc2⟩
        have HVB : Aside0 (∀ i, i < 256 → (B.getD kk []).getD i 0 = -1) := ⟨fun i hi => by have := HVI.out.at_ hkl HX.out hi; omega⟩
        obtain ⟨blk, hblk⟩ : ∃ blk, B.getD kk [] = blk := ⟨_, rfl⟩
        rw [hblk] at HX HCR HVB
        have HLT := Aside0.mk hlt3
        obtain ⟨hb0, hb1⟩ := hkb
        clear hblk hwb hwk hlb hFb hrg3 hg3 hs3 hkk hlt3
        go_wp2_with (refine Kd.event_run (o := ⟨some 66, _, _, _, _, _⟩) rfl (exec_load (ty := 88) (x := .tmp 65) rfl rfl (load_C (x := blk) HX.out HCR.out)) ?_)
        clear hen
        go_loopg [67, 8] 256 (fun gk x z w' => ∃ (i : Nat), x = .int .i64 (i : Int) ∧ z = .slice none 0 0 ∧ Aside0 (i ≤ 256 ∧ gk = 256 - i) ∧ w' = w3)
        case atStart => exact ⟨0, by first | rfl | simp, rfl, ⟨Nat.zero_le _, rfl⟩, rfl⟩
        case round =>
          obtain ⟨i, rfl, rfl, HC, rfl⟩ := hrel
          by_cases hi2 : i < 256
          · have hix := fun W => index_C W HX.out hi2
            simp only [HVB.out i hi2] at hix
            obtain ⟨hwc, -⟩ := Kd.R_cell (xs := [false]) (enc := Value.bool) (h1 := fun _ => rfl) false HRS3.out.hW 0 (by omega) (by decide)
            have hwc2 : wr.cell? ⟨gw, 0, none⟩ = some (.bool false) := hwc
            have h8 : bits .or .i64 (b * 256) (i : Int) = b * 256 + i := or_lt hb0 (by omega) hi2
            clear hwc
            go_wp2_with (refine Kd.event_run (o := ⟨some 70, _, _, _, _, _⟩) rfl (exec_index (ty := 88) (x := .tmp 66) (i := .tmp 67) rfl rfl rfl (hix wr)) ?_)
            go_roundg (gk - 1)
            case measure => have := HC.out; omega
            case rel => exact ⟨i + 1, by go_num, rfl, ⟨by omega, by have := HC.out; omega⟩, rfl⟩
          · obtain rfl : i = 256 := by have := HC.out; omega
            go_wp2
            go_roundg cn3
            case measure => have := HA.out; have := HLT.out; omega
            case rel => exact ⟨_, cn3, rfl, HRS3, ⟨rfl⟩⟩

set_option maxHeartbeats 1000000 in
set_option maxRecDepth 100000 in
/-- Of no trie, and of a trie of nothing, there are no ranges. -/
theorem rangesS_nil (w : World) (s : ByteArray) : Calls Try.prog 52 #[.pointer none, .string s] w fun e w' => e = .returned (.slice none 0 0) ∧ w = w' := by
  go_enter Try.func52, Try.ntmps52
  go_wp2
  go_ret
  exact ⟨rfl, rfl⟩
set_option maxHeartbeats 1000000 in
set_option maxRecDepth 100000 in
theorem rangesS_empty (w : World) (T : Nat) (s : ByteArray) (h : w.heap[T]? = some (.cells #[.slice none 0 0, .map none, .slice none 0 0] 71 (0, 0))) : Calls Try.prog 52 #[.pointer (some ⟨T, 0, none⟩), .string s] w fun e w' => e = .returned (.slice none 0 0) ∧ w = w' := by
  have c2 := row_cell h 2 _ rfl
  clear h
  go_enter Try.func52, Try.ntmps52
  go_wp2
  go_ret
  exact ⟨rfl, rfl⟩
set_option maxHeartbeats 1000000 in
set_option maxRecDepth 100000 in
theorem getS_nil (w : World) (r : Int) : Calls Try.prog 27 #[.pointer none, .int .i64 r] w fun e w' => e = .returned (.tuple #[.string ⟨#[]⟩, .bool false]) ∧ w = w' := by
  go_enter Try.func27, Try.ntmps27
  go_wp2
  go_ret2
  exact ⟨rfl, rfl⟩
set_option maxHeartbeats 1000000 in
set_option maxRecDepth 100000 in
theorem getS_empty (w : World) (T : Nat) (r : Int) (h : w.heap[T]? = some (.cells #[.slice none 0 0, .map none, .slice none 0 0] 71 (0, 0))) : Calls Try.prog 27 #[.pointer (some ⟨T, 0, none⟩), .int .i64 r] w fun e w' => e = .returned (.tuple #[.string ⟨#[]⟩, .bool false]) ∧ w = w' := by
  have c2 := row_cell h 2 _ rfl
  clear h
  go_enter Try.func27, Try.ntmps27
  go_wp2
  go_ret2
  exact ⟨rfl, rfl⟩

end Go.Proofs.Ytpgnfccamcefgaa
