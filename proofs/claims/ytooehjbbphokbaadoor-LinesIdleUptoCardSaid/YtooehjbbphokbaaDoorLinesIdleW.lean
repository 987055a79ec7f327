/- Walk of the law LinesIdle. -/
import Derived.Test.YtooehjbbphokbaaDoorLnF
import Derived.Test.YtooehjbbphokbaaDoorLnS
import Derived.Test.YtooehjbbphokbaaDoorLnN
import Derived.Test.YtooehjbbphokbaaDoorLnX
import Derived.Test.YtooehjbbphokbaaDoorLnY
namespace Go.Proofs.YtooehjbbphokbaaDoor
set_option linter.unusedVariables false
set_option linter.unusedSimpArgs false
open Go.RowKit Go.Proofs.YtooehjbbphokbaaDoorW.PrintWords Go.Proofs.YtooehjbbphokbaaDoorW.PrintLast Go.Proofs.YtooehjbbphokbaaDoorW.PrintMore Go.Proofs.YtooehjbbphokbaaDoor.PLinesRead

theorem printL_or2 (l : List Rc) : (printL l = (⟨#[]⟩, 1)) ∨ ((∀ r ∈ l, recOk r = true) ∧ printL l = (bsL (textT l), 0)) := by
  by_cases h : l.all recOk = true
  · exact .inr ⟨List.all_eq_true.1 h, by unfold printL; rw [if_pos h]⟩
  · exact .inl (by unfold printL; rw [if_neg h])
theorem wanted_ {P : Program} {ops : Array Oper} {Q : Exit → Act → World → Prop} {a : Act} {W : World} {rest : List Oper} {o : Oper} (hw : Region.wanted o (yielded ops a.tmps) = true)
    (h : if Region.wanted o (yielded ops a.tmps) = true then Oper.wp P o a W (wpList P ops Q rest) Q else wpList P ops Q rest (a.put o.dst undef) W) : wpList P ops Q (o :: rest) a W := by
  rw [if_pos hw] at h
  show if Region.wanted o (yielded ops a.tmps) = true then _ else _
  rw [if_pos hw]
  exact .inl h
theorem alloc_size (w : World) (o : Obj) : (w.alloc o).heap.size = w.heap.size + 1 := by
  show (w.heap.push o).size = _
  exact Array.size_push ..
theorem kT_KM {w W : World} {base : Nat} {ok : Nat → Prop} {t : T3} {cs : List Value} (h : kT.K w t cs) : kT.M W base ok t cs := by
  rw [kT_K h]
  exact kT_M _ _ _ _
theorem one_str {W : World} {g : Nat} {s : ByteArray} {T : TypeId} (hg : W.heap[g]? = some (.cells #[.string s] T (0, 0))) : Kd.string.C W (some ⟨g, 0, none⟩) 1 [s] := by
  refine ⟨rfl, by decide, fun _ => ⟨_, rfl, fun j p hj => ?_⟩⟩
  match j, hj with
  | 0, hj =>
    obtain rfl : s = p := by simpa using hj
    refine ⟨[.string s], rfl, rfl, fun i u hu => ?_⟩
    rw [add_plain, Nat.zero_mul, Nat.zero_add, Lib.cell_of_heap hg]
    match i, hu with
    | 0, hu => exact hu
  | j + 1, hj => simp at hj
theorem one_reads {Rr : T3 → List Value → Prop} {W : World} {g : Nat} {t : T3} {T : TypeId} (hg : W.heap[g]? = some (.cells #[.int .i64 t.1, .int .i64 t.2.1, .slice t.2.2.1 t.2.2.2.1 t.2.2.2.2] T (0, 0))) (hR : Rr t (cellsT t)) : ReadsRow Rr 3 W (some ⟨g, 0, none⟩) 1 [t] := by
  refine ⟨rfl, by decide, fun _ => ⟨_, rfl, fun j p hj => ?_⟩⟩
  match j, hj with
  | 0, hj =>
    obtain rfl : t = p := by simpa using hj
    refine ⟨cellsT t, rfl, hR, fun i u hu => ?_⟩
    rw [add_plain, Nat.zero_mul, Nat.zero_add, Lib.cell_of_heap hg]
    match i, hu with
    | 0, hu => exact hu
    | 1, hu => exact hu
    | 2, hu => exact hu
  | j + 1, hj => simp at hj
theorem idle_cat (l : List Rc) (rm : ByteArray) : ∃ y1 y2 y3 y4 y5 : ByteArray, (⟨#[35]⟩ : ByteArray) ++ rm = y1 ∧ y1 ++ (⟨#[10, 32, 9, 10]⟩ : ByteArray) = y2 ∧ y2 ++ bsL (textT l) = y3 ∧ y3 ++ (⟨#[48, 48, 52, 49, 32, 59, 32, 120, 32, 35]⟩ : ByteArray) = y4 ∧ y4 ++ rm = y5 ∧
    y5 = bsL (idleT l rm.data.toList) ∧ y1.size = 1 + rm.size ∧ y2.size = y1.size + 4 ∧ y3.size = y2.size + (textT l).length ∧ y4.size = y3.size + 10 ∧ y5.size = y4.size + rm.size := by
  refine ⟨_, _, _, _, _, rfl, rfl, rfl, rfl, rfl, ?_, ?_, ?_, ?_, ?_, ?_⟩
  · apply ByteArray.ext
    apply Array.toList_inj.1
    simp [bsL, ByteArray.data_append, idleT, tailT]
  · rw [ByteArray.size_append]; rfl
  · rw [ByteArray.size_append]; rfl
  · rw [ByteArray.size_append, size_bsL]
  · rw [ByteArray.size_append]; rfl
  · rw [ByteArray.size_append]

set_option maxHeartbeats 4000000 in
set_option maxRecDepth 100000 in
theorem LinesIdle_walk (w : World) (v : Value) (l : List Rc) (rm : ByteArray) (hv : RdS kRc w v l) (m : Int) (hm : MaxIs w m) (hb : kW l + rm.size ≤ 1048576) :
    Calls Tryd.prog 12 #[v, .string rm] w fun e w' => e = .returned (.bool true) ∧ Below w.heap.size w w' := by
  have HV := Aside0.mk hv
  have hk := kW_text l
  have hf : ∀ r ∈ l, r.f2.length < 4294967290 := fun r hr => by have := kW_f2 l r hr; omega
  have HM := Aside0.mk hm
  have hrs : rm.size < 4294967290 := by omega
  have H1 : Aside0 (Calls Tryd.prog 32 #[v] w fun e w' => e = .returned (.tuple #[.string (printL l).1, .int .i64 (printL l).2]) ∧ Below w.heap.size w w') := ⟨by
    obtain ⟨A, c, rfl, hc, hC⟩ := hv
    exact print_any A c l w hC hc (by omega) hf (by omega)⟩
  have HK := Aside0.mk hk
  have HF := Aside0.mk hf
  have HBB := Aside0.mk hb
  clear hv hk hf hm hb
  go_enter Tryd.func12, Tryd.ntmps12
  go_wp2
  go_loopg [12] rm.size (fun gk i w' => ∃ (k : Nat), i = .int .i64 (k : Int) ∧ w' = w ∧ Aside0 (k ≤ rm.size ∧ gk = rm.size - k) ∧ Aside0 (∀ b ∈ rm.data.toList.take k, b ≠ 10))
  case atStart => exact ⟨0, by first | rfl | simp, rfl, ⟨Nat.zero_le _, rfl⟩, ⟨by simp⟩⟩
  case round =>
    obtain ⟨k, rfl, rfl, HA, HN⟩ := hrel
    by_cases hk : k < rm.size
    · have hkl : k < rm.data.toList.length := by rw [← Lib.size_eq rm]; exact hk
      have hel : rm[k] = rm.data.toList[k] := rfl
      by_cases hb10 : rm[k] = 10
      · have hq : (((rm[k]'hk).toNat : Int) == 10) = true := beq_iff_eq.2 (by rw [hb10]; rfl)
        clear hb10 hel
        go_wp2_with fail
        refine (awake_any m _ HM.out).mono ?_
        rintro e w1 ⟨rfl, hb1⟩
        have HB1 := Aside0.mk hb1
        clear hb1
        go_wp2
        go_ret
        exact ⟨rfl, HB1.out⟩
      · have hq : (((rm[k]'hk).toNat : Int) == 10) = false := beq_eq_false_iff_ne.2 (fun e => hb10 (UInt8.toNat_inj.1 (by have : (10 : UInt8).toNat = 10 := rfl; omega)))
        have HN2 : Aside0 (∀ b ∈ rm.data.toList.take (k + 1), b ≠ 10) := ⟨fun b hb => by
          rw [List.take_succ_eq_append_getElem hkl] at hb
          rcases List.mem_append.1 hb with hb | hb
          · exact HN.out b hb
          · rw [List.mem_singleton] at hb
            rw [hb, ← hel]
            exact hb10⟩
        clear hb10 hel
        go_wp2
        go_roundg (rm.size - k - 1)
        case measure => have := HA.out; omega
        case rel => exact ⟨k + 1, by go_num, rfl, ⟨by omega, by omega⟩, HN2⟩
    · have hno : ∀ b ∈ rm.data.toList, b ≠ 10 := by
        have h := HN.out
        rw [List.take_of_length_le (by rw [← Lib.size_eq rm]; omega)] at h
        exact h
      rcases printL_or2 l with hp | ⟨hok, hp⟩
      · rw [hp] at H1
        clear hp hno HN
        go_wp2_with fail
        refine H1.out.mono ?_
        rintro e w1 ⟨rfl, hb1⟩
        have HB1 := Aside0.mk hb1
        clear hb1
        go_wp2_with fail
        refine (awake_any m _ (HM.out.below HB1.out)).mono ?_
        rintro e w3 ⟨rfl, hb3⟩
        have HB3 : Aside0 (Below wr.heap.size wr w3) := ⟨below_to HB1.out hb3⟩
        clear hb3
        go_wp2
        go_ret
        exact ⟨rfl, HB3.out⟩
      · rw [hp] at H1
        have hpi := parse_idle l rm.data.toList hok hno
        obtain ⟨y1, y2, y3, y4, y5, e1, e2, e3, e4, e5, e6, s1, s2, s3, s4, s5⟩ := idle_cat l rm
        rw [← e6] at hpi
        have hkk := HK.out
        have hbb := HBB.out
        have H3 := Aside0.mk (fun W hm => parse_any y5 m W (by omega) hm)
        rw [hpi] at H3
        obtain ⟨s, hs⟩ : ∃ s, bsL (textT l) = s := ⟨_, rfl⟩
        have hss : s.size = (textT l).length := by rw [← hs, size_bsL]
        rw [hs] at H1 e3
        have k1 : (⟨#[35]⟩ : ByteArray).size + rm.size ≤ 9223372036854775807 := by
          have : (⟨#[35]⟩ : ByteArray).size = 1 := rfl
          omega
        have k2 : y1.size + (⟨#[10, 32, 9, 10]⟩ : ByteArray).size ≤ 9223372036854775807 := by
          have : (⟨#[10, 32, 9, 10]⟩ : ByteArray).size = 4 := rfl
          omega
        have k3 : y2.size + s.size ≤ 9223372036854775807 := by omega
        have k4 : y3.size + (⟨#[48, 48, 52, 49, 32, 59, 32, 120, 32, 35]⟩ : ByteArray).size ≤ 9223372036854775807 := by
          have : (⟨#[48, 48, 52, 49, 32, 59, 32, 120, 32, 35]⟩ : ByteArray).size = 10 := rfl
          omega
        have k5 : y4.size + rm.size ≤ 9223372036854775807 := by omega
        clear hp hno HN e6 hpi hs s1 s2 s3 s4 s5 hss hkk hbb hok
        go_wp2_with fail
        refine H1.out.mono ?_
        rintro e w1 ⟨rfl, hb1⟩
        have HB1 := Aside0.mk hb1
        clear hb1
        go_wp2_with fail
        refine (H3.out _ (HM.out.below HB1.out)).mono ?_
        rintro e w2 ⟨v2, rfl, ho2, hb2⟩
        have HB2 : Aside0 (Below wr.heap.size wr w2) := ⟨below_to HB1.out hb2⟩
        have HV2 : Aside0 (RdS kRc w2 v2 (l ++ [xRc])) := ⟨RdS.of_R ho2⟩
        clear hb2 ho2 e1 e2 e3 e4 e5 k1 k2 k3 k4 k5
        go_wp2_with fail
        refine (cloneK_any _ v l (HV.out.below HB2.out) (by have := HK.out; have := HBB.out; omega)).mono ?_
        rintro e w3 ⟨v3, rs, rfl, ho3, hs3, hb3⟩
        have HB3 : Aside0 (Below wr.heap.size wr w3) := ⟨below_to HB2.out hb3⟩
        have HV3 := Aside0.mk ho3
        have HS3 := Aside0.mk hs3
        have HBC := Aside0.mk hb3
        clear ho3 hs3 hb3
        have HWC : Aside0 (Below w2.heap.size w2 ((w3.alloc (.cells #[.string ⟨#[120]⟩] 9)).alloc (.cells #[.int .i64 65, .int .i64 65, .slice (some ⟨w3.heap.size, 0, none⟩) 1 1] 48))) := ⟨below_alloc (below_alloc HBC.out _) _⟩
        have HWA : Aside0 (Below w3.heap.size w3 ((w3.alloc (.cells #[.string ⟨#[120]⟩] 9)).alloc (.cells #[.int .i64 65, .int .i64 65, .slice (some ⟨w3.heap.size, 0, none⟩) 1 1] 48))) := ⟨below_alloc (below_alloc (Below.refl _ _) _) _⟩
        have HXC : Aside0 ((w3.alloc (.cells #[.string ⟨#[120]⟩] 9)).heap[w3.heap.size]? = some (.cells #[.string ⟨#[120]⟩] 9 (0, 0))) := ⟨heap_alloc_new w3 _⟩
        have HXD : Aside0 (((w3.alloc (.cells #[.string ⟨#[120]⟩] 9)).alloc (.cells #[.int .i64 65, .int .i64 65, .slice (some ⟨w3.heap.size, 0, none⟩) 1 1] 48)).heap[(w3.alloc (.cells #[.string ⟨#[120]⟩] 9)).heap.size]? = some (.cells #[.int .i64 65, .int .i64 65, .slice (some ⟨w3.heap.size, 0, none⟩) 1 1] 48 (0, 0))) := ⟨heap_alloc_new _ _⟩
        have HWB : Aside0 (Below wr.heap.size wr ((w3.alloc (.cells #[.string ⟨#[120]⟩] 9)).alloc (.cells #[.int .i64 65, .int .i64 65, .slice (some ⟨w3.heap.size, 0, none⟩) 1 1] 48))) := ⟨below_to HB3.out HWA.out⟩
        have HSL : Aside0 (rs.length = l.length) := ⟨HS3.out.1⟩
        have HWS : Aside0 ((w3.alloc (.cells #[.string ⟨#[120]⟩] 9)).heap.size = w3.heap.size + 1) := ⟨alloc_size _ _⟩
        go_wp2_with (at_builtin; (refine wanted_ rfl ?_; refine Kd.R_append_rows_step kT (Rr := kT.K w3) (w0 := w2) w2.heap.size rfl (.tmp 47) (.tmp 50) 26 48 (.agg #[(.int .i64 0), (.int .i64 0), (.slice none 0 0)]) 40 rfl Tryd.underlying26 Go.Proofs.YtooehjbbphokbaaDoor.PLinesRead.info48 rfl (by decide) (by omega) v3 rs [(65, 65, some ⟨w3.heap.size, 0, none⟩, 1, 1)] _ _ _ (fun _ => True) (fun _ => False) rfl rfl (Kd.R_below HV3.out HWA.out) ?aR (fun t cs h => kT_KM (w := w3) h) (fun _ h => h.elim) (fun _ _ => trivial) HWC.out HWC.out.size ?aL ?_))
        case aR =>
          have h := HXD.out
          rw [HWS.out] at h
          exact one_reads (t := (65, 65, some ⟨w3.heap.size, 0, none⟩, 1, 1)) h (kT_mk _ _)
        case aL => have := HK.out; have := HBB.out; have := HSL.out; omega
        intro v4 w4 ho4 hb4 hg4 _
        have HV4 : Aside0 (RdS kRc w4 v4 (l ++ [xRc])) := ⟨by
          have hs4 : SaysT w4 l rs := HS3.out.below hb4
          have hx : w4.heap[w3.heap.size]? = some (.cells #[.string ⟨#[120]⟩] 9 (0, 0)) := by
            have h1 := HXC.out
            have hlt : w3.heap.size < (w3.alloc (.cells #[.string ⟨#[120]⟩] 9)).heap.size := by rw [HWS.out]; omega
            have h2 := (below_alloc (Below.refl _ (w3.alloc (.cells #[.string ⟨#[120]⟩] 9))) (.cells #[.int .i64 65, .int .i64 65, .slice (some ⟨w3.heap.size, 0, none⟩) 1 1] 48)).block _ hlt
            rw [hg4.block w3.heap.size (by rw [alloc_size]; omega) (fun e => by
              have := (Kd.R_bound HV3.out).1 _ e.symm
              omega), h2]
            exact h1
          exact rds_raw (RdS.of_R ho4) (hs4.snoc (k48_mk w4 xRc (A2 := some ⟨w3.heap.size, 0, none⟩) (c2 := 1) (by decide) (one_str hx)))⟩
        have HV2d : Aside0 (RdS kRc w4 v2 (l ++ [xRc])) := ⟨HV2.out.below hb4⟩
        have HB4 : Aside0 (Below wr.heap.size wr w4) := ⟨below_to HB2.out hb4⟩
        have H5 := Aside0.mk (sameRec_any (l ++ [xRc]) w4 v2 v4 HV2d.out HV4.out (by have := HK.out; have := HBB.out; rw [List.length_append]; simp only [List.length_cons, List.length_nil]; omega) (fun q hq => by
          rcases List.mem_append.1 hq with hq | hq
          · have := HF.out q hq
            omega
          · rw [List.mem_singleton] at hq
            rw [hq]
            decide))
        clear ho4 hb4 hg4
        go_wp2_with fail
        refine H5.out.mono ?_
        rintro q5 w5 ⟨rfl, hb5⟩
        have HB5 : Aside0 (Below wr.heap.size wr w5) := ⟨below_to HB4.out hb5⟩
        clear hb5
        go_wp2_with fail
        refine (awake_any m _ (HM.out.below HB5.out)).mono ?_
        rintro q7 w7 ⟨rfl, hb7⟩
        have HB7 : Aside0 (Below wr.heap.size wr w7) := ⟨below_to HB5.out hb7⟩
        clear hb7
        go_wp2
        go_ret
        exact ⟨rfl, HB7.out⟩

end Go.Proofs.YtooehjbbphokbaaDoor
