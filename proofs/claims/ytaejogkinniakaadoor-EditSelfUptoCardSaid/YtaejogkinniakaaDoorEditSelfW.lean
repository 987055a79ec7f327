/- Walk of the law EditSelf. -/
import Derived.Test.YtaejogkinniakaaDoorEdX
import Derived.Test.YtaejogkinniakaaDoorEdZ
namespace Go.Proofs.YtaejogkinniakaaDoor
set_option linter.unusedVariables false
set_option linter.unusedSimpArgs false
open Go.RowKit Go.Proofs.YtaejogkinniakaaDoorW.PrintWords Go.Proofs.YtaejogkinniakaaDoorW.PrintLast Go.Proofs.YtaejogkinniakaaDoorW.PrintMore Go.Proofs.YtaejogkinniakaaDoor.PEd

theorem joinL_le {N : Nat} : ∀ (gs ms : List (List Int)), (∀ g ∈ gs, g.length ≤ N) → (∀ m ∈ ms, m.length ≤ N) → (joinL gs ms).length ≤ (gs.length + ms.length) * N
  | [], ms, _, _ => by
    cases ms <;> exact Nat.zero_le _
  | g :: gs, [], hg, _ => by
    have h := hg g (by simp)
    show g.length ≤ (gs.length + 1 + 0) * N
    calc g.length ≤ 1 * N := by omega
      _ ≤ (gs.length + 1 + 0) * N := Nat.mul_le_mul_right N (by omega)
  | g :: gs, m :: ms, hg, hm => by
    have h := hg g (by simp)
    have h2 := hm m (by simp)
    have ih := joinL_le gs ms (fun x hx => hg x (List.mem_cons_of_mem _ hx)) (fun x hx => hm x (List.mem_cons_of_mem _ hx))
    show (g ++ m ++ joinL gs ms).length ≤ (gs.length + 1 + (ms.length + 1)) * N
    rw [List.length_append, List.length_append]
    have e : (gs.length + 1 + (ms.length + 1)) * N = (gs.length + ms.length) * N + N + N := by
      rw [show gs.length + 1 + (ms.length + 1) = gs.length + ms.length + 1 + 1 by omega, Nat.succ_mul, Nat.succ_mul]
    omega
theorem gap_le (b : List Int) : ∀ (last : Int) (L : List (List Sp)), ∀ g ∈ gapsL b last L, g.length ≤ b.length
  | last, [], g, h => by
    have e : g = b.drop last.toNat := by simpa [gapsL] using h
    rw [e, List.length_drop]
    omega
  | last, f :: r, g, h => by
    rcases List.mem_cons.1 h with h2 | h2
    · rw [h2, List.length_drop, List.length_take]
      omega
    · exact gap_le b _ r g h2
theorem gap_rng {b : List Int} (hb : rng b) : ∀ (last : Int) (L : List (List Sp)), ∀ g ∈ gapsL b last L, rng g
  | last, [], g, h => by
    have e : g = b.drop last.toNat := by simpa [gapsL] using h
    rw [e]
    exact fun c hc => hb c (List.mem_of_mem_drop hc)
  | last, f :: r, g, h => by
    rcases List.mem_cons.1 h with h2 | h2
    · rw [h2]
      exact fun c hc => hb c (List.mem_of_mem_take (List.mem_of_mem_drop hc))
    · exact gap_rng hb _ r g h2
theorem sum_le {N : Nat} : ∀ (G : List (List Int)), (∀ g ∈ G, g.length ≤ N) → (G.map List.length).sum ≤ G.length * N
  | [], _ => Nat.zero_le _
  | g :: G, h => by
    have h1 := h g (by simp)
    have ih := sum_le G (fun x hx => h x (List.mem_cons_of_mem _ hx))
    simp only [List.map_cons, List.sum_cons, List.length_cons, Nat.succ_mul]
    omega
theorem exps_text (b : List Int) (L : List (List Sp)) (text : List Int) : expsL b L [(text, -1)] = List.replicate L.length text := by
  unfold expsL
  rw [List.eq_replicate_iff]
  refine ⟨List.length_map .., fun x hx => ?_⟩
  obtain ⟨f, -, rfl⟩ := List.mem_map.1 hx
  show partL b f (text, -1) ++ [] = text
  rw [List.append_nil]
  rfl
theorem exps_self {b : List Int} {l : List S46} (h : mayL b.length 0 (oneL l)) : expsL b (oneL l) [([], 0)] = (oneL l).map (spanL b) := by
  unfold expsL
  apply List.map_congr_left
  intro f hf
  obtain ⟨s, hs, rfl⟩ := List.mem_map.1 hf
  have hfit := may_fits h (sp s) [] hf
  show partL b [sp s] ([], 0) ++ [] = spanL b [sp s]
  rw [List.append_nil]
  show cutL b (sp s) = _
  unfold cutL
  have hfit' : 0 ≤ (sp s).1 ∧ (sp s).1 ≤ (sp s).2 ∧ (sp s).2 ≤ (b.length : Int) := hfit
  rw [if_pos hfit']
  rfl
theorem self_bytes {b : List Int} {l : List S46} (h : mayL b.length 0 (oneL l)) : joinL (gapsL b 0 (oneL l)) (expsL b (oneL l) [([], 0)]) = b := by
  rw [exps_self h]
  exact gaps_join b 0 (oneL l) (Int.le_refl 0) h
theorem exps_self_le (b : List Int) (L : List (List Sp)) : ∀ m ∈ expsL b L [([], 0)], m.length ≤ b.length := fun m hm => by
  obtain ⟨f, -, rfl⟩ := List.mem_map.1 hm
  show (partL b f ([], 0) ++ []).length ≤ _
  rw [List.append_nil]
  exact cutL_len b _
theorem text_join (b : List Int) (l : List S46) (text : List Int) : joinL (gapsL b 0 (oneL l)) (expsL b (oneL l) [(text, -1)]) = joinS (gapsL b 0 (oneL l)) text := by
  unfold joinS
  rw [exps_text, gapsL_len, Nat.add_sub_cancel]

theorem one_part {W : World} {g : Nat} {At : Option Addr} {ct : Nat} {text : List Int} {fr : Nat × Nat} (hb : W.heap[g]? = some (.cells #[.slice At text.length ct, .int .i64 (-1)] 37 fr)) (hC : Kd.C kB W At text.length text) (hct : text.length ≤ ct) : Kd.C k37 W (some ⟨g, 0, none⟩) 1 [toP (text, -1)] := by
  refine ⟨rfl, by decide, fun _ => ⟨⟨g, 0, none⟩, rfl, fun j p hj => ?_⟩⟩
  have hj0 : j = 0 := by
    have := (List.getElem?_eq_some_iff.1 hj).1
    simpa using this
  subst hj0
  cases hj
  have hK : k37.K W (toP (text, -1)) [.slice At text.length ct, .int .i64 (-1)] := k37_mk W (toP (text, -1)) hct hC
  refine ⟨_, k37.K_len hK, hK, fun i u hu => ?_⟩
  rw [add_plain]
  refine row_cellE hb _ u ?_
  simpa using hu
/-- The matches that the law makes out of spans. -/
def Found1 (W : World) (base : Nat) (v : Value) (l : List S46) : Prop := Own k56 56 W base v (l.map oneF)
theorem rep_self (w : World) (Ab : Option Addr) (cb : Nat) (b : List Int) (Al : Option Addr) (cl : Nat) (l : List S46) (Aw : Option Addr) (cw : Nat)
    (hb : Kd.C kB w Ab b.length b) (hcb : b.length ≤ cb) (hl : Kd.C k56 w Al (l.map oneF).length (l.map oneF)) (hw : Kd.C k37 w Aw 1 [toP ([], 0)]) (hn : b.length ≤ 1048576) (hm : l.length ≤ 1048576) :
    Calls Tryd.prog 18 #[.slice Ab b.length cb, .slice Al l.length cl, .slice Aw 1 cw] w fun e w' => (mayL b.length 0 (oneL l) ∧ (∃ v, e = .returned (.tuple #[v, .int .i64 0]) ∧ Own kB 5 w' w.heap.size v b) ∧ Below w.heap.size w w') ∨ (¬ mayL b.length 0 (oneL l) ∧ e = .returned (.tuple #[.slice none 0 0, .int .i64 1]) ∧ Below w.heap.size w w') := by
  have e1 : (l.map oneF).length = l.length := List.length_map ..
  have h := replace_any w Ab cb b Al cl (l.map oneF) Aw cw [toP ([], 0)] b.length hb hcb hl hw hn (by rw [e1]; exact hm) (Nat.le_refl _) (fun p hp => by
    have : p = toP ([], 0) := by simpa using hp
    rw [this]
    exact Nat.zero_le _) (by simp only [List.length_cons, List.length_nil]; omega) (by
    rw [map_one]
    have h2 := joinL_le (N := b.length) (gapsL b 0 (oneL l)) (expsL b (oneL l) [([], 0)]) (gap_le b 0 _) (exps_self_le b _)
    have e2 : (expsL b (oneL l) [([], 0)]).length = l.length := by unfold expsL; rw [List.length_map, oneL_len]
    rw [gapsL_len, oneL_len, e2] at h2
    refine Nat.le_trans h2 ?_
    calc (l.length + 1 + l.length) * b.length ≤ 2097153 * 1048576 := Nat.mul_le_mul (by omega) hn
      _ ≤ 140737488355328 := by decide)
  rw [e1, map_one] at h
  refine h.mono fun e w' hr => ?_
  rcases hr with ⟨hmay, ⟨v, e2, ho⟩, hb⟩ | ⟨hmay, e2, hb⟩
  · refine .inl ⟨hmay, ⟨v, e2, ?_⟩, hb⟩
    have hs := self_bytes hmay
    have ho2 : Own kB 5 w' w.heap.size v (joinL (gapsL b 0 (oneL l)) (expsL b (oneL l) [([], 0)])) := ho
    rw [hs] at ho2
    exact ho2
  · exact .inr ⟨hmay, e2, hb⟩
theorem rep_text (w : World) (Ab : Option Addr) (cb : Nat) (b : List Int) (Al : Option Addr) (cl : Nat) (l : List S46) (Aw : Option Addr) (cw : Nat) (text : List Int)
    (hb : Kd.C kB w Ab b.length b) (hcb : b.length ≤ cb) (hl : Kd.C k56 w Al (l.map oneF).length (l.map oneF)) (hw : Kd.C k37 w Aw 1 [toP (text, -1)]) (hn : b.length ≤ 1048576) (hm : l.length ≤ 1048576) (ht : text.length ≤ 1048576) :
    Calls Tryd.prog 18 #[.slice Ab b.length cb, .slice Al l.length cl, .slice Aw 1 cw] w fun e w' => (mayL b.length 0 (oneL l) ∧ (∃ v, e = .returned (.tuple #[v, .int .i64 0]) ∧ Own kB 5 w' w.heap.size v (joinS (gapsL b 0 (oneL l)) text)) ∧ Below w.heap.size w w') ∨ (¬ mayL b.length 0 (oneL l) ∧ e = .returned (.tuple #[.slice none 0 0, .int .i64 1]) ∧ Below w.heap.size w w') := by
  have e1 : (l.map oneF).length = l.length := List.length_map ..
  have h := replace_any w Ab cb b Al cl (l.map oneF) Aw cw [toP (text, -1)] 1048576 hb hcb hl hw hn (by rw [e1]; exact hm) hn (fun p hp => by
    have : p = toP (text, -1) := by simpa using hp
    rw [this]
    exact ht) (by simp only [List.length_cons, List.length_nil]; omega) (by
    rw [map_one]
    show (joinL (gapsL b 0 (oneL l)) (expsL b (oneL l) [(text, -1)])).length ≤ _
    rw [exps_text, oneL_len]
    have h2 := joinL_le (N := 1048576) (gapsL b 0 (oneL l)) (List.replicate l.length text) (fun g hg => Nat.le_trans (gap_le b 0 _ g hg) hn) (fun m hm => by rw [List.eq_of_mem_replicate hm]; exact ht)
    rw [gapsL_len, List.length_replicate, oneL_len] at h2
    refine Nat.le_trans h2 ?_
    calc (l.length + 1 + l.length) * 1048576 ≤ 2097153 * 1048576 := Nat.mul_le_mul (by omega) (Nat.le_refl _)
      _ ≤ 140737488355328 := by decide)
  rw [e1, map_one] at h
  refine h.mono fun e w' hr => ?_
  rcases hr with ⟨hmay, ⟨v, e2, ho⟩, hb⟩ | ⟨hmay, e2, hb⟩
  · refine .inl ⟨hmay, ⟨v, e2, ?_⟩, hb⟩
    rw [← text_join]
    exact ho
  · exact .inr ⟨hmay, e2, hb⟩
set_option maxHeartbeats 8000000 in
set_option maxRecDepth 100000 in
theorem EditSelf_walk (w : World) (A : Option Addr) (cA : Nat) (b : List Int) (Al : Option Addr) (cl : Nat) (l : List S46) (At : Option Addr) (ct : Nat) (text : List Int)
    (hb : Kd.C kB w A b.length b) (hcA : b.length ≤ cA) (hl : Kd.C k46 w Al l.length l) (hcl : l.length ≤ cl) (ht : Kd.C kB w At text.length text) (hct : text.length ≤ ct) (hn : b.length ≤ 1048576) (hm : l.length ≤ 1048576) (htn : text.length ≤ 1048576) (hrb : rng b) (hrt : rng text) :
    Calls Tryd.prog 7 #[.slice A b.length cA, .slice Al l.length cl, .slice At text.length ct] w fun e w' => e = .returned (.bool true) ∧ Below w.heap.size w w' := by
  have kc := fun (w : World) (C : Array Value) (n c : Nat) => Lib.run_convert_bytes_const (P := Tryd.prog) w 22 5 C n c Tryd.underlying22 Tryd.underlying5
  have HL := Aside0.mk hl
  have HB := Aside0.mk hb
  have HT := Aside0.mk ht
  have HN := Aside0.mk (And.intro hn (And.intro hm htn))
  have HCS := Aside0.mk (And.intro hcA (And.intro hcl hct))
  have HRG := Aside0.mk (And.intro hrb hrt)
  have HLL := Aside0.mk hl.2.1
  clear hl hb ht hn hm htn hcA hcl hct hrb hrt
  go_enter Tryd.func7, Tryd.ntmps7
  go_wp2
  go_loopg [7, 20] l.length (fun gk out i w' => ∃ (k : Nat), i = .int .i64 (k : Int) ∧ Aside0 (k ≤ l.length ∧ gk = l.length - k) ∧ Aside0 (Own k56 56 w' w.heap.size out ((l.map oneF).take k)) ∧ Aside0 (Below w.heap.size w w'))
  case atStart => exact ⟨0, by first | rfl | simp, ⟨Nat.zero_le _, rfl⟩, ⟨Kd.R_nil _ _ _ _ _⟩, ⟨Below.refl _ _⟩⟩
  case round =>
    obtain ⟨k, rfl, HA, HO, HX⟩ := hrel
    by_cases hk : k < l.length
    · have h63 := HLL.out
      obtain ⟨ad, rfl, hx0, hx1⟩ := at_T46 HL.out (k : Int) (by omega) (by omega)
      have HTK : Aside0 ((l.map oneF).take (k + 1) = (l.map oneF).take k ++ [oneF l[k]]) := ⟨by rw [List.take_succ_eq_append_getElem (by rw [List.length_map]; exact hk), List.getElem_map]⟩
      rw [rd84_at hk] at hx0 hx1
      obtain ⟨f, hf⟩ : ∃ f, l[k] = f := ⟨_, rfl⟩
      rw [hf] at hx0 hx1 HTK
      clear hf
      obtain ⟨q0, q1⟩ := f
      simp only [Int.toNat_natCast] at hx0 hx1
      replace hx0 := pw_cell_below HX.out hx0
      replace hx1 := pw_cell_below HX.out hx1
      obtain ⟨wA, hwA⟩ : ∃ wA, wr.alloc (.cells #[.int .i64 q0, .int .i64 q1] 46) = wA := ⟨_, rfl⟩
      have HXA : Aside0 (Below w.heap.size w wA) := ⟨by rw [← hwA]; exact below_alloc HX.out _⟩
      have hsz : wA.heap.size = wr.heap.size + 1 := by rw [← hwA]; simp
      have HOA : Aside0 (Own k56 56 wA w.heap.size u7 ((l.map oneF).take k)) := ⟨by rw [← hwA]; exact Kd.R_alloc HO.out _⟩
      have HOW : Aside0 (Own k56 56 ((wr.alloc (.cells #[.int .i64 q0, .int .i64 q1] 46)).alloc (.cells #[.int .i64 q0, .int .i64 q1] 46)) w.heap.size u7 ((l.map oneF).take k)) := ⟨by rw [hwA]; exact Kd.R_alloc HOA.out _⟩
      have HXW : Aside0 (Below w.heap.size w ((wr.alloc (.cells #[.int .i64 q0, .int .i64 q1] 46)).alloc (.cells #[.int .i64 q0, .int .i64 q1] 46))) := ⟨by rw [hwA]; exact below_alloc HXA.out _⟩
      have HM : Aside0 (k56.M ((wr.alloc (.cells #[.int .i64 q0, .int .i64 q1] 46)).alloc (.cells #[.int .i64 q0, .int .i64 q1] 46)) w.heap.size (fun k => True ∧ some k ≠ u7.ownBlock) (oneF ⟨q0, q1⟩) [.slice (some ⟨wr.heap.size + 1, 0, none⟩) 1 1]) := ⟨by
        obtain ⟨inner, hin⟩ := Kd.R_own HOA.out
        have h := R_sp wA wA.heap.size ⟨q0, q1⟩ (Nat.le_refl _)
        have h2 := Kd.R_lower (Kd.R_new h hin) HXA.out.size
        rw [hsz] at h2
        rw [hwA]
        exact k56_mkM _ _ _ _ h2⟩
      clear hwA hsz HXA HOA HO HX kc
      go_wp2_with (at_builtin; refine Kd.R_append k56 (w0 := w) w.heap.size rfl (.tmp 24) (.tmp 28) 49 56 (.agg #[(.slice none 0 0)]) 24 rfl Tryd.underlying49 info56 rfl (by decide) (by omega) u7 ((l.map oneF).take k) (oneF ⟨q0, q1⟩) [.slice (some ⟨wr.heap.size + 1, 0, none⟩) 1 1] (fun _ => True) (fun k => True ∧ some k ≠ u7.ownBlock) rfl ?aX HM.out (fun _ h => h) (fun _ _ => trivial) HOW.out HXW.out ?aS ?aL ?_)
      case aX =>
        show Value.slice (some ⟨wr.heap.size + 1 + 1, 0, none⟩) 1 1 = _
        simp
      case aS => exact HXW.out.size
      case aL =>
        rw [List.length_take, List.length_map]
        have := HN.out.2.1
        omega
      intro v5 w5 ho5 hb5 hg5 _
      have HO5 : Aside0 (Own k56 56 w5 w.heap.size v5 ((l.map oneF).take (k + 1))) := ⟨by rw [HTK.out]; exact ho5⟩
      have HB5 := Aside0.mk hb5
      clear ho5 hb5 hg5 HM HOW HXW hx0 hx1
      go_wp2
      go_roundg (gk - 1)
      case measure => have := HA.out; omega
      case rel => exact ⟨k + 1, by go_num, ⟨by omega, by have := HA.out; omega⟩, HO5, HB5⟩
    · have hkl : k = l.length := by have := HA.out; omega
      subst hkl
      have hO := HO.out
      rw [List.take_of_length_le (by rw [List.length_map]; exact Nat.le_refl _)] at hO
      obtain ⟨Af, cf, hv, hle, hC⟩ := Kd.R_reads hO
      have e1 : (l.map oneF).length = l.length := List.length_map ..
      have HFC := Aside0.mk hC
      rw [e1] at hv
      subst hv
      have HX0 := HX
      obtain ⟨wc, hwc⟩ : ∃ wc, wr.alloc (.cells #[.int .u8 36, .int .u8 48] 5 (2, 3)) = wc := ⟨_, rfl⟩
      have hbc : Below wr.heap.size wr wc := by rw [← hwc]; exact below_alloc (Below.refl _ _) _
      have hCC : Kd.C kB wc (some ⟨wr.heap.size, 0, none⟩) [36, 48].length [36, 48] := by rw [← hwc]; exact rdB (fr := (2, 3)) (heap_alloc_new _ _) (by decide)
      have HTM := Aside0.mk (template_any wc (some ⟨wr.heap.size, 0, none⟩) 2 [36, 48] 0 (.slice none 0 0) [] hCC (by decide) (by decide) (RdS.nil _ _) (by decide))
      rw [tmpl_self] at HTM
      have HXC : Aside0 (Below w.heap.size w wc) := ⟨below_to HX.out hbc⟩
      have HRC : Aside0 (Below wr.heap.size wr wc) := ⟨hbc⟩
      clear hO hle hC HO e1 hbc hCC HX
      go_wp2_with fail
      refine HTM.out.mono ?_
      rintro e w2 ⟨vs, rfl, hos, hb2⟩
      obtain ⟨As, cs, rfl, hles, hCs⟩ := Kd.R_reads hos
      have HXX2 : Aside0 (Below wr.heap.size wr w2) := ⟨below_to HRC.out hb2⟩
      have HXW2 : Aside0 (Below w.heap.size w w2) := ⟨below_to HXC.out hb2⟩
      have HCS2 : Aside0 (Kd.C k37 w2 As 1 [toP ([], 0)]) := ⟨hCs⟩
      clear hos hb2 hles hCs kc hwc
      have hb3 : Below w2.heap.size w2 (w2.alloc (.cells #[.int .i64 0, .int .i64 0] 28)) := below_alloc (Below.refl _ _) _
      have HX3 : Aside0 (Below wr.heap.size wr (w2.alloc (.cells #[.int .i64 0, .int .i64 0] 28))) := ⟨below_to HXX2.out hb3⟩
      have HW3 : Aside0 (Below w.heap.size w (w2.alloc (.cells #[.int .i64 0, .int .i64 0] 28))) := ⟨below_to HXW2.out hb3⟩
      have HR1 := Aside0.mk (rep_self _ A cA b Af cf l As cs (Kd.C_below HB.out HW3.out) HCS.out.1 (Kd.C_below HFC.out HX3.out) (Kd.C_below HCS2.out hb3) HN.out.1 HN.out.2.1)
      have HF3 : Aside0 ((w2.alloc (.cells #[.int .i64 0, .int .i64 0] 28)).heap[w2.heap.size]? = some (.cells #[.int .i64 0, .int .i64 0] 28 (0, 0))) := ⟨heap_alloc_new _ _⟩
      clear hb3
      go_wp2_with fail
      refine HR1.out.mono ?_
      obtain ⟨gF, hgF⟩ : ∃ gF, w2.heap.size = gF := ⟨_, rfl⟩
      obtain ⟨w3, hw3⟩ : ∃ w3, w2.alloc (.cells #[.int .i64 0, .int .i64 0] 28) = w3 := ⟨_, rfl⟩
      rw [hw3] at HX3 HW3 HR1 HF3 ⊢
      rw [hgF] at HF3 ⊢
      clear hw3 hgF
      rintro e w4 (⟨hmay, ⟨v4, rfl, ho4⟩, hb4⟩ | ⟨hmay, rfl, hb4⟩)
      · have HMAY := Aside0.mk hmay
        have HX4 : Aside0 (Below wr.heap.size wr w4) := ⟨below_to HX3.out hb4⟩
        have HW4 : Aside0 (Below w.heap.size w w4) := ⟨below_to HW3.out hb4⟩
        have HF4 := Aside0.mk (blk_below HF3.out hb4)
        have HO4 := Aside0.mk ho4
        have hb5 : Below w4.heap.size w4 (w4.alloc (.cells #[.slice At text.length ct, .int .i64 (-1)] 37)) := below_alloc (Below.refl _ _) _
        have HW5 : Aside0 (Below w.heap.size w (w4.alloc (.cells #[.slice At text.length ct, .int .i64 (-1)] 37))) := ⟨below_to HW4.out hb5⟩
        have HB45 := Aside0.mk hb5
        have HR2 := Aside0.mk (rep_text _ A cA b Af cf l (some ⟨w4.heap.size, 0, none⟩) 1 text (Kd.C_below HB.out HW5.out) HCS.out.1 (Kd.C_below HFC.out (below_to HX4.out hb5)) (one_part (heap_alloc_new _ _) (Kd.C_below HT.out HW5.out) HCS.out.2.2) HN.out.1 HN.out.2.1 HN.out.2.2)
        clear hmay hb4 ho4 hb5 HF3 HR1
        go_wp2_with fail
        refine HR2.out.mono ?_
        rintro e w6 (⟨-, ⟨v6, rfl, ho6⟩, hb6⟩ | ⟨hno, -, -⟩)
        · have HB46 : Aside0 (Below w4.heap.size w4 w6) := ⟨below_to HB45.out hb6⟩
          have HW6 : Aside0 (Below w.heap.size w w6) := ⟨below_to HW5.out hb6⟩
          have HO6 := Aside0.mk ho6
          have HS6 := Aside0.mk (split_any w6 A cA b Al cl l (Kd.C_below HB.out HW6.out) HCS.out.1 (Kd.C_below HL.out HW6.out) (by have := HN.out.1; omega) HN.out.2.1)
          clear ho6 hb6 HR2 HB45 HW5
          go_wp2_with fail
          refine HS6.out.mono ?_
          rintro e w7 (⟨-, ⟨v7, rfl, ho7⟩, hb7⟩ | ⟨hno, -, -⟩)
          · have HB47 : Aside0 (Below w4.heap.size w4 w7) := ⟨below_to HB46.out hb7⟩
            have HW7 : Aside0 (Below w.heap.size w w7) := ⟨below_to HW6.out hb7⟩
            have f0 := row_cell (blk_below HF4.out HB47.out) 0 _ rfl
            have HO47 := Aside0.mk (Kd.R_below HO4.out HB47.out)
            have HO67 := Aside0.mk (Kd.R_below HO6.out hb7)
            have HE1 := Aside0.mk (equalB_any w7 v4 (.slice A b.length cA) b (RdS.of_R HO47.out) ⟨A, cA, rfl, HCS.out.1, Kd.C_below HB.out HW7.out⟩)
            have HO7 := Aside0.mk ho7
            clear hb7 ho7 HS6 HB46
            go_wp2_with fail
            refine HE1.out.mono ?_
            rintro e w8 ⟨rfl, hb8⟩
            have HW8 : Aside0 (Below w.heap.size w w8) := ⟨below_to HW7.out hb8⟩
            have HO68 := Aside0.mk (Kd.R_below HO67.out hb8)
            have hgl := gapsL_len b 0 (oneL l)
            rw [oneL_len] at hgl
            have HJN := Aside0.mk (joinB_any w8 v7 (.slice At text.length ct) (gapsL b 0 (oneL l)) text (RdS.of_R (Kd.R_below HO7.out hb8)) ⟨At, ct, rfl, HCS.out.2.2, Kd.C_below HT.out HW8.out⟩ (by omega) (gap_rng HRG.out.1 0 _) HRG.out.2 (by have := HN.out.2.1; omega) (by
              have h1 := sum_le (N := 1048576) (gapsL b 0 (oneL l)) (fun g hg => Nat.le_trans (gap_le b 0 _ g hg) HN.out.1)
              have h2 : text.length * ((gapsL b 0 (oneL l)).length - 1) ≤ 1048576 * 1048576 := Nat.mul_le_mul HN.out.2.2 (by have := HN.out.2.1; omega)
              have h3 : (gapsL b 0 (oneL l)).length * 1048576 ≤ 1048577 * 1048576 := Nat.mul_le_mul_right _ (by have := HN.out.2.1; omega)
              omega))
            clear hb8 hgl f0 HE1 HO67
            go_wp2_with fail
            refine HJN.out.mono ?_
            rintro e w9 ⟨v9, rfl, hr9, hb9⟩
            have HW9 : Aside0 (Below w.heap.size w w9) := ⟨below_to HW8.out hb9⟩
            have HE2 := Aside0.mk (equalB_any w9 v6 v9 _ (RdS.of_R (Kd.R_below HO68.out hb9)) hr9)
            clear hr9 hb9 HJN
            go_wp2_with fail
            refine HE2.out.mono ?_
            rintro e w10 ⟨rfl, hb10⟩
            have HW10 : Aside0 (Below w.heap.size w w10) := ⟨below_to HW9.out hb10⟩
            clear hb10 HE2
            go_wp2_with fail
            refine (awake_any _).mono ?_
            rintro e w11 ⟨rfl, hb11⟩
            have HW11 : Aside0 (Below w.heap.size w w11) := ⟨below_to HW10.out hb11⟩
            clear hb11
            go_wp2
            go_ret
            exact ⟨rfl, HW11.out⟩
          · exact absurd HMAY.out hno
        · exact absurd HMAY.out hno
      · have HMAY := Aside0.mk hmay
        have HX4 : Aside0 (Below wr.heap.size wr w4) := ⟨below_to HX3.out hb4⟩
        have HW4 : Aside0 (Below w.heap.size w w4) := ⟨below_to HW3.out hb4⟩
        have hb5 : Below w4.heap.size w4 (w4.alloc (.cells #[.slice At text.length ct, .int .i64 (-1)] 37)) := below_alloc (Below.refl _ _) _
        have HW5 : Aside0 (Below w.heap.size w (w4.alloc (.cells #[.slice At text.length ct, .int .i64 (-1)] 37))) := ⟨below_to HW4.out hb5⟩
        have HR2 := Aside0.mk (rep_text _ A cA b Af cf l (some ⟨w4.heap.size, 0, none⟩) 1 text (Kd.C_below HB.out HW5.out) HCS.out.1 (Kd.C_below HFC.out (below_to HX4.out hb5)) (one_part (heap_alloc_new _ _) (Kd.C_below HT.out HW5.out) HCS.out.2.2) HN.out.1 HN.out.2.1 HN.out.2.2)
        clear hmay hb4 hb5 HF3 HR1
        go_wp2_with fail
        refine HR2.out.mono ?_
        rintro e w6 (⟨hyes, -, -⟩ | ⟨-, rfl, hb6⟩)
        · exact absurd hyes HMAY.out
        · have HW6 : Aside0 (Below w.heap.size w w6) := ⟨below_to HW5.out hb6⟩
          have HS6 := Aside0.mk (split_any w6 A cA b Al cl l (Kd.C_below HB.out HW6.out) HCS.out.1 (Kd.C_below HL.out HW6.out) (by have := HN.out.1; omega) HN.out.2.1)
          clear hb6 HR2 HW5
          go_wp2_with fail
          refine HS6.out.mono ?_
          rintro e w7 (⟨hyes, -, -⟩ | ⟨-, rfl, hb7⟩)
          · exact absurd hyes HMAY.out
          · have HW7 : Aside0 (Below w.heap.size w w7) := ⟨below_to HW6.out hb7⟩
            clear hb7 HS6
            go_wp2_with fail
            refine (awake_any _).mono ?_
            rintro e w8 ⟨rfl, hb8⟩
            have HW8 : Aside0 (Below w.heap.size w w8) := ⟨below_to HW7.out hb8⟩
            clear hb8
            go_wp2
            go_ret
            exact ⟨rfl, HW8.out⟩

end Go.Proofs.YtaejogkinniakaaDoor
