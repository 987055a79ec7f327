/- Walks: edit.cut where the answer is known; edit.gaps. -/
import Derived.Test.YtaejogkinniakaaDoorEdE
import Derived.Test.YtaejogkinniakaaDoorEdGp
import Derived.Deep.QuietTactic
import Derived.BigQuiet
namespace Go.Proofs.YtaejogkinniakaaDoor
set_option linter.unusedVariables false
set_option linter.unusedSimpArgs false
open Go.RowKit Go.Proofs.YtaejogkinniakaaDoorW.PrintWords Go.Proofs.YtaejogkinniakaaDoorW.PrintLast Go.Proofs.YtaejogkinniakaaDoorW.PrintMore Go.Proofs.YtaejogkinniakaaDoor.PEd

abbrev kBs : Kd (List Int) := Kd.slice 5 kB
def fo (x : S56) : List Sp := x.f0.map sp
def midL (b : List Int) (s0 s1 : Int) : List Int := (b.take s1.toNat).drop s0.toNat
theorem midL_len (b : List Int) (s0 s1 : Int) : (midL b s0 s1).length ≤ b.length := by
  unfold midL
  simp only [List.length_drop, List.length_take]
  omega
/-- The cut comes back, and that it is one. -/
def RetCutY (r : List Int) (w : World) (e : Ending) (w' : World) : Prop := ∃ A c, e = .returned (.tuple #[.slice A r.length c, .bool true]) ∧ r.length ≤ c ∧ Kd.C kB w' A r.length r ∧ Below w.heap.size w w'

set_option maxHeartbeats 1000000 in
set_option maxRecDepth 100000 in
theorem cutY_any (w : World) (A : Option Addr) (c : Nat) (b : List Int) (s0 s1 : Int) (hr : Kd.C kB w A b.length b) (hc : b.length ≤ c) (h0 : 0 ≤ s0) (h1 : s0 ≤ s1) (h2 : s1 ≤ b.length) :
    Calls Tryd.prog 39 #[.slice A b.length c, .agg #[.int .i64 s0, .int .i64 s1]] w (RetCutY (midL b s0 s1) w) := by
  have HR := Aside0.mk hr
  have hlen := hr.2.1
  clear hr
  obtain ⟨i0, hi0, _, hsz, _⟩ := info_parts info5
  have hcut := cut_mid (P := Tryd.prog) 22 5 .i64 .i64 Tryd.underlying22 hi0 1 hsz A b.length c s0 s1 h0 h1 h2 hc
  have hd : Kd.C kB w (if c = s0.toNat then A else A.map (·.add (s0.toNat * 1))) ((b.take s1.toNat).drop s0.toNat).length ((b.take s1.toNat).drop s0.toNat) := Kd.C_drop (c := c) (m := s0.toNat) (Kd.C_take (m := s1.toNat) HR.out (by omega)) (by rw [List.length_take]; omega) (by rw [List.length_take]; omega)
  have e1 : ((b.take s1.toNat).drop s0.toNat).length = s1.toNat - s0.toNat := by rw [List.length_drop, List.length_take]; omega
  obtain ⟨A', hA'⟩ : ∃ A', (if c = s0.toNat then A else A.map (·.add (s0.toNat * 1))) = A' := ⟨_, rfl⟩
  obtain ⟨c', hc'⟩ : ∃ c', c - s0.toNat = c' := ⟨_, rfl⟩
  rw [hA'] at hcut hd
  rw [hc'] at hcut
  have HC' : Aside0 (s1.toNat - s0.toNat ≤ c') := ⟨by omega⟩
  have HD := Aside0.mk hd
  clear hA' hc' hd
  have HE := Aside0.mk e1
  clear e1 hi0 hsz
  go_enter Tryd.func39, Tryd.ntmps39
  go_wp2
  go_ret2
  refine ⟨A', c', ?_, ?_, ?_, below_alloc (Below.refl _ _) _⟩
  · unfold midL; rw [HE.out]; rfl
  · unfold midL; rw [HE.out]; exact HC'.out
  · exact Kd.C_below HD.out (below_alloc (Below.refl _ _) _)
def RetCutN (w : World) (e : Ending) (w' : World) : Prop := e = .returned (.tuple #[.slice none 0 0, .bool false]) ∧ Below w.heap.size w w'
set_option maxHeartbeats 1000000 in
set_option maxRecDepth 100000 in
theorem cutN_any (w : World) (A : Option Addr) (c : Nat) (b : List Int) (s0 s1 : Int) (hr : Kd.C kB w A b.length b) (hc : b.length ≤ c) (h : ¬ (0 ≤ s0 ∧ s0 ≤ s1 ∧ s1 ≤ b.length)) :
    Calls Tryd.prog 39 #[.slice A b.length c, .agg #[.int .i64 s0, .int .i64 s1]] w (RetCutN w) := by
  have hlen := hr.2.1
  clear hr
  by_cases h0 : 0 ≤ s0
  · by_cases h1 : s0 ≤ s1
    · have h2 : ¬ s1 ≤ b.length := fun h2 => h ⟨h0, h1, h2⟩
      clear h
      go_enter Tryd.func39, Tryd.ntmps39
      go_wp2
      go_ret2
      exact ⟨rfl, below_alloc (Below.refl _ _) _⟩
    · clear h
      go_enter Tryd.func39, Tryd.ntmps39
      go_wp2
      go_ret2
      exact ⟨rfl, below_alloc (Below.refl _ _) _⟩
  · clear h
    go_enter Tryd.func39, Tryd.ntmps39
    go_wp2
    go_ret2
    exact ⟨rfl, below_alloc (Below.refl _ _) _⟩
theorem step_none {ss : List S46} (hp : 0 < ss.length) (h : sp ss[0] = noneS) (n last : Int) : stepM n last (ss.map sp) = none := by
  obtain ⟨s, t, rfl⟩ := List.exists_cons_of_ne_nil (List.length_pos_iff.1 hp)
  have h' : sp s = noneS := h
  show (if fitsS n (sp s) ∧ _ then _ else _) = _
  rw [if_neg]
  rintro ⟨⟨a, _⟩, _⟩
  rw [h'] at a
  exact absurd a (by decide)
theorem step_bad {ss : List S46} {j : Nat} (hj : j < ss.length) {n : Int} (h : ¬ sp ss[j] = noneS) (hf : ¬ fitsS n (sp ss[j])) (last : Int) : stepM n last (ss.map sp) = none := by
  cases ss with
  | nil => exact absurd hj (Nat.not_lt_zero _)
  | cons s t =>
    show (if fitsS n (sp s) ∧ last ≤ (sp s).1 ∧ ∀ x ∈ t.map sp, x = noneS ∨ fitsS n x then _ else _) = _
    rw [if_neg]
    rintro ⟨a, _, c⟩
    cases j with
    | zero => exact hf a
    | succ j =>
      have hj2 : j < t.length := by simpa using hj
      rcases c (sp t[j]) (List.mem_map.2 ⟨t[j], List.getElem_mem hj2, rfl⟩) with c | c
      · exact h c
      · exact hf c
theorem step_good {ss : List S46} (hp : 0 < ss.length) {n last e : Int} {q0 : Int} (hq : sp ss[0] = (q0, e)) (h : ∀ i (h : i < ss.length), sp ss[i] = noneS ∨ fitsS n (sp ss[i])) (hno : ¬ sp ss[0] = noneS) (hl : last ≤ q0) : stepM n last (ss.map sp) = some e := by
  obtain ⟨s, t, rfl⟩ := List.exists_cons_of_ne_nil (List.length_pos_iff.1 hp)
  have hq' : sp s = (q0, e) := hq
  show (if fitsS n (sp s) ∧ last ≤ (sp s).1 ∧ ∀ x ∈ t.map sp, x = noneS ∨ fitsS n x then some (sp s).2 else _) = _
  rw [if_pos, hq']
  refine ⟨?_, by rw [hq']; exact hl, fun x hx => ?_⟩
  · rcases h 0 hp with h1 | h1
    · exact absurd h1 hno
    · exact h1
  · obtain ⟨y, hy, rfl⟩ := List.mem_map.1 hx
    obtain ⟨i, hi, rfl⟩ := List.getElem_of_mem hy
    exact h (i + 1) (by simpa using hi)
theorem step_late {ss : List S46} (hp : 0 < ss.length) {n last : Int} (h : fitsS n (sp ss[0]) → last ≤ (sp ss[0]).1 → False) : stepM n last (ss.map sp) = none := by
  obtain ⟨s, t, rfl⟩ := List.exists_cons_of_ne_nil (List.length_pos_iff.1 hp)
  show (if fitsS n (sp s) ∧ last ≤ (sp s).1 ∧ ∀ x ∈ t.map sp, x = noneS ∨ fitsS n x then some (sp s).2 else _) = _
  rw [if_neg]
  rintro ⟨a, b, _⟩
  exact h a b
/-- What edit.gaps hands back. -/
def RetGaps (b : List Int) (L : List (List Sp)) (w : World) (e : Ending) (w' : World) : Prop :=
  (mayL b.length 0 L ∧ (∃ v, e = .returned (.tuple #[v, .bool true]) ∧ Own kBs 22 w' w.heap.size v (gapsL b 0 L)) ∧ Below w.heap.size w w') ∨
  (¬ mayL b.length 0 L ∧ e = .returned (.tuple #[.slice none 0 0, .bool false]) ∧ Below w.heap.size w w')
theorem fo_at {l : List S56} {k : Nat} (hk : k < l.length) : (l.map fo)[k]'(by rw [List.length_map]; exact hk) = (l[k]).f0.map sp := by
  rw [List.getElem_map]
  rfl
theorem rd56_at {l : List S56} {k : Nat} (h : k < l.length) : rd_T56 l (k : Int) = l[k] := by simp [rd_T56, h]

attribute [local go_sem high] eqA46
set_option maxHeartbeats 4000000 in
set_option maxRecDepth 100000 in
theorem gaps_any (w : World) (Ab : Option Addr) (cb : Nat) (b : List Int) (Al : Option Addr) (cl : Nat) (l : List S56)
    (hb : Kd.C kB w Ab b.length b) (hcb : b.length ≤ cb) (hl : Kd.C k56 w Al l.length l) (hn : b.length ≤ 140737488351232) (hm : l.length ≤ 1048576) :
    Calls Tryd.prog 29 #[.slice Ab b.length cb, .slice Al l.length cl] w (RetGaps b (l.map fo) w) := by
  have HB1 : Aside0 (Below w.heap.size w (w.alloc (.cells #[.int .i64 (-1), .int .i64 (-1)] 46))) := ⟨below_alloc (Below.refl _ _) _⟩
  have HL := Aside0.mk (Kd.C_below hl HB1.out)
  have HB := Aside0.mk (Kd.C_below hb HB1.out)
  have HN := Aside0.mk (And.intro hn hm)
  have HLL := Aside0.mk hl.2.1
  have HCB := Aside0.mk hcb
  have HBL := Aside0.mk hb.2.1
  clear hl hb hn hm hcb
  have HNB : Aside0 ((w.alloc (.cells #[.int .i64 (-1), .int .i64 (-1)] 46)).heap[w.heap.size]? = some (.cells #[.int .i64 (-1), .int .i64 (-1)] 46 (0, 0))) := ⟨heap_alloc_new _ _⟩
  obtain ⟨gf, hgf⟩ : ∃ gf, w.heap.size = gf := ⟨_, rfl⟩
  have HGF := Aside0.mk hgf
  rw [hgf] at HNB
  go_enter Tryd.func29, Tryd.ntmps29
  go_wp2
  obtain ⟨w0, hw0⟩ : ∃ w0, w.alloc (.cells #[.int .i64 (-1), .int .i64 (-1)] 46) = w0 := ⟨_, rfl⟩
  rw [hw0] at HNB HB1 HL HB ⊢
  clear hw0 hgf
  go_loopg [7, 8, 20] l.length (fun gk out last i w' => ∃ (k : Nat) (en : Int), i = .int .i64 (k : Int) ∧ last = .int .i64 en ∧ Aside0 (k ≤ l.length ∧ gk = l.length - k) ∧ Aside0 (runM b.length 0 ((l.map fo).take k) = some en) ∧ Aside0 (Own kBs 22 w' w0.heap.size out (preG b 0 ((l.map fo).take k))) ∧ Aside0 (Below w0.heap.size w0 w'))
  case atStart => exact ⟨0, 0, by first | rfl | simp, by first | rfl | simp, ⟨Nat.zero_le _, rfl⟩, ⟨rfl⟩, ⟨Kd.R_nil _ _ _ _ _⟩, ⟨Below.refl _ _⟩⟩
  case round =>
    obtain ⟨k, en, rfl, rfl, HA, HR, HO, HX⟩ := hrel
    by_cases hk : k < l.length
    · have h63 := HLL.out
      obtain ⟨ad, A0, c0, rfl, hx0, hle, hC0⟩ := at_T56 HL.out (k : Int) (by omega) (by omega)
      have hfl := fo_at (l := l) hk
      rw [rd56_at hk] at hx0 hle hC0
      obtain ⟨f, hf⟩ : ∃ f, l[k] = f := ⟨_, rfl⟩
      rw [hf] at hx0 hle hC0 hfl
      clear hf
      obtain ⟨ss⟩ := f
      simp only at hx0 hle hC0 hfl
      have HFL := Aside0.mk hfl
      have HC00 := Aside0.mk hC0
      have hsl := hC0.2.1
      have HC0 := Aside0.mk (And.intro hle (Kd.C_below hC0 HX.out))
      clear hle hC0 hfl
      replace hx0 := pw_cell_below HX.out hx0
      simp only [Int.toNat_natCast] at hx0
      have HFB : Aside0 ((wr.alloc (.cells #[.slice A0 ss.length c0] 56)).heap[wr.heap.size]? = some (.cells #[.slice A0 ss.length c0] 56 (0, 0))) := ⟨heap_alloc_new _ _⟩
      have HBW : Aside0 (Below w0.heap.size w0 (wr.alloc (.cells #[.slice A0 ss.length c0] 56))) := ⟨below_alloc HX.out _⟩
      have HNB2 : Aside0 ((wr.alloc (.cells #[.slice A0 ss.length c0] 56)).heap[gf]? = some (.cells #[.int .i64 (-1), .int .i64 (-1)] 46 (0, 0))) := ⟨(HBW.out.block gf (Array.getElem?_eq_some_iff.1 HNB.out).1).trans HNB.out⟩
      have HOW := Aside0.mk (Kd.R_alloc HO.out (.cells #[.slice A0 ss.length c0] 56))
      have HCW := Aside0.mk (Kd.C_below HC0.out.2 (below_alloc (Below.refl wr.heap.size wr) (.cells #[.slice A0 ss.length c0] 56)))
      have f0 := row_cellE HFB.out 0 _ rfl
      have n0 := row_cellE HNB2.out 0 _ rfl
      have n1 := row_cellE HNB2.out 1 _ rfl
      by_cases hss : ss = []
      · subst hss
        go_wp2
        go_quiet (fail)
        go_wp2
        go_ret2
        exact .inr ⟨may_not (by rw [List.length_map]; exact hk) HR.out (by rw [HFL.out]; rfl), rfl, below_to HB1.out (pw_below_drewN HBW.out _)⟩
      · have hpos : 0 < ss.length := List.length_pos_iff.2 hss
        have hl0 : ((ss.length : Int) == 0) = false := by simp; omega
        have hl1 : (0 < ss.length) = True := eq_true hpos
        obtain ⟨sa, rfl, hs0, hs1⟩ := at_T46 HCW.out 0 (by omega) (by omega)
        rw [show ((0 : Int)).toNat = 0 from rfl, show 0 * 2 = 0 from rfl, Addr.add_zero'] at hs0 hs1
        have hrd : rd_T46 ss 0 = ss[0] := rd84_at (k := 0) hpos
        rw [hrd] at hs0 hs1
        clear hrd
        by_cases hno : (ss[0].f0 == -1 && (ss[0].f1 == -1)) = true
        · go_wp2
          go_quiet (fail)
          go_wp2
          go_ret2
          refine .inr ⟨may_not (by rw [List.length_map]; exact hk) HR.out ?_, rfl, below_to HB1.out (pw_below_drewN HBW.out _)⟩
          rw [HFL.out]
          exact step_none hpos (by simpa [sp, noneS] using hno) _ _
        · have hno2 : (ss[0].f0 == -1 && (ss[0].f1 == -1)) = false := by simpa using hno
          clear hno
          go_wp2
          go_quiet (fail)
          go_wp2
          obtain ⟨wB, hwB⟩ : ∃ wB, (wr.alloc (.cells #[.slice (some sa) ss.length c0] 56)).drewN nq = wB := ⟨_, rfl⟩
          have HFC : Aside0 (wB.heap[wr.heap.size]? = some (.cells #[.slice (some sa) ss.length c0] 56 (0, 0))) := ⟨by rw [← hwB]; exact HFB.out⟩
          have HNC : Aside0 (wB.heap[gf]? = some (.cells #[.int .i64 (-1), .int .i64 (-1)] 46 (0, 0))) := ⟨by rw [← hwB]; exact HNB2.out⟩
          have HBC : Aside0 (Below w0.heap.size w0 wB) := ⟨by rw [← hwB]; exact pw_below_drewN HBW.out _⟩
          have HCC : Aside0 (Kd.C k46 wB (some sa) ss.length ss) := ⟨by rw [← hwB]; exact Kd.C_below HCW.out (pw_below_drewN (Below.refl _ _) _)⟩
          have HOC : Aside0 (Own kBs 22 wB w0.heap.size u7 (preG b 0 ((l.map fo).take k))) := ⟨by rw [← hwB]; exact Kd.R_below HOW.out (pw_below_drewN (Below.refl _ _) _)⟩
          have HNO : Aside0 (¬ (sp ss[0] = noneS)) := ⟨by simpa [sp, noneS] using hno2⟩
          rw [hwB]
          obtain ⟨gF, hgF⟩ : ∃ gF, wr.heap.size = gF := ⟨_, rfl⟩
          rw [hgF] at HFC ⊢
          clear hgF
          clear hwB HFB HNB2 HBW HCW HOW f0 n0 n1 hs0 hs1 hno2 hl0 hx0 HC0 HX HO
          go_loopg [39] ss.length (fun gj i w' => ∃ j : Nat, i = .int .i64 (j : Int) ∧ Aside0 (j ≤ ss.length ∧ gj = ss.length - j) ∧ Aside0 (∀ i (h : i < ss.length), i < j → sp ss[i] = noneS ∨ fitsS b.length (sp ss[i])) ∧ Aside0 (Below wB.heap.size wB w'))
          case atStart => exact ⟨0, by first | rfl | simp, ⟨Nat.zero_le _, rfl⟩, ⟨fun i _ h => absurd h (Nat.not_lt_zero _)⟩, ⟨Below.refl _ _⟩⟩
          case round =>
            obtain ⟨j, rfl, HJ, HF, HY⟩ := hrel
            by_cases hj : j < ss.length
            · obtain ⟨sa', e, hs0, hs1⟩ := at_T46 HCC.out (j : Int) (by omega) (by omega)
              cases e
              rw [rd84_at hj] at hs0 hs1
              simp only [Int.toNat_natCast] at hs0 hs1
              obtain ⟨q, hq⟩ : ∃ q, ss[j] = q := ⟨_, rfl⟩
              have HQ := Aside0.mk hq
              rw [hq] at hs0 hs1
              clear hq
              obtain ⟨q0, q1⟩ := q
              simp only at hs0 hs1
              replace hs0 := pw_cell_below HY.out hs0
              replace hs1 := pw_cell_below HY.out hs1
              have HYB : Aside0 (Below wB.heap.size wB (wr.alloc (.cells #[.int .i64 q0, .int .i64 q1] 46))) := ⟨below_alloc HY.out _⟩
              have HQB : Aside0 ((wr.alloc (.cells #[.int .i64 q0, .int .i64 q1] 46)).heap[wr.heap.size]? = some (.cells #[.int .i64 q0, .int .i64 q1] 46 (0, 0))) := ⟨heap_alloc_new _ _⟩
              have HNQ : Aside0 ((wr.alloc (.cells #[.int .i64 q0, .int .i64 q1] 46)).heap[gf]? = some (.cells #[.int .i64 (-1), .int .i64 (-1)] 46 (0, 0))) := ⟨blk_below HNC.out HYB.out⟩
              have HBb := Aside0.mk (Kd.C_below HB.out (below_to HBC.out HYB.out))
              have q0c := row_cellE HQB.out 0 _ rfl
              have q1c := row_cellE HQB.out 1 _ rfl
              by_cases fit : 0 ≤ q0 ∧ q0 ≤ q1 ∧ q1 ≤ b.length
              · have HF2 : Aside0 (∀ i (h : i < ss.length), i < j + 1 → sp ss[i] = noneS ∨ fitsS b.length (sp ss[i])) := ⟨fun i h h2 => by
                  rcases Nat.lt_succ_iff_lt_or_eq.1 h2 with h3 | rfl
                  · exact HF.out i h h3
                  · rw [HQ.out]
                    exact .inr fit⟩
                obtain ⟨f0, f1, f2⟩ := fit
                go_wp2_with fail
                refine (cutY_any _ Ab cb b q0 q1 HBb.out HCB.out f0 f1 f2).mono ?_
                rintro e w3 ⟨A3, c3, rfl, -, -, hb3⟩
                have HY3 : Aside0 (Below wB.heap.size wB w3) := ⟨below_to HYB.out hb3⟩
                clear hb3 q0c q1c HQB HNQ HBb f0 f1 f2 hs0 hs1 HY HYB
                go_wp2
                go_roundg (ss.length - j - 1)
                case measure => have := HJ.out; omega
                case rel => exact ⟨j + 1, by go_num, ⟨by omega, by have := HJ.out; omega⟩, HF2, HY3⟩
              · have HFIT := Aside0.mk fit
                go_wp2_with fail
                refine (cutN_any _ Ab cb b q0 q1 HBb.out HCB.out fit).mono ?_
                rintro e w3 ⟨rfl, hb3⟩
                have HY3 : Aside0 (Below wB.heap.size wB w3) := ⟨below_to HYB.out hb3⟩
                have q0d := row_cellE (blk_below HQB.out hb3) 0 _ rfl
                have q1d := row_cellE (blk_below HQB.out hb3) 1 _ rfl
                have n0d := row_cellE (blk_below HNQ.out hb3) 0 _ rfl
                have n1d := row_cellE (blk_below HNQ.out hb3) 1 _ rfl
                clear hb3 q0c q1c HQB HNQ HBb hs0 hs1 HY HYB fit
                by_cases hno : (q0 == -1 && (q1 == -1)) = true
                · have HF2 : Aside0 (∀ i (h : i < ss.length), i < j + 1 → sp ss[i] = noneS ∨ fitsS b.length (sp ss[i])) := ⟨fun i h h2 => by
                    rcases Nat.lt_succ_iff_lt_or_eq.1 h2 with h3 | rfl
                    · exact HF.out i h h3
                    · rw [HQ.out]
                      exact .inl (by simpa [sp, noneS] using hno)⟩
                  go_wp2
                  go_roundg (ss.length - j - 1)
                  case measure => have := HJ.out; omega
                  case rel => exact ⟨j + 1, by go_num, ⟨by omega, by have := HJ.out; omega⟩, HF2, HY3⟩
                · have hno2 : (q0 == -1 && (q1 == -1)) = false := by simpa using hno
                  have HN2 : Aside0 (¬ (sp ss[j] = noneS)) := ⟨by rw [HQ.out]; simpa [sp, noneS] using hno2⟩
                  clear hno
                  go_wp2
                  go_ret2
                  refine .inr ⟨may_not (by rw [List.length_map]; exact hk) HR.out ?_, rfl, below_to HB1.out (below_to HBC.out HY3.out)⟩
                  rw [HFL.out]
                  exact step_bad hj HN2.out (by rw [HQ.out]; exact HFIT.out) _
            · have hjl : j = ss.length := by have := HJ.out; omega
              subst hjl
              have HALL : Aside0 (∀ i (h : i < ss.length), sp ss[i] = noneS ∨ fitsS b.length (sp ss[i])) := ⟨fun i h => HF.out i h h⟩
              obtain ⟨sa', e, hs0, hs1⟩ := at_T46 HC00.out 0 (by omega) (by omega)
              cases e
              rw [show ((0 : Int)).toNat = 0 from rfl, show 0 * 2 = 0 from rfl, Addr.add_zero'] at hs0 hs1
              have hrd : rd_T46 ss 0 = ss[0] := rd84_at (k := 0) hpos
              rw [hrd] at hs0 hs1
              obtain ⟨q, hq⟩ : ∃ q, ss[0] = q := ⟨_, rfl⟩
              have HQ := Aside0.mk hq
              rw [hq] at hs0 hs1
              clear hq hrd HF
              obtain ⟨q0, q1⟩ := q
              simp only at hs0 hs1
              have HS1 := Aside0.mk hs1
              have HBW : Aside0 (Below w0.heap.size w0 wr) := ⟨below_to HBC.out HY.out⟩
              replace hs0 := pw_cell_below HBW.out hs0
              have HFD : Aside0 (wr.heap[gF]? = some (.cells #[.slice (some sa) ss.length c0] 56 (0, 0))) := ⟨blk_below HFC.out HY.out⟩
              have HOD : Aside0 (Own kBs 22 wr w0.heap.size u7 (preG b 0 ((l.map fo).take k))) := ⟨Kd.R_below HOC.out HY.out⟩
              have fF := row_cellE HFD.out 0 _ rfl
              have HBb := Aside0.mk (Kd.C_below HB.out HBW.out)
              have hen := runM_bound HR.out (Int.le_refl 0) (by omega)
              clear hs1 HY HFC HOC HCC HNC
              by_cases fit : 0 ≤ en ∧ en ≤ q0 ∧ q0 ≤ b.length
              · have HSTEP : Aside0 (stepM b.length en ((l.map fo)[k]'(by rw [List.length_map]; exact hk)) = some q1) := ⟨by
                  rw [HFL.out]
                  exact step_good hpos (by rw [HQ.out]; rfl) HALL.out HNO.out fit.2.1⟩
                obtain ⟨f0, f1, f2⟩ := fit
                go_wp2_with fail
                refine (cutY_any _ Ab cb b en q0 HBb.out HCB.out f0 f1 f2).mono ?_
                rintro e w3 ⟨A3, c3, rfl, hle, hC, hb3⟩
                have hml := midL_len b en q0
                obtain ⟨md, hmd⟩ : ∃ md, midL b en q0 = md := ⟨_, rfl⟩
                have HMD := Aside0.mk hmd
                rw [hmd] at hle hC hml ⊢
                clear hmd
                have HRD : Aside0 (RdS kB w3 (.slice A3 md.length c3) md) := ⟨⟨A3, c3, rfl, hle, hC⟩⟩
                have HML : Aside0 (md.length * 1 ≤ 140737488355328) := ⟨by have := HN.out.1; omega⟩
                have HB3 : Aside0 (Below w0.heap.size w0 w3) := ⟨below_to HBW.out hb3⟩
                have HF3 := Aside0.mk (blk_below HFD.out hb3)
                have HO3 := Aside0.mk (Kd.R_below HOD.out hb3)
                clear hle hC hml hb3 hs0 fF HFD HOD HBb HBW f0 f1 f2
                go_wp2_with fail
                refine (cloneB_any _ _ md HRD.out HML.out).mono ?_
                rintro e w4 ⟨v4, rfl, ho4, hb4⟩
                obtain ⟨A4, c4, rfl⟩ := Kd.R_slice ho4
                have HB4 : Aside0 (Below w0.heap.size w0 w4) := ⟨below_to HB3.out hb4⟩
                have HF4 := Aside0.mk (blk_below HF3.out hb4)
                have HO4 := Aside0.mk (Kd.R_below HO3.out hb4)
                have HOV : Aside0 (Kd.R kB 5 w4 w0.heap.size (fun k => True ∧ some k ≠ u7.ownBlock) (.slice A4 md.length c4) md) := ⟨by
                  obtain ⟨inner, hin⟩ := Kd.R_own HO3.out
                  exact Kd.R_lower (Kd.R_new ho4 hin) HB3.out.size⟩
                clear ho4 hb4 HRD HB3 HF3 HO3
                go_wp2_with (at_builtin; refine Kd.R_append kBs (w0 := w0) w0.heap.size rfl (.tmp 71) (.tmp 74) 42 22 (.slice none 0 0) 24 rfl Tryd.underlying42 info22 rfl (by decide) (by omega) u7 (preG b 0 ((l.map fo).take k)) md [.slice A4 md.length c4] (fun _ => True) (fun k => True ∧ some k ≠ u7.ownBlock) rfl ?aX ⟨_, rfl, HOV.out⟩ (fun _ h => h) (fun _ _ => trivial) HO4.out HB4.out ?aS ?aL ?_)
                case aX => rfl
                case aS => exact HB4.out.size
                case aL =>
                  rw [preG_len, List.length_take, List.length_map]
                  have := HN.out.2
                  omega
                intro v5 w5 ho5 hb5 hg5 _
                have HO5 : Aside0 (Own kBs 22 w5 w0.heap.size v5 (preG b 0 ((l.map fo).take (k + 1)))) := ⟨by
                  have e := HFL.out
                  obtain ⟨s, t, hst⟩ := List.exists_cons_of_ne_nil (List.length_pos_iff.1 hpos)
                  rw [hst, List.map_cons] at e
                  rw [step_take b (by rw [List.length_map]; exact hk) e HR.out]
                  have hq : ss[0] = s := by simp [hst]
                  rw [HQ.out] at hq
                  rw [← hq]
                  show Own kBs _ w5 _ v5 (preG b 0 ((l.map fo).take k) ++ [midL b en q0])
                  rw [HMD.out]
                  exact ho5⟩
                have HB5 := Aside0.mk hb5
                have hs1 := pw_cell_below HB5.out HS1.out
                have HR5 : Aside0 (runM b.length 0 ((l.map fo).take (k + 1)) = some q1) := ⟨run_one (by rw [List.length_map]; exact hk) HR.out HSTEP.out⟩
                have fF := row_cellE (blk_grown HF4.out hg5 (Kd.R_ne HO4.out HF4.out (by decide))) 0 _ rfl
                clear ho5 hb5 hg5 HOV HO4 HF4 HB4
                go_wp2
                go_roundg (l.length - k - 1)
                case measure => have := HA.out; omega
                case rel => exact ⟨k + 1, q1, by go_num, rfl, ⟨by omega, by have := HA.out; omega⟩, HR5, HO5, HB5⟩
              · have HFIT := Aside0.mk fit
                go_wp2_with fail
                refine (cutN_any _ Ab cb b en q0 HBb.out HCB.out fit).mono ?_
                rintro e w3 ⟨rfl, hb3⟩
                have HB3 : Aside0 (Below w0.heap.size w0 w3) := ⟨below_to HBW.out hb3⟩
                clear hb3 hs0 fF HFD HOD HBb HBW fit
                go_wp2
                go_ret2
                refine .inr ⟨may_not (by rw [List.length_map]; exact hk) HR.out ?_, rfl, below_to HB1.out HB3.out⟩
                rw [HFL.out]
                exact step_late hpos (by rw [HQ.out]; exact fun h1 h2 => HFIT.out ⟨hen.1, h2, Int.le_trans h1.2.1 h1.2.2⟩)
    · have hkl : k = l.length := by have := HA.out; omega
      subst hkl
      have hr := HR.out
      rw [List.take_of_length_le (by rw [List.length_map]; exact Nat.le_refl _)] at hr
      have hO := HO.out
      rw [List.take_of_length_le (by rw [List.length_map]; exact Nat.le_refl _)] at hO
      have hend := run_end hr
      have hen := runM_bound hr (Int.le_refl 0) (by omega)
      have HMAY : Aside0 (mayL b.length 0 (l.map fo)) := ⟨(may_run _ _ _).2 (by rw [hr]; rfl)⟩
      have HG : Aside0 (gapsL b 0 (l.map fo) = preG b 0 (l.map fo) ++ [b.drop en.toNat]) := ⟨by rw [gaps_pre, hend]⟩
      have HOD := Aside0.mk hO
      clear hr hO hend HR HO
      obtain ⟨i0, hi0, _, hsz, _⟩ := info_parts info5
      have hcut := cut_from (P := Tryd.prog) 22 5 .i64 Tryd.underlying22 hi0 1 hsz Ab b.length cb en hen.1 hen.2
      have hd : Kd.C kB wr (if cb = en.toNat then Ab else Ab.map (·.add (en.toNat * 1))) (b.drop en.toNat).length (b.drop en.toNat) := Kd.C_drop (c := cb) (m := en.toNat) (Kd.C_below HB.out HX.out) (by omega) HCB.out
      have e1 : (b.drop en.toNat).length = b.length - en.toNat := by rw [List.length_drop]
      obtain ⟨A', hA'⟩ : ∃ A', (if cb = en.toNat then Ab else Ab.map (·.add (en.toNat * 1))) = A' := ⟨_, rfl⟩
      obtain ⟨c', hc'⟩ : ∃ c', cb - en.toNat = c' := ⟨_, rfl⟩
      obtain ⟨md, hmd⟩ : ∃ md, b.drop en.toNat = md := ⟨_, rfl⟩
      rw [hA'] at hcut hd
      rw [hc'] at hcut
      rw [hmd] at hd e1 HG
      rw [← e1] at hcut
      have HRD : Aside0 (RdS kB wr (.slice A' md.length c') md) := ⟨⟨A', c', rfl, by have := HCB.out; omega, hd⟩⟩
      have HML : Aside0 (md.length * 1 ≤ 140737488355328) := ⟨by have := HN.out.1; omega⟩
      clear hA' hc' hd hi0 hsz hmd e1
      go_wp2_with fail
      refine (cloneB_any _ _ md HRD.out HML.out).mono ?_
      rintro e w4 ⟨v4, rfl, ho4, hb4⟩
      obtain ⟨A4, c4, rfl⟩ := Kd.R_slice ho4
      have HB4 : Aside0 (Below w0.heap.size w0 w4) := ⟨below_to HX.out hb4⟩
      have HO4 := Aside0.mk (Kd.R_below HOD.out hb4)
      have HOV : Aside0 (Kd.R kB 5 w4 w0.heap.size (fun k => True ∧ some k ≠ u7.ownBlock) (.slice A4 md.length c4) md) := ⟨by
        obtain ⟨inner, hin⟩ := Kd.R_own HOD.out
        exact Kd.R_lower (Kd.R_new ho4 hin) HX.out.size⟩
      clear ho4 hb4 HRD HOD HX hcut
      go_wp2_with (at_builtin; refine Kd.R_append kBs (w0 := w0) w0.heap.size rfl (.tmp 82) (.tmp 87) 42 22 (.slice none 0 0) 24 rfl Tryd.underlying42 info22 rfl (by decide) (by omega) u7 (preG b 0 (l.map fo)) md [.slice A4 md.length c4] (fun _ => True) (fun k => True ∧ some k ≠ u7.ownBlock) rfl ?bX ⟨_, rfl, HOV.out⟩ (fun _ h => h) (fun _ _ => trivial) HO4.out HB4.out ?bS ?bL ?_)
      case bX => rfl
      case bS => exact HB4.out.size
      case bL =>
        rw [preG_len, List.length_map]
        have := HN.out.2
        omega
      intro v5 w5 ho5 hb5 hg5 _
      have HO5 : Aside0 (Own kBs 22 w5 w0.heap.size v5 (gapsL b 0 (l.map fo))) := ⟨by rw [HG.out]; exact ho5⟩
      have HB5 := Aside0.mk hb5
      clear ho5 hb5 hg5 HOV HO4 HB4
      go_wp2
      go_ret2
      exact .inl ⟨HMAY.out, ⟨_, rfl, Kd.R_lower HO5.out HB1.out.size⟩, below_to HB1.out HB5.out⟩

end Go.Proofs.YtaejogkinniakaaDoor
