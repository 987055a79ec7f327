/- Walk: edit.Replace. -/
import Derived.Test.YtaejogkinniakaaDoorEdI
import Derived.Test.YtaejogkinniakaaDoorEdV
import Derived.Test.YtaejogkinniakaaDoorEdM
namespace Go.Proofs.YtaejogkinniakaaDoor
set_option linter.unusedVariables false
set_option linter.unusedSimpArgs false
open Go.RowKit Go.Proofs.YtaejogkinniakaaDoorW.PrintWords Go.Proofs.YtaejogkinniakaaDoorW.PrintLast Go.Proofs.YtaejogkinniakaaDoorW.PrintMore Go.Proofs.YtaejogkinniakaaDoor.PEd

def expsL (b : List Int) (L : List (List Sp)) (ws : List Pt) : List (List Int) := L.map fun f => expandL b f ws
theorem join_step {G E : List (List Int)} {k : Nat} (hk : k < E.length) (hg : k < G.length) : joinL (G.drop k) (E.drop k) = G[k] ++ E[k] ++ joinL (G.drop (k + 1)) (E.drop (k + 1)) := by
  rw [List.drop_eq_getElem_cons hk, List.drop_eq_getElem_cons hg]
  rfl
theorem join_last {G E : List (List Int)} {k : Nat} (hk : E.length ≤ k) (hg : k < G.length) : joinL (G.drop k) (E.drop k) = G[k] := by
  rw [List.drop_of_length_le hk, List.drop_eq_getElem_cons hg]
  rfl
theorem join_none {G E : List (List Int)} {k : Nat} (hg : G.length ≤ k) : joinL (G.drop k) (E.drop k) = [] := by
  rw [List.drop_of_length_le hg]
  rfl
/-- What edit.Replace hands back. -/
def RetRep (b : List Int) (L : List (List Sp)) (ws : List Pt) (w : World) (e : Ending) (w' : World) : Prop :=
  (mayL b.length 0 L ∧ (∃ v, e = .returned (.tuple #[v, .int .i64 0]) ∧ Own kB 5 w' w.heap.size v (joinL (gapsL b 0 L) (expsL b L ws))) ∧ Below w.heap.size w w') ∨
  (¬ mayL b.length 0 L ∧ e = .returned (.tuple #[.slice none 0 0, .int .i64 1]) ∧ Below w.heap.size w w')
set_option maxHeartbeats 8000000 in
set_option maxRecDepth 100000 in
theorem replace_any (w : World) (Ab : Option Addr) (cb : Nat) (b : List Int) (Al : Option Addr) (cl : Nat) (l : List S56) (Aw : Option Addr) (cw : Nat) (wl : List S37) (N : Nat)
    (hb : Kd.C kB w Ab b.length b) (hcb : b.length ≤ cb) (hl : Kd.C k56 w Al l.length l) (hw : Kd.C k37 w Aw wl.length wl) (hn : b.length ≤ 1048576) (hm : l.length ≤ 1048576)
    (hN : b.length ≤ N) (hp : ∀ p ∈ wl, p.f0.length ≤ N) (hsz : wl.length * N ≤ 140737488355328) (hR : (joinL (gapsL b 0 (l.map fo)) (expsL b (l.map fo) (wl.map pt))).length ≤ 140737488355328) :
    Calls Tryd.prog 18 #[.slice Ab b.length cb, .slice Al l.length cl, .slice Aw wl.length cw] w (RetRep b (l.map fo) (wl.map pt) w) := by
  have HG := Aside0.mk (gaps_any w Ab cb b Al cl l hb hcb hl (by omega) hm)
  have HEXP := Aside0.mk (fun W (hW : Below w.heap.size w W) Af cf (f : List S46) (h : Kd.C k46 W Af f.length f) => expand_any W Aw cw wl Ab cb b Af cf f N (Kd.C_below hw hW) (Kd.C_below hb hW) hcb h hN hp hsz)
  have HL := Aside0.mk hl
  have HM := Aside0.mk hm
  have HR := Aside0.mk hR
  have hml := hm
  clear hb hl hw hn hm hN hp hsz hR hcb
  go_enter Tryd.func18, Tryd.ntmps18
  go_wp2_with fail
  refine HG.out.mono ?_
  rintro e w1 (⟨hmay, ⟨v, rfl, ho⟩, hb1⟩ | ⟨hmay, rfl, hb1⟩)
  · have HMAY := Aside0.mk hmay
    have HB1 := Aside0.mk hb1
    have hGl := gapsL_len b 0 (l.map fo)
    have hEl : (expsL b (l.map fo) (wl.map pt)).length = l.length := by unfold expsL; rw [List.length_map, List.length_map]
    have hEat : ∀ k (hk : k < l.length), (expsL b (l.map fo) (wl.map pt))[k]? = some (expandL b (l[k].f0.map sp) (wl.map pt)) := fun k hk => by
      unfold expsL
      rw [List.getElem?_map, List.getElem?_map, List.getElem?_eq_getElem hk]
      rfl
    rw [List.length_map] at hGl
    obtain ⟨G, hG⟩ : ∃ G, gapsL b 0 (l.map fo) = G := ⟨_, rfl⟩
    obtain ⟨E, hE⟩ : ∃ E, expsL b (l.map fo) (wl.map pt) = E := ⟨_, rfl⟩
    have HGE := Aside0.mk (And.intro hG hE)
    rw [hG, hE] at HR
    rw [hG] at ho hGl
    rw [hE] at hEl hEat
    obtain ⟨Ax, cx, rfl, hxl, hxC⟩ := Kd.R_reads ho
    have HXC := Aside0.mk hxC
    have HGL := Aside0.mk (And.intro hGl hEl)
    have HEAT := Aside0.mk hEat
    clear hmay hb1 ho hxl hxC hG hE hEl hEat
    rw [hGl]
    clear hGl
    go_wp2
    go_loopg [10, 23] (l.length + 1) (fun gk o i w' => ∃ (k : Nat) (out : List Int), i = .int .i64 (k : Int) ∧ Aside0 (k ≤ l.length + 1 ∧ gk = l.length + 1 - k) ∧ Aside0 (out ++ joinL (G.drop k) (E.drop k) = joinL G E) ∧ Aside0 (Own kB 5 w' w1.heap.size o out) ∧ Aside0 (Below w1.heap.size w1 w'))
    case atStart => exact ⟨0, [], by first | rfl | simp, ⟨Nat.zero_le _, rfl⟩, ⟨rfl⟩, ⟨Kd.R_nil _ _ _ _ _⟩, ⟨Below.refl _ _⟩⟩
    case round =>
      obtain ⟨k, out, rfl, HA, HJ, HO, HX⟩ := hrel
      by_cases hk : k < l.length + 1
      · obtain ⟨gx, A0, c0, e, hxa, hxl, hxC⟩ := at_L2 HXC.out (k : Int) (by omega) (by have := HGL.out.1; omega)
        subst e
        have hkg : k < G.length := by have := HGL.out.1; omega
        have hrd : rd_L2 G (k : Int) = G[k] := by
          unfold rd_L2
          rw [Int.toNat_natCast]
          simp [hkg]
        rw [hrd, Int.toNat_natCast] at hxa
        rw [hrd] at hxl hxC
        have HJL := Aside0.mk (fun h => HJ.out.symm.trans (congrArg (out ++ ·) (join_last (G := G) (E := E) h hkg)))
        have HJS := Aside0.mk (fun h => HJ.out.symm.trans (congrArg (out ++ ·) (join_step (G := G) (E := E) h hkg)))
        obtain ⟨G1, hG1⟩ : ∃ G1, G[k] = G1 := ⟨_, rfl⟩
        rw [hG1] at hxa hxl hxC HJL HJS
        clear hG1 hrd
        replace hxa := pw_cell_below HX.out hxa
        have HC1 := Aside0.mk (Kd.C_below hxC HX.out)
        have HLO : Aside0 (out.length + G1.length ≤ 140737488355328) := ⟨by
          have h := HR.out
          by_cases hkl : E.length ≤ k
          · rw [HJL.out hkl] at h
            rw [List.length_append] at h
            exact h
          · rw [HJS.out (by omega)] at h
            simp only [List.length_append] at h
            omega⟩
        clear hxC hxl
        have hkd : decide ((k : Int) < (l.length : Int) + 1) = true := decide_eq_true (by omega)
        by_cases hkl : k < l.length
        · have hkld : decide ((k : Int) < (l.length : Int)) = true := decide_eq_true (by omega)
          obtain ⟨ad, Af, cf, e, hf0, hfl, hfC⟩ := at_T56 HL.out (k : Int) (by omega) (by omega)
          subst e
          rw [rd56_at hkl] at hf0 hfl hfC
          have hEl2 : k < E.length := by rw [HGL.out.2]; exact hkl
          have hE1 : E[k] = expandL b (l[k].f0.map sp) (wl.map pt) := Option.some.inj ((List.getElem?_eq_getElem hEl2).symm.trans (HEAT.out k hkl))
          have hJS := HJS.out hEl2
          rw [hE1] at hJS
          obtain ⟨q, hq⟩ : ∃ q, l[k] = q := ⟨_, rfl⟩
          rw [hq] at hf0 hfl hfC hJS
          clear hq hE1 hEl2
          obtain ⟨ss⟩ := q
          simp only [Int.toNat_natCast] at hf0 hfl hfC hJS
          obtain ⟨ex, hex⟩ : ∃ ex, expandL b (ss.map sp) (wl.map pt) = ex := ⟨_, rfl⟩
          have HJS2 := Aside0.mk hJS
          have HEX := Aside0.mk hex
          rw [hex] at HJS2
          have HL2 : Aside0 (out.length + G1.length + ex.length ≤ 140737488355328) := ⟨by
            have h := HR.out
            rw [HJS2.out] at h
            simp only [List.length_append] at h
            omega⟩
          clear HJL HJS hJS hex
          have HF0 := Aside0.mk (pw_cell_below HB1.out hf0)
          have HFC := Aside0.mk hfC
          clear hf0 hfl hfC
          go_wp2_with (at_builtin; refine Kd.R_append_rows kB (w0 := w1) w1.heap.size rfl (.tmp 28) (.tmp 29) 22 5 (.int .u8 0) 1 rfl Tryd.underlying22 info5 rfl (by decide) (by omega) u10 out G1 A0 G1.length c0 (fun _ => True) (fun _ => False) rfl rfl HO.out HC1.out (fun _ _ h => h) (fun _ h => h.elim) (fun _ _ => trivial) HX.out HX.out.size ?aL1 ?_)
          case aL1 => have := HLO.out; omega
          intro v3 w3 ho3 hb3 hg3 hat3
          have HO3 := Aside0.mk ho3
          have HB3 := Aside0.mk hb3
          have HW3 : Aside0 (Below w.heap.size w w3) := ⟨below_to HB1.out hb3⟩
          have hf0 := pw_cell_below hb3 HF0.out
          have HE3 := Aside0.mk (HEXP.out w3 HW3.out Af cf ss (Kd.C_below HFC.out HW3.out))
          rw [HEX.out] at HE3
          clear ho3 hb3 hg3 hat3 hxa HLO HC1
          go_wp2_with fail
          refine HE3.out.mono ?_
          rintro e w4 ⟨v4, rfl, ho4, hb4⟩
          obtain ⟨A4, c4, rfl, hle4, hC4⟩ := Kd.R_reads ho4
          have HC4 := Aside0.mk hC4
          have HO4 := Aside0.mk (Kd.R_below HO3.out hb4)
          have HB4 : Aside0 (Below w1.heap.size w1 w4) := ⟨below_to HB3.out hb4⟩
          clear ho4 hb4 hle4 hC4 hf0 HE3
          go_wp2_with (at_builtin; refine Kd.R_append_rows kB (w0 := w1) w1.heap.size rfl (.tmp 35) (.tmp 42) 22 5 (.int .u8 0) 1 rfl Tryd.underlying22 info5 rfl (by decide) (by omega) v3 (out ++ G1) ex A4 ex.length c4 (fun _ => True) (fun _ => False) rfl rfl HO4.out HC4.out (fun _ _ h => h) (fun _ h => h.elim) (fun _ _ => trivial) HB4.out HB4.out.size ?aL2 ?_)
          case aL2 => have := HL2.out; rw [List.length_append]; omega
          intro v5 w5 ho5 hb5 hg5 hat5
          have HJ5 : Aside0 ((out ++ G1 ++ ex) ++ joinL (G.drop (k + 1)) (E.drop (k + 1)) = joinL G E) := ⟨by rw [HJS2.out]; simp only [List.append_assoc]⟩
          have HO5 : Aside0 (Own kB 5 w5 w1.heap.size v5 (out ++ G1 ++ ex)) := ⟨by rw [List.append_assoc]; exact ho5⟩
          have HB5 := Aside0.mk hb5
          clear ho5 hb5 hg5 hat5 HO4 HC4
          go_wp2
          go_roundg (l.length + 1 - k - 1)
          case measure => have := HA.out; omega
          case rel => exact ⟨k + 1, out ++ G1 ++ ex, by go_num, ⟨by omega, by omega⟩, HJ5, HO5, HB5⟩
        · have hkld : decide ((k : Int) < (l.length : Int)) = false := decide_eq_false (by omega)
          have HJ5 : Aside0 ((out ++ G1) ++ joinL (G.drop (k + 1)) (E.drop (k + 1)) = joinL G E) := ⟨by
            rw [join_none (by have := HGL.out.1; omega), List.append_nil, HJL.out (by rw [HGL.out.2]; omega)]⟩
          clear HJL HJS
          go_wp2_with (at_builtin; refine Kd.R_append_rows kB (w0 := w1) w1.heap.size rfl (.tmp 28) (.tmp 29) 22 5 (.int .u8 0) 1 rfl Tryd.underlying22 info5 rfl (by decide) (by omega) u10 out G1 A0 G1.length c0 (fun _ => True) (fun _ => False) rfl rfl HO.out HC1.out (fun _ _ h => h) (fun _ h => h.elim) (fun _ _ => trivial) HX.out HX.out.size ?bL1 ?_)
          case bL1 => have := HLO.out; omega
          intro v3 w3 ho3 hb3 hg3 hat3
          have HO3 := Aside0.mk ho3
          have HB3 := Aside0.mk hb3
          clear ho3 hb3 hg3 hat3 hxa HLO HC1
          go_wp2
          go_roundg (l.length + 1 - k - 1)
          case measure => have := HA.out; omega
          case rel => exact ⟨k + 1, out ++ G1, by go_num, ⟨by omega, by omega⟩, HJ5, HO3, HB3⟩
      · have hout : out = joinL G E := by
          have h := HJ.out
          rw [join_none (by have := HGL.out.1; omega), List.append_nil] at h
          exact h
        have HOUT := Aside0.mk hout
        clear hout
        go_wp2
        go_ret2
        refine .inl ⟨HMAY.out, ⟨_, rfl, ?_⟩, below_to HB1.out HX.out⟩
        rw [HGE.out.1, HGE.out.2, ← HOUT.out]
        exact Kd.R_lower HO.out HB1.out.size
  · have HMAY := Aside0.mk hmay
    have HB1 := Aside0.mk hb1
    clear hmay hb1
    go_wp2
    go_ret2
    exact .inr ⟨HMAY.out, rfl, HB1.out⟩

end Go.Proofs.YtaejogkinniakaaDoor
