/- Walk of the reference: edges. -/
import Derived.Test.YtpgnfccamcefgabRgJ
import Derived.Test.YtpgnfccamcefgabRgEdge
import Derived.Test.YtpgnfccamcefgabWMore
namespace Go.Proofs.Ytpgnfccamcefgab
set_option linter.unusedVariables false
set_option linter.unusedSimpArgs false
open Go.RowKit Go.Proofs.YtpgnfccamcefgabW.PrintWords Go.Proofs.YtpgnfccamcefgabW.PrintLast Go.Proofs.YtpgnfccamcefgabW.PrintMore

theorem R_litI (e base : Nat) (w : World) (x : Int) (hb : base ≤ w.heap.size) : Own (Kd.int .i64) e (w.alloc (.cells #[.int .i64 x] e)) base (.slice (some ⟨w.heap.size, 0, none⟩) 1 1) [x] :=
  ⟨fun _ _ => trivial, OwnRow.lit (ps := [x]) (inner := [.int .i64 x]) w base ⟨rfl, fun j p hj => by
    match j, hj with
    | 0, hj => cases hj; exact rfl⟩ hb (by simp)⟩
/-- A cell of a block laid but one to the last, behind an append to an elder row. -/
theorem cell_after2 {α : Type} {d : Kd α} {e : Nat} {W w2 : World} {base : Nat} {ok : Nat → Prop} {u : Value} {xs : List α} (h : d.R e W base ok u xs) {cs : Array Value} {t : Nat} {o : Obj} (hg : ((W.alloc (.cells cs t)).alloc o).grownBy w2 u.ownBlock) (j : Nat) (v : Value) (hj : cs[j]? = some v) :
    w2.cell? ⟨W.heap.size, j, none⟩ = some v := by
  refine hg.cell ?_ ?_
  · rw [Below.cell (below_alloc (Below.refl (W.alloc (.cells cs t)).heap.size _) o) (by simp), World.cell?_alloc_at _ _ _ _ rfl]
    exact hj
  · intro hh
    have := Kd.R_lt h _ hh.symm
    simp at this
/-- Two rows of one's own in blocks apart. -/
def Apart2 (x T : Value) : Prop := ∀ b, T.ownBlock = some b → x.ownBlock ≠ some b
theorem Apart2.after {x v1 T : Value} {N : Nat} (h : Apart2 x T) (hT : ∀ b, T.ownBlock = some b → b < N) (hv : v1.ownBlock = x.ownBlock ∨ ∃ b, v1.ownBlock = some b ∧ N ≤ b) : Apart2 v1 T := by
  intro b hb hh
  rcases hv with hv | ⟨c, hv, hc⟩
  · exact h b hb (hv ▸ hh)
  · rw [hv] at hh
    have := hT b hb
    cases hh
    omega


theorem R_lit0k {α : Type} (d : Kd α) (e base : Nat) (w : World) (ok : Nat → Prop) (hb : base ≤ w.heap.size) (hok : ok w.heap.size) : d.R e (w.alloc (.cells #[] e)) base ok (.slice (some ⟨w.heap.size, 0, none⟩) 0 0) [] := by
  refine ⟨fun k hk => ?_, OwnRow.lit (ps := []) (inner := []) w base (Reps.none _ _) hb (by simp)⟩
  have h1 : w.heap.size = k := by simpa [Value.ownBlock] using hk
  exact h1 ▸ hok

set_option maxHeartbeats 4000000 in
set_option maxRecDepth 100000 in
theorem edges_any (w : World) (v u : Value) (l m : List Rg) (h : RdS kR w v l) (h' : RdS kR w u m) (hl : (l.length + m.length) * 64 ≤ 1407374883553) :
    Calls Try.prog 30 #[v, u] w (RetOwn (Kd.int .i64) 3 (Rise (edgesL (l ++ m))) w) := by
  have HL := Aside0.mk hl
  obtain ⟨A, c, rfl, hc, hr⟩ := h
  obtain ⟨B, c', rfl, hc', hr'⟩ := h'
  have HR := Aside0.mk hr
  have HR' := Aside0.mk hr'
  have hle : l.length ≤ 9223372036854775807 := by omega
  have hme : m.length ≤ 9223372036854775807 := by omega
  clear hl hc hr hc' hr'
  have HX : Aside0 (Own (Kd.int .i64) 3 (w.alloc (.cells #[.int .i64 0] 3)) w.heap.size (.slice (some ⟨w.heap.size, 0, none⟩) 1 1) [0]) := ⟨R_litI _ _ _ _ (Nat.le_refl _)⟩
  have HT0 : Aside0 (kR.R 49 ((w.alloc (.cells #[.int .i64 0] 3)).alloc (.cells #[] 49)) w.heap.size (fun k => w.heap.size < k) (.slice (some ⟨(w.alloc (.cells #[.int .i64 0] 3)).heap.size, 0, none⟩) 0 0) []) := ⟨R_lit0k kR _ _ _ _ (by simp) (by simp)⟩
  have HB0 : Aside0 (Below w.heap.size w ((w.alloc (.cells #[.int .i64 0] 3)).alloc (.cells #[] 49))) := ⟨below_alloc (below_alloc (Below.refl _ _) _) _⟩
  go_enter Try.func30, Try.ntmps30
  go_wp2_with (at_builtin; refine Kd.R_append_rows kR (w0 := w) w.heap.size rfl (.tmp 9) (.tmp 10) 29 49 (.agg #[(.int .i64 0), (.int .i64 0)]) 16 rfl Try.underlying29 Try.infoR rfl (by decide) (by omega) (.slice (some ⟨(w.alloc (.cells #[.int .i64 0] 3)).heap.size, 0, none⟩) 0 0) [] l A l.length c (fun k => w.heap.size < k) (fun _ => False) ?aV rfl HT0.out (Kd.C_below HR.out HB0.out) (fun _ _ h => h) (fun _ h => h.elim) ?aF HB0.out ?aS ?aL ?_)
  case aV => exact slice_new _ _ _ _
  case aF => intro k hk; simp at hk; omega
  case aS => simp; omega
  case aL => have h3 := HL.out; simp; omega
  intro v1 w1 ho hb hg hv
  have HX1 : Aside0 (Own (Kd.int .i64) 3 w1 w.heap.size (.slice (some ⟨w.heap.size, 0, none⟩) 1 1) [0]) := ⟨Kd.R_grown2 (Kd.R_alloc HX.out _) rfl hg (fun k hk hh => by simp [Value.ownBlock] at hk hh; omega)⟩
  have HT1 := Aside0.mk ho
  have HB1 := Aside0.mk hb
  clear ho hb hg hv HX HT0 HB0
  go_wp2_with (at_builtin; refine Kd.R_append_rows kR (w0 := w) w.heap.size rfl (.tmp 11) (.tmp 12) 29 49 (.agg #[(.int .i64 0), (.int .i64 0)]) 16 rfl Try.underlying29 Try.infoR rfl (by decide) (by omega) _ l m B m.length c' (fun k => w.heap.size < k) (fun _ => False) rfl rfl HT1.out (Kd.C_below HR'.out HB1.out) (fun _ _ h => h) (fun _ h => h.elim) ?aF HB1.out HB1.out.size ?aL ?_)
  case aF => intro k hk; have := Below.size HB1.out; have h2 := Kd.R_lt HX1.out w.heap.size (by simp [Value.ownBlock]); omega
  case aL => have h3 := HL.out; omega
  intro v2 w2 ho hb hg hv
  obtain ⟨L, hL⟩ : ∃ L, l ++ m = L := ⟨_, rfl⟩
  have HLL : Aside0 (L.length = l.length + m.length) := ⟨by rw [← hL]; simp⟩
  rw [hL] at ho ⊢
  have HX2 : Aside0 (Own (Kd.int .i64) 3 w2 w.heap.size (.slice (some ⟨w.heap.size, 0, none⟩) 1 1) [0]) := ⟨Kd.R_grown2 HX1.out rfl hg (fun k hk hh => by have := HT1.out.1 k hk; simp [Value.ownBlock] at hh; omega)⟩
  have HAP : Aside0 (Apart2 (.slice (some ⟨w.heap.size, 0, none⟩) 1 1) v2) := ⟨fun b hb hh => by have := ho.1 b hb; simp [Value.ownBlock] at hh; omega⟩
  have HLE := Aside0.mk hL
  have HT2 := Aside0.mk ho
  have HB2 := Aside0.mk hb
  obtain ⟨AT, cT, rfl⟩ := Kd.R_slice ho
  have hLe : L.length ≤ 9223372036854775807 := by have h1 := HLL.out; have h2 := HL.out; omega
  clear ho hb hg hv HX1 HT1 HB1 hL
  go_wp2
  go_loopg [5, 15] L.length (fun g x i w' => ∃ k : Nat, i = .int .i64 k ∧ Aside0 (k ≤ L.length ∧ g = L.length - k) ∧ Aside0 (Own (Kd.int .i64) 3 w' w.heap.size x (edgesL (L.take k))) ∧ Aside0 (kR.R 49 w' w.heap.size (fun k => w.heap.size < k) (.slice AT L.length cT) L) ∧ Aside0 (Apart2 x (.slice AT L.length cT)) ∧ Aside0 (Below w.heap.size w w'))
  case atStart => exact ⟨0, by first | rfl | simp, ⟨Nat.zero_le _, rfl⟩, HX2, HT2, HAP, HB2⟩
  case round =>
    clear HX2 HT2 HAP HB2
    obtain ⟨k, rfl, HA, HO, HT, HAP, HB⟩ := hrel
    by_cases hk : k < L.length
    · obtain ⟨g, cap, hgv, hg1, hg2, -⟩ := Kd.R_form HT.out (by omega)
      cases hgv
      obtain ⟨hx0, hx1, -, -⟩ := own_atR (Kd.R_mono HT.out (fun _ _ => trivial)) k hk
      have HE : Aside0 (edgesL (L.take (k + 1)) = edgesL (L.take k) ++ edgeLo L[k] ++ edgeHi L[k] ∧ (edgesL (L.take k)).length ≤ 2 * k + 1 ∧ k < L.length) := ⟨by rw [List.take_succ_eq_append_getElem hk, edgesL_snoc], Nat.le_trans (edgesL_len _) (by rw [List.length_take]; omega), hk⟩
      have HTlt : Aside0 (∀ b, (Value.slice (some ⟨g, 0, none⟩) L.length cT).ownBlock = some b → b < wr.heap.size) := ⟨fun b hb => Kd.R_lt HT.out b hb⟩
      obtain ⟨p, hp⟩ : ∃ p, L[k] = p := ⟨_, rfl⟩
      obtain ⟨E, hE⟩ : ∃ E, edgesL (L.take k) = E := ⟨_, rfl⟩
      rw [hp] at hx0 hx1 HE
      rw [hE] at HE HO
      clear hp hE
      by_cases h1 : 0 < p.1
      · by_cases h2 : p.1 ≤ 1114111
        · have HE1 : Aside0 (edgeLo p = [p.1]) := ⟨by unfold edgeLo; rw [if_pos ⟨h1, h2⟩]⟩
          go_wp2_with (at_builtin; refine Kd.R_append (Kd.int .i64) (w0 := w) w.heap.size rfl (.tmp 27) (.tmp 30) 24 3 (.int .i64 0) 8 rfl Try.underlying24 Try.infoInt rfl (by decide) (by omega) _ E (p.1) [.int .i64 (p.1)] (fun _ => True) (fun _ => False) rfl ?aX1 (int_mkM _ _ _ _ (p.1)) (fun _ h => h.elim) (fun _ _ => trivial) ?aO1 ?aB1 ?aS1 ?aL1 ?_)
          try (case aX1 => first | rfl | exact slice_new _ _ _ _)
          case aO1 => exact Kd.R_alloc HO.out _
          case aB1 => exact below_alloc HB.out _
          case aS1 => first | exact size_le_alloc HB.out.size _ | exact Nat.le_succ_of_le HB.out.size
          case aL1 => have h3 := HE.out; have h4 := HLL.out; have h5 := HL.out; omega
          intro v1 w1 ho hb hg hv
          have hc1 := cell_after HO.out hg 1 _ rfl
          have HO1 := Aside0.mk ho
          have HB1 := Aside0.mk hb
          have HT1 : Aside0 (kR.R 49 w1 w.heap.size (fun k => w.heap.size < k) (.slice (some ⟨g, 0, none⟩) L.length cT) L) := ⟨Kd.R_grown2 (Kd.R_alloc HT.out _) rfl hg (fun k hk hh => HAP.out k hh.symm hk)⟩
          have HAP1 : Aside0 (Apart2 v1 (.slice (some ⟨g, 0, none⟩) L.length cT)) := ⟨HAP.out.after (fun b hb => by have := HTlt.out b hb; omega) hv⟩
          have HTlt1 : Aside0 (∀ b, (Value.slice (some ⟨g, 0, none⟩) L.length cT).ownBlock = some b → b < w1.heap.size) := ⟨fun b hb => Kd.R_lt HT1.out b hb⟩
          clear ho hb hg hv HO HB HT HAP HTlt
          by_cases h3 : 0 ≤ p.2
          · by_cases h4 : p.2 < 1114111
            · have HE2 : Aside0 (edgeHi p = [p.2 + 1]) := ⟨by unfold edgeHi; rw [if_pos ⟨h3, h4⟩]⟩
              go_wp2_with (at_builtin; refine Kd.R_append (Kd.int .i64) (w0 := w) w.heap.size rfl (.tmp 40) (.tmp 44) 24 3 (.int .i64 0) 8 rfl Try.underlying24 Try.infoInt rfl (by decide) (by omega) _ (E ++ [p.1]) (p.2 + 1) [.int .i64 (p.2 + 1)] (fun _ => True) (fun _ => False) rfl ?aX2 (int_mkM _ _ _ _ (p.2 + 1)) (fun _ h => h.elim) (fun _ _ => trivial) ?aO2 ?aB2 ?aS2 ?aL2 ?_)
              try (case aX2 => first | rfl | exact slice_new _ _ _ _)
              case aO2 => exact HO1.out
              case aB2 => exact HB1.out
              case aS2 => exact HB1.out.size
              case aL2 => have h3 := HE.out; have h4 := HLL.out; have h5 := HL.out; simp; omega
              intro v4 w4 ho hb hg hv
              have HO4 := Aside0.mk ho
              have HB4 := Aside0.mk hb
              have HT4 : Aside0 (kR.R 49 w4 w.heap.size (fun k => w.heap.size < k) (.slice (some ⟨g, 0, none⟩) L.length cT) L) := ⟨Kd.R_grown2 (HT1.out) rfl hg (fun k hk hh => HAP1.out k hh.symm hk)⟩
              have HAP4 : Aside0 (Apart2 v4 (.slice (some ⟨g, 0, none⟩) L.length cT)) := ⟨HAP1.out.after (fun b hb => HTlt1.out b hb) hv⟩
              clear ho hb hg hv
              go_wp2
              go_roundg (gk - 1)
              case measure => have := HA.out; omega
              case rel => exact ⟨k + 1, by go_num, ⟨by have := HE.out; omega, by have := HA.out; omega⟩, ⟨by rw [HE.out.1, HE1.out, HE2.out]; simpa using HO4.out⟩, ⟨HT4.out⟩, ⟨HAP4.out⟩, ⟨HB4.out⟩⟩
            · have HE2 : Aside0 (edgeHi p = []) := ⟨by unfold edgeHi; rw [if_neg (by omega)]⟩
              go_wp2
              go_roundg (gk - 1)
              case measure => have := HA.out; omega
              case rel => exact ⟨k + 1, by go_num, ⟨by have := HE.out; omega, by have := HA.out; omega⟩, ⟨by rw [HE.out.1, HE1.out, HE2.out]; simpa using HO1.out⟩, ⟨HT1.out⟩, ⟨HAP1.out⟩, ⟨HB1.out⟩⟩
          · have HE2 : Aside0 (edgeHi p = []) := ⟨by unfold edgeHi; rw [if_neg (by omega)]⟩
            go_wp2
            go_roundg (gk - 1)
            case measure => have := HA.out; omega
            case rel => exact ⟨k + 1, by go_num, ⟨by have := HE.out; omega, by have := HA.out; omega⟩, ⟨by rw [HE.out.1, HE1.out, HE2.out]; simpa using HO1.out⟩, ⟨HT1.out⟩, ⟨HAP1.out⟩, ⟨HB1.out⟩⟩
        · have HE1 : Aside0 (edgeLo p = []) := ⟨by unfold edgeLo; rw [if_neg (by omega)]⟩
          by_cases h3 : 0 ≤ p.2
          · by_cases h4 : p.2 < 1114111
            · have HE2 : Aside0 (edgeHi p = [p.2 + 1]) := ⟨by unfold edgeHi; rw [if_pos ⟨h3, h4⟩]⟩
              go_wp2_with (at_builtin; refine Kd.R_append (Kd.int .i64) (w0 := w) w.heap.size rfl (.tmp 40) (.tmp 44) 24 3 (.int .i64 0) 8 rfl Try.underlying24 Try.infoInt rfl (by decide) (by omega) _ E (p.2 + 1) [.int .i64 (p.2 + 1)] (fun _ => True) (fun _ => False) rfl ?aX3 (int_mkM _ _ _ _ (p.2 + 1)) (fun _ h => h.elim) (fun _ _ => trivial) ?aO3 ?aB3 ?aS3 ?aL3 ?_)
              try (case aX3 => first | rfl | exact slice_new _ _ _ _)
              case aO3 => exact Kd.R_alloc HO.out _
              case aB3 => exact below_alloc HB.out _
              case aS3 => first | exact size_le_alloc HB.out.size _ | exact Nat.le_succ_of_le HB.out.size
              case aL3 => have h3 := HE.out; have h4 := HLL.out; have h5 := HL.out; simp; omega
              intro v4 w4 ho hb hg hv
              have HO4 := Aside0.mk ho
              have HB4 := Aside0.mk hb
              have HT4 : Aside0 (kR.R 49 w4 w.heap.size (fun k => w.heap.size < k) (.slice (some ⟨g, 0, none⟩) L.length cT) L) := ⟨Kd.R_grown2 (Kd.R_alloc HT.out _) rfl hg (fun k hk hh => HAP.out k hh.symm hk)⟩
              have HAP4 : Aside0 (Apart2 v4 (.slice (some ⟨g, 0, none⟩) L.length cT)) := ⟨HAP.out.after (fun b hb => by have := HTlt.out b hb; omega) hv⟩
              clear ho hb hg hv
              go_wp2
              go_roundg (gk - 1)
              case measure => have := HA.out; omega
              case rel => exact ⟨k + 1, by go_num, ⟨by have := HE.out; omega, by have := HA.out; omega⟩, ⟨by rw [HE.out.1, HE1.out, HE2.out]; simpa using HO4.out⟩, ⟨HT4.out⟩, ⟨HAP4.out⟩, ⟨HB4.out⟩⟩
            · have HE2 : Aside0 (edgeHi p = []) := ⟨by unfold edgeHi; rw [if_neg (by omega)]⟩
              go_wp2
              go_roundg (gk - 1)
              case measure => have := HA.out; omega
              case rel => exact ⟨k + 1, by go_num, ⟨by have := HE.out; omega, by have := HA.out; omega⟩, ⟨by rw [HE.out.1, HE1.out, HE2.out]; simpa using Kd.R_alloc HO.out _⟩, ⟨Kd.R_alloc HT.out _⟩, ⟨HAP.out⟩, ⟨below_alloc HB.out _⟩⟩
          · have HE2 : Aside0 (edgeHi p = []) := ⟨by unfold edgeHi; rw [if_neg (by omega)]⟩
            go_wp2
            go_roundg (gk - 1)
            case measure => have := HA.out; omega
            case rel => exact ⟨k + 1, by go_num, ⟨by have := HE.out; omega, by have := HA.out; omega⟩, ⟨by rw [HE.out.1, HE1.out, HE2.out]; simpa using Kd.R_alloc HO.out _⟩, ⟨Kd.R_alloc HT.out _⟩, ⟨HAP.out⟩, ⟨below_alloc HB.out _⟩⟩
      · have HE1 : Aside0 (edgeLo p = []) := ⟨by unfold edgeLo; rw [if_neg (by omega)]⟩
        by_cases h3 : 0 ≤ p.2
        · by_cases h4 : p.2 < 1114111
          · have HE2 : Aside0 (edgeHi p = [p.2 + 1]) := ⟨by unfold edgeHi; rw [if_pos ⟨h3, h4⟩]⟩
            go_wp2_with (at_builtin; refine Kd.R_append (Kd.int .i64) (w0 := w) w.heap.size rfl (.tmp 40) (.tmp 44) 24 3 (.int .i64 0) 8 rfl Try.underlying24 Try.infoInt rfl (by decide) (by omega) _ E (p.2 + 1) [.int .i64 (p.2 + 1)] (fun _ => True) (fun _ => False) rfl ?aX4 (int_mkM _ _ _ _ (p.2 + 1)) (fun _ h => h.elim) (fun _ _ => trivial) ?aO4 ?aB4 ?aS4 ?aL4 ?_)
            try (case aX4 => first | rfl | exact slice_new _ _ _ _)
            case aO4 => exact Kd.R_alloc HO.out _
            case aB4 => exact below_alloc HB.out _
            case aS4 => first | exact size_le_alloc HB.out.size _ | exact Nat.le_succ_of_le HB.out.size
            case aL4 => have h3 := HE.out; have h4 := HLL.out; have h5 := HL.out; simp; omega
            intro v4 w4 ho hb hg hv
            have HO4 := Aside0.mk ho
            have HB4 := Aside0.mk hb
            have HT4 : Aside0 (kR.R 49 w4 w.heap.size (fun k => w.heap.size < k) (.slice (some ⟨g, 0, none⟩) L.length cT) L) := ⟨Kd.R_grown2 (Kd.R_alloc HT.out _) rfl hg (fun k hk hh => HAP.out k hh.symm hk)⟩
            have HAP4 : Aside0 (Apart2 v4 (.slice (some ⟨g, 0, none⟩) L.length cT)) := ⟨HAP.out.after (fun b hb => by have := HTlt.out b hb; omega) hv⟩
            clear ho hb hg hv
            go_wp2
            go_roundg (gk - 1)
            case measure => have := HA.out; omega
            case rel => exact ⟨k + 1, by go_num, ⟨by have := HE.out; omega, by have := HA.out; omega⟩, ⟨by rw [HE.out.1, HE1.out, HE2.out]; simpa using HO4.out⟩, ⟨HT4.out⟩, ⟨HAP4.out⟩, ⟨HB4.out⟩⟩
          · have HE2 : Aside0 (edgeHi p = []) := ⟨by unfold edgeHi; rw [if_neg (by omega)]⟩
            go_wp2
            go_roundg (gk - 1)
            case measure => have := HA.out; omega
            case rel => exact ⟨k + 1, by go_num, ⟨by have := HE.out; omega, by have := HA.out; omega⟩, ⟨by rw [HE.out.1, HE1.out, HE2.out]; simpa using Kd.R_alloc HO.out _⟩, ⟨Kd.R_alloc HT.out _⟩, ⟨HAP.out⟩, ⟨below_alloc HB.out _⟩⟩
        · have HE2 : Aside0 (edgeHi p = []) := ⟨by unfold edgeHi; rw [if_neg (by omega)]⟩
          go_wp2
          go_roundg (gk - 1)
          case measure => have := HA.out; omega
          case rel => exact ⟨k + 1, by go_num, ⟨by have := HE.out; omega, by have := HA.out; omega⟩, ⟨by rw [HE.out.1, HE1.out, HE2.out]; simpa using Kd.R_alloc HO.out _⟩, ⟨Kd.R_alloc HT.out _⟩, ⟨HAP.out⟩, ⟨below_alloc HB.out _⟩⟩
    · have HF : Aside0 (edgesL (L.take k) = edgesL L) := ⟨by rw [List.take_of_length_le (by omega)]⟩
      rw [HF.out] at HO
      have HS := Aside0.mk (sorted_any w wr u5 (edgesL L) HB.out HO.out (by have h1 := edgesL_len L; have h2 := HLL.out; have h3 := HL.out; omega))
      go_wp2_with fail
      refine HS.out.mono ?_
      rintro e w3 ⟨v3, r, rfl, hq, ho, hb⟩
      have HF2 := Aside0.mk hq
      have HO3 := Aside0.mk ho
      have HB3 := Aside0.mk hb
      clear hq ho hb HS
      go_wp2
      go_ret
      exact ⟨_, _, rfl, by rw [HLE.out]; exact HF2.out, HO3.out, HB3.out⟩

end Go.Proofs.Ytpgnfccamcefgab
