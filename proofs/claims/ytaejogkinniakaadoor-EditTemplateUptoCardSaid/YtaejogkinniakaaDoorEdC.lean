/- What the printed functions of parts and of the reference's Expand come to. -/
import Derived.Test.YtaejogkinniakaaDoorEdB
namespace Go.Proofs.YtaejogkinniakaaDoor
set_option linter.unusedVariables false
set_option linter.unusedSimpArgs false
open Go.RowKit Go.Proofs.YtaejogkinniakaaDoorW.PrintWords Go.Proofs.YtaejogkinniakaaDoorW.PrintLast Go.Proofs.YtaejogkinniakaaDoorW.PrintMore Go.Proofs.YtaejogkinniakaaDoor.PEd

theorem heap33 : Kd.Heap k37 := Kd.heap_iso _ (Kd.heap_pair (Kd.heap_slice 5 (Kd.heap_int .u8)) (Kd.heap_int .i64))
theorem w64_in (n : Int) (h : -9223372036854775808 ≤ n ∧ n ≤ 9223372036854775807) : wrap64 n = n := by unfold wrap64; omega
def to85 (x : S37) : S68 := ⟨x.f0, x.f1⟩
def pt85 (x : S68) : Pt := (x.f0, x.f1)
theorem map_to (l : List S37) : (l.map to85).map pt85 = l.map pt := by
  rw [List.map_map]
  rfl
theorem parts_l0 (l : List S37) (hl : l.length ≤ 1048576) : ∀ m j, j + m = l.length → rubricatorlaw22_parts.l0 (m + 1) ((l.take j).map to85) l (l.length : Int) (j : Int) = some (l.map to85)
  | 0, j, h => by
    have hj : j = l.length := by omega
    subst hj
    unfold rubricatorlaw22_parts.l0
    rw [if_neg (by omega), List.take_length]
  | m + 1, j, h => by
    have hj : j < l.length := by omega
    have ih := parts_l0 l hl m (j + 1) (by omega)
    have ht : (l.take (j + 1)).map to85 = (l.take j).map to85 ++ [(⟨(rd_T37 l (j : Int)).f0, (rd_T37 l (j : Int)).f1⟩ : S68)] := by
      rw [List.take_succ_eq_append_getElem hj, List.map_append, List.map_singleton, rd33_at hj]
      rfl
    unfold rubricatorlaw22_parts.l0
    rw [if_pos (by omega), if_pos (by omega), if_pos (by omega), if_pos (by rw [List.length_map, List.length_take]; omega), ← ht, w64_in _ (by omega)]
    exact_mod_cast ih
theorem parts_f (l : List S37) (hl : l.length ≤ 1048576) : rubricatorlaw22_parts.f (l.length + 1) l = some (l.map to85) := by
  have h := parts_l0 l hl l.length 0 (by omega)
  simpa [rubricatorlaw22_parts.f] using h
theorem part_of (b : List Int) (f : List S46) (p : S68) (h0 : 0 ≤ p.f1) : partL b (f.map sp) (pt85 p) = if p.f1 < f.length then cutL b ((rd_T46 f p.f1).f0, (rd_T46 f p.f1).f1) else [] := by
  obtain ⟨t, a⟩ := p
  by_cases h : a < f.length
  · rw [if_pos h]
    exact part_in b f t a h0 h
  · rw [if_neg h]
    exact part_out b f t a h0 h
theorem ref_l0 (l : List S68) (b : List Int) (f : List S46) (n : Nat) (hn : b.length ≤ n) (hp : ∀ p ∈ l, p.f0.length ≤ n) (hsz : l.length * n < 140737488355328) (hl : l.length ≤ 1048576) :
    ∀ m j, j + m = l.length → rubricatorref22_Expand.l0 (m + 1) b (expandL b (f.map sp) ((l.take j).map pt85)) l (l.length : Int) (j : Int) f = some (expandL b (f.map sp) (l.map pt85))
  | 0, j, h => by
    have hj : j = l.length := by omega
    subst hj
    unfold rubricatorref22_Expand.l0
    rw [if_neg (by omega), List.take_length]
  | m + 1, j, h => by
    have hj : j < l.length := by omega
    have ih := ref_l0 l b f n hn hp hsz hl m (j + 1) (by omega)
    have hr : rd_T68 l (j : Int) = l[j] := by simp [rd_T68, hj]
    have ht : expandL b (f.map sp) ((l.take (j + 1)).map pt85) = expandL b (f.map sp) ((l.take j).map pt85) ++ partL b (f.map sp) (pt85 l[j]) := by
      rw [List.take_succ_eq_append_getElem hj, List.map_append, List.map_singleton, expandL_snoc]
    have hpn : l[j].f0.length ≤ n := hp _ (List.getElem_mem hj)
    have hlen : (expandL b (f.map sp) ((l.take j).map pt85)).length + n < 140737488355328 := by
      have h1 := expandL_len b (f.map sp) ((l.take j).map pt85) hn (fun q hq => by
        obtain ⟨s, hs, rfl⟩ := List.mem_map.1 hq
        exact hp s (List.mem_of_mem_take hs))
      rw [List.length_map, List.length_take, Nat.min_eq_left (by omega)] at h1
      have h2 := Nat.mul_le_mul_right n (show j + 1 ≤ l.length from hj)
      rw [Nat.succ_mul] at h2
      omega
    have hw : wrap64 ((j : Int) + 1) = ((j + 1 : Nat) : Int) := by rw [w64_in _ (by omega)]; omega
    unfold rubricatorref22_Expand.l0
    rw [if_pos (by omega), if_pos (by omega), if_pos (by omega), hr, hw]
    obtain ⟨p, hpe⟩ : ∃ p, l[j] = p := ⟨_, rfl⟩
    rw [hpe] at ht hpn ⊢
    by_cases ha : p.f1 < 0
    · have hP : partL b (f.map sp) (pt85 p) = p.f0 := by
        show (if p.f1 < 0 then p.f0 else _) = _
        rw [if_pos ha]
      rw [hP] at ht
      rw [if_pos ha, if_pos (by omega), ← ht]
      exact ih
    · have hP := part_of b f p (by omega)
      rw [if_neg ha]
      by_cases hf : p.f1 < (f.length : Int)
      · rw [if_pos hf] at hP
        rw [if_pos hf, if_pos (by omega)]
        obtain ⟨s0, h0⟩ : ∃ s0, (rd_T46 f p.f1).f0 = s0 := ⟨_, rfl⟩
        obtain ⟨s1, h1⟩ : ∃ s1, (rd_T46 f p.f1).f1 = s1 := ⟨_, rfl⟩
        rw [h0, h1] at hP
        rw [h0, h1]
        by_cases hfit : 0 ≤ s0 ∧ s0 ≤ s1 ∧ s1 ≤ (b.length : Int)
        · have hc : cutL b (s0, s1) = (b.take s1.toNat).drop s0.toNat := by unfold cutL; rw [if_pos hfit]
          have hcl := cutL_len b (s0, s1)
          rw [hc] at hP hcl
          rw [hP] at ht
          have hff : rubricatorref22_fits.f s0 s1 (b.length : Int) = some true := by
            unfold rubricatorref22_fits.f
            rw [if_pos hfit.1, if_pos hfit.2.1, decide_eq_true hfit.2.2]
          rw [hff, Option.bind_some, if_pos rfl, if_pos hfit.1, if_pos hfit.2.1, if_pos hfit.2.2, if_pos (by omega), ← ht]
          exact ih
        · have hc : cutL b (s0, s1) = [] := by unfold cutL; rw [if_neg hfit]
          rw [hc] at hP
          rw [hP, List.append_nil] at ht
          have hff : rubricatorref22_fits.f s0 s1 (b.length : Int) = some false := by
            unfold rubricatorref22_fits.f
            split
            · split
              · rw [decide_eq_false (by omega)]
              · rfl
            · rfl
          rw [hff, Option.bind_some, if_neg (by decide), ← ht]
          exact ih
      · rw [if_neg hf] at hP
        rw [hP, List.append_nil] at ht
        rw [if_neg hf, ← ht]
        exact ih
theorem ref_f (l : List S68) (b : List Int) (f : List S46) (n : Nat) (hn : b.length ≤ n) (hp : ∀ p ∈ l, p.f0.length ≤ n) (hsz : l.length * n < 140737488355328) (hl : l.length ≤ 1048576) :
    rubricatorref22_Expand.f (l.length + 1) l b f = some (expandL b (f.map sp) (l.map pt85)) := by
  have h := ref_l0 l b f n hn hp hsz hl l.length 0 (by omega)
  simpa [rubricatorref22_Expand.f, expandL] using h
theorem same_f (l : List Int) : bytes_Equal.f l l = some true := by simp [bytes_Equal.f]

/-- Whatever the input of little bulk: the parts that the law makes for the reference. -/
theorem parts_any (w : World) (A : Option Addr) (c : Nat) (l : List S37) (hr : Kd.C k37 w A l.length l) (hc : l.length ≤ c) (hl : l.length ≤ 1048576) :
    Calls Tryd.prog 20 #[.slice A l.length c] w fun e w' => ∃ A' c', e = .returned (.slice A' (l.map to85).length c') ∧ (l.map to85).length ≤ c' ∧ Kd.C k68 w' A' (l.map to85).length (l.map to85) ∧ Below w.heap.size w w' :=
  (rubricatorlaw22_parts.calls (l.length + 1) (fun k => k < w.heap.size) A c l (l.map to85) w (Kd.V_mk hc (Kd.C_F heap33 hr)) (parts_f l hl)).mono fun e w' ⟨v, e1, hN, hb⟩ => by
    obtain ⟨A', c', rfl, h1, h2⟩ := Kd.N_reads hN
    exact ⟨A', c', e1, h1, h2, hb⟩
theorem ref_any (w : World) (A : Option Addr) (c : Nat) (l : List S37) (Ab : Option Addr) (cb : Nat) (b : List Int) (Af : Option Addr) (cf : Nat) (f : List S46) (n : Nat)
    (hl : Kd.C k68 w A (l.map to85).length (l.map to85)) (hc : (l.map to85).length ≤ c) (hb : Kd.C kB w Ab b.length b) (hcb : b.length ≤ cb) (hf : Kd.C k46 w Af f.length f) (hcf : f.length ≤ cf)
    (hn : b.length ≤ n) (hp : ∀ p ∈ l, p.f0.length ≤ n) (hsz : l.length * n < 140737488355328) (hl2 : l.length ≤ 1048576) :
    Calls Tryd.prog 33 #[.slice A (l.map to85).length c, .slice Ab b.length cb, .agg #[.slice Af f.length cf]] w fun e w' => ∃ v, e = .returned v ∧ Own kB 5 w' w.heap.size v (expandL b (f.map sp) (l.map pt)) ∧ Below w.heap.size w w' := by
  have h := ref_f (l.map to85) b f n hn (fun p hp2 => by
    obtain ⟨s, hs, rfl⟩ := List.mem_map.1 hp2
    exact hp s hs) (by rw [List.length_map]; exact hsz) (by rw [List.length_map]; exact hl2)
  rw [map_to] at h
  exact rubricatorref22_Expand.calls _ A c _ Ab cb b Af cf f _ w hl hc hb hcb hf hcf h
theorem equalB_any (w : World) (v u : Value) (x : List Int) (hv : RdS kB w v x) (hu : RdS kB w u x) :
    Calls Tryd.prog 12 #[v, u] w fun e w' => e = .returned (.bool true) ∧ Below w.heap.size w w' := by
  obtain ⟨A, c, rfl, h1, h2⟩ := hv
  obtain ⟨A', c', rfl, h3, h4⟩ := hu
  exact (bytes_Equal.calls A c x A' c' x true w h2 h1 h4 h3 (same_f x)).mono fun e w' ⟨e1, hd⟩ => ⟨e1, hd.below⟩

end Go.Proofs.YtaejogkinniakaaDoor
