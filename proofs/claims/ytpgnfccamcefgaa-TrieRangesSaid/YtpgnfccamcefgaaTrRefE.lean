/- Walks: the reference's Entries and Get. -/
import Derived.Test.YtpgnfccamcefgaaTrCore
import Derived.BigRegion
import Derived.Deep.QuietTactic
import Derived.BigQuiet
namespace Go.Proofs.Ytpgnfccamcefgaa
set_option linter.unusedVariables false
set_option linter.unusedSimpArgs false
open Go.RowKit Go.Proofs.YtpgnfccamcefgaaW.PrintWords Go.Proofs.YtpgnfccamcefgaaW.PrintLast Go.Proofs.YtpgnfccamcefgaaW.PrintMore
attribute [local go_sem] max2_int min2_int max_two min_two

def clipE (e : En) : En := (if e.1 < 0 then 0 else e.1, if 1114111 < e.2.1 then 1114111 else e.2.1, e.2.2)
def okE (nv : Int) (e : En) : Bool := decide (0 ≤ e.2.2 ∧ e.2.2 < nv ∧ (clipE e).1 ≤ (clipE e).2.1)
/-- Those that play a part. -/
def entL (nv : Int) (l : List En) : List En := (l.filter (okE nv)).map clipE
theorem entL_snoc (nv : Int) (l : List En) (e : En) : entL nv (l ++ [e]) = entL nv l ++ if okE nv e = true then [clipE e] else [] := by
  unfold entL
  rw [List.filter_append, List.map_append]
  congr 1
  by_cases h : okE nv e = true
  · rw [if_pos h]; simp [List.filter_cons, h]
  · rw [if_neg h]; simp [List.filter_cons, h]
theorem entL_len (nv : Int) (l : List En) : (entL nv l).length ≤ l.length := by
  unfold entL
  rw [List.length_map]
  exact List.length_filter_le _ _
/-- The last entry that has a code point. -/
def lastE (l : List En) (r : Int) : Int := l.foldl (fun v e => if e.1 ≤ r ∧ r ≤ e.2.1 then e.2.2 else v) (-1)
theorem lastE_snoc (l : List En) (e : En) (r : Int) : lastE (l ++ [e]) r = if e.1 ≤ r ∧ r ≤ e.2.1 then e.2.2 else lastE l r := by
  unfold lastE
  rw [List.foldl_append]
  rfl
theorem last_val (nv : Nat) (r : Int) (l : List En) : lastE (entL nv l) r = if 0 ≤ r ∧ r ≤ 1114111 then valE nv l r else -1 := by
  rcases snoc_or l with rfl | ⟨s, e, rfl⟩
  · by_cases h : 0 ≤ r ∧ r ≤ 1114111
    · rw [if_pos h]; rfl
    · rw [if_neg h]; rfl
  · have ih := last_val nv r s
    rw [entL_snoc, valE_snoc]
    by_cases hok : okE nv e = true
    · rw [if_pos hok, lastE_snoc, ih]
      unfold okE at hok
      have hk := of_decide_eq_true hok
      unfold clipE at hk ⊢
      simp only at hk ⊢
      by_cases h : 0 ≤ r ∧ r ≤ 1114111
      · rw [if_pos h, if_pos h]
        by_cases h2 : e.1 ≤ r ∧ r ≤ e.2.1
        · rw [if_pos (by constructor <;> split <;> omega), if_pos (show onE nv e r from ⟨hk.1, hk.2.1, h2⟩)]
        · rw [if_neg (fun h3 => h2 (by
            obtain ⟨a, b⟩ := h3
            constructor
            · split at a <;> omega
            · split at b <;> omega)), if_neg (fun h3 : onE nv e r => h2 h3.2.2)]
      · rw [if_neg h, if_neg h, if_neg (fun h3 => h (by
          obtain ⟨a, b⟩ := h3
          constructor
          · split at a <;> omega
          · split at b <;> omega))]
    · rw [if_neg hok, List.append_nil, ih]
      by_cases h : 0 ≤ r ∧ r ≤ 1114111
      · rw [if_pos h, if_pos h, if_neg (fun h3 => hok (by
          unfold onE at h3
          unfold okE clipE
          refine decide_eq_true ⟨h3.1, h3.2.1, ?_⟩
          simp only
          split <;> split <;> omega))]
      · rw [if_neg h, if_neg h]
termination_by l.length
decreasing_by subst_vars; simp

set_option maxHeartbeats 1000000 in
set_option maxRecDepth 100000 in
theorem refGet_any (w : World) (v : Value) (l : List En) (r : Int) (h : RdS kE w v l) :
    Calls Try.prog 28 #[v, .int .i64 r] w fun e w' => e = .returned (.int .i64 (lastE l r)) ∧ Below w.heap.size w w' := by
  have hlen := h.len
  obtain ⟨A, c, rfl, -, hr⟩ := h
  have HR := Aside0.mk hr
  clear hr
  go_enter Try.func28, Try.ntmps28
  go_wp2
  go_loopg [5, 10] l.length (fun gk x i w' => ∃ k : Nat, i = .int .i64 k ∧ x = .int .i64 (lastE (l.take k) r) ∧ Aside0 (k ≤ l.length ∧ gk = l.length - k) ∧ Aside0 (Below w.heap.size w w'))
  case atStart => exact ⟨0, by first | rfl | simp, rfl, ⟨Nat.zero_le _, rfl⟩, ⟨Below.refl _ _⟩⟩
  case round =>
    obtain ⟨k, rfl, rfl, HA, HB⟩ := hrel
    by_cases hk : k < l.length
    · obtain ⟨ad, rfl, hx0, hx1, hx2⟩ := at_En HR.out k hk
      replace hx0 := pw_cell_below HB.out hx0
      replace hx1 := pw_cell_below HB.out hx1
      replace hx2 := pw_cell_below HB.out hx2
      have HT : Aside0 (lastE (l.take (k + 1)) r = if l[k].1 ≤ r ∧ r ≤ l[k].2.1 then l[k].2.2 else lastE (l.take k) r) := ⟨by rw [List.take_succ_eq_append_getElem hk, lastE_snoc]⟩
      obtain ⟨x, hx⟩ : ∃ x, l[k] = x := ⟨_, rfl⟩
      rw [hx] at hx0 hx1 hx2 HT
      clear hx
      obtain ⟨a, b, v⟩ := x
      obtain ⟨y, hy⟩ : ∃ y, lastE (l.take k) r = y := ⟨_, rfl⟩
      rw [hy] at HT ⊢
      clear hy
      simp only at hx0 hx1 hx2 HT
      by_cases h1 : a ≤ r
      · by_cases h2 : r ≤ b
        · have HF : Aside0 (lastE (l.take (k + 1)) r = v) := ⟨by rw [HT.out, if_pos ⟨h1, h2⟩]⟩
          go_wp2
          go_roundg (gk - 1)
          case measure => have := HA.out; omega
          case rel => exact ⟨k + 1, by go_num, by rw [HF.out], ⟨by omega, by have := HA.out; omega⟩, ⟨below_alloc HB.out _⟩⟩
        · have HF : Aside0 (lastE (l.take (k + 1)) r = y) := ⟨by rw [HT.out, if_neg (fun h => h2 h.2)]⟩
          go_wp2
          go_roundg (gk - 1)
          case measure => have := HA.out; omega
          case rel => exact ⟨k + 1, by go_num, by rw [HF.out], ⟨by omega, by have := HA.out; omega⟩, ⟨below_alloc HB.out _⟩⟩
      · have HF : Aside0 (lastE (l.take (k + 1)) r = y) := ⟨by rw [HT.out, if_neg (fun h => h1 h.1)]⟩
        go_wp2
        go_roundg (gk - 1)
        case measure => have := HA.out; omega
        case rel => exact ⟨k + 1, by go_num, by rw [HF.out], ⟨by omega, by have := HA.out; omega⟩, ⟨below_alloc HB.out _⟩⟩
    · have HF : Aside0 (l.take k = l) := ⟨List.take_of_length_le (by omega)⟩
      go_wp2
      go_ret
      exact ⟨by rw [HF.out]; rfl, HB.out⟩

set_option maxHeartbeats 4000000 in
set_option maxRecDepth 100000 in
theorem entries_any (w : World) (v : Value) (l : List En) (nv : Int) (h : RdS kE w v l) (hl : l.length * 24 ≤ 140737488355328) :
    Calls Try.prog 26 #[v, .int .i64 nv] w fun e w' => ∃ v', e = .returned v' ∧ Own kE 40 w' w.heap.size v' (entL nv l) ∧ Below w.heap.size w w' := by
  have hlen := h.len
  have HL := Aside0.mk hl
  obtain ⟨A, c, rfl, -, hr⟩ := h
  have HR := Aside0.mk hr
  clear hr hl
  go_enter Try.func26, Try.ntmps26
  go_wp2
  go_loopg [5, 10] l.length (fun gk x i w' => ∃ k : Nat, i = .int .i64 k ∧ Aside0 (k ≤ l.length ∧ gk = l.length - k) ∧ Aside0 (Own kE 40 w' w.heap.size x (entL nv (l.take k))) ∧ Aside0 (Below w.heap.size w w'))
  case atStart => exact ⟨0, by first | rfl | simp, ⟨Nat.zero_le _, rfl⟩, ⟨Kd.R_nil _ _ _ _ _⟩, ⟨Below.refl _ _⟩⟩
  case round =>
    obtain ⟨k, rfl, HA, HO, HB⟩ := hrel
    by_cases hk : k < l.length
    · obtain ⟨ad, rfl, hx0, hx1, hx2⟩ := at_En HR.out k hk
      replace hx0 := pw_cell_below HB.out hx0
      replace hx1 := pw_cell_below HB.out hx1
      replace hx2 := pw_cell_below HB.out hx2
      have HT : Aside0 (entL nv (l.take (k + 1)) = entL nv (l.take k) ++ if okE nv l[k] = true then [clipE l[k]] else []) := ⟨by rw [List.take_succ_eq_append_getElem hk, entL_snoc]⟩
      have HN : Aside0 ((entL nv (l.take k)).length ≤ k) := ⟨Nat.le_trans (entL_len _ _) (by rw [List.length_take]; omega)⟩
      obtain ⟨x, hx⟩ : ∃ x, l[k] = x := ⟨_, rfl⟩
      rw [hx] at hx0 hx1 hx2 HT
      clear hx
      obtain ⟨a, b, v⟩ := x
      obtain ⟨E, hE⟩ : ∃ E, entL nv (l.take k) = E := ⟨_, rfl⟩
      rw [hE] at HT HO HN
      clear hE
      simp only at hx0 hx1 hx2
      obtain ⟨lo, hlo⟩ : ∃ lo, (if a < 0 then 0 else a) = lo := ⟨_, rfl⟩
      obtain ⟨hi2, hhi⟩ : ∃ hi2, (if 1114111 < b then 1114111 else b) = hi2 := ⟨_, rfl⟩
      have HC : Aside0 (clipE (a, b, v) = (lo, hi2, v)) := ⟨by unfold clipE; simp only; rw [hlo, hhi]⟩
      have HOK : Aside0 (okE nv (a, b, v) = decide (0 ≤ v ∧ v < nv ∧ lo ≤ hi2)) := ⟨by unfold okE; rw [HC.out]⟩
      by_cases hv0 : 0 ≤ v
      · by_cases hv1 : v < nv
        · by_cases hlh : lo ≤ hi2
          · have HF : Aside0 (entL nv (l.take (k + 1)) = E ++ [(lo, hi2, v)]) := ⟨by rw [HT.out, if_pos (by rw [HOK.out]; exact decide_eq_true ⟨hv0, hv1, hlh⟩), HC.out]⟩
            go_wp2_with (at_builtin; refine Kd.R_append kE (w0 := w) w.heap.size rfl (.tmp 38) (.tmp 40) 35 40 (.agg #[(.int .i64 0), (.int .i64 0), (.int .i64 0)]) 24 rfl Try.underlying35 Try.infoE rfl (by decide) (by omega) _ E (lo, hi2, v) [.int .i64 lo, .int .i64 hi2, .int .i64 v] (fun _ => True) (fun _ => False) rfl ?aX (kE_mkM _ _ _ (lo, hi2, v)) (fun _ h => h.elim) (fun _ _ => trivial) (Kd.R_alloc HO.out _) (below_alloc HB.out _) ?aS ?aL ?_)
            case aX => first | rfl | exact slice_new _ _ _ _
            case aS => exact size_le_alloc HB.out.size _
            case aL => have h3 := HN.out; have h4 := HL.out; omega
            intro v1 w1 ho hb hg hat
            have HO1 := Aside0.mk ho
            have HB1 := Aside0.mk hb
            clear ho hb hg hat HO HB hx0 hx1 hx2
            go_wp2
            go_roundg (gk - 1)
            case measure => have := HA.out; omega
            case rel => exact ⟨k + 1, by go_num, ⟨by omega, by have := HA.out; omega⟩, ⟨by rw [HF.out]; exact HO1.out⟩, HB1⟩
          · have HF : Aside0 (entL nv (l.take (k + 1)) = E) := ⟨by rw [HT.out, if_neg (by rw [HOK.out]; simp; omega), List.append_nil]⟩
            go_wp2
            go_roundg (gk - 1)
            case measure => have := HA.out; omega
            case rel => exact ⟨k + 1, by go_num, ⟨by omega, by have := HA.out; omega⟩, ⟨by rw [HF.out]; exact Kd.R_alloc HO.out _⟩, ⟨below_alloc HB.out _⟩⟩
        · have HF : Aside0 (entL nv (l.take (k + 1)) = E) := ⟨by rw [HT.out, if_neg (by rw [HOK.out]; simp; omega), List.append_nil]⟩
          go_wp2
          go_roundg (gk - 1)
          case measure => have := HA.out; omega
          case rel => exact ⟨k + 1, by go_num, ⟨by omega, by have := HA.out; omega⟩, ⟨by rw [HF.out]; exact Kd.R_alloc HO.out _⟩, ⟨below_alloc HB.out _⟩⟩
      · have HF : Aside0 (entL nv (l.take (k + 1)) = E) := ⟨by rw [HT.out, if_neg (by rw [HOK.out]; simp; omega), List.append_nil]⟩
        go_wp2
        go_roundg (gk - 1)
        case measure => have := HA.out; omega
        case rel => exact ⟨k + 1, by go_num, ⟨by omega, by have := HA.out; omega⟩, ⟨by rw [HF.out]; exact Kd.R_alloc HO.out _⟩, ⟨below_alloc HB.out _⟩⟩
    · have HF : Aside0 (l.take k = l) := ⟨List.take_of_length_le (by omega)⟩
      go_wp2
      go_ret
      exact ⟨_, rfl, by rw [HF.out] at HO; exact HO.out, HB.out⟩

end Go.Proofs.Ytpgnfccamcefgaa
