/- The printed functions may and Split of the reference, tied to the plain law. -/
import Derived.Test.YtaejogkinniakaaDoorEdI
namespace Go.Proofs.YtaejogkinniakaaDoor
set_option linter.unusedVariables false
set_option linter.unusedSimpArgs false
open Go.RowKit Go.Proofs.YtaejogkinniakaaDoorW.PrintWords Go.Proofs.YtaejogkinniakaaDoorW.PrintLast Go.Proofs.YtaejogkinniakaaDoorW.PrintMore Go.Proofs.YtaejogkinniakaaDoor.PEd

theorem fits_f (s0 s1 n : Int) : rubricatorref22_fits.f s0 s1 n = some (decide (fitsS n (s0, s1))) := by
  have e : decide (fitsS n (s0, s1)) = decide (0 ≤ s0 ∧ s0 ≤ s1 ∧ s1 ≤ n) := rfl
  rw [e, rubricatorref22_fits.f]
  by_cases h0 : 0 ≤ s0
  · by_cases h1 : s0 ≤ s1
    · rw [if_pos h0, if_pos h1]
      simp [h0, h1]
    · rw [if_pos h0, if_neg h1]
      simp [h1]
  · rw [if_neg h0]
    simp [h0]
/-- A further span may be. -/
def okS (n : Int) (x : S46) : Bool := decide (sp x = noneS ∨ fitsS n (sp x))
theorem may_l1 (n e : Int) (l : List S56) (i : Nat) (hi : i < l.length) (hl : l.length ≤ 1048576) (ys : List S46) (hy : ys.length ≤ 9223372036854775807) (R : Bool)
    (hR : Ev (fun k => rubricatorref22_may.l0 k n e l (l.length : Int) ((i + 1 : Nat) : Int)) R) :
    ∀ m j, j + m = ys.length → Ev (fun k => rubricatorref22_may.l1 k n e l (l.length : Int) (i : Int) ys (ys.length : Int) (j : Int)) ((ys.drop j).all (okS n) && R)
  | 0, j, h => by
    have hj : j = ys.length := by omega
    subst hj
    rw [List.drop_of_length_le (Nat.le_refl _), List.all_nil, Bool.true_and]
    refine Ev.step (fun k => ?_) hR
    rw [rubricatorref22_may.l1, if_neg (by omega), w64_in _ (by omega)]
    rfl
  | m + 1, j, h => by
    have hj : j < ys.length := by omega
    have ih := may_l1 n e l i hi hl ys hy R hR m (j + 1) (by omega)
    have hd : (ys.drop j).all (okS n) = (okS n ys[j] && (ys.drop (j + 1)).all (okS n)) := by
      rw [List.drop_eq_getElem_cons hj, List.all_cons]
    rw [hd]
    have hw : wrap64 ((j : Int) + 1) = ((j + 1 : Nat) : Int) := by rw [w64_in _ (by omega)]; omega
    obtain ⟨q, hq⟩ : ∃ q, ys[j] = q := ⟨_, rfl⟩
    have hr : rd_T46 ys (j : Int) = q := by rw [rd84_at hj, hq]
    rw [hq]
    by_cases hn : sp q = noneS
    · have hok : okS n q = true := decide_eq_true (.inl hn)
      rw [hok, Bool.true_and]
      refine Ev.step (fun k => ?_) ih
      rw [rubricatorref22_may.l1, if_pos (by omega), if_pos (by omega), if_pos (by omega), hr, hw, if_neg]
      have h0 : q.f0 = -1 := congrArg Prod.fst hn
      have h1 : q.f1 = -1 := congrArg Prod.snd hn
      rw [h0, h1]
      decide
    · have hne : (!(q.f0 == -1) || !(q.f1 == -1)) = true := by
        rw [Bool.or_eq_true, Bool.not_eq_true', Bool.not_eq_true', beq_eq_false_iff_ne, beq_eq_false_iff_ne]
        by_cases h0 : q.f0 = -1
        · exact .inr fun h1 => hn (by show (q.f0, q.f1) = _; rw [h0, h1]; rfl)
        · exact .inl h0
      by_cases hf : fitsS n (sp q)
      · have hok : okS n q = true := decide_eq_true (.inr hf)
        rw [hok, Bool.true_and]
        refine Ev.step (fun k => ?_) ih
        rw [rubricatorref22_may.l1, if_pos (by omega), if_pos (by omega), if_pos (by omega), hr, hw, if_pos hne, fits_f, decide_eq_true (show fitsS n (q.f0, q.f1) from hf)]
        rfl
      · have hok : okS n q = false := decide_eq_false (fun h => h.elim hn hf)
        rw [hok, Bool.false_and, Bool.false_and]
        refine Ev.step (fun k => ?_) (Ev.now false)
        rw [rubricatorref22_may.l1, if_pos (by omega), if_pos (by omega), if_pos (by omega), hr, hw, if_pos hne, fits_f, decide_eq_false (show ¬ fitsS n (q.f0, q.f1) from hf)]
        rfl
theorem may_l0 (n : Int) (l : List S56) (hl : l.length ≤ 1048576) (hs : ∀ f ∈ l, f.f0.length ≤ 9223372036854775807) :
    ∀ m i (last : Int), i + m = l.length → Ev (fun k => rubricatorref22_may.l0 k n last l (l.length : Int) (i : Int)) (decide (mayL n last ((l.drop i).map fo)))
  | 0, i, last, h => by
    have hi : i = l.length := by omega
    subst hi
    rw [List.drop_of_length_le (Nat.le_refl _), List.map_nil, decide_eq_true (show mayL n last [] from trivial)]
    refine Ev.step (fun k => ?_) (Ev.now true)
    rw [rubricatorref22_may.l0, if_neg (by omega)]
  | m + 1, i, last, h => by
    have hi : i < l.length := by omega
    have hr : rd_T56 l (i : Int) = l[i] := rd56_at hi
    have hsi := hs _ (List.getElem_mem hi)
    rw [List.drop_eq_getElem_cons hi, List.map_cons]
    obtain ⟨f, hf⟩ : ∃ f, l[i] = f := ⟨_, rfl⟩
    rw [hf] at hr hsi ⊢
    clear hf
    obtain ⟨ss⟩ := f
    simp only at hsi
    cases ss with
    | nil =>
      rw [decide_eq_false (show ¬ mayL n last (fo ⟨[]⟩ :: (l.drop (i + 1)).map fo) from fun h => h)]
      refine Ev.step (f := fun k => rubricatorref22_may.j1 k n l (l.length : Int) (i : Int) true []) (fun k => ?_) (Ev.step (fun k => ?_) (Ev.now false))
      · rw [rubricatorref22_may.l0, if_pos (by omega), if_pos (by omega), if_pos (by omega), hr]
        rfl
      · rw [rubricatorref22_may.j1, if_pos rfl]
    | cons s t =>
      have ih := may_l0 n l hl hs m (i + 1) s.f1 (by omega)
      have h1 := may_l1 n s.f1 l i hi hl t (by simp only [List.length_cons] at hsi; omega) _ ih t.length 0 (by omega)
      have hr0 : rd_T46 (s :: t) 0 = s := rfl
      have hm : decide (mayL n last (fo ⟨s :: t⟩ :: (l.drop (i + 1)).map fo)) = (decide (fitsS n (sp s)) && (decide (last ≤ s.f0) && (t.all (okS n) && decide (mayL n s.f1 ((l.drop (i + 1)).map fo))))) := by
        show decide ((fitsS n (sp s) ∧ last ≤ s.f0 ∧ ∀ x ∈ t.map sp, x = noneS ∨ fitsS n x) ∧ mayL n s.f1 ((l.drop (i + 1)).map fo)) = _
        have hall : t.all (okS n) = decide (∀ x ∈ t.map sp, x = noneS ∨ fitsS n x) := by
          rw [Bool.eq_iff_iff, List.all_eq_true, decide_eq_true_eq]
          refine ⟨fun h x hx => ?_, fun h x hx => ?_⟩
          · obtain ⟨y, hy, rfl⟩ := List.mem_map.1 hx
            exact of_decide_eq_true (h y hy)
          · exact decide_eq_true (h _ (List.mem_map.2 ⟨x, hx, rfl⟩))
        rw [hall, Bool.eq_iff_iff]
        simp only [Bool.and_eq_true, decide_eq_true_eq, and_assoc]
      rw [hm]
      have hlen : ¬ (((s :: t).length : Int) = 0) := by simp only [List.length_cons]; omega
      have hlen2 : (0 : Int) < ((s :: t).length : Int) := by simp only [List.length_cons]; omega
      have hlen3 : (1 : Int) ≤ ((s :: t).length : Int) := by simp only [List.length_cons]; omega
      by_cases hfit : fitsS n (sp s)
      · rw [decide_eq_true hfit, Bool.true_and]
        by_cases hlt : last ≤ s.f0
        · rw [decide_eq_true hlt, Bool.true_and]
          refine Ev.step (f := fun k => rubricatorref22_may.j1 k n l (l.length : Int) (i : Int) false (s :: t)) (fun k => ?_) (Ev.step (fun k => ?_) h1)
          · rw [rubricatorref22_may.l0, if_pos (by omega), if_pos (by omega), if_pos (by omega), hr, if_neg hlen, if_pos hlen2, hr0, fits_f, decide_eq_true (show fitsS n (s.f0, s.f1) from hfit), decide_eq_false (show ¬ s.f0 < last by omega)]
            rfl
          · rw [rubricatorref22_may.j1, if_neg (by decide), if_pos hlen2, if_pos hlen3]
            rfl
        · rw [decide_eq_false hlt, Bool.false_and]
          refine Ev.step (f := fun k => rubricatorref22_may.j1 k n l (l.length : Int) (i : Int) true (s :: t)) (fun k => ?_) (Ev.step (fun k => ?_) (Ev.now false))
          · rw [rubricatorref22_may.l0, if_pos (by omega), if_pos (by omega), if_pos (by omega), hr, if_neg hlen, if_pos hlen2, hr0, fits_f, decide_eq_true (show fitsS n (s.f0, s.f1) from hfit), decide_eq_true (show s.f0 < last by omega)]
            rfl
          · rw [rubricatorref22_may.j1, if_pos rfl]
      · rw [decide_eq_false hfit, Bool.false_and]
        refine Ev.step (f := fun k => rubricatorref22_may.j1 k n l (l.length : Int) (i : Int) true (s :: t)) (fun k => ?_) (Ev.step (fun k => ?_) (Ev.now false))
        · rw [rubricatorref22_may.l0, if_pos (by omega), if_pos (by omega), if_pos (by omega), hr, if_neg hlen, if_pos hlen2, hr0, fits_f, decide_eq_false (show ¬ fitsS n (s.f0, s.f1) from hfit)]
          rfl
        · rw [rubricatorref22_may.j1, if_pos rfl]
theorem may_f (n : Int) (l : List S56) (hl : l.length ≤ 1048576) (hs : ∀ f ∈ l, f.f0.length ≤ 9223372036854775807) : Ev (fun k => rubricatorref22_may.f k l n) (decide (mayL n 0 (l.map fo))) := by
  have h := may_l0 n l hl hs l.length 0 0 (by omega)
  exact h
theorem one_len (l : List S46) : ∀ f ∈ l.map oneF, f.f0.length ≤ 9223372036854775807 := fun f hf => by
  obtain ⟨s, _, rfl⟩ := List.mem_map.1 hf
  show 1 ≤ _
  omega
theorem split_l1_end (b : List Int) (hb : b.length < 140737488355328) (l : List S46) (out : List (List Int)) (last : Int) (ho : out.length < 5864062014805) (h0 : 0 ≤ last) (h1 : last ≤ b.length) (k : Nat) :
    rubricatorref22_Split.l1 (k + 1) b out last l (l.length : Int) (l.length : Int) = some (out ++ [b.drop last.toNat], 0) := by
  have hd : ([] : List Int).length + (b.drop last.toNat).length < 140737488355328 := by rw [List.length_drop]; simp only [List.length_nil]; omega
  rw [rubricatorref22_Split.l1, if_neg (Int.lt_irrefl _), Option.bind_some, if_pos h0, if_pos h1, if_pos hd, if_pos ho, List.nil_append]
theorem split_l1_step (b : List Int) (hb : b.length < 140737488355328) (l : List S46) (hl : l.length ≤ 1048576) (out : List (List Int)) (last : Int) (ho : out.length < 5864062014805) (j : Nat) (hj : j < l.length) (s : S46) (hs : l[j] = s) (h0 : 0 ≤ last) (h5 : last ≤ s.f0) (h4 : s.f0 ≤ b.length) (k : Nat) :
    rubricatorref22_Split.l1 (k + 1) b out last l (l.length : Int) (j : Int) = rubricatorref22_Split.l1 k b (out ++ [midL b last s.f0]) s.f1 l (l.length : Int) ((j + 1 : Nat) : Int) := by
  have hr : rd_T46 l (j : Int) = s := by rw [rd84_at hj, hs]
  have hw : wrap64 ((j : Int) + 1) = ((j + 1 : Nat) : Int) := by rw [w64_in _ (by omega)]; omega
  have hml := midL_len b last s.f0
  have hd : ([] : List Int).length + (midL b last s.f0).length < 140737488355328 := by simp only [List.length_nil]; omega
  have hj' : (j : Int) < (l.length : Int) := by omega
  have hj'' : 0 ≤ (j : Int) := by omega
  unfold midL at hd ⊢
  rw [rubricatorref22_Split.l1, if_pos hj', if_pos hj'', if_pos hj', Option.bind_some, hr, hw, if_pos h0, if_pos h5, if_pos h4, if_pos hd, if_pos ho, List.nil_append]
theorem split_l1 (b : List Int) (hb : b.length < 140737488355328) (l : List S46) (hl : l.length ≤ 1048576) (m : Nat) :
    ∀ (j : Nat) (out : List (List Int)) (last : Int), j + m = l.length → out.length + m ≤ 1048576 → 0 ≤ last → last ≤ b.length → mayL b.length last (oneL (l.drop j)) →
      Ev (fun k => rubricatorref22_Split.l1 k b out last l (l.length : Int) (j : Int)) (out ++ gapsL b last (oneL (l.drop j)), 0) := by
  induction m with
  | zero =>
    intro j out last h ho h0 h1 hm
    have hj : j = l.length := by omega
    subst hj
    have e : oneL (l.drop l.length) = [] := by rw [List.drop_of_length_le (Nat.le_refl _)]; rfl
    rw [e]
    exact Ev.step (split_l1_end b hb l out last (by omega) h0 h1) (Ev.now _)
  | succ m ih =>
    intro j out last h ho h0 h1 hm
    have hj : j < l.length := by omega
    have hd : oneL (l.drop j) = [sp l[j]] :: oneL (l.drop (j + 1)) := by rw [List.drop_eq_getElem_cons hj]; rfl
    rw [hd] at hm ⊢
    obtain ⟨s, hs⟩ : ∃ s, l[j] = s := ⟨_, rfl⟩
    rw [hs] at hm ⊢
    obtain ⟨⟨⟨h2, h3, h4⟩, h5, -⟩, h6⟩ := hm
    have h2' : 0 ≤ s.f0 := h2
    have h3' : s.f0 ≤ s.f1 := h3
    have h4' : s.f1 ≤ b.length := h4
    have h5' : last ≤ s.f0 := h5
    have e : out ++ gapsL b last ([sp s] :: oneL (l.drop (j + 1))) = (out ++ [midL b last s.f0]) ++ gapsL b s.f1 (oneL (l.drop (j + 1))) := by
      rw [List.append_assoc]
      rfl
    rw [e]
    refine Ev.step (split_l1_step b hb l hl out last (by omega) j hj s hs h0 h5' (by omega)) (ih (j + 1) (out ++ [midL b last s.f0]) s.f1 (by omega) ?_ (by omega) h4' h6)
    rw [List.length_append, List.length_singleton]
    omega
/-- What the reference's Split comes to. -/
def splitR (b : List Int) (L : List (List Sp)) : List (List Int) × Int := if mayL b.length 0 L then (gapsL b 0 L, 0) else ([], 1)
theorem split_l0_end (b : List Int) (hb : b.length < 140737488355328) (l : List S46) (hl : l.length ≤ 1048576) :
    Ev (fun k => (rubricatorref22_may.f k (l.map oneF) (b.length : Int)).bind fun t186 => (if t186 = true then (rubricatorref22_Split.l1 k b ([] : List (List Int)) 0 l (l.length : Int) 0) else (some (([] : List (List Int)), 1)))) (splitR b (oneL l)) := by
  have hmay := may_f b.length (l.map oneF) (by rw [List.length_map]; omega) (one_len l)
  rw [map_one] at hmay
  refine Ev.bind hmay ?_
  unfold splitR
  by_cases hm : mayL b.length 0 (oneL l)
  · rw [decide_eq_true hm, if_pos hm]
    have h := split_l1 b hb l (by omega) l.length 0 [] 0 (by omega) (by rw [List.length_nil]; omega) (Int.le_refl 0) (by omega) hm
    exact h
  · rw [decide_eq_false hm, if_neg hm]
    exact Ev.now _
theorem split_l0 (b : List Int) (hb : b.length < 140737488355328) (l : List S46) (hl : l.length ≤ 1048576) (m : Nat) :
    ∀ j, j + m = l.length → Ev (fun k => rubricatorref22_Split.l0 k b l ((l.take j).map oneF) l (l.length : Int) (j : Int)) (splitR b (oneL l)) := by
  induction m with
  | zero =>
    intro j h
    have hj : j = l.length := by omega
    subst hj
    refine Ev.step (fun k => ?_) (split_l0_end b hb l hl)
    rw [rubricatorref22_Split.l0, if_neg (Int.lt_irrefl _), List.take_length]
  | succ m ih =>
    intro j h
    have hj : j < l.length := by omega
    refine Ev.step (fun k => ?_) (ih (j + 1) (by omega))
    have ht : (l.take (j + 1)).map oneF = (l.take j).map oneF ++ [(⟨([(⟨(rd_T46 l (j : Int)).f0, (rd_T46 l (j : Int)).f1⟩ : S46)] : List S46)⟩ : S56)] := by
      rw [List.take_succ_eq_append_getElem hj, List.map_append, List.map_singleton, rd84_at hj]
      rfl
    have hw : wrap64 ((j : Int) + 1) = ((j + 1 : Nat) : Int) := by rw [w64_in _ (by omega)]; omega
    have hln : ((l.take j).map oneF).length < 5864062014805 := by rw [List.length_map, List.length_take]; omega
    have hj' : (j : Int) < (l.length : Int) := by omega
    have hj'' : 0 ≤ (j : Int) := by omega
    rw [rubricatorref22_Split.l0, if_pos hj', if_pos hj'', if_pos hj', if_pos hln, ← ht, hw]
theorem split_f (b : List Int) (hb : b.length < 140737488355328) (l : List S46) (hl : l.length ≤ 1048576) : ∃ k, rubricatorref22_Split.f k b l = some (splitR b (oneL l)) := by
  have h := split_l0 b hb l hl l.length 0 (by omega)
  exact h.rounds

end Go.Proofs.YtaejogkinniakaaDoor
