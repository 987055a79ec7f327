/- What was printed is read as it was. Pure: no program. -/
import Derived.Test.YtooehjbbphokbaaDoorLnI
import Derived.Test.YtooehjbbphokbaaDoorLnR
namespace Go.Proofs.YtooehjbbphokbaaDoor
set_option linter.unusedVariables false
set_option linter.unusedSimpArgs false

/-! ### Digits -/
def isHex (b : UInt8) : Bool := decide (0 ≤ hexD (b.toNat : Int)) && !(b == 46) && !(blank b) && !(b == 59) && !(bad3 b)
theorem hexC_hex (d : Nat) (hd : d < 16) : isHex (hexC d) = true ∧ hexD ((hexC d).toNat : Int) = (d : Int) := by
  have h : ∀ d : Fin 16, isHex (hexC d.val) = true ∧ hexD ((hexC d.val).toNat : Int) = (d.val : Int) := by decide
  exact h ⟨d, hd⟩
theorem hexL_hex : ∀ (k n : Nat) (acc : List UInt8), (∀ b ∈ acc, isHex b = true) → ∀ b ∈ hexL k n acc, isHex b = true
  | 0, n, acc, h => h
  | k + 1, n, acc, h => by
    unfold hexL
    split
    · exact h
    · refine hexL_hex k (n / 16) _ (fun b hb => ?_)
      rcases List.mem_cons.1 hb with rfl | hb
      · exact (hexC_hex _ (Nat.mod_lt _ (by decide))).1
      · exact h b hb
theorem pointL_hex (n : Nat) : ∀ b ∈ pointL n, isHex b = true := hexL_hex 6 n [] (by simp)
/-- The number of digits behind a number. -/
def foldD : Int → List UInt8 → Int
  | n, [] => n
  | n, b :: l => foldD (16 * n + hexD (b.toNat : Int)) l
theorem foldD_hexL : ∀ (k n : Nat) (acc : List UInt8), n < 16 ^ k → foldD 0 (hexL k n acc) = foldD (n : Int) acc
  | 0, n, acc, h => by
    have : n = 0 := by simpa using h
    subst this
    rfl
  | k + 1, n, acc, h => by
    unfold hexL
    split
    · rename_i hh
      rw [hh.1]
      rfl
    · rw [foldD_hexL k (n / 16) _ (by rw [Nat.pow_succ] at h; omega)]
      have hd := (hexC_hex (n % 16) (Nat.mod_lt _ (by decide))).2
      have e : 16 * ((n / 16 : Nat) : Int) + ((n % 16 : Nat) : Int) = (n : Int) := by omega
      show foldD (16 * ((n / 16 : Nat) : Int) + hexD ((hexC (n % 16)).toNat : Int)) acc = _
      rw [hd, e]
theorem hexL_least : ∀ (k n : Nat) (acc : List UInt8), 4 ≤ acc.length + k → 4 ≤ (hexL k n acc).length
  | 0, n, acc, h => h
  | k + 1, n, acc, h => by
    unfold hexL
    split
    · omega
    · exact hexL_least k _ _ (by simp only [List.length_cons]; omega)
theorem hexFrom_fold (L : List UInt8) (hL : ∀ b ∈ L, 0 ≤ hexD (b.toNat : Int)) : ∀ (m pos : Nat) (n : Int), pos + m = L.length → hexFrom (bsL L) n pos = some (foldD n (L.drop pos))
  | 0, pos, n, h => by
    rw [hexFrom_end (by rw [size_bsL]; omega), List.drop_of_length_le (by omega)]
    rfl
  | m + 1, pos, n, h => by
    have hlt : pos < L.length := by omega
    have hb : (bsL L)[pos]'(by rw [size_bsL]; exact hlt) = L[pos] := rfl
    have hd := hL _ (List.getElem_mem hlt)
    rw [hexFrom_step (by rw [size_bsL]; exact hlt) (by rw [hb]; omega), hb, hexFrom_fold L hL m (pos + 1) _ (by omega), List.drop_eq_getElem_cons hlt]
    rfl
theorem isHex_d {b : UInt8} (h : isHex b = true) : 0 ≤ hexD (b.toNat : Int) ∧ b ≠ 46 ∧ blank b = false ∧ b ≠ 59 ∧ bad3 b = false := by
  unfold isHex at h
  simp only [Bool.and_eq_true, decide_eq_true_eq, Bool.not_eq_true', beq_eq_false_iff_ne] at h
  exact ⟨h.1.1.1.1, h.1.1.1.2, h.1.1.2, h.1.2, h.2⟩
theorem hexAns_point (n : Int) (h0 : 0 ≤ n) (h1 : n ≤ 1114111) : hexAns (bsL (pointL n.toNat)) = (n, true) := by
  have hl := pointL_length n.toNat
  have hg : 4 ≤ (pointL n.toNat).length := hexL_least 6 n.toNat [] (by decide)
  have hf := hexFrom_fold (pointL n.toNat) (fun b hb => (isHex_d (pointL_hex _ b hb)).1) (pointL n.toNat).length 0 0 (by omega)
  rw [List.drop_zero] at hf
  have hv : foldD 0 (pointL n.toNat) = n := by
    have := foldD_hexL 6 n.toNat [] (by omega)
    unfold pointL
    rw [this]
    show ((n.toNat : Nat) : Int) = n
    omega
  rw [hexAns_fin (by rw [size_bsL]; omega) (by rw [size_bsL]; omega), hf, hv, hexFin_le (by omega)]

/-! ### The head -/
theorem index_no : ∀ (p : List UInt8), (∀ b ∈ p, b ≠ 46) → Lib.index p [46, 46] = -1
  | [], _ => rfl
  | b :: p, h => by
    have ih := index_no p (fun x hx => h x (List.mem_cons_of_mem _ hx))
    have hb := h b List.mem_cons_self
    have e : ([46, 46] : List UInt8).isPrefixOf (b :: p) = false := by
      simp only [List.isPrefixOf]
      rw [beq_eq_false_iff_ne.2 (fun e => hb e.symm)]
      rfl
    rw [Lib.index, e, ih]
    rfl
theorem index_at (q : List UInt8) : ∀ (p : List UInt8), (∀ b ∈ p, b ≠ 46) → Lib.index (p ++ 46 :: 46 :: q) [46, 46] = (p.length : Int)
  | [], _ => by
    show Lib.index (46 :: 46 :: q) [46, 46] = 0
    rw [Lib.index]
    rfl
  | b :: p, h => by
    have ih := index_at q p (fun x hx => h x (List.mem_cons_of_mem _ hx))
    have hb := h b List.mem_cons_self
    have e : ([46, 46] : List UInt8).isPrefixOf (b :: (p ++ 46 :: 46 :: q)) = false := by
      simp only [List.isPrefixOf]
      rw [beq_eq_false_iff_ne.2 (fun e => hb e.symm)]
      rfl
    have e2 : ((p.length : Int) == -1) = false := beq_eq_false_iff_ne.2 (by omega)
    show Lib.index (b :: (p ++ 46 :: 46 :: q)) [46, 46] = _
    rw [Lib.index, e, ih, e2]
    simp
theorem head_dots (r : Rc) : dotsB (bsL (headT r)) = (bsL (pointL r.f0.toNat), bsL (if r.f0 < r.f1 then pointL r.f1.toNat else pointL r.f0.toNat)) := by
  have hp : ∀ b ∈ pointL r.f0.toNat, b ≠ 46 := fun b hb => (isHex_d (pointL_hex _ b hb)).2.1
  unfold dotsB
  rw [data_bsL]
  by_cases h : r.f0 < r.f1
  · have e : headT r = pointL r.f0.toNat ++ 46 :: 46 :: pointL r.f1.toNat := by unfold headT; rw [if_pos h]; rfl
    have hi := index_at (pointL r.f1.toNat) _ hp
    rw [e]
    have hc : Lib.cut (pointL r.f0.toNat ++ 46 :: 46 :: pointL r.f1.toNat) [46, 46] = (pointL r.f0.toNat, pointL r.f1.toNat, true) := by
      unfold Lib.cut
      rw [hi, if_pos (by omega), Int.toNat_natCast]
      simp
    rw [hc, if_pos rfl, if_pos h]
  · have e : headT r = pointL r.f0.toNat := by unfold headT; rw [if_neg h, List.append_nil]
    rw [e]
    have hc : Lib.cut (pointL r.f0.toNat) [46, 46] = (pointL r.f0.toNat, [], false) := by
      unfold Lib.cut
      rw [index_no _ hp, if_neg (by decide)]
    rw [hc, if_neg (show ¬ (pointL r.f0.toNat, ([] : List UInt8), false).2.2 = true from Bool.false_ne_true), if_neg h]
theorem head_plain (r : Rc) : ∀ b ∈ headT r, blank b = false ∧ b ≠ 59 ∧ bad3 b = false := by
  intro b hb
  unfold headT at hb
  rcases List.mem_append.1 hb with hb | hb
  · have := isHex_d (pointL_hex _ b hb)
    exact ⟨this.2.2.1, this.2.2.2.1, this.2.2.2.2⟩
  · split at hb
    · rcases List.mem_append.1 hb with hb | hb
      · have : b = 46 := by
          simp at hb
          exact hb
        subst this
        exact ⟨by decide, by decide, by decide⟩
      · have := isHex_d (pointL_hex _ b hb)
        exact ⟨this.2.2.1, this.2.2.2.1, this.2.2.2.2⟩
    · cases hb
theorem head_ne (r : Rc) : headT r ≠ [] := by
  intro h
  have hg : 4 ≤ (pointL r.f0.toNat).length := hexL_least 6 r.f0.toNat [] (by decide)
  unfold headT at h
  have := List.append_eq_nil_iff.1 h
  rw [this.1] at hg
  simp at hg

/-! ### Trimmed parts -/
theorem dropWhile_twice : ∀ l : List UInt8, (l.dropWhile blank).dropWhile blank = l.dropWhile blank
  | [] => rfl
  | b :: l => by
    by_cases hb : blank b = true
    · rw [List.dropWhile_cons, if_pos hb]
      exact dropWhile_twice l
    · rw [List.dropWhile_cons, if_neg hb, List.dropWhile_cons, if_neg hb]
theorem dropWhile_whole (l : List UInt8) (h : (l.dropWhile blank).length = l.length) : l.dropWhile blank = l := by
  cases l with
  | nil => rfl
  | cons b t =>
    by_cases hb : blank b = true
    · rw [List.dropWhile_cons, if_pos hb, List.length_cons] at h
      have := dropWhile_length blank t
      omega
    · rw [List.dropWhile_cons, if_neg hb]
theorem trL_plain {l : List UInt8} (h : ∀ b ∈ l, blank b = false) : trL l = l := by
  cases l with
  | nil => rfl
  | cons b t =>
    unfold trL
    rw [List.dropWhile_cons, if_neg (by rw [h b List.mem_cons_self]; decide)]
theorem trR_plain {l : List UInt8} (h : ∀ b ∈ l, blank b = false) : trR l = l := by
  unfold trR
  have e := trL_plain (l := l.reverse) (fun b hb => h b (List.mem_reverse.1 hb))
  unfold trL at e
  rw [e, List.reverse_reverse]
theorem trimL_plain {l : List UInt8} (h : ∀ b ∈ l, blank b = false) : trimL l = l := by
  rw [trimL_tr, trL_plain h, trR_plain h]
theorem trimL_lead (b : UInt8) (l : List UInt8) (hb : blank b = true) : trimL (b :: l) = trimL l := by
  rw [trimL_tr, trimL_tr]
  have : trL (b :: l) = trL l := by unfold trL; rw [List.dropWhile_cons, if_pos hb]
  rw [this]
theorem trR_tail (b : UInt8) (l : List UInt8) (hb : blank b = true) : trR (l ++ [b]) = trR l := by
  unfold trR
  rw [List.reverse_append]
  show ((b :: l.reverse).dropWhile blank).reverse = _
  rw [List.dropWhile_cons, if_pos hb]
theorem trimL_tail (b : UInt8) (l : List UInt8) (hb : blank b = true) : trimL (l ++ [b]) = trimL l := by
  rw [trimL_tr, trimL_tr, tr_comm, tr_comm, trR_tail b l hb]
theorem trR_app {f : List UInt8} (x : List UInt8) (hne : f ≠ []) (hf : trR f = f) : trR (x ++ f) = x ++ f := by
  unfold trR at hf ⊢
  have h1 : f.reverse.dropWhile blank = f.reverse := by
    have := congrArg List.reverse hf
    rwa [List.reverse_reverse] at this
  cases hr : f.reverse with
  | nil => exact absurd (List.reverse_eq_nil_iff.1 hr) hne
  | cons b g =>
    rw [hr, List.dropWhile_cons] at h1
    by_cases hb : blank b = true
    · rw [if_pos hb] at h1
      have h2 := dropWhile_length blank g
      rw [h1, List.length_cons] at h2
      omega
    · rw [List.reverse_append, hr, List.cons_append, List.dropWhile_cons, if_neg hb, ← List.cons_append, ← hr, ← List.reverse_append, List.reverse_reverse]
theorem fieldOk_list {f : ByteArray} (h : fieldOk f = true) : trimL f.data.toList = f.data.toList ∧ ∀ b ∈ f.data.toList, bad3 b = false := by
  obtain ⟨h1, h2⟩ := (fieldOk_iff f).1 h
  refine ⟨?_, h2⟩
  have := congrArg (fun s : ByteArray => s.data.toList) h1
  simpa [trimB, data_bsL] using this
theorem trR_ok {f : List UInt8} (h : trimL f = f) : trR f = f := by
  have h1 : trR (trR f) = trR f := by
    unfold trR
    rw [List.reverse_reverse]
    congr 1
    exact dropWhile_twice f.reverse
  rw [trimL_tr] at h
  have h2 : (trR (trL f)).length ≤ (trL f).length := by
    unfold trR
    have := dropWhile_length blank (trL f).reverse
    rw [List.length_reverse] at this ⊢
    exact this
  have h3 : trL f = f := by
    have h4 : (trL f).length ≤ f.length := dropWhile_length blank f
    have h5 : (trL f).length = f.length := by
      have := congrArg List.length h
      omega
    exact dropWhile_whole f h5
  rw [h3] at h
  exact h

/-! ### The parts between strokes -/
theorem cut_fields : ∀ (fs : List ByteArray) (p : List UInt8), (∀ b ∈ p, b ≠ 59) → (∀ f ∈ fs, ∀ b ∈ f.data.toList, b ≠ 59) → (cutL 59 (p ++ fs.flatMap fieldT)).map trimL = trimL p :: fs.map (fun f => trimL f.data.toList)
  | [], p, hp, _ => by
    rw [List.flatMap_nil, List.append_nil, cutL_none hp]
    rfl
  | f :: fs, p, hp, h => by
    have ih := cut_fields fs (32 :: f.data.toList) (fun b hb => by
      rcases List.mem_cons.1 hb with rfl | hb
      · decide
      · exact h f List.mem_cons_self b hb) (fun g hg => h g (List.mem_cons_of_mem _ hg))
    have e : p ++ (f :: fs).flatMap fieldT = (p ++ [32]) ++ 59 :: (32 :: f.data.toList ++ fs.flatMap fieldT) := by
      rw [List.flatMap_cons]
      unfold fieldT
      simp
    rw [e, cutL_hit _ (fun b hb => by
      rcases List.mem_append.1 hb with hb | hb
      · exact hp b hb
      · have : b = 32 := by simpa using hb
        rw [this]
        decide), List.map_cons, ih, trimL_tail 32 p (by decide), trimL_lead 32 _ (by decide)]
    rfl
theorem cut_fields_end : ∀ (fs : List ByteArray) (p : List UInt8), (∀ b ∈ p, b ≠ 59) → (∀ f ∈ fs, ∀ b ∈ f.data.toList, b ≠ 59) → (cutL 59 (p ++ fs.flatMap fieldT ++ [32, 59])).map trimL = trimL p :: (fs.map (fun f => trimL f.data.toList) ++ [[]])
  | [], p, hp, _ => by
    have e : p ++ List.flatMap fieldT [] ++ [32, 59] = (p ++ [32]) ++ 59 :: [] := by simp
    rw [e, cutL_hit _ (fun b hb => by
      rcases List.mem_append.1 hb with hb | hb
      · exact hp b hb
      · have : b = 32 := by simpa using hb
        rw [this]
        decide), List.map_cons, trimL_tail 32 p (by decide)]
    rfl
  | f :: fs, p, hp, h => by
    have ih := cut_fields_end fs (32 :: f.data.toList) (fun b hb => by
      rcases List.mem_cons.1 hb with rfl | hb
      · decide
      · exact h f List.mem_cons_self b hb) (fun g hg => h g (List.mem_cons_of_mem _ hg))
    have e : p ++ (f :: fs).flatMap fieldT ++ [32, 59] = (p ++ [32]) ++ 59 :: (32 :: f.data.toList ++ fs.flatMap fieldT ++ [32, 59]) := by
      rw [List.flatMap_cons]
      unfold fieldT
      simp
    rw [e, cutL_hit _ (fun b hb => by
      rcases List.mem_append.1 hb with hb | hb
      · exact hp b hb
      · have : b = 32 := by simpa using hb
        rw [this]
        decide), List.map_cons, ih, trimL_tail 32 p (by decide), trimL_lead 32 _ (by decide)]
    rfl

/-! ### A record's line -/
def bodyT (r : Rc) : List UInt8 := headT r ++ r.f2.flatMap fieldT
theorem recT_body (r : Rc) : recT r = bodyT r ++ [10] := rfl
theorem bad3_59 {b : UInt8} (h : bad3 b = false) : b ≠ 59 ∧ b ≠ 35 ∧ b ≠ 10 := bad3_no h
theorem flat_plain (fs : List ByteArray) (h : ∀ f ∈ fs, fieldOk f = true) : ∀ b ∈ fs.flatMap fieldT, b ≠ 35 ∧ b ≠ 10 := by
  intro b hb
  obtain ⟨f, hf, hb⟩ := List.mem_flatMap.1 hb
  unfold fieldT at hb
  rcases List.mem_append.1 hb with hb | hb
  · simp at hb
    rcases hb with rfl | rfl | rfl <;> decide
  · exact (bad3_no ((fieldOk_list (h f hf)).2 b hb)).2
theorem body_plain (r : Rc) (h : recOk r = true) : ∀ b ∈ bodyT r, b ≠ 35 ∧ b ≠ 10 := by
  intro b hb
  rcases List.mem_append.1 hb with hb | hb
  · exact (bad3_no (head_plain r b hb).2.2).2
  · exact flat_plain r.f2 ((recOk_iff r).1 h).2.2.2.2 b hb
theorem body_parts (r : Rc) (h : recOk r = true) : (cutL 59 (trimL (bodyT r))).map trimL = headT r :: r.f2.map (fun f => f.data.toList) ∧ trimL (bodyT r) ≠ [] := by
  obtain ⟨_, _, _, hl, hok⟩ := (recOk_iff r).1 h
  have hhp : ∀ b ∈ headT r, b ≠ 59 := fun b hb => (head_plain r b hb).2.1
  have hf59 : ∀ f ∈ r.f2, ∀ b ∈ f.data.toList, b ≠ 59 := fun f hf b hb => (bad3_no ((fieldOk_list (hok f hf)).2 b hb)).1
  have hth : trimL (headT r) = headT r := trimL_plain (fun b hb => (head_plain r b hb).1)
  have hmap : r.f2.map (fun f => trimL f.data.toList) = r.f2.map (fun f => f.data.toList) := List.map_congr_left (fun f hf => (fieldOk_list (hok f hf)).1)
  have hlead : trL (bodyT r) = bodyT r := by
    unfold bodyT
    cases hh : headT r with
    | nil => exact absurd hh (head_ne r)
    | cons b t =>
      have hb : blank b = false := (head_plain r b (by rw [hh]; exact List.mem_cons_self)).1
      unfold trL
      rw [List.cons_append, List.dropWhile_cons, if_neg (by rw [hb]; decide)]
  rw [trimL_tr, hlead]
  obtain ⟨fs, f, hfs⟩ : ∃ fs f, r.f2 = fs ++ [f] := ⟨r.f2.dropLast, r.f2.getLast (by intro e; rw [e] at hl; simp at hl), (List.dropLast_concat_getLast _).symm⟩
  have hfo := fieldOk_list (hok f (by rw [hfs]; simp))
  by_cases he : f.data.toList = []
  · have e : bodyT r = (headT r ++ fs.flatMap fieldT ++ [32, 59]) ++ [32] := by
      unfold bodyT
      rw [hfs, List.flatMap_append]
      have : List.flatMap fieldT [f] = [32, 59, 32] := by simp [fieldT, he]
      rw [this]
      simp
    have e2 : trR (bodyT r) = headT r ++ fs.flatMap fieldT ++ [32, 59] := by
      rw [e, trR_tail _ _ (by decide)]
      have := trR_app (headT r ++ fs.flatMap fieldT ++ [32]) (f := [59]) (by simp) (by decide)
      simpa using this
    rw [e2]
    refine ⟨?_, by simp⟩
    rw [cut_fields_end fs (headT r) hhp (fun g hg => hf59 g (by rw [hfs]; exact List.mem_append_left _ hg)), hth]
    rw [hfs, List.map_append] at hmap
    have hm2 : fs.map (fun f => trimL f.data.toList) = fs.map (fun f => f.data.toList) := List.map_congr_left (fun g hg => (fieldOk_list (hok g (by rw [hfs]; exact List.mem_append_left _ hg))).1)
    rw [hm2, hfs, List.map_append]
    simp [he]
  · have e2 : trR (bodyT r) = bodyT r := by
      have e : bodyT r = (headT r ++ fs.flatMap fieldT ++ [32, 59, 32]) ++ f.data.toList := by
        unfold bodyT
        rw [hfs, List.flatMap_append]
        have : List.flatMap fieldT [f] = [32, 59, 32] ++ f.data.toList := by simp [fieldT]
        rw [this]
        simp
      rw [e]
      exact trR_app _ he (trR_ok hfo.1)
    rw [e2]
    refine ⟨?_, fun h0 => head_ne r (List.append_eq_nil_iff.1 h0).1⟩
    unfold bodyT
    rw [cut_fields r.f2 (headT r) hhp hf59, hth, hmap]
theorem body_fields (r : Rc) (h : recOk r = true) : fieldsB (bsL (bodyT r)) = bsL (headT r) :: r.f2 := by
  obtain ⟨h1, h2⟩ := body_parts r h
  have hu : upB 35 (bsL (bodyT r)) = bsL (bodyT r) := by
    unfold upB upL
    rw [data_bsL, cutL_none (fun b hb => (body_plain r h b hb).1)]
    rfl
  have ht : trimB (bsL (bodyT r)) = bsL (trimL (bodyT r)) := by unfold trimB; rw [data_bsL]
  unfold fieldsB
  rw [hu, ht, if_neg (by rw [size_bsL]; intro e; exact h2 (List.length_eq_zero_iff.1 e))]
  unfold cutB
  rw [data_bsL, List.map_map]
  have e : (trimB ∘ bsL) = (bsL ∘ trimL) := by
    funext x
    show trimB (bsL x) = bsL (trimL x)
    unfold trimB
    rw [data_bsL]
  rw [e, ← List.map_map, h1, List.map_cons, List.map_map]
  congr 1
  have e2 : (bsL ∘ fun f : ByteArray => f.data.toList) = id := by
    funext x
    exact bsL_data x
  rw [e2, List.map_id]
theorem body_rec (r : Rc) (h : recOk r = true) : recB (bsL (headT r) :: r.f2) = some r := by
  obtain ⟨h0, h1, h2, hl, _⟩ := (recOk_iff r).1 h
  have hd := head_dots r
  rw [recB_long (f := bsL (headT r) :: r.f2) (by rw [List.length_cons]; omega)]
  have e0 : (bsL (headT r) :: r.f2)[0]'(by simp) = bsL (headT r) := rfl
  rw [e0, hd]
  by_cases hlt : r.f0 < r.f1
  · rw [if_pos hlt, hexAns_point r.f0 h0 (by omega), hexAns_point r.f1 (by omega) h2, if_pos ⟨rfl, rfl, h1⟩]
    rfl
  · have he : r.f1 = r.f0 := by omega
    rw [if_neg hlt, hexAns_point r.f0 h0 (by omega), if_pos ⟨rfl, rfl, Int.le_refl _⟩]
    obtain ⟨q0, q1, q2⟩ := r
    simp only at he
    subst he
    rfl

/-! ### The text -/
theorem cut_text (t : List UInt8) : ∀ l : List Rc, (∀ r ∈ l, recOk r = true) → cutL 10 (textT l ++ t) = l.map bodyT ++ cutL 10 t
  | [], _ => rfl
  | r :: l, h => by
    have ih := cut_text t l (fun q hq => h q (List.mem_cons_of_mem _ hq))
    have e : textT (r :: l) ++ t = bodyT r ++ 10 :: (textT l ++ t) := by
      unfold textT
      rw [List.flatMap_cons, recT_body]
      simp
    rw [e, cutL_hit _ (fun b hb => (body_plain r (h r List.mem_cons_self) b hb).2), ih]
    rfl
theorem lines_text : ∀ (l : List Rc) (t : List ByteArray) (i : Nat) (out : List Rc), (∀ r ∈ l, recOk r = true) → linesB ((l.map bodyT).map bsL ++ t) i out = linesB t (i + l.length) (out ++ l)
  | [], t, i, out, _ => by simp
  | r :: l, t, i, out, h => by
    have hr := h r List.mem_cons_self
    have ih := lines_text l t (i + 1) (out ++ [r]) (fun q hq => h q (List.mem_cons_of_mem _ hq))
    have hf := body_fields r hr
    have hstep := linesB_good (x := bsL (bodyT r)) (r := (l.map bodyT).map bsL ++ t) (i := i) (out := out) (q := r) (by rw [hf]; simp) (by rw [hf]; exact body_rec r hr)
    show linesB (bsL (bodyT r) :: ((l.map bodyT).map bsL ++ t)) i out = _
    rw [hstep, ih, List.append_assoc, List.length_cons]
    congr 1
    omega
theorem parse_print (l : List Rc) (h : ∀ r ∈ l, recOk r = true) : parseB (bsL (textT l)) = (l, 0, 0) := by
  have hc := cut_text [] l h
  rw [List.append_nil] at hc
  unfold parseB cutB
  rw [data_bsL, hc, List.map_append, lines_text l _ 0 [] h]
  have e : (cutL 10 []).map bsL = [bsL []] := rfl
  rw [e, linesB_skip (by decide)]
  simp [linesB_nil]

end Go.Proofs.YtooehjbbphokbaaDoor
