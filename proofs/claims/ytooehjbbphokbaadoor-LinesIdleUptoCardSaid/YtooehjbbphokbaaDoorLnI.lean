/- The reference's Print: what its printed words come to, as a contract. -/
import Derived.Test.YtooehjbbphokbaaDoorLnG
import Derived.Test.YtooehjbbphokbaaDoorLnH
namespace Go.Proofs.YtooehjbbphokbaaDoor
set_option linter.unusedVariables false
set_option linter.unusedSimpArgs false
open Go.RowKit Go.Proofs.YtooehjbbphokbaaDoorW.PrintWords Go.Proofs.YtooehjbbphokbaaDoorW.PrintLast Go.Proofs.YtooehjbbphokbaaDoorW.PrintMore Go.Proofs.YtooehjbbphokbaaDoor.PLinesRead Go.Proofs.YtooehjbbphokbaaDoor.PLinesPrint

theorem bsL_append (a b : List UInt8) : bsL a ++ bsL b = bsL (a ++ b) := by
  apply ByteArray.ext
  apply Array.toList_inj.1
  simp [bsL, ByteArray.data_append]
theorem digE (d : Nat) (hd : d < 16) : (⟨#[48, 49, 50, 51, 52, 53, 54, 55, 56, 57, 65, 66, 67, 68, 69, 70]⟩ : ByteArray).extract d (d + 1) = bsL [hexC d] := by
  have h : ∀ d : Fin 16, (⟨#[48, 49, 50, 51, 52, 53, 54, 55, 56, 57, 65, 66, 67, 68, 69, 70]⟩ : ByteArray).extract d.val (d.val + 1) = bsL [hexC d.val] := by decide
  exact h ⟨d, hd⟩
theorem point_ev0 : ∀ (j n : Nat) (acc : List UInt8), n < 16 ^ j → acc.length + j = 6 → Ev (fun k => rubricatorref02_point.l0 k (n : Int) (bsL acc)) (bsL (hexL j n acc))
  | 0, n, acc, hn, ha => by
    have h0 : n = 0 := by simpa using hn
    subst h0
    refine Ev.step (f := fun _ => some (bsL acc)) (fun k => ?_) (Ev.now _)
    rw [rubricatorref02_point.l0, if_neg (by omega), if_neg (by rw [size_bsL]; omega)]
  | j + 1, n, acc, hn, ha => by
    by_cases hgo : 0 < n ∨ acc.length < 4
    · have ih := point_ev0 j (n / 16) (hexC (n % 16) :: acc) (by rw [Nat.pow_succ] at hn; omega) (by simp only [List.length_cons]; omega)
      rw [hexL_go hgo]
      have hb : n < 16777216 := by
        have : 16 ^ (j + 1) ≤ 16 ^ 6 := Nat.pow_le_pow_right (by decide) (by omega)
        omega
      have e1 : Int.tmod (n : Int) 16 = ((n % 16 : Nat) : Int) := by rw [Int.tmod_eq_emod_of_nonneg (by omega)]; omega
      have e2 : wrap64 (Int.tdiv (n : Int) 16) = ((n / 16 : Nat) : Int) := by rw [Int.tdiv_eq_ediv_of_nonneg (by omega), w64_in _ (by omega)]; omega
      have e3 : wrap64 (((n % 16 : Nat) : Int) + 1) = ((n % 16 + 1 : Nat) : Int) := by rw [w64_in _ (by omega)]; omega
      have hd := digE (n % 16) (by omega)
      have hsz : (bsL [hexC (n % 16)]).size + (bsL acc).size ≤ 9223372036854775807 := by rw [size_bsL, size_bsL]; simp only [List.length_cons, List.length_nil]; omega
      refine Ev.step (fun k => ?_) ih
      rw [rubricatorref02_point.l0, e1, e2, e3, Int.toNat_natCast, Int.toNat_natCast, hd, if_pos (show (0 : Int) ≤ ((n % 16 : Nat) : Int) by omega), if_pos (show ((n % 16 : Nat) : Int) ≤ ((n % 16 + 1 : Nat) : Int) by omega), if_pos (show ((n % 16 + 1 : Nat) : Int) ≤ 16 by omega), if_pos hsz, bsL_append]
      by_cases h0 : 0 < n
      · rw [if_pos (show (n : Int) > 0 by omega)]
        rfl
      · rw [if_neg (show ¬ (n : Int) > 0 by omega), if_pos (show ((bsL acc).size : Int) < 4 by rw [size_bsL]; omega)]
        rfl
    · rw [hexL_end (by omega) (by omega)]
      refine Ev.step (f := fun _ => some (bsL acc)) (fun k => ?_) (Ev.now _)
      rw [rubricatorref02_point.l0, if_neg (by omega), if_neg (by rw [size_bsL]; omega)]
theorem point_ev (n : Int) (h0 : 0 ≤ n) (h1 : n ≤ 1114111) : Ev (fun k => rubricatorref02_point.f k n) (bsL (pointL n.toNat)) := by
  have h := point_ev0 6 n.toNat [] (by omega) rfl
  rw [Int.toNat_of_nonneg h0] at h
  exact h

/-- The bytes that no field may hold. -/
def bad3 (b : UInt8) : Bool := b == 59 || b == 35 || b == 10
theorem bad3_no {b : UInt8} (h : bad3 b = false) : b ≠ 59 ∧ b ≠ 35 ∧ b ≠ 10 := by
  unfold bad3 at h
  simp only [Bool.or_eq_false_iff, beq_eq_false_iff_ne] at h
  exact ⟨h.1.1, h.1.2, h.2⟩
theorem fieldOk_iff (f : ByteArray) : fieldOk f = true ↔ trimB f = f ∧ ∀ b ∈ f.data.toList, bad3 b = false := by
  unfold fieldOk
  simp only [Bool.and_eq_true, decide_eq_true_eq, Bool.not_eq_true', List.contains_eq_mem, decide_eq_false_iff_not, and_assoc]
  refine and_congr_right fun _ => ⟨fun ⟨h1, h2, h3⟩ b hb => ?_, fun h => ⟨fun hh => ?_, fun hh => ?_, fun hh => ?_⟩⟩
  · unfold bad3
    simp only [Bool.or_eq_false_iff, beq_eq_false_iff_ne]
    exact ⟨⟨fun e => h1 (e ▸ hb), fun e => h2 (e ▸ hb)⟩, fun e => h3 (e ▸ hb)⟩
  · exact absurd (h _ hh) (by decide)
  · exact absurd (h _ hh) (by decide)
  · exact absurd (h _ hh) (by decide)
theorem pr_ev2 (R : ByteArray × Int) (T F : List UInt8) (x10 : List Rc) (x11 x12 : Int) (x54 : List ByteArray) (x55 x56 : Int) (hs : T.length + F.length + 3 < 9223372036854775807)
    (hgood : (∀ b ∈ F, bad3 b = false) → Ev (fun k => rubricatorref02_Print.l1 k (bsL (T ++ ([32, 59, 32] ++ F))) x10 x11 x12 x54 x55 (wrap64 (x56 + 1))) R)
    (hbad : (∃ b ∈ F, bad3 b = true) → R = (⟨#[]⟩, 1)) : ∀ (m p : Nat), p + m = F.length → (∀ b ∈ F.take p, bad3 b = false) →
    Ev (fun k => rubricatorref02_Print.l2 k (bsL T) (bsL F) (p : Int) x10 x11 x12 x54 x55 x56) R
  | 0, p, hp, ha => by
    rw [List.take_of_length_le (by omega)] at ha
    refine Ev.step (fun k => ?_) (hgood ha)
    have e : (⟨#[32, 59, 32]⟩ : ByteArray) = bsL [32, 59, 32] := rfl
    rw [rubricatorref02_Print.l2, if_neg (by rw [size_bsL]; omega), if_pos (by rw [size_bsL]; omega), e, bsL_append, if_pos (by rw [size_bsL, size_bsL]; simp only [List.length_append, List.length_cons, List.length_nil]; omega), bsL_append]
  | m + 1, p, hp, ha => by
    have hlt : p < F.length := by omega
    have e2 : wrap64 ((p : Int) + 1) = ((p + 1 : Nat) : Int) := by rw [w64_in _ (by omega)]; omega
    by_cases hb : bad3 F[p] = true
    · rw [hbad ⟨_, List.getElem_mem hlt, hb⟩]
      refine Ev.step (f := fun _ => some (⟨#[]⟩, 1)) (fun k => ?_) (Ev.now _)
      have h59 : ((F[p].toNat : Int) = 59) = (F[p] = 59) := propext (u8_eq (b := 59))
      have h35 : ((F[p].toNat : Int) = 35) = (F[p] = 35) := propext (u8_eq (b := 35))
      have h10 : ((F[p].toNat : Int) = 10) = (F[p] = 10) := propext (u8_eq (b := 10))
      rw [rubricatorref02_Print.l2, if_pos (by rw [size_bsL]; omega), if_pos (by omega), bt_bsL F p hlt]
      unfold bad3 at hb
      simp only [Bool.or_eq_true, beq_iff_eq] at hb
      by_cases h1 : F[p] = 59
      · rw [if_pos (by rw [h59]; exact h1)]
      · rw [if_neg (by rw [h59]; exact h1)]
        by_cases h2 : F[p] = 35
        · rw [if_pos (by rw [h35]; exact h2)]
        · rw [if_neg (by rw [h35]; exact h2), if_pos (by rw [h10]; rcases hb with (h | h) | h; exact absurd h h1; exact absurd h h2; exact h)]
    · have hb0 : bad3 F[p] = false := by simpa using hb
      obtain ⟨n1, n2, n3⟩ := bad3_no hb0
      have ih := pr_ev2 R T F x10 x11 x12 x54 x55 x56 hs hgood hbad m (p + 1) (by omega) (fun b hb => by
        rw [List.take_succ_eq_append_getElem hlt] at hb
        rcases List.mem_append.1 hb with hb | hb
        · exact ha b hb
        · rw [List.mem_singleton] at hb
          rw [hb]
          exact hb0)
      refine Ev.step (fun k => ?_) ih
      have h59 : ((F[p].toNat : Int) = 59) = (F[p] = 59) := propext (u8_eq (b := 59))
      have h35 : ((F[p].toNat : Int) = 35) = (F[p] = 35) := propext (u8_eq (b := 35))
      have h10 : ((F[p].toNat : Int) = 10) = (F[p] = 10) := propext (u8_eq (b := 10))
      rw [rubricatorref02_Print.l2, if_pos (by rw [size_bsL]; omega), if_pos (by omega), bt_bsL F p hlt, if_neg (by rw [h59]; exact n1), if_neg (by rw [h35]; exact n2), if_neg (by rw [h10]; exact n3), e2]
theorem pr_ev1 (R : ByteArray × Int) (x10 : List Rc) (x11 x12 : Int) (fs : List ByteArray) (H : List UInt8) (hl : fs.length < 4294967290) (hs : H.length + (fs.flatMap fieldT).length + 1 < 4294967281)
    (hgood : (∀ f ∈ fs, fieldOk f = true) → Ev (fun k => rubricatorref02_Print.l0 k (bsL (H ++ fs.flatMap fieldT ++ [10])) x10 x11 (wrap64 (x12 + 1))) R)
    (hbad : (∃ f ∈ fs, fieldOk f = false) → R = (⟨#[]⟩, 1)) : ∀ (m j : Nat), j + m = fs.length → (∀ f ∈ fs.take j, fieldOk f = true) →
    Ev (fun k => rubricatorref02_Print.l1 k (bsL (H ++ (fs.take j).flatMap fieldT)) x10 x11 x12 fs (fs.length : Int) (j : Int)) R
  | 0, j, hj, ha => by
    rw [List.take_of_length_le (by omega)] at ha ⊢
    refine Ev.step (fun k => ?_) (hgood ha)
    have e : (⟨#[10]⟩ : ByteArray) = bsL [10] := rfl
    rw [rubricatorref02_Print.l1, if_neg (by omega), if_pos (by rw [size_bsL, List.length_append]; omega), e, bsL_append]
  | m + 1, j, hj, ha => by
    have hlt : j < fs.length := by omega
    have hm := flatMap_mem fieldT fs j hlt
    have hfl : (fieldT fs[j]).length = fs[j].data.toList.length + 3 := by unfold fieldT; rw [List.length_append]; simp only [List.length_cons, List.length_nil]; omega
    have e2 : wrap64 ((j : Int) + 1) = ((j + 1 : Nat) : Int) := by rw [w64_in _ (by omega)]; omega
    have htr := trim_ev fs[j] (by rw [Lib.size_eq fs[j]]; omega)
    have hstep : ∀ k, rubricatorref02_Print.l1 (k + 1) (bsL (H ++ (fs.take j).flatMap fieldT)) x10 x11 x12 fs (fs.length : Int) (j : Int) = (rubricatorref02_trim.f k fs[j]).bind fun t => if t.toList = fs[j].toList then rubricatorref02_Print.l2 k (bsL (H ++ (fs.take j).flatMap fieldT)) fs[j] 0 x10 x11 x12 fs (fs.length : Int) (j : Int) else some (⟨#[]⟩, 1) := fun k => by
      rw [rubricatorref02_Print.l1, if_pos (by omega), if_pos (by omega), if_pos (by omega), rd_str fs j hlt]
    refine Ev.step hstep (Ev.bind htr ?_)
    by_cases ht : trimB fs[j] = fs[j]
    · have h2 := pr_ev2 R (H ++ (fs.take j).flatMap fieldT) fs[j].data.toList x10 x11 x12 fs (fs.length : Int) (j : Int) (by rw [List.length_append]; omega) (fun hb => by
        have hok : fieldOk fs[j] = true := (fieldOk_iff _).2 ⟨ht, hb⟩
        have ih := pr_ev1 R x10 x11 x12 fs H hl hs hgood hbad m (j + 1) (by omega) (fun f hf => by
          rw [List.take_succ_eq_append_getElem hlt] at hf
          rcases List.mem_append.1 hf with hf | hf
          · exact ha f hf
          · rw [List.mem_singleton] at hf
            rw [hf]
            exact hok)
        rw [fieldsT_take hlt, ← List.append_assoc] at ih
        rw [e2]
        exact ih) (fun ⟨b, hb, hbb⟩ => hbad ⟨_, List.getElem_mem hlt, by
        cases hh : fieldOk fs[j] with
        | false => rfl
        | true => have := ((fieldOk_iff _).1 hh).2 b hb; rw [this] at hbb; cases hbb⟩) fs[j].data.toList.length 0 (by omega) (by simp)
      rw [bsL_data] at h2
      exact Ev.congr (fun k => by rw [if_pos (by rw [ht])]; rfl) h2
    · have hR : R = (⟨#[]⟩, 1) := hbad ⟨_, List.getElem_mem hlt, by
        cases hh : fieldOk fs[j] with
        | false => rfl
        | true => exact absurd ((fieldOk_iff _).1 hh).1 ht⟩
      rw [hR]
      refine Ev.congr (f := fun _ => some (⟨#[]⟩, 1)) (fun k => ?_) (Ev.now _)
      rw [if_neg]
      intro e
      rw [Lib.toList_data, Lib.toList_data] at e
      exact ht (by rw [← bsL_data (trimB fs[j]), e, bsL_data])
theorem rd_rec (l : List Rc) (j : Nat) (h : j < l.length) : rd_T48 l (j : Int) = l[j] := by simp [rd_T48, h]
theorem pr_evj1t (T : ByteArray) (l : List Rc) (x11 x12 a b : Int) (fs : List ByteArray) : Ev (fun k => rubricatorref02_Print.j1 k T l x11 x12 true a b fs) (⟨#[]⟩, 1) := by
  refine Ev.step (f := fun _ => some (⟨#[]⟩, 1)) (fun k => ?_) (Ev.now _)
  rw [rubricatorref02_Print.j1, if_pos rfl]
theorem pr_ev0 (l : List Rc) (hl : l.length < 4294967290) (hf : ∀ r ∈ l, r.f2.length < 4294967290) (hs : (textT l).length < 4294967281) : ∀ (m i : Nat), i + m = l.length → (∀ r ∈ l.take i, recOk r = true) →
    Ev (fun k => rubricatorref02_Print.l0 k (bsL (textT (l.take i))) l (l.length : Int) (i : Int)) (printL l)
  | 0, i, hi, ha => by
    rw [List.take_of_length_le (by omega)] at ha ⊢
    rw [printL_good ha]
    refine Ev.step (f := fun _ => some (bsL (textT l), 0)) (fun k => ?_) (Ev.now _)
    rw [rubricatorref02_Print.l0, if_neg (by omega)]
  | m + 1, i, hi, ha => by
    have hlt : i < l.length := by omega
    have hm := flatMap_mem recT l i hlt
    have hrl : (recT l[i]).length = (headT l[i]).length + (l[i].f2.flatMap fieldT).length + 1 := by unfold recT; rw [List.length_append, List.length_append]; rfl
    have e2 : wrap64 ((i : Int) + 1) = ((i + 1 : Nat) : Int) := by rw [w64_in _ (by omega)]; omega
    have hin := List.getElem_mem hlt
    have hfl := hf _ hin
    have ih : recOk l[i] = true → Ev (fun k => rubricatorref02_Print.l0 k (bsL (textT (l.take i) ++ recT l[i])) l (l.length : Int) ((i + 1 : Nat) : Int)) (printL l) := fun hok => by
      have h := pr_ev0 l hl hf hs m (i + 1) (by omega) (fun r hr => by
        rw [List.take_succ_eq_append_getElem hlt] at hr
        rcases List.mem_append.1 hr with hr | hr
        · exact ha r hr
        · rw [List.mem_singleton] at hr
          rw [hr]
          exact hok)
      rw [textT_take hlt] at h
      exact h
    have htx : textT l = l.flatMap recT := rfl
    have htk : textT (l.take i) = (l.take i).flatMap recT := rfl
    rw [htx] at hs
    have hbadR : recOk l[i] = false → printL l = (⟨#[]⟩, 1) := fun h => printL_bad hin h
    have hrd := rd_rec l i hlt
    have hTl : (textT (l.take i)).length + (recT l[i]).length < 4294967281 := by rw [htk]; omega
    obtain ⟨T, hT⟩ : ∃ T, textT (l.take i) = T := ⟨_, rfl⟩
    rw [hT] at ih hTl ⊢
    obtain ⟨R, hR⟩ : ∃ R, printL l = R := ⟨_, rfl⟩
    rw [hR] at ih hbadR ⊢
    obtain ⟨r, hr⟩ : ∃ r, l[i] = r := ⟨_, rfl⟩
    rw [hr] at ih hTl hbadR hrl hfl hrd
    clear hR hr hT hm hs hin htx htk ha hf
    obtain ⟨c, hc⟩ : ∃ c, ((i : Int)) = c := ⟨_, rfl⟩
    by_cases h1 : r.f0 < 0
    · rw [hbadR (recOk_no (by omega))]
      refine Ev.step (fun k => ?_) (pr_evj1t (bsL T) l (l.length : Int) (i : Int) r.f0 r.f1 r.f2)
      rw [rubricatorref02_Print.l0, if_pos (by omega), if_pos (by omega), if_pos (by omega), hrd, if_pos h1]
    · by_cases h2 : r.f1 < r.f0
      · rw [hbadR (recOk_no (by omega))]
        refine Ev.step (fun k => ?_) (pr_evj1t (bsL T) l (l.length : Int) (i : Int) r.f0 r.f1 r.f2)
        rw [rubricatorref02_Print.l0, if_pos (by omega), if_pos (by omega), if_pos (by omega), hrd, if_neg h1, if_pos h2]
      · by_cases h3 : r.f1 > 1114111
        · rw [hbadR (recOk_no (by omega))]
          refine Ev.step (fun k => ?_) (pr_evj1t (bsL T) l (l.length : Int) (i : Int) r.f0 r.f1 r.f2)
          rw [rubricatorref02_Print.l0, if_pos (by omega), if_pos (by omega), if_pos (by omega), hrd, if_neg h1, if_neg h2, if_pos h3]
        · by_cases h4 : r.f2.length = 0
          · rw [hbadR (recOk_no (by omega))]
            refine Ev.step (fun k => ?_) (pr_evj1t (bsL T) l (l.length : Int) (i : Int) r.f0 r.f1 r.f2)
            have hb : ((r.f2.length : Int) == 0) = true := beq_iff_eq.2 (by omega)
            rw [rubricatorref02_Print.l0, if_pos (by omega), if_pos (by omega), if_pos (by omega), hrd, if_neg h1, if_neg h2, if_neg h3, hb]
          · have hb : ((r.f2.length : Int) == 0) = false := beq_eq_false_iff_ne.2 (by omega)
            have hhl := headT_length r
            have hj2 : Ev (fun k => rubricatorref02_Print.j2 k (bsL (T ++ headT r)) l (l.length : Int) (i : Int) r.f0 r.f1 r.f2) R := by
              have h := pr_ev1 R l (l.length : Int) (i : Int) r.f2 (T ++ headT r) hfl (by rw [List.length_append]; omega) (fun hok => by
                have hrec : recOk r = true := (recOk_iff r).2 ⟨by omega, by omega, by omega, by omega, hok⟩
                have h := ih hrec
                unfold recT at h
                rw [e2]
                simp only [List.append_assoc] at h ⊢
                exact h) (fun ⟨f, hf, hff⟩ => hbadR (recOk_no (fun hh => by rw [hh.2.2.2.2 f hf] at hff; cases hff))) r.f2.length 0 (by omega) (by simp)
              refine Ev.step (fun k => ?_) h
              rw [rubricatorref02_Print.j2]
              simp
            have hp0 := point_ev r.f0 (by omega) (by omega)
            have hp1 := point_ev r.f1 (by omega) (by omega)
            have hl0 := pointL_length r.f0.toNat
            have hl1 := pointL_length r.f1.toNat
            have hj1 : Ev (fun k => rubricatorref02_Print.j1 k (bsL T) l (l.length : Int) (i : Int) false r.f0 r.f1 r.f2) R := by
              by_cases h5 : r.f1 = r.f0
              · have hh : headT r = pointL r.f0.toNat := by unfold headT; rw [if_neg (by omega), List.append_nil]
                rw [hh] at hj2
                refine Ev.step (f := fun k => (rubricatorref02_point.f k r.f0).bind fun t => if (bsL T).size + t.size ≤ 9223372036854775807 then rubricatorref02_Print.j2 k (bsL T ++ t) l (l.length : Int) (i : Int) r.f0 r.f1 r.f2 else none) (fun k => ?_) (Ev.bind hp0 (Ev.congr (fun k => ?_) hj2))
                · rw [rubricatorref02_Print.j1, if_neg (by decide)]
                  simp only [if_pos h5]
                · rw [if_pos (by rw [size_bsL, size_bsL]; omega), bsL_append]
              · have hh : headT r = pointL r.f0.toNat ++ ([46, 46] ++ pointL r.f1.toNat) := by unfold headT; rw [if_pos (by omega)]
                rw [hh] at hj2
                have e : (⟨#[46, 46]⟩ : ByteArray) = bsL [46, 46] := rfl
                have hin : Ev (fun k => (rubricatorref02_point.f k r.f1).bind fun t2 => if 2 + t2.size ≤ 9223372036854775807 then (if (bsL T ++ bsL (pointL r.f0.toNat)).size + ((⟨#[46, 46]⟩ : ByteArray) ++ t2).size ≤ 9223372036854775807 then rubricatorref02_Print.j2 k ((bsL T ++ bsL (pointL r.f0.toNat)) ++ ((⟨#[46, 46]⟩ : ByteArray) ++ t2)) l (l.length : Int) (i : Int) r.f0 r.f1 r.f2 else none) else none) R := by
                  refine Ev.bind (f := fun k t2 => if 2 + t2.size ≤ 9223372036854775807 then (if (bsL T ++ bsL (pointL r.f0.toNat)).size + ((⟨#[46, 46]⟩ : ByteArray) ++ t2).size ≤ 9223372036854775807 then rubricatorref02_Print.j2 k ((bsL T ++ bsL (pointL r.f0.toNat)) ++ ((⟨#[46, 46]⟩ : ByteArray) ++ t2)) l (l.length : Int) (i : Int) r.f0 r.f1 r.f2 else none) else none) hp1 (Ev.congr (fun k => ?_) hj2)
                  rw [e, bsL_append, bsL_append, bsL_append, if_pos (by rw [size_bsL]; omega), if_pos (by rw [size_bsL, size_bsL]; simp only [List.length_append, List.length_cons, List.length_nil]; omega), List.append_assoc]
                refine Ev.step (f := fun k => (rubricatorref02_point.f k r.f0).bind fun t => if (bsL T).size + t.size ≤ 9223372036854775807 then ((rubricatorref02_point.f k r.f1).bind fun t2 => if 2 + t2.size ≤ 9223372036854775807 then (if (bsL T ++ t).size + ((⟨#[46, 46]⟩ : ByteArray) ++ t2).size ≤ 9223372036854775807 then rubricatorref02_Print.j2 k ((bsL T ++ t) ++ ((⟨#[46, 46]⟩ : ByteArray) ++ t2)) l (l.length : Int) (i : Int) r.f0 r.f1 r.f2 else none) else none) else none) (fun k => ?_) (Ev.bind hp0 (Ev.congr (fun k => ?_) hin))
                · rw [rubricatorref02_Print.j1, if_neg (by decide)]
                  simp only [if_neg h5]
                · rw [if_pos (by rw [size_bsL, size_bsL]; omega)]
            refine Ev.step (fun k => ?_) hj1
            rw [rubricatorref02_Print.l0, if_pos (by omega), if_pos (by omega), if_pos (by omega), hrd, if_neg h1, if_neg h2, if_neg h3, hb]
theorem refPrint_any (A0 : Option Addr) (c0 : Nat) (l : List Rc) (w : World) (hr : Kd.C k48 w A0 l.length l) (hc : l.length ≤ c0) (hl : l.length < 4294967290) (hf : ∀ r ∈ l, r.f2.length < 4294967290) (hs : (textT l).length < 4294967281) :
    Calls Tryd.prog 33 #[.slice A0 l.length c0] w fun e w' => e = .returned (.tuple #[.string (printL l).1, .int .i64 (printL l).2]) ∧ Below w.heap.size w w' := by
  obtain ⟨k, hk⟩ := (pr_ev0 l hl hf hs l.length 0 (by omega) (by simp)).rounds
  exact rubricatorref02_Print.calls k A0 c0 l (printL l).1 (printL l).2 w hr hc hk

end Go.Proofs.YtooehjbbphokbaaDoor
