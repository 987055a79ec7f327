/- What the printed functions of the reference for layer 2 come to: Hex, record, Parse, Rows. -/
import Derived.Test.YtooehjbbphokbaaDoorLnQ
namespace Go.Proofs.YtooehjbbphokbaaDoor
set_option linter.unusedVariables false
set_option linter.unusedSimpArgs false
open Go.RowKit Go.Proofs.YtooehjbbphokbaaDoorW.PrintWords Go.Proofs.YtooehjbbphokbaaDoorW.PrintLast Go.Proofs.YtooehjbbphokbaaDoorW.PrintMore Go.Proofs.YtooehjbbphokbaaDoor.PLinesRead

/-! ### Hex -/
def hexFin : Option Int → Int × Bool
  | none => (0, false)
  | some n => if 1114111 < n then (0, false) else (n, true)
theorem hexFin_gt {n : Int} (h : 1114111 < n) : hexFin (some n) = (0, false) := if_pos h
theorem hexFin_le {n : Int} (h : ¬ 1114111 < n) : hexFin (some n) = (n, true) := if_neg h
theorem hexAns_fin {s : ByteArray} (h4 : ¬ s.size < 4) (h6 : ¬ 6 < s.size) : hexAns s = hexFin (hexFrom s 0 0) := by
  unfold hexAns
  rw [if_neg (by omega)]
  rfl
theorem bt_at_nat (s : ByteArray) (i : Nat) (h : i < s.size) : bt s (i : Int) = ((s[i]'h).toNat : Int) := (bt_at s (i : Int) (by rw [Int.toNat_natCast]; exact h)).symm
theorem hex_ev0 (s : ByteArray) (h6 : s.size ≤ 6) : ∀ (m pos : Nat) (n : Int), pos + m = s.size → 0 ≤ n → n < 16 ^ pos → Ev (fun k => rubricatorref02_Hex.l0 k s n (pos : Int)) (hexFin (hexFrom s n pos))
  | 0, pos, n, hp, h0, h1 => by
    rw [hexFrom_end (by omega)]
    refine Ev.step (f := fun _ => some (hexFin (some n))) (fun k => ?_) (Ev.now _)
    rw [rubricatorref02_Hex.l0, if_neg (by omega)]
    by_cases h : 1114111 < n
    · rw [hexFin_gt h, if_pos h]
    · rw [hexFin_le h, if_neg h]
  | m + 1, pos, n, hp, h0, h1 => by
    have hlt : pos < s.size := by omega
    have hb := bt_at_nat s pos hlt
    have hr := bt_range s (pos : Int)
    have e2 : wrap64 ((pos : Int) + 1) = ((pos + 1 : Nat) : Int) := by rw [w64_in _ (by omega)]; omega
    have hn : n < 1048576 := by
      have h2 : (16 : Int) ^ pos ≤ 16 ^ 5 := by
        have : (16 : Nat) ^ pos ≤ 16 ^ 5 := Nat.pow_le_pow_right (by decide) (by omega)
        exact_mod_cast this
      omega
    have w1 : wrap64 (16 * n) = 16 * n := w64_in _ (by omega)
    obtain ⟨c, hc⟩ : ∃ c : Int, bt s (pos : Int) = c := ⟨_, rfl⟩
    rw [hc] at hb hr
    have hd := hexD_le c
    have hsm : 0 ≤ hexD c → 0 ≤ 16 * n + hexD c ∧ 16 * n + hexD c < 16 ^ (pos + 1) := fun h => hex_small (by omega) h0 h1 h hd.2
    by_cases hbad : hexD c < 0
    · rw [hexFrom_bad hlt (by rw [← hb]; exact hbad)]
      have hfin : hexFin none = (0, false) := rfl
      rw [hfin]
      have hno : ¬ (48 ≤ c ∧ c ≤ 57) ∧ ¬ (65 ≤ c ∧ c ≤ 70) ∧ ¬ (97 ≤ c ∧ c ≤ 102) := by
        unfold hexD at hbad
        split at hbad
        · omega
        · split at hbad
          · omega
          · split at hbad
            · omega
            · omega
      have hj3 : Ev (fun k => rubricatorref02_Hex.j3 k s n (pos : Int) c false) (0, false) := by
        refine Ev.step (f := fun _ => some (0, false)) (fun k => ?_) (Ev.now _)
        rw [rubricatorref02_Hex.j3, if_neg (by decide)]
        by_cases h : c ≥ 65
        · rw [if_pos h, if_neg (by omega)]
        · rw [if_neg h]
      have hj2 : Ev (fun k => rubricatorref02_Hex.j2 k s n (pos : Int) c false) (0, false) := by
        refine Ev.step (fun k => ?_) hj3
        rw [rubricatorref02_Hex.j2, if_neg (by decide)]
        by_cases h : c ≥ 97
        · rw [if_pos h, decide_eq_false (by omega)]
        · rw [if_neg h]
      refine Ev.step (fun k => ?_) hj2
      rw [rubricatorref02_Hex.l0, hc, if_pos (by omega), if_pos (by omega)]
      by_cases h : c ≥ 48
      · rw [if_pos h, decide_eq_false (by omega)]
      · rw [if_neg h]
    · rw [hexFrom_step hlt (by rw [← hb]; exact hbad), ← hb]
      have ih := hex_ev0 s h6 m (pos + 1) (16 * n + hexD c) (by omega) (hsm (by omega)).1 (hsm (by omega)).2
      by_cases hA : 48 ≤ c ∧ c ≤ 57
      · have hdc : hexD c = c - 48 := by unfold hexD; rw [if_pos hA]
        have e3 : wrap64 (16 * n + (c - 48) % 256) = 16 * n + hexD c := by rw [hdc, w64_in _ (by omega)]; omega
        have hj2 : Ev (fun k => rubricatorref02_Hex.j2 k s n (pos : Int) c true) (hexFin (hexFrom s (16 * n + hexD c) (pos + 1))) := by
          refine Ev.step (fun k => ?_) ih
          rw [rubricatorref02_Hex.j2, if_pos rfl, w1, e3, e2]
        refine Ev.step (fun k => ?_) hj2
        rw [rubricatorref02_Hex.l0, hc, if_pos (by omega), if_pos (by omega), if_pos (by omega), decide_eq_true (by omega)]
      · have hl0 : ∀ k, rubricatorref02_Hex.l0 (k + 1) s n (pos : Int) = rubricatorref02_Hex.j2 k s n (pos : Int) c false := fun k => by
          rw [rubricatorref02_Hex.l0, hc, if_pos (by omega), if_pos (by omega)]
          by_cases h : c ≥ 48
          · rw [if_pos h, decide_eq_false (by omega)]
          · rw [if_neg h]
        refine Ev.step hl0 ?_
        by_cases hB : 97 ≤ c ∧ c ≤ 102
        · have hdc : hexD c = c - 97 + 10 := by unfold hexD; rw [if_neg hA, if_neg (by omega), if_pos hB]
          have e3 : wrap64 (wrap64 (16 * n + (c - 97) % 256) + 10) = 16 * n + hexD c := by rw [hdc, w64_in (16 * n + (c - 97) % 256) (by omega), w64_in _ (by omega)]; omega
          have hj3 : Ev (fun k => rubricatorref02_Hex.j3 k s n (pos : Int) c true) (hexFin (hexFrom s (16 * n + hexD c) (pos + 1))) := by
            refine Ev.step (fun k => ?_) ih
            rw [rubricatorref02_Hex.j3, if_pos rfl, w1, e3, e2]
          refine Ev.step (fun k => ?_) hj3
          rw [rubricatorref02_Hex.j2, if_neg (by decide), if_pos (by omega), decide_eq_true (by omega)]
        · have hC : 65 ≤ c ∧ c ≤ 70 := by
            by_cases hC' : 65 ≤ c ∧ c ≤ 70
            · exact hC'
            · exact absurd (show hexD c < 0 by unfold hexD; rw [if_neg hA, if_neg hC', if_neg hB]; decide) hbad
          have hdc : hexD c = c - 65 + 10 := by unfold hexD; rw [if_neg hA, if_pos hC]
          have e3 : wrap64 (wrap64 (16 * n + (c - 65) % 256) + 10) = 16 * n + hexD c := by rw [hdc, w64_in (16 * n + (c - 65) % 256) (by omega), w64_in _ (by omega)]; omega
          have hj3 : Ev (fun k => rubricatorref02_Hex.j3 k s n (pos : Int) c false) (hexFin (hexFrom s (16 * n + hexD c) (pos + 1))) := by
            refine Ev.step (fun k => ?_) ih
            rw [rubricatorref02_Hex.j3, if_neg (by decide), if_pos (by omega), if_pos (by omega), w1, e3, e2]
          refine Ev.step (fun k => ?_) hj3
          rw [rubricatorref02_Hex.j2, if_neg (by decide), if_neg (by omega)]
theorem hex_ev (s : ByteArray) : Ev (fun k => rubricatorref02_Hex.f k s) (hexAns s) := by
  by_cases h : s.size < 4 ∨ 6 < s.size
  · have hA : hexAns s = (0, false) := by unfold hexAns; rw [if_pos h]
    rw [hA]
    have hj : Ev (fun k => rubricatorref02_Hex.j0 k s true) (0, false) := Ev.step (f := fun _ => some (0, false)) (fun k => by rw [rubricatorref02_Hex.j0, if_pos rfl]) (Ev.now _)
    refine Ev.congr (fun k => ?_) hj
    unfold rubricatorref02_Hex.f
    by_cases h4 : (s.size : Int) < 4
    · rw [if_pos h4]
    · rw [if_neg h4, decide_eq_true (by omega)]
  · rw [hexAns_fin (by omega) (by omega)]
    have h0 := hex_ev0 s (by omega) s.size 0 0 (by omega) (by omega) (by decide)
    have hj : Ev (fun k => rubricatorref02_Hex.j0 k s false) (hexFin (hexFrom s 0 0)) := Ev.step (fun k => by rw [rubricatorref02_Hex.j0, if_neg (by decide)]; rfl) h0
    refine Ev.congr (fun k => ?_) hj
    unfold rubricatorref02_Hex.f
    rw [if_neg (by omega), decide_eq_false (by omega)]

/-! ### record -/
def recAns (f : List ByteArray) : Int × Int × List ByteArray × Bool := match recB f with
  | none => (0, 0, [], false)
  | some q => (q.f0, q.f1, q.f2, true)
theorem recj_ev (f : List ByteArray) (lo hi : ByteArray) (hl : 2 ≤ f.length) (hb : f.length < 8796093022208) (hd : dotsB (f[0]'(by omega)) = (lo, hi)) : Ev (fun k => rubricatorref02_record.j1 k f lo hi) (recAns f) := by
  have hR := recB_long hl
  rw [hd] at hR
  have h1 := hex_ev lo
  have h2 := hex_ev hi
  generalize hexAns lo = a1 at hR h1
  generalize hexAns hi = a2 at hR h2
  refine Ev.step (f := fun k => (rubricatorref02_Hex.f k lo).bind fun bt136 => ((rubricatorref02_Hex.f k hi).bind fun bt138 => (if bt136.2 = true then (if bt138.2 = true then (if bt136.1 > bt138.1 then (some (0, 0, ([] : List ByteArray), false)) else ((some (([] : List ByteArray) : List ByteArray)).bind fun y140 => (if 1 ≤ (f.length : Int) then (if y140.length + (f.drop 1).length < 8796093022208 then (some (bt136.1, bt138.1, (y140 ++ (f.drop 1)), true)) else (none)) else (none)))) else (some (0, 0, ([] : List ByteArray), false))) else (some (0, 0, ([] : List ByteArray), false))))) (fun k => by rw [rubricatorref02_record.j1]) ?_
  refine Ev.bind h1 (Ev.bind h2 ?_)
  obtain ⟨n1, b1⟩ := a1
  obtain ⟨n2, b2⟩ := a2
  have hdl : (f.drop 1).length = f.length - 1 := List.length_drop
  simp only at hR
  have hq : recAns f = if b1 = true ∧ b2 = true ∧ n1 ≤ n2 then (n1, n2, f.drop 1, true) else (0, 0, [], false) := by
    unfold recAns
    rw [hR]
    by_cases h : b1 = true ∧ b2 = true ∧ n1 ≤ n2
    · rw [if_pos h, if_pos h]
    · rw [if_neg h, if_neg h]
  cases b1 with
  | false =>
    have hA : recAns f = (0, 0, [], false) := by rw [hq, if_neg (by simp)]
    rw [hA]
    exact Ev.congr (fun k => by simp) (Ev.now _)
  | true =>
    cases b2 with
    | false =>
      have hA : recAns f = (0, 0, [], false) := by rw [hq, if_neg (by simp)]
      rw [hA]
      exact Ev.congr (fun k => by simp) (Ev.now _)
    | true =>
      by_cases hlt : n1 > n2
      · have hA : recAns f = (0, 0, [], false) := by rw [hq, if_neg (by simp; omega)]
        rw [hA]
        exact Ev.congr (fun k => by simp [hlt]) (Ev.now _)
      · have hA : recAns f = (n1, n2, f.drop 1, true) := by rw [hq, if_pos ⟨rfl, rfl, by omega⟩]
        rw [hA]
        refine Ev.congr (fun k => ?_) (Ev.now _)
        have h5 : 1 ≤ (f.length : Int) := by omega
        have h6 : ([] : List ByteArray).length + (f.drop 1).length < 8796093022208 := by rw [List.length_nil]; omega
        simp only [↓reduceIte]
        rw [if_neg hlt, Option.bind_some, if_pos h5, if_pos h6, List.nil_append]
theorem dots_hit (x : ByteArray) (i : Nat) (h : Lib.indexB x ⟨#[46, 46]⟩ = i) : dotsB x = (x.extract 0 i, x.extract (i + 2) x.size) := by
  obtain ⟨h1, h2, h3⟩ := Lib.cutB_hit x ⟨#[46, 46]⟩ i h
  have h4 : (Lib.cut x.data.toList [46, 46]).2.2 = true := h3
  unfold dotsB
  rw [if_pos h4]
  exact Prod.ext h1 h2
theorem dots_miss (x : ByteArray) (h : Lib.indexB x ⟨#[46, 46]⟩ = -1) : dotsB x = (x, x) := by
  obtain ⟨h1, h2, h3⟩ := Lib.cutB_miss x ⟨#[46, 46]⟩ h
  have h4 : (Lib.cut x.data.toList [46, 46]).2.2 = false := h3
  unfold dotsB
  rw [if_neg (by rw [h4]; decide)]
  exact Prod.ext h1 h1
theorem rec_ev0 (f : List ByteArray) (x : ByteArray) (hl : 2 ≤ f.length) (hb : f.length < 8796093022208) (hx : f[0]'(by omega) = x) (hs : x.size < 4294967281) : ∀ (n i : Nat), i + n = x.size → Lib.NoOccB x ⟨#[46, 46]⟩ i → Ev (fun k => rubricatorref02_record.l0 k f x x (i : Int)) (recAns f)
  | 0, i, hi, hno => by
    have hj := recj_ev f x x hl hb (by rw [hx]; exact dots_miss x (Lib.past x ⟨#[46, 46]⟩ i hno (by decide) (by show x.size < i + 2; omega)))
    refine Ev.step (fun k => ?_) hj
    have hrd : rdOf ByteArray.empty f 0 = x := by
      have := rd_str f 0 (by omega)
      rw [hx] at this
      exact this
    have e1 : wrap64 ((i : Int) + 1) = (i : Int) + 1 := w64_in _ (by omega)
    rw [rubricatorref02_record.l0, hrd, if_pos (by omega), e1, if_neg (by omega)]
  | n + 1, i, hi, hno => by
    have hrd : rdOf ByteArray.empty f 0 = x := by
      have := rd_str f 0 (by omega)
      rw [hx] at this
      exact this
    have e1 : wrap64 ((i : Int) + 1) = ((i + 1 : Nat) : Int) := by rw [w64_in _ (by omega)]; omega
    have e2 : wrap64 ((i : Int) + 2) = ((i + 2 : Nat) : Int) := by rw [w64_in _ (by omega)]; omega
    by_cases h1 : i + 1 < x.size
    · by_cases hp : (x.extract i (i + 2)).toList = ([46, 46] : List UInt8)
      · have hit := Lib.hit x ⟨#[46, 46]⟩ i hno (by show i + 2 ≤ x.size; omega) (by rw [show i + (⟨#[46, 46]⟩ : ByteArray).size = i + 2 from rfl, hp, Lib.toList_data]; rfl)
        have hj := recj_ev f (x.extract 0 i) (x.extract (i + 2) x.size) hl hb (by rw [hx]; exact dots_hit x i hit)
        refine Ev.step (fun k => ?_) hj
        rw [rubricatorref02_record.l0, hrd, if_pos (by omega), e1, if_pos (by omega), if_pos (by omega), e2, if_pos (by omega), if_pos (by omega), Int.toNat_natCast, Int.toNat_natCast, if_pos hp, if_pos (by omega), if_pos (by omega)]
      · have hno2 := Lib.miss_piece x ⟨#[46, 46]⟩ i hno (by show i + 2 ≤ x.size; omega) (by
          rw [show i + (⟨#[46, 46]⟩ : ByteArray).size = i + 2 from rfl]
          exact beq_eq_false_iff_ne.2 (fun e => hp (e.trans (by rw [Lib.toList_data]))))
        have ih := rec_ev0 f x hl hb hx hs n (i + 1) (by omega) hno2
        refine Ev.step (fun k => ?_) ih
        rw [rubricatorref02_record.l0, hrd, if_pos (by omega), e1, if_pos (by omega), if_pos (by omega), e2, if_pos (by omega), if_pos (by omega), Int.toNat_natCast, Int.toNat_natCast, if_neg hp]
    · have hj := recj_ev f x x hl hb (by rw [hx]; exact dots_miss x (Lib.past x ⟨#[46, 46]⟩ i hno (by decide) (by show x.size < i + 2; omega)))
      refine Ev.step (fun k => ?_) hj
      rw [rubricatorref02_record.l0, hrd, if_pos (by omega), e1, if_neg (by omega)]
theorem rec_ev (f : List ByteArray) (hp : ∀ x ∈ f, x.size < 4294967281) (hb : f.length < 8796093022208) : Ev (fun k => rubricatorref02_record.f k f) (recAns f) := by
  by_cases h2 : f.length < 2
  · have hA : recAns f = (0, 0, [], false) := by unfold recAns; rw [recB_short h2]
    rw [hA]
    refine Ev.congr (fun k => ?_) (Ev.now _)
    unfold rubricatorref02_record.f
    rw [if_pos (by omega)]
  · have hs := hp _ (List.getElem_mem (show 0 < f.length by omega))
    have h0 := rec_ev0 f (f[0]'(by omega)) (by omega) hb rfl hs (f[0]'(by omega)).size 0 (by omega) (fun j hj => absurd hj (Nat.not_lt_zero _))
    refine Ev.congr (fun k => ?_) h0
    have hrd : rdOf ByteArray.empty f 0 = f[0]'(by omega) := rd_str f 0 (by omega)
    unfold rubricatorref02_record.f
    rw [if_neg (by omega), if_pos (by omega), hrd]
    rfl

/-! ### Parse -/
theorem parse_ev0 (ps : List ByteArray) (hp : ∀ x ∈ ps, x.size < 4294967281) (hl : ps.length < 4294967283) : ∀ (n j : Nat) (out : List Rc), j + n = ps.length → out.length ≤ j → Ev (fun k => rubricatorref02_Parse.l0 k out ps (ps.length : Int) (j : Int)) (linesB (ps.drop j) j out)
  | 0, j, out, h, ho => by
    rw [List.drop_of_length_le (by omega), linesB_nil]
    refine Ev.step (f := fun _ => some (out, 0, 0)) (fun k => ?_) (Ev.now _)
    rw [rubricatorref02_Parse.l0, if_neg (by omega)]
  | n + 1, j, out, h, ho => by
    have hj : j < ps.length := by omega
    have hx := hp _ (List.getElem_mem hj)
    have e2 : wrap64 ((j : Int) + 1) = ((j + 1 : Nat) : Int) := by rw [w64_in _ (by omega)]; omega
    have e3 : wrap64 ((j : Int) + 1) = (j : Int) + 1 := w64_in _ (by omega)
    rw [List.drop_eq_getElem_cons hj]
    have hf := fields_ev ps[j] hx
    have hfl := fieldsB_length ps[j]
    have hr := rec_ev (fieldsB ps[j]) (fun y hy => Nat.lt_of_le_of_lt (fieldsB_part hy) hx) (by omega)
    refine Ev.step (f := fun k => (rubricatorref02_fields.f k ps[j]).bind fun t151 => (if (t151.length : Int) = 0 then (rubricatorref02_Parse.l0 k out ps (ps.length : Int) ((j + 1 : Nat) : Int)) else ((rubricatorref02_record.f k t151).bind fun bt154 => (if bt154.2.2.2 = true then (if out.length < 3518437208883 then (rubricatorref02_Parse.l0 k (out ++ [(⟨bt154.1, bt154.2.1, bt154.2.2.1⟩ : Rc)]) ps (ps.length : Int) ((j + 1 : Nat) : Int)) else (none)) else (some (([] : List Rc), (j : Int) + 1, 20)))))) (fun k => by
      rw [rubricatorref02_Parse.l0, if_pos (by omega), if_pos (by omega), if_pos (by omega), rd_str ps j hj, e2]
      rfl) (Ev.bind hf ?_)
    by_cases h0 : fieldsB ps[j] = []
    · rw [linesB_skip h0]
      refine Ev.congr (fun k => ?_) (parse_ev0 ps hp hl n (j + 1) out (by omega) (by omega))
      rw [if_pos (by rw [h0]; rfl)]
    · have hne : ¬ ((fieldsB ps[j]).length : Int) = 0 := fun e => h0 (List.length_eq_zero_iff.1 (by omega))
      refine Ev.congr (fun k => by rw [if_neg hne]) (Ev.bind hr ?_)
      cases hq : recB (fieldsB ps[j]) with
      | none =>
        have hA : recAns (fieldsB ps[j]) = (0, 0, [], false) := by unfold recAns; rw [hq]
        rw [hA, linesB_bad h0 hq]
        exact Ev.congr (fun k => by rw [if_neg (by simp)]) (Ev.now _)
      | some q =>
        have hA : recAns (fieldsB ps[j]) = (q.f0, q.f1, q.f2, true) := by unfold recAns; rw [hq]
        rw [hA, linesB_good h0 hq]
        refine Ev.congr (fun k => ?_) (parse_ev0 ps hp hl n (j + 1) (out ++ [q]) (by omega) (by rw [List.length_append, List.length_singleton]; omega))
        rw [if_pos rfl, if_pos (by omega)]
theorem parse_ev (s : ByteArray) (hs : s.size < 4294967281) : Ev (fun k => rubricatorref02_Parse.f k s) (parseB s) := by
  have h1 : Ev (fun k => rubricatorref02_cut.f k s 10) (cutB 10 s) := cut_ev s 10 hs
  have hl := cutB_length 10 s
  exact Ev.bind h1 (parse_ev0 (cutB 10 s) (fun x hx => Nat.lt_of_le_of_lt (cutB_part hx) hs) (by omega) (cutB 10 s).length 0 [] (by omega) (Nat.le_refl _))

/-! ### Rows -/
def rowsL : List ByteArray → List (List ByteArray) → List (List ByteArray)
  | [], out => out
  | x :: r, out => if fieldsB x = [] then rowsL r out else rowsL r (out ++ [fieldsB x])
theorem rowsL_skip {x : ByteArray} {r : List ByteArray} {out : List (List ByteArray)} (h : fieldsB x = []) : rowsL (x :: r) out = rowsL r out := by rw [rowsL, if_pos h]
theorem rowsL_take {x : ByteArray} {r : List ByteArray} {out : List (List ByteArray)} (h : fieldsB x ≠ []) : rowsL (x :: r) out = rowsL r (out ++ [fieldsB x]) := by rw [rowsL, if_neg h]
def rowsB (s : ByteArray) : List (List ByteArray) := rowsL (cutB 10 s) []
theorem rows_ev0 (ps : List ByteArray) (hp : ∀ x ∈ ps, x.size < 4294967281) (hl : ps.length < 4294967283) : ∀ (n j : Nat) (out : List (List ByteArray)), j + n = ps.length → out.length ≤ j → Ev (fun k => rubricatorref02_Rows.l0 k out ps (ps.length : Int) (j : Int)) (rowsL (ps.drop j) out)
  | 0, j, out, h, ho => by
    rw [List.drop_of_length_le (by omega)]
    refine Ev.step (f := fun _ => some out) (fun k => ?_) (Ev.now _)
    rw [rubricatorref02_Rows.l0, if_neg (by omega)]
  | n + 1, j, out, h, ho => by
    have hj : j < ps.length := by omega
    have hx := hp _ (List.getElem_mem hj)
    have e2 : wrap64 ((j : Int) + 1) = ((j + 1 : Nat) : Int) := by rw [w64_in _ (by omega)]; omega
    rw [List.drop_eq_getElem_cons hj]
    refine Ev.step (f := fun k => (rubricatorref02_fields.f k ps[j]).bind fun t168 => (if (t168.length : Int) > 0 then (if out.length < 5864062014805 then (rubricatorref02_Rows.l0 k (out ++ [t168]) ps (ps.length : Int) ((j + 1 : Nat) : Int)) else (none)) else (rubricatorref02_Rows.l0 k out ps (ps.length : Int) ((j + 1 : Nat) : Int)))) (fun k => by
      rw [rubricatorref02_Rows.l0, if_pos (by omega), if_pos (by omega), if_pos (by omega), rd_str ps j hj, e2]) (Ev.bind (fields_ev ps[j] hx) ?_)
    by_cases h0 : fieldsB ps[j] = []
    · rw [rowsL_skip h0]
      refine Ev.congr (fun k => ?_) (rows_ev0 ps hp hl n (j + 1) out (by omega) (by omega))
      rw [if_neg (by rw [h0]; simp)]
    · have hne : ((fieldsB ps[j]).length : Int) > 0 := by
        have := List.length_pos_iff.2 h0
        omega
      rw [rowsL_take h0]
      refine Ev.congr (fun k => ?_) (rows_ev0 ps hp hl n (j + 1) (out ++ [fieldsB ps[j]]) (by omega) (by rw [List.length_append, List.length_singleton]; omega))
      rw [if_pos hne, if_pos (by omega)]
theorem rows_ev (s : ByteArray) (hs : s.size < 4294967281) : Ev (fun k => rubricatorref02_Rows.f k s) (rowsB s) := by
  have h1 : Ev (fun k => rubricatorref02_cut.f k s 10) (cutB 10 s) := cut_ev s 10 hs
  have hl := cutB_length 10 s
  exact Ev.bind h1 (rows_ev0 (cutB 10 s) (fun x hx => Nat.lt_of_le_of_lt (cutB_part hx) hs) (by omega) (cutB 10 s).length 0 [] (by omega) (Nat.le_refl _))

end Go.Proofs.YtooehjbbphokbaaDoor
