/- What the printed functions of the reference for layer 2 come to: cut, trim, fields, Hex. -/
import Derived.Test.YtooehjbbphokbaaDoorLnP
import Derived.Test.YtooehjbbphokbaaDoorPLinesReadx4
namespace Go.Proofs.YtooehjbbphokbaaDoor
set_option linter.unusedVariables false
set_option linter.unusedSimpArgs false
open Go.RowKit Go.Proofs.YtooehjbbphokbaaDoorW.PrintWords Go.Proofs.YtooehjbbphokbaaDoorW.PrintLast Go.Proofs.YtooehjbbphokbaaDoorW.PrintMore Go.Proofs.YtooehjbbphokbaaDoor.PLinesRead

theorem w64_in (n : Int) (h : -9223372036854775808 ≤ n ∧ n ≤ 9223372036854775807) : wrap64 n = n := by unfold wrap64; omega
theorem ext_bsL (l : List UInt8) (a b : Nat) : (bsL l).extract a b = bsL ((l.drop a).take (b - a)) := by
  rw [Lib.extract_eq, data_bsL]
  rfl
theorem ext_one (b : UInt8) (l : List UInt8) : (bsL (b :: l)).extract 1 (bsL (b :: l)).size = bsL l := by
  rw [ext_bsL, size_bsL]
  congr 1
  simp
theorem bt_bsL (l : List UInt8) (i : Nat) (h : i < l.length) : bt (bsL l) (i : Int) = (l[i].toNat : Int) := by
  have h1 := bt_at (bsL l) (i : Int) (by rw [Int.toNat_natCast, size_bsL]; exact h)
  rw [← h1]
  rfl
theorem u8_eq {a b : UInt8} : (a.toNat : Int) = (b.toNat : Int) ↔ a = b := by
  constructor
  · intro h
    exact UInt8.toNat_inj.1 (by omega)
  · rintro rfl
    rfl

/-! ### cut -/
theorem cut_ev0 (L : List UInt8) (c : UInt8) (hL : L.length < 4294967281) : ∀ (n : Nat) (out : List ByteArray) (a i : Nat), i + n = L.length → a ≤ i → out.length ≤ a → (∀ b ∈ (L.drop a).take (i - a), b ≠ c) →
    Ev (fun k => rubricatorref02_cut.l0 k (bsL L) (c.toNat : Int) out (a : Int) (i : Int)) (out ++ (cutL c (L.drop a)).map bsL)
  | 0, out, a, i, hi, ha, ho, hp => by
    have h1 : (L.drop a).take (i - a) = L.drop a := List.take_of_length_le (by rw [List.length_drop]; omega)
    rw [h1] at hp
    rw [cutL_none hp]
    refine Ev.step (f := fun _ => some (out ++ [bsL (L.drop a)])) (fun k => ?_) (Ev.now _)
    rw [rubricatorref02_cut.l0, size_bsL, if_neg (by omega), if_pos (by omega), if_pos (by omega), if_pos (by omega), Int.toNat_natCast, ext_bsL, List.take_of_length_le (by rw [List.length_drop]; omega)]
  | n + 1, out, a, i, hi, ha, ho, hp => by
    have hlt : i < L.length := by omega
    have e2 : wrap64 ((i : Int) + 1) = ((i + 1 : Nat) : Int) := by rw [w64_in _ (by omega)]; omega
    have e3 : (L.drop a).drop (i - a) = L[i] :: L.drop (i + 1) := by
      rw [List.drop_drop, show a + (i - a) = i by omega, List.drop_eq_getElem_cons hlt]
    have e4 : L.drop a = (L.drop a).take (i - a) ++ L[i] :: L.drop (i + 1) := by rw [← e3, List.take_append_drop]
    by_cases hc : L[i] = c
    · have ih := cut_ev0 L c hL n (out ++ [bsL ((L.drop a).take (i - a))]) (i + 1) (i + 1) (by omega) (Nat.le_refl _) (by rw [List.length_append, List.length_singleton]; omega) (by simp)
      have e5 : cutL c (L.drop a) = (L.drop a).take (i - a) :: cutL c (L.drop (i + 1)) := by
        have e6 := congrArg (cutL c) e4
        rw [hc, cutL_hit _ hp] at e6
        exact e6
      rw [e5, List.map_cons]
      rw [List.append_assoc, List.singleton_append] at ih
      refine Ev.step (fun k => ?_) ih
      rw [rubricatorref02_cut.l0, size_bsL, if_pos (by omega), if_pos (by omega), if_pos (by rw [bt_bsL L i hlt, hc]), if_pos (by omega), if_pos (by omega), if_pos (by omega), if_pos (by omega), e2, Int.toNat_natCast, Int.toNat_natCast, ext_bsL]
    · have ih := cut_ev0 L c hL n out a (i + 1) (by omega) (by omega) ho (fun b hb => by
        rw [show i + 1 - a = (i - a) + 1 by omega, List.take_add_one] at hb
        rcases List.mem_append.1 hb with hb | hb
        · exact hp b hb
        · have : (L.drop a)[i - a]? = some L[i] := by rw [List.getElem?_drop, show a + (i - a) = i by omega, List.getElem?_eq_getElem hlt]
          rw [this] at hb
          simp at hb
          rw [hb]
          exact hc)
      refine Ev.step (fun k => ?_) ih
      rw [rubricatorref02_cut.l0, size_bsL, if_pos (by omega), if_pos (by omega), if_neg (by rw [bt_bsL L i hlt, u8_eq]; exact hc), e2]
theorem cut_ev (s : ByteArray) (c : UInt8) (hs : s.size < 4294967281) : Ev (fun k => rubricatorref02_cut.f k s (c.toNat : Int)) (cutB c s) := by
  have hl : s.data.toList.length < 4294967281 := by rw [← Lib.size_eq s]; exact hs
  have h := cut_ev0 s.data.toList c hl s.data.toList.length [] 0 0 (by omega) (Nat.le_refl _) (Nat.le_refl _) (by simp)
  rw [bsL_data] at h
  exact h

/-! ### trim -/
def blank (b : UInt8) : Bool := ([32, 9] : List UInt8).contains b
theorem blank_is (b : UInt8) : blank b = true ↔ b = 32 ∨ b = 9 := by simp [blank]
def trL (l : List UInt8) : List UInt8 := l.dropWhile blank
def trR (l : List UInt8) : List UInt8 := (l.reverse.dropWhile blank).reverse
theorem trR_nil : trR [] = [] := rfl
theorem trR_cons (b : UInt8) (t : List UInt8) : trR (b :: t) = if trR t = [] then (if blank b = true then [] else [b]) else b :: trR t := by
  unfold trR
  rw [List.reverse_cons, List.dropWhile_append]
  by_cases h : t.reverse.dropWhile blank = []
  · rw [h]
    simp only [List.isEmpty_nil, if_true, List.reverse_nil, List.dropWhile_cons, List.dropWhile_nil]
    split <;> rfl
  · have h2 : (t.reverse.dropWhile blank).isEmpty = false := by
      cases hh : t.reverse.dropWhile blank with
      | nil => exact absurd hh h
      | cons _ _ => rfl
    have h3 : ¬ (t.reverse.dropWhile blank).reverse = [] := fun e => h (List.reverse_eq_nil_iff.1 e)
    rw [h2, if_neg (by simp), if_neg h3, List.reverse_append]
    rfl
theorem tr_comm : ∀ l : List UInt8, trR (trL l) = trL (trR l)
  | [] => rfl
  | b :: t => by
    have ih := tr_comm t
    by_cases hb : blank b = true
    · have h1 : trL (b :: t) = trL t := by unfold trL; rw [List.dropWhile_cons, if_pos hb]
      rw [h1, ih, trR_cons]
      by_cases h : trR t = []
      · rw [if_pos h, if_pos hb, h]
      · rw [if_neg h]
        unfold trL
        rw [List.dropWhile_cons, if_pos hb]
    · have h1 : trL (b :: t) = b :: t := by unfold trL; rw [List.dropWhile_cons, if_neg hb]
      rw [h1, trR_cons]
      by_cases h : trR t = []
      · rw [if_pos h, if_neg hb]
        unfold trL
        rw [List.dropWhile_cons, if_neg hb]
      · rw [if_neg h]
        unfold trL
        rw [List.dropWhile_cons, if_neg hb]
theorem trimL_tr (l : List UInt8) : trimL l = trR (trL l) := by
  rw [tr_comm]
  rfl
theorem trim_ev1 : ∀ m : List UInt8, m.length < 4294967281 → Ev (fun k => rubricatorref02_trim.l1 k (bsL m.reverse)) (bsL (m.dropWhile blank).reverse)
  | [], _ => Ev.step (f := fun _ => some (bsL [])) (fun k => by rw [rubricatorref02_trim.l1, if_neg (by decide)]; rfl) (Ev.now _)
  | b :: m, h => by
    have hm : m.length < 4294967281 := by simp only [List.length_cons] at h; omega
    have hlen : (b :: m).reverse.length = m.length + 1 := by simp
    have hsz : ((bsL (b :: m).reverse).size : Int) = (m.length : Int) + 1 := by rw [size_bsL, hlen]; omega
    have hw : wrap64 ((m.length : Int) + 1 - 1) = (m.length : Int) := by rw [w64_in _ (by omega)]; omega
    have hb : bt (bsL (b :: m).reverse) (m.length : Int) = (b.toNat : Int) := by
      rw [bt_bsL _ m.length (by rw [hlen]; omega)]
      simp
    have hx : (bsL (b :: m).reverse).extract 0 m.length = bsL m.reverse := by
      rw [ext_bsL]
      congr 1
      simp
    by_cases hbl : blank b = true
    · rw [List.dropWhile_cons, if_pos hbl]
      refine Ev.step (fun k => ?_) (trim_ev1 m hm)
      rw [rubricatorref02_trim.l1, hsz, hw, hb, if_pos (by omega), if_pos (by omega), if_pos (by omega)]
      rcases (blank_is b).1 hbl with rfl | rfl
      · rw [if_pos (by rfl), if_pos (by omega), Int.toNat_natCast, hx]
      · rw [if_neg (by decide), if_pos (by rfl), if_pos (by omega), Int.toNat_natCast, hx]
    · rw [List.dropWhile_cons, if_neg hbl]
      have h32 : ¬ ((b.toNat : Int) = 32) := fun e => hbl ((blank_is b).2 (.inl ((u8_eq (a := b) (b := 32)).1 e)))
      have h9 : ¬ ((b.toNat : Int) = 9) := fun e => hbl ((blank_is b).2 (.inr ((u8_eq (a := b) (b := 9)).1 e)))
      refine Ev.step (f := fun _ => some _) (fun k => ?_) (Ev.now _)
      rw [rubricatorref02_trim.l1, hsz, hw, hb, if_pos (by omega), if_pos (by omega), if_pos (by omega), if_neg h32, if_neg h9]
theorem trim_evj (l : List UInt8) (h : l.length < 4294967281) : Ev (fun k => rubricatorref02_trim.j1 k (bsL l)) (bsL (trR l)) := by
  have h1 := trim_ev1 l.reverse (by rw [List.length_reverse]; exact h)
  rw [List.reverse_reverse] at h1
  exact Ev.step (fun k => by rw [rubricatorref02_trim.j1]) h1
theorem trim_ev0 : ∀ l : List UInt8, l.length < 4294967281 → Ev (fun k => rubricatorref02_trim.l0 k (bsL l)) (bsL (trR (trL l)))
  | [], h => by
    refine Ev.step (fun k => ?_) (trim_evj [] h)
    rw [rubricatorref02_trim.l0, if_neg (by decide)]
  | b :: m, h => by
    have hm : m.length < 4294967281 := by simp only [List.length_cons] at h; omega
    have hsz : ((bsL (b :: m)).size : Int) = (m.length : Int) + 1 := by rw [size_bsL, List.length_cons]; omega
    have hb : bt (bsL (b :: m)) 0 = (b.toNat : Int) := bt_bsL (b :: m) 0 (by simp)
    by_cases hbl : blank b = true
    · have h1 : trL (b :: m) = trL m := by unfold trL; rw [List.dropWhile_cons, if_pos hbl]
      rw [h1]
      refine Ev.step (fun k => ?_) (trim_ev0 m hm)
      rw [rubricatorref02_trim.l0, ext_one, hsz, hb, if_pos (by omega), if_pos (by omega)]
      rcases (blank_is b).1 hbl with rfl | rfl
      · rw [if_pos (by rfl), if_pos (by omega)]
      · rw [if_neg (by decide), if_pos (by rfl), if_pos (by omega)]
    · have h32 : ¬ ((b.toNat : Int) = 32) := fun e => hbl ((blank_is b).2 (.inl ((u8_eq (a := b) (b := 32)).1 e)))
      have h9 : ¬ ((b.toNat : Int) = 9) := fun e => hbl ((blank_is b).2 (.inr ((u8_eq (a := b) (b := 9)).1 e)))
      have h1 : trL (b :: m) = b :: m := by unfold trL; rw [List.dropWhile_cons, if_neg hbl]
      rw [h1]
      refine Ev.step (fun k => ?_) (trim_evj (b :: m) h)
      rw [rubricatorref02_trim.l0, hsz, hb, if_pos (by omega), if_pos (by omega), if_neg h32, if_neg h9]
theorem trim_ev (s : ByteArray) (hs : s.size < 4294967281) : Ev (fun k => rubricatorref02_trim.f k s) (trimB s) := by
  have h := trim_ev0 s.data.toList (by rw [← Lib.size_eq s]; exact hs)
  rw [bsL_data, ← trimL_tr] at h
  exact h

/-! ### fields -/
theorem rd_str (l : List ByteArray) (j : Nat) (h : j < l.length) : rdOf ByteArray.empty l (j : Int) = l[j] := by simp [rdOf, h]
theorem fields_step (k : Nat) (out ps : List ByteArray) (j : Nat) (hj : j < ps.length) (ho : out.length < 8796093022208) (hw : j < 4294967290) :
    rubricatorref02_fields.l0 (k + 1) out ps (ps.length : Int) (j : Int) = (rubricatorref02_trim.f k ps[j]).bind fun t => rubricatorref02_fields.l0 k (out ++ [t]) ps (ps.length : Int) ((j + 1 : Nat) : Int) := by
  have e2 : wrap64 ((j : Int) + 1) = ((j + 1 : Nat) : Int) := by rw [w64_in _ (by omega)]; omega
  rw [rubricatorref02_fields.l0, if_pos (by omega), if_pos (by omega), if_pos (by omega), rd_str ps j hj, e2]
  simp only [if_pos ho]
theorem fields_ev0 (ps : List ByteArray) (hp : ∀ x ∈ ps, x.size < 4294967281) (hl : ps.length < 4294967283) : ∀ (n j : Nat), j + n = ps.length → Ev (fun k => rubricatorref02_fields.l0 k ((ps.take j).map trimB) ps (ps.length : Int) (j : Int)) (ps.map trimB)
  | 0, j, h => by
    refine Ev.step (f := fun _ => some (ps.map trimB)) (fun k => ?_) (Ev.now _)
    rw [rubricatorref02_fields.l0, if_neg (by omega), List.take_of_length_le (by omega)]
  | n + 1, j, h => by
    have hj : j < ps.length := by omega
    have ih := fields_ev0 ps hp hl n (j + 1) (by omega)
    rw [List.take_succ_eq_append_getElem hj, List.map_append, List.map_singleton] at ih
    refine Ev.step (fun k => fields_step k _ ps j hj (by rw [List.length_map, List.length_take]; omega) (by omega)) (Ev.bind (trim_ev ps[j] (hp _ (List.getElem_mem hj))) ih)
theorem head_at : ∀ (l : List (List UInt8)) (h : 0 < l.length), l.headD [] = l[0]
  | _ :: _, _ => rfl
theorem fields_ev (s : ByteArray) (hs : s.size < 4294967281) : Ev (fun k => rubricatorref02_fields.f k s) (fieldsB s) := by
  have h1 : Ev (fun k => rubricatorref02_cut.f k s 35) (cutB 35 s) := cut_ev s 35 hs
  have hne := cutB_ne 35 s
  have hpos : 0 < (cutB 35 s).length := List.length_pos_iff.2 hne
  have hrd : rdOf ByteArray.empty (cutB 35 s) 0 = upB 35 s := by
    have := rd_str (cutB 35 s) 0 hpos
    rw [show ((0 : Nat) : Int) = 0 from rfl] at this
    rw [this]
    unfold upB upL
    rw [head_at _ (List.length_pos_iff.2 (cutL_ne 35 s.data.toList))]
    exact List.getElem_map bsL
  have hus := upB_size 35 s
  have hts := trimB_size (upB 35 s)
  unfold rubricatorref02_fields.f
  refine Ev.bind h1 ?_
  rw [hrd]
  refine Ev.congr (f := fun k => (rubricatorref02_trim.f k (upB 35 s)).bind fun t120 => (if t120.toList = ([] : List UInt8) then (some ([] : List ByteArray)) else ((rubricatorref02_cut.f k t120 59).bind fun t121 => (rubricatorref02_fields.l0 k ([] : List ByteArray) t121 (t121.length : Int) 0)))) (fun k => by rw [if_pos (by omega)]) ?_
  refine Ev.bind (trim_ev (upB 35 s) (by omega)) ?_
  unfold fieldsB
  by_cases h0 : (trimB (upB 35 s)).size = 0
  · rw [if_pos h0]
    have he : trimB (upB 35 s) = ByteArray.empty := ByteArray.size_eq_zero_iff.1 h0
    rw [he]
    exact Ev.congr (fun k => by rw [if_pos (by rw [Lib.toList_data]; rfl)]) (Ev.now _)
  · rw [if_neg h0]
    have hn : ¬ (trimB (upB 35 s)).toList = ([] : List UInt8) := fun e => by
      rw [Lib.toList_data] at e
      have := Lib.size_eq (trimB (upB 35 s))
      rw [e, List.length_nil] at this
      omega
    have h2 : Ev (fun k => rubricatorref02_cut.f k (trimB (upB 35 s)) 59) (cutB 59 (trimB (upB 35 s))) := cut_ev _ 59 (by omega)
    have hl := cutB_length 59 (trimB (upB 35 s))
    have h3 := fields_ev0 (cutB 59 (trimB (upB 35 s))) (fun x hx => Nat.lt_of_le_of_lt (cutB_part hx) (by omega)) (by omega) (cutB 59 (trimB (upB 35 s))).length 0 (by omega)
    refine Ev.congr (fun k => by rw [if_neg hn]) (Ev.bind h2 h3)

end Go.Proofs.YtooehjbbphokbaaDoor
