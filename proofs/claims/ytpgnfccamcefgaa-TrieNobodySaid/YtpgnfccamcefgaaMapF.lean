/- Maps whose keys and elements are whole numbers, as functions: what the operations on them do. -/
import Derived.Test.YtpgnfccamcefgaaBase
import Derived.Test.YtpgnfccamcefgaaTrPure
import Derived.Maps.RangeWalk
import Derived.Maps.OwnOps
namespace Go.Proofs.Ytpgnfccamcefgaa
set_option linter.unusedVariables false
set_option linter.unusedSimpArgs false
open Go.RowKit Go.Maps

/-- The types of a map from whole numbers to whole numbers. -/
structure MTy (P : Program) (t k e : TypeId) (qk qe : IntKind) : Prop where
  ht : P.underlying t = some (.map k e)
  hk : P.underlying k = some (.int qk)
  he : P.underlying e = some (.int qe)
  hz : ∀ w, (zeroValue e).run P w = .ok (.int qe 0) w


/-- D reads as F. -/
structure ReadF (qk qe : IntKind) (D : DataW Unit) (F : Int → Option Int) : Prop where
  isMap : IsMap D
  hit : ∀ x c, F x = some c → Maps.has D (.int qk x) = true ∧ (∀ zd, D.atKey (.int qk x) zd = .lit (.int qe c)) ∧ (Lit.int qk x).wf = true
  miss : ∀ x, F x = none → Maps.has D (.int qk x) = false
theorem ReadF.nil (qk qe : IntKind) : ReadF qk qe (.map []) (fun _ => none) := ⟨isMap_empty, fun x c h => by (cases h), fun x _ => rfl⟩
theorem ReadF.put {qk qe : IntKind} {D : DataW Unit} {F : Int → Option Int} (h : ReadF qk qe D F) {x c : Int} (hx : (Lit.int qk x).wf = true) : ReadF qk qe (D.put (.int qk x) (.lit (.int qe c))) (upd F x c) := by
  refine ⟨h.isMap.put _ _, fun y d hy => ?_, fun y hy => ?_⟩
  · by_cases e : y = x
    · subst e
      rw [upd_same] at hy
      cases hy
      exact ⟨has_put_same h.isMap (show WideAt.IsKeyLit (.int qk y) from trivial) _, fun zd => atKey_put_same h.isMap (show WideAt.IsKeyLit (.int qk y) from trivial) _ _, hx⟩
    · rw [upd_other _ _ e] at hy
      have hne : Lit.int qk y ≠ Lit.int qk x := fun hh => by cases hh; exact e rfl
      obtain ⟨h1, h2, h3⟩ := h.hit y d hy
      exact ⟨by rw [has_put_other hne]; exact h1, fun zd => by rw [atKey_put_other hne]; exact h2 zd, h3⟩
  · by_cases e : y = x
    · subst e
      rw [upd_same] at hy
      cases hy
    · rw [upd_other _ _ e] at hy
      have hne : Lit.int qk y ≠ Lit.int qk x := fun hh => by cases hh; exact e rfl
      rw [has_put_other hne]
      exact h.miss y hy

/-- Block b is a map that reads as F, of at most n entries. -/
def MapF (P : Program) (k e : TypeId) (qk qe : IntKind) (w : World) (b n : Nat) (F : Int → Option Int) : Prop :=
  ∃ D : DataW Unit, w.ownsMap P k (plainElem P e) b n D ∧ ReadF qk qe D F

section
variable {P : Program} {t k e : TypeId} {qk qe : IntKind} {w w1 : World} {b n : Nat} {F : Int → Option Int}
theorem MapF.lt (h : MapF P k e qk qe w b n F) : b < w.heap.size := by obtain ⟨D, h, _⟩ := h; exact h.lt
theorem MapF.mono (h : MapF P k e qk qe w b n F) {m : Nat} (hm : n ≤ m) : MapF P k e qk qe w b m F := by obtain ⟨D, h, h2⟩ := h; exact ⟨D, h.mono hm, h2⟩
theorem MapF.move (h : MapF P k e qk qe w b n F) (hb : w1.heap[b]? = w.heap[b]?) : MapF P k e qk qe w1 b n F := by
  obtain ⟨D, ⟨es, clock, h1, h2, h3, h4⟩, h5⟩ := h
  exact ⟨D, ⟨es, clock, hb.trans h1, h2, h3, h4⟩, h5⟩
theorem MapF.below (h : MapF P k e qk qe w b n F) (hb : Below w.heap.size w w1) : MapF P k e qk qe w1 b n F := h.move (hb.block b h.lt)
theorem MapF.grown (h : MapF P k e qk qe w b n F) {row : Option Nat} (hg : w.grownBy w1 row) (hne : some b ≠ row) : MapF P k e qk qe w1 b n F := h.move (hg.block b h.lt hne)
theorem MapF.alloc (h : MapF P k e qk qe w b n F) (o : Obj) : MapF P k e qk qe (w.alloc o) b n F := h.below ((Below.refl _ _).alloc (Nat.le_refl _) o)
theorem MapF.drewN (h : MapF P k e qk qe w b n F) (m : Nat) : MapF P k e qk qe (w.drewN m) b n F := h.move rfl
theorem MapF.setCell (h : MapF P k e qk qe w b n F) {a : Addr} (ha : b ≠ a.block) (u : Value) : MapF P k e qk qe (w.setCell a u) b n F := h.move (Below.heap_setCell w a u b ha)
theorem MapF.made (P : Program) (k e : TypeId) (qk qe : IntKind) (w : World) : MapF P k e qk qe (w.alloc (.map #[] 0)) w.heap.size 0 (fun _ => none) := ⟨_, World.ownsMap_made _ _ _ _, ReadF.nil _ _⟩
/-- A map's block is no row of cells. -/
theorem MapF.not_cells (h : MapF P k e qk qe w b n F) {g : Nat} {cs : Array Value} {u : TypeId} {fr : Nat × Nat} (hg : w.heap[g]? = some (.cells cs u fr)) : b ≠ g := by
  obtain ⟨D, ⟨es, clock, hb, _⟩, _⟩ := h
  rintro rfl
  rw [hb] at hg
  cases hg

/-- 'm[x]', as an equation. -/
theorem MapF.run_lookup (T : MTy P t k e qk qe) (h : MapF P k e qk qe w b n F) (i : Int) (hw : (Lit.int qk i).wf = true) : (Instr.lookup t (.map (some b)) (.int qk i) false).run P w = .ok (.int qe ((F i).getD 0)) w := by
  obtain ⟨D, h, hF⟩ := h
  obtain ⟨c, hrun, hat, _⟩ := h.lookup_int (int_keyed T.hk) T.ht T.he (T.hz w) (keyOf_int_mk T.hk hw)
  have : (F i).getD 0 = c := by
    cases hFi : F i with
    | none => have h2 := atKey_of_not_has (hF.miss i hFi) (.lit (.int qe 0)); rw [h2] at hat; cases hat; rfl
    | some y => have h2 := (hF.hit i y hFi).2.1 (.lit (.int qe 0)); rw [h2] at hat; cases hat; rfl
  rw [this]
  exact hrun
variable {ops : Array Oper} {rest : List Oper} {o : Oper} {a : Act} {Q : Exit → Act → World → Prop}
/-- 'm[x]'. -/
theorem lookupF (T : MTy P t k e qk qe) (hg : o.guard = none) (m x : Operand) (hop : o.op = Op.lookup t m x false) (hm : a.eval m = .map (some b)) (h : MapF P k e qk qe w b n F) (i : Int) (hx : a.eval x = .int qk i) (hw : (Lit.int qk i).wf = true)
    (hK : wpList P ops Q rest (a.put o.dst (.int qe ((F i).getD 0))) w) : wpList P ops Q (o :: rest) a w := by
  obtain ⟨D, h, hF⟩ := h
  refine wpList_lookup_own_int w hg m x t hop k e qe (int_keyed T.hk) T.ht T.he (T.hz w) b n D hm h _ _ hx (keyOf_int_mk T.hk hw) ?_
  intro c hat _
  have : (F i).getD 0 = c := by
    cases hFi : F i with
    | none => have h2 := atKey_of_not_has (hF.miss i hFi) (.lit (.int qe 0)); rw [h2] at hat; cases hat; rfl
    | some y => have h2 := (hF.hit i y hFi).2.1 (.lit (.int qe 0)); rw [h2] at hat; cases hat; rfl
  rw [← this]
  exact hK
/-- 'v, ok := m[x]'. -/
theorem lookupF_ok (T : MTy P t k e qk qe) (hg : o.guard = none) (m x : Operand) (hop : o.op = Op.lookup t m x true) (hm : a.eval m = .map (some b)) (h : MapF P k e qk qe w b n F) (i : Int) (hx : a.eval x = .int qk i) (hw : (Lit.int qk i).wf = true)
    (hK : wpList P ops Q rest (a.put o.dst (.tuple #[.int qe ((F i).getD 0), .bool (F i).isSome])) w) : wpList P ops Q (o :: rest) a w := by
  obtain ⟨D, h, hF⟩ := h
  refine wpList_lookup_own_ok_int w hg m x t hop k e qe (int_keyed T.hk) T.ht T.he (T.hz w) b n D hm h _ _ hx (keyOf_int_mk T.hk hw) ?_
  intro c hat _
  have : (F i).getD 0 = c ∧ (F i).isSome = Maps.has D (.int qk i) := by
    cases hFi : F i with
    | none => have h2 := atKey_of_not_has (hF.miss i hFi) (.lit (.int qe 0)); rw [h2] at hat; cases hat; exact ⟨rfl, (hF.miss i hFi).symm⟩
    | some y => have h2 := (hF.hit i y hFi).2.1 (.lit (.int qe 0)); rw [h2] at hat; cases hat; exact ⟨rfl, (hF.hit i _ hFi).1.symm⟩
  rw [← this.1, ← this.2]
  exact hK
/-- 'm[x] = v'. -/
theorem storeF (T : MTy P t k e qk qe) (hg : o.guard = none) (m x v : Operand) (hop : o.op = Op.mapUpdate t m x v) (hm : a.eval m = .map (some b)) (h : MapF P k e qk qe w b n F) (hn : n < 9223372036854775807) (i c : Int) (hx : a.eval x = .int qk i) (hv : a.eval v = .int qe c) (hw : (Lit.int qk i).wf = true) (hc : (Lit.int qe c).wf = true)
    (hK : ∀ w', MapF P k e qk qe w' b (n + 1) (upd F i c) → w.grownBy w' (some b) → wpList P ops Q rest (a.put o.dst undef) w') : wpList P ops Q (o :: rest) a w := by
  obtain ⟨D, h, hF⟩ := h
  refine wpList_mapUpdate_own w hg m x v t hop k e (int_keyed T.hk) T.ht _ b n D hm h (by unfold maxLen; omega) _ _ _ hx hv (keyOf_int_mk T.hk hw) _ [] (plainElem_int T.he hc) ?_
  intro w' h1 h2
  exact hK w' ⟨_, h1, hF.put hw⟩ h2

/-- A range over the map under way: which keys are still to come, and how many. -/
def RangeF (P : Program) (k e : TypeId) (qk qe : IntKind) (w : World) (b r n : Nat) (F : Int → Option Int) (left : Int → Prop) (cnt : Nat) : Prop :=
  ∃ (D : DataW Unit) (lf : Lit → Bool), w.ranges P k (plainElem P e) b r n D lf cnt ∧ ReadF qk qe D F ∧ ∀ x, left x ↔ lf (.int qk x) = true
theorem RangeF.map {r cnt : Nat} {left : Int → Prop} (h : RangeF P k e qk qe w b r n F left cnt) : MapF P k e qk qe w b n F := by obtain ⟨D, lf, h, hF, _⟩ := h; exact ⟨D, h.owns, hF⟩
theorem RangeF.left_eq {r cnt : Nat} {left : Int → Prop} (h : RangeF P k e qk qe w b r n F left cnt) : w.rangeLeft b r = cnt := by obtain ⟨D, lf, h, _⟩ := h; exact h.left_eq
theorem RangeF.grown {r cnt : Nat} {left : Int → Prop} (h : RangeF P k e qk qe w b r n F left cnt) {row : Option Nat} (hg : w.grownBy w1 row) (hb : some b ≠ row) (hr : some r ≠ row) : RangeF P k e qk qe w1 b r n F left cnt := by
  obtain ⟨D, lf, h, h2⟩ := h
  exact ⟨D, lf, h.kept hg hb hr, h2⟩
theorem RangeF.lt {r cnt : Nat} {left : Int → Prop} (h : RangeF P k e qk qe w b r n F left cnt) : r < w.heap.size := by obtain ⟨D, lf, h, _⟩ := h; exact h.lt
/-- An iterator's block is no row of cells. -/
theorem RangeF.not_cells {r cnt : Nat} {left : Int → Prop} (h : RangeF P k e qk qe w b r n F left cnt) {g : Nat} {cs : Array Value} {u : TypeId} {fr : Nat × Nat} (hg : w.heap[g]? = some (.cells cs u fr)) : r ≠ g := by
  obtain ⟨D, lf, ⟨es, clock, since, seen, c0, _, _, _, _, hr, _⟩, _⟩ := h
  rintro rfl
  rw [hr] at hg
  cases hg
/-- 'range m'. -/
theorem rangeF (T : MTy P t k e qk qe) (hg : o.guard = none) (m : Operand) (hop : o.op = Op.range t m) (hm : a.eval m = .map (some b)) (h : MapF P k e qk qe w b n F)
    (hK : ∀ w' cnt, RangeF P k e qk qe w' b w.heap.size n F (fun x => F x ≠ none) cnt → cnt ≤ n → w.grownBy w' none → w'.heap.size = w.heap.size + 1 → wpList P ops Q rest (a.put o.dst (.pointer (some ⟨w.heap.size, 0, none⟩))) w') : wpList P ops Q (o :: rest) a w := by
  obtain ⟨D, h, hF⟩ := h
  refine wpList_range_own w hg m t hop k e (int_keyed T.hk) T.ht _ b n D hm h ?_
  intro w' h1 h2 h3
  refine hK w' _ ⟨D, _, h1, hF, fun x => ?_⟩ h.size_le h2 h3
  cases hx : F x with
  | none => rw [hF.miss x hx]; simp [hx]
  | some c => rw [(hF.hit x c hx).1]; simp [hx]
/-- The next key, whichever it is. -/
theorem nextF (T : MTy P t k e qk qe) (hg : o.guard = none) (it : Operand) (hop : o.op = Op.next it false) {r cnt : Nat} {left : Int → Prop} (hit : a.eval it = .pointer (some ⟨r, 0, none⟩)) (h : RangeF P k e qk qe w b r n F left cnt)
    (hDone : (∀ x, (Lit.int qk x).wf = true → ¬ left x) → wpList P ops Q rest (a.put o.dst (.tuple #[.bool false])) w)
    (hMore : ∀ (x c : Int) (w' : World) (cnt' : Nat), (Lit.int qk x).wf = true → (Lit.int qe c).wf = true → left x → F x = some c → RangeF P k e qk qe w' b r n F (fun z => left z ∧ z ≠ x) cnt' → cnt' < cnt → w.grownBy w' (some r) → w'.heap.size = w.heap.size →
      (Instr.entry (.pointer (some ⟨r, 0, none⟩))).run P w' = .ok (.tuple #[.int qk x, .int qe c]) w' → wpList P ops Q rest (a.put o.dst (.tuple #[.bool true, .int qk x, .int qe c])) w') : wpList P ops Q (o :: rest) a w := by
  obtain ⟨D, lf, h, hF, hl⟩ := h
  refine wpList_next_ranges_ii w hg it hop k e qk qe (int_keyed T.hk) T.hk T.he b r n D lf cnt hit h ?_ ?_
  · intro _ h0
    exact hDone fun x _ hx => by have := (hl x).1 hx; rw [h0] at this; cases this
  · intro x c w' cnt' hwx hwc hlx hat hrg hlt hg1 hs1 hen
    have hFx : F x = some c := by
      cases hx : F x with
      | none => have h2 := atKey_of_not_has (hF.miss x hx) (.map []); rw [hat] at h2; cases h2
      | some d => have h2 := (hF.hit x d hx).2.1 (.map []); rw [hat] at h2; cases h2; rfl
    refine hMore x c w' cnt' hwx hwc ((hl x).2 hlx) hFx ⟨D, _, hrg, hF, fun z => ?_⟩ hlt hg1 hs1 hen
    show left z ∧ z ≠ x ↔ (lf (.int qk z) && !(Lit.int qk z).sameKey (.int qk x)) = true
    rw [hl z, Bool.and_eq_true]
    by_cases e : z = x
    · subst e
      have : (Lit.int qk z).sameKey (.int qk z) = true := WideAt.sameKey_self trivial
      rw [this]
      simp
    · have : (Lit.int qk z).sameKey (.int qk x) = false := sameKey_ne (fun hh => by cases hh; exact e rfl)
      rw [this]
      simp [e]
end

section
variable {P : Program} {t k e : TypeId} {qk qe : IntKind} {w w1 : World} {b n : Nat} {F : Int → Option Int}
variable {ops : Array Oper} {rest : List Oper} {o : Oper} {a : Act} {Q : Exit → Act → World → Prop}
/-- 'm[x] = v' of a literal. -/
theorem insertF (T : MTy P t k e qk qe) (hg : o.guard = none) (m x v : Operand) (hop : o.op = Op.insert t m x v) (hm : a.eval m = .map (some b)) (h : MapF P k e qk qe w b n F) (hn : n < 9223372036854775807) (i c : Int) (hx : a.eval x = .int qk i) (hv : a.eval v = .int qe c) (hw : (Lit.int qk i).wf = true) (hc : (Lit.int qe c).wf = true)
    (hK : ∀ w', MapF P k e qk qe w' b (n + 1) (upd F i c) → w.grownBy w' (some b) → wpList P ops Q rest (a.put o.dst undef) w') : wpList P ops Q (o :: rest) a w := by
  obtain ⟨D, h, hF⟩ := h
  refine wpList_plain hg fun K' hK' => ?_
  obtain ⟨w', hrun, r1, r2⟩ := h.update (int_keyed T.hk) T.ht (by unfold maxLen; omega) (keyOf_int_mk T.hk hw) (plainElem_int T.he hc)
  unfold Oper.wp
  simp [execOp, hop, hm, hx, hv, hrun, Result.andThen]
  exact hK' _ _ (hK w' ⟨_, r1, hF.put hw⟩ r2)
end


end Go.Proofs.Ytpgnfccamcefgaa
