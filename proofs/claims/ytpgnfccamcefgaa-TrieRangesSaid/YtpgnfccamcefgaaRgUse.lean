/- Merged: RgA, RgC, RgK, RgL. -/
import Derived.Test.YtpgnfccamcefgaaRgBase
import Derived.WalkSpells
import Derived.WalkLawsBesides
import Derived.Test.YtpgnfccamcefgaaRgH
import Derived.Test.YtpgnfccamcefgaaRgI
/- Walks: short, slices.Clone and slices.Equal over ranges. -/
namespace Go.Proofs.Ytpgnfccamcefgaa
set_option linter.unusedVariables false
set_option linter.unusedSimpArgs false
open Go.RowKit Go.Proofs.YtpgnfccamcefgaaW.PrintWords Go.Proofs.YtpgnfccamcefgaaW.PrintLast Go.Proofs.YtpgnfccamcefgaaW.PrintMore
attribute [local go_sem] max2_int min2_int max_two min_two
attribute [local go_sem high] Try.eqR

set_option maxHeartbeats 400000 in
set_option maxRecDepth 100000 in
theorem short_any (w : World) (v : Value) (l : List Rg) (h : RdS kR w v l) :
    Calls Try.prog 30 #[v] w fun e w' => ∃ v', e = .returned v' ∧ RdS kR w v' (l.take 40) ∧ w = w' := by
  obtain ⟨A, c, rfl, hc, hr⟩ := h
  obtain ⟨i0, hi0, _, hsz, _⟩ := info_parts Try.infoR
  obtain ⟨m, hm, hm2⟩ : ∃ m : Nat, (if (40 : Int) < (l.length : Int) then (40 : Int) else (l.length : Int)) = (m : Int) ∧ m = min 40 l.length := by
    by_cases h : (40 : Int) < (l.length : Int)
    · exact ⟨40, by rw [if_pos h]; rfl, by omega⟩
    · exact ⟨l.length, by rw [if_neg h], by omega⟩
  have hcut := cut_to (P := Try.prog) 57 60 .i64 Try.underlying57 hi0 A l.length c (m : Int) (by omega) (by omega) hc
  have hfin : RdS kR w (.slice A m c) (l.take 40) := by
    have hl : (l.take 40).length = m := by rw [List.length_take]; omega
    refine ⟨A, c, by rw [hl], by omega, ?_⟩
    have h3 : l.take 40 = l.take m := by
      rcases Nat.le_total 40 l.length with h | h
      · rw [hm2, Nat.min_eq_left h]
      · rw [List.take_of_length_le h, hm2, Nat.min_eq_right h, List.take_length]
    rw [h3]
    exact Kd.C_take hr (by omega)
  have HF := Aside0.mk hfin
  clear hfin hr hm2
  go_enter Try.func30, Try.ntmps30
  go_wp2
  go_ret
  exact ⟨_, rfl, by simpa using HF.out, rfl⟩

set_option maxHeartbeats 400000 in
set_option maxRecDepth 100000 in
theorem cloneR_any (w : World) (v : Value) (l : List Rg) (h : RdS kR w v l) (hl : l.length * 16 ≤ 140737488355328) :
    Calls Try.prog 31 #[v] w fun e w' => ∃ v', e = .returned v' ∧ Own kR 60 w' w.heap.size v' l ∧ Below w.heap.size w w' := by
  obtain ⟨A, c, rfl, hc, hr⟩ := h
  cases A with
  | none =>
    have heq : ∀ w, (binOp .eql 57 (.slice none l.length c) (.slice none 0 0)).run Try.prog w = .ok (.bool true) w := fun w => Lib.run_eql_slice_nil (P := Try.prog) w 57 60 none l.length c 0 0 Try.underlying57
    have hl0 : l = [] := by
      rcases Nat.eq_zero_or_pos l.length with h0 | h0
      · exact List.length_eq_zero_iff.1 h0
      · obtain ⟨ad, e, _⟩ := hr.2.2 h0
        cases e
    have HL := Aside0.mk hl0
    clear hr hl hc hl0
    go_enter Try.func31, Try.ntmps31
    go_wp2
    go_ret
    exact ⟨_, rfl, by rw [HL.out]; exact Kd.R_nil _ _ _ _ _, Below.refl _ _⟩
  | some ad =>
    have heq : ∀ w, (binOp .eql 57 (.slice (some ad) l.length c) (.slice none 0 0)).run Try.prog w = .ok (.bool false) w := fun w => Lib.run_eql_slice_nil (P := Try.prog) w 57 60 (some ad) l.length c 0 0 Try.underlying57
    have HR := Aside0.mk hr
    have HL := Aside0.mk hl
    clear hr hl hc
    go_enter Try.func31, Try.ntmps31
    go_wp2_with (at_builtin; refine Kd.R_append_rows kR (w0 := w) w.heap.size rfl (.tmp 5) (.tmp 6) 57 60 (.agg #[(.int .i64 0), (.int .i64 0)]) 16 rfl Try.underlying57 Try.infoR rfl (by decide) (by omega) _ [] l (some ad) l.length c (fun _ => True) (fun _ => False) rfl rfl ?aO (Kd.C_below HR.out (below_alloc (Below.refl _ _) _)) (fun _ _ h => h) (fun _ h => h.elim) (fun _ _ => trivial) ?aB ?aS ?aL ?_)
    case aO => exact R_lit0 kR _ _ _ (Nat.le_refl _)
    case aB => exact below_alloc (Below.refl _ _) _
    case aS => simp
    case aL => have := HL.out; simpa using this
    intro v1 w1 ho hb _ _
    clear heq
    go_wp2
    go_ret
    exact ⟨_, rfl, by simpa using ho, hb⟩

set_option maxHeartbeats 1000000 in
set_option maxRecDepth 100000 in
theorem equalR_any (w : World) (v u : Value) (l m : List Rg) (h : RdS kR w v l) (h' : RdS kR w u m) :
    Calls Try.prog 32 #[v, u] w fun e w' => e = .returned (.bool (decide (l = m))) ∧ Drawn0 w w' := by
  have hlen := h.len
  have hlen' := h'.len
  obtain ⟨A, c, rfl, hc, hr⟩ := h
  obtain ⟨B, c', rfl, hc', hr'⟩ := h'
  have HR := Aside0.mk hr
  have HR' := Aside0.mk hr'
  have HL := Aside0.mk hlen
  clear hr hr' hc hc'
  have hu := Try.underlying60
  by_cases hll : l.length = m.length
  · have c0 : ((l.length : Int) != (m.length : Int)) = false := by simp [hll]
    have c1 : (l.length == m.length) = true := by simp [hll]
    have HLL := Aside0.mk hll
    clear hll hlen'
    go_enter Try.func32, Try.ntmps32
    go_wp2
    go_loopg [13] l.length (fun g i w' => ∃ k : Nat, i = .int .i64 k ∧ Aside0 (k ≤ l.length ∧ g = l.length - k ∧ l.take k = m.take k) ∧ Drawn0 w w')
    case atStart => exact ⟨0, by first | rfl | simp, ⟨Nat.zero_le _, rfl, rfl⟩, Drawn0.refl _⟩
    case round =>
      obtain ⟨k, rfl, HA, ⟨m1, rfl⟩⟩ := hrel
      by_cases hk : k < l.length
      · have hk' : k < m.length := by have := HLL.out; omega
        obtain ⟨ad, rfl, hx0, hx1⟩ := at_Rn HR.out k hk
        obtain ⟨bd, rfl, hy0, hy1⟩ := at_Rn HR'.out k hk'
        by_cases he : l[k] = m[k]
        · have HE := Aside0.mk he
          clear he
          have c3 : (!(l[k].1 == m[k].1) || !(l[k].2 == m[k].2)) = false := by rw [HE.out]; simp
          go_wp2
          go_quiet (fail)
          go_wp2
          go_roundg (gk - 1)
          case measure => have := HA.out; omega
          case rel => exact ⟨k + 1, by go_num, ⟨by have := HA.out; omega, by have := HA.out; omega, take_snoc_eq HA.out.2.2 hk hk' HE.out⟩, ⟨⟨_, rfl⟩⟩⟩
        · have c3 : (!(l[k].1 == m[k].1) || !(l[k].2 == m[k].2)) = true := by
            rw [Bool.or_eq_true]
            by_cases h1 : l[k].1 = m[k].1
            · by_cases h2 : l[k].2 = m[k].2
              · exact absurd (Prod.ext h1 h2) he
              · exact .inr (by simp [h2])
            · exact .inl (by simp [h1])
          have hfin : decide (l = m) = false := decide_eq_false (by rintro rfl; exact he rfl)
          have HF := Aside0.mk hfin
          clear he hfin
          go_wp2
          go_quiet (fail)
          go_wp2
          go_ret
          exact ⟨by rw [HF.out]; rfl, Drawn0.step ⟨⟨m1, rfl⟩⟩ _⟩
      · have hfin : decide (l = m) = true := decide_eq_true (by
          have h1 := HA.out
          have h2 := HLL.out
          have h3 := h1.2.2
          rw [List.take_of_length_le (by omega), List.take_of_length_le (by omega)] at h3
          exact h3)
        have HF := Aside0.mk hfin
        clear hfin
        go_wp2
        go_ret
        exact ⟨by rw [HF.out]; rfl, ⟨⟨m1, rfl⟩⟩⟩
  · have c0 : ((l.length : Int) != (m.length : Int)) = true := by simpa using (fun h : (l.length : Int) = m.length => hll (by omega))
    have c1 : (l.length == m.length) = false := by simpa using hll
    have hfin : decide (l = m) = false := decide_eq_false (by rintro rfl; exact hll rfl)
    have HF := Aside0.mk hfin
    clear hll hfin
    go_enter Try.func32, Try.ntmps32
    go_wp2
    go_ret
    exact ⟨by rw [HF.out]; rfl, Drawn0.refl _⟩

end Go.Proofs.Ytpgnfccamcefgaa

/- Walks: ranges.Can. -/
namespace Go.Proofs.Ytpgnfccamcefgaa
set_option linter.unusedVariables false
set_option linter.unusedSimpArgs false
open Go.RowKit Go.Proofs.YtpgnfccamcefgaaW.PrintWords Go.Proofs.YtpgnfccamcefgaaW.PrintLast Go.Proofs.YtpgnfccamcefgaaW.PrintMore
attribute [local go_sem] max2_int min2_int max_two min_two

instance decCanon : ∀ (a : Int) (l : List Rg), Decidable (CanonFrom a l)
  | _, [] => isTrue trivial
  | a, p :: t =>
    match decCanon (p.2 + 2) t with
    | isTrue h => if g : a ≤ p.1 ∧ p.1 ≤ p.2 ∧ p.2 ≤ 1114111 then isTrue ⟨g.1, g.2.1, g.2.2, h⟩ else isFalse fun k => g ⟨k.1, k.2.1, k.2.2.1⟩
    | isFalse h => isFalse fun k => h k.2.2.2
instance (l : List Rg) : Decidable (Canon l) := decCanon 0 l
theorem canon_drop {a : Int} {l : List Rg} {k : Nat} (hk : k < l.length) : CanonFrom a (l.drop k) ↔ a ≤ l[k].1 ∧ l[k].1 ≤ l[k].2 ∧ l[k].2 ≤ 1114111 ∧ CanonFrom (l[k].2 + 2) (l.drop (k + 1)) := by
  rw [List.drop_eq_getElem_cons hk]
  exact Iff.rfl

set_option maxHeartbeats 1000000 in
set_option maxRecDepth 100000 in
theorem can_any (w : World) (v : Value) (l : List Rg) (h : RdS kR w v l) :
    Calls Try.prog 35 #[v] w fun e w' => e = .returned (.bool (decide (Canon l))) ∧ Below w.heap.size w w' := by
  have hlen := h.len
  obtain ⟨A, c, rfl, hc, hr⟩ := h
  have HR := Aside0.mk hr
  clear hr hc
  go_enter Try.func35, Try.ntmps35
  go_wp2
  go_loopg [3, 8] l.length (fun g la i w' => ∃ (k : Nat) (last : Int), i = .int .i64 k ∧ la = .int .i64 last ∧ Aside0 (k ≤ l.length ∧ g = l.length - k ∧ (Canon l ↔ CanonFrom (last + 2) (l.drop k)) ∧ -2 ≤ last ∧ last ≤ 1114111) ∧ Aside0 (Below w.heap.size w w'))
  case atStart => exact ⟨0, -2, by first | rfl | simp, rfl, ⟨Nat.zero_le _, rfl, Iff.rfl, by omega, by omega⟩, ⟨Below.refl _ _⟩⟩
  case round =>
    obtain ⟨k, last, rfl, rfl, HA, HB⟩ := hrel
    have hb1 := HA.out.2.2.2.1
    have hb2 := HA.out.2.2.2.2
    by_cases hk : k < l.length
    · obtain ⟨ad, rfl, hx0, hx1⟩ := at_Rn HR.out k hk
      replace hx0 := (HB.out.cell (World.block_lt_of_cell? w _ hx0)).trans hx0
      replace hx1 := (HB.out.cell (World.block_lt_of_cell? w _ hx1)).trans hx1
      have HD : Aside0 (CanonFrom (last + 2) (l.drop k) ↔ last + 2 ≤ l[k].1 ∧ l[k].1 ≤ l[k].2 ∧ l[k].2 ≤ 1114111 ∧ CanonFrom (l[k].2 + 2) (l.drop (k + 1))) := ⟨canon_drop hk⟩
      obtain ⟨p, hp⟩ : ∃ p, l[k] = p := ⟨_, rfl⟩
      rw [hp] at hx0 hx1 HD
      clear hp
      by_cases h1 : p.1 ≤ p.2
      · by_cases h2 : 0 ≤ p.1
        · by_cases h3 : p.2 ≤ 1114111
          · by_cases h4 : last + 1 < p.1
            · go_wp2
              go_roundg (gk - 1)
              case measure => have := HA.out; omega
              case rel => exact ⟨k + 1, p.2, by go_num, rfl, ⟨by have := HA.out; omega, by have := HA.out; omega, by rw [HA.out.2.2.1, HD.out]; exact ⟨fun h => h.2.2.2, fun h => ⟨by omega, h1, h3, h⟩⟩, by omega, h3⟩, ⟨below_alloc HB.out _⟩⟩
            · have HF : Aside0 (decide (Canon l) = false) := ⟨decide_eq_false (fun hh => by rw [HA.out.2.2.1, HD.out] at hh; omega)⟩
              go_wp2
              go_ret
              exact ⟨by rw [HF.out]; rfl, below_alloc HB.out _⟩
          · have HF : Aside0 (decide (Canon l) = false) := ⟨decide_eq_false (fun hh => by rw [HA.out.2.2.1, HD.out] at hh; omega)⟩
            go_wp2
            go_ret
            exact ⟨by rw [HF.out]; rfl, below_alloc HB.out _⟩
        · have HF : Aside0 (decide (Canon l) = false) := ⟨decide_eq_false (fun hh => by rw [HA.out.2.2.1, HD.out] at hh; omega)⟩
          go_wp2
          go_ret
          exact ⟨by rw [HF.out]; rfl, below_alloc HB.out _⟩
      · have HF : Aside0 (decide (Canon l) = false) := ⟨decide_eq_false (fun hh => by rw [HA.out.2.2.1, HD.out] at hh; omega)⟩
        go_wp2
        go_ret
        exact ⟨by rw [HF.out]; rfl, below_alloc HB.out _⟩
    · have HF : Aside0 (decide (Canon l) = true) := ⟨decide_eq_true (by rw [HA.out.2.2.1, List.drop_eq_nil_of_le (by omega)]; trivial)⟩
      go_wp2
      go_ret
      exact ⟨by rw [HF.out]; rfl, HB.out⟩

end Go.Proofs.Ytpgnfccamcefgaa

/- Walk of the law's own helper 'awake': true. Slices of ranges that are read, out of their cells. -/
namespace Go.Proofs.Ytpgnfccamcefgaa
set_option linter.unusedVariables false
set_option linter.unusedSimpArgs false
open Go.RowKit Go.Proofs.YtpgnfccamcefgaaW.PrintWords Go.Proofs.YtpgnfccamcefgaaW.PrintLast Go.Proofs.YtpgnfccamcefgaaW.PrintMore

theorem rdR_of {w : World} {a : Addr} {l : List Rg} {n c : Nat} (hn : l.length = n) (hl : n ≤ c) (hm : n ≤ 9223372036854775807)
    (hc : ∀ j (hj : j < l.length), w.cell? (a.add (j * 2)) = some (.int .i64 l[j].1) ∧ w.cell? (a.add (j * 2 + 1)) = some (.int .i64 l[j].2)) : RdS kR w (.slice (some a) n c) l := by
  subst hn
  refine ⟨some a, c, rfl, hl, rfl, hm, fun _ => ⟨a, rfl, fun j p hj => ⟨[.int .i64 p.1, .int .i64 p.2], rfl, kR_mk w p, fun i u hu => ?_⟩⟩⟩
  obtain ⟨hlt, rfl⟩ := List.getElem?_eq_some_iff.1 hj
  have h := hc j hlt
  match i, hu with
  | 0, hu => cases hu; exact h.1
  | 1, hu => cases hu; exact h.2
theorem rdR_blk {w : World} {b t : Nat} {cs : Array Value} {l : List Rg} {n : Nat} (hb : w.heap[b]? = some (.cells cs t (0, 0))) (hn : l.length = n) (hm : n ≤ 9223372036854775807)
    (hc : ∀ j (hj : j < l.length), cs[j * 2]? = some (.int .i64 l[j].1) ∧ cs[j * 2 + 1]? = some (.int .i64 l[j].2)) : RdS kR w (.slice (some ⟨b, 0, none⟩) n n) l :=
  rdR_of hn (Nat.le_refl _) hm fun j hj => by
    have e0 : ∀ i, (⟨b, 0, none⟩ : Addr).add i = ⟨b, i, none⟩ := fun i => by simp [Addr.add]; omega
    have e1 := e0 (j * 2)
    have e2 := e0 (j * 2 + 1)
    rw [e1, e2]
    exact ⟨(blk_cell hb _).trans (hc j hj).1, (blk_cell hb _).trans (hc j hj).2⟩

theorem set59 {r : List Rg} (h : SetOf (fun x => Mem x [(8, 9), (5, 7)]) r) : r = [(5, 9)] := by
  have h2 : SetOf (fun x => Mem x [(8, 9), (5, 7)]) [(5, 9)] := by
    refine ⟨⟨by decide, by decide, by decide, trivial⟩, fun x => ?_⟩
    simp only [mem_cons]
    have := mem_nil x
    constructor
    · rintro (h | h)
      · exact ⟨by omega, by omega, by omega⟩
      · exact absurd h this
    · rintro ⟨h0, h1, h | h | h⟩
      · exact .inl ⟨by omega, by omega⟩
      · exact .inl ⟨by omega, by omega⟩
      · exact absurd h this
  exact setOf_eq h h2

set_option maxHeartbeats 1000000 in
set_option maxRecDepth 100000 in
theorem awake_any (w : World) : Calls Try.prog 41 #[] w fun e w' => e = .returned (.bool true) ∧ Below w.heap.size w w' := by
  go_enter Try.func41, Try.ntmps41
  go_wp2_with fail
  refine (make_any sort_said _ _ [(8, 9), (5, 7)] (rdR_blk (heap_alloc_new w _) rfl (by decide) ?hc) (by decide)).mono ?_
  case hc =>
    intro j hj
    match j, hj with
    | 0, _ => exact ⟨rfl, rfl⟩
    | 1, _ => exact ⟨rfl, rfl⟩
  rintro e w1 ⟨v1, r, rfl, ⟨hs, -⟩, ho, hb⟩
  obtain rfl := set59 hs
  have HB : Aside0 (Below w.heap.size w w1) := ⟨below_to (below_alloc (Below.refl _ _) _) hb⟩
  have HO := Aside0.mk (RdS.of_R ho)
  clear hs ho hb
  go_wp2_with fail
  refine (equalR_any _ v1 _ [(5, 9)] [(5, 9)] (HO.out.below (below_alloc (Below.refl _ _) _)) (rdR_blk (heap_alloc_new w1 _) rfl (by decide) ?hd)).mono ?_
  case hd =>
    intro j hj
    match j, hj with
    | 0, _ => exact ⟨rfl, rfl⟩
  rintro e w2 ⟨rfl, hd⟩
  have HD : Aside0 (Below w.heap.size w w2) := ⟨below_to HB.out (below_to (below_alloc (Below.refl _ _) _) hd.below)⟩
  clear hd
  go_wp2
  go_ret
  exact ⟨rfl, HD.out⟩

end Go.Proofs.Ytpgnfccamcefgaa

/- The contracts of the sets' functions in the form in which the laws' walks use them: a set of which it is known what it holds. -/
namespace Go.Proofs.Ytpgnfccamcefgaa
set_option linter.unusedVariables false
set_option linter.unusedSimpArgs false
open Go.RowKit Go.Proofs.YtpgnfccamcefgaaW.PrintWords Go.Proofs.YtpgnfccamcefgaaW.PrintLast Go.Proofs.YtpgnfccamcefgaaW.PrintMore

/-- Of the code points l holds those that P tells. -/
def IsOf (P : Int → Prop) (l : List Rg) : Prop := ∀ x, 0 ≤ x → x ≤ 1114111 → (Mem x l ↔ P x)
theorem IsOf.self (l : List Rg) : IsOf (fun x => Mem x l) l := fun _ _ _ => Iff.rfl
theorem SetOf.isOf {P : Int → Prop} {r : List Rg} (h : SetOf P r) : IsOf P r := fun x h0 h1 => (h.2 x).trans ⟨fun h => h.2.2, fun h => ⟨h0, h1, h⟩⟩
/-- The call hands back a set, of what P tells, no longer than n. -/
def Got (P : Int → Prop) (n : Nat) (w : World) (e : Ending) (w' : World) : Prop := ∃ v r, e = .returned v ∧ SetOf P r ∧ r.length ≤ n ∧ RdS kR w' v r ∧ Below w.heap.size w w'
def GotSize (P : Int → Prop) (w : World) (e : Ending) (w' : World) : Prop := ∃ n r, e = .returned (.int .i64 n) ∧ SetOf P r ∧ n = sizeL r ∧ 0 ≤ n ∧ n ≤ 1114114 ∧ Below w.heap.size w w'
section
variable {w : World} {v u : Value} {l m : List Rg} {P Q : Int → Prop} {a b : Nat}
theorem make_got (h : RdS kR w v l) (hp : IsOf P l) (hn : l.length ≤ a) (hs : a * 16 ≤ 140737488355328) : Calls Try.prog 33 #[v] w (Got P a w) :=
  (make_any sort_said w v l h (Nat.le_trans (Nat.mul_le_mul_right _ hn) hs)).mono fun e w' ⟨v', r, e1, ⟨h1, h2⟩, ho, hb⟩ => ⟨v', r, e1, setOf_congr h1 hp, Nat.le_trans h2 hn, RdS.of_R ho, hb⟩
theorem not_got (h : RdS kR w v l) (hp : IsOf P l) (hn : l.length ≤ a) (hs : (a + 1) * 16 ≤ 140737488355328) : Calls Try.prog 42 #[v] w (Got (fun x => ¬ P x) (a + 1) w) :=
  (not_any w v l h (Nat.le_trans (Nat.mul_le_mul_right _ (by omega)) hs)).mono fun e w' ⟨v', r, e1, ⟨h1, h2⟩, ho, hb⟩ => ⟨v', r, e1, setOf_congr h1 (fun x h0 h1 => not_congr (hp x h0 h1)), by omega, RdS.of_R ho, hb⟩
theorem union_got (h : RdS kR w v l) (h' : RdS kR w u m) (hp : IsOf P l) (hq : IsOf Q m) (hn : l.length ≤ a) (hm : m.length ≤ b) (hs : (a + b) * 16 ≤ 140737488355328) : Calls Try.prog 45 #[v, u] w (Got (fun x => P x ∨ Q x) (a + b) w) :=
  (union_any w v u l m h h' (Nat.le_trans (Nat.mul_le_mul_right _ (by omega)) hs)).mono fun e w' ⟨v', r, e1, ⟨h1, h2⟩, ho, hb⟩ => ⟨v', r, e1, setOf_congr h1 (fun x h0 h1 => or_congr (hp x h0 h1) (hq x h0 h1)), by omega, RdS.of_R ho, hb⟩
theorem meet_got (h : RdS kR w v l) (h' : RdS kR w u m) (hp : IsOf P l) (hq : IsOf Q m) (hn : l.length ≤ a) (hm : m.length ≤ b) (hs : (a + b + 1) * 16 ≤ 140737488355328) : Calls Try.prog 44 #[v, u] w (Got (fun x => P x ∧ Q x) (a + b) w) :=
  (meet_any w v u l m h h' (Nat.le_trans (Nat.mul_le_mul_right _ (by omega)) hs)).mono fun e w' ⟨v', r, e1, ⟨h1, h2⟩, ho, hb⟩ => ⟨v', r, e1, setOf_congr h1 (fun x h0 h1 => and_congr (hp x h0 h1) (hq x h0 h1)), by omega, RdS.of_R ho, hb⟩
theorem minus_got (h : RdS kR w v l) (h' : RdS kR w u m) (hp : IsOf P l) (hq : IsOf Q m) (hn : l.length ≤ a) (hm : m.length ≤ b) (hs : (a + b + 2) * 16 ≤ 140737488355328) : Calls Try.prog 49 #[v, u] w (Got (fun x => P x ∧ ¬ Q x) (a + b + 1) w) :=
  (minus_any w v u l m h h' (Nat.le_trans (Nat.mul_le_mul_right _ (by omega)) hs)).mono fun e w' ⟨v', r, e1, ⟨h1, h2⟩, ho, hb⟩ => ⟨v', r, e1, setOf_congr h1 (fun x h0 h1 => and_congr (hp x h0 h1) (not_congr (hq x h0 h1))), by omega, RdS.of_R ho, hb⟩
theorem xor_got (h : RdS kR w v l) (h' : RdS kR w u m) (hp : IsOf P l) (hq : IsOf Q m) (hn : l.length ≤ a) (hm : m.length ≤ b) (hs : (a + b + 2) * 32 ≤ 140737488355328) : Calls Try.prog 46 #[v, u] w (Got (fun x => (P x ∧ ¬ Q x) ∨ (Q x ∧ ¬ P x)) (2 * (a + b + 1)) w) :=
  (xor_any w v u l m h h' (Nat.le_trans (Nat.mul_le_mul_right _ (by omega)) hs)).mono fun e w' ⟨v', r, e1, ⟨h1, h2⟩, ho, hb⟩ => ⟨v', r, e1, setOf_congr h1 (fun x h0 h1 => or_congr (and_congr (hp x h0 h1) (not_congr (hq x h0 h1))) (and_congr (hq x h0 h1) (not_congr (hp x h0 h1)))), by omega, RdS.of_R ho, hb⟩
theorem size_got (h : RdS kR w v l) (hp : IsOf P l) (hn : l.length ≤ a) (hs : a * 16 ≤ 140737488355328) : Calls Try.prog 37 #[v] w (GotSize P w) :=
  (size_any w v l h (Nat.le_trans (Nat.mul_le_mul_right _ hn) hs)).mono fun e w' ⟨n, e1, ⟨r, hr, en⟩, hb⟩ => ⟨n, r, e1, setOf_congr hr hp, en, by
    have := sizeL_bound r 0 (by omega) hr.1
    omega, by
    have := sizeL_bound r 0 (by omega) hr.1
    omega, hb⟩
theorem short_got (h : RdS kR w v l) : Calls Try.prog 30 #[v] w fun e w' => ∃ v', e = .returned v' ∧ RdS kR w' v' (l.take 40) ∧ (l.take 40).length ≤ 40 ∧ w' = w :=
  (short_any w v l h).mono fun e w' ⟨v', e1, hr, ew⟩ => ⟨v', e1, ew ▸ hr, by rw [List.length_take]; omega, ew.symm⟩
theorem clone_got (h : RdS kR w v l) (hn : l.length ≤ a) (hs : a * 16 ≤ 140737488355328) : Calls Try.prog 31 #[v] w fun e w' => ∃ v', e = .returned v' ∧ RdS kR w' v' l ∧ Below w.heap.size w w' :=
  (cloneR_any w v l h (Nat.le_trans (Nat.mul_le_mul_right _ hn) hs)).mono fun e w' ⟨v', e1, ho, hb⟩ => ⟨v', e1, RdS.of_R ho, hb⟩
theorem equal_got (h : RdS kR w v l) (h' : RdS kR w u m) (he : l = m) : Calls Try.prog 32 #[v, u] w fun e w' => e = .returned (.bool true) ∧ Below w.heap.size w w' :=
  (equalR_any w v u l m h h').mono fun e w' ⟨e1, hd⟩ => ⟨by rw [e1, decide_eq_true he], hd.below⟩
theorem has_got {r : Int} (h : RdS kR w v l) (hp : IsOf P l) : Calls Try.prog 39 #[v, .int .i64 r] w fun e w' => ∃ t : Bool, e = .returned (.bool t) ∧ (t = true ↔ (0 ≤ r ∧ r ≤ 1114111 ∧ P r)) ∧ Below w.heap.size w w' :=
  (has_any w v l r h).mono fun e w' ⟨e1, hb⟩ => ⟨_, e1, (hasB_iff l r).trans ⟨fun h => ⟨h.1, h.2.1, (hp r h.1 h.2.1).1 h.2.2⟩, fun h => ⟨h.1, h.2.1, (hp r h.1 h.2.1).2 h.2.2⟩⟩, hb⟩
theorem has_is {r : Int} (h : RdS kR w v l) (hp : IsOf P l) (t : Bool) (ht : t = true ↔ (0 ≤ r ∧ r ≤ 1114111 ∧ P r)) : Calls Try.prog 39 #[v, .int .i64 r] w fun e w' => e = .returned (.bool t) ∧ Below w.heap.size w w' :=
  (has_got h hp).mono fun e w' ⟨t', e1, ht', hb⟩ => ⟨by rw [e1, Bool.eq_iff_iff.2 (ht'.trans ht.symm)], hb⟩
theorem refHas_is {r : Int} (h : RdS kR w v l) (hp : IsOf P l) (t : Bool) (ht : t = true ↔ (0 ≤ r ∧ r ≤ 1114111 ∧ P r)) : Calls Try.prog 40 #[v, .int .i64 r] w fun e w' => e = .returned (.bool t) ∧ Below w.heap.size w w' :=
  (refHas_any w v l r h).mono fun e w' ⟨e1, hb⟩ => ⟨by rw [e1]; exact congrArg _ (congrArg _ (Bool.eq_iff_iff.2 (((hasB_iff l r).trans ⟨fun h => ⟨h.1, h.2.1, (hp r h.1 h.2.1).1 h.2.2⟩, fun h => ⟨h.1, h.2.1, (hp r h.1 h.2.1).2 h.2.2⟩⟩).trans ht.symm))), hb⟩
theorem can_got (h : RdS kR w v l) (hc : Canon l) : Calls Try.prog 35 #[v] w fun e w' => e = .returned (.bool true) ∧ Below w.heap.size w w' :=
  (can_any w v l h).mono fun e w' ⟨e1, hb⟩ => ⟨by rw [e1, decide_eq_true hc], hb⟩
theorem set_same {p q : Int → Prop} {a b : List Rg} (h : SetOf p a) (k : SetOf q b) (hpq : ∀ x, p x ↔ q x) : a = b := setOf_eq h (setOf_congr k (fun x _ _ => (hpq x).symm))
end

end Go.Proofs.Ytpgnfccamcefgaa
