/- Walk: the reference's Ranges over entries. -/
import Derived.Test.YtpgnfccamcefgaaTrRefE
import Derived.Test.YtpgnfccamcefgaaRgO
import Derived.Test.YtpgnfccamcefgaaRd
namespace Go.Proofs.Ytpgnfccamcefgaa
set_option linter.unusedVariables false
set_option linter.unusedSimpArgs false
open Go.RowKit Go.Proofs.YtpgnfccamcefgaaW.PrintWords Go.Proofs.YtpgnfccamcefgaaW.PrintLast Go.Proofs.YtpgnfccamcefgaaW.PrintMore

/-- Whether the last entry that has a code point has one of some places. -/
def inP (ps : List Int) (l : List En) (x : Int) : Bool := l.foldl (fun b e => if e.1 ≤ x ∧ x ≤ e.2.1 then ps.contains e.2.2 else b) false
theorem inP_snoc (ps : List Int) (l : List En) (e : En) (x : Int) : inP ps (l ++ [e]) x = if e.1 ≤ x ∧ x ≤ e.2.1 then ps.contains e.2.2 else inP ps l x := by
  unfold inP
  rw [List.foldl_append]
  rfl
theorem inP_last (ps : List Int) (hps : ¬ (-1 : Int) ∈ ps) (x : Int) (l : List En) : inP ps l x = ps.contains (lastE l x) := by
  rcases snoc_or l with rfl | ⟨s, e, rfl⟩
  · have : ps.contains (-1 : Int) = false := by simpa using hps
    exact this.symm
  · have ih := inP_last ps hps x s
    rw [inP_snoc, lastE_snoc, ih]
    by_cases h : e.1 ≤ x ∧ x ≤ e.2.1
    · rw [if_pos h, if_pos h]
    · rw [if_neg h, if_neg h]
termination_by l.length
decreasing_by subst_vars; simp
theorem canonFrom_len : ∀ (l : List Rg) (a : Int), CanonFrom a l → (l.length : Int) ≤ if a ≤ 1114112 then 1114112 - a else 0
  | [], a, _ => by split <;> simp; omega
  | p :: t, a, h => by
    have ih := canonFrom_len t _ h.2.2.2
    have h1 := h.1
    have h2 := h.2.1
    have h3 := h.2.2.1
    rw [List.length_cons]
    split at ih <;> split <;> omega
theorem canon_len {l : List Rg} (h : Canon l) : l.length ≤ 1114112 := by
  have := canonFrom_len l 0 h
  simp at this
  omega
theorem contains_snoc {ps : List Int} {k : Nat} (hk : k < ps.length) (x : Int) : (ps.take (k + 1)).contains x = ((ps.take k).contains x || ps[k] == x) := by
  rw [List.take_succ_eq_append_getElem hk, List.contains_append]
  congr 1
  rw [List.contains_cons, List.contains_nil, Bool.or_false]
  by_cases h : x = ps[k]
  · rw [beq_iff_eq.2 h, beq_iff_eq.2 h.symm]
  · rw [beq_eq_false_iff_ne.2 h, beq_eq_false_iff_ne.2 (Ne.symm h)]
theorem mem_one (x a b : Int) : Mem x [(a, b)] ↔ a ≤ x ∧ x ≤ b := by
  rw [mem_cons]
  exact or_iff_left (mem_nil x)

set_option maxHeartbeats 4000000 in
set_option maxRecDepth 100000 in
theorem refRanges_any (w : World) (ve vp : Value) (l : List En) (ps : List Int) (he : RdS kE w ve l) (hp : RdS (Kd.int .i64) w vp ps) :
    Calls Try.prog 55 #[ve, vp] w (GotR (fun x => inP ps l x = true) w) := by
  have hlen := he.len
  have hlen2 := hp.len
  obtain ⟨A, c, rfl, -, hr⟩ := he
  obtain ⟨A2, c2, rfl, -, hr2⟩ := hp
  have HR := Aside0.mk hr
  have HP := Aside0.mk hr2
  clear hr hr2
  go_enter Try.func55, Try.ntmps55
  go_wp2
  go_loopg [5, 14] l.length (fun gk z i w' => ∃ (k : Nat) (r : List Rg), i = .int .i64 (k : Int) ∧ Aside0 (k ≤ l.length ∧ gk = l.length - k) ∧ Aside0 (RdS kR w' z r) ∧ Aside0 (SetOf (fun x => inP ps (l.take k) x = true) r) ∧ Aside0 (Below w.heap.size w w'))
  case atStart => exact ⟨0, [], by first | rfl | simp, ⟨Nat.zero_le _, rfl⟩, ⟨RdS.nil _ _⟩, ⟨⟨trivial, fun x => ⟨fun h => absurd h (mem_nil x), fun h => by cases h.2.2⟩⟩⟩, ⟨Below.refl _ _⟩⟩
  case round =>
    obtain ⟨k, r, rfl, HA, HZ, HS, HB⟩ := hrel
    obtain ⟨Az, cz, rfl, -, -⟩ := HZ.out
    by_cases hk : k < l.length
    · obtain ⟨ad, rfl, hx0, hx1, hx2⟩ := at_En HR.out k hk
      replace hx0 := pw_cell_below HB.out hx0
      replace hx1 := pw_cell_below HB.out hx1
      replace hx2 := pw_cell_below HB.out hx2
      have HT : Aside0 (∀ x, inP ps (l.take (k + 1)) x = if l[k].1 ≤ x ∧ x ≤ l[k].2.1 then ps.contains l[k].2.2 else inP ps (l.take k) x) := ⟨fun x => by rw [List.take_succ_eq_append_getElem hk, inP_snoc]⟩
      obtain ⟨x, hx⟩ : ∃ x, l[k] = x := ⟨_, rfl⟩
      rw [hx] at hx0 hx1 hx2 HT
      clear hx
      obtain ⟨a, b, v⟩ := x
      simp only at hx0 hx1 hx2 HT
      obtain ⟨wo, hwo⟩ : ∃ wo : World, wo = wr := ⟨_, rfl⟩
      subst hwo
      go_wp2
      go_loopg [8, 20] ps.length (fun gk h j w' => ∃ (q : Nat), j = .int .i64 (q : Int) ∧ h = .bool ((ps.take q).contains v) ∧ Aside0 (q ≤ ps.length ∧ gk = ps.length - q) ∧ w' = wo.alloc (.cells #[.int .i64 a, .int .i64 b, .int .i64 v] 40))
      case atStart => exact ⟨0, by first | rfl | simp, rfl, ⟨Nat.zero_le _, rfl⟩, rfl⟩
      case round =>
        obtain ⟨q, rfl, rfl, HQ, rfl⟩ := hrel
        by_cases hq : q < ps.length
        · obtain ⟨ad2, rfl, hy⟩ := Kd.at_int HP.out (q : Int) (by omega) (by omega)
          have HY : Aside0 (rd ps (q : Int) = ps[q]) := ⟨by simp [rd, hq]⟩
          have hy2 := pw_cell_below (below_alloc HB.out (.cells #[.int .i64 a, .int .i64 b, .int .i64 v] 40)) hy
          simp only [Int.toNat_natCast] at hy2
          have HCN := Aside0.mk (contains_snoc hq v)
          rw [HY.out] at hy2
          clear hy
          obtain ⟨y, hy⟩ : ∃ y, ps[q] = y := ⟨_, rfl⟩
          rw [hy] at hy2 HCN
          obtain ⟨t, ht⟩ : ∃ t, (ps.take q).contains v = t := ⟨_, rfl⟩
          rw [ht] at HCN ⊢
          clear hy ht
          cases t with
          | true =>
            go_wp2
            go_roundg (gk - 1)
            case measure => have := HQ.out; omega
            case rel => exact ⟨q + 1, by go_num, by rw [HCN.out]; rfl, ⟨by omega, by have := HQ.out; omega⟩, rfl⟩
          | false =>
            go_wp2
            go_roundg (gk - 1)
            case measure => have := HQ.out; omega
            case rel => exact ⟨q + 1, by go_num, by rw [HCN.out]; rfl, ⟨by omega, by have := HQ.out; omega⟩, rfl⟩
        · have hall : ps.take q = ps := List.take_of_length_le (by omega)
          rw [hall]
          obtain ⟨t, ht⟩ : ∃ t, ps.contains v = t := ⟨_, rfl⟩
          rw [ht] at HT ⊢
          clear ht hall
          have HSI := Aside0.mk HS.out.isOf
          have HRL := Aside0.mk (canon_len HS.out.1)
          have HI1 : Aside0 (IsOf (fun x => a ≤ x ∧ x ≤ b) [(a, b)]) := ⟨fun x _ _ => mem_one x a b⟩
          have HLT : ∀ W : World, W = (wo.alloc (.cells #[.int .i64 a, .int .i64 b, .int .i64 v] 40)).alloc (.cells #[.int .i64 a, .int .i64 b] 60) → RdS kR W (.slice (some ⟨wo.heap.size + 1, 0, none⟩) 1 1) [(a, b)] := fun W hW => by
            subst hW
            exact rd_flat (l := [(a, b)]) (fun p => [.int .i64 p.1, .int .i64 p.2]) kR_mk (heap_alloc2_new wo _ _) (show 1 ≤ 9223372036854775807 by omega)
          have HLT2 := Aside0.mk (HLT _ rfl)
          have HZ2 : Aside0 (RdS kR ((wo.alloc (.cells #[.int .i64 a, .int .i64 b, .int .i64 v] 40)).alloc (.cells #[.int .i64 a, .int .i64 b] 60)) (.slice Az r.length cz) r) := ⟨HZ.out.below (below_alloc (below_alloc (Below.refl _ _) _) _)⟩
          have HB2 : Aside0 (Below w.heap.size w ((wo.alloc (.cells #[.int .i64 a, .int .i64 b, .int .i64 v] 40)).alloc (.cells #[.int .i64 a, .int .i64 b] 60))) := ⟨below_alloc (below_alloc HB.out _) _⟩
          clear HLT
          cases t with
          | true =>
            go_wp2_with fail
            refine (refUnion_got HZ2.out HLT2.out HSI.out HI1.out HRL.out (show _ ≤ 1 from Nat.le_refl _) (by decide)).mono ?_
            rintro e w5 ⟨v5, r5, rfl, hs, hr5, hb⟩
            have HS5 : Aside0 (SetOf (fun x => inP ps (l.take (k + 1)) x = true) r5) := ⟨setOf_congr hs (fun x _ _ => by
              rw [HT.out x]
              by_cases h : a ≤ x ∧ x ≤ b
              · rw [if_pos h]; exact ⟨fun _ => rfl, fun _ => .inr h⟩
              · rw [if_neg h]; exact ⟨fun h2 => h2.elim id (fun h3 => absurd h3 h), .inl⟩)⟩
            have HR5 := Aside0.mk hr5
            have HB5 : Aside0 (Below w.heap.size w w5) := ⟨below_to HB2.out hb⟩
            clear hs hr5 hb hx0 hx1 hx2
            go_wp2
            go_roundg (l.length - k - 1)
            case measure => have := HA.out; omega
            case rel => exact ⟨k + 1, r5, by go_num, ⟨by omega, by omega⟩, HR5, HS5, HB5⟩
          | false =>
            go_wp2_with fail
            refine (refMinus_got HZ2.out HLT2.out HSI.out HI1.out HRL.out (show _ ≤ 1 from Nat.le_refl _) (by decide)).mono ?_
            rintro e w5 ⟨v5, r5, rfl, hs, hr5, hb⟩
            have HS5 : Aside0 (SetOf (fun x => inP ps (l.take (k + 1)) x = true) r5) := ⟨setOf_congr hs (fun x _ _ => by
              rw [HT.out x]
              by_cases h : a ≤ x ∧ x ≤ b
              · rw [if_pos h]; exact ⟨fun h2 => absurd h h2.2, fun h2 => by cases h2⟩
              · rw [if_neg h]; exact ⟨fun h2 => h2.1, fun h2 => ⟨h2, h⟩⟩)⟩
            have HR5 := Aside0.mk hr5
            have HB5 : Aside0 (Below w.heap.size w w5) := ⟨below_to HB2.out hb⟩
            clear hs hr5 hb hx0 hx1 hx2
            go_wp2
            go_roundg (l.length - k - 1)
            case measure => have := HA.out; omega
            case rel => exact ⟨k + 1, r5, by go_num, ⟨by omega, by omega⟩, HR5, HS5, HB5⟩
    · have HF : Aside0 (l.take k = l) := ⟨List.take_of_length_le (by omega)⟩
      go_wp2
      go_ret
      exact ⟨_, r, rfl, by rw [HF.out] at HS; exact HS.out, HZ.out, HB.out⟩

end Go.Proofs.Ytpgnfccamcefgaa
