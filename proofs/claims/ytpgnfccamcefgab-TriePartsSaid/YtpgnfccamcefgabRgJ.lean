/- Walks of the reference: sorted (an insertion sort in place, then each number once). -/
import Derived.Test.YtpgnfccamcefgabRgBase
namespace Go.Proofs.Ytpgnfccamcefgab
set_option linter.unusedVariables false
set_option linter.unusedSimpArgs false
open Go.RowKit Go.Proofs.YtpgnfccamcefgabW.PrintWords Go.Proofs.YtpgnfccamcefgabW.PrintLast Go.Proofs.YtpgnfccamcefgabW.PrintMore

/-- The first numbers in order, one place free, the number x to be put there or ahead of it. -/
structure Put (l : List Int) (i : Nat) (x : Int) (M : List Int) (at_ : Nat) : Prop where
  mk ::
  out : ∃ (A : List Int) (y : Int) (B C : List Int), M = A ++ y :: (B ++ C) ∧ A.length = at_ ∧ A.length + B.length = i ∧ (A ++ B).Pairwise (· ≤ ·) ∧ (∀ b ∈ B, x < b) ∧ (A ++ x :: (B ++ C)).Perm l
theorem Put.start {l M : List Int} {i : Nat} (hi : i < M.length) (hp : M.Perm l) (hs : (M.take i).Pairwise (· ≤ ·)) : Put l i M[i] M i :=
  ⟨⟨M.take i, M[i], [], M.drop (i + 1), by rw [List.nil_append]; exact split_at hi, by rw [List.length_take]; omega, by rw [List.length_take]; simp; omega, by simpa using hs, by simp, by rw [List.nil_append, ← split_at hi]; exact hp⟩⟩
theorem Put.step {l M : List Int} {i at_ : Nat} {x : Int} (h : Put l i x M (at_ + 1)) (hlt : at_ < M.length) (hx : x < M[at_]) : Put l i x (M.set (at_ + 1) M[at_]) at_ := by
  obtain ⟨A, y, B, C, hM, hA, hi, hs, hb, hp⟩ := h.out
  rcases snoc_or A with rfl | ⟨A', a, rfl⟩
  · simp at hA
  · have hA' : A'.length = at_ := by simpa using hA
    subst hA'
    have e1 : M[A'.length] = a := by
      subst hM
      simp
    have e2 : M.set (A'.length + 1) a = A' ++ a :: (a :: B ++ C) := by
      rw [hM]
      have : A' ++ [a] ++ y :: (B ++ C) = A' ++ a :: y :: (B ++ C) := by simp
      rw [this, List.set_append_right _ _ (by omega)]
      simp
    rw [e1] at hx ⊢
    rw [e2]
    refine ⟨⟨A', a, a :: B, C, by simp, rfl, by simp at hi ⊢; omega, by simpa using hs, ?_, ?_⟩⟩
    · intro b hb'
      rcases List.mem_cons.1 hb' with rfl | hb'
      · exact hx
      · exact hb b hb'
    · refine List.Perm.trans ?_ hp
      have : A' ++ [a] ++ x :: (B ++ C) = A' ++ a :: x :: (B ++ C) := by simp
      rw [this]
      exact List.Perm.append_left A' (List.Perm.swap a x _)
theorem Put.stop {l M : List Int} {i at_ : Nat} {x : Int} (h : Put l i x M at_) (hlt : at_ < M.length) (hx : ∀ (h : 0 < at_), M[at_ - 1] ≤ x) : (M.set at_ x).Perm l ∧ ((M.set at_ x).take (i + 1)).Pairwise (· ≤ ·) ∧ (M.set at_ x).length = M.length := by
  obtain ⟨A, y, B, C, hM, hA, hi, hs, hb, hp⟩ := h.out
  subst hA
  have e2 : M.set A.length x = A ++ x :: (B ++ C) := by
    rw [hM, List.set_append_right _ _ (Nat.le_refl _)]
    simp
  refine ⟨by rw [e2]; exact hp, ?_, by simp⟩
  rw [e2]
  have e3 : (A ++ x :: (B ++ C)).take (i + 1) = A ++ x :: B := by
    have : A ++ x :: (B ++ C) = (A ++ x :: B) ++ C := by simp
    rw [this, List.take_append_of_le_length (by simp; omega), List.take_of_length_le (by simp; omega)]
  rw [e3]
  have hs2 := List.pairwise_append.1 hs
  refine List.pairwise_append.2 ⟨hs2.1, List.pairwise_cons.2 ⟨fun b h => by have := hb b h; omega, hs2.2.1⟩, fun a ha b hb' => ?_⟩
  have hax : a ≤ x := by
    rcases snoc_or A with rfl | ⟨A', z, rfl⟩
    · cases ha
    · have h0 := hx (by simp)
      have e4 : M[(A' ++ [z]).length - 1]'(by omega) = z := by
        subst hM
        simp
      rw [e4] at h0
      rcases List.mem_append.1 ha with h | h
      · have := (List.pairwise_append.1 hs2.1).2.2 a h z (by simp)
        omega
      · rw [List.mem_singleton] at h
        omega
  rcases List.mem_cons.1 hb' with rfl | hb'
  · exact hax
  · have := hb b hb'
    omega

/-- s: numbers rising, each once, the same as in l. -/
def Rise (l s : List Int) : Prop := s.Pairwise (· < ·) ∧ (∀ y, y ∈ s ↔ y ∈ l) ∧ s.length ≤ l.length
theorem Rise.nil : Rise [] [] := ⟨List.Pairwise.nil, fun _ => Iff.rfl, Nat.le_refl _⟩
theorem Rise.more {l s : List Int} {x : Int} (h : Rise l s) (hx : ∀ y ∈ l, y < x) : Rise (l ++ [x]) (s ++ [x]) := by
  refine ⟨List.pairwise_append.2 ⟨h.1, List.pairwise_singleton _ _, fun a ha b hb => ?_⟩, fun y => ?_, by simp; exact h.2.2⟩
  · rw [List.mem_singleton] at hb
    subst hb
    exact hx a ((h.2.1 a).1 ha)
  · simp [h.2.1 y]
theorem Rise.same {l s : List Int} {x : Int} (h : Rise l s) (hx : x ∈ l) : Rise (l ++ [x]) s :=
  ⟨h.1, fun y => by rw [h.2.1 y]; simp; exact fun e => e ▸ hx, by have := h.2.2; simp; omega⟩
theorem Rise.perm {l m s : List Int} (h : Rise l s) (hp : l.Perm m) : Rise m s := ⟨h.1, fun y => (h.2.1 y).trans hp.mem_iff, by rw [← hp.length_eq]; exact h.2.2⟩

set_option maxHeartbeats 4000000 in
set_option maxRecDepth 100000 in
theorem sorted_any (w0 w : World) (v : Value) (l : List Int) (hB : Below w0.heap.size w0 w) (ho : Own (Kd.int .i64) 3 w w0.heap.size v l) (hl : l.length * 8 ≤ 140737488355328) :
    Calls Try.prog 43 #[v] w (RetOwn (Kd.int .i64) 3 (Rise l) w0) := by
  have HL := Aside0.mk hl
  have hlen : l.length ≤ 9223372036854775807 := by omega
  have HO := Aside0.mk ho
  have HB := Aside0.mk hB
  obtain ⟨A, c, rfl⟩ := Kd.R_slice ho
  clear ho hB hl
  go_enter Try.func43, Try.ntmps43
  go_wp2
  go_loopg [11] l.length (fun g i w' => ∃ (k : Nat) (M : List Int), i = .int .i64 k ∧ Aside0 (k ≤ l.length ∧ g = l.length - k ∧ M.Perm l ∧ (M.take k).Pairwise (· ≤ ·)) ∧ Aside0 (Own (Kd.int .i64) 3 w' w0.heap.size (.slice A l.length c) M) ∧ Aside0 (Below w0.heap.size w0 w'))
  case atStart => exact ⟨0, l, by first | rfl | simp, ⟨Nat.zero_le _, rfl, .refl _, List.Pairwise.nil⟩, HO, HB⟩
  case round =>
    clear HO HB
    obtain ⟨k, M, rfl, HA, HO, HB⟩ := hrel
    have hML : M.length = l.length := HA.out.2.2.1.length_eq
    by_cases hk : k < l.length
    · have hkM : k < M.length := by omega
      obtain ⟨g, cap, hv, hg1, hg2, -⟩ := Kd.R_form HO.out (by omega)
      rw [hML] at hv
      cases hv
      obtain ⟨hx0, hf0⟩ := own_atI HO.out k hkM
      have HP : Aside0 (Put l k M[k] M k) := ⟨Put.start hkM HA.out.2.2.1 HA.out.2.2.2⟩
      obtain ⟨x, hx⟩ : ∃ x, M[k] = x := ⟨_, rfl⟩
      rw [hx] at hx0 HP
      have HML := Aside0.mk hML
      clear hx hML hkM
      go_wp2
      obtain ⟨G, hG⟩ : ∃ G, G + 1 = gk := ⟨gk - 1, by have := HA.out; omega⟩
      have HG := Aside0.mk hG
      clear hG
      go_loopg [5] k (fun g2 a w' => ∃ (at_ : Nat) (M2 : List Int), a = .int .i64 at_ ∧ Aside0 (Put l k x M2 at_ ∧ at_ ≤ k ∧ g2 = at_ ∧ M2.length = l.length) ∧ Aside0 (Own (Kd.int .i64) 3 w' w0.heap.size (.slice (some ⟨g, 0, none⟩) l.length c) M2) ∧ Aside0 (Below w0.heap.size w0 w'))
      case atStart => exact ⟨k, M, by first | rfl | simp, ⟨HP.out, Nat.le_refl _, rfl, HML.out⟩, HO, HB⟩
      case round =>
        clear HO HB hx0 hf0 HP
        obtain ⟨at_, M2, rfl, HP, HO, HB⟩ := hrel
        have hak := HP.out.2.1
        have h2l := HP.out.2.2.2
        cases at_ with
        | zero =>
          have HF : Aside0 ((M2.set 0 x).Perm l ∧ ((M2.set 0 x).take (k + 1)).Pairwise (· ≤ ·)) := by
            have := HP.out.1.stop (by omega) (fun h => by omega)
            exact ⟨this.1, this.2.1⟩
          obtain ⟨hy0, hf0⟩ := own_atI HO.out 0 (by omega)
          have HO2 : Aside0 (∀ W, W = wr → Own (Kd.int .i64) 3 (W.setCell ⟨g, 0, none⟩ (.int .i64 x)) w0.heap.size (.slice (some ⟨g, 0, none⟩) l.length c) (M2.set 0 x)) := ⟨fun W e => by subst e; exact own_setI HO.out 0 (by omega) x⟩
          obtain ⟨y, hy⟩ : ∃ y, M2[0] = y := ⟨_, rfl⟩
          rw [hy] at hy0
          clear hy h2l
          go_wp2
          go_roundg G
          case measure => have := HG.out; omega
          case rel => exact ⟨k + 1, M2.set 0 x, by go_num, ⟨by omega, by have h1 := HA.out; have h2 := HG.out; omega, HF.out.1, HF.out.2⟩, ⟨HO2.out _ rfl⟩, ⟨below_set HB.out hg1⟩⟩
        | succ at_ =>
          obtain ⟨hy0, hf0⟩ := own_atI HO.out at_ (by omega)
          obtain ⟨hy1, hf1⟩ := own_atI HO.out (at_ + 1) (by omega)
          obtain ⟨z, hz⟩ : ∃ z, M2[at_ + 1] = z := ⟨_, rfl⟩
          rw [hz] at hy1
          clear hz
          by_cases hgt : x < M2[at_]
          · have HP2 : Aside0 (Put l k x (M2.set (at_ + 1) M2[at_]) at_) := ⟨HP.out.1.step (by omega) hgt⟩
            have HO2 : Aside0 (Own (Kd.int .i64) 3 (wr.setCell ⟨g, at_ + 1, none⟩ (.int .i64 M2[at_])) w0.heap.size (.slice (some ⟨g, 0, none⟩) l.length c) (M2.set (at_ + 1) M2[at_])) := ⟨own_setI HO.out (at_ + 1) (by omega) _⟩
            have H2L : Aside0 ((M2.set (at_ + 1) M2[at_]).length = l.length) := ⟨by rw [List.length_set]; exact h2l⟩
            obtain ⟨y, hy⟩ : ∃ y, M2[at_] = y := ⟨_, rfl⟩
            rw [hy] at HP2 HO2 H2L hy0 hgt
            clear hy h2l
            go_wp2
            go_roundg at_
            case measure => have := HP.out; omega
            case rel => exact ⟨at_, _, by go_num, ⟨HP2.out, by omega, rfl, H2L.out⟩, HO2, ⟨below_set HB.out hg1⟩⟩
          · have HF : Aside0 ((M2.set (at_ + 1) x).Perm l ∧ ((M2.set (at_ + 1) x).take (k + 1)).Pairwise (· ≤ ·)) := by
              have := HP.out.1.stop (by omega) (fun h => by simpa using hgt)
              exact ⟨this.1, this.2.1⟩
            have HO2 : Aside0 (Own (Kd.int .i64) 3 (wr.setCell ⟨g, at_ + 1, none⟩ (.int .i64 x)) w0.heap.size (.slice (some ⟨g, 0, none⟩) l.length c) (M2.set (at_ + 1) x)) := ⟨own_setI HO.out (at_ + 1) (by omega) x⟩
            obtain ⟨y, hy⟩ : ∃ y, M2[at_] = y := ⟨_, rfl⟩
            rw [hy] at hy0 hgt
            clear hy h2l
            go_wp2
            go_roundg G
            case measure => have := HG.out; omega
            case rel => exact ⟨k + 1, M2.set (at_ + 1) x, by go_num, ⟨by omega, by have h1 := HA.out; have h2 := HG.out; omega, HF.out.1, HF.out.2⟩, HO2, ⟨below_set HB.out hg1⟩⟩
    · have HM : Aside0 (M.Perm l ∧ M.Pairwise (· ≤ ·)) := by
        have h1 := HA.out.2.2
        rw [List.take_of_length_le (by omega)] at h1
        exact ⟨h1⟩
      have HML := Aside0.mk hML
      rw [← hML] at HO hk ⊢
      obtain ⟨hn, hc, hr⟩ := Kd.R_reads' HO.out
      have HR := Aside0.mk hr
      have hlm : M.length ≤ 9223372036854775807 := by omega
      clear hn hc hr hML
      go_wp2
      obtain ⟨w1, rfl⟩ : ∃ w1 : World, w1 = wr := ⟨_, rfl⟩
      have HO0 := HO
      have HB0 := HB
      clear HO HB HA hk
      go_loopg [6, 47] M.length (fun g x i w' => ∃ (k : Nat) (o : List Int), i = .int .i64 k ∧ Aside0 (k ≤ M.length ∧ g = M.length - k ∧ Rise (M.take k) o) ∧ Aside0 (Own (Kd.int .i64) 3 w' w1.heap.size x o) ∧ Aside0 (Below w1.heap.size w1 w'))
      case atStart => exact ⟨0, [], by first | rfl | simp, ⟨Nat.zero_le _, rfl, Rise.nil⟩, ⟨Kd.R_nil _ _ _ _ _⟩, ⟨Below.refl _ _⟩⟩
      case round =>
        obtain ⟨k, o, rfl, HA, HO, HB⟩ := hrel
        have HLo : Aside0 (o.length ≤ k ∧ k ≤ M.length) := ⟨by have h1 := HA.out.2.2.2.2; rw [List.length_take] at h1; omega, HA.out.1⟩
        by_cases hk : k < M.length
        · obtain ⟨ad, rfl, hx0⟩ := at_I HR.out k hk
          replace hx0 := (HB.out.cell (World.block_lt_of_cell? w1 _ hx0)).trans hx0
          have HT : Aside0 (M.take (k + 1) = M.take k ++ [M[k]]) := ⟨List.take_succ_eq_append_getElem hk⟩
          cases k with
          | zero =>
            have e0 : ad.add 0 = ad := by simp [Addr.add]
            rw [e0] at hx0
            have HF : Aside0 (Rise (M.take (0 + 1)) (o ++ [M[0]])) := ⟨by rw [HT.out]; exact HA.out.2.2.more (fun y hy => by simp at hy)⟩
            obtain ⟨x, hx⟩ : ∃ x, M[0] = x := ⟨_, rfl⟩
            rw [hx] at hx0 HF
            clear hx HT
            go_wp2_with (at_builtin; refine Kd.R_append (Kd.int .i64) (w0 := w1) w1.heap.size rfl (.tmp 63) (.tmp 65) 24 3 (.int .i64 0) 8 rfl Try.underlying24 Try.infoInt rfl (by decide) (by omega) _ o x [.int .i64 x] (fun _ => True) (fun _ => False) rfl rfl (int_mkM _ _ _ _ x) (fun _ h => h.elim) (fun _ _ => trivial) HO.out HB.out HB.out.size (by have h1 := HL.out; have h2 := HLo.out; have h3 := HML.out; clear HL HLo HML; omega) ?_)
            intro v2 w2 ho hb _ _
            have HO1 := Aside0.mk ho
            have HB2 := Aside0.mk hb
            clear ho hb HO HB
            go_wp2
            go_roundg (gk - 1)
            case measure => have := HA.out; omega
            case rel => exact ⟨_, o ++ [x], by go_num, ⟨by omega, by have := HA.out; omega, HF.out⟩, HO1, HB2⟩
          | succ j =>
            obtain ⟨_, hh, hy0⟩ := at_I HR.out j (by omega)
            cases hh
            replace hy0 := (HB.out.cell (World.block_lt_of_cell? w1 _ hy0)).trans hy0
            have hle : M[j] ≤ M[j + 1] := List.pairwise_iff_getElem.1 HM.out.2 j (j + 1) (by omega) hk (by omega)
            have hmem : M[j] ∈ M.take (j + 1) := by rw [List.take_succ_eq_append_getElem (by omega : j < M.length)]; exact List.mem_append_right _ (List.mem_singleton.2 rfl)
            have e1 : ad.add (j + 1) = ⟨ad.block, ad.off + (j + 1), none⟩ := by simp [Addr.add]
            rw [e1] at hx0
            have hall : ∀ y ∈ M.take (j + 1), y ≤ M[j] := by
              intro y hy
              obtain ⟨i, hi, rfl⟩ := List.getElem_of_mem hy
              have hi2 : i < j + 1 := by rw [List.length_take] at hi; omega
              rw [List.getElem_take]
              by_cases e : i = j
              · subst e; exact Int.le_refl _
              · exact List.pairwise_iff_getElem.1 HM.out.2 i j (by omega) (by omega) (by omega)
            by_cases heq : M[j] = M[j + 1]
            · have HF : Aside0 (Rise (M.take (j + 1 + 1)) o) := ⟨by rw [HT.out]; exact HA.out.2.2.same (heq ▸ hmem)⟩
              obtain ⟨x, hx⟩ : ∃ x, M[j + 1] = x := ⟨_, rfl⟩
              rw [heq] at hy0
              rw [hx] at hx0 hy0
              clear hx HT hle hmem hall heq
              go_wp2
              go_roundg (gk - 1)
              case measure => have := HA.out; omega
              case rel => exact ⟨_, o, by go_num, ⟨by omega, by have := HA.out; omega, HF.out⟩, HO, HB⟩
            · have HF : Aside0 (Rise (M.take (j + 1 + 1)) (o ++ [M[j + 1]])) := ⟨by rw [HT.out]; exact HA.out.2.2.more (fun y hy => by have := hall y hy; omega)⟩
              obtain ⟨x, hx⟩ : ∃ x, M[j + 1] = x := ⟨_, rfl⟩
              obtain ⟨y, hy⟩ : ∃ y, M[j] = y := ⟨_, rfl⟩
              rw [hx, hy] at heq
              rw [hx] at hx0 HF
              rw [hy] at hy0
              have hne : (y != x) = true := bne_iff_ne.2 heq
              clear hx hy HT hle hmem hall
              go_wp2_with (at_builtin; refine Kd.R_append (Kd.int .i64) (w0 := w1) w1.heap.size rfl (.tmp 63) (.tmp 65) 24 3 (.int .i64 0) 8 rfl Try.underlying24 Try.infoInt rfl (by decide) (by omega) _ o x [.int .i64 x] (fun _ => True) (fun _ => False) rfl rfl (int_mkM _ _ _ _ x) (fun _ h => h.elim) (fun _ _ => trivial) HO.out HB.out HB.out.size (by have h1 := HL.out; have h2 := HLo.out; have h3 := HML.out; clear HL HLo HML; omega) ?_)
              intro v2 w2 ho hb _ _
              have HO1 := Aside0.mk ho
              have HB2 := Aside0.mk hb
              clear ho hb HO HB
              go_wp2
              go_roundg (gk - 1)
              case measure => have := HA.out; omega
              case rel => exact ⟨_, o ++ [x], by go_num, ⟨by omega, by have := HA.out; omega, HF.out⟩, HO1, HB2⟩
        · have HF : Aside0 (Rise l o) := ⟨by have h1 := HA.out.2.2; rw [List.take_of_length_le (by omega)] at h1; exact h1.perm HM.out.1⟩
          go_wp2
          go_ret
          exact ⟨_, _, rfl, HF.out, Kd.R_lower HO.out HB0.out.size, HB0.out.trans (HB.out.mono HB0.out.size)⟩

end Go.Proofs.Ytpgnfccamcefgab
