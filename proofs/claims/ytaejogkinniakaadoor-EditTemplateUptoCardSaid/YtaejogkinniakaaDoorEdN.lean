/- Walks: the kinds of bytes, edit.all at each kind, what edit.group says. -/
import Derived.Test.YtaejogkinniakaaDoorEdM
import Derived.Test.YtaejogkinniakaaDoorEdJ
import Derived.Test.YtaejogkinniakaaDoorShelf
import Derived.Lib.Hide
namespace Go.Proofs.YtaejogkinniakaaDoor
set_option linter.unusedVariables false
set_option linter.unusedSimpArgs false
open Go.RowKit Go.Proofs.YtaejogkinniakaaDoorW.PrintWords Go.Proofs.YtaejogkinniakaaDoorW.PrintLast Go.Proofs.YtaejogkinniakaaDoorW.PrintMore Go.Proofs.YtaejogkinniakaaDoor.PEd

theorem byte_range (s : ByteArray) : ∀ c ∈ bytesOf s, 0 ≤ c ∧ c ≤ 255 := fun c hc => by
  obtain ⟨b, -, rfl⟩ := List.mem_map.1 hc
  have := b.toNat_lt
  omega
theorem digit_any (c : Int) (w : World) : Calls Tryd.prog 37 #[.int .u8 c] w fun e w' => e = .returned (.bool (digB c)) ∧ Below w.heap.size w w' := by
  refine (edit_digit.calls c (digB c) w ?_).mono fun e w' ⟨e1, hd⟩ => ⟨e1, hd.below⟩
  unfold edit_digit.f digB
  by_cases h : 48 ≤ c
  · rw [if_pos h, decide_eq_true h, Bool.true_and]
  · rw [if_neg h, decide_eq_false h, Bool.false_and]
theorem first_tab : ((List.range 256).all fun k => edit_first.f (k : Int) == some (firB (k : Int))) = true := by decide +kernel
theorem first_any (c : Int) (h0 : 0 ≤ c) (h1 : c ≤ 255) (w : World) : Calls Tryd.prog 44 #[.int .u8 c] w fun e w' => e = .returned (.bool (firB c)) ∧ Below w.heap.size w w' := by
  refine (edit_first.calls c (firB c) w ?_).mono fun e w' ⟨e1, hd⟩ => ⟨e1, hd.below⟩
  obtain ⟨k, rfl⟩ : ∃ k : Nat, c = (k : Int) := ⟨c.toNat, by omega⟩
  have h := List.all_eq_true.1 first_tab k (List.mem_range.2 (by omega))
  exact eq_of_beq h
set_option maxHeartbeats 1000000 in
theorem word_any (c : Int) (h0 : 0 ≤ c) (h1 : c ≤ 255) (w : World) : Calls Tryd.prog 45 #[.int .u8 c] w fun e w' => e = .returned (.bool (worB c)) ∧ Below w.heap.size w w' := by
  have HF := Aside0.mk (first_any c h0 h1)
  have HD := Aside0.mk (digit_any c)
  cases hf : firB c with
  | true =>
    rw [hf] at HF
    have HW : Aside0 (worB c = true) := ⟨by unfold worB; rw [hf]; rfl⟩
    clear hf
    go_enter Tryd.func45, Tryd.ntmps45
    go_wp2_with fail
    refine (HF.out _).mono ?_
    rintro e w1 ⟨rfl, hb1⟩
    have HB1 := Aside0.mk hb1
    clear hb1
    go_wp2
    go_ret
    exact ⟨by rw [HW.out]; rfl, HB1.out⟩
  | false =>
    rw [hf] at HF
    cases hd : digB c with
    | true =>
      rw [hd] at HD
      have HW : Aside0 (worB c = true) := ⟨by unfold worB; rw [hf, hd]; rfl⟩
      clear hf hd
      go_enter Tryd.func45, Tryd.ntmps45
      go_wp2_with fail
      refine (HF.out _).mono ?_
      rintro e w1 ⟨rfl, hb1⟩
      have HB1 := Aside0.mk hb1
      clear hb1
      go_wp2_with fail
      refine (HD.out _).mono ?_
      rintro e w2 ⟨rfl, hb2⟩
      have HB2 : Aside0 (Below w.heap.size w w2) := ⟨below_to HB1.out hb2⟩
      clear hb2
      go_wp2
      go_ret
      exact ⟨by rw [HW.out]; rfl, HB2.out⟩
    | false =>
      rw [hd] at HD
      have HW : Aside0 (worB c = false) := ⟨by unfold worB; rw [hf, hd]; rfl⟩
      clear hf hd
      go_enter Tryd.func45, Tryd.ntmps45
      go_wp2_with fail
      refine (HF.out _).mono ?_
      rintro e w1 ⟨rfl, hb1⟩
      have HB1 := Aside0.mk hb1
      clear hb1
      go_wp2_with fail
      refine (HD.out _).mono ?_
      rintro e w2 ⟨rfl, hb2⟩
      have HB2 : Aside0 (Below w.heap.size w w2) := ⟨below_to HB1.out hb2⟩
      clear hb2
      go_wp2
      go_ret
      exact ⟨by rw [HW.out]; rfl, HB2.out⟩
/-- The first place at which it is not so. -/
def noI (Q : Int → Bool) : List Int → Nat → Option Nat
  | [], _ => none
  | c :: r, k => if Q c = true then noI Q r (k + 1) else some k
def noZ (Q : Int → Bool) (l : List Int) : Int := match noI Q l 0 with | none => -1 | some k => k
theorem noI_none {Q : Int → Bool} : ∀ {l : List Int} {k : Nat}, noI Q l k = none ↔ l.all Q = true
  | [], k => by simp [noI]
  | c :: r, k => by
    unfold noI
    by_cases h : Q c = true
    · rw [if_pos h, List.all_cons, h, Bool.true_and]
      exact noI_none
    · rw [if_neg h, List.all_cons, Bool.eq_false_iff.mpr h]
      simp
theorem noZ_all (Q : Int → Bool) (l : List Int) : (!decide (0 ≤ noZ Q l)) = l.all Q := by
  unfold noZ
  cases h : noI Q l 0 with
  | none => rw [noI_none.1 h]; decide
  | some k =>
    have hn : ¬ l.all Q = true := fun h2 => by rw [noI_none.2 h2] at h; cases h
    rw [Bool.eq_false_iff.mpr hn, decide_eq_true (by show (0 : Int) ≤ (k : Int); omega)]
    rfl
theorem noI_step {Q : Int → Bool} {l : List Int} {k : Nat} (hk : k < l.length) (h : Q l[k] = true) : noI Q (l.drop k) k = noI Q (l.drop (k + 1)) (k + 1) := by
  rw [List.drop_eq_getElem_cons hk]
  show (if Q l[k] = true then _ else _) = _
  rw [if_pos h]
theorem noI_stop {Q : Int → Bool} {l : List Int} {k : Nat} (hk : k < l.length) (h : Q l[k] = false) : noI Q (l.drop k) k = some k := by
  rw [List.drop_eq_getElem_cons hk]
  show (if Q l[k] = true then _ else _) = _
  rw [if_neg (by rw [h]; decide)]
theorem bool_not (b : Bool) : Ending.returned (.bool (!b)) = .returned (.bool (!b)) := rfl

set_option maxHeartbeats 1000000 in
theorem all1_dig (c : Int) (h0 : 0 ≤ c) (h1 : c ≤ 255) (w : World) (g : Nat) (fr : Nat × Nat) (hg : w.heap[g]? = some (.cells #[.func (.func 37) #[] #[]] 64 fr)) :
    Calls Tryd.prog 48 #[.int .u8 c, .pointer (some ⟨g, 0, none⟩)] w fun e w' => e = .returned (.bool (!digB c)) ∧ Below w.heap.size w w' := by
  have HD := Aside0.mk (digit_any c)
  have c0 := row_cellE hg 0 _ rfl
  clear hg
  go_enter Tryd.func48, Tryd.ntmps48
  go_wp2_with fail
  refine (HD.out _).mono ?_
  rintro e w1 ⟨rfl, hb1⟩
  have HB1 := Aside0.mk hb1
  clear hb1
  go_wp2
  go_ret
  exact ⟨rfl, HB1.out⟩
set_option maxHeartbeats 1000000 in
set_option maxRecDepth 100000 in
theorem idxF_dig (w : World) (A : Option Addr) (n : Nat) (l : List Int) (hl : Kd.C kB w A l.length l) (hr : ∀ c ∈ l, 0 ≤ c ∧ c ≤ 255) (g : Nat) (fr : Nat × Nat) (hg : w.heap[g]? = some (.cells #[.func (.func 37) #[] #[]] 64 fr)) :
    Calls Tryd.prog 51 #[.slice A l.length n, .func (.func 48) #[] #[.pointer (some ⟨g, 0, none⟩)]] w fun e w' => e = .returned (.int .i64 (noZ digB l)) ∧ Below w.heap.size w w' := by
  have HL := Aside0.mk hl
  have HLL := Aside0.mk hl.2.1
  have HG := Aside0.mk hg
  have HR := Aside0.mk hr
  clear hl hg hr
  go_enter Tryd.func51, Tryd.ntmps51
  go_wp2
  go_loopg [8] l.length (fun gk i w' => ∃ k : Nat, i = .int .i64 (k : Int) ∧ Aside0 (k ≤ l.length ∧ gk = l.length - k) ∧ Aside0 (noI digB l 0 = noI digB (l.drop k) k) ∧ Aside0 (Below w.heap.size w w'))
  case atStart => exact ⟨0, by first | rfl | simp, ⟨Nat.zero_le _, rfl⟩, ⟨rfl⟩, ⟨Below.refl _ _⟩⟩
  case round =>
    obtain ⟨k, rfl, HA, HN, HB⟩ := hrel
    by_cases hk : k < l.length
    · have h63 := HLL.out
      obtain ⟨ad, e, hx⟩ := Kd.at_int HL.out (k : Int) (by omega) (by omega)
      subst e
      have hrd : rd l (k : Int) = l[k] := by simp [rd, hk]
      have hrg := HR.out _ (List.getElem_mem hk)
      have HS := Aside0.mk (fun h => noI_step (Q := digB) hk h)
      have HT := Aside0.mk (fun h => noI_stop (Q := digB) hk h)
      rw [hrd] at hx
      obtain ⟨c, hc⟩ : ∃ c, l[k] = c := ⟨_, rfl⟩
      rw [hc] at hx hrg HS HT
      simp only [Int.toNat_natCast] at hx
      replace hx := pw_cell_below HB.out hx
      have HC := Aside0.mk (all1_dig c hrg.1 hrg.2 wr g fr (blk_below HG.out HB.out))
      clear hrd hc
      cases hq : digB c with
      | true =>
        rw [hq] at HC
        have HS2 : Aside0 (noI digB l 0 = noI digB (l.drop (k + 1)) (k + 1)) := ⟨HN.out.trans (HS.out hq)⟩
        clear HS HT hq
        go_wp2_with fail
        refine HC.out.mono ?_
        rintro e w1 ⟨rfl, hb1⟩
        have HB1 : Aside0 (Below w.heap.size w w1) := ⟨below_to HB.out hb1⟩
        clear hb1 hx
        go_wp2
        go_roundg (gk - 1)
        case measure => have := HA.out; omega
        case rel => exact ⟨k + 1, by go_num, ⟨by omega, by have := HA.out; omega⟩, HS2, HB1⟩
      | false =>
        rw [hq] at HC
        have HZ : Aside0 (noZ digB l = k) := ⟨by unfold noZ; rw [HN.out, HT.out hq]⟩
        clear HS HT hq
        go_wp2_with fail
        refine HC.out.mono ?_
        rintro e w1 ⟨rfl, hb1⟩
        have HB1 : Aside0 (Below w.heap.size w w1) := ⟨below_to HB.out hb1⟩
        clear hb1 hx
        go_wp2
        go_ret
        exact ⟨by rw [HZ.out]; rfl, HB1.out⟩
    · have HZ : Aside0 (noZ digB l = -1) := ⟨by unfold noZ; rw [HN.out, List.drop_of_length_le (by omega)]; rfl⟩
      go_wp2
      go_ret
      exact ⟨by rw [HZ.out]; rfl, HB.out⟩
set_option maxHeartbeats 1000000 in
set_option maxRecDepth 100000 in
theorem contF_dig (w : World) (A : Option Addr) (n : Nat) (l : List Int) (hl : Kd.C kB w A l.length l) (hr : ∀ c ∈ l, 0 ≤ c ∧ c ≤ 255) (g : Nat) (fr : Nat × Nat) (hg : w.heap[g]? = some (.cells #[.func (.func 37) #[] #[]] 64 fr)) :
    Calls Tryd.prog 47 #[.slice A l.length n, .func (.func 48) #[] #[.pointer (some ⟨g, 0, none⟩)]] w fun e w' => e = .returned (.bool (decide (0 ≤ noZ digB l))) ∧ Below w.heap.size w w' := by
  have HC := Aside0.mk (idxF_dig w A n l hl hr g fr hg)
  clear hl hr hg
  go_enter Tryd.func47, Tryd.ntmps47
  go_wp2_with fail
  refine HC.out.mono ?_
  rintro e w1 ⟨rfl, hb1⟩
  have HB1 := Aside0.mk hb1
  clear hb1
  go_wp2
  go_ret
  exact ⟨rfl, HB1.out⟩
set_option maxHeartbeats 1000000 in
set_option maxRecDepth 100000 in
theorem all_dig (w : World) (s : ByteArray) (hs : s.size ≤ 9223372036854775807) :
    Calls Tryd.prog 42 #[.string s, .func (.func 37) #[] #[]] w fun e w' => e = .returned (.bool ((bytesOf s).all digB)) ∧ Below w.heap.size w w' := by
  have hcv := fun W => print_bytes (P := Tryd.prog) 9 22 5 Tryd.underlying9 Tryd.underlying22 Tryd.underlying5 s W
  obtain ⟨wA, hwA⟩ : ∃ wA, w.alloc (.cells #[.func (.func 37) #[] #[]] 64) = wA := ⟨_, rfl⟩
  obtain ⟨wB, hwB⟩ : ∃ wB, Lib.bytesWorld wA 5 s = wB := ⟨_, rfl⟩
  have hbA : Below w.heap.size w wA := by rw [← hwA]; exact below_alloc (Below.refl _ _) _
  have hbAB : Below wA.heap.size wA wB := by rw [← hwB]; exact bytes_below (Below.refl _ _) (Nat.le_refl _) _ _
  have hgA : wA.heap[w.heap.size]? = some (.cells #[.func (.func 37) #[] #[]] 64 (0, 0)) := by rw [← hwA]; exact heap_alloc_new _ _
  have HB : Aside0 (Below w.heap.size w wB) := ⟨below_to hbA hbAB⟩
  have hC : Kd.C kB wB (some ⟨wA.heap.size, 0, none⟩) (bytesOf s).length (bytesOf s) := by
    have h := Kd.C_of_reads (enc := Value.int .u8) (d := (0 : Int)) (h1 := fun _ => rfl) (show ReadsOf (Value.int .u8) 0 wB (some ⟨wA.heap.size, 0, none⟩) s.size (bytesOf s) by rw [← hwB]; exact bytes_reads wA _ s hs)
    rw [bytesOf_length]
    exact h
  have hsz : wA.heap.size = w.heap.size + 1 := by rw [← hwA]; simp
  have hcb := fun n => contF_dig wB _ n (bytesOf s) hC (byte_range s) w.heap.size (0, 0) (blk_below hgA hbAB)
  rw [bytesOf_length, hsz] at hcb
  have HC := Aside0.mk hcb
  have HQ := Aside0.mk (noZ_all digB (bytesOf s))
  clear hbA hbAB hgA hC hcb
  go_enter Tryd.func42, Tryd.ntmps42
  go_wp2_with fail
  clear hwA hwB hsz
  refine (HC.out _).mono ?_
  rintro e w1 ⟨rfl, hb1⟩
  have HB1 : Aside0 (Below w.heap.size w w1) := ⟨below_to HB.out hb1⟩
  clear hb1
  go_wp2
  go_ret
  exact ⟨by rw [← HQ.out]; first | rfl | simp, HB1.out⟩

set_option maxHeartbeats 1000000 in
theorem all1_wor (c : Int) (h0 : 0 ≤ c) (h1 : c ≤ 255) (w : World) (g : Nat) (fr : Nat × Nat) (hg : w.heap[g]? = some (.cells #[.func (.func 45) #[] #[]] 64 fr)) :
    Calls Tryd.prog 48 #[.int .u8 c, .pointer (some ⟨g, 0, none⟩)] w fun e w' => e = .returned (.bool (!worB c)) ∧ Below w.heap.size w w' := by
  have HD := Aside0.mk (word_any c h0 h1)
  have c0 := row_cellE hg 0 _ rfl
  clear hg
  go_enter Tryd.func48, Tryd.ntmps48
  go_wp2_with fail
  refine (HD.out _).mono ?_
  rintro e w1 ⟨rfl, hb1⟩
  have HB1 := Aside0.mk hb1
  clear hb1
  go_wp2
  go_ret
  exact ⟨rfl, HB1.out⟩
set_option maxHeartbeats 1000000 in
set_option maxRecDepth 100000 in
theorem idxF_wor (w : World) (A : Option Addr) (n : Nat) (l : List Int) (hl : Kd.C kB w A l.length l) (hr : ∀ c ∈ l, 0 ≤ c ∧ c ≤ 255) (g : Nat) (fr : Nat × Nat) (hg : w.heap[g]? = some (.cells #[.func (.func 45) #[] #[]] 64 fr)) :
    Calls Tryd.prog 51 #[.slice A l.length n, .func (.func 48) #[] #[.pointer (some ⟨g, 0, none⟩)]] w fun e w' => e = .returned (.int .i64 (noZ worB l)) ∧ Below w.heap.size w w' := by
  have HL := Aside0.mk hl
  have HLL := Aside0.mk hl.2.1
  have HG := Aside0.mk hg
  have HR := Aside0.mk hr
  clear hl hg hr
  go_enter Tryd.func51, Tryd.ntmps51
  go_wp2
  go_loopg [8] l.length (fun gk i w' => ∃ k : Nat, i = .int .i64 (k : Int) ∧ Aside0 (k ≤ l.length ∧ gk = l.length - k) ∧ Aside0 (noI worB l 0 = noI worB (l.drop k) k) ∧ Aside0 (Below w.heap.size w w'))
  case atStart => exact ⟨0, by first | rfl | simp, ⟨Nat.zero_le _, rfl⟩, ⟨rfl⟩, ⟨Below.refl _ _⟩⟩
  case round =>
    obtain ⟨k, rfl, HA, HN, HB⟩ := hrel
    by_cases hk : k < l.length
    · have h63 := HLL.out
      obtain ⟨ad, e, hx⟩ := Kd.at_int HL.out (k : Int) (by omega) (by omega)
      subst e
      have hrd : rd l (k : Int) = l[k] := by simp [rd, hk]
      have hrg := HR.out _ (List.getElem_mem hk)
      have HS := Aside0.mk (fun h => noI_step (Q := worB) hk h)
      have HT := Aside0.mk (fun h => noI_stop (Q := worB) hk h)
      rw [hrd] at hx
      obtain ⟨c, hc⟩ : ∃ c, l[k] = c := ⟨_, rfl⟩
      rw [hc] at hx hrg HS HT
      simp only [Int.toNat_natCast] at hx
      replace hx := pw_cell_below HB.out hx
      have HC := Aside0.mk (all1_wor c hrg.1 hrg.2 wr g fr (blk_below HG.out HB.out))
      clear hrd hc
      cases hq : worB c with
      | true =>
        rw [hq] at HC
        have HS2 : Aside0 (noI worB l 0 = noI worB (l.drop (k + 1)) (k + 1)) := ⟨HN.out.trans (HS.out hq)⟩
        clear HS HT hq
        go_wp2_with fail
        refine HC.out.mono ?_
        rintro e w1 ⟨rfl, hb1⟩
        have HB1 : Aside0 (Below w.heap.size w w1) := ⟨below_to HB.out hb1⟩
        clear hb1 hx
        go_wp2
        go_roundg (gk - 1)
        case measure => have := HA.out; omega
        case rel => exact ⟨k + 1, by go_num, ⟨by omega, by have := HA.out; omega⟩, HS2, HB1⟩
      | false =>
        rw [hq] at HC
        have HZ : Aside0 (noZ worB l = k) := ⟨by unfold noZ; rw [HN.out, HT.out hq]⟩
        clear HS HT hq
        go_wp2_with fail
        refine HC.out.mono ?_
        rintro e w1 ⟨rfl, hb1⟩
        have HB1 : Aside0 (Below w.heap.size w w1) := ⟨below_to HB.out hb1⟩
        clear hb1 hx
        go_wp2
        go_ret
        exact ⟨by rw [HZ.out]; rfl, HB1.out⟩
    · have HZ : Aside0 (noZ worB l = -1) := ⟨by unfold noZ; rw [HN.out, List.drop_of_length_le (by omega)]; rfl⟩
      go_wp2
      go_ret
      exact ⟨by rw [HZ.out]; rfl, HB.out⟩
set_option maxHeartbeats 1000000 in
set_option maxRecDepth 100000 in
theorem contF_wor (w : World) (A : Option Addr) (n : Nat) (l : List Int) (hl : Kd.C kB w A l.length l) (hr : ∀ c ∈ l, 0 ≤ c ∧ c ≤ 255) (g : Nat) (fr : Nat × Nat) (hg : w.heap[g]? = some (.cells #[.func (.func 45) #[] #[]] 64 fr)) :
    Calls Tryd.prog 47 #[.slice A l.length n, .func (.func 48) #[] #[.pointer (some ⟨g, 0, none⟩)]] w fun e w' => e = .returned (.bool (decide (0 ≤ noZ worB l))) ∧ Below w.heap.size w w' := by
  have HC := Aside0.mk (idxF_wor w A n l hl hr g fr hg)
  clear hl hr hg
  go_enter Tryd.func47, Tryd.ntmps47
  go_wp2_with fail
  refine HC.out.mono ?_
  rintro e w1 ⟨rfl, hb1⟩
  have HB1 := Aside0.mk hb1
  clear hb1
  go_wp2
  go_ret
  exact ⟨rfl, HB1.out⟩
set_option maxHeartbeats 1000000 in
set_option maxRecDepth 100000 in
theorem all_wor (w : World) (s : ByteArray) (hs : s.size ≤ 9223372036854775807) :
    Calls Tryd.prog 42 #[.string s, .func (.func 45) #[] #[]] w fun e w' => e = .returned (.bool ((bytesOf s).all worB)) ∧ Below w.heap.size w w' := by
  have hcv := fun W => print_bytes (P := Tryd.prog) 9 22 5 Tryd.underlying9 Tryd.underlying22 Tryd.underlying5 s W
  obtain ⟨wA, hwA⟩ : ∃ wA, w.alloc (.cells #[.func (.func 45) #[] #[]] 64) = wA := ⟨_, rfl⟩
  obtain ⟨wB, hwB⟩ : ∃ wB, Lib.bytesWorld wA 5 s = wB := ⟨_, rfl⟩
  have hbA : Below w.heap.size w wA := by rw [← hwA]; exact below_alloc (Below.refl _ _) _
  have hbAB : Below wA.heap.size wA wB := by rw [← hwB]; exact bytes_below (Below.refl _ _) (Nat.le_refl _) _ _
  have hgA : wA.heap[w.heap.size]? = some (.cells #[.func (.func 45) #[] #[]] 64 (0, 0)) := by rw [← hwA]; exact heap_alloc_new _ _
  have HB : Aside0 (Below w.heap.size w wB) := ⟨below_to hbA hbAB⟩
  have hC : Kd.C kB wB (some ⟨wA.heap.size, 0, none⟩) (bytesOf s).length (bytesOf s) := by
    have h := Kd.C_of_reads (enc := Value.int .u8) (d := (0 : Int)) (h1 := fun _ => rfl) (show ReadsOf (Value.int .u8) 0 wB (some ⟨wA.heap.size, 0, none⟩) s.size (bytesOf s) by rw [← hwB]; exact bytes_reads wA _ s hs)
    rw [bytesOf_length]
    exact h
  have hsz : wA.heap.size = w.heap.size + 1 := by rw [← hwA]; simp
  have hcb := fun n => contF_wor wB _ n (bytesOf s) hC (byte_range s) w.heap.size (0, 0) (blk_below hgA hbAB)
  rw [bytesOf_length, hsz] at hcb
  have HC := Aside0.mk hcb
  have HQ := Aside0.mk (noZ_all worB (bytesOf s))
  clear hbA hbAB hgA hC hcb
  go_enter Tryd.func42, Tryd.ntmps42
  go_wp2_with fail
  clear hwA hwB hsz
  refine (HC.out _).mono ?_
  rintro e w1 ⟨rfl, hb1⟩
  have HB1 : Aside0 (Below w.heap.size w w1) := ⟨below_to HB.out hb1⟩
  clear hb1
  go_wp2
  go_ret
  exact ⟨by rw [← HQ.out]; first | rfl | simp, HB1.out⟩

end Go.Proofs.YtaejogkinniakaaDoor
