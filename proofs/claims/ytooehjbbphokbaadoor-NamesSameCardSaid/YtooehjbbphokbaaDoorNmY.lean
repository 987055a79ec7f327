/- Merged: NmJ, NmK, NmM. -/
import Derived.Test.YtooehjbbphokbaaDoorNmF
import Derived.Test.YtooehjbbphokbaaDoorNmX
import Derived.Laws.RangeAny
import Derived.Laws.RangeString
import Derived.Laws.Runes
import Derived.LoopTactic
import Derived.BigQuiet
import Derived.Lib.OthersKept
import Derived.Lib.RuneCount
/- strings.IndexAny at "=:", whatever the text: the place of "=" or ":". -/
namespace Go.Proofs.YtooehjbbphokbaaDoor
set_option linter.unusedVariables false
set_option linter.unusedSimpArgs false
open Go.RowKit Go.Proofs.YtooehjbbphokbaaDoorW.PrintWords Go.Proofs.YtooehjbbphokbaaDoorW.PrintLast Go.Proofs.YtooehjbbphokbaaDoorW.PrintMore

set_option maxHeartbeats 4000000 in
set_option maxRecDepth 100000 in
theorem indexRune_high (r : Int) (h128 : 128 ≤ r) (hr : r ≤ 2147483647) (w : World) :
    Calls Tryd.prog 67 #[.string ⟨#[61, 58]⟩, .int .i32 r] w fun e w' => e = .returned (.int .i64 (-1)) ∧ Below w.heap.size w w' := by
  by_cases he : r = 65533
  · subst he
    have hn0 : ∀ ty, (Instr.next (.pointer (some ⟨w.heap.size, 0, none⟩)) true ty).run Tryd.prog (w.iter ⟨#[61, 58]⟩ 0) = .ok (.tuple #[.bool true, .int .i64 0, .int .i32 61]) (w.iter ⟨#[61, 58]⟩ 1) := fun ty => run_next_ascii w ⟨#[61, 58]⟩ 0 ty (by decide) (by decide)
    have hn1 : ∀ ty, (Instr.next (.pointer (some ⟨w.heap.size, 0, none⟩)) true ty).run Tryd.prog (w.iter ⟨#[61, 58]⟩ 1) = .ok (.tuple #[.bool true, .int .i64 1, .int .i32 58]) (w.iter ⟨#[61, 58]⟩ 2) := fun ty => run_next_ascii w ⟨#[61, 58]⟩ 1 ty (by decide) (by decide)
    have hn2 : ∀ ty, (Instr.next (.pointer (some ⟨w.heap.size, 0, none⟩)) true ty).run Tryd.prog (w.iter ⟨#[61, 58]⟩ 2) = _ := fun ty => run_next_end w ⟨#[61, 58]⟩ 2 ty (by decide)
    go_enter Tryd.func67, Tryd.ntmps67
    go_wp2
    go_loopw [] (fun w' => ∃ (pos : Nat), w' = w.iter ⟨#[61, 58]⟩ pos ∧ pos ≤ 2) (fun w' => 2 - w'.iterPos w.heap.size)
    case atStart => exact ⟨0, rfl, by omega⟩
    case round =>
      obtain ⟨pos, rfl, hp⟩ := hrel
      have hp3 : pos = 0 ∨ pos = 1 ∨ pos = 2 := by omega
      have HB : Aside0 (Below w.heap.size w (w.iter ⟨#[61, 58]⟩ 2)) := ⟨below_alloc (Below.refl _ _) _⟩
      rcases hp3 with rfl | rfl | rfl
      · go_wp2
        go_roundw
        case rel => exact ⟨1, rfl, by omega⟩
        case measure => simp
      · go_wp2
        go_roundw
        case rel => exact ⟨2, rfl, by omega⟩
        case measure => simp
      · go_wp2
        go_ret
        exact ⟨rfl, HB.out⟩
  · have hbe : (r == 65533) = false := beq_eq_false_iff_ne.2 he
    by_cases hv : Utf8.valid r = true
    · have hvr : Lib.validRune r = true := by
        unfold Utf8.valid at hv
        unfold Lib.validRune
        simp only [Bool.or_eq_true, Bool.and_eq_true, decide_eq_true_eq] at hv ⊢
        omega
      obtain ⟨h2, h4, hlast⟩ := encode_facts r hv h128
      have HV := Aside0.mk (fun W => Tryd.utf8_ValidRune r W)
      have HIB := Aside0.mk (fun t c W => Tryd.strings_IndexByte t c W)
      rw [hvr] at HV
      obtain ⟨E, hE⟩ : ∃ E, Utf8.encode r = E := ⟨_, rfl⟩
      rw [hE] at h2 h4 hlast
      have hr128 : ¬ r < 128 := by omega
      clear hv hvr
      by_cases hn : E.size = 2
      · have hl1 : 128 ≤ (E[1]'(by omega)).toNat := by
          have := hlast (by omega)
          simpa [hn] using this
        have hne : ((((⟨#[61, 58]⟩ : ByteArray)[1]'(by decide)).toNat : Int) != ((E[1]'(by omega)).toNat : Int)) = true := bne_iff_ne.2 (by show ¬ (58 : Int) = _; omega)
        go_enter Tryd.func67, Tryd.ntmps67
        go_wp2_with fail
        refine (HV.out _).mono ?_
        rintro e w1 ⟨rfl, rfl⟩
        go_wp2
        go_step3
        go_wp2
        go_loopg [9, 10] 1 (fun gk i f w' => i = .int .i64 1 ∧ f = .int .i64 0 ∧ w' = w1 ∧ Aside0 (gk = 1))
        case atStart => exact ⟨by first | rfl | simp [hn], rfl, rfl, ⟨rfl⟩⟩
        case round =>
          obtain ⟨rfl, rfl, rfl, HG⟩ := hrel
          have hix : ∀ c, Lib.indexByte ByteArray.empty.data.toList c = -1 := fun c => rfl
          go_wp2
          go_step3
          go_wp2
          have hsz2 : (1 : Int) < (E.size : Int) := by omega
          have hsz3 : (1 : Int) < ((⟨#[61, 58]⟩ : ByteArray).size : Int) := by decide
          go_quiet (fail)
          go_wp2
          go_quiet (first | (go_at_call 90; refine (HIB.out _ _ _).mono ?_; rintro e w' ⟨rfl, rfl⟩; first | exact ⟨rfl, _, rfl⟩ | exact ⟨rfl, 0, rfl⟩ | exact ⟨rfl, _, World.drewN_drewN _ _ _⟩))
          simp only [hix]
          go_wp2
          simp only [Exit.noGoto_ret, Exit.inBlock, Exit.then]
          go_ret
          exact ⟨rfl, by repeat (first | exact Below.refl _ _ | apply pw_below_drewN)⟩
      · go_enter Tryd.func67, Tryd.ntmps67
        go_wp2_with fail
        refine (HV.out _).mono ?_
        rintro e w1 ⟨rfl, rfl⟩
        go_wp2
        go_step3
        go_wp2
        go_loopg [9, 10] 1 (fun gk i f w' => i = .int .i64 ((E.size : Int) - 1) ∧ f = .int .i64 0 ∧ w' = w1 ∧ Aside0 (gk = 1))
        case atStart => exact ⟨by first | rfl | go_num, rfl, rfl, ⟨rfl⟩⟩
        case round =>
          obtain ⟨rfl, rfl, rfl, HG⟩ := hrel
          have hge : ¬ ((E.size : Int) - 1 < 2) := by omega
          go_wp2
          go_ret
          exact ⟨rfl, Below.refl _ _⟩
    · have hvr : Lib.validRune r = false := by
        refine Bool.eq_false_iff.2 (fun h => hv ?_)
        unfold Lib.validRune at h
        unfold Utf8.valid
        simp only [Bool.or_eq_true, Bool.and_eq_true, decide_eq_true_eq] at h ⊢
        omega
      have HV := Aside0.mk (fun W => Tryd.utf8_ValidRune r W)
      rw [hvr] at HV
      go_enter Tryd.func67, Tryd.ntmps67
      go_wp2_with fail
      refine (HV.out _).mono ?_
      rintro e w1 ⟨rfl, rfl⟩
      go_wp2
      go_ret
      exact ⟨rfl, Below.refl _ _⟩

end Go.Proofs.YtooehjbbphokbaaDoor

/- strings.IndexAny at "=:", whatever the text: the place of "=" or ":". -/
namespace Go.Proofs.YtooehjbbphokbaaDoor
set_option linter.unusedVariables false
set_option linter.unusedSimpArgs false
open Go.RowKit Go.Proofs.YtooehjbbphokbaaDoorW.PrintWords Go.Proofs.YtooehjbbphokbaaDoorW.PrintLast Go.Proofs.YtooehjbbphokbaaDoorW.PrintMore Go.Lib

theorem dec_cont (s : ByteArray) (pos j : Nat) (h1 : pos < j) (h2 : j < pos + (Utf8.decode s pos).2) (hj : j < s.size) : 128 ≤ (s[j]'hj).toNat := by
  have hg : ∀ k, j = pos + k → (s.get! (pos + k)).toNat = (s[j]'hj).toNat := fun k e => by
    subst e
    simp [ByteArray.get!, getElem!_pos, hj]
    rfl
  obtain ⟨x, hx⟩ : ∃ x, (s[j]'hj).toNat = x := ⟨_, rfl⟩
  rw [hx]
  have hgx : ∀ k, j = pos + k → (s.get! (pos + k)).toNat = x := fun k e => (hg k e).trans hx
  clear hg hx
  have h3 := h2
  clear h2
  simp only [Utf8.decode] at h3
  repeat' split at h3
  all_goals simp only [Bool.and_eq_true, decide_eq_true_eq, beq_iff_eq] at *
  all_goals first
    | omega
    | (rcases (show j = pos + 1 ∨ j = pos + 2 ∨ j = pos + 3 by omega) with e | e | e
       all_goals first
         | (have h4 := hgx 1 e; omega)
         | (have h4 := hgx 2 e; omega)
         | (have h4 := hgx 3 e; omega))
theorem dec_end (s : ByteArray) (pos : Nat) (h : pos < s.size) : pos + (Utf8.decode s pos).2 ≤ s.size := by
  simp only [Utf8.decode]
  repeat' split
  all_goals simp_all
  all_goals omega

theorem idxI_none {L : List UInt8} (h : ∀ b ∈ L, ¬ (b = 61 ∨ b = 58)) : idxI L = -1 := by
  unfold idxI
  rw [idxL_none L h]
theorem idxI_hit {L : List UInt8} {i : Nat} {x : UInt8} (hx : L[i]? = some x) (h : ∀ b ∈ L.take i, ¬ (b = 61 ∨ b = 58)) (hb : x = 61 ∨ x = 58) : idxI L = (i : Int) := by
  obtain ⟨hi, rfl⟩ := List.getElem?_eq_some_iff.1 hx
  unfold idxI
  rw [idxL_hit L i hi h hb]
theorem sep_byte (x : UInt8) (h : x.toNat < 128) : Lib.indexByte [61, 58] ((x.toNat : Int)).toNat.toUInt8 = if x = 61 then 0 else if x = 58 then 1 else -1 := by
  have e : ((x.toNat : Int)).toNat.toUInt8 = x := by simp
  rw [e]
  unfold Lib.indexByte Lib.indexByte Lib.indexByte
  by_cases h1 : x = 61
  · subst h1; rfl
  · by_cases h2 : x = 58
    · subst h2; rfl
    · have b1 : ((61 : UInt8) == x) = false := beq_eq_false_iff_ne.2 (fun e => h1 e.symm)
      have b2 : ((58 : UInt8) == x) = false := beq_eq_false_iff_ne.2 (fun e => h2 e.symm)
      simp [b1, b2, h1, h2]

set_option maxHeartbeats 4000000 in
set_option maxRecDepth 100000 in
theorem index_short (s : ByteArray) (h8 : s.size ≤ 8) : IndexIs s := fun w => by
  have hd : decide ((8 : Int) < (s.size : Int)) = false := decide_eq_false (by omega)
  have HU := Aside0.mk (fun W => Tryd.strings_shouldUseASCIISet (s.size : Int) W)
  rw [hd] at HU
  have HIH : Aside0 (∀ i x, s.data.toList[i]? = some x → (∀ y ∈ s.data.toList.take i, ¬ (y = 61 ∨ y = 58)) → (x = 61 ∨ x = 58) → idxI s.data.toList = (i : Int)) := ⟨fun i x h1 h2 h3 => idxI_hit h1 h2 h3⟩
  have HIN := Aside0.mk (idxI_none (L := s.data.toList))
  have HAT : Aside0 (∀ i (hi : i < s.size), s.data.toList[i]? = some (s[i]'hi)) := ⟨fun i hi => by
    rw [List.getElem?_eq_getElem (by rw [← Lib.size_eq s]; exact hi)]
    congr 1⟩
  have HSL := Aside0.mk (Lib.size_eq s)
  obtain ⟨ans, hans⟩ : ∃ ans, idxI s.data.toList = ans := ⟨_, rfl⟩
  rw [hans] at HIN HIH ⊢
  obtain ⟨L, hL⟩ : ∃ L, s.data.toList = L := ⟨_, rfl⟩
  rw [hL] at HIN HSL HIH
  have HAT2 : Aside0 (∀ i (hi : i < s.size), L[i]? = some (s[i]'hi)) := ⟨fun i hi => by rw [← hL]; exact HAT.out i hi⟩
  clear HAT
  have HIT : Aside0 ((w.iter s 0).heap[w.heap.size]? = some (.stringIter s 0)) := ⟨World.iter_heap w s 0⟩
  have HB0 : Aside0 (Below w.heap.size w (w.iter s 0)) := ⟨below_alloc (Below.refl _ _) _⟩
  have HBL : Aside0 (∀ i, i < 1 → True) := ⟨fun _ _ => trivial⟩
  clear hd hans hL HBL
  go_enter Tryd.func47, Tryd.ntmps47
  go_wp2_with fail
  refine (HU.out _).mono ?_
  rintro e w1 ⟨rfl, rfl⟩
  go_wp2
  go_loopg [46] s.size (fun gk x w' => ∃ (pos : Nat), Aside0 (pos ≤ s.size ∧ gk = s.size - pos) ∧ Aside0 (∀ y ∈ L.take pos, ¬ (y = 61 ∨ y = 58)) ∧ Aside0 (w'.heap[w1.heap.size]? = some (.stringIter s pos)) ∧ Aside0 (Below w1.heap.size w1 w'))
  case atStart => exact ⟨0, ⟨Nat.zero_le _, rfl⟩, ⟨fun y hy => by simp at hy⟩, HIT, HB0⟩
  case round =>
    obtain ⟨pos, HA, HN, HI, HB⟩ := hrel
    by_cases hp : pos < s.size
    · have hnx : ∀ ty, (Instr.next (.pointer (some ⟨w1.heap.size, 0, none⟩)) true ty).run Tryd.prog wr = _ := fun ty => run_next_any_at wr w1.heap.size s pos ty HI.out hp
      have hat := HAT2.out pos hp
      have hw := decode_width_pos s pos hp
      have hde := dec_end s pos hp
      have hdle := decode_le s pos
      have hcn := fun j h1 h2 hj => dec_cont s pos j h1 h2 hj
      have hasc := fun ha => decode_ascii s pos hp ha
      have hhi := fun ha => (decode_high s pos hp ha).1
      obtain ⟨x, hx⟩ : ∃ x, s[pos]'hp = x := ⟨_, rfl⟩
      rw [hx] at hat hasc hhi
      obtain ⟨rn, hrn⟩ : ∃ rn, (Utf8.decode s pos).1 = rn := ⟨_, rfl⟩
      obtain ⟨kk, hkk⟩ : ∃ kk, (Utf8.decode s pos).2 = kk := ⟨_, rfl⟩
      have HKK : Aside0 (x.toNat < 128 → rn = x.toNat ∧ kk = 1) := ⟨fun h => by rw [← hrn, ← hkk, hasc h]; exact ⟨rfl, rfl⟩⟩
      rw [hrn, hkk] at hnx
      rw [hrn] at hdle hhi
      rw [hkk] at hw hde hcn
      have HCN := Aside0.mk hcn
      clear hrn hkk hcn hasc
      have HI2 : Aside0 ((wr.iterAt w1.heap.size s (pos + kk)).heap[w1.heap.size]? = some (.stringIter s (pos + kk))) := ⟨iterAt_heap wr w1.heap.size s pos (pos + kk) HI.out⟩
      have HB2 : Aside0 (Below w1.heap.size w1 (wr.iterAt w1.heap.size s (pos + kk))) := ⟨below_iterAt HB.out (Nat.le_refl _) s (pos + kk)⟩
      have HBI : Aside0 (w1.heap.size < (wr.iterAt w1.heap.size s (pos + kk)).heap.size) := ⟨(Array.getElem?_eq_some_iff.1 HI2.out).1⟩
      have HN2 : Aside0 (¬ (x = 61 ∨ x = 58) → ∀ y ∈ L.take (pos + kk), ¬ (y = 61 ∨ y = 58)) := ⟨fun hns y hy => by
        obtain ⟨j, hj, hjy⟩ := List.getElem_of_mem hy
        rw [List.length_take] at hj
        rw [List.getElem_take] at hjy
        have hjs : j < s.size := by have := HSL.out; omega
        have hLj := HAT2.out j hjs
        rw [List.getElem?_eq_getElem (by omega)] at hLj
        have hsj := Option.some.inj hLj
        rw [hjy] at hsj
        rcases Nat.lt_trichotomy j pos with h1 | h1 | h1
        · refine HN.out y (List.mem_iff_getElem.2 ⟨j, by rw [List.length_take]; omega, ?_⟩)
          rw [List.getElem_take]
          exact hjy
        · subst h1
          rw [hsj, hx]
          exact hns
        · have h2 := HCN.out j h1 (by omega) hjs
          rw [← hsj] at h2
          rintro (rfl | rfl)
          · exact absurd h2 (by decide)
          · exact absurd h2 (by decide)⟩
      by_cases ha : x.toNat < 128
      · obtain ⟨rfl, rfl⟩ := HKK.out ha
        have HR := Aside0.mk (fun W => Tryd.strings_IndexRune_ascii ⟨#[61, 58]⟩ (x.toNat : Int) W (by omega) (by omega))
        have hsb := sep_byte x ha
        rw [show (⟨#[61, 58]⟩ : ByteArray).data.toList = [61, 58] from rfl, hsb] at HR
        by_cases h61 : x = 61
        · rw [if_pos h61] at HR
          have hans := HIH.out pos x hat HN.out (.inl h61)
          clear HKK HN2 hsb hhi h61 hx
          go_wp2_with fail
          refine (HR.out _).mono ?_
          rintro e w4 ⟨rfl, rfl⟩
          go_wp2
          go_ret
          rw [hans]
          exact ⟨rfl, HB2.out⟩
        · rw [if_neg h61] at HR
          by_cases h58 : x = 58
          · rw [if_pos h58] at HR
            have hans := HIH.out pos x hat HN.out (.inr h58)
            clear HKK HN2 hsb hhi h58 h61 hx
            go_wp2_with fail
            refine (HR.out _).mono ?_
            rintro e w4 ⟨rfl, rfl⟩
            go_wp2
            go_ret
            rw [hans]
            exact ⟨rfl, HB2.out⟩
          · rw [if_neg h58] at HR
            have HN3 := Aside0.mk (HN2.out (fun h => h.elim h61 h58))
            clear HKK HN2 hsb hhi h58 h61 hx
            go_wp2_with fail
            refine (HR.out _).mono ?_
            rintro e w4 ⟨rfl, rfl⟩
            go_wp2
            go_roundg (s.size - (pos + 1))
            case measure => have := HA.out; omega
            case rel => exact ⟨pos + 1, ⟨by omega, rfl⟩, HN3, HI2, HB2⟩
      · have hrh := hhi (by omega)
        have HR := Aside0.mk (fun W => indexRune_high (rn : Int) (by omega) (by omega) W)
        have HN3 := Aside0.mk (HN2.out (fun h => by
          rcases h with rfl | rfl
          · exact ha (by decide)
          · exact ha (by decide)))
        clear HKK HN2 hhi
        go_wp2_with fail
        refine (HR.out _).mono ?_
        rintro e w4 ⟨rfl, hb4⟩
        have HI4 : Aside0 (w4.heap[w1.heap.size]? = some (.stringIter s (pos + kk))) := ⟨(hb4.block _ HBI.out).trans HI2.out⟩
        have HB4 : Aside0 (Below w1.heap.size w1 w4) := ⟨below_to HB2.out hb4⟩
        clear hb4
        go_wp2
        go_roundg (s.size - (pos + kk))
        case measure => have := HA.out; omega
        case rel => exact ⟨pos + kk, ⟨by omega, rfl⟩, HN3, HI4, HB4⟩
    · have hnx : ∀ ty, (Instr.next (.pointer (some ⟨w1.heap.size, 0, none⟩)) true ty).run Tryd.prog wr = _ := fun ty => run_next_end_at wr w1.heap.size s pos ty HI.out hp
      have hans := HIN.out (by
        have h1 := HN.out
        rwa [List.take_of_length_le (by have := HSL.out; omega)] at h1)
      go_wp2
      go_ret
      rw [hans]
      exact ⟨rfl, HB.out⟩

end Go.Proofs.YtooehjbbphokbaaDoor

/- Whatever the text: names.Resolve; what is found is found again by its long name (plain law). -/
namespace Go.Proofs.YtooehjbbphokbaaDoor
set_option linter.unusedVariables false
set_option linter.unusedSimpArgs false
open Go.RowKit Go.Proofs.YtooehjbbphokbaaDoorW.PrintWords Go.Proofs.YtooehjbbphokbaaDoorW.PrintLast Go.Proofs.YtooehjbbphokbaaDoorW.PrintMore

theorem index_all (s : ByteArray) (hs : s.size < 4294967281) : IndexIs s := by
  by_cases h : s.size ≤ 8
  · exact index_short s h
  · exact index_long s (by omega) hs
theorem resolve_all (b : ByteArray) (hal : AliasIs b) (s : ByteArray) (m : Int) (w : World) (hm : MaxIs w m) (hs : s.size < 4294967281) :
    Calls Tryd.prog 28 #[.string s] w fun e w' => e = .returned (.tuple #[.int .i64 (resolveL (rowsB b) s).1, .string (resolveL (rowsB b) s).2.1, .int .i64 (resolveL (rowsB b) s).2.2]) ∧ Below w.heap.size w w' :=
  resolve_any b hal s m w hm (by omega) (index_all s hs)

theorem findL_mem : ∀ {R : List (List ByteArray)} {k want v : ByteArray}, findL k want R = some v → ∃ f ∈ R, cellB f 0 = k ∧ cellB f 1 = v
  | [], _, _, _, h => by cases h
  | f :: r, k, want, v, h => by
    unfold findL at h
    split at h
    · rename_i hh
      cases h
      unfold rowHit at hh
      rw [Bool.and_eq_true] at hh
      exact ⟨f, List.mem_cons_self, eqB_iff.1 hh.1, rfl⟩
    · obtain ⟨g, hg, h2⟩ := findL_mem h
      exact ⟨g, List.mem_cons_of_mem _ hg, h2⟩
theorem longL_small {R : List (List ByteArray)} (hok : ∀ f ∈ R, f.length = 3 ∧ (∀ x ∈ f, x.size < 1000) ∧ (cellB f 1).size ≠ 0) {n : Int} {v l : ByteArray} (h : longL n v R = some l) : l.size < 1000 := by
  induction R with
  | nil => cases h
  | cons f r ih =>
    unfold longL at h
    split at h
    · cases h
      obtain ⟨h3, hs, -⟩ := hok f List.mem_cons_self
      rw [cell_at (show 2 < f.length by omega)]
      exact hs _ (List.getElem_mem _)
    · exact ih (fun g hg => hok g (List.mem_cons_of_mem _ hg)) h
/-- What a found value is good for. -/
def Found (R : List (List ByteArray)) (r : Int × ByteArray × Int) : Prop := r = errN ∨ r = errV ∨ ∃ n v l, r = (n, v, 0) ∧ (n = 1 ∨ n = 2 ∨ n = 3) ∧ longL n v R = some l ∧ resolveL R (aheadB n ++ l) = (n, v, 0)
theorem numB_three (k : ByteArray) : numB k = 1 ∨ numB k = 2 ∨ numB k = 3 := by
  unfold numB
  split
  · exact .inl rfl
  · split
    · exact .inr (.inl rfl)
    · exact .inr (.inr rfl)
theorem found_row {R : List (List ByteArray)} (hb : backOk R = true) {k want v : ByteArray} (hk : kindsL.any (fun q => eqB k q) = true) (h : findL k want R = some v) : Found R (numB k, v, 0) := by
  obtain ⟨f, hf, rfl, rfl⟩ := findL_mem h
  unfold backOk at hb
  rw [Bool.and_eq_true, List.all_eq_true] at hb
  have h1 := hb.1 f hf
  rw [hk, Bool.not_true, Bool.false_or] at h1
  unfold backRow at h1
  split at h1
  · cases h1
  · rename_i l hl
    simp only [Bool.and_eq_true, beq_iff_eq] at h1
    obtain ⟨⟨e1, e2⟩, e3⟩ := h1
    exact .inr (.inr ⟨_, _, l, rfl, numB_three _, hl, Prod.ext e1 (Prod.ext (eqB_iff.1 e2) e3)⟩)
theorem bare_found {R : List (List ByteArray)} (hb : backOk R = true) (s : ByteArray) : ∀ ks : List ByteArray, (∀ k ∈ ks, k ∈ kindsL) → Found R (bareL R s ks)
  | [], _ => .inl rfl
  | k :: r, h => by
    unfold bareL
    split
    · exact bare_found hb s r (fun q hq => h q (List.mem_cons_of_mem _ hq))
    · rename_i v hv
      exact found_row hb (List.any_eq_true.2 ⟨k, h k List.mem_cons_self, eqB_self k⟩) hv
theorem resolve_found {R : List (List ByteArray)} (hb : backOk R = true) (s : ByteArray) : Found R (resolveL R s) := by
  unfold resolveL
  split
  · unfold keyL
    split
    · exact .inl rfl
    · rename_i k hk
      unfold valL
      split
      · exact .inr (.inl rfl)
      · rename_i v hv
        obtain ⟨f, hf, h0, h1⟩ := findL_mem hk
        have hb2 := hb
        unfold backOk at hb2
        rw [Bool.and_eq_true, List.all_eq_true, List.all_eq_true] at hb2
        have h2 := hb2.2 f hf
        rw [h0, eqB_self, Bool.not_true, Bool.false_or, h1] at h2
        exact found_row hb h2 hv
  · exact bare_found hb s kindsL (fun k hk => hk)

end Go.Proofs.YtooehjbbphokbaaDoor
