/- Names loosely: the plain law, and the walk of names.Loose. -/
import Derived.Test.YtooehjbbphokbaaDoorLnQ
import Derived.Test.YtooehjbbphokbaaDoorLnC
import Derived.Test.YtooehjbbphokbaaDoorNmP
import Derived.Laws.RangeAny
import Derived.LoopTactic
namespace Go.Proofs.YtooehjbbphokbaaDoor
set_option linter.unusedVariables false
set_option linter.unusedSimpArgs false
open Go.RowKit Go.Proofs.YtooehjbbphokbaaDoorW.PrintWords Go.Proofs.YtooehjbbphokbaaDoorW.PrintLast Go.Proofs.YtooehjbbphokbaaDoorW.PrintMore

def skipB (b : UInt8) : Bool := b == 32 || b == 45 || b == 95
def lowB (b : UInt8) : UInt8 := if 65 ≤ b.toNat ∧ b.toNat ≤ 90 then b + 32 else b
def lowL : List UInt8 → List UInt8
  | [] => []
  | b :: l => if skipB b = true then lowL l else lowB b :: lowL l
theorem lowL_snoc : ∀ (l : List UInt8) (b : UInt8), lowL (l ++ [b]) = lowL l ++ (if skipB b = true then [] else [lowB b])
  | [], b => by
    show lowL [b] = _
    unfold lowL
    split <;> rfl
  | c :: l, b => by
    have ih := lowL_snoc l b
    show lowL (c :: (l ++ [b])) = _
    by_cases h : skipB c = true
    · rw [lowL, if_pos h, lowL, if_pos h, ih]
    · rw [lowL, if_neg h, lowL, if_neg h, ih, List.cons_append]
theorem lowL_length : ∀ l : List UInt8, (lowL l).length ≤ l.length
  | [] => Nat.le_refl _
  | b :: l => by
    have ih := lowL_length l
    unfold lowL
    split
    · simp only [List.length_cons]
      omega
    · simp only [List.length_cons]
      omega
/-- What stands behind "is". -/
def cutIs (o : List UInt8) : List UInt8 := if 2 < o.length ∧ o.take 2 = [105, 115] then o.drop 2 else o
def looseB (s : ByteArray) : ByteArray := bsL (cutIs (lowL s.data.toList))
def numsOf (l : List UInt8) : List Int := l.map fun b => (b.toNat : Int)
theorem strOf_nums (l : List UInt8) : strOfNums (numsOf l) = bsL l := by
  unfold strOfNums numsOf bsL
  rw [List.map_map]
  have h : ((fun n : Int => UInt8.ofNat n.toNat) ∘ fun b : UInt8 => (b.toNat : Int)) = id := by
    funext b
    simp
  first
    | (rw [h, List.map_id])
    | (congr 1; simp only [Function.comp_def] at h ⊢; simp [h])
theorem numsOf_app (l m : List UInt8) : numsOf (l ++ m) = numsOf l ++ numsOf m := List.map_append
theorem numsOf_length (l : List UInt8) : (numsOf l).length = l.length := List.length_map _
theorem low_or (b : UInt8) (h0 : 65 ≤ b.toNat) (h1 : b.toNat ≤ 90) : bits .or .u8 (b.toNat : Int) 32 = ((b + 32).toNat : Int) := by
  have key : ∀ n : Fin 256, 65 ≤ n.val → n.val ≤ 90 → bits .or .u8 (n.val : Int) 32 = ((UInt8.ofNat n.val + 32).toNat : Int) := by decide +kernel
  have h := key ⟨b.toNat, UInt8.toNat_lt b⟩ h0 h1
  rw [show UInt8.ofNat b.toNat = b by simp] at h
  exact h
theorem skipB_is (b : UInt8) : skipB b = true ↔ b.toNat = 32 ∨ b.toNat = 45 ∨ b.toNat = 95 := by
  unfold skipB
  simp only [Bool.or_eq_true, beq_iff_eq]
  constructor
  · rintro ((rfl | rfl) | rfl)
    · exact .inl rfl
    · exact .inr (.inl rfl)
    · exact .inr (.inr rfl)
  · rintro (h | h | h)
    · exact .inl (.inl (UInt8.toNat_inj.1 h))
    · exact .inl (.inr (UInt8.toNat_inj.1 h))
    · exact .inr (UInt8.toNat_inj.1 h)
theorem take_two {o : List UInt8} (h : 2 ≤ o.length) : (bsL o).extract 0 2 = bsL (o.take 2) := by
  rw [ext_bsL]
  rfl
theorem drop_two (o : List UInt8) : (bsL o).extract 2 (bsL o).size = bsL (o.drop 2) := by
  rw [ext_bsL, size_bsL]
  congr 1
  exact List.take_of_length_le (by rw [List.length_drop]; exact Nat.le_refl _)
theorem toList_bsL (l : List UInt8) : (bsL l).toList = l := by rw [Lib.toList_data, data_bsL]
/-- What strings.CutPrefix answers at "is". -/
theorem prefix_is (o : List UInt8) : Go.Proofs.YtooehjbbphokbaaDoor.PNamesBack.strings_CutPrefix.f (bsL o) ⟨#[105, 115]⟩ = some (if 2 ≤ o.length ∧ o.take 2 = [105, 115] then (bsL (o.drop 2), true) else (bsL o, false)) := by
  have h2 : (⟨#[105, 115]⟩ : ByteArray).size = 2 := rfl
  have hl : (⟨#[105, 115]⟩ : ByteArray).toList = [105, 115] := by rw [Lib.toList_data]
  have hp : Go.Proofs.YtooehjbbphokbaaDoor.PNamesBack.stringslite_HasPrefix.f (bsL o) ⟨#[105, 115]⟩ = some (decide (2 ≤ o.length ∧ o.take 2 = [105, 115])) := by
    unfold Go.Proofs.YtooehjbbphokbaaDoor.PNamesBack.stringslite_HasPrefix.f
    rw [h2, hl, size_bsL]
    by_cases h : 2 ≤ o.length
    · rw [if_pos (by omega), if_pos (by omega), if_pos (by omega)]
      have e : ((2 : Nat) : Int).toNat = 2 := rfl
      rw [e, take_two h, toList_bsL]
      congr 1
      by_cases hq : o.take 2 = [105, 115]
      · rw [hq]
        simp [h]
      · rw [decide_eq_false (fun hh => hq hh.2)]
        exact beq_eq_false_iff_ne.2 hq
    · rw [if_neg (by omega), decide_eq_false (fun hh => h hh.1)]
  unfold Go.Proofs.YtooehjbbphokbaaDoor.PNamesBack.strings_CutPrefix.f Go.Proofs.YtooehjbbphokbaaDoor.PNamesBack.stringslite_CutPrefix.f
  rw [hp, Option.bind_some]
  by_cases h : 2 ≤ o.length ∧ o.take 2 = [105, 115]
  · rw [if_pos h, if_pos (decide_eq_true h), h2, size_bsL, if_pos (by omega), if_pos (by omega)]
    have e : ((2 : Nat) : Int).toNat = 2 := rfl
    rw [e, Option.bind_some]
    have := drop_two o
    rw [size_bsL] at this
    rw [this]
  · rw [if_neg h, if_neg (by rw [decide_eq_false h]; decide), Option.bind_some]

set_option maxHeartbeats 4000000 in
set_option maxRecDepth 100000 in
theorem loose_any (s : ByteArray) (w : World) (hs : s.size < 140737488355328) :
    Calls Tryd.prog 25 #[.string s] w fun e w' => e = .returned (.string (looseB s)) ∧ Below w.heap.size w w' := by
  have hconv := fun W => print_bytes (P := Tryd.prog) 9 61 5 Tryd.underlying9 Tryd.underlying61 Tryd.underlying5 s W
  obtain ⟨cap, hcap⟩ : ∃ cap, grownCap w s.size 0 5 = cap := ⟨_, rfl⟩
  have hc := hconv w
  rw [hcap] at hc
  have hrd := bytes_reads w 5 s (by omega)
  have hbl := bytes_below (Below.refl w.heap.size w) (Nat.le_refl _) 5 s
  obtain ⟨W0, hW0⟩ : ∃ W0, Lib.bytesWorld w 5 s = W0 := ⟨_, rfl⟩
  rw [hW0] at hc hrd hbl
  have HR := Aside0.mk hrd
  have HB0 := Aside0.mk hbl
  have hsz : s.data.toList.length = s.size := data_length s
  have HA0 : Aside0 (looseB s = bsL (cutIs (lowL s.data.toList))) := ⟨rfl⟩
  have HBT : Aside0 (∀ k b, s.data.toList[k]? = some b → bt s ((k : Nat) : Int) = (b.toNat : Int)) := ⟨fun k b hb => by
    obtain ⟨hk, rfl⟩ := List.getElem?_eq_some_iff.1 hb
    have := bt_bsL s.data.toList k hk
    rwa [bsL_data] at this⟩
  obtain ⟨L, hL⟩ : ∃ L, s.data.toList = L := ⟨_, rfl⟩
  obtain ⟨ans, hans⟩ : ∃ ans, looseB s = ans := ⟨_, rfl⟩
  rw [hL] at hsz HA0 HBT
  rw [hans] at HA0 ⊢
  clear hconv hcap hrd hbl hW0 hans hL
  go_enter Tryd.func25, Tryd.ntmps25
  go_wp2
  go_loopg [3, 12] s.size (fun gk z i w' => ∃ (k : Nat), i = .int .i64 (k : Int) ∧ Aside0 (k ≤ s.size ∧ gk = s.size - k) ∧ Aside0 (Own (Kd.int .u8) 5 w' W0.heap.size z (numsOf (lowL (L.take k)))) ∧ Aside0 (Below W0.heap.size W0 w'))
  case atStart => exact ⟨0, by first | rfl | simp, ⟨Nat.zero_le _, rfl⟩, ⟨Kd.R_nil _ _ _ _ _⟩, ⟨Below.refl _ _⟩⟩
  case round =>
    obtain ⟨k, rfl, HA, HO, HB1⟩ := hrel
    by_cases hk : k < s.size
    · have hkL : k < L.length := by omega
      obtain ⟨b, hb⟩ : ∃ b, L[k] = b := ⟨_, rfl⟩
      have hbo : L[k]? = some b := by rw [List.getElem?_eq_getElem hkL, hb]
      have hT : lowL (L.take (k + 1)) = lowL (L.take k) ++ (if skipB b = true then [] else [lowB b]) := by rw [List.take_succ_eq_append_getElem hkL, hb, lowL_snoc]
      obtain ⟨ad, hae, hx⟩ := HR.out.at_ (k : Int) (by omega) (by omega)
      cases hae
      rw [rd_bytesOf, HBT.out k b hbo, Int.toNat_natCast, add_plain] at hx
      replace hx := pw_cell_below HB1.out hx
      have hb255 := UInt8.toNat_lt b
      have hlen := lowL_length (L.take k)
      rw [List.length_take, Nat.min_eq_left (by omega)] at hlen
      have HLO := Aside0.mk (low_or b)
      have HSK := Aside0.mk (skipB_is b)
      have HLB : Aside0 (lowB b = if 65 ≤ b.toNat ∧ b.toNat ≤ 90 then b + 32 else b) := ⟨rfl⟩
      have HTT := Aside0.mk hT
      clear hT hbo hb
      obtain ⟨O, hO⟩ : ∃ O, lowL (L.take k) = O := ⟨_, rfl⟩
      rw [hO] at HO HTT hlen
      clear hO
      obtain ⟨c, hcb⟩ : ∃ c : Int, (b.toNat : Int) = c := ⟨_, rfl⟩
      rw [hcb] at hx HLO
      have hc0 : 0 ≤ c ∧ c ≤ 255 := by omega
      by_cases hsk : c = 32 ∨ c = 45 ∨ c = 95
      · have HE : Aside0 (lowL (L.take (k + 1)) = O) := ⟨by rw [HTT.out, if_pos (HSK.out.2 (by omega)), List.append_nil]⟩
        have hv : c = 32 ∨ (c = 45 ∨ c = 95) := hsk
        clear HLO HSK HLB HTT hcb
        rcases hv with rfl | rfl | rfl
        · go_wp2
          go_roundg (s.size - k - 1)
          case measure => have := HA.out; omega
          case rel => exact ⟨k + 1, by go_num, ⟨by omega, by omega⟩, ⟨by rw [HE.out]; exact HO.out⟩, HB1⟩
        · go_wp2
          go_roundg (s.size - k - 1)
          case measure => have := HA.out; omega
          case rel => exact ⟨k + 1, by go_num, ⟨by omega, by omega⟩, ⟨by rw [HE.out]; exact HO.out⟩, HB1⟩
        · go_wp2
          go_roundg (s.size - k - 1)
          case measure => have := HA.out; omega
          case rel => exact ⟨k + 1, by go_num, ⟨by omega, by omega⟩, ⟨by rw [HE.out]; exact HO.out⟩, HB1⟩
      · have n32 : ¬ c = 32 := fun h => hsk (.inl h)
        have n45 : ¬ c = 45 := fun h => hsk (.inr (.inl h))
        have n95 : ¬ c = 95 := fun h => hsk (.inr (.inr h))
        have e32 : (c == 32) = false := beq_eq_false_iff_ne.2 n32
        have e45 : (c == 45) = false := beq_eq_false_iff_ne.2 n45
        have e95 : (c == 95) = false := beq_eq_false_iff_ne.2 n95
        have hns : ¬ skipB b = true := fun h => by have := HSK.out.1 h; omega
        by_cases hup : 65 ≤ c ∧ c ≤ 90
        · obtain ⟨h65, h90⟩ := hup
          have hor := HLO.out (by omega) (by omega)
          have HE : Aside0 (numsOf (lowL (L.take (k + 1))) = numsOf O ++ [((b + 32).toNat : Int)]) := ⟨by
            rw [HTT.out, if_neg hns, HLB.out, if_pos ⟨by omega, by omega⟩, numsOf_app]
            rfl⟩
          obtain ⟨d, hd⟩ : ∃ d : Int, ((b + 32).toNat : Int) = d := ⟨_, rfl⟩
          rw [hd] at hor HE
          have hol := numsOf_length O
          clear HLO HSK HLB HTT hcb hsk hns hd
          go_wp2_with (at_builtin; refine Kd.R_append (Kd.int .u8) (w0 := W0) W0.heap.size rfl (.tmp 36) (.tmp 38) 61 5 (.int .u8 0) 1 rfl Tryd.underlying61 Go.Proofs.YtooehjbbphokbaaDoor.PNamesBack.info5 rfl (by decide) (by omega) u3 (numsOf O) d [.int .u8 d] (fun _ => True) (fun _ => False) rfl ?aX1 (int_mkM _ _ _ _ _) (fun _ h => h.elim) (fun _ _ => trivial) HO.out HB1.out ?aS1 ?aL1 ?_)
          try (case aX1 => rfl)
          case aS1 => exact HB1.out.size
          case aL1 => omega
          intro v1 w1 ho hb hg _
          have HO1 := Aside0.mk ho
          have HB2 := Aside0.mk hb
          clear ho hb hg
          go_wp2
          go_roundg (s.size - k - 1)
          case measure => have := HA.out; omega
          case rel => exact ⟨k + 1, by go_num, ⟨by omega, by omega⟩, ⟨by rw [HE.out]; exact HO1.out⟩, HB2⟩
        · have HE : Aside0 (numsOf (lowL (L.take (k + 1))) = numsOf O ++ [c]) := ⟨by
            rw [HTT.out, if_neg hns, HLB.out, if_neg (by omega), numsOf_app, ← hcb]
            rfl⟩
          have hol := numsOf_length O
          clear HLO HSK HLB HTT hcb hsk hns
          by_cases h65 : 65 ≤ c
          · have h90 : 90 < c := by omega
            go_wp2_with (at_builtin; refine Kd.R_append (Kd.int .u8) (w0 := W0) W0.heap.size rfl (.tmp 36) (.tmp 38) 61 5 (.int .u8 0) 1 rfl Tryd.underlying61 Go.Proofs.YtooehjbbphokbaaDoor.PNamesBack.info5 rfl (by decide) (by omega) u3 (numsOf O) c [.int .u8 c] (fun _ => True) (fun _ => False) rfl ?aX2 (int_mkM _ _ _ _ _) (fun _ h => h.elim) (fun _ _ => trivial) HO.out HB1.out ?aS2 ?aL2 ?_)
            try (case aX2 => rfl)
            case aS2 => exact HB1.out.size
            case aL2 => omega
            intro v1 w1 ho hb hg _
            have HO1 := Aside0.mk ho
            have HB2 := Aside0.mk hb
            clear ho hb hg
            go_wp2
            go_roundg (s.size - k - 1)
            case measure => have := HA.out; omega
            case rel => exact ⟨k + 1, by go_num, ⟨by omega, by omega⟩, ⟨by rw [HE.out]; exact HO1.out⟩, HB2⟩
          · have h65' : c < 65 := by omega
            go_wp2_with (at_builtin; refine Kd.R_append (Kd.int .u8) (w0 := W0) W0.heap.size rfl (.tmp 36) (.tmp 38) 61 5 (.int .u8 0) 1 rfl Tryd.underlying61 Go.Proofs.YtooehjbbphokbaaDoor.PNamesBack.info5 rfl (by decide) (by omega) u3 (numsOf O) c [.int .u8 c] (fun _ => True) (fun _ => False) rfl ?aX3 (int_mkM _ _ _ _ _) (fun _ h => h.elim) (fun _ _ => trivial) HO.out HB1.out ?aS3 ?aL3 ?_)
            try (case aX3 => rfl)
            case aS3 => exact HB1.out.size
            case aL3 => omega
            intro v1 w1 ho hb hg _
            have HO1 := Aside0.mk ho
            have HB2 := Aside0.mk hb
            clear ho hb hg
            go_wp2
            go_roundg (s.size - k - 1)
            case measure => have := HA.out; omega
            case rel => exact ⟨k + 1, by go_num, ⟨by omega, by omega⟩, ⟨by rw [HE.out]; exact HO1.out⟩, HB2⟩
    · have hall : L.take k = L := List.take_of_length_le (by omega)
      rw [hall] at HO
      obtain ⟨Av, cv, rfl, hcv, hrv⟩ := Kd.R_reads HO.out
      have hstr := fun W (h : Kd.C (Kd.int .u8) W Av (numsOf (lowL L)).length (numsOf (lowL L))) => Kd.C_string (P := Tryd.prog) (src := 61) (dst := 9) (e := 5) (c := cv) Tryd.underlying61 Tryd.underlying5 Tryd.underlying9 h
      have hs2 := hstr wr hrv
      rw [strOf_nums] at hs2
      have hpre := prefix_is (lowL L)
      obtain ⟨O, hO⟩ : ∃ O, lowL L = O := ⟨_, rfl⟩
      rw [hO] at hs2 hpre HA0 ⊢
      obtain ⟨n, hn⟩ : ∃ n, (numsOf O).length = n := ⟨_, rfl⟩
      rw [hn] at hs2 ⊢
      have HB : Aside0 (Below w.heap.size w wr) := ⟨below_to HB0.out HB1.out⟩
      clear hstr hrv hcv HO hall hO HR
      by_cases hp : 2 ≤ O.length ∧ O.take 2 = [105, 115]
      · rw [if_pos hp] at hpre
        have hcall := fun W => Go.Proofs.YtooehjbbphokbaaDoor.PNamesBack.strings_CutPrefix.calls (bsL O) ⟨#[105, 115]⟩ (bsL (O.drop 2)) true W hpre
        by_cases hl : 2 < O.length
        · have HQ : Aside0 (ans = bsL (O.drop 2)) := ⟨by rw [HA0.out]; unfold cutIs; rw [if_pos ⟨hl, hp.2⟩]⟩
          have hd : (O.drop 2).length ≠ 0 := by rw [List.length_drop]; omega
          obtain ⟨D, hD⟩ : ∃ D, bsL (O.drop 2) = D := ⟨_, rfl⟩
          have hne : D.toList.isEmpty = false := by
            rw [← hD, toList_bsL]
            cases hh : O.drop 2 with
            | nil => rw [hh] at hd; exact absurd rfl hd
            | cons _ _ => rfl
          rw [hD] at HQ hcall
          obtain ⟨OB, hOB⟩ : ∃ OB, bsL O = OB := ⟨_, rfl⟩
          rw [hOB] at hs2 hcall
          clear hpre hp hd hD hOB
          go_wp2_with fail
          refine (hcall _).mono ?_
          rintro e w2 ⟨rfl, hd2⟩
          have HB2 : Aside0 (Below w.heap.size w w2) := ⟨below_to HB.out hd2.below⟩
          clear hd2 hcall
          go_wp2
          go_ret
          rw [HQ.out]
          exact ⟨rfl, HB2.out⟩
        · have HQ : Aside0 (ans = bsL O) := ⟨by rw [HA0.out]; unfold cutIs; rw [if_neg (fun h => hl h.1)]⟩
          have hd : O.drop 2 = [] := List.drop_of_length_le (by omega)
          rw [hd] at hcall
          obtain ⟨OB, hOB⟩ : ∃ OB, bsL O = OB := ⟨_, rfl⟩
          rw [hOB] at hs2 hcall HQ
          have hemp : bsL [] = ByteArray.empty := rfl
          rw [hemp] at hcall
          clear hpre hp hd hOB hemp
          go_wp2_with fail
          refine (hcall _).mono ?_
          rintro e w2 ⟨rfl, hd2⟩
          have HB2 : Aside0 (Below w.heap.size w w2) := ⟨below_to HB.out hd2.below⟩
          clear hd2 hcall
          go_wp2
          go_ret
          rw [HQ.out]
          exact ⟨rfl, HB2.out⟩
      · rw [if_neg hp] at hpre
        have hcall := fun W => Go.Proofs.YtooehjbbphokbaaDoor.PNamesBack.strings_CutPrefix.calls (bsL O) ⟨#[105, 115]⟩ (bsL O) false W hpre
        have HQ : Aside0 (ans = bsL O) := ⟨by rw [HA0.out]; unfold cutIs; rw [if_neg (fun h => hp ⟨by omega, h.2⟩)]⟩
        obtain ⟨OB, hOB⟩ : ∃ OB, bsL O = OB := ⟨_, rfl⟩
        rw [hOB] at hs2 hcall HQ
        clear hpre hp hOB
        go_wp2_with fail
        refine (hcall _).mono ?_
        rintro e w2 ⟨rfl, hd2⟩
        have HB2 : Aside0 (Below w.heap.size w w2) := ⟨below_to HB.out hd2.below⟩
        clear hd2 hcall
        go_wp2
        go_ret
        rw [HQ.out]
        exact ⟨rfl, HB2.out⟩

end Go.Proofs.YtooehjbbphokbaaDoor
