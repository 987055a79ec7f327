/- TkPr, CkA, TkQ, CkC, LnR, LnT, NmC, LnU, NmD, NmE, NmF, NmX, NmY, CkD, TkR9, CkE, CkF, CkH, CkI, LnM. -/
import Derived.WalkSpells
import Derived.OwnWalk
import Derived.Laws.RangeAny
import Derived.Laws.RangeString
import Derived.Laws.Runes
import Derived.LoopTactic
import Derived.BigQuiet
import Derived.Lib.OthersKept
import Derived.Lib.RuneCount
import Derived.Deep.RegionWith
import Derived.Deep.RegionHeld3
import Derived.Deep.DrawnRows
import Derived.Test.YtkipjalfgdfaiaaGreatDoorRows
import Derived.Shelf.Vars
import Derived.Deep.DeepHandedRow
import Derived.Lay
import Derived.Test.YtkipjalfgdfaiaaGreatDoorSD3
namespace Go.Proofs.YtkipjalfgdfaiaaGreatDoor
set_option linter.unusedVariables false
set_option linter.unusedSimpArgs false
open Go.RowKit Go.Proofs.YtkipjalfgdfaiaaGreatDoorW.PrintWords Go.Proofs.YtkipjalfgdfaiaaGreatDoorW.PrintLast Go.Proofs.YtkipjalfgdfaiaaGreatDoorW.PrintMore Go.Proofs.YtkipjalfgdfaiaaGreatDoor.PTk

/-- A text that begins with a byte that a list lacks isn't within it. -/
theorem contains_not {s sub : List UInt8} {c : UInt8} {t : List UInt8} (hs : sub = c :: t) (hc : c ∉ s) : Lib.contains s sub = false := by
  unfold Lib.contains
  rw [Lib.index_none, decide_eq_false (by decide)]
  intro j hj
  unfold Lib.occAt
  subst hs
  cases hd : s.drop j with
  | nil => rfl
  | cons a l =>
    have hm : a ∈ s := List.mem_of_mem_drop (i := j) (by rw [hd]; exact List.mem_cons_self)
    rw [List.isPrefixOf_cons_cons] <;> simp only [Bool.and_eq_false_imp, beq_iff_eq]
    intro he
    exact absurd (he ▸ hm) hc
theorem encL_data {r : Int} (hr : runeB r = true) (h : 128 ≤ r) : ∃ c t, (strOfNums (encL r)).data.toList = c :: t ∧ 128 ≤ c.toNat := by
  have hp := encL_pos r
  have hh := encL_high hr h
  have hg := encL_rng hr
  rw [str_data]
  cases he : encL r with
  | nil => rw [he] at hp; simp at hp
  | cons c t =>
    rw [he] at hh hg
    refine ⟨_, _, rfl, ?_⟩
    have h1 := hh c List.mem_cons_self
    have h2 := hg c List.mem_cons_self
    show 128 ≤ (UInt8.ofNat c.toNat).toNat
    rw [UInt8.toNat_ofNat', Nat.mod_eq_of_lt (by omega)]
    omega
theorem str_app (a b : List Int) : strOfNums (a ++ b) = strOfNums a ++ strOfNums b := by
  apply ByteArray.ext
  rw [ByteArray.data_append]
  unfold strOfNums
  simp
abbrev marksS (cls : Bool) : ByteArray := if cls then ⟨#[91, 93, 94, 45, 38, 126, 92]⟩ else ⟨#[46, 91, 40, 124, 41, 42, 43, 63, 123, 94, 36, 92]⟩
theorem marks_ascii : ∀ (cls : Bool) (r : Fin 128), Lib.contains (marksS cls).data.toList [UInt8.ofNat r.val] = (marksL cls).contains (r.val : Int) := by decide +kernel
theorem marks_low : ∀ (cls : Bool), ∀ c ∈ (marksS cls).data.toList, c.toNat < 128 := by decide
theorem marks_rng : ∀ (cls : Bool), ∀ c ∈ marksL cls, c < 128 := by decide
theorem marks_has {r : Int} (hr : runeB r = true) (cls : Bool) : Lib.contains (marksS cls).data.toList (strOfNums (encL r)).data.toList = (marksL cls).contains r := by
  have hrr := (runeB_iff r).1 hr
  by_cases h : r < 128
  · rw [encL_ascii h]
    have := marks_ascii cls ⟨r.toNat, by omega⟩
    simp only at this
    rw [show ((r.toNat : Nat) : Int) = r by omega] at this
    rw [← this]
    rfl
  · obtain ⟨c, t, he, hc⟩ := encL_data hr (by omega)
    rw [contains_not he (fun hm => by have := marks_low cls c hm; omega)]
    symm
    rw [Bool.eq_false_iff]
    intro hm
    rw [List.contains_iff_mem] at hm
    have := marks_rng cls r hm
    omega
/-- Hexadecimal digits in great letters. -/
theorem upper_hex : ∀ q : Fin 128, (⟨(Lib.toUpperA (hexLo q.val)).toArray⟩ : ByteArray) = strOfNums (hexT (q.val : Int)) := by decide +kernel
theorem hexLo_ascii : ∀ q : Fin 128, ∀ b ∈ hexLo q.val, b.toNat < 128 := by decide +kernel
set_option maxHeartbeats 4000000 in
set_option maxRecDepth 100000 in
theorem print_any (r : Int) (cls : Bool) (w : World) (m : Int) (hmx : w.cell? ⟨2, 0, none⟩ = some (.int .i64 m)) (hc : w.cell? ⟨6, 15, none⟩ = some (.int .u8 4)) :
    Calls Tryz.prog 23 #[.int .i64 r, .bool cls] w fun e w' => e = .returned (.string (strOfNums (printL r cls))) ∧ Below w.heap.size w w' := by
  have HE := Aside0.mk (encode_any r w)
  have HMX := Aside0.mk hmx
  have HC := Aside0.mk hc
  have hmg : 2 < w.heap.size := World.block_lt_of_cell? w _ hmx
  have hcg : 6 < w.heap.size := World.block_lt_of_cell? w _ hc
  obtain ⟨P, hP⟩ : ∃ P, printL r cls = P := ⟨_, rfl⟩
  rw [hP]
  cases hr : runeB r with
  | false =>
    rw [hr] at HE
    obtain rfl : P = [] := by rw [← hP, printL_none hr]
    clear hmx hc hP
    go_enter Tryz.func23, Tryz.ntmps23
    go_wp2_with fail
    refine HE.out.mono ?_
    rintro e w1 ⟨v, rfl, ho, hb⟩
    obtain ⟨A, c, rfl⟩ := Kd.R_slice ho
    have HB := Aside0.mk hb
    clear hb ho
    cases cls with
    | false =>
      go_wp2_with fail
      go_ret
      exact ⟨rfl, HB.out⟩
    | true =>
      go_wp2_with fail
      go_ret
      exact ⟨rfl, HB.out⟩
  | true =>
    rw [hr] at HE
    have hrr := (runeB_iff r).1 hr
    unfold printL at hP
    rw [if_neg (by rw [hr]; decide)] at hP
    by_cases h1 : r < 32 ∨ r = 127
    · rw [if_pos h1] at hP
      obtain ⟨q, rfl⟩ : ∃ q : Nat, r = (q : Int) := ⟨r.toNat, by omega⟩
      have hq : q < 128 := by omega
      have HF := Aside0.mk (fun W (h1 : W.cell? ⟨6, 15, none⟩ = some (.int .u8 4)) => fmt16 q hq W h1)
      have HU := Aside0.mk (fun W => Tryz.strings_ToUpper_ascii (bsL (hexLo q)) W (by show (hexLo q).toArray.size ≤ _; rw [List.size_toArray]; unfold hexLo; split <;> simp) (fun j b hb => hexLo_ascii ⟨q, hq⟩ b (List.mem_of_getElem? hb)))
      have hup := upper_hex ⟨q, hq⟩
      have hup2 : (⟨(Lib.toUpperA (bsL (hexLo q)).data.toList).toArray⟩ : ByteArray) = strOfNums (hexT (q : Int)) := hup
      have hxl := (hexT_ok (r := (q : Int)) (by omega) (by omega)).2.2.2
      rw [hup2] at HU
      have HP : Aside0 ((⟨#[92, 120, 123]⟩ : ByteArray) ++ strOfNums (hexT (q : Int)) ++ ⟨#[125]⟩ = strOfNums P) := ⟨by rw [← hP, str_app, str_app]; rfl⟩
      have hsz : (strOfNums (hexT (q : Int))).size ≤ 2 := by rw [strN_size]; exact hxl
      have hsz1 : ((⟨#[92, 120, 123]⟩ : ByteArray) ++ strOfNums (hexT (q : Int))).size ≤ 5 := by rw [ByteArray.size_append]; have : (⟨#[92, 120, 123]⟩ : ByteArray).size = 3 := rfl; omega
      obtain ⟨X, hX⟩ : ∃ X, strOfNums (hexT (q : Int)) = X := ⟨_, rfl⟩
      obtain ⟨Y, hY⟩ : ∃ Y, (⟨#[92, 120, 123]⟩ : ByteArray) ++ X = Y := ⟨_, rfl⟩
      rw [hX] at HU HP hsz hsz1
      rw [hY] at HP hsz1
      clear hmx hc hP hup hup2 hX hxl hrr hr
      go_enter Tryz.func23, Tryz.ntmps23
      go_wp2_with fail
      refine HE.out.mono ?_
      rintro e w1 ⟨v, rfl, ho, hb⟩
      obtain ⟨A, c, rfl⟩ := Kd.R_slice ho
      have HB := Aside0.mk hb
      have HF1 := Aside0.mk (HF.out w1 ((hb.cell hcg).trans HC.out))
      clear hb ho
      by_cases h32 : q < 32
      · have h32b : decide ((q : Int) < 32) = true := decide_eq_true (by omega)
        cases cls with
        | false =>
          go_wp2_with fail
          refine HF1.out.mono ?_
          rintro e w2 ⟨rfl, hb2⟩
          have HB2 := Aside0.mk (below_to HB.out hb2)
          clear hb2
          go_wp2_with fail
          refine (HU.out w2).mono ?_
          rintro e w3 ⟨rfl, hb3⟩
          have HB3 := Aside0.mk (below_to HB2.out hb3)
          clear hb3
          go_wp2_with fail
          go_ret
          first | exact ⟨rfl, HB3.out⟩ | exact ⟨by rw [HP.out]; rfl, HB3.out⟩
        | true =>
          go_wp2_with fail
          refine HF1.out.mono ?_
          rintro e w2 ⟨rfl, hb2⟩
          have HB2 := Aside0.mk (below_to HB.out hb2)
          clear hb2
          go_wp2_with fail
          refine (HU.out w2).mono ?_
          rintro e w3 ⟨rfl, hb3⟩
          have HB3 := Aside0.mk (below_to HB2.out hb3)
          clear hb3
          go_wp2_with fail
          go_ret
          first | exact ⟨rfl, HB3.out⟩ | exact ⟨by rw [HP.out]; rfl, HB3.out⟩
      · obtain rfl : q = 127 := by omega
        cases cls with
        | false =>
          go_wp2_with fail
          refine HF1.out.mono ?_
          rintro e w2 ⟨rfl, hb2⟩
          have HB2 := Aside0.mk (below_to HB.out hb2)
          clear hb2
          go_wp2_with fail
          refine (HU.out w2).mono ?_
          rintro e w3 ⟨rfl, hb3⟩
          have HB3 := Aside0.mk (below_to HB2.out hb3)
          clear hb3
          go_wp2_with fail
          go_ret
          first | exact ⟨rfl, HB3.out⟩ | exact ⟨by rw [HP.out]; rfl, HB3.out⟩
        | true =>
          go_wp2_with fail
          refine HF1.out.mono ?_
          rintro e w2 ⟨rfl, hb2⟩
          have HB2 := Aside0.mk (below_to HB.out hb2)
          clear hb2
          go_wp2_with fail
          refine (HU.out w2).mono ?_
          rintro e w3 ⟨rfl, hb3⟩
          have HB3 := Aside0.mk (below_to HB2.out hb3)
          clear hb3
          go_wp2_with fail
          go_ret
          first | exact ⟨rfl, HB3.out⟩ | exact ⟨by rw [HP.out]; rfl, HB3.out⟩
    · rw [if_neg h1] at hP
      have h32b : decide (r < 32) = false := decide_eq_false (by omega)
      have h127 : (r == 127) = false := by rw [beq_eq_false_iff_ne]; omega
      have HM := Aside0.mk (fun (b : Bool) W hw => Tryz.strings_Contains (marksS b) (strOfNums (encL r)) m W (by cases b <;> decide) hw)
      have hmk := marks_has hr cls
      have HL : Aside0 ((encL r).length ≤ 4) := ⟨(encL_pos r).2⟩
      obtain ⟨S, hS⟩ : ∃ S, strOfNums (encL r) = S := ⟨_, rfl⟩
      have hsl : S.size ≤ 4 := by rw [← hS, strN_size]; exact HL.out
      cases hm : (marksL cls).contains r with
      | true =>
        rw [hm] at hmk hP
        have HP : Aside0 ((⟨#[92]⟩ : ByteArray) ++ S = strOfNums P) := ⟨by rw [← hP, ← hS]; exact (str_app [92] (encL r)).symm⟩
        rw [hS] at HM hmk
        clear hmx hc hP hrr hr hm
        cases cls with
        | false =>
          go_enter Tryz.func23, Tryz.ntmps23
          go_wp2_with fail
          refine HE.out.mono ?_
          rintro e w1 ⟨v, rfl, ho, hb⟩
          obtain ⟨A, c, rfl⟩ := Kd.R_slice ho
          obtain ⟨A', c', e, hcap, hC0⟩ := Kd.R_reads ho
          obtain ⟨rfl, -, rfl⟩ : A = A' ∧ True ∧ c = c' := by injection e with h1 h2 h3; exact ⟨h1, trivial, h3⟩
          have hC : Kd.C kB w1 A (encL r).length (encL r) := hC0
          have hcv := fun n => Kd.C_string (P := Tryz.prog) (c := c) Tryz.underlying34 Tryz.underlying5 Tryz.underlying9 (Kd.C_below hC (pw_below_drewN (Below.refl _ _) n))
          have hcv0 := Kd.C_string (P := Tryz.prog) (c := c) Tryz.underlying34 Tryz.underlying5 Tryz.underlying9 hC
          have HB := Aside0.mk hb
          have HM1 := Aside0.mk (fun b => HM.out b w1 ((hb.cell hmg).trans HMX.out))
          rw [hS] at hcv hcv0
          clear hb ho hcap hC0 hC e
          go_wp2_with fail
          refine (HM1.out false).mono ?_
          intro e w2 hr2
          rw [hmk] at hr2
          obtain ⟨rfl, rfl⟩ := hr2
          go_wp2_with fail
          go_ret
          first | exact ⟨rfl, HB.out⟩ | exact ⟨by rw [HP.out]; rfl, HB.out⟩
        | true =>
          go_enter Tryz.func23, Tryz.ntmps23
          go_wp2_with fail
          refine HE.out.mono ?_
          rintro e w1 ⟨v, rfl, ho, hb⟩
          obtain ⟨A, c, rfl⟩ := Kd.R_slice ho
          obtain ⟨A', c', e, hcap, hC0⟩ := Kd.R_reads ho
          obtain ⟨rfl, -, rfl⟩ : A = A' ∧ True ∧ c = c' := by injection e with h1 h2 h3; exact ⟨h1, trivial, h3⟩
          have hC : Kd.C kB w1 A (encL r).length (encL r) := hC0
          have hcv := fun n => Kd.C_string (P := Tryz.prog) (c := c) Tryz.underlying34 Tryz.underlying5 Tryz.underlying9 (Kd.C_below hC (pw_below_drewN (Below.refl _ _) n))
          have hcv0 := Kd.C_string (P := Tryz.prog) (c := c) Tryz.underlying34 Tryz.underlying5 Tryz.underlying9 hC
          have HB := Aside0.mk hb
          have HM1 := Aside0.mk (fun b => HM.out b w1 ((hb.cell hmg).trans HMX.out))
          rw [hS] at hcv hcv0
          clear hb ho hcap hC0 hC e
          go_wp2_with fail
          refine (HM1.out true).mono ?_
          intro e w2 hr2
          rw [hmk] at hr2
          obtain ⟨rfl, rfl⟩ := hr2
          go_wp2_with fail
          go_ret
          first | exact ⟨rfl, HB.out⟩ | exact ⟨by rw [HP.out]; rfl, HB.out⟩
      | false =>
        rw [hm] at hmk hP
        have HP : Aside0 (S = strOfNums P) := ⟨by rw [← hP, ← hS]; rfl⟩
        rw [hS] at HM hmk
        clear hmx hc hP hrr hr hm
        cases cls with
        | false =>
          go_enter Tryz.func23, Tryz.ntmps23
          go_wp2_with fail
          refine HE.out.mono ?_
          rintro e w1 ⟨v, rfl, ho, hb⟩
          obtain ⟨A, c, rfl⟩ := Kd.R_slice ho
          obtain ⟨A', c', e, hcap, hC0⟩ := Kd.R_reads ho
          obtain ⟨rfl, -, rfl⟩ : A = A' ∧ True ∧ c = c' := by injection e with h1 h2 h3; exact ⟨h1, trivial, h3⟩
          have hC : Kd.C kB w1 A (encL r).length (encL r) := hC0
          have hcv := fun n => Kd.C_string (P := Tryz.prog) (c := c) Tryz.underlying34 Tryz.underlying5 Tryz.underlying9 (Kd.C_below hC (pw_below_drewN (Below.refl _ _) n))
          have hcv0 := Kd.C_string (P := Tryz.prog) (c := c) Tryz.underlying34 Tryz.underlying5 Tryz.underlying9 hC
          have HB := Aside0.mk hb
          have HM1 := Aside0.mk (fun b => HM.out b w1 ((hb.cell hmg).trans HMX.out))
          rw [hS] at hcv hcv0
          clear hb ho hcap hC0 hC e
          go_wp2_with fail
          refine (HM1.out false).mono ?_
          intro e w2 hr2
          rw [hmk] at hr2
          obtain ⟨rfl, rfl⟩ := hr2
          go_wp2_with fail
          go_ret
          first | exact ⟨rfl, HB.out⟩ | exact ⟨by rw [HP.out]; rfl, HB.out⟩
        | true =>
          go_enter Tryz.func23, Tryz.ntmps23
          go_wp2_with fail
          refine HE.out.mono ?_
          rintro e w1 ⟨v, rfl, ho, hb⟩
          obtain ⟨A, c, rfl⟩ := Kd.R_slice ho
          obtain ⟨A', c', e, hcap, hC0⟩ := Kd.R_reads ho
          obtain ⟨rfl, -, rfl⟩ : A = A' ∧ True ∧ c = c' := by injection e with h1 h2 h3; exact ⟨h1, trivial, h3⟩
          have hC : Kd.C kB w1 A (encL r).length (encL r) := hC0
          have hcv := fun n => Kd.C_string (P := Tryz.prog) (c := c) Tryz.underlying34 Tryz.underlying5 Tryz.underlying9 (Kd.C_below hC (pw_below_drewN (Below.refl _ _) n))
          have hcv0 := Kd.C_string (P := Tryz.prog) (c := c) Tryz.underlying34 Tryz.underlying5 Tryz.underlying9 hC
          have HB := Aside0.mk hb
          have HM1 := Aside0.mk (fun b => HM.out b w1 ((hb.cell hmg).trans HMX.out))
          rw [hS] at hcv hcv0
          clear hb ho hcap hC0 hC e
          go_wp2_with fail
          refine (HM1.out true).mono ?_
          intro e w2 hr2
          rw [hmk] at hr2
          obtain ⟨rfl, rfl⟩ := hr2
          go_wp2_with fail
          go_ret
          first | exact ⟨rfl, HB.out⟩ | exact ⟨by rw [HP.out]; rfl, HB.out⟩

end Go.Proofs.YtkipjalfgdfaiaaGreatDoor
namespace Go.Proofs.YtkipjalfgdfaiaaGreatDoor
set_option linter.unusedVariables false
set_option linter.unusedSimpArgs false
open Go.RowKit Go.Proofs.YtkipjalfgdfaiaaGreatDoorW.PrintWords Go.Proofs.YtkipjalfgdfaiaaGreatDoorW.PrintLast Go.Proofs.YtkipjalfgdfaiaaGreatDoorW.PrintMore Go.Proofs.YtkipjalfgdfaiaaGreatDoor.PTk

/-- What package tree gives up with. -/
abbrev Pan : Ending := .panicked [{ v := .iface 65 (.agg #[]), recovered := false }]
/-- It goes on, or it gives up; nothing that was there has changed. -/
def OkPan (b : Bool) (w : World) (e : Ending) (w' : World) : Prop := e = (if b = true then .returned (.tuple #[]) else Pan) ∧ Below w.heap.size w w'
theorem ba_inj {a b : ByteArray} (h : a.toList = b.toList) : a = b := by
  rw [Lib.toList_data, Lib.toList_data] at h
  exact ByteArray.ext (Array.ext' h)
theorem below_box {w w1 : World} {o : Obj} (h : Below (w.alloc o).heap.size (w.alloc o) w1) : Below w.heap.size w w1 := below_to (below_alloc (Below.refl _ _) o) h
theorem must_any (b : Bool) (w : World) : Calls Tryz.prog 50 #[.bool b] w (OkPan b w) := by
  cases b with
  | true =>
    go_enter Tryz.func50, Tryz.ntmps50
    go_wp2_with fail
    go_end0
    exact ⟨rfl, Below.refl _ _⟩
  | false =>
    go_enter Tryz.func50, Tryz.ntmps50
    go_wp2_with fail
    exact ⟨rfl, rfl, Below.refl _ _⟩
set_option maxHeartbeats 4000000 in
set_option maxRecDepth 100000 in
theorem only_raw (k m a b k' m' a' b' : Int) (ng ng' : Bool) (nm nm' : ByteArray) (A6 A7 B6 B7 : Option Addr) (l6 c6 l7 c7 j6 d6 j7 d7 : Nat) (w : World) :
    Calls Tryz.prog 49 #[.agg #[.int .i64 k, .int .i64 m, .int .i64 a, .int .i64 b, .bool ng, .string nm, .slice A6 l6 c6, .slice A7 l7 c7], .agg #[.int .i64 k', .int .i64 m', .int .i64 a', .int .i64 b', .bool ng', .string nm', .slice B6 j6 d6, .slice B7 j7 d7]] w
      (OkPan (m == m' && a == a' && b == b' && ng == ng' && decide (nm = nm') && l6 == 0 && l7 == j7) w) := by
  have HM := Aside0.mk must_any
  by_cases h0 : m = m'
  rotate_left
  · have g0 : (m == m') = false := by simp [h0]
    have HB : ((m == m') && (a == a') && (b == b') && (ng == ng') && (decide (nm = nm')) && (l6 == 0) && (l7 == j7)) = false := by rw [g0]; simp only [Bool.and_false, Bool.false_and, Bool.true_and]
    rw [HB]
    go_enter Tryz.func49, Tryz.ntmps49
    go_wp2_with fail
    refine (HM.out false _).mono ?_
    rintro e w1 ⟨rfl, hb1⟩
    have HB1 := Aside0.mk hb1
    clear hb1
    go_wp2_with fail
    exact ⟨rfl, rfl, below_box (below_box HB1.out)⟩
  have g0 : (m == m') = true := by simp [h0]
  by_cases h1 : a = a'
  rotate_left
  · have g1 : (a == a') = false := by simp [h1]
    have HB : ((m == m') && (a == a') && (b == b') && (ng == ng') && (decide (nm = nm')) && (l6 == 0) && (l7 == j7)) = false := by rw [g0, g1]; simp only [Bool.and_false, Bool.false_and, Bool.true_and]
    rw [HB]
    go_enter Tryz.func49, Tryz.ntmps49
    go_wp2_with fail
    refine (HM.out false _).mono ?_
    rintro e w1 ⟨rfl, hb1⟩
    have HB1 := Aside0.mk hb1
    clear hb1
    go_wp2_with fail
    exact ⟨rfl, rfl, below_box (below_box HB1.out)⟩
  have g1 : (a == a') = true := by simp [h1]
  by_cases h2 : b = b'
  rotate_left
  · have g2 : (b == b') = false := by simp [h2]
    have HB : ((m == m') && (a == a') && (b == b') && (ng == ng') && (decide (nm = nm')) && (l6 == 0) && (l7 == j7)) = false := by rw [g0, g1, g2]; simp only [Bool.and_false, Bool.false_and, Bool.true_and]
    rw [HB]
    go_enter Tryz.func49, Tryz.ntmps49
    go_wp2_with fail
    refine (HM.out false _).mono ?_
    rintro e w1 ⟨rfl, hb1⟩
    have HB1 := Aside0.mk hb1
    clear hb1
    go_wp2_with fail
    exact ⟨rfl, rfl, below_box (below_box HB1.out)⟩
  have g2 : (b == b') = true := by simp [h2]
  by_cases h3 : ng = ng'
  rotate_left
  · have g3 : (ng == ng') = false := by simp [h3]
    have HB : ((m == m') && (a == a') && (b == b') && (ng == ng') && (decide (nm = nm')) && (l6 == 0) && (l7 == j7)) = false := by rw [g0, g1, g2, g3]; simp only [Bool.and_false, Bool.false_and, Bool.true_and]
    rw [HB]
    go_enter Tryz.func49, Tryz.ntmps49
    go_wp2_with fail
    refine (HM.out false _).mono ?_
    rintro e w1 ⟨rfl, hb1⟩
    have HB1 := Aside0.mk hb1
    clear hb1
    go_wp2_with fail
    exact ⟨rfl, rfl, below_box (below_box HB1.out)⟩
  have g3 : (ng == ng') = true := by simp [h3]
  by_cases h4 : nm = nm'
  rotate_left
  · have g4 : (decide (nm = nm')) = false := decide_eq_false h4
    have i4 : (nm.toList == nm'.toList) = false := by rw [beq_eq_false_iff_ne]; exact fun e => h4 (ba_inj e)
    have HB : ((m == m') && (a == a') && (b == b') && (ng == ng') && (decide (nm = nm')) && (l6 == 0) && (l7 == j7)) = false := by rw [g0, g1, g2, g3, g4]; simp only [Bool.and_false, Bool.false_and, Bool.true_and]
    rw [HB]
    go_enter Tryz.func49, Tryz.ntmps49
    go_wp2_with fail
    refine (HM.out false _).mono ?_
    rintro e w1 ⟨rfl, hb1⟩
    have HB1 := Aside0.mk hb1
    clear hb1
    go_wp2_with fail
    exact ⟨rfl, rfl, below_box (below_box HB1.out)⟩
  have g4 : (decide (nm = nm')) = true := decide_eq_true h4
  have i4 : (nm.toList == nm'.toList) = true := by rw [h4]; exact beq_self_eq_true _
  by_cases h5 : l6 = 0
  rotate_left
  · have g5 : (l6 == 0) = false := by simp [h5]
    have i5 : ((l6 : Int) == 0) = false := by rw [beq_eq_false_iff_ne]; omega
    have HB : ((m == m') && (a == a') && (b == b') && (ng == ng') && (decide (nm = nm')) && (l6 == 0) && (l7 == j7)) = false := by rw [g0, g1, g2, g3, g4, g5]; simp only [Bool.and_false, Bool.false_and, Bool.true_and]
    rw [HB]
    go_enter Tryz.func49, Tryz.ntmps49
    go_wp2_with fail
    refine (HM.out false _).mono ?_
    rintro e w1 ⟨rfl, hb1⟩
    have HB1 := Aside0.mk hb1
    clear hb1
    go_wp2_with fail
    exact ⟨rfl, rfl, below_box (below_box HB1.out)⟩
  have g5 : (l6 == 0) = true := by simp [h5]
  have i5 : ((l6 : Int) == 0) = true := by simp [h5]
  by_cases h6 : l7 = j7
  rotate_left
  · have g6 : (l7 == j7) = false := by simp [h6]
    have i6 : ((l7 : Int) == (j7 : Int)) = false := by rw [beq_eq_false_iff_ne]; omega
    have HB : ((m == m') && (a == a') && (b == b') && (ng == ng') && (decide (nm = nm')) && (l6 == 0) && (l7 == j7)) = false := by rw [g0, g1, g2, g3, g4, g5, g6]; rfl
    rw [HB]
    go_enter Tryz.func49, Tryz.ntmps49
    go_wp2_with fail
    refine (HM.out false _).mono ?_
    rintro e w1 ⟨rfl, hb1⟩
    have HB1 := Aside0.mk hb1
    clear hb1
    go_wp2_with fail
    exact ⟨rfl, rfl, below_box (below_box HB1.out)⟩
  have g6 : (l7 == j7) = true := by simp [h6]
  have i6 : ((l7 : Int) == (j7 : Int)) = true := by simp [h6]
  have HB : ((m == m') && (a == a') && (b == b') && (ng == ng') && (decide (nm = nm')) && (l6 == 0) && (l7 == j7)) = true := by rw [g0, g1, g2, g3, g4, g5, g6]; rfl
  rw [HB]
  go_enter Tryz.func49, Tryz.ntmps49
  go_wp2_with fail
  refine (HM.out true _).mono ?_
  rintro e w1 ⟨rfl, hb1⟩
  have HB1 := Aside0.mk hb1
  clear hb1
  go_wp2_with fail
  go_end0
  exact ⟨rfl, below_box (below_box HB1.out)⟩
/-- only, as the plain function says it. -/
theorem only_any {n : Nd} {w : World} {v : Value} (h : RdN w n v) (k' m a b : Int) (ng : Bool) (nm : ByteArray) (B6 B7 : Option Addr) (j6 d6 j7 d7 : Nat) (W : World) :
    Calls Tryz.prog 49 #[v, .agg #[.int .i64 k', .int .i64 m, .int .i64 a, .int .i64 b, .bool ng, .string nm, .slice B6 j6 d6, .slice B7 j7 d7]] W (OkPan (onlyB n m a b ng nm j7) W) := by
  obtain ⟨A6, c6, A7, c7, rfl, _⟩ := h
  exact only_raw n.f0 n.f1 n.f2 n.f3 k' m a b n.f4 ng n.f5 nm A6 A7 B6 B7 n.f6.length c6 n.f7.length c7 j6 d6 j7 d7 W

end Go.Proofs.YtkipjalfgdfaiaaGreatDoor
namespace Go.Proofs.YtkipjalfgdfaiaaGreatDoor
set_option linter.unusedVariables false
set_option linter.unusedSimpArgs false
open Go.RowKit Go.Proofs.YtkipjalfgdfaiaaGreatDoorW.PrintWords Go.Proofs.YtkipjalfgdfaiaaGreatDoorW.PrintLast Go.Proofs.YtkipjalfgdfaiaaGreatDoorW.PrintMore Go.Proofs.YtkipjalfgdfaiaaGreatDoor.PTk

theorem str_empty (l : List Int) : (strOfNums l).toList.isEmpty = l.isEmpty := by
  rw [ByteArray.toList_eq]
  rw [str_data]
  cases l <;> rfl
end Go.Proofs.YtkipjalfgdfaiaaGreatDoor
namespace Go.Proofs.YtkipjalfgdfaiaaGreatDoor
set_option linter.unusedVariables false
set_option linter.unusedSimpArgs false
open Go.RowKit Go.Proofs.YtkipjalfgdfaiaaGreatDoorW.PrintWords Go.Proofs.YtkipjalfgdfaiaaGreatDoorW.PrintLast Go.Proofs.YtkipjalfgdfaiaaGreatDoorW.PrintMore Go.Proofs.YtkipjalfgdfaiaaGreatDoor.PTk

/-- What the library's variables hold that trees reach. -/
structure TVars (w : World) (m : Int) : Prop where
  mx : w.cell? ⟨2, 0, none⟩ = some (.int .i64 m)
  tab : w.cell? ⟨6, 15, none⟩ = some (.int .u8 4)
theorem TVars.stay {w w' : World} {m : Int} (h : TVars w m) (hb : Below w.heap.size w w') : TVars w' m := ⟨pw_cell_below hb h.mx, pw_cell_below hb h.tab⟩
theorem print_empty (r : Int) (cls : Bool) : (strOfNums (printL r cls)).toList.isEmpty = !(runeB r) := by
  rw [str_empty]
  cases h : runeB r with
  | true => have := (printL_pos (cls := cls) h).1; cases hp : printL r cls with | nil => rw [hp] at this; simp at this | cons a b => rfl
  | false => rw [printL_none h]; rfl
set_option maxHeartbeats 1000000 in
set_option maxRecDepth 100000 in
theorem point_any (r : Int) (w : World) (m : Int) (hv : TVars w m) : Calls Tryz.prog 68 #[.int .i64 r] w (OkPan (runeB r) w) := by
  have HP := Aside0.mk (print_any r false w m hv.mx hv.tab)
  have HM := Aside0.mk must_any
  have hse := print_empty r false
  obtain ⟨S, hS⟩ : ∃ S, strOfNums (printL r false) = S := ⟨_, rfl⟩
  rw [hS] at HP hse
  clear hv hS
  cases hr : runeB r with
  | true =>
    rw [hr] at hse
    go_enter Tryz.func68, Tryz.ntmps68
    go_wp2_with fail
    refine HP.out.mono ?_
    rintro e w1 ⟨rfl, hb1⟩
    have HB1 := Aside0.mk hb1
    clear hb1
    go_wp2_with fail
    refine (HM.out true _).mono ?_
    rintro e w2 ⟨rfl, hb2⟩
    have HB2 := Aside0.mk (below_to HB1.out hb2)
    clear hb2
    go_wp2_with fail
    go_end0
    exact ⟨rfl, HB2.out⟩
  | false =>
    rw [hr] at hse
    go_enter Tryz.func68, Tryz.ntmps68
    go_wp2_with fail
    refine HP.out.mono ?_
    rintro e w1 ⟨rfl, hb1⟩
    have HB1 := Aside0.mk hb1
    clear hb1
    go_wp2_with fail
    refine (HM.out false _).mono ?_
    rintro e w2 ⟨rfl, hb2⟩
    have HB2 := Aside0.mk (below_to HB1.out hb2)
    clear hb2
    go_wp2_with fail
    exact ⟨rfl, rfl, HB2.out⟩

end Go.Proofs.YtkipjalfgdfaiaaGreatDoor
namespace Go.Proofs.YtkipjalfgdfaiaaGreatDoor
set_option linter.unusedVariables false
set_option linter.unusedSimpArgs false
open Go.RowKit Go.Proofs.YtkipjalfgdfaiaaGreatDoorW.PrintWords Go.Proofs.YtkipjalfgdfaiaaGreatDoorW.PrintLast Go.Proofs.YtkipjalfgdfaiaaGreatDoorW.PrintMore Go.Proofs.YtkipjalfgdfaiaaGreatDoor.PLinesRead

def rowsL : List ByteArray → List (List ByteArray) → List (List ByteArray)
  | [], out => out
  | x :: r, out => if fieldsB x = [] then rowsL r out else rowsL r (out ++ [fieldsB x])
theorem rowsL_skip {x : ByteArray} {r : List ByteArray} {out : List (List ByteArray)} (h : fieldsB x = []) : rowsL (x :: r) out = rowsL r out := by rw [rowsL, if_pos h]
theorem rowsL_take {x : ByteArray} {r : List ByteArray} {out : List (List ByteArray)} (h : fieldsB x ≠ []) : rowsL (x :: r) out = rowsL r (out ++ [fieldsB x]) := by rw [rowsL, if_neg h]
def rowsB (s : ByteArray) : List (List ByteArray) := rowsL (cutB 10 s) []
end Go.Proofs.YtkipjalfgdfaiaaGreatDoor
namespace Go.Proofs.YtkipjalfgdfaiaaGreatDoor
set_option linter.unusedVariables false
set_option linter.unusedSimpArgs false
open Go.RowKit Go.Proofs.YtkipjalfgdfaiaaGreatDoorW.PrintWords Go.Proofs.YtkipjalfgdfaiaaGreatDoorW.PrintLast Go.Proofs.YtkipjalfgdfaiaaGreatDoorW.PrintMore

abbrev kSl : Kd (List ByteArray) := Kd.slice 9 Kd.string

set_option maxHeartbeats 4000000 in
set_option maxRecDepth 100000 in
theorem rows_any (s : ByteArray) (m : Int) (w : World) (hs : s.size < 4294967281) (hm : MaxIs w m) :
    Calls Tryz.prog 171 #[.string s] w fun e w' => ∃ v, e = .returned v ∧ Own kSl 114 w' w.heap.size v (rowsB s) ∧ Below w.heap.size w w' := by
  have hspl := splitS_any 10 s m w hs hm
  have HPS : Aside0 (∀ x ∈ cutB 10 s, x.size < 4294967281) := ⟨fun x hx => Nat.lt_of_le_of_lt (cutB_part hx) hs⟩
  have hPL := cutB_length 10 s
  have HE : Aside0 (rowsL (cutB 10 s) [] = rowsB s) := ⟨rfl⟩
  obtain ⟨ps, hps⟩ : ∃ ps, cutB 10 s = ps := ⟨_, rfl⟩
  rw [hps] at hspl HPS hPL HE
  obtain ⟨E, hE⟩ : ∃ E, rowsB s = E := ⟨_, rfl⟩
  rw [hE] at HE ⊢
  have hpl2 : ps.length < 4294967282 := by omega
  have HM := Aside0.mk hm
  clear hps hE hm hPL
  have hq : ∀ (W : World) (A : Option Addr) (n c : Nat), (binOp .neq 114 (.slice A n c) (.slice none 0 0)).run Tryz.prog W = .ok (.bool (!A.isNone)) W := fun W A n c => run_neq_slice_nil_any W _ _ A n c 0 0 Tryz.underlying114
  go_enter Tryz.func171, Tryz.ntmps171
  go_wp2_with fail
  refine hspl.mono ?_
  rintro e w1 ⟨rfl, ho1, hb1⟩
  have HO1 := Aside0.mk ho1
  have HB1 := Aside0.mk hb1
  clear hspl ho1 hb1
  go_wp2
  go_loopg [3, 10] ps.length (fun gk z i w' => ∃ (k : Nat) (out : List (List ByteArray)), i = .int .i64 (k : Int) ∧ Aside0 (k ≤ ps.length ∧ gk = ps.length - k ∧ out.length ≤ k) ∧ Aside0 (rowsL (ps.drop k) out = E) ∧ Aside0 (Own kSl 114 w' w.heap.size z out) ∧ Aside0 (Own Kd.string 9 w' w.heap.size (.slice (some ⟨w.heap.size, 0, none⟩) ps.length ps.length) ps) ∧ Aside0 (Below w.heap.size w w'))
  case atStart => exact ⟨0, [], by first | rfl | simp, ⟨Nat.zero_le _, rfl, Nat.le_refl _⟩, HE, ⟨Kd.R_nil _ _ _ _ _⟩, HO1, HB1⟩
  case round =>
    obtain ⟨k, out, rfl, HA, HL, HO, HC, HB⟩ := hrel
    by_cases hk : k < ps.length
    · obtain ⟨ad, hae, hx0⟩ := at_S (Kd.R_reads' HC.out).2.2 k hk
      cases hae
      rw [add_plain] at hx0
      have hxs := HPS.out _ (List.getElem_mem hk)
      have hdr : ps.drop k = ps[k] :: ps.drop (k + 1) := List.drop_eq_getElem_cons hk
      obtain ⟨x, hx⟩ : ∃ x, ps[k] = x := ⟨_, rfl⟩
      rw [hx] at hx0 hxs hdr
      rw [hdr] at HL
      clear hx hdr
      have hfl := fieldsB_length x
      have hfa := fields_any x m wr hxs (HM.out.below HB.out)
      have HSK := Aside0.mk (fun h => rowsL_skip (x := x) (r := ps.drop (k + 1)) (out := out) h)
      have HGD := Aside0.mk (fun h => rowsL_take (x := x) (r := ps.drop (k + 1)) (out := out) h)
      obtain ⟨F, hF⟩ : ∃ F, fieldsB x = F := ⟨_, rfl⟩
      rw [hF] at hfl hfa HSK HGD
      clear hF
      obtain ⟨inner, hin⟩ := Kd.R_own HO.out
      have HIN := Aside0.mk hin
      clear hin
      go_wp2_with fail
      refine hfa.mono ?_
      rintro e w2 ⟨v, rfl, ho2, hn2, hs2, hb2⟩
      have HB2 : Aside0 (Below w.heap.size w w2) := ⟨below_to HB.out hb2⟩
      have HO2 : Aside0 (Own kSl 114 w2 w.heap.size u3 out) := ⟨Kd.R_below HO.out hb2⟩
      have HC2 : Aside0 (Own Kd.string 9 w2 w.heap.size (.slice (some ⟨w.heap.size, 0, none⟩) ps.length ps.length) ps) := ⟨Kd.R_below HC.out hb2⟩
      have HOV : Aside0 (Kd.R Kd.string 9 w2 w.heap.size (fun k => True ∧ some k ≠ u3.ownBlock) v F) := ⟨Kd.R_lower (Kd.R_new ho2 HIN.out) HB.out.size⟩
      clear hfa ho2 hb2 HB HO HC HIN
      by_cases hF0 : F = []
      · obtain rfl := hn2 hF0
        have HS := Aside0.mk (HSK.out hF0)
        clear hn2 hs2
        go_wp2
        go_roundg (ps.length - k - 1)
        case measure => have := HA.out; omega
        case rel => exact ⟨k + 1, out, by go_num, ⟨by have := HA.out; omega, by have := HA.out; omega, by have := HA.out; omega⟩, ⟨by rw [← HS.out]; exact HL.out⟩, HO2, HC2, HB2⟩
      · obtain ⟨g, rfl⟩ := hs2 hF0
        have HE2 : Aside0 (rowsL (ps.drop (k + 1)) (out ++ [F]) = E) := ⟨by rw [← HL.out, HGD.out hF0]⟩
        clear hn2 hs2 hF0 HSK HGD
        go_wp2_with (at_builtin; refine Kd.R_append kSl (w0 := w) w.heap.size rfl (.tmp 18) (.tmp 20) 191 114 (.slice none 0 0) 24 rfl Tryz.underlying191 Go.Proofs.YtkipjalfgdfaiaaGreatDoor.PLinesRead.info114 rfl (by decide) (by omega) u3 out F [.slice (some ⟨g, 0, none⟩) F.length F.length] (fun _ => True) (fun k => True ∧ some k ≠ u3.ownBlock) rfl ?aX ⟨_, rfl, HOV.out⟩ (fun _ h => h) (fun _ _ => trivial) HO2.out HB2.out ?aS ?aL ?_)
        case aX => rfl
        case aS => exact HB2.out.size
        case aL => have := HA.out; omega
        intro v5 w5 ho5 hb5 hg5 _
        have HO5 := Aside0.mk ho5
        have HB5 := Aside0.mk hb5
        have HC5 : Aside0 (Own Kd.string 9 w5 w.heap.size (.slice (some ⟨w.heap.size, 0, none⟩) ps.length ps.length) ps) := ⟨by
          obtain ⟨inner, hin⟩ := Kd.R_own HO2.out
          have ho := Kd.own_of_R HC2.out
          exact Kd.R_of_own (own_other ho hg5 (own_type_ne ho hin (by decide))) (fun _ _ => trivial)⟩
        clear ho5 hb5 hg5
        go_wp2
        go_roundg (ps.length - k - 1)
        case measure => have := HA.out; omega
        case rel => exact ⟨k + 1, out ++ [F], by go_num, ⟨by have := HA.out; omega, by have := HA.out; omega, by have := HA.out; simp; omega⟩, HE2, HO5, HC5, HB5⟩
    · have HE2 : Aside0 (E = out) := ⟨by rw [← HL.out, List.drop_of_length_le (by omega)]; rfl⟩
      go_wp2
      go_ret
      rw [HE2.out]
      exact ⟨_, rfl, HO.out, HB.out⟩

end Go.Proofs.YtkipjalfgdfaiaaGreatDoor
namespace Go.Proofs.YtkipjalfgdfaiaaGreatDoor
set_option linter.unusedVariables false
set_option linter.unusedSimpArgs false
open Go.RowKit Go.Proofs.YtkipjalfgdfaiaaGreatDoorW.PrintWords Go.Proofs.YtkipjalfgdfaiaaGreatDoorW.PrintLast Go.Proofs.YtkipjalfgdfaiaaGreatDoorW.PrintMore

def eqB (a b : ByteArray) : Bool := a.data.toList == b.data.toList
theorem eqB_iff {a b : ByteArray} : eqB a b = true ↔ a = b := by
  unfold eqB
  rw [beq_iff_eq]
  constructor
  · intro h
    rw [← bsL_data a, ← bsL_data b, h]
  · rintro rfl
    rfl
theorem eqB_self (a : ByteArray) : eqB a a = true := eqB_iff.2 rfl
theorem eqB_ne {a b : ByteArray} (h : a ≠ b) : eqB a b = false := Bool.eq_false_iff.2 (fun e => h (eqB_iff.1 e))
def cellB (f : List ByteArray) (i : Nat) : ByteArray := f.getD i ByteArray.empty
def rowHit (kind want : ByteArray) (f : List ByteArray) : Bool := eqB (cellB f 0) kind && (f.drop 1).any (fun n => eqB (looseB n) want)
def findL (kind want : ByteArray) : List (List ByteArray) → Option ByteArray
  | [] => none
  | f :: r => if rowHit kind want f = true then some (cellB f 1) else findL kind want r
def numB (k : ByteArray) : Int := if k.toList = ([103, 99] : List UInt8) then 1 else if k.toList = ([115, 99] : List UInt8) then 2 else 3
def idxL : List UInt8 → Option Nat
  | [] => none
  | b :: l => if b = 61 ∨ b = 58 then some 0 else (idxL l).map (· + 1)
def errN : Int × ByteArray × Int := (0, ByteArray.empty, 50)
def errV : Int × ByteArray × Int := (0, ByteArray.empty, 51)
def valL (R : List (List ByteArray)) (kind s : ByteArray) : Int × ByteArray × Int := match findL kind (looseB s) R with
  | none => errV
  | some v => (numB kind, v, 0)
def keyL (R : List (List ByteArray)) (a s : ByteArray) : Int × ByteArray × Int := match findL ⟨#[112, 114]⟩ (looseB a) R with
  | none => errN
  | some k => valL R k s
def bareL (R : List (List ByteArray)) (s : ByteArray) : List ByteArray → Int × ByteArray × Int
  | [] => errN
  | k :: r => match findL k (looseB s) R with
    | none => bareL R s r
    | some v => (numB k, v, 0)
def kindsL : List ByteArray := [⟨#[103, 99]⟩, ⟨#[98, 105]⟩, ⟨#[115, 99]⟩]
def resolveL (R : List (List ByteArray)) (s : ByteArray) : Int × ByteArray × Int := match idxL s.data.toList with
  | some i => keyL R (s.extract 0 i) (s.extract (i + 1) s.size)
  | none => bareL R s kindsL
def longHit (kind : Int) (v : ByteArray) (f : List ByteArray) : Bool := !eqB (cellB f 0) ⟨#[112, 114]⟩ && decide (numB (cellB f 0) = kind) && eqB (cellB f 1) v
def longL (kind : Int) (v : ByteArray) : List (List ByteArray) → Option ByteArray
  | [] => none
  | f :: r => if longHit kind v f = true then some (cellB f 2) else longL kind v r

/-- The text that the program's code holds: the last one that a region assigns. -/
def textOp : List Oper → Option ByteArray
  | [] => none
  | o :: r => match textOp r with
    | some b => some b
    | none => match o.op with
      | .assign (.const (.string b)) => some b
      | _ => none
def textCode : Code → Option ByteArray
  | .seq a b => match textCode b with
    | some x => some x
    | none => textCode a
  | .region _ ops _ => textOp ops.toList
  | _ => none
/-- Each row has three cells, of few bytes; the middle one is not empty. -/
def rowsOk (R : List (List ByteArray)) : Bool := R.all fun f => f.length == 3 && f.all (fun x => decide (x.size < 1000)) && !(cellB f 1).data.toList.isEmpty
def awakeB : ByteArray := ⟨#[103, 101, 110, 101, 114, 97, 108, 32, 99, 97, 116, 101, 103, 111, 114, 121, 32, 61, 32, 117, 112, 112, 101, 114, 99, 97, 115, 101, 45, 108, 101, 116, 116, 101, 114]⟩
def awakeOk (R : List (List ByteArray)) : Bool := (resolveL R awakeB).1 == 1 && eqB (resolveL R awakeB).2.1 ⟨#[76, 117]⟩ && (resolveL R awakeB).2.2 == 0
def aheadB (n : Int) : ByteArray := if n = 1 then ⟨#[103, 99, 61]⟩ else if n = 2 then ⟨#[115, 99, 61]⟩ else ByteArray.empty
/-- Each value has a long name, which names it; each property is a kind. -/
def backRow (R : List (List ByteArray)) (f : List ByteArray) : Bool := match longL (numB (cellB f 0)) (cellB f 1) R with
  | none => false
  | some l => (resolveL R (aheadB (numB (cellB f 0)) ++ l)).1 == numB (cellB f 0) && eqB (resolveL R (aheadB (numB (cellB f 0)) ++ l)).2.1 (cellB f 1) && (resolveL R (aheadB (numB (cellB f 0)) ++ l)).2.2 == 0
def backOk (R : List (List ByteArray)) : Bool := (R.all fun f => !kindsL.any (fun k => eqB (cellB f 0) k) || backRow R f) && R.all fun f => !eqB (cellB f 0) ⟨#[112, 114]⟩ || kindsL.any (fun k => eqB (cellB f 1) k)
/-- The text of api.Aliases, and what is known of its rows. -/
def AliasIs (b : ByteArray) : Prop := (∀ w, Calls Tryz.prog 172 #[] w fun e w' => e = .returned (.string b) ∧ Below w.heap.size w w') ∧ b.size < 4294967281 ∧ rowsOk (rowsB b) = true ∧ awakeOk (rowsB b) = true ∧ backOk (rowsB b) = true

end Go.Proofs.YtkipjalfgdfaiaaGreatDoor
namespace Go.Proofs.YtkipjalfgdfaiaaGreatDoor
set_option linter.unusedVariables false
set_option linter.unusedSimpArgs false

theorem rowsL_len : ∀ (ps : List ByteArray) (out : List (List ByteArray)), (rowsL ps out).length ≤ out.length + ps.length
  | [], out => Nat.le_refl _
  | x :: r, out => by
    by_cases h : fieldsB x = []
    · rw [rowsL_skip h]
      have := rowsL_len r out
      simp only [List.length_cons]
      omega
    · rw [rowsL_take h]
      have := rowsL_len r (out ++ [fieldsB x])
      simp only [List.length_append, List.length_cons, List.length_nil] at this ⊢
      omega
theorem rowsB_len (s : ByteArray) : (rowsB s).length ≤ s.size + 1 := by
  have h := rowsL_len (cutB 10 s) []
  have h2 := cutB_length 10 s
  simp only [List.length_nil, Nat.zero_add] at h
  exact Nat.le_trans h h2
end Go.Proofs.YtkipjalfgdfaiaaGreatDoor
namespace Go.Proofs.YtkipjalfgdfaiaaGreatDoor
set_option linter.unusedVariables false
set_option linter.unusedSimpArgs false
open Go.RowKit Go.Proofs.YtkipjalfgdfaiaaGreatDoorW.PrintWords Go.Proofs.YtkipjalfgdfaiaaGreatDoorW.PrintLast Go.Proofs.YtkipjalfgdfaiaaGreatDoorW.PrintMore Go.Proofs.YtkipjalfgdfaiaaGreatDoor.PLinesRead

theorem row_ok {R : List (List ByteArray)} (h : rowsOk R = true) {f : List ByteArray} (hf : f ∈ R) : f.length = 3 ∧ (∀ x ∈ f, x.size < 1000) ∧ (cellB f 1).size ≠ 0 := by
  unfold rowsOk at h
  rw [List.all_eq_true] at h
  have h1 := h f hf
  simp only [Bool.and_eq_true, beq_iff_eq, List.all_eq_true, decide_eq_true_eq, Bool.not_eq_true'] at h1
  obtain ⟨⟨h1, h2⟩, h3⟩ := h1
  refine ⟨h1, h2, fun h4 => ?_⟩
  rw [Lib.size_eq, List.length_eq_zero_iff] at h4
  rw [h4] at h3
  cases h3
theorem beq_toList {a b : ByteArray} (h : a ≠ b) : (a.toList == b.toList) = false := by
  rw [Lib.toList_data, Lib.toList_data]
  exact beq_eq_false_iff_ne.2 (fun e => h (by rw [← bsL_data a, ← bsL_data b, e]))
theorem drop1_at {f : List ByteArray} {j : Nat} (h : j < (f.drop 1).length) : (f.drop 1)[j] = f[j + 1]'(by rw [List.length_drop] at h; omega) := by
  rw [List.getElem_drop]
  congr 1
  omega
theorem cell_at {f : List ByteArray} {i : Nat} (h : i < f.length) : cellB f i = f[i] := by
  unfold cellB
  rw [List.getD_eq_getElem?_getD, List.getElem?_eq_getElem h]
  rfl

set_option maxHeartbeats 4000000 in
set_option maxRecDepth 100000 in
theorem find_any (b : ByteArray) (hal : AliasIs b) (kind s : ByteArray) (m : Int) (w : World) (hm : MaxIs w m) (hs : s.size < 140737488355328) :
    Calls Tryz.prog 143 #[.string kind, .string s] w fun e w' => e = .returned (.tuple #[.string ((findL kind (looseB s) (rowsB b)).getD ByteArray.empty), .bool (findL kind (looseB s) (rowsB b)).isSome]) ∧ Below w.heap.size w w' := by
  obtain ⟨ha, hbs, hok, -, -⟩ := hal
  have HRK := Aside0.mk (fun f (hf : f ∈ rowsB b) => row_ok hok hf)
  have HRW := Aside0.mk (fun W hm => rows_any b m W hbs hm)
  have HRL := rowsB_len b
  obtain ⟨R, hR⟩ : ∃ R, rowsB b = R := ⟨_, rfl⟩
  rw [hR] at HRK HRW HRL ⊢
  have HL := Aside0.mk (fun W => loose_any s W hs)
  obtain ⟨want, hwant⟩ : ∃ want, looseB s = want := ⟨_, rfl⟩
  rw [hwant] at HL ⊢
  have HE : Aside0 (findL kind want (R.drop 0) = findL kind want R) := ⟨rfl⟩
  obtain ⟨ans, hans⟩ : ∃ ans, findL kind want R = ans := ⟨_, rfl⟩
  rw [hans] at HE ⊢
  have HM := Aside0.mk hm
  have HAL := Aside0.mk ha
  have hrl : R.length < 4294967290 := by omega
  clear ha hbs hok hR HRL hwant hans hm
  go_enter Tryz.func143, Tryz.ntmps143
  go_wp2_with fail
  refine (HL.out _).mono ?_
  rintro e w1 ⟨rfl, hb1⟩
  have HB1 := Aside0.mk hb1
  clear hb1
  go_wp2_with fail
  refine (HAL.out _).mono ?_
  rintro e w2 ⟨rfl, hb2⟩
  have HB2 : Aside0 (Below w.heap.size w w2) := ⟨below_to HB1.out hb2⟩
  clear hb2
  go_wp2_with fail
  refine (HRW.out _ (HM.out.below HB2.out)).mono ?_
  rintro e w3 ⟨v3, rfl, ho3, hb3⟩
  have HB3 : Aside0 (Below w.heap.size w w3) := ⟨below_to HB2.out hb3⟩
  obtain ⟨A, c, rfl, hc, hr⟩ := Kd.R_reads ho3
  have HR := Aside0.mk hr
  clear ho3 hb3 hr
  go_wp2
  go_loopg [16] R.length (fun gk i w' => ∃ (k : Nat), i = .int .i64 (k : Int) ∧ Aside0 (k ≤ R.length ∧ gk = R.length - k) ∧ Aside0 (findL kind want (R.drop k) = ans) ∧ Aside0 (Below w3.heap.size w3 w'))
  case atStart => exact ⟨0, by first | rfl | simp, ⟨Nat.zero_le _, rfl⟩, HE, ⟨Below.refl _ _⟩⟩
  case round =>
    obtain ⟨k, rfl, HA, HF, HB⟩ := hrel
    have HBW : Aside0 (Below w.heap.size w wr) := ⟨below_to HB3.out HB.out⟩
    by_cases hk : k < R.length
    · obtain ⟨ad, A0, c0, rfl, hx0, hxl, hxr⟩ := at_L2 HR.out (k : Int) (by omega) (by omega)
      replace hx0 := pw_cell_below HB.out hx0
      replace hxr := Kd.C_below hxr HB.out
      have hfR : rd_L2 R (k : Int) = R[k] := by simp [rd_L2, hk]
      have hok := HRK.out R[k] (List.getElem_mem hk)
      have hdr : R.drop k = R[k] :: R.drop (k + 1) := List.drop_eq_getElem_cons hk
      rw [hfR] at hx0 hxl hxr
      rw [hdr] at HF
      obtain ⟨f, hff⟩ : ∃ f, R[k] = f := ⟨_, rfl⟩
      rw [hff] at hx0 hxl hxr hok HF
      clear hfR hff hdr
      obtain ⟨hf3, hfs, -⟩ := hok
      simp only [Int.toNat_natCast] at hx0
      obtain ⟨ad0, rfl, hy0⟩ := at_S hxr 0 (by omega)
      obtain ⟨ad0', he1, hy1⟩ := at_S hxr 1 (by omega)
      cases he1
      rw [add_zero] at hy0
      have ha1 := add_field ad0 0 1 (by omega)
      rw [Nat.zero_add, add_zero] at ha1
      rw [ha1] at hy1
      clear ha1
      have hc0e := cell_at (show 0 < f.length by omega)
      have hc1e := cell_at (show 1 < f.length by omega)
      obtain ⟨x0, hxx0⟩ : ∃ x0, f[0]'(by omega) = x0 := ⟨_, rfl⟩
      obtain ⟨x1, hxx1⟩ : ∃ x1, f[1]'(by omega) = x1 := ⟨_, rfl⟩
      rw [hxx0] at hy0 hc0e
      rw [hxx1] at hy1 hc1e
      have HXR := Aside0.mk hxr
      have HFS := Aside0.mk hfs
      clear hxr hfs hxx0 hxx1
      by_cases hkd : x0 = kind
      · subst hkd
        have HH : Aside0 (rowHit x0 want f = (f.drop 1).any (fun n => eqB (looseB n) want)) := ⟨by unfold rowHit; rw [hc0e, eqB_self, Bool.true_and]⟩
        have hdl : (f.drop 1).length = 2 := by rw [List.length_drop]; omega
        have HNS : Aside0 (∀ n ∈ f.drop 1, n.size < 1000) := ⟨fun n hn => HFS.out n (List.mem_of_mem_drop hn)⟩
        have HNC : Aside0 (∀ q (hq : q < (f.drop 1).length), wr.cell? ⟨ad0.block, ad0.off + 1 + q, none⟩ = some (.string ((f.drop 1)[q]))) := ⟨fun q hq => by
          obtain ⟨adn, he, hz⟩ := at_S HXR.out (q + 1) (by omega)
          cases he
          have h2 := add_field ad0 0 (q + 1) (by omega)
          rw [Nat.zero_add, add_zero] at h2
          rw [h2, show ad0.off + (q + 1) = ad0.off + 1 + q by omega] at hz
          rw [drop1_at hq]
          exact hz⟩
        obtain ⟨N, hN⟩ : ∃ N, f.drop 1 = N := ⟨_, rfl⟩
        rw [hN] at HH HNS HNC hdl
        clear hN HFS
        obtain ⟨wo, hwo⟩ : ∃ wo : World, wo = wr := ⟨_, rfl⟩
        subst hwo
        go_wp2
        go_loopg [28] 2 (fun gk i w' => ∃ (q : Nat), i = .int .i64 (q : Int) ∧ Aside0 (q ≤ 2 ∧ gk = 2 - q) ∧ Aside0 ((N.take q).any (fun n => eqB (looseB n) want) = false) ∧ Aside0 (Below wo.heap.size wo w'))
        case atStart => exact ⟨0, by first | rfl | simp, ⟨Nat.zero_le _, rfl⟩, ⟨rfl⟩, ⟨Below.refl _ _⟩⟩
        case round =>
          obtain ⟨q, rfl, HQ, HN, HBQ⟩ := hrel
          by_cases hq : q < 2
          · have hz := HNC.out q (by omega)
            replace hz := pw_cell_below HBQ.out hz
            have hns := HNS.out _ (List.getElem_mem (show q < N.length by omega))
            have htk : (N.take (q + 1)).any (fun n => eqB (looseB n) want) = eqB (looseB (N[q]'(by omega))) want := by
              rw [List.take_succ_eq_append_getElem (by omega), List.any_append, HN.out, Bool.false_or, List.any_cons, List.any_nil, Bool.or_false]
            have hmem : N[q]'(by omega) ∈ N := List.getElem_mem _
            have hany : eqB (looseB (N[q]'(by omega))) want = true → N.any (fun n => eqB (looseB n) want) = true := fun h => List.any_eq_true.2 ⟨_, hmem, h⟩
            obtain ⟨n, hn⟩ : ∃ n, N[q]'(by omega) = n := ⟨_, rfl⟩
            rw [hn] at hz hns htk hany
            have HLN := Aside0.mk (fun W => loose_any n W (by omega))
            obtain ⟨ln, hln⟩ : ∃ ln, looseB n = ln := ⟨_, rfl⟩
            rw [hln] at HLN htk hany
            have HTK := Aside0.mk htk
            have HANY := Aside0.mk hany
            clear hn hmem hns hln htk hany
            go_wp2_with fail
            refine (HLN.out _).mono ?_
            rintro e w5 ⟨rfl, hb5⟩
            have HB5 : Aside0 (Below wo.heap.size wo w5) := ⟨below_to HBQ.out hb5⟩
            replace hy1 := pw_cell_below HB5.out hy1
            clear hb5 hz
            by_cases hw : ln = want
            · subst hw
              have HAN : Aside0 (ans = some x1) := ⟨by
                rw [← HF.out, findL, if_pos (by rw [HH.out]; exact HANY.out (eqB_self _)), hc1e]⟩
              have HBZ : Aside0 (Below w.heap.size w w5) := ⟨below_to HBW.out HB5.out⟩
              go_wp2
              go_ret2
              rw [HAN.out]
              exact ⟨rfl, HBZ.out⟩
            · have hbq := beq_toList hw
              have HT2 : Aside0 ((N.take (q + 1)).any (fun n => eqB (looseB n) want) = false) := ⟨by rw [HTK.out]; exact eqB_ne hw⟩
              go_wp2
              go_roundg (2 - q - 1)
              case measure => have := HQ.out; omega
              case rel => exact ⟨q + 1, by go_num, ⟨by omega, by omega⟩, HT2, HB5⟩
          · have HAN : Aside0 (findL x0 want (R.drop (k + 1)) = ans) := ⟨by
              have hall : N.take q = N := List.take_of_length_le (by omega)
              have := HN.out
              rw [hall] at this
              rw [← HF.out, findL, if_neg (by rw [HH.out, this]; decide)]⟩
            have HB6 : Aside0 (Below w3.heap.size w3 wr) := ⟨below_to HB.out HBQ.out⟩
            go_wp2
            go_roundg (R.length - k - 1)
            case measure => have := HA.out; omega
            case rel => exact ⟨k + 1, by go_num, ⟨by omega, by omega⟩, HAN, HB6⟩
      · have hbq := beq_toList hkd
        have HAN : Aside0 (findL kind want (R.drop (k + 1)) = ans) := ⟨by
          rw [← HF.out, findL, if_neg (by unfold rowHit; rw [hc0e, eqB_ne hkd]; simp)]⟩
        go_wp2
        go_roundg (R.length - k - 1)
        case measure => have := HA.out; omega
        case rel => exact ⟨k + 1, by go_num, ⟨by omega, by omega⟩, HAN, HB⟩
    · have HAN : Aside0 (ans = none) := ⟨by rw [← HF.out, List.drop_of_length_le (by omega)]; rfl⟩
      go_wp2
      go_ret2
      rw [HAN.out]
      exact ⟨rfl, HBW.out⟩

end Go.Proofs.YtkipjalfgdfaiaaGreatDoor
namespace Go.Proofs.YtkipjalfgdfaiaaGreatDoor
set_option linter.unusedVariables false
set_option linter.unusedSimpArgs false
open Go.RowKit Go.Proofs.YtkipjalfgdfaiaaGreatDoorW.PrintWords Go.Proofs.YtkipjalfgdfaiaaGreatDoorW.PrintLast Go.Proofs.YtkipjalfgdfaiaaGreatDoorW.PrintMore

def idxI (l : List UInt8) : Int := match idxL l with
  | some i => (i : Int)
  | none => -1
theorem idxL_lt : ∀ (l : List UInt8) (i : Nat), idxL l = some i → i < l.length
  | [], i, h => by cases h
  | b :: l, i, h => by
    unfold idxL at h
    split at h
    · cases h
      simp
    · cases hl : idxL l with
      | none => rw [hl] at h; cases h
      | some j =>
        rw [hl] at h
        cases h
        have := idxL_lt l j hl
        simp only [List.length_cons]
        omega
theorem number_any (k : ByteArray) (w : World) : Calls Tryz.prog 144 #[.string k] w fun e w' => e = .returned (.int .i64 (numB k)) ∧ Below w.heap.size w w' := by
  refine (Go.Proofs.YtkipjalfgdfaiaaGreatDoor.PNamesBack.names_number.calls k (numB k) w ?_).mono ?_
  · unfold Go.Proofs.YtkipjalfgdfaiaaGreatDoor.PNamesBack.names_number.f numB
    split
    · rfl
    · split <;> rfl
  · rintro e w' ⟨rfl, hd⟩
    exact ⟨rfl, hd.below⟩
theorem idx3_0 (W : World) : (Instr.index 166 (.agg #[.string ⟨#[103, 99]⟩, .string ⟨#[98, 105]⟩, .string ⟨#[115, 99]⟩]) (.int .i64 0)).run Tryz.prog W = .ok (.string ⟨#[103, 99]⟩) W := by kernel_rfl
theorem idx3_1 (W : World) : (Instr.index 166 (.agg #[.string ⟨#[103, 99]⟩, .string ⟨#[98, 105]⟩, .string ⟨#[115, 99]⟩]) (.int .i64 1)).run Tryz.prog W = .ok (.string ⟨#[98, 105]⟩) W := by kernel_rfl
theorem idx3_2 (W : World) : (Instr.index 166 (.agg #[.string ⟨#[103, 99]⟩, .string ⟨#[98, 105]⟩, .string ⟨#[115, 99]⟩]) (.int .i64 2)).run Tryz.prog W = .ok (.string ⟨#[115, 99]⟩) W := by kernel_rfl
def IndexIs (s : ByteArray) : Prop := ∀ W : World, Calls Tryz.prog 142 #[.string s, .string ⟨#[61, 58]⟩] W fun e w' => e = .returned (.int .i64 (idxI s.data.toList)) ∧ Below W.heap.size W w'
theorem num_1 : numB ⟨#[103, 99]⟩ = 1 := by unfold numB; rw [if_pos (by rw [Lib.toList_data])]
theorem num_3 : numB ⟨#[98, 105]⟩ = 3 := by unfold numB; rw [if_neg (by rw [Lib.toList_data]; decide), if_neg (by rw [Lib.toList_data]; decide)]
theorem num_2 : numB ⟨#[115, 99]⟩ = 2 := by unfold numB; rw [if_neg (by rw [Lib.toList_data]; decide), if_pos (by rw [Lib.toList_data])]
set_option maxHeartbeats 4000000 in
set_option maxRecDepth 100000 in
theorem resolve_any (b : ByteArray) (hal : AliasIs b) (s : ByteArray) (m : Int) (w : World) (hm : MaxIs w m) (hs : s.size < 140737488355328) (hix : IndexIs s) :
    Calls Tryz.prog 102 #[.string s] w fun e w' => e = .returned (.tuple #[.int .i64 (resolveL (rowsB b) s).1, .string (resolveL (rowsB b) s).2.1, .int .i64 (resolveL (rowsB b) s).2.2]) ∧ Below w.heap.size w w' := by
  have HF := Aside0.mk (fun kind (t : ByteArray) (ht : t.size < 140737488355328) W hm => find_any b hal kind t m W hm ht)
  have HI := Aside0.mk hix
  have HM := Aside0.mk hm
  have HXS : ∀ i j, (s.extract i j).size ≤ s.size := fun i j => by rw [ByteArray.size_extract]; omega
  clear hal hm hix
  have HID : Aside0 (idxI s.data.toList = match idxL s.data.toList with | some i => (i : Int) | none => -1) := ⟨rfl⟩
  have HRE : Aside0 (resolveL (rowsB b) s = match idxL s.data.toList with | some i => keyL (rowsB b) (s.extract 0 i) (s.extract (i + 1) s.size) | none => bareL (rowsB b) s kindsL) := ⟨rfl⟩
  have hlt := idxL_lt s.data.toList
  rw [← Lib.size_eq s] at hlt
  obtain ⟨ans, hans⟩ : ∃ ans, resolveL (rowsB b) s = ans := ⟨_, rfl⟩
  rw [hans] at HRE ⊢
  obtain ⟨R, hR⟩ : ∃ R, rowsB b = R := ⟨_, rfl⟩
  rw [hR] at HRE HF
  clear hans hR
  cases hix : idxL s.data.toList with
  | some i =>
    have hi := hlt i hix
    have HIX := Aside0.mk hix
    rw [hix] at HID HRE
    simp only at HID HRE
    clear hix hlt
    have HK := Aside0.mk (fun W hm => HF.out ⟨#[112, 114]⟩ (s.extract 0 i) (by have := HXS 0 i; omega) W hm)
    have HRE2 : Aside0 (ans = match findL ⟨#[112, 114]⟩ (looseB (s.extract 0 i)) R with | none => errN | some k => valL R k (s.extract (i + 1) s.size)) := ⟨HRE.out⟩
    have HV := Aside0.mk (fun k W hm => HF.out k (s.extract (i + 1) s.size) (by have := HXS (i + 1) s.size; omega) W hm)
    obtain ⟨t1, ht1⟩ : ∃ t1, s.extract 0 i = t1 := ⟨_, rfl⟩
    obtain ⟨t2, ht2⟩ : ∃ t2, s.extract (i + 1) s.size = t2 := ⟨_, rfl⟩
    have e1 : ((i : Int)).toNat = i := rfl
    have e2 : ((i : Int) + 1).toNat = i + 1 := rfl
    rw [ht1] at HK HRE2
    rw [ht2] at HV HRE2
    clear HRE HXS
    obtain ⟨F1, hF1⟩ : ∃ F1, findL ⟨#[112, 114]⟩ (looseB t1) R = F1 := ⟨_, rfl⟩
    rw [hF1] at HK HRE2
    clear hF1
    cases F1 with
    | none =>
      simp only [Option.getD_none, Option.isSome_none] at HK HRE2
      go_enter Tryz.func102, Tryz.ntmps102
      go_wp2_with fail
      refine (HI.out _).mono ?_
      rintro e w1 ⟨rfl, hb1⟩
      have HB1 := Aside0.mk hb1
      rw [HID.out]
      clear hb1
      go_wp2_with fail
      refine (HK.out _ (HM.out.below HB1.out)).mono ?_
      rintro e w2 ⟨rfl, hb2⟩
      have HB2 : Aside0 (Below w.heap.size w w2) := ⟨below_to HB1.out hb2⟩
      clear hb2 HK HV
      go_wp2
      go_ret3
      rw [HRE2.out]
      exact ⟨rfl, HB2.out⟩
    | some k =>
      simp only [Option.getD_some, Option.isSome_some] at HK HRE2
      have HVK := Aside0.mk (fun W hm => HV.out k W hm)
      have HRE3 : Aside0 (ans = match findL k (looseB t2) R with | none => errV | some v => (numB k, v, 0)) := ⟨HRE2.out⟩
      clear HV HRE2
      obtain ⟨F2, hF2⟩ : ∃ F2, findL k (looseB t2) R = F2 := ⟨_, rfl⟩
      rw [hF2] at HVK HRE3
      clear hF2
      cases F2 with
      | none =>
        simp only [Option.getD_none, Option.isSome_none] at HVK HRE3
        go_enter Tryz.func102, Tryz.ntmps102
        go_wp2_with fail
        refine (HI.out _).mono ?_
        rintro e w1 ⟨rfl, hb1⟩
        have HB1 := Aside0.mk hb1
        rw [HID.out]
        clear hb1
        go_wp2_with fail
        refine (HK.out _ (HM.out.below HB1.out)).mono ?_
        rintro e w2 ⟨rfl, hb2⟩
        have HB2 : Aside0 (Below w.heap.size w w2) := ⟨below_to HB1.out hb2⟩
        clear hb2 HK
        go_wp2_with fail
        refine (HVK.out _ (HM.out.below HB2.out)).mono ?_
        rintro e w3 ⟨rfl, hb3⟩
        have HB3 : Aside0 (Below w.heap.size w w3) := ⟨below_to HB2.out hb3⟩
        clear hb3 HVK
        go_wp2
        go_ret3
        rw [HRE3.out]
        exact ⟨rfl, HB3.out⟩
      | some v =>
        simp only [Option.getD_some, Option.isSome_some] at HVK HRE3
        go_enter Tryz.func102, Tryz.ntmps102
        go_wp2_with fail
        refine (HI.out _).mono ?_
        rintro e w1 ⟨rfl, hb1⟩
        have HB1 := Aside0.mk hb1
        rw [HID.out]
        clear hb1
        go_wp2_with fail
        refine (HK.out _ (HM.out.below HB1.out)).mono ?_
        rintro e w2 ⟨rfl, hb2⟩
        have HB2 : Aside0 (Below w.heap.size w w2) := ⟨below_to HB1.out hb2⟩
        clear hb2 HK
        go_wp2_with fail
        refine (HVK.out _ (HM.out.below HB2.out)).mono ?_
        rintro e w3 ⟨rfl, hb3⟩
        have HB3 : Aside0 (Below w.heap.size w w3) := ⟨below_to HB2.out hb3⟩
        clear hb3 HVK
        go_wp2_with fail
        refine (number_any k _).mono ?_
        rintro e w4 ⟨rfl, hb4⟩
        have HB4 : Aside0 (Below w.heap.size w w4) := ⟨below_to HB3.out hb4⟩
        clear hb4
        go_wp2
        go_ret3
        rw [HRE3.out]
        exact ⟨rfl, HB4.out⟩
  | none =>
    rw [hix] at HID HRE
    simp only at HID HRE
    clear hix hlt HXS
    have HB0 : Aside0 (bareL R s (kindsL.drop 0) = ans) := ⟨HRE.out.symm⟩
    clear HRE
    go_enter Tryz.func102, Tryz.ntmps102
    go_wp2_with fail
    refine (HI.out _).mono ?_
    rintro e w1 ⟨rfl, hb1⟩
    have HB1 := Aside0.mk hb1
    rw [HID.out]
    clear hb1
    go_wp2
    go_loopg [41] 3 (fun gk i w' => ∃ (q : Nat), i = .int .i64 (q : Int) ∧ Aside0 (q ≤ 3 ∧ gk = 3 - q) ∧ Aside0 (bareL R s (kindsL.drop q) = ans) ∧ Aside0 (Below w.heap.size w w'))
    case atStart => exact ⟨0, by first | rfl | simp, ⟨by omega, rfl⟩, HB0, HB1⟩
    case round =>
      obtain ⟨q, rfl, HQ, HAN, HB⟩ := hrel
      have hq3 : q = 0 ∨ q = 1 ∨ q = 2 ∨ q = 3 := by have := HQ.out; omega
      rcases hq3 with rfl | rfl | rfl | rfl
      · have hi3 := idx3_0 wr
        have HAN2 : Aside0 (ans = match findL ⟨#[103, 99]⟩ (looseB s) R with | none => bareL R s (kindsL.drop 1) | some v => (1, v, 0)) := ⟨by rw [← num_1]; exact HAN.out.symm⟩
        have HK := Aside0.mk (fun W hm => HF.out ⟨#[103, 99]⟩ s hs W hm)
        obtain ⟨F1, hF1⟩ : ∃ F1, findL ⟨#[103, 99]⟩ (looseB s) R = F1 := ⟨_, rfl⟩
        rw [hF1] at HK HAN2
        clear hF1 HAN
        cases F1 with
        | none =>
          simp only [Option.getD_none, Option.isSome_none] at HK HAN2
          go_wp2_with fail
          refine (HK.out _ (HM.out.below HB.out)).mono ?_
          rintro e w2 ⟨rfl, hb2⟩
          have HB2 : Aside0 (Below w.heap.size w w2) := ⟨below_to HB.out hb2⟩
          clear hb2 HK
          go_wp2
          go_roundg 2
          case measure => have := HQ.out; omega
          case rel => exact ⟨1, by first | rfl | go_num, ⟨by omega, by omega⟩, ⟨HAN2.out.symm⟩, HB2⟩
        | some v =>
          simp only [Option.getD_some, Option.isSome_some] at HK HAN2
          go_wp2_with fail
          refine (HK.out _ (HM.out.below HB.out)).mono ?_
          rintro e w2 ⟨rfl, hb2⟩
          have HB2 : Aside0 (Below w.heap.size w w2) := ⟨below_to HB.out hb2⟩
          clear hb2 HK
          go_wp2_with fail
          refine (number_any ⟨#[103, 99]⟩ _).mono ?_
          rintro e w4 ⟨rfl, hb4⟩
          have HB4 : Aside0 (Below w.heap.size w w4) := ⟨below_to HB2.out hb4⟩
          clear hb4
          rw [num_1]
          go_wp2
          go_ret3
          rw [HAN2.out]
          exact ⟨rfl, HB4.out⟩
      · have hi3 := idx3_1 wr
        have HAN2 : Aside0 (ans = match findL ⟨#[98, 105]⟩ (looseB s) R with | none => bareL R s (kindsL.drop 2) | some v => (3, v, 0)) := ⟨by rw [← num_3]; exact HAN.out.symm⟩
        have HK := Aside0.mk (fun W hm => HF.out ⟨#[98, 105]⟩ s hs W hm)
        obtain ⟨F1, hF1⟩ : ∃ F1, findL ⟨#[98, 105]⟩ (looseB s) R = F1 := ⟨_, rfl⟩
        rw [hF1] at HK HAN2
        clear hF1 HAN
        cases F1 with
        | none =>
          simp only [Option.getD_none, Option.isSome_none] at HK HAN2
          go_wp2_with fail
          refine (HK.out _ (HM.out.below HB.out)).mono ?_
          rintro e w2 ⟨rfl, hb2⟩
          have HB2 : Aside0 (Below w.heap.size w w2) := ⟨below_to HB.out hb2⟩
          clear hb2 HK
          go_wp2
          go_roundg 1
          case measure => have := HQ.out; omega
          case rel => exact ⟨2, by first | rfl | go_num, ⟨by omega, by omega⟩, ⟨HAN2.out.symm⟩, HB2⟩
        | some v =>
          simp only [Option.getD_some, Option.isSome_some] at HK HAN2
          go_wp2_with fail
          refine (HK.out _ (HM.out.below HB.out)).mono ?_
          rintro e w2 ⟨rfl, hb2⟩
          have HB2 : Aside0 (Below w.heap.size w w2) := ⟨below_to HB.out hb2⟩
          clear hb2 HK
          go_wp2_with fail
          refine (number_any ⟨#[98, 105]⟩ _).mono ?_
          rintro e w4 ⟨rfl, hb4⟩
          have HB4 : Aside0 (Below w.heap.size w w4) := ⟨below_to HB2.out hb4⟩
          clear hb4
          rw [num_3]
          go_wp2
          go_ret3
          rw [HAN2.out]
          exact ⟨rfl, HB4.out⟩
      · have hi3 := idx3_2 wr
        have HAN2 : Aside0 (ans = match findL ⟨#[115, 99]⟩ (looseB s) R with | none => bareL R s (kindsL.drop 3) | some v => (2, v, 0)) := ⟨by rw [← num_2]; exact HAN.out.symm⟩
        have HK := Aside0.mk (fun W hm => HF.out ⟨#[115, 99]⟩ s hs W hm)
        obtain ⟨F1, hF1⟩ : ∃ F1, findL ⟨#[115, 99]⟩ (looseB s) R = F1 := ⟨_, rfl⟩
        rw [hF1] at HK HAN2
        clear hF1 HAN
        cases F1 with
        | none =>
          simp only [Option.getD_none, Option.isSome_none] at HK HAN2
          go_wp2_with fail
          refine (HK.out _ (HM.out.below HB.out)).mono ?_
          rintro e w2 ⟨rfl, hb2⟩
          have HB2 : Aside0 (Below w.heap.size w w2) := ⟨below_to HB.out hb2⟩
          clear hb2 HK
          go_wp2
          go_roundg 0
          case measure => have := HQ.out; omega
          case rel => exact ⟨3, by first | rfl | go_num, ⟨by omega, by omega⟩, ⟨HAN2.out.symm⟩, HB2⟩
        | some v =>
          simp only [Option.getD_some, Option.isSome_some] at HK HAN2
          go_wp2_with fail
          refine (HK.out _ (HM.out.below HB.out)).mono ?_
          rintro e w2 ⟨rfl, hb2⟩
          have HB2 : Aside0 (Below w.heap.size w w2) := ⟨below_to HB.out hb2⟩
          clear hb2 HK
          go_wp2_with fail
          refine (number_any ⟨#[115, 99]⟩ _).mono ?_
          rintro e w4 ⟨rfl, hb4⟩
          have HB4 : Aside0 (Below w.heap.size w w4) := ⟨below_to HB2.out hb4⟩
          clear hb4
          rw [num_2]
          go_wp2
          go_ret3
          rw [HAN2.out]
          exact ⟨rfl, HB4.out⟩
      · go_wp2
        go_ret3
        rw [← HAN.out]
        exact ⟨rfl, HB.out⟩

end Go.Proofs.YtkipjalfgdfaiaaGreatDoor
namespace Go.Proofs.YtkipjalfgdfaiaaGreatDoor
set_option linter.unusedVariables false
set_option linter.unusedSimpArgs false
open Go.RowKit Go.Proofs.YtkipjalfgdfaiaaGreatDoorW.PrintWords Go.Proofs.YtkipjalfgdfaiaaGreatDoorW.PrintLast Go.Proofs.YtkipjalfgdfaiaaGreatDoorW.PrintMore

theorem indexAny_is : ∀ l : List UInt8, Lib.indexAny l [61, 58] = idxI l
  | [] => rfl
  | b :: l => by
    have ih := indexAny_is l
    unfold Lib.indexAny
    rw [ih]
    unfold idxI
    by_cases h : b = 61 ∨ b = 58
    · rw [if_pos (by rcases h with rfl | rfl <;> rfl), idxL, if_pos h]
      rfl
    · have hc : ¬ ([61, 58] : List UInt8).contains b = true := fun hh => h (by simpa using hh)
      rw [if_neg hc, idxL, if_neg h]
      cases idxL l with
      | none => rfl
      | some i =>
        show (if ((i : Int) == -1) = true then (-1 : Int) else (i : Int) + 1) = ((i + 1 : Nat) : Int)
        rw [if_neg (by rw [beq_iff_eq]; omega)]
        omega
theorem index_long (s : ByteArray) (h8 : 8 < s.size) (hs : s.size < 4294967281) : IndexIs s := fun W => by
  refine (Tryz.strings_IndexAny_long (zero_of_info (n := 256) (by kernel_rfl)).1 s ⟨#[61, 58]⟩ W (by decide) h8 hs (by decide) (ascii_of_all (by decide))).mono ?_
  rintro e w' ⟨rfl, rfl⟩
  exact ⟨congrArg (fun i => Ending.returned (.int .i64 i)) (indexAny_is _), below_alloc (below_alloc (Below.refl _ _) _) _⟩

end Go.Proofs.YtkipjalfgdfaiaaGreatDoor
namespace Go.Proofs.YtkipjalfgdfaiaaGreatDoor
set_option linter.unusedVariables false
set_option linter.unusedSimpArgs false
open Go.RowKit Go.Proofs.YtkipjalfgdfaiaaGreatDoorW.PrintWords Go.Proofs.YtkipjalfgdfaiaaGreatDoorW.PrintLast Go.Proofs.YtkipjalfgdfaiaaGreatDoorW.PrintMore Go.Proofs.YtkipjalfgdfaiaaGreatDoor.PLinesRead

end Go.Proofs.YtkipjalfgdfaiaaGreatDoor

namespace Go.Proofs.YtkipjalfgdfaiaaGreatDoor
set_option linter.unusedVariables false
set_option linter.unusedSimpArgs false
open Go.RowKit Go.Proofs.YtkipjalfgdfaiaaGreatDoorW.PrintWords Go.Proofs.YtkipjalfgdfaiaaGreatDoorW.PrintLast Go.Proofs.YtkipjalfgdfaiaaGreatDoorW.PrintMore Go.Proofs.YtkipjalfgdfaiaaGreatDoor.PLinesRead

end Go.Proofs.YtkipjalfgdfaiaaGreatDoor

namespace Go.Proofs.YtkipjalfgdfaiaaGreatDoor
set_option linter.unusedVariables false
set_option linter.unusedSimpArgs false
open Go.RowKit Go.Proofs.YtkipjalfgdfaiaaGreatDoorW.PrintWords Go.Proofs.YtkipjalfgdfaiaaGreatDoorW.PrintLast Go.Proofs.YtkipjalfgdfaiaaGreatDoorW.PrintMore

theorem idxL_hit : ∀ (L : List UInt8) (i : Nat) (hi : i < L.length), (∀ b ∈ L.take i, ¬ (b = 61 ∨ b = 58)) → (L[i] = 61 ∨ L[i] = 58) → idxL L = some i
  | b :: l, 0, hi, _, hb => by
    have hb' : b = 61 ∨ b = 58 := hb
    rw [idxL, if_pos hb']
  | b :: l, i + 1, hi, h, hb => by
    have h0 : ¬ (b = 61 ∨ b = 58) := h b (by rw [List.take_succ_cons]; exact List.mem_cons_self)
    have ih := idxL_hit l i (by simpa using hi) (fun x hx => h x (by rw [List.take_succ_cons]; exact List.mem_cons_of_mem _ hx)) (by simpa using hb)
    rw [idxL, if_neg h0, ih]
    rfl
theorem idxL_none : ∀ (L : List UInt8), (∀ b ∈ L, ¬ (b = 61 ∨ b = 58)) → idxL L = none
  | [], _ => rfl
  | b :: l, h => by
    rw [idxL, if_neg (h b List.mem_cons_self), idxL_none l (fun x hx => h x (List.mem_cons_of_mem _ hx))]
    rfl
end Go.Proofs.YtkipjalfgdfaiaaGreatDoor
namespace Go.Proofs.YtkipjalfgdfaiaaGreatDoor
set_option linter.unusedVariables false
set_option linter.unusedSimpArgs false
open Go.RowKit Go.Proofs.YtkipjalfgdfaiaaGreatDoorW.PrintWords Go.Proofs.YtkipjalfgdfaiaaGreatDoorW.PrintLast Go.Proofs.YtkipjalfgdfaiaaGreatDoorW.PrintMore

set_option maxHeartbeats 4000000 in
set_option maxRecDepth 100000 in
theorem indexRune_high (r : Int) (h128 : 128 ≤ r) (hr : r ≤ 2147483647) (w : World) :
    Calls Tryz.prog 166 #[.string ⟨#[61, 58]⟩, .int .i32 r] w fun e w' => e = .returned (.int .i64 (-1)) ∧ Below w.heap.size w w' := by
  by_cases he : r = 65533
  · subst he
    have hn0 : ∀ ty, (Instr.next (.pointer (some ⟨w.heap.size, 0, none⟩)) true ty).run Tryz.prog (w.iter ⟨#[61, 58]⟩ 0) = .ok (.tuple #[.bool true, .int .i64 0, .int .i32 61]) (w.iter ⟨#[61, 58]⟩ 1) := fun ty => run_next_ascii w ⟨#[61, 58]⟩ 0 ty (by decide) (by decide)
    have hn1 : ∀ ty, (Instr.next (.pointer (some ⟨w.heap.size, 0, none⟩)) true ty).run Tryz.prog (w.iter ⟨#[61, 58]⟩ 1) = .ok (.tuple #[.bool true, .int .i64 1, .int .i32 58]) (w.iter ⟨#[61, 58]⟩ 2) := fun ty => run_next_ascii w ⟨#[61, 58]⟩ 1 ty (by decide) (by decide)
    have hn2 : ∀ ty, (Instr.next (.pointer (some ⟨w.heap.size, 0, none⟩)) true ty).run Tryz.prog (w.iter ⟨#[61, 58]⟩ 2) = _ := fun ty => run_next_end w ⟨#[61, 58]⟩ 2 ty (by decide)
    go_enter Tryz.func166, Tryz.ntmps166
    go_wp2
    go_loopw [] (fun w' => ∃ (pos : Nat), w' = w.iter ⟨#[61, 58]⟩ pos ∧ pos ≤ 2) (fun w' => 2 - w'.iterPos w.heap.size)
    case atStart => exact ⟨0, rfl, by omega⟩
    case round =>
      obtain ⟨pos, rfl, hp⟩ := hrel
      have hp3 : pos = 0 ∨ pos = 1 ∨ pos = 2 := by omega
      have HB : Aside0 (Below w.heap.size w (w.iter ⟨#[61, 58]⟩ 2)) := ⟨below_alloc (Below.refl _ _) _⟩
      rcases hp3 with rfl | rfl | rfl
      · go_wp2
        go_roundw
        case rel => exact ⟨1, rfl, by omega⟩
        case measure => simp
      · go_wp2
        go_roundw
        case rel => exact ⟨2, rfl, by omega⟩
        case measure => simp
      · go_wp2
        go_ret
        exact ⟨rfl, HB.out⟩
  · have hbe : (r == 65533) = false := beq_eq_false_iff_ne.2 he
    by_cases hv : Utf8.valid r = true
    · have hvr : Lib.validRune r = true := by
        unfold Utf8.valid at hv
        unfold Lib.validRune
        simp only [Bool.or_eq_true, Bool.and_eq_true, decide_eq_true_eq] at hv ⊢
        omega
      obtain ⟨h2, h4, hlast⟩ := encode_facts r hv h128
      have HV := Aside0.mk (fun W => Tryz.utf8_ValidRune r W)
      have HIB := Aside0.mk (fun t c W => Tryz.strings_IndexByte t c W)
      rw [hvr] at HV
      obtain ⟨E, hE⟩ : ∃ E, Utf8.encode r = E := ⟨_, rfl⟩
      rw [hE] at h2 h4 hlast
      have hr128 : ¬ r < 128 := by omega
      clear hv hvr
      by_cases hn : E.size = 2
      · have hl1 : 128 ≤ (E[1]'(by omega)).toNat := by
          have := hlast (by omega)
          simpa [hn] using this
        have hne : ((((⟨#[61, 58]⟩ : ByteArray)[1]'(by decide)).toNat : Int) != ((E[1]'(by omega)).toNat : Int)) = true := bne_iff_ne.2 (by show ¬ (58 : Int) = _; omega)
        go_enter Tryz.func166, Tryz.ntmps166
        go_wp2_with fail
        refine (HV.out _).mono ?_
        rintro e w1 ⟨rfl, rfl⟩
        go_wp2
        go_step3
        go_wp2
        go_loopg [9, 10] 1 (fun gk i f w' => i = .int .i64 1 ∧ f = .int .i64 0 ∧ w' = w1 ∧ Aside0 (gk = 1))
        case atStart => exact ⟨by first | rfl | simp [hn], rfl, rfl, ⟨rfl⟩⟩
        case round =>
          obtain ⟨rfl, rfl, rfl, HG⟩ := hrel
          have hix : ∀ c, Lib.indexByte ByteArray.empty.data.toList c = -1 := fun c => rfl
          go_wp2
          go_step3
          go_wp2
          have hsz2 : (1 : Int) < (E.size : Int) := by omega
          have hsz3 : (1 : Int) < ((⟨#[61, 58]⟩ : ByteArray).size : Int) := by decide
          go_quiet (fail)
          go_wp2
          go_quiet (first | (go_at_call 116; refine (HIB.out _ _ _).mono ?_; rintro e w' ⟨rfl, rfl⟩; first | exact ⟨rfl, _, rfl⟩ | exact ⟨rfl, 0, rfl⟩ | exact ⟨rfl, _, World.drewN_drewN _ _ _⟩))
          simp only [hix]
          go_wp2
          simp only [Exit.noGoto_ret, Exit.inBlock, Exit.then]
          go_ret
          exact ⟨rfl, by repeat (first | exact Below.refl _ _ | apply pw_below_drewN)⟩
      · go_enter Tryz.func166, Tryz.ntmps166
        go_wp2_with fail
        refine (HV.out _).mono ?_
        rintro e w1 ⟨rfl, rfl⟩
        go_wp2
        go_step3
        go_wp2
        go_loopg [9, 10] 1 (fun gk i f w' => i = .int .i64 ((E.size : Int) - 1) ∧ f = .int .i64 0 ∧ w' = w1 ∧ Aside0 (gk = 1))
        case atStart => exact ⟨by first | rfl | go_num, rfl, rfl, ⟨rfl⟩⟩
        case round =>
          obtain ⟨rfl, rfl, rfl, HG⟩ := hrel
          have hge : ¬ ((E.size : Int) - 1 < 2) := by omega
          go_wp2
          go_ret
          exact ⟨rfl, Below.refl _ _⟩
    · have hvr : Lib.validRune r = false := by
        refine Bool.eq_false_iff.2 (fun h => hv ?_)
        unfold Lib.validRune at h
        unfold Utf8.valid
        simp only [Bool.or_eq_true, Bool.and_eq_true, decide_eq_true_eq] at h ⊢
        omega
      have HV := Aside0.mk (fun W => Tryz.utf8_ValidRune r W)
      rw [hvr] at HV
      go_enter Tryz.func166, Tryz.ntmps166
      go_wp2_with fail
      refine (HV.out _).mono ?_
      rintro e w1 ⟨rfl, rfl⟩
      go_wp2
      go_ret
      exact ⟨rfl, Below.refl _ _⟩

end Go.Proofs.YtkipjalfgdfaiaaGreatDoor

namespace Go.Proofs.YtkipjalfgdfaiaaGreatDoor
set_option linter.unusedVariables false
set_option linter.unusedSimpArgs false
open Go.RowKit Go.Proofs.YtkipjalfgdfaiaaGreatDoorW.PrintWords Go.Proofs.YtkipjalfgdfaiaaGreatDoorW.PrintLast Go.Proofs.YtkipjalfgdfaiaaGreatDoorW.PrintMore Go.Lib

theorem dec_cont (s : ByteArray) (pos j : Nat) (h1 : pos < j) (h2 : j < pos + (Utf8.decode s pos).2) (hj : j < s.size) : 128 ≤ (s[j]'hj).toNat := by
  have hg : ∀ k, j = pos + k → (s.get! (pos + k)).toNat = (s[j]'hj).toNat := fun k e => by
    subst e
    simp [ByteArray.get!, getElem!_pos, hj]
    rfl
  obtain ⟨x, hx⟩ : ∃ x, (s[j]'hj).toNat = x := ⟨_, rfl⟩
  rw [hx]
  have hgx : ∀ k, j = pos + k → (s.get! (pos + k)).toNat = x := fun k e => (hg k e).trans hx
  clear hg hx
  have h3 := h2
  clear h2
  simp only [Utf8.decode] at h3
  repeat' split at h3
  all_goals simp only [Bool.and_eq_true, decide_eq_true_eq, beq_iff_eq] at *
  all_goals first
    | omega
    | (rcases (show j = pos + 1 ∨ j = pos + 2 ∨ j = pos + 3 by omega) with e | e | e
       all_goals first
         | (have h4 := hgx 1 e; omega)
         | (have h4 := hgx 2 e; omega)
         | (have h4 := hgx 3 e; omega))
theorem dec_end (s : ByteArray) (pos : Nat) (h : pos < s.size) : pos + (Utf8.decode s pos).2 ≤ s.size := by
  simp only [Utf8.decode]
  repeat' split
  all_goals simp_all
  all_goals omega

theorem idxI_none {L : List UInt8} (h : ∀ b ∈ L, ¬ (b = 61 ∨ b = 58)) : idxI L = -1 := by
  unfold idxI
  rw [idxL_none L h]
theorem idxI_hit {L : List UInt8} {i : Nat} {x : UInt8} (hx : L[i]? = some x) (h : ∀ b ∈ L.take i, ¬ (b = 61 ∨ b = 58)) (hb : x = 61 ∨ x = 58) : idxI L = (i : Int) := by
  obtain ⟨hi, rfl⟩ := List.getElem?_eq_some_iff.1 hx
  unfold idxI
  rw [idxL_hit L i hi h hb]
theorem sep_byte (x : UInt8) (h : x.toNat < 128) : Lib.indexByte [61, 58] ((x.toNat : Int)).toNat.toUInt8 = if x = 61 then 0 else if x = 58 then 1 else -1 := by
  have e : ((x.toNat : Int)).toNat.toUInt8 = x := by simp
  rw [e]
  unfold Lib.indexByte Lib.indexByte Lib.indexByte
  by_cases h1 : x = 61
  · subst h1; rfl
  · by_cases h2 : x = 58
    · subst h2; rfl
    · have b1 : ((61 : UInt8) == x) = false := beq_eq_false_iff_ne.2 (fun e => h1 e.symm)
      have b2 : ((58 : UInt8) == x) = false := beq_eq_false_iff_ne.2 (fun e => h2 e.symm)
      simp [b1, b2, h1, h2]

set_option maxHeartbeats 4000000 in
set_option maxRecDepth 100000 in
theorem index_short (s : ByteArray) (h8 : s.size ≤ 8) : IndexIs s := fun w => by
  have hd : decide ((8 : Int) < (s.size : Int)) = false := decide_eq_false (by omega)
  have HU := Aside0.mk (fun W => Tryz.strings_shouldUseASCIISet (s.size : Int) W)
  rw [hd] at HU
  have HIH : Aside0 (∀ i x, s.data.toList[i]? = some x → (∀ y ∈ s.data.toList.take i, ¬ (y = 61 ∨ y = 58)) → (x = 61 ∨ x = 58) → idxI s.data.toList = (i : Int)) := ⟨fun i x h1 h2 h3 => idxI_hit h1 h2 h3⟩
  have HIN := Aside0.mk (idxI_none (L := s.data.toList))
  have HAT : Aside0 (∀ i (hi : i < s.size), s.data.toList[i]? = some (s[i]'hi)) := ⟨fun i hi => by
    rw [List.getElem?_eq_getElem (by rw [← Lib.size_eq s]; exact hi)]
    congr 1⟩
  have HSL := Aside0.mk (Lib.size_eq s)
  obtain ⟨ans, hans⟩ : ∃ ans, idxI s.data.toList = ans := ⟨_, rfl⟩
  rw [hans] at HIN HIH ⊢
  obtain ⟨L, hL⟩ : ∃ L, s.data.toList = L := ⟨_, rfl⟩
  rw [hL] at HIN HSL HIH
  have HAT2 : Aside0 (∀ i (hi : i < s.size), L[i]? = some (s[i]'hi)) := ⟨fun i hi => by rw [← hL]; exact HAT.out i hi⟩
  clear HAT
  have HIT : Aside0 ((w.iter s 0).heap[w.heap.size]? = some (.stringIter s 0)) := ⟨World.iter_heap w s 0⟩
  have HB0 : Aside0 (Below w.heap.size w (w.iter s 0)) := ⟨below_alloc (Below.refl _ _) _⟩
  have HBL : Aside0 (∀ i, i < 1 → True) := ⟨fun _ _ => trivial⟩
  clear hd hans hL HBL
  go_enter Tryz.func142, Tryz.ntmps142
  go_wp2_with fail
  refine (HU.out _).mono ?_
  rintro e w1 ⟨rfl, rfl⟩
  go_wp2
  go_loopg [46] s.size (fun gk x w' => ∃ (pos : Nat), Aside0 (pos ≤ s.size ∧ gk = s.size - pos) ∧ Aside0 (∀ y ∈ L.take pos, ¬ (y = 61 ∨ y = 58)) ∧ Aside0 (w'.heap[w1.heap.size]? = some (.stringIter s pos)) ∧ Aside0 (Below w1.heap.size w1 w'))
  case atStart => exact ⟨0, ⟨Nat.zero_le _, rfl⟩, ⟨fun y hy => by simp at hy⟩, HIT, HB0⟩
  case round =>
    obtain ⟨pos, HA, HN, HI, HB⟩ := hrel
    by_cases hp : pos < s.size
    · have hnx : ∀ ty, (Instr.next (.pointer (some ⟨w1.heap.size, 0, none⟩)) true ty).run Tryz.prog wr = _ := fun ty => run_next_any_at wr w1.heap.size s pos ty HI.out hp
      have hat := HAT2.out pos hp
      have hw := decode_width_pos s pos hp
      have hde := dec_end s pos hp
      have hdle := decode_le s pos
      have hcn := fun j h1 h2 hj => dec_cont s pos j h1 h2 hj
      have hasc := fun ha => decode_ascii s pos hp ha
      have hhi := fun ha => (decode_high s pos hp ha).1
      obtain ⟨x, hx⟩ : ∃ x, s[pos]'hp = x := ⟨_, rfl⟩
      rw [hx] at hat hasc hhi
      obtain ⟨rn, hrn⟩ : ∃ rn, (Utf8.decode s pos).1 = rn := ⟨_, rfl⟩
      obtain ⟨kk, hkk⟩ : ∃ kk, (Utf8.decode s pos).2 = kk := ⟨_, rfl⟩
      have HKK : Aside0 (x.toNat < 128 → rn = x.toNat ∧ kk = 1) := ⟨fun h => by rw [← hrn, ← hkk, hasc h]; exact ⟨rfl, rfl⟩⟩
      rw [hrn, hkk] at hnx
      rw [hrn] at hdle hhi
      rw [hkk] at hw hde hcn
      have HCN := Aside0.mk hcn
      clear hrn hkk hcn hasc
      have HI2 : Aside0 ((wr.iterAt w1.heap.size s (pos + kk)).heap[w1.heap.size]? = some (.stringIter s (pos + kk))) := ⟨iterAt_heap wr w1.heap.size s pos (pos + kk) HI.out⟩
      have HB2 : Aside0 (Below w1.heap.size w1 (wr.iterAt w1.heap.size s (pos + kk))) := ⟨below_iterAt HB.out (Nat.le_refl _) s (pos + kk)⟩
      have HBI : Aside0 (w1.heap.size < (wr.iterAt w1.heap.size s (pos + kk)).heap.size) := ⟨(Array.getElem?_eq_some_iff.1 HI2.out).1⟩
      have HN2 : Aside0 (¬ (x = 61 ∨ x = 58) → ∀ y ∈ L.take (pos + kk), ¬ (y = 61 ∨ y = 58)) := ⟨fun hns y hy => by
        obtain ⟨j, hj, hjy⟩ := List.getElem_of_mem hy
        rw [List.length_take] at hj
        rw [List.getElem_take] at hjy
        have hjs : j < s.size := by have := HSL.out; omega
        have hLj := HAT2.out j hjs
        rw [List.getElem?_eq_getElem (by omega)] at hLj
        have hsj := Option.some.inj hLj
        rw [hjy] at hsj
        rcases Nat.lt_trichotomy j pos with h1 | h1 | h1
        · refine HN.out y (List.mem_iff_getElem.2 ⟨j, by rw [List.length_take]; omega, ?_⟩)
          rw [List.getElem_take]
          exact hjy
        · subst h1
          rw [hsj, hx]
          exact hns
        · have h2 := HCN.out j h1 (by omega) hjs
          rw [← hsj] at h2
          rintro (rfl | rfl)
          · exact absurd h2 (by decide)
          · exact absurd h2 (by decide)⟩
      by_cases ha : x.toNat < 128
      · obtain ⟨rfl, rfl⟩ := HKK.out ha
        have HR := Aside0.mk (fun W => Tryz.strings_IndexRune_ascii ⟨#[61, 58]⟩ (x.toNat : Int) W (by omega) (by omega))
        have hsb := sep_byte x ha
        rw [show (⟨#[61, 58]⟩ : ByteArray).data.toList = [61, 58] from rfl, hsb] at HR
        by_cases h61 : x = 61
        · rw [if_pos h61] at HR
          have hans := HIH.out pos x hat HN.out (.inl h61)
          clear HKK HN2 hsb hhi h61 hx
          go_wp2_with fail
          refine (HR.out _).mono ?_
          rintro e w4 ⟨rfl, rfl⟩
          go_wp2
          go_ret
          rw [hans]
          exact ⟨rfl, HB2.out⟩
        · rw [if_neg h61] at HR
          by_cases h58 : x = 58
          · rw [if_pos h58] at HR
            have hans := HIH.out pos x hat HN.out (.inr h58)
            clear HKK HN2 hsb hhi h58 h61 hx
            go_wp2_with fail
            refine (HR.out _).mono ?_
            rintro e w4 ⟨rfl, rfl⟩
            go_wp2
            go_ret
            rw [hans]
            exact ⟨rfl, HB2.out⟩
          · rw [if_neg h58] at HR
            have HN3 := Aside0.mk (HN2.out (fun h => h.elim h61 h58))
            clear HKK HN2 hsb hhi h58 h61 hx
            go_wp2_with fail
            refine (HR.out _).mono ?_
            rintro e w4 ⟨rfl, rfl⟩
            go_wp2
            go_roundg (s.size - (pos + 1))
            case measure => have := HA.out; omega
            case rel => exact ⟨pos + 1, ⟨by omega, rfl⟩, HN3, HI2, HB2⟩
      · have hrh := hhi (by omega)
        have HR := Aside0.mk (fun W => indexRune_high (rn : Int) (by omega) (by omega) W)
        have HN3 := Aside0.mk (HN2.out (fun h => by
          rcases h with rfl | rfl
          · exact ha (by decide)
          · exact ha (by decide)))
        clear HKK HN2 hhi
        go_wp2_with fail
        refine (HR.out _).mono ?_
        rintro e w4 ⟨rfl, hb4⟩
        have HI4 : Aside0 (w4.heap[w1.heap.size]? = some (.stringIter s (pos + kk))) := ⟨(hb4.block _ HBI.out).trans HI2.out⟩
        have HB4 : Aside0 (Below w1.heap.size w1 w4) := ⟨below_to HB2.out hb4⟩
        clear hb4
        go_wp2
        go_roundg (s.size - (pos + kk))
        case measure => have := HA.out; omega
        case rel => exact ⟨pos + kk, ⟨by omega, rfl⟩, HN3, HI4, HB4⟩
    · have hnx : ∀ ty, (Instr.next (.pointer (some ⟨w1.heap.size, 0, none⟩)) true ty).run Tryz.prog wr = _ := fun ty => run_next_end_at wr w1.heap.size s pos ty HI.out hp
      have hans := HIN.out (by
        have h1 := HN.out
        rwa [List.take_of_length_le (by have := HSL.out; omega)] at h1)
      go_wp2
      go_ret
      rw [hans]
      exact ⟨rfl, HB.out⟩

end Go.Proofs.YtkipjalfgdfaiaaGreatDoor

namespace Go.Proofs.YtkipjalfgdfaiaaGreatDoor
set_option linter.unusedVariables false
set_option linter.unusedSimpArgs false
open Go.RowKit Go.Proofs.YtkipjalfgdfaiaaGreatDoorW.PrintWords Go.Proofs.YtkipjalfgdfaiaaGreatDoorW.PrintLast Go.Proofs.YtkipjalfgdfaiaaGreatDoorW.PrintMore

theorem index_all (s : ByteArray) (hs : s.size < 4294967281) : IndexIs s := by
  by_cases h : s.size ≤ 8
  · exact index_short s h
  · exact index_long s (by omega) hs
theorem resolve_all (b : ByteArray) (hal : AliasIs b) (s : ByteArray) (m : Int) (w : World) (hm : MaxIs w m) (hs : s.size < 4294967281) :
    Calls Tryz.prog 102 #[.string s] w fun e w' => e = .returned (.tuple #[.int .i64 (resolveL (rowsB b) s).1, .string (resolveL (rowsB b) s).2.1, .int .i64 (resolveL (rowsB b) s).2.2]) ∧ Below w.heap.size w w' :=
  resolve_any b hal s m w hm (by omega) (index_all s hs)

theorem findL_mem : ∀ {R : List (List ByteArray)} {k want v : ByteArray}, findL k want R = some v → ∃ f ∈ R, cellB f 0 = k ∧ cellB f 1 = v
  | [], _, _, _, h => by cases h
  | f :: r, k, want, v, h => by
    unfold findL at h
    split at h
    · rename_i hh
      cases h
      unfold rowHit at hh
      rw [Bool.and_eq_true] at hh
      exact ⟨f, List.mem_cons_self, eqB_iff.1 hh.1, rfl⟩
    · obtain ⟨g, hg, h2⟩ := findL_mem h
      exact ⟨g, List.mem_cons_of_mem _ hg, h2⟩
/-- What a found value is good for. -/
def Found (R : List (List ByteArray)) (r : Int × ByteArray × Int) : Prop := r = errN ∨ r = errV ∨ ∃ n v l, r = (n, v, 0) ∧ (n = 1 ∨ n = 2 ∨ n = 3) ∧ longL n v R = some l ∧ resolveL R (aheadB n ++ l) = (n, v, 0)
theorem numB_three (k : ByteArray) : numB k = 1 ∨ numB k = 2 ∨ numB k = 3 := by
  unfold numB
  split
  · exact .inl rfl
  · split
    · exact .inr (.inl rfl)
    · exact .inr (.inr rfl)
theorem found_row {R : List (List ByteArray)} (hb : backOk R = true) {k want v : ByteArray} (hk : kindsL.any (fun q => eqB k q) = true) (h : findL k want R = some v) : Found R (numB k, v, 0) := by
  obtain ⟨f, hf, rfl, rfl⟩ := findL_mem h
  unfold backOk at hb
  rw [Bool.and_eq_true, List.all_eq_true] at hb
  have h1 := hb.1 f hf
  rw [hk, Bool.not_true, Bool.false_or] at h1
  unfold backRow at h1
  split at h1
  · cases h1
  · rename_i l hl
    simp only [Bool.and_eq_true, beq_iff_eq] at h1
    obtain ⟨⟨e1, e2⟩, e3⟩ := h1
    exact .inr (.inr ⟨_, _, l, rfl, numB_three _, hl, Prod.ext e1 (Prod.ext (eqB_iff.1 e2) e3)⟩)
theorem bare_found {R : List (List ByteArray)} (hb : backOk R = true) (s : ByteArray) : ∀ ks : List ByteArray, (∀ k ∈ ks, k ∈ kindsL) → Found R (bareL R s ks)
  | [], _ => .inl rfl
  | k :: r, h => by
    unfold bareL
    split
    · exact bare_found hb s r (fun q hq => h q (List.mem_cons_of_mem _ hq))
    · rename_i v hv
      exact found_row hb (List.any_eq_true.2 ⟨k, h k List.mem_cons_self, eqB_self k⟩) hv
theorem resolve_found {R : List (List ByteArray)} (hb : backOk R = true) (s : ByteArray) : Found R (resolveL R s) := by
  unfold resolveL
  split
  · unfold keyL
    split
    · exact .inl rfl
    · rename_i k hk
      unfold valL
      split
      · exact .inr (.inl rfl)
      · rename_i v hv
        obtain ⟨f, hf, h0, h1⟩ := findL_mem hk
        have hb2 := hb
        unfold backOk at hb2
        rw [Bool.and_eq_true, List.all_eq_true, List.all_eq_true] at hb2
        have h2 := hb2.2 f hf
        rw [h0, eqB_self, Bool.not_true, Bool.false_or, h1] at h2
        exact found_row hb h2 hv
  · exact bare_found hb s kindsL (fun k hk => hk)

end Go.Proofs.YtkipjalfgdfaiaaGreatDoor
namespace Go.Proofs.YtkipjalfgdfaiaaGreatDoor
set_option linter.unusedVariables false
set_option linter.unusedSimpArgs false
open Go.RowKit Go.Proofs.YtkipjalfgdfaiaaGreatDoorW.PrintWords Go.Proofs.YtkipjalfgdfaiaaGreatDoorW.PrintLast Go.Proofs.YtkipjalfgdfaiaaGreatDoorW.PrintMore Go.Proofs.YtkipjalfgdfaiaaGreatDoor.PTk

/-- A byte that may stand at place j of a name. -/
def okAt (j : Nat) (x : Int) : Bool := wordB x || (digB x && decide (j ≠ 0))
theorem nameB_fine {l : List Int} (h : ∀ j (hj : j < l.length), okAt j l[j] = true) : nameB l = (decide (l.length ≠ 0) && decide (l.length ≤ 20)) := by
  cases l with
  | nil => rfl
  | cons c t =>
    have h0 := h 0 (by simp)
    have ht : t.all (fun d => wordB d || digB d) = true := by
      rw [List.all_eq_true]
      intro x hx
      obtain ⟨j, hj, rfl⟩ := List.getElem_of_mem hx
      have := h (j + 1) (by simp; omega)
      simpa [okAt] using this
    have hc : wordB c = true := by simpa [okAt] using h0
    show (wordB c && t.all (fun d => wordB d || digB d) && decide (t.length < 20)) = _
    rw [hc, ht]
    simp only [Bool.true_and, List.length_cons]
    by_cases h20 : t.length < 20
    · rw [decide_eq_true h20, decide_eq_true (show t.length + 1 ≤ 20 by omega), decide_eq_true (show t.length + 1 ≠ 0 by omega)]; rfl
    · rw [decide_eq_false h20, decide_eq_false (show ¬ t.length + 1 ≤ 20 by omega), Bool.and_false]
theorem nameB_foul {l : List Int} (j : Nat) (hj : j < l.length) (h : okAt j l[j] = false) : nameB l = false := by
  cases l with
  | nil => simp at hj
  | cons c t =>
    show (wordB c && t.all (fun d => wordB d || digB d) && decide (t.length < 20)) = false
    cases j with
    | zero =>
      have : wordB c = false := by simpa [okAt] using h
      rw [this]; rfl
    | succ j =>
      have hm : t.all (fun d => wordB d || digB d) = false := by
        rw [List.all_eq_false]
        refine ⟨t[j]'(by simpa using hj), List.getElem_mem _, ?_⟩
        have : okAt (j + 1) (t[j]'(by simpa using hj)) = false := by simpa using h
        simpa [okAt] using this
      rw [hm, Bool.and_false, Bool.false_and]
theorem bytes_get (s : ByteArray) (j : Nat) (h : j < s.size) (h2 : j < (bytesOf s).length) : (bytesOf s)[j]'h2 = ((s[j]'h).toNat : Int) := by
  have e : (bytesOf s)[j]? = some ((s[j]'h).toNat : Int) := by
    unfold bytesOf
    rw [List.getElem?_map, List.getElem?_eq_getElem (by rw [← Lib.size_eq s]; exact h)]
    rfl
  rw [List.getElem?_eq_getElem h2] at e
  exact Option.some.inj e
theorem or32 (c : Nat) (h : c < 128) : (decide (97 ≤ bits .or .i32 (c : Int) 32) && decide (bits .or .i32 (c : Int) 32 ≤ 122)) = letB (c : Int) := by
  have k : ∀ c : Fin 128, (decide (97 ≤ bits .or .i32 (c.val : Int) 32) && decide (bits .or .i32 (c.val : Int) 32 ≤ 122)) = letB (c.val : Int) := by decide +kernel
  exact k ⟨c, h⟩
set_option maxRecDepth 100000 in
theorem word_any (c : Nat) (W : World) : Calls Tryz.prog 145 #[.int .i32 (c : Int)] W fun e w' => e = .returned (.bool (decide (c < 128) && wordB (c : Int))) ∧ w' = W := by
  have ho := or32 c
  have hw : wordB (c : Int) = (letB (c : Int) || ((c : Int) == 95)) := rfl
  obtain ⟨o, hoo⟩ : ∃ o, bits .or .i32 (c : Int) 32 = o := ⟨_, rfl⟩
  rw [hoo] at ho
  rw [hw]
  clear hw
  obtain ⟨lt, hlt⟩ : ∃ lt, letB (c : Int) = lt := ⟨_, rfl⟩
  rw [hlt] at ho ⊢
  clear hlt
  by_cases h3 : c < 128
  · have ho := ho h3
    rw [decide_eq_true h3, ← ho]
    by_cases h1 : 97 ≤ o
    · by_cases h2 : o ≤ 122
      · rw [decide_eq_true h1, decide_eq_true h2]
        clear ho
        go_enter Tryz.func145, Tryz.ntmps145
        go_wp2
        go_ret
        exact ⟨rfl, rfl⟩
      · rw [decide_eq_true h1, decide_eq_false h2]
        clear ho
        go_enter Tryz.func145, Tryz.ntmps145
        go_wp2
        go_ret
        exact ⟨rfl, rfl⟩
    · rw [decide_eq_false h1]
      clear ho
      go_enter Tryz.func145, Tryz.ntmps145
      go_wp2
      go_ret
      exact ⟨rfl, rfl⟩
  · rw [decide_eq_false h3, Bool.false_and]
    have h4 : ((c : Int) == 95) = false := by rw [beq_eq_false_iff_ne]; omega
    have h5 : ¬ ((c : Int) < 128) := by omega
    by_cases h1 : 97 ≤ o
    · by_cases h2 : o ≤ 122
      · go_enter Tryz.func145, Tryz.ntmps145
        go_wp2
        go_ret
        exact ⟨rfl, rfl⟩
      · go_enter Tryz.func145, Tryz.ntmps145
        go_wp2
        go_ret
        exact ⟨rfl, rfl⟩
    · go_enter Tryz.func145, Tryz.ntmps145
      go_wp2
      go_ret
      exact ⟨rfl, rfl⟩

set_option maxHeartbeats 4000000 in
set_option maxRecDepth 100000 in
theorem fine_any (s : ByteArray) (w : World) : Calls Tryz.prog 103 #[.string s] w fun e w' => e = .returned (.bool (nameB (bytesOf s))) ∧ Below w.heap.size w w' := by
  have hbl : (bytesOf s).length = s.size := by unfold bytesOf; rw [List.length_map]; exact (Lib.size_eq s).symm
  have HF : Aside0 ((∀ j (hj : j < s.size), okAt j ((s[j]'hj).toNat : Int) = true) → nameB (bytesOf s) = (decide (s.size ≠ 0) && decide (s.size ≤ 20))) := ⟨fun h => by
    have := nameB_fine (l := bytesOf s) (fun j hj => by
      have := h j (by omega)
      rw [← this]
      rw [bytes_get s j])
    rw [hbl] at this
    exact this⟩
  have HG : Aside0 (∀ j (hj : j < s.size), okAt j ((s[j]'hj).toNat : Int) = false → nameB (bytesOf s) = false) := ⟨fun j hj h => nameB_foul j (by omega) (by
    rw [← h]
    rw [bytes_get s j])⟩
  obtain ⟨ans, hans⟩ : ∃ ans, nameB (bytesOf s) = ans := ⟨_, rfl⟩
  rw [hans] at HF HG ⊢
  have HIT : Aside0 ((w.iter s 0).heap[w.heap.size]? = some (.stringIter s 0)) := ⟨World.iter_heap w s 0⟩
  have HB0 : Aside0 (Below w.heap.size w (w.iter s 0)) := ⟨below_alloc (Below.refl _ _) _⟩
  have HE : Aside0 (s.toList.isEmpty = decide (s.size = 0)) := ⟨by
    rw [ByteArray.toList_eq, Lib.size_eq s]
    cases s.data.toList <;> simp⟩
  have HW := Aside0.mk word_any
  clear hans hbl
  go_enter Tryz.func103, Tryz.ntmps103
  go_wp2_with fail
  go_loopg [] s.size (fun gk w' => ∃ (pos : Nat), Aside0 (pos ≤ s.size ∧ gk = s.size - pos) ∧ Aside0 (∀ j (hj : j < s.size), j < pos → okAt j ((s[j]'hj).toNat : Int) = true) ∧ Aside0 (w'.heap[w.heap.size]? = some (.stringIter s pos)) ∧ Aside0 (Below w.heap.size w w'))
  case atStart => exact ⟨0, ⟨Nat.zero_le _, rfl⟩, ⟨fun j hj h => absurd h (by omega)⟩, HIT, HB0⟩
  case round =>
    obtain ⟨pos, HA, HN, HI, HB⟩ := hrel
    by_cases hp : pos < s.size
    · have hnx : ∀ ty, (Instr.next (.pointer (some ⟨w.heap.size, 0, none⟩)) true ty).run Tryz.prog wr = _ := fun ty => Lib.run_next_any_at wr w.heap.size s pos ty HI.out hp
      have hdle := decode_le s pos
      have hasc := fun ha => decode_ascii s pos hp ha
      have hhi := fun ha => (decode_high s pos hp ha).1
      have HS := Aside0.mk (HG.out pos hp)
      have HM : Aside0 (okAt pos ((s[pos]'hp).toNat : Int) = true → ∀ j (hj : j < s.size), j < pos + 1 → okAt j ((s[j]'hj).toNat : Int) = true) := ⟨fun h j hj hlt => by
        by_cases hjp : j = pos
        · subst hjp; exact h
        · exact HN.out j hj (by omega)⟩
      have hxl : (s[pos]'hp).toNat ≤ 255 := by have := (s[pos]'hp).toNat_lt; omega
      obtain ⟨x, hx⟩ : ∃ x, (s[pos]'hp).toNat = x := ⟨_, rfl⟩
      rw [hx] at HS HM hasc hhi hxl
      obtain ⟨rn, hrn⟩ : ∃ rn, (Utf8.decode s pos).1 = rn := ⟨_, rfl⟩
      obtain ⟨kk, hkk⟩ : ∃ kk, (Utf8.decode s pos).2 = kk := ⟨_, rfl⟩
      have HKK : Aside0 (x < 128 → rn = x ∧ kk = 1) := ⟨fun h => by rw [← hrn, ← hkk, hasc h]; exact ⟨rfl, rfl⟩⟩
      rw [hrn, hkk] at hnx
      rw [hrn] at hdle hhi
      clear hrn hkk hasc hx
      have HI2 : Aside0 ((wr.iterAt w.heap.size s (pos + kk)).heap[w.heap.size]? = some (.stringIter s (pos + kk))) := ⟨Lib.iterAt_heap wr w.heap.size s pos (pos + kk) HI.out⟩
      have HB2 : Aside0 (Below w.heap.size w (wr.iterAt w.heap.size s (pos + kk))) := ⟨Lib.below_iterAt HB.out (Nat.le_refl _) s (pos + kk)⟩
      have hwd : okAt pos (x : Int) = ((decide (rn < 128) && wordB (rn : Int)) || (decide (48 ≤ rn) && decide (rn ≤ 57) && decide (pos ≠ 0))) := by
        by_cases hx : x < 128
        · obtain ⟨rfl, -⟩ := HKK.out hx
          unfold okAt digB
          rw [decide_eq_true hx, Bool.true_and]
          congr 1
          congr 1
          by_cases a1 : 48 ≤ rn <;> by_cases a2 : rn ≤ 57 <;> simp [a1, a2] <;> omega
        · have h2 := hhi (by omega)
          have e1 : okAt pos (x : Int) = false := by
            unfold okAt wordB letB digB
            rw [decide_eq_false (show ¬ (x : Int) ≤ 122 by omega), decide_eq_false (show ¬ (x : Int) ≤ 90 by omega), decide_eq_false (show ¬ (x : Int) ≤ 57 by omega), beq_eq_false_iff_ne.2 (show (x : Int) ≠ 95 by omega)]
            simp
          rw [e1, decide_eq_false (show ¬ rn < 128 by omega), decide_eq_false (show ¬ rn ≤ 57 by omega)]
          simp
      have HC := Aside0.mk (fun W => word_any rn W)
      obtain ⟨wb, hwb⟩ : ∃ wb, (decide (rn < 128) && wordB (rn : Int)) = wb := ⟨_, rfl⟩
      rw [hwb] at HC hwd
      clear hwb
      by_cases hok : okAt pos (x : Int) = true
      · have hx : x < 128 := by
          rcases Nat.lt_or_ge x 128 with h | h
          · exact h
          · exfalso
            have e1 : okAt pos (x : Int) = false := by
              unfold okAt wordB letB digB
              rw [decide_eq_false (show ¬ (x : Int) ≤ 122 by omega), decide_eq_false (show ¬ (x : Int) ≤ 90 by omega), decide_eq_false (show ¬ (x : Int) ≤ 57 by omega), beq_eq_false_iff_ne.2 (show (x : Int) ≠ 95 by omega)]
              simp
            rw [e1] at hok
            cases hok
        obtain ⟨rfl, rfl⟩ := HKK.out hx
        have HM2 := Aside0.mk (HM.out hok)
        rw [hok] at hwd
        clear hok hhi HS HM HKK hx hxl
        cases wb with
        | true =>
          clear hwd
          go_wp2_with fail
          refine (HC.out _).mono ?_
          rintro e w4 ⟨rfl, rfl⟩
          go_wp2
          go_roundg (s.size - (pos + 1))
          case measure => have := HA.out; omega
          case rel => exact ⟨pos + 1, ⟨by omega, rfl⟩, HM2, HI2, HB2⟩
        | false =>
          rw [Bool.false_or] at hwd
          replace hwd := hwd.symm
          rw [Bool.and_eq_true, Bool.and_eq_true, decide_eq_true_eq, decide_eq_true_eq, decide_eq_true_eq] at hwd
          obtain ⟨⟨a1, a2⟩, a3⟩ := hwd
          have a4 : ((pos : Int) == 0) = false := by rw [beq_eq_false_iff_ne]; omega
          have a5 : ¬ ((rn : Int) < 48) := by omega
          have a6 : ¬ (57 < (rn : Int)) := by omega
          clear a1 a2 a3
          go_wp2_with fail
          refine (HC.out _).mono ?_
          rintro e w4 ⟨rfl, rfl⟩
          go_wp2
          go_roundg (s.size - (pos + 1))
          case measure => have := HA.out; omega
          case rel => exact ⟨pos + 1, ⟨by omega, rfl⟩, HM2, HI2, HB2⟩
      · rw [Bool.not_eq_true] at hok
        have HANS := Aside0.mk (HS.out hok)
        rw [hok] at hwd
        clear hok hhi HS HM HKK hxl
        cases wb with
        | true => rw [Bool.true_or] at hwd; cases hwd
        | false =>
          rw [Bool.false_or] at hwd
          by_cases a4 : pos = 0
          · have a5 : ((pos : Int) == 0) = true := by rw [a4]; rfl
            clear hwd a4
            go_wp2_with fail
            refine (HC.out _).mono ?_
            rintro e w4 ⟨rfl, rfl⟩
            go_wp2
            go_ret
            rw [HANS.out]
            exact ⟨rfl, HB2.out⟩
          · have a5 : ((pos : Int) == 0) = false := by rw [beq_eq_false_iff_ne]; omega
            rw [decide_eq_true a4, Bool.and_true] at hwd
            by_cases a1 : (rn : Int) < 48
            · clear hwd
              go_wp2_with fail
              refine (HC.out _).mono ?_
              rintro e w4 ⟨rfl, rfl⟩
              go_wp2
              go_ret
              rw [HANS.out]
              exact ⟨rfl, HB2.out⟩
            · rw [decide_eq_true (show 48 ≤ rn by omega), Bool.true_and, eq_comm, decide_eq_false_iff_not] at hwd
              have a6 : 57 < (rn : Int) := by omega
              clear hwd a4
              go_wp2_with fail
              refine (HC.out _).mono ?_
              rintro e w4 ⟨rfl, rfl⟩
              go_wp2
              go_ret
              rw [HANS.out]
              exact ⟨rfl, HB2.out⟩
    · have hnx : ∀ ty, (Instr.next (.pointer (some ⟨w.heap.size, 0, none⟩)) true ty).run Tryz.prog wr = _ := fun ty => Lib.run_next_end_at wr w.heap.size s pos ty HI.out hp
      have HANS := Aside0.mk (HF.out (fun j hj => HN.out j hj (by omega)))
      have hem := HE.out
      by_cases h0 : s.size = 0
      · rw [decide_eq_true h0] at hem
        go_wp2
        go_ret
        rw [HANS.out, decide_eq_false (show ¬ s.size ≠ 0 by omega)]
        exact ⟨rfl, HB.out⟩
      · rw [decide_eq_false h0] at hem
        by_cases h2 : s.size ≤ 20
        · have h3 : ((s.size : Int) ≤ 20) := by omega
          go_wp2
          go_ret
          rw [HANS.out, decide_eq_true h2, decide_eq_true h0]
          exact ⟨rfl, HB.out⟩
        · have h3 : ¬ ((s.size : Int) ≤ 20) := by omega
          go_wp2
          go_ret
          rw [HANS.out, decide_eq_false h2, Bool.and_false]
          exact ⟨rfl, HB.out⟩

end Go.Proofs.YtkipjalfgdfaiaaGreatDoor
namespace Go.Proofs.YtkipjalfgdfaiaaGreatDoor
set_option linter.unusedVariables false
set_option linter.unusedSimpArgs false
open Go.RowKit Go.Proofs.YtkipjalfgdfaiaaGreatDoorW.PrintWords Go.Proofs.YtkipjalfgdfaiaaGreatDoorW.PrintLast Go.Proofs.YtkipjalfgdfaiaaGreatDoorW.PrintMore Go.Proofs.YtkipjalfgdfaiaaGreatDoor.PTk

theorem findL_small {R : List (List ByteArray)} (h : rowsOk R = true) {k want v : ByteArray} (hf : findL k want R = some v) : v.size < 1000 := by
  obtain ⟨f, hm, -, rfl⟩ := findL_mem hf
  obtain ⟨h3, hs, -⟩ := row_ok h hm
  rw [cell_at (show 1 < f.length by omega)]
  exact hs _ (List.getElem_mem _)
theorem bare_small {R : List (List ByteArray)} (h : rowsOk R = true) (s : ByteArray) : ∀ ks, (bareL R s ks).2.1.size < 1000
  | [] => by unfold bareL; decide
  | k :: r => by
    unfold bareL
    split
    · exact bare_small h s r
    · rename_i v hv
      exact findL_small h hv
theorem resolve_small {R : List (List ByteArray)} (h : rowsOk R = true) (s : ByteArray) : (resolveL R s).2.1.size < 1000 := by
  unfold resolveL
  split
  · unfold keyL
    split
    · decide
    · unfold valL
      split
      · decide
      · rename_i v hv
        exact findL_small h hv
  · exact bare_small h s _

end Go.Proofs.YtkipjalfgdfaiaaGreatDoor
namespace Go.Proofs.YtkipjalfgdfaiaaGreatDoor
set_option linter.unusedVariables false
set_option linter.unusedSimpArgs false
open Go.RowKit Go.Proofs.YtkipjalfgdfaiaaGreatDoorW.PrintWords Go.Proofs.YtkipjalfgdfaiaaGreatDoorW.PrintLast Go.Proofs.YtkipjalfgdfaiaaGreatDoorW.PrintMore Go.Proofs.YtkipjalfgdfaiaaGreatDoor.PTk

theorem box_after {W w1 : World} {o : Obj} (hb : Below (W.alloc o).heap.size (W.alloc o) w1) : w1.heap[W.heap.size]? = some o ∧ W.heap.size < w1.heap.size := by
  have h := heap_alloc_new W o
  have h2 : (W.alloc o).heap.size = W.heap.size + 1 := by simp
  exact ⟨(hb.block W.heap.size (by omega)).trans h, by have := hb.size; omega⟩
def RetHas (l : List ByteArray) (x : ByteArray) (w : World) (e : Ending) (w' : World) : Prop := ∃ i : Int, (0 ≤ i ↔ x ∈ l) ∧ e = .returned (.int .i64 i) ∧ Below w.heap.size w w'
set_option maxRecDepth 100000 in
theorem index_str (w : World) (ad : Addr) (c : Nat) (l : List ByteArray) (x : ByteArray) (hx : ∀ j (hj : j < l.length), w.cell? (ad.add j) = some (.string l[j])) (hb : ad.block < w.heap.size) (hl : l.length ≤ 1000) :
    Calls Tryz.prog 141 #[.slice (some ad) l.length c, .string x] w (RetHas l x w) := by
  have HX := Aside0.mk hx
  have HBB := Aside0.mk hb
  have HL := Aside0.mk hl
  clear hx hb
  go_enter Tryz.func141, Tryz.ntmps141
  go_wp2_with fail
  go_loopg [8] l.length (fun gk v w' => ∃ k : Nat, v = .int .i64 (k : Int) ∧ Aside0 (k ≤ l.length ∧ gk = l.length - k) ∧ Aside0 (∀ j (hj : j < l.length), j < k → l[j] ≠ x) ∧ Aside0 (Below w.heap.size w w'))
  case atStart => exact ⟨0, rfl, ⟨Nat.zero_le _, rfl⟩, ⟨fun j hj h => absurd h (by omega)⟩, ⟨Below.refl _ _⟩⟩
  case round =>
    obtain ⟨k, rfl, HA, HN, HB⟩ := hrel
    by_cases hk : k < l.length
    · have hc := (HB.out.cell (p := ad.add k) (by rw [show (ad.add k).block = ad.block by cases ad; simp only [Addr.add]; split <;> rfl]; exact HBB.out)).trans (HX.out k hk)
      have HM := Aside0.mk (List.getElem_mem hk)
      have HN2 : Aside0 (l[k] ≠ x → ∀ j (hj : j < l.length), j < k + 1 → l[j] ≠ x) := ⟨fun h j hj hlt => by
        by_cases hjk : j = k
        · subst hjk; exact h
        · exact HN.out j hj (by omega)⟩
      obtain ⟨y, hy⟩ : ∃ y, l[k] = y := ⟨_, rfl⟩
      rw [hy] at hc HM HN2
      by_cases hyx : x = y
      · subst hyx
        have hi : (x.toList == x.toList) = true := beq_self_eq_true _
        clear hy
        go_wp2
        go_ret
        exact ⟨k, ⟨fun _ => HM.out, fun _ => by omega⟩, rfl, HB.out⟩
      · have hi : (x.toList == y.toList) = false := by
          rw [beq_eq_false_iff_ne]
          intro h
          exact hyx (ba_inj h)
        have HN3 := Aside0.mk (HN2.out (fun h => hyx h.symm))
        clear hy
        go_wp2
        go_roundg (l.length - (k + 1))
        case measure => have := HA.out; omega
        case rel => exact ⟨k + 1, by exact congrArg _ (by omega), ⟨by omega, rfl⟩, HN3, HB⟩
    · go_wp2
      go_ret
      exact ⟨-1, ⟨fun h => absurd h (by decide), fun h => by
        obtain ⟨j, hj, hjx⟩ := List.getElem_of_mem h
        exact absurd hjx (HN.out j hj (by have := HA.out; omega))⟩, rfl, HB.out⟩
set_option maxRecDepth 100000 in
theorem contains_str (w : World) (ad : Addr) (c : Nat) (l : List ByteArray) (x : ByteArray) (hx : ∀ j (hj : j < l.length), w.cell? (ad.add j) = some (.string l[j])) (hb : ad.block < w.heap.size) (hl : l.length ≤ 1000) :
    Calls Tryz.prog 101 #[.slice (some ad) l.length c, .string x] w fun e w' => e = .returned (.bool (l.any (fun y => decide (y = x)))) ∧ Below w.heap.size w w' := by
  have HI := Aside0.mk (index_str w ad c l x hx hb hl)
  clear hx hb
  go_enter Tryz.func101, Tryz.ntmps101
  go_wp2_with fail
  refine HI.out.mono ?_
  rintro e w1 ⟨i, hi, rfl, hb⟩
  have HB := Aside0.mk hb
  have hd : l.any (fun y => decide (y = x)) = decide (0 ≤ i) := by
    by_cases h : x ∈ l
    · rw [decide_eq_true (hi.2 h), List.any_eq_true]
      exact ⟨x, h, decide_eq_true rfl⟩
    · rw [decide_eq_false (fun h2 => h (hi.1 h2)), List.any_eq_false]
      intro y hy h2
      exact h ((of_decide_eq_true h2) ▸ hy)
  have HD := Aside0.mk hd
  clear hb hi hd
  go_wp2
  go_ret
  rw [HD.out]
  exact ⟨rfl, HB.out⟩
def lastB (kind : Int) (v : ByteArray) (er : Int) (nm : ByteArray) : Bool := er == 0 && decide ((if kind = 1 then (⟨#[103, 99, 61]⟩ ++ v : ByteArray) else if kind = 2 then ⟨#[115, 99, 61]⟩ ++ v else v) = nm)
theorem canon_last {R : ByteArray → Int × ByteArray × Int} {x : ByteArray} {kind : Int} {v : ByteArray} {er : Int} (h : R x = (kind, v, er)) : ((canonL R x).2 == 0 && decide ((canonL R x).1 = x)) = lastB kind v er x := by
  unfold canonL lastB
  rw [h]
  by_cases he : er = 0
  · subst he
    by_cases h1 : kind = 1
    · subst h1; rfl
    · by_cases h2 : kind = 2
      · subst h2; rfl
      · simp [h1, h2]
  · have hz : (er == 0) = false := by rw [beq_eq_false_iff_ne]; exact he
    simp [he, hz]
def has3 (s : ByteArray) : Bool := decide (s = ⟨#[100]⟩) || decide (s = ⟨#[119]⟩) || decide (s = ⟨#[115]⟩)
theorem contains3 (x : ByteArray) (w : World) :
    Calls Tryz.prog 101 #[.slice (some ⟨w.heap.size, 0, none⟩) 3 3, .string x] (w.alloc (.cells #[.string ⟨#[100]⟩, .string ⟨#[119]⟩, .string ⟨#[115]⟩] 9)) fun e w' => e = .returned (.bool (has3 x)) ∧ Below w.heap.size w w' := by
  have h := contains_str (w.alloc (.cells #[.string ⟨#[100]⟩, .string ⟨#[119]⟩, .string ⟨#[115]⟩] 9)) ⟨w.heap.size, 0, none⟩ 3 [⟨#[100]⟩, ⟨#[119]⟩, ⟨#[115]⟩] x (fun j hj => by
    rcases (show j = 0 ∨ j = 1 ∨ j = 2 by simp at hj; omega) with rfl | rfl | rfl <;> exact World.cell?_alloc_new ..) (by simp) (by simp)
  refine h.mono ?_
  rintro e w' ⟨rfl, hb⟩
  refine ⟨?_, below_box hb⟩
  have e : ∀ y : ByteArray, decide (y = x) = decide (x = y) := fun y => decide_eq_decide.2 eq_comm
  simp only [List.any_cons, List.any_nil, Bool.or_false, e, has3, Bool.or_assoc]

set_option maxHeartbeats 4000000 in
set_option maxRecDepth 100000 in
theorem propT_any (b : ByteArray) (hal : AliasIs b) {n : Nd} {w : World} {v : Value} (h : RdN w n v) (m : Int) (W : World) (hm : MaxIs W m) (hs : n.f5.size < 4294967281) :
    Calls Tryz.prog 70 #[v] W (OkPan (propN (resolveL (rowsB b)) n) W) := by
  have hO := fun W => only_any h 0 0 0 0 n.f4 n.f5 none none 0 0 0 0 W
  have HM := Aside0.mk must_any
  have HR := Aside0.mk (fun W hm => resolve_all b hal n.f5 m W hm hs)
  have HMI := Aside0.mk hm
  have hvs := resolve_small hal.2.2.1 n.f5
  obtain ⟨A6, c6, A7, c7, rfl, _⟩ := h
  unfold propN
  obtain ⟨R, hR⟩ : ∃ R, resolveL (rowsB b) = R := ⟨_, rfl⟩
  rw [hR]
  rw [hR] at HR hvs
  clear hR hm
  cases ho : onlyB n 0 0 0 n.f4 n.f5 0 with
  | false =>
    rw [ho] at hO
    rw [Bool.false_and]
    have HO := Aside0.mk hO
    clear hO
    go_enter Tryz.func70, Tryz.ntmps70
    go_wp2_with fail
    refine (HO.out _).mono ?_
    rintro e w1 ⟨rfl, hb1⟩
    have HB1 := Aside0.mk (below_box hb1)
    clear hb1
    go_wp2_with fail
    exact ⟨rfl, rfl, HB1.out⟩
  | true =>
    rw [ho] at hO
    rw [Bool.true_and]
    have HO := Aside0.mk hO
    clear hO ho
    have hC := contains3 n.f5
    unfold has3 at hC
    cases hi : (decide (n.f5 = ⟨#[100]⟩) || decide (n.f5 = ⟨#[119]⟩) || decide (n.f5 = ⟨#[115]⟩)) with
    | true =>
      rw [hi] at hC
      rw [Bool.true_or]
      have HC := Aside0.mk hC
      clear hC hi
      go_enter Tryz.func70, Tryz.ntmps70
      go_wp2_with fail
      refine (HO.out _).mono ?_
      rintro e w1 ⟨rfl, hb1⟩
      have HB1 := Aside0.mk (below_box hb1)
      obtain ⟨hbx, hlt⟩ := box_after hb1
      have HBX := Aside0.mk hbx
      have c5 := rowc hbx 5 _ rfl
      clear hb1 hbx
      go_wp2_with fail
      refine (HC.out _).mono ?_
      rintro e w2 ⟨rfl, hb2⟩
      have HB2 := Aside0.mk (below_to HB1.out hb2)
      clear hb2 c5
      go_wp2_with fail
      go_end0
      exact ⟨rfl, HB2.out⟩
    | false =>
      rw [hi] at hC
      rw [Bool.false_or]
      have HC := Aside0.mk hC
      clear hC hi
      obtain ⟨r, hr⟩ : ∃ r, R n.f5 = r := ⟨_, rfl⟩
      rw [hr] at HR hvs
      obtain ⟨kind, v, er⟩ := r
      rw [canon_last hr]
      unfold lastB
      clear hr
      simp only at HR hvs
      by_cases he : er = 0
      rotate_left
      · have hz : (er == 0) = false := by rw [beq_eq_false_iff_ne]; exact he
        simp only [hz, Bool.false_and]
        clear he
        go_enter Tryz.func70, Tryz.ntmps70
        go_wp2_with fail
        refine (HO.out _).mono ?_
        rintro e w1 ⟨rfl, hb1⟩
        have HB1 := Aside0.mk (below_box hb1)
        obtain ⟨hbx, hlt⟩ := box_after hb1
        have HBX := Aside0.mk hbx
        have c5 := rowc hbx 5 _ rfl
        clear hb1 hbx
        go_wp2_with fail
        refine (HC.out _).mono ?_
        rintro e w2 ⟨rfl, hb2⟩
        have HB2 := Aside0.mk (below_to HB1.out hb2)
        have hbx2 := (hb2.block _ hlt).trans HBX.out
        have d5 := rowc hbx2 5 _ rfl
        have HBX2 := Aside0.mk hbx2
        have hlt2 : W.heap.size < w2.heap.size := Nat.lt_of_lt_of_le hlt hb2.size
        clear hb2 hbx2 c5 hlt
        go_wp2_with fail
        refine (HR.out _ (HMI.out.below HB2.out)).mono ?_
        rintro e w3 ⟨rfl, hb3⟩
        have HB3 := Aside0.mk (below_to HB2.out hb3)
        have hbx3 := (hb3.block _ hlt2).trans HBX2.out
        have e5 := rowc hbx3 5 _ rfl
        clear hb3 hbx3 d5 hlt2
        go_wp2_with fail
        refine (HM.out false _).mono ?_
        rintro e w4 ⟨rfl, hb4⟩
        have HB4 := Aside0.mk (below_to HB3.out hb4)
        clear hb4
        go_wp2_with fail
        exact ⟨rfl, rfl, HB4.out⟩
      subst he
      by_cases h1 : kind = 1
      · simp only [if_pos h1]
        have hys : ((⟨#[103, 99, 61]⟩ : ByteArray) ++ v).size < 2000 := by rw [ByteArray.size_append]; have : (⟨#[103, 99, 61]⟩ : ByteArray).size = 3 := rfl; omega
        obtain ⟨y, hy⟩ : ∃ y, (⟨#[103, 99, 61]⟩ : ByteArray) ++ v = y := ⟨_, rfl⟩
        simp only [hy]
        subst h1
        by_cases hq : y = n.f5
        · rw [decide_eq_true hq]
          have hl : (y.toList == n.f5.toList) = true := by rw [hq]; exact beq_self_eq_true _
          clear hq
          simp only [Bool.and_true, Bool.and_false, beq_self_eq_true]
          go_enter Tryz.func70, Tryz.ntmps70
          go_wp2_with fail
          refine (HO.out _).mono ?_
          rintro e w1 ⟨rfl, hb1⟩
          have HB1 := Aside0.mk (below_box hb1)
          obtain ⟨hbx, hlt⟩ := box_after hb1
          have HBX := Aside0.mk hbx
          have c5 := rowc hbx 5 _ rfl
          clear hb1 hbx
          go_wp2_with fail
          refine (HC.out _).mono ?_
          rintro e w2 ⟨rfl, hb2⟩
          have HB2 := Aside0.mk (below_to HB1.out hb2)
          have hbx2 := (hb2.block _ hlt).trans HBX.out
          have d5 := rowc hbx2 5 _ rfl
          have HBX2 := Aside0.mk hbx2
          have hlt2 : W.heap.size < w2.heap.size := Nat.lt_of_lt_of_le hlt hb2.size
          clear hb2 hbx2 c5 hlt
          go_wp2_with fail
          refine (HR.out _ (HMI.out.below HB2.out)).mono ?_
          rintro e w3 ⟨rfl, hb3⟩
          have HB3 := Aside0.mk (below_to HB2.out hb3)
          have hbx3 := (hb3.block _ hlt2).trans HBX2.out
          have e5 := rowc hbx3 5 _ rfl
          clear hb3 hbx3 d5 hlt2
          go_wp2_with fail
          refine (HM.out true _).mono ?_
          rintro e w4 ⟨rfl, hb4⟩
          have f5 := pw_cell_below hb4 e5
          have HB4 := Aside0.mk (below_to HB3.out hb4)
          clear hb4 e5
          go_wp2_with fail
          refine (HM.out true _).mono ?_
          rintro e w5 ⟨rfl, hb5⟩
          have HB5 := Aside0.mk (below_to HB4.out hb5)
          clear hb5
          go_wp2_with fail
          go_end0
          exact ⟨rfl, HB5.out⟩
        · rw [decide_eq_false hq]
          have hl : (y.toList == n.f5.toList) = false := by rw [beq_eq_false_iff_ne]; intro h; exact hq (ba_inj h)
          clear hq
          simp only [Bool.and_true, Bool.and_false, beq_self_eq_true]
          go_enter Tryz.func70, Tryz.ntmps70
          go_wp2_with fail
          refine (HO.out _).mono ?_
          rintro e w1 ⟨rfl, hb1⟩
          have HB1 := Aside0.mk (below_box hb1)
          obtain ⟨hbx, hlt⟩ := box_after hb1
          have HBX := Aside0.mk hbx
          have c5 := rowc hbx 5 _ rfl
          clear hb1 hbx
          go_wp2_with fail
          refine (HC.out _).mono ?_
          rintro e w2 ⟨rfl, hb2⟩
          have HB2 := Aside0.mk (below_to HB1.out hb2)
          have hbx2 := (hb2.block _ hlt).trans HBX.out
          have d5 := rowc hbx2 5 _ rfl
          have HBX2 := Aside0.mk hbx2
          have hlt2 : W.heap.size < w2.heap.size := Nat.lt_of_lt_of_le hlt hb2.size
          clear hb2 hbx2 c5 hlt
          go_wp2_with fail
          refine (HR.out _ (HMI.out.below HB2.out)).mono ?_
          rintro e w3 ⟨rfl, hb3⟩
          have HB3 := Aside0.mk (below_to HB2.out hb3)
          have hbx3 := (hb3.block _ hlt2).trans HBX2.out
          have e5 := rowc hbx3 5 _ rfl
          clear hb3 hbx3 d5 hlt2
          go_wp2_with fail
          refine (HM.out true _).mono ?_
          rintro e w4 ⟨rfl, hb4⟩
          have f5 := pw_cell_below hb4 e5
          have HB4 := Aside0.mk (below_to HB3.out hb4)
          clear hb4 e5
          go_wp2_with fail
          refine (HM.out false _).mono ?_
          rintro e w5 ⟨rfl, hb5⟩
          have HB5 := Aside0.mk (below_to HB4.out hb5)
          clear hb5
          go_wp2_with fail
          exact ⟨rfl, rfl, HB5.out⟩
      simp only [if_neg h1]
      have e1 : (kind == 1) = false := by rw [beq_eq_false_iff_ne]; exact h1
      clear h1
      by_cases h2 : kind = 2
      · simp only [if_pos h2]
        have hys : ((⟨#[115, 99, 61]⟩ : ByteArray) ++ v).size < 2000 := by rw [ByteArray.size_append]; have : (⟨#[115, 99, 61]⟩ : ByteArray).size = 3 := rfl; omega
        obtain ⟨y, hy⟩ : ∃ y, (⟨#[115, 99, 61]⟩ : ByteArray) ++ v = y := ⟨_, rfl⟩
        simp only [hy]
        subst h2
        by_cases hq : y = n.f5
        · rw [decide_eq_true hq]
          have hl : (y.toList == n.f5.toList) = true := by rw [hq]; exact beq_self_eq_true _
          clear hq
          simp only [Bool.and_true, Bool.and_false, beq_self_eq_true]
          go_enter Tryz.func70, Tryz.ntmps70
          go_wp2_with fail
          refine (HO.out _).mono ?_
          rintro e w1 ⟨rfl, hb1⟩
          have HB1 := Aside0.mk (below_box hb1)
          obtain ⟨hbx, hlt⟩ := box_after hb1
          have HBX := Aside0.mk hbx
          have c5 := rowc hbx 5 _ rfl
          clear hb1 hbx
          go_wp2_with fail
          refine (HC.out _).mono ?_
          rintro e w2 ⟨rfl, hb2⟩
          have HB2 := Aside0.mk (below_to HB1.out hb2)
          have hbx2 := (hb2.block _ hlt).trans HBX.out
          have d5 := rowc hbx2 5 _ rfl
          have HBX2 := Aside0.mk hbx2
          have hlt2 : W.heap.size < w2.heap.size := Nat.lt_of_lt_of_le hlt hb2.size
          clear hb2 hbx2 c5 hlt
          go_wp2_with fail
          refine (HR.out _ (HMI.out.below HB2.out)).mono ?_
          rintro e w3 ⟨rfl, hb3⟩
          have HB3 := Aside0.mk (below_to HB2.out hb3)
          have hbx3 := (hb3.block _ hlt2).trans HBX2.out
          have e5 := rowc hbx3 5 _ rfl
          clear hb3 hbx3 d5 hlt2
          go_wp2_with fail
          refine (HM.out true _).mono ?_
          rintro e w4 ⟨rfl, hb4⟩
          have f5 := pw_cell_below hb4 e5
          have HB4 := Aside0.mk (below_to HB3.out hb4)
          clear hb4 e5
          go_wp2_with fail
          refine (HM.out true _).mono ?_
          rintro e w5 ⟨rfl, hb5⟩
          have HB5 := Aside0.mk (below_to HB4.out hb5)
          clear hb5
          go_wp2_with fail
          go_end0
          exact ⟨rfl, HB5.out⟩
        · rw [decide_eq_false hq]
          have hl : (y.toList == n.f5.toList) = false := by rw [beq_eq_false_iff_ne]; intro h; exact hq (ba_inj h)
          clear hq
          simp only [Bool.and_true, Bool.and_false, beq_self_eq_true]
          go_enter Tryz.func70, Tryz.ntmps70
          go_wp2_with fail
          refine (HO.out _).mono ?_
          rintro e w1 ⟨rfl, hb1⟩
          have HB1 := Aside0.mk (below_box hb1)
          obtain ⟨hbx, hlt⟩ := box_after hb1
          have HBX := Aside0.mk hbx
          have c5 := rowc hbx 5 _ rfl
          clear hb1 hbx
          go_wp2_with fail
          refine (HC.out _).mono ?_
          rintro e w2 ⟨rfl, hb2⟩
          have HB2 := Aside0.mk (below_to HB1.out hb2)
          have hbx2 := (hb2.block _ hlt).trans HBX.out
          have d5 := rowc hbx2 5 _ rfl
          have HBX2 := Aside0.mk hbx2
          have hlt2 : W.heap.size < w2.heap.size := Nat.lt_of_lt_of_le hlt hb2.size
          clear hb2 hbx2 c5 hlt
          go_wp2_with fail
          refine (HR.out _ (HMI.out.below HB2.out)).mono ?_
          rintro e w3 ⟨rfl, hb3⟩
          have HB3 := Aside0.mk (below_to HB2.out hb3)
          have hbx3 := (hb3.block _ hlt2).trans HBX2.out
          have e5 := rowc hbx3 5 _ rfl
          clear hb3 hbx3 d5 hlt2
          go_wp2_with fail
          refine (HM.out true _).mono ?_
          rintro e w4 ⟨rfl, hb4⟩
          have f5 := pw_cell_below hb4 e5
          have HB4 := Aside0.mk (below_to HB3.out hb4)
          clear hb4 e5
          go_wp2_with fail
          refine (HM.out false _).mono ?_
          rintro e w5 ⟨rfl, hb5⟩
          have HB5 := Aside0.mk (below_to HB4.out hb5)
          clear hb5
          go_wp2_with fail
          exact ⟨rfl, rfl, HB5.out⟩
      simp only [if_neg h2]
      have e2 : (kind == 2) = false := by rw [beq_eq_false_iff_ne]; exact h2
      clear h2
      by_cases hq : v = n.f5
      · rw [decide_eq_true hq]
        have hl : (v.toList == n.f5.toList) = true := by rw [hq]; exact beq_self_eq_true _
        clear hq
        simp only [Bool.and_true, Bool.and_false, beq_self_eq_true]
        go_enter Tryz.func70, Tryz.ntmps70
        go_wp2_with fail
        refine (HO.out _).mono ?_
        rintro e w1 ⟨rfl, hb1⟩
        have HB1 := Aside0.mk (below_box hb1)
        obtain ⟨hbx, hlt⟩ := box_after hb1
        have HBX := Aside0.mk hbx
        have c5 := rowc hbx 5 _ rfl
        clear hb1 hbx
        go_wp2_with fail
        refine (HC.out _).mono ?_
        rintro e w2 ⟨rfl, hb2⟩
        have HB2 := Aside0.mk (below_to HB1.out hb2)
        have hbx2 := (hb2.block _ hlt).trans HBX.out
        have d5 := rowc hbx2 5 _ rfl
        have HBX2 := Aside0.mk hbx2
        have hlt2 : W.heap.size < w2.heap.size := Nat.lt_of_lt_of_le hlt hb2.size
        clear hb2 hbx2 c5 hlt
        go_wp2_with fail
        refine (HR.out _ (HMI.out.below HB2.out)).mono ?_
        rintro e w3 ⟨rfl, hb3⟩
        have HB3 := Aside0.mk (below_to HB2.out hb3)
        have hbx3 := (hb3.block _ hlt2).trans HBX2.out
        have e5 := rowc hbx3 5 _ rfl
        clear hb3 hbx3 d5 hlt2
        go_wp2_with fail
        refine (HM.out true _).mono ?_
        rintro e w4 ⟨rfl, hb4⟩
        have f5 := pw_cell_below hb4 e5
        have HB4 := Aside0.mk (below_to HB3.out hb4)
        clear hb4 e5
        go_wp2_with fail
        refine (HM.out true _).mono ?_
        rintro e w5 ⟨rfl, hb5⟩
        have HB5 := Aside0.mk (below_to HB4.out hb5)
        clear hb5
        go_wp2_with fail
        go_end0
        exact ⟨rfl, HB5.out⟩
      · rw [decide_eq_false hq]
        have hl : (v.toList == n.f5.toList) = false := by rw [beq_eq_false_iff_ne]; intro h; exact hq (ba_inj h)
        clear hq
        simp only [Bool.and_true, Bool.and_false, beq_self_eq_true]
        go_enter Tryz.func70, Tryz.ntmps70
        go_wp2_with fail
        refine (HO.out _).mono ?_
        rintro e w1 ⟨rfl, hb1⟩
        have HB1 := Aside0.mk (below_box hb1)
        obtain ⟨hbx, hlt⟩ := box_after hb1
        have HBX := Aside0.mk hbx
        have c5 := rowc hbx 5 _ rfl
        clear hb1 hbx
        go_wp2_with fail
        refine (HC.out _).mono ?_
        rintro e w2 ⟨rfl, hb2⟩
        have HB2 := Aside0.mk (below_to HB1.out hb2)
        have hbx2 := (hb2.block _ hlt).trans HBX.out
        have d5 := rowc hbx2 5 _ rfl
        have HBX2 := Aside0.mk hbx2
        have hlt2 : W.heap.size < w2.heap.size := Nat.lt_of_lt_of_le hlt hb2.size
        clear hb2 hbx2 c5 hlt
        go_wp2_with fail
        refine (HR.out _ (HMI.out.below HB2.out)).mono ?_
        rintro e w3 ⟨rfl, hb3⟩
        have HB3 := Aside0.mk (below_to HB2.out hb3)
        have hbx3 := (hb3.block _ hlt2).trans HBX2.out
        have e5 := rowc hbx3 5 _ rfl
        clear hb3 hbx3 d5 hlt2
        go_wp2_with fail
        refine (HM.out true _).mono ?_
        rintro e w4 ⟨rfl, hb4⟩
        have f5 := pw_cell_below hb4 e5
        have HB4 := Aside0.mk (below_to HB3.out hb4)
        clear hb4 e5
        go_wp2_with fail
        refine (HM.out false _).mono ?_
        rintro e w5 ⟨rfl, hb5⟩
        have HB5 := Aside0.mk (below_to HB4.out hb5)
        clear hb5
        go_wp2_with fail
        exact ⟨rfl, rfl, HB5.out⟩

end Go.Proofs.YtkipjalfgdfaiaaGreatDoor
namespace Go.Proofs.YtkipjalfgdfaiaaGreatDoor
set_option linter.unusedVariables false
set_option linter.unusedSimpArgs false
open Go.RowKit Go.Proofs.YtkipjalfgdfaiaaGreatDoorW.PrintWords Go.Proofs.YtkipjalfgdfaiaaGreatDoorW.PrintLast Go.Proofs.YtkipjalfgdfaiaaGreatDoorW.PrintMore Go.Proofs.YtkipjalfgdfaiaaGreatDoor.PTk

def DeadC (n : Nd) (v : Value) (deep : Nat) (W : World) : Prop := Calls Tryz.prog 69 #[v, .int .i64 (deep : Int)] W (OkPan false W)
set_option maxHeartbeats 4000000 in
set_option maxRecDepth 100000 in
theorem class_k {n : Nd} {w : World} {v : Value} (h : RdN w n v) (deep : Nat) (W : World) (hk : ¬ (n.f0 = 3 ∧ deep ≤ 50)) : DeadC n v deep W := by
  have HM := Aside0.mk must_any
  obtain ⟨A6, c6, A7, c7, rfl, -⟩ := h
  unfold DeadC
  by_cases h0 : n.f0 = 3
  · have h1 : ¬ ((deep : Int) ≤ 50) := by omega
    have h0b : (n.f0 == 3) = true := by rw [h0]; rfl
    clear hk h0
    go_enter Tryz.func69, Tryz.ntmps69
    go_wp2_with fail
    refine (HM.out false _).mono ?_
    rintro e w1 ⟨rfl, hb1⟩
    have HB1 := Aside0.mk (below_box hb1)
    clear hb1
    go_wp2_with fail
    exact ⟨rfl, rfl, HB1.out⟩
  · have h1 : (n.f0 == 3) = false := by rw [beq_eq_false_iff_ne]; exact h0
    clear hk h0
    go_enter Tryz.func69, Tryz.ntmps69
    go_wp2_with fail
    refine (HM.out false _).mono ?_
    rintro e w1 ⟨rfl, hb1⟩
    have HB1 := Aside0.mk (below_box hb1)
    clear hb1
    go_wp2_with fail
    exact ⟨rfl, rfl, HB1.out⟩
set_option maxHeartbeats 4000000 in
set_option maxRecDepth 100000 in
theorem class_o {n : Nd} {w : World} {v : Value} (h : RdN w n v) (deep : Nat) (W : World) (h0 : n.f0 = 3) (h1 : deep ≤ 50) (ho : onlyB n n.f1 0 0 n.f4 e0 n.f7.length = false) : DeadC n v deep W := by
  have HM := Aside0.mk must_any
  have hO := fun A6 c6 A7 c7 (hv : v = ndV n A6 c6 A7 c7) W => only_any h 0 n.f1 0 0 n.f4 e0 none A7 0 0 n.f7.length c7 W
  rw [ho] at hO
  obtain ⟨A6, c6, A7, c7, rfl, -⟩ := h
  have HO := Aside0.mk (hO A6 c6 A7 c7 rfl)
  have h2 : (deep : Int) ≤ 50 := by omega
  have h0b : (n.f0 == 3) = true := by rw [h0]; rfl
  unfold DeadC
  clear hO ho h1 h0
  go_enter Tryz.func69, Tryz.ntmps69
  go_wp2_with fail
  refine (HM.out true _).mono ?_
  rintro e w1 ⟨rfl, hb1⟩
  have HB1 := Aside0.mk (below_box hb1)
  obtain ⟨hbx1, hlt1⟩ := box_after hb1
  have HX1 := Aside0.mk hbx1
  have q1_0 := rowc hbx1 0 _ rfl
  have q1_1 := rowc hbx1 1 _ rfl
  have q1_2 := rowc hbx1 2 _ rfl
  have q1_3 := rowc hbx1 3 _ rfl
  have q1_4 := rowc hbx1 4 _ rfl
  have q1_5 := rowc hbx1 5 _ rfl
  have q1_6 := rowc hbx1 6 _ rfl
  have q1_7 := rowc hbx1 7 _ rfl
  clear hb1 hbx1
  go_wp2_with fail
  refine (HO.out _).mono ?_
  rintro e w2 ⟨rfl, hb2⟩
  have HB2 := Aside0.mk (below_to HB1.out hb2)
  clear hb2
  go_wp2_with fail
  exact ⟨rfl, rfl, HB2.out⟩
set_option maxHeartbeats 4000000 in
set_option maxRecDepth 100000 in
theorem class_m {n : Nd} {w : World} {v : Value} (h : RdN w n v) (deep : Nat) (W : World) (h0 : n.f0 = 3) (h1 : deep ≤ 50) (ho : onlyB n n.f1 0 0 n.f4 e0 n.f7.length = true) (h3 : n.f1 ≠ 0) (h4 : ¬ (1 ≤ n.f1 ∧ n.f1 ≤ 3 ∧ n.f7.length = 2)) : DeadC n v deep W := by
  have HM := Aside0.mk must_any
  have hO := fun A6 c6 A7 c7 (hv : v = ndV n A6 c6 A7 c7) W => only_any h 0 n.f1 0 0 n.f4 e0 none A7 0 0 n.f7.length c7 W
  rw [ho] at hO
  obtain ⟨A6, c6, A7, c7, rfl, -⟩ := h
  have HO := Aside0.mk (hO A6 c6 A7 c7 rfl)
  have h2 : (deep : Int) ≤ 50 := by omega
  have h0b : (n.f0 == 3) = true := by rw [h0]; rfl
  have h5 : (n.f1 != 0) = true := by rw [bne_iff_ne]; exact h3
  have h6 : (n.f1 == 0) = false := by rw [beq_eq_false_iff_ne]; exact h3
  unfold DeadC
  clear hO ho h1 h0
  by_cases g1 : 1 ≤ n.f1
  · by_cases g2 : n.f1 ≤ 3
    · have g3 : ((n.f7.length : Int) == 2) = false := by rw [beq_eq_false_iff_ne]; omega
      clear h4 h3
      go_enter Tryz.func69, Tryz.ntmps69
      go_wp2_with fail
      refine (HM.out true _).mono ?_
      rintro e w1 ⟨rfl, hb1⟩
      have HB1 := Aside0.mk (below_box hb1)
      obtain ⟨hbx1, hlt1⟩ := box_after hb1
      have HX1 := Aside0.mk hbx1
      have q1_0 := rowc hbx1 0 _ rfl
      have q1_1 := rowc hbx1 1 _ rfl
      have q1_2 := rowc hbx1 2 _ rfl
      have q1_3 := rowc hbx1 3 _ rfl
      have q1_4 := rowc hbx1 4 _ rfl
      have q1_5 := rowc hbx1 5 _ rfl
      have q1_6 := rowc hbx1 6 _ rfl
      have q1_7 := rowc hbx1 7 _ rfl
      clear hb1 hbx1
      go_wp2_with fail
      refine (HO.out _).mono ?_
      rintro e w2 ⟨rfl, hb2⟩
      have HB2 := Aside0.mk (below_to HB1.out hb2)
      have hbx2 := (hb2.block _ hlt1).trans HX1.out
      have hlt2 := Nat.lt_of_lt_of_le hlt1 hb2.size
      have HX2 := Aside0.mk hbx2
      have q2_0 := rowc hbx2 0 _ rfl
      have q2_1 := rowc hbx2 1 _ rfl
      have q2_2 := rowc hbx2 2 _ rfl
      have q2_3 := rowc hbx2 3 _ rfl
      have q2_4 := rowc hbx2 4 _ rfl
      have q2_5 := rowc hbx2 5 _ rfl
      have q2_6 := rowc hbx2 6 _ rfl
      have q2_7 := rowc hbx2 7 _ rfl
      clear hb2 hbx2 hlt1 q1_0 q1_1 q1_2 q1_3 q1_4 q1_5 q1_6 q1_7
      go_wp2_with fail
      refine (HM.out false _).mono ?_
      rintro e w3 ⟨rfl, hb3⟩
      have HB3 := Aside0.mk (below_to HB2.out hb3)
      clear hb3
      go_wp2_with fail
      exact ⟨rfl, rfl, HB3.out⟩
    · clear h4 h3
      go_enter Tryz.func69, Tryz.ntmps69
      go_wp2_with fail
      refine (HM.out true _).mono ?_
      rintro e w1 ⟨rfl, hb1⟩
      have HB1 := Aside0.mk (below_box hb1)
      obtain ⟨hbx1, hlt1⟩ := box_after hb1
      have HX1 := Aside0.mk hbx1
      have q1_0 := rowc hbx1 0 _ rfl
      have q1_1 := rowc hbx1 1 _ rfl
      have q1_2 := rowc hbx1 2 _ rfl
      have q1_3 := rowc hbx1 3 _ rfl
      have q1_4 := rowc hbx1 4 _ rfl
      have q1_5 := rowc hbx1 5 _ rfl
      have q1_6 := rowc hbx1 6 _ rfl
      have q1_7 := rowc hbx1 7 _ rfl
      clear hb1 hbx1
      go_wp2_with fail
      refine (HO.out _).mono ?_
      rintro e w2 ⟨rfl, hb2⟩
      have HB2 := Aside0.mk (below_to HB1.out hb2)
      have hbx2 := (hb2.block _ hlt1).trans HX1.out
      have hlt2 := Nat.lt_of_lt_of_le hlt1 hb2.size
      have HX2 := Aside0.mk hbx2
      have q2_0 := rowc hbx2 0 _ rfl
      have q2_1 := rowc hbx2 1 _ rfl
      have q2_2 := rowc hbx2 2 _ rfl
      have q2_3 := rowc hbx2 3 _ rfl
      have q2_4 := rowc hbx2 4 _ rfl
      have q2_5 := rowc hbx2 5 _ rfl
      have q2_6 := rowc hbx2 6 _ rfl
      have q2_7 := rowc hbx2 7 _ rfl
      clear hb2 hbx2 hlt1 q1_0 q1_1 q1_2 q1_3 q1_4 q1_5 q1_6 q1_7
      go_wp2_with fail
      refine (HM.out false _).mono ?_
      rintro e w3 ⟨rfl, hb3⟩
      have HB3 := Aside0.mk (below_to HB2.out hb3)
      clear hb3
      go_wp2_with fail
      exact ⟨rfl, rfl, HB3.out⟩
  · clear h4 h3
    go_enter Tryz.func69, Tryz.ntmps69
    go_wp2_with fail
    refine (HM.out true _).mono ?_
    rintro e w1 ⟨rfl, hb1⟩
    have HB1 := Aside0.mk (below_box hb1)
    obtain ⟨hbx1, hlt1⟩ := box_after hb1
    have HX1 := Aside0.mk hbx1
    have q1_0 := rowc hbx1 0 _ rfl
    have q1_1 := rowc hbx1 1 _ rfl
    have q1_2 := rowc hbx1 2 _ rfl
    have q1_3 := rowc hbx1 3 _ rfl
    have q1_4 := rowc hbx1 4 _ rfl
    have q1_5 := rowc hbx1 5 _ rfl
    have q1_6 := rowc hbx1 6 _ rfl
    have q1_7 := rowc hbx1 7 _ rfl
    clear hb1 hbx1
    go_wp2_with fail
    refine (HO.out _).mono ?_
    rintro e w2 ⟨rfl, hb2⟩
    have HB2 := Aside0.mk (below_to HB1.out hb2)
    have hbx2 := (hb2.block _ hlt1).trans HX1.out
    have hlt2 := Nat.lt_of_lt_of_le hlt1 hb2.size
    have HX2 := Aside0.mk hbx2
    have q2_0 := rowc hbx2 0 _ rfl
    have q2_1 := rowc hbx2 1 _ rfl
    have q2_2 := rowc hbx2 2 _ rfl
    have q2_3 := rowc hbx2 3 _ rfl
    have q2_4 := rowc hbx2 4 _ rfl
    have q2_5 := rowc hbx2 5 _ rfl
    have q2_6 := rowc hbx2 6 _ rfl
    have q2_7 := rowc hbx2 7 _ rfl
    clear hb2 hbx2 hlt1 q1_0 q1_1 q1_2 q1_3 q1_4 q1_5 q1_6 q1_7
    go_wp2_with fail
    refine (HM.out false _).mono ?_
    rintro e w3 ⟨rfl, hb3⟩
    have HB3 := Aside0.mk (below_to HB2.out hb3)
    clear hb3
    go_wp2_with fail
    exact ⟨rfl, rfl, HB3.out⟩

end Go.Proofs.YtkipjalfgdfaiaaGreatDoor
namespace Go.Proofs.YtkipjalfgdfaiaaGreatDoor
set_option linter.unusedVariables false
set_option linter.unusedSimpArgs false
open Go.RowKit Go.Proofs.YtkipjalfgdfaiaaGreatDoorW.PrintWords Go.Proofs.YtkipjalfgdfaiaaGreatDoorW.PrintLast Go.Proofs.YtkipjalfgdfaiaaGreatDoorW.PrintMore Go.Proofs.YtkipjalfgdfaiaaGreatDoor.PTk

attribute [local go_sem ↓] Go.wp_at_zero Go.wp_at_succ
/-- The cells of a kid. -/
def KidAt (W : World) (p : Addr) (m : Nd) (A6 : Option Addr) (c6 : Nat) (A7 : Option Addr) (c7 : Nat) : Prop :=
  W.cell? p = some (.int .i64 m.f0) ∧ W.cell? ⟨p.block, p.off + 1, none⟩ = some (.int .i64 m.f1) ∧ W.cell? ⟨p.block, p.off + 2, none⟩ = some (.int .i64 m.f2) ∧ W.cell? ⟨p.block, p.off + 3, none⟩ = some (.int .i64 m.f3) ∧ W.cell? ⟨p.block, p.off + 4, none⟩ = some (.bool m.f4) ∧ W.cell? ⟨p.block, p.off + 5, none⟩ = some (.string m.f5) ∧ W.cell? ⟨p.block, p.off + 6, none⟩ = some (.slice A6 m.f6.length c6) ∧ W.cell? ⟨p.block, p.off + 7, none⟩ = some (.slice A7 m.f7.length c7)
theorem KidAt.up {w W : World} {p : Addr} {m : Nd} {A6 : Option Addr} {c6 : Nat} {A7 : Option Addr} {c7 : Nat} (h : KidAt w p m A6 c6 A7 c7) (hb : Below w.heap.size w W) : KidAt W p m A6 c6 A7 c7 := by
  obtain ⟨x0, x1, x2, x3, x4, x5, x6, x7⟩ := h
  have up : ∀ {p : Addr} {v : Value}, w.cell? p = some v → W.cell? p = some v := fun h => (hb.cell (World.block_lt_of_cell? w _ h)).trans h
  exact ⟨up x0, up x1, up x2, up x3, up x4, up x5, up x6, up x7⟩
theorem kids_at {w : World} {A : Option Addr} {xs : List Nd} (h : Kd.C kN w A xs.length xs) (j : Nat) (hj : j < xs.length) : ∃ ad A6 c6 A7 c7, A = some ad ∧ KidAt w (ad.add (j * 8)) xs[j] A6 c6 A7 c7 ∧ RdN w xs[j] (ndV xs[j] A6 c6 A7 c7) := by
  obtain ⟨ad, A6', c6', A7', c7', e7, x0, x1, x2, x3, x4, x5, x6, x7, l6, g6, l7, g7⟩ := at_T25 h (j : Int) (by omega) (by omega)
  rw [rdN xs j hj, Int.toNat_natCast] at x0 x1 x2 x3 x4 x5 x6 x7
  rw [rdN xs j hj] at l6 g6 l7 g7
  exact ⟨ad, A6', c6', A7', c7', e7, ⟨x0, x1, x2, x3, x4, x5, x6, x7⟩, A6', c6', A7', c7', rfl, l6, g6, l7, g7⟩
theorem two_at {w : World} {A : Option Addr} {xs : List Nd} (h : Kd.C kN w A xs.length xs) {a b : Nd} (hab : xs = [a, b]) : ∃ ad P6 p6 P7 p7 Q6 q6 Q7 q7, A = some ad ∧ KidAt w ad a P6 p6 P7 p7 ∧ RdN w a (ndV a P6 p6 P7 p7) ∧ KidAt w ⟨ad.block, ad.off + 8, none⟩ b Q6 q6 Q7 q7 ∧ RdN w b (ndV b Q6 q6 Q7 q7) := by
  subst hab
  obtain ⟨ad, P6, p6, P7, p7, rfl, ha, ra⟩ := kids_at h 0 (by simp)
  obtain ⟨ad', Q6, q6, Q7, q7, e, hb, rb⟩ := kids_at h 1 (by simp)
  cases e
  exact ⟨ad, P6, p6, P7, p7, Q6, q6, Q7, q7, rfl, ha, ra, hb, rb⟩
set_option maxHeartbeats 4000000 in
set_option maxRecDepth 100000 in
theorem class_two {n : Nd} {w : World} {v : Value} (h : RdN w n v) (deep : Nat) (W : World) (hW : Below w.heap.size w W) (a b : Nd) (hab : n.f7 = [a, b]) (h0 : n.f0 = 3) (h1 : deep ≤ 50) (ho : onlyB n n.f1 0 0 n.f4 e0 n.f7.length = true) (h3 : n.f1 ≠ 0) (h4 : 1 ≤ n.f1 ∧ n.f1 ≤ 3) (Ba Bb : Bool)
    (hCA : ∀ v W', RdN w a v → Below w.heap.size w W' → Calls Tryz.prog 69 #[v, .int .i64 (deep : Int)] W' (OkPan Ba W')) (hCB : ∀ v W', RdN w b v → Below w.heap.size w W' → Calls Tryz.prog 69 #[v, .int .i64 (deep : Int)] W' (OkPan Bb W')) :
    Calls Tryz.prog 69 #[v, .int .i64 (deep : Int)] W (OkPan (!a.f4 && !b.f4 && b.f1 == 0 && Ba && Bb) W) := by
  have HM := Aside0.mk must_any
  have hO := fun A6 c6 A7 c7 (hv : v = ndV n A6 c6 A7 c7) W => only_any h 0 n.f1 0 0 n.f4 e0 none A7 0 0 n.f7.length c7 W
  rw [ho] at hO
  obtain ⟨A6, c6, A7, c7, rfl, -, -, l7, hC⟩ := h
  have HO := Aside0.mk (hO A6 c6 A7 c7 rfl)
  have h2 : (deep : Int) ≤ 50 := by omega
  have h0b : (n.f0 == 3) = true := by rw [h0]; rfl
  have h5 : (n.f1 != 0) = true := by rw [bne_iff_ne]; exact h3
  have h6 : (n.f1 == 0) = false := by rw [beq_eq_false_iff_ne]; exact h3
  have hlen : n.f7.length = 2 := by rw [hab]; rfl
  have g3 : ((n.f7.length : Int) == 2) = true := by rw [hlen]; rfl
  have hi0 : (0 : Int) < (n.f7.length : Int) := by omega
  have hi1 : (1 : Int) < (n.f7.length : Int) := by omega
  have hi2 : 0 < n.f7.length := by omega
  have hi3 : 1 < n.f7.length := by omega
  obtain ⟨ad, P6, p6, P7, p7, Q6, q6, Q7, q7, rfl, ha, ra, hb, rb⟩ := two_at hC hab
  have HKA := Aside0.mk (ha.up hW)
  have HKB := Aside0.mk (hb.up hW)
  obtain ⟨g1, g2⟩ := h4
  have HCA := Aside0.mk (hCA _ · ra)
  have HCB := Aside0.mk (hCB _ · rb)
  have HWW := Aside0.mk hW
  obtain ⟨R, hR⟩ : ∃ R, (!a.f4 && !b.f4 && b.f1 == 0 && Ba && Bb) = R := ⟨_, rfl⟩
  rw [hR]
  have HRE := Aside0.mk hR
  clear hO ho h1 h0 ha hb ra rb hC hlen hab h3 hW hCA hCB hR
  go_enter Tryz.func69, Tryz.ntmps69
  go_wp2_with fail
  refine (HM.out true _).mono ?_
  rintro e w1 ⟨rfl, hb1⟩
  have HB1 := Aside0.mk (below_box hb1)
  obtain ⟨hbx1, hlt1⟩ := box_after hb1
  have HX1 := Aside0.mk hbx1
  have q1_0 := rowc hbx1 0 _ rfl
  have q1_1 := rowc hbx1 1 _ rfl
  have q1_2 := rowc hbx1 2 _ rfl
  have q1_3 := rowc hbx1 3 _ rfl
  have q1_4 := rowc hbx1 4 _ rfl
  have q1_5 := rowc hbx1 5 _ rfl
  have q1_6 := rowc hbx1 6 _ rfl
  have q1_7 := rowc hbx1 7 _ rfl
  clear hb1 hbx1
  go_wp2_with fail
  refine (HO.out _).mono ?_
  rintro e w2 ⟨rfl, hb2⟩
  have HB2 := Aside0.mk (below_to HB1.out hb2)
  have hbx2 := (hb2.block _ hlt1).trans HX1.out
  have hlt2 := Nat.lt_of_lt_of_le hlt1 hb2.size
  have HX2 := Aside0.mk hbx2
  have q2_0 := rowc hbx2 0 _ rfl
  have q2_1 := rowc hbx2 1 _ rfl
  have q2_2 := rowc hbx2 2 _ rfl
  have q2_3 := rowc hbx2 3 _ rfl
  have q2_4 := rowc hbx2 4 _ rfl
  have q2_5 := rowc hbx2 5 _ rfl
  have q2_6 := rowc hbx2 6 _ rfl
  have q2_7 := rowc hbx2 7 _ rfl
  clear hb2 hbx2 hlt1 q1_0 q1_1 q1_2 q1_3 q1_4 q1_5 q1_6 q1_7
  go_wp2_with fail
  refine (HM.out true _).mono ?_
  rintro e w3 ⟨rfl, hb3⟩
  have HB3 := Aside0.mk (below_to HB2.out hb3)
  have hbx3 := (hb3.block _ hlt2).trans HX2.out
  have hlt3 := Nat.lt_of_lt_of_le hlt2 hb3.size
  have HX3 := Aside0.mk hbx3
  have q3_0 := rowc hbx3 0 _ rfl
  have q3_1 := rowc hbx3 1 _ rfl
  have q3_2 := rowc hbx3 2 _ rfl
  have q3_3 := rowc hbx3 3 _ rfl
  have q3_4 := rowc hbx3 4 _ rfl
  have q3_5 := rowc hbx3 5 _ rfl
  have q3_6 := rowc hbx3 6 _ rfl
  have q3_7 := rowc hbx3 7 _ rfl
  clear hb3 hbx3 hlt2 q2_0 q2_1 q2_2 q2_3 q2_4 q2_5 q2_6 q2_7
  go_wp2_with fail
  obtain ⟨x0, x1, x2, x3, x4, x5, x6, x7⟩ := HKA.out.up HB3.out
  obtain ⟨y0, y1, y2, y3, y4, y5, y6, y7⟩ := HKB.out.up HB3.out
  go_region_held3 (fun w' => w'.cell? ⟨W.heap.size, 7, none⟩ = some (.slice (some ad) n.f7.length c7) ∧ w'.cell? (ad) = some (.int .i64 a.f0) ∧ w'.cell? ⟨ad.block, ad.off + 1, none⟩ = some (.int .i64 a.f1) ∧ w'.cell? ⟨ad.block, ad.off + 2, none⟩ = some (.int .i64 a.f2) ∧ w'.cell? ⟨ad.block, ad.off + 3, none⟩ = some (.int .i64 a.f3) ∧ w'.cell? ⟨ad.block, ad.off + 4, none⟩ = some (.bool a.f4) ∧ w'.cell? ⟨ad.block, ad.off + 5, none⟩ = some (.string a.f5) ∧ w'.cell? ⟨ad.block, ad.off + 6, none⟩ = some (.slice P6 a.f6.length p6) ∧ w'.cell? ⟨ad.block, ad.off + 7, none⟩ = some (.slice P7 a.f7.length p7) ∧ w'.cell? (⟨ad.block, ad.off + 8, none⟩) = some (.int .i64 b.f0) ∧ w'.cell? ⟨ad.block, ad.off + 8 + 1, none⟩ = some (.int .i64 b.f1) ∧ w'.cell? ⟨ad.block, ad.off + 8 + 2, none⟩ = some (.int .i64 b.f2) ∧ w'.cell? ⟨ad.block, ad.off + 8 + 3, none⟩ = some (.int .i64 b.f3) ∧ w'.cell? ⟨ad.block, ad.off + 8 + 4, none⟩ = some (.bool b.f4) ∧ w'.cell? ⟨ad.block, ad.off + 8 + 5, none⟩ = some (.string b.f5) ∧ w'.cell? ⟨ad.block, ad.off + 8 + 6, none⟩ = some (.slice Q6 b.f6.length q6) ∧ w'.cell? ⟨ad.block, ad.off + 8 + 7, none⟩ = some (.slice Q7 b.f7.length q7)) (go_keep) (fail)
  · rename_i hHeld
    clear hHeld x0 x1 x2 x3 x4 x5 x6 x7 y0 y1 y2 y3 y4 y5 y6 y7 q3_0 q3_1 q3_2 q3_3 q3_4 q3_5 q3_6 q3_7
    have hb4 : Below w3.heap.size w3 ((w3.alloc (.cells #[.int .i64 a.f0, .int .i64 a.f1, .int .i64 a.f2, .int .i64 a.f3, .bool a.f4, .string a.f5, .slice P6 a.f6.length p6, .slice P7 a.f7.length p7] 25)).alloc (.cells #[.int .i64 b.f0, .int .i64 b.f1, .int .i64 b.f2, .int .i64 b.f3, .bool b.f4, .string b.f5, .slice Q6 b.f6.length q6, .slice Q7 b.f7.length q7] 25)).drew := below_drew (below_alloc (below_alloc (Below.refl _ _) _) _)
    have k0 := heap_alloc2_old w3 (.cells #[.int .i64 a.f0, .int .i64 a.f1, .int .i64 a.f2, .int .i64 a.f3, .bool a.f4, .string a.f5, .slice P6 a.f6.length p6, .slice P7 a.f7.length p7] 25) (.cells #[.int .i64 b.f0, .int .i64 b.f1, .int .i64 b.f2, .int .i64 b.f3, .bool b.f4, .string b.f5, .slice Q6 b.f6.length q6, .slice Q7 b.f7.length q7] 25)
    have k1 := heap_alloc2_new w3 (.cells #[.int .i64 a.f0, .int .i64 a.f1, .int .i64 a.f2, .int .i64 a.f3, .bool a.f4, .string a.f5, .slice P6 a.f6.length p6, .slice P7 a.f7.length p7] 25) (.cells #[.int .i64 b.f0, .int .i64 b.f1, .int .i64 b.f2, .int .i64 b.f3, .bool b.f4, .string b.f5, .slice Q6 b.f6.length q6, .slice Q7 b.f7.length q7] 25)
    have hs4 : ((w3.alloc (.cells #[.int .i64 a.f0, .int .i64 a.f1, .int .i64 a.f2, .int .i64 a.f3, .bool a.f4, .string a.f5, .slice P6 a.f6.length p6, .slice P7 a.f7.length p7] 25)).alloc (.cells #[.int .i64 b.f0, .int .i64 b.f1, .int .i64 b.f2, .int .i64 b.f3, .bool b.f4, .string b.f5, .slice Q6 b.f6.length q6, .slice Q7 b.f7.length q7] 25)).drew.heap.size = w3.heap.size + 2 := by simp
    obtain ⟨w4, hw4⟩ : ∃ w4, ((w3.alloc (.cells #[.int .i64 a.f0, .int .i64 a.f1, .int .i64 a.f2, .int .i64 a.f3, .bool a.f4, .string a.f5, .slice P6 a.f6.length p6, .slice P7 a.f7.length p7] 25)).alloc (.cells #[.int .i64 b.f0, .int .i64 b.f1, .int .i64 b.f2, .int .i64 b.f3, .bool b.f4, .string b.f5, .slice Q6 b.f6.length q6, .slice Q7 b.f7.length q7] 25)).drew = w4 := ⟨_, rfl⟩
    have KA : w4.heap[w3.heap.size]? = some (.cells #[.int .i64 a.f0, .int .i64 a.f1, .int .i64 a.f2, .int .i64 a.f3, .bool a.f4, .string a.f5, .slice P6 a.f6.length p6, .slice P7 a.f7.length p7] 25) := by rw [← hw4]; exact k0
    have KB : w4.heap[w3.heap.size + 1]? = some (.cells #[.int .i64 b.f0, .int .i64 b.f1, .int .i64 b.f2, .int .i64 b.f3, .bool b.f4, .string b.f5, .slice Q6 b.f6.length q6, .slice Q7 b.f7.length q7] 25) := by rw [← hw4]; exact k1
    rw [hw4] at hb4 hs4 ⊢
    clear hw4 k0 k1
    have HB4 := Aside0.mk (below_to HB3.out hb4)
    have HKA4 := Aside0.mk KA
    have HKB4 := Aside0.mk KB
    have HS4 := Aside0.mk hs4
    have a4 := rowc KA 4 _ rfl
    have b4 := rowc KB 4 _ rfl
    have b1 := rowc KB 1 _ rfl
    clear KA KB hb4 hs4 hlt3
    cases hA : a.f4 with
    | true =>
      have hA2 : (!a.f4) = false := by rw [hA]; rfl
      have hR : R = false := by rw [← HRE.out, hA]; simp
      go_wp2_with fail
      refine (HM.out false _).mono ?_
      rintro e w5 ⟨rfl, hb5⟩
      have HB5 := Aside0.mk (below_to HB4.out hb5)
      clear hb5 a4 b4 b1
      go_wp2_with fail
      exact ⟨rfl, by first | rfl | (rw [hR]; rfl), HB5.out⟩
    | false =>
      have hA2 : (!a.f4) = true := by rw [hA]; rfl
      cases hB : b.f4 with
      | true =>
        have hB2 : (!b.f4) = false := by rw [hB]; rfl
        have hR : R = false := by rw [← HRE.out, hA, hB]; simp
        go_wp2_with fail
        refine (HM.out false _).mono ?_
        rintro e w5 ⟨rfl, hb5⟩
        have HB5 := Aside0.mk (below_to HB4.out hb5)
        clear hb5 a4 b4 b1
        go_wp2_with fail
        exact ⟨rfl, by first | rfl | (rw [hR]; rfl), HB5.out⟩
      | false =>
        have hB2 : (!b.f4) = true := by rw [hB]; rfl
        cases hM : b.f1 == 0 with
        | false =>
          have hR : R = false := by rw [← HRE.out, hA, hB, hM]; simp
          go_wp2_with fail
          refine (HM.out false _).mono ?_
          rintro e w5 ⟨rfl, hb5⟩
          have HB5 := Aside0.mk (below_to HB4.out hb5)
          clear hb5 a4 b4 b1
          go_wp2_with fail
          exact ⟨rfl, by first | rfl | (rw [hR]; rfl), HB5.out⟩
        | true =>
          have hR : R = (Ba && Bb) := by rw [← HRE.out, hA, hB, hM]; simp
          clear hA hB
          go_wp2_with fail
          refine (HM.out true _).mono ?_
          rintro e w5 ⟨rfl, hb5⟩
          have HB5 := Aside0.mk (below_to HB4.out hb5)
          have hsz5 := hb5.size
          rw [HS4.out] at hsz5
          have hx5 := (hb5.block (w3.heap.size) (by rw [HS4.out]; omega)).trans HKA4.out
          have hy5 := (hb5.block (w3.heap.size + 1) (by rw [HS4.out]; omega)).trans HKB4.out
          have HX5 := Aside0.mk hx5
          have HY5 := Aside0.mk hy5
          have HSZ5 := Aside0.mk hsz5
          have x0 := rowc hx5 0 _ rfl
          have x1 := rowc hx5 1 _ rfl
          have x2 := rowc hx5 2 _ rfl
          have x3 := rowc hx5 3 _ rfl
          have x4 := rowc hx5 4 _ rfl
          have x5 := rowc hx5 5 _ rfl
          have x6 := rowc hx5 6 _ rfl
          have x7 := rowc hx5 7 _ rfl
          clear hb5 hx5 hy5 hsz5 a4 b4 b1
          go_wp2_with fail
          have hC5 := HCA.out w5 (HWW.out.trans (HB5.out.mono HWW.out.size))
          cases Ba with
          | false =>
            refine hC5.mono ?_
            rintro e w6 ⟨rfl, hb6⟩
            have HB6 := Aside0.mk (below_to HB5.out hb6)
            clear hb6 hC5 x0 x1 x2 x3 x4 x5 x6 x7
            rw [Bool.false_and] at hR
            go_wp2_with fail
            exact ⟨rfl, by first | rfl | (rw [hR]; rfl), HB6.out⟩
          | true =>
            refine hC5.mono ?_
            rintro e w6 ⟨rfl, hb6⟩
            have HB6 := Aside0.mk (below_to HB5.out hb6)
            have hy6 := (hb6.block (w3.heap.size + 1) (by have := HSZ5.out; omega)).trans HY5.out
            have y0 := rowc hy6 0 _ rfl
            have y1 := rowc hy6 1 _ rfl
            have y2 := rowc hy6 2 _ rfl
            have y3 := rowc hy6 3 _ rfl
            have y4 := rowc hy6 4 _ rfl
            have y5 := rowc hy6 5 _ rfl
            have y6 := rowc hy6 6 _ rfl
            have y7 := rowc hy6 7 _ rfl
            clear hb6 hC5 x0 x1 x2 x3 x4 x5 x6 x7 hy6
            rw [Bool.true_and] at hR
            go_wp2_with fail
            have hC6 := HCB.out w6 (HWW.out.trans (HB6.out.mono HWW.out.size))
            cases Bb with
            | false =>
              refine hC6.mono ?_
              rintro e w7 ⟨rfl, hb7⟩
              have HB7 := Aside0.mk (below_to HB6.out hb7)
              clear hb7 hC6 y0 y1 y2 y3 y4 y5 y6 y7
              go_wp2_with fail
              exact ⟨rfl, by first | rfl | (rw [hR]; rfl), HB7.out⟩
            | true =>
              refine hC6.mono ?_
              rintro e w7 ⟨rfl, hb7⟩
              have HB7 := Aside0.mk (below_to HB6.out hb7)
              clear hb7 hC6 y0 y1 y2 y3 y4 y5 y6 y7
              go_wp2_with fail
              go_end0
              exact ⟨by first | rfl | (rw [hR]; rfl), HB7.out⟩
  · rename_i hHeld
    clear hHeld x0 x1 x2 x3 x4 x5 x6 x7 y0 y1 y2 y3 y4 y5 y6 y7 q3_0 q3_1 q3_2 q3_3 q3_4 q3_5 q3_6 q3_7
    have hb4 : Below w3.heap.size w3 ((w3.alloc (.cells #[.int .i64 b.f0, .int .i64 b.f1, .int .i64 b.f2, .int .i64 b.f3, .bool b.f4, .string b.f5, .slice Q6 b.f6.length q6, .slice Q7 b.f7.length q7] 25)).alloc (.cells #[.int .i64 a.f0, .int .i64 a.f1, .int .i64 a.f2, .int .i64 a.f3, .bool a.f4, .string a.f5, .slice P6 a.f6.length p6, .slice P7 a.f7.length p7] 25)).drew := below_drew (below_alloc (below_alloc (Below.refl _ _) _) _)
    have k0 := heap_alloc2_old w3 (.cells #[.int .i64 b.f0, .int .i64 b.f1, .int .i64 b.f2, .int .i64 b.f3, .bool b.f4, .string b.f5, .slice Q6 b.f6.length q6, .slice Q7 b.f7.length q7] 25) (.cells #[.int .i64 a.f0, .int .i64 a.f1, .int .i64 a.f2, .int .i64 a.f3, .bool a.f4, .string a.f5, .slice P6 a.f6.length p6, .slice P7 a.f7.length p7] 25)
    have k1 := heap_alloc2_new w3 (.cells #[.int .i64 b.f0, .int .i64 b.f1, .int .i64 b.f2, .int .i64 b.f3, .bool b.f4, .string b.f5, .slice Q6 b.f6.length q6, .slice Q7 b.f7.length q7] 25) (.cells #[.int .i64 a.f0, .int .i64 a.f1, .int .i64 a.f2, .int .i64 a.f3, .bool a.f4, .string a.f5, .slice P6 a.f6.length p6, .slice P7 a.f7.length p7] 25)
    have hs4 : ((w3.alloc (.cells #[.int .i64 b.f0, .int .i64 b.f1, .int .i64 b.f2, .int .i64 b.f3, .bool b.f4, .string b.f5, .slice Q6 b.f6.length q6, .slice Q7 b.f7.length q7] 25)).alloc (.cells #[.int .i64 a.f0, .int .i64 a.f1, .int .i64 a.f2, .int .i64 a.f3, .bool a.f4, .string a.f5, .slice P6 a.f6.length p6, .slice P7 a.f7.length p7] 25)).drew.heap.size = w3.heap.size + 2 := by simp
    obtain ⟨w4, hw4⟩ : ∃ w4, ((w3.alloc (.cells #[.int .i64 b.f0, .int .i64 b.f1, .int .i64 b.f2, .int .i64 b.f3, .bool b.f4, .string b.f5, .slice Q6 b.f6.length q6, .slice Q7 b.f7.length q7] 25)).alloc (.cells #[.int .i64 a.f0, .int .i64 a.f1, .int .i64 a.f2, .int .i64 a.f3, .bool a.f4, .string a.f5, .slice P6 a.f6.length p6, .slice P7 a.f7.length p7] 25)).drew = w4 := ⟨_, rfl⟩
    have KA : w4.heap[w3.heap.size + 1]? = some (.cells #[.int .i64 a.f0, .int .i64 a.f1, .int .i64 a.f2, .int .i64 a.f3, .bool a.f4, .string a.f5, .slice P6 a.f6.length p6, .slice P7 a.f7.length p7] 25) := by rw [← hw4]; exact k1
    have KB : w4.heap[w3.heap.size]? = some (.cells #[.int .i64 b.f0, .int .i64 b.f1, .int .i64 b.f2, .int .i64 b.f3, .bool b.f4, .string b.f5, .slice Q6 b.f6.length q6, .slice Q7 b.f7.length q7] 25) := by rw [← hw4]; exact k0
    rw [hw4] at hb4 hs4 ⊢
    clear hw4 k0 k1
    have HB4 := Aside0.mk (below_to HB3.out hb4)
    have HKA4 := Aside0.mk KA
    have HKB4 := Aside0.mk KB
    have HS4 := Aside0.mk hs4
    have a4 := rowc KA 4 _ rfl
    have b4 := rowc KB 4 _ rfl
    have b1 := rowc KB 1 _ rfl
    clear KA KB hb4 hs4 hlt3
    cases hA : a.f4 with
    | true =>
      have hA2 : (!a.f4) = false := by rw [hA]; rfl
      have hR : R = false := by rw [← HRE.out, hA]; simp
      go_wp2_with fail
      refine (HM.out false _).mono ?_
      rintro e w5 ⟨rfl, hb5⟩
      have HB5 := Aside0.mk (below_to HB4.out hb5)
      clear hb5 a4 b4 b1
      go_wp2_with fail
      exact ⟨rfl, by first | rfl | (rw [hR]; rfl), HB5.out⟩
    | false =>
      have hA2 : (!a.f4) = true := by rw [hA]; rfl
      cases hB : b.f4 with
      | true =>
        have hB2 : (!b.f4) = false := by rw [hB]; rfl
        have hR : R = false := by rw [← HRE.out, hA, hB]; simp
        go_wp2_with fail
        refine (HM.out false _).mono ?_
        rintro e w5 ⟨rfl, hb5⟩
        have HB5 := Aside0.mk (below_to HB4.out hb5)
        clear hb5 a4 b4 b1
        go_wp2_with fail
        exact ⟨rfl, by first | rfl | (rw [hR]; rfl), HB5.out⟩
      | false =>
        have hB2 : (!b.f4) = true := by rw [hB]; rfl
        cases hM : b.f1 == 0 with
        | false =>
          have hR : R = false := by rw [← HRE.out, hA, hB, hM]; simp
          go_wp2_with fail
          refine (HM.out false _).mono ?_
          rintro e w5 ⟨rfl, hb5⟩
          have HB5 := Aside0.mk (below_to HB4.out hb5)
          clear hb5 a4 b4 b1
          go_wp2_with fail
          exact ⟨rfl, by first | rfl | (rw [hR]; rfl), HB5.out⟩
        | true =>
          have hR : R = (Ba && Bb) := by rw [← HRE.out, hA, hB, hM]; simp
          clear hA hB
          go_wp2_with fail
          refine (HM.out true _).mono ?_
          rintro e w5 ⟨rfl, hb5⟩
          have HB5 := Aside0.mk (below_to HB4.out hb5)
          have hsz5 := hb5.size
          rw [HS4.out] at hsz5
          have hx5 := (hb5.block (w3.heap.size + 1) (by rw [HS4.out]; omega)).trans HKA4.out
          have hy5 := (hb5.block (w3.heap.size) (by rw [HS4.out]; omega)).trans HKB4.out
          have HX5 := Aside0.mk hx5
          have HY5 := Aside0.mk hy5
          have HSZ5 := Aside0.mk hsz5
          have x0 := rowc hx5 0 _ rfl
          have x1 := rowc hx5 1 _ rfl
          have x2 := rowc hx5 2 _ rfl
          have x3 := rowc hx5 3 _ rfl
          have x4 := rowc hx5 4 _ rfl
          have x5 := rowc hx5 5 _ rfl
          have x6 := rowc hx5 6 _ rfl
          have x7 := rowc hx5 7 _ rfl
          clear hb5 hx5 hy5 hsz5 a4 b4 b1
          go_wp2_with fail
          have hC5 := HCA.out w5 (HWW.out.trans (HB5.out.mono HWW.out.size))
          cases Ba with
          | false =>
            refine hC5.mono ?_
            rintro e w6 ⟨rfl, hb6⟩
            have HB6 := Aside0.mk (below_to HB5.out hb6)
            clear hb6 hC5 x0 x1 x2 x3 x4 x5 x6 x7
            rw [Bool.false_and] at hR
            go_wp2_with fail
            exact ⟨rfl, by first | rfl | (rw [hR]; rfl), HB6.out⟩
          | true =>
            refine hC5.mono ?_
            rintro e w6 ⟨rfl, hb6⟩
            have HB6 := Aside0.mk (below_to HB5.out hb6)
            have hy6 := (hb6.block (w3.heap.size) (by have := HSZ5.out; omega)).trans HY5.out
            have y0 := rowc hy6 0 _ rfl
            have y1 := rowc hy6 1 _ rfl
            have y2 := rowc hy6 2 _ rfl
            have y3 := rowc hy6 3 _ rfl
            have y4 := rowc hy6 4 _ rfl
            have y5 := rowc hy6 5 _ rfl
            have y6 := rowc hy6 6 _ rfl
            have y7 := rowc hy6 7 _ rfl
            clear hb6 hC5 x0 x1 x2 x3 x4 x5 x6 x7 hy6
            rw [Bool.true_and] at hR
            go_wp2_with fail
            have hC6 := HCB.out w6 (HWW.out.trans (HB6.out.mono HWW.out.size))
            cases Bb with
            | false =>
              refine hC6.mono ?_
              rintro e w7 ⟨rfl, hb7⟩
              have HB7 := Aside0.mk (below_to HB6.out hb7)
              clear hb7 hC6 y0 y1 y2 y3 y4 y5 y6 y7
              go_wp2_with fail
              exact ⟨rfl, by first | rfl | (rw [hR]; rfl), HB7.out⟩
            | true =>
              refine hC6.mono ?_
              rintro e w7 ⟨rfl, hb7⟩
              have HB7 := Aside0.mk (below_to HB6.out hb7)
              clear hb7 hC6 y0 y1 y2 y3 y4 y5 y6 y7
              go_wp2_with fail
              go_end0
              exact ⟨by first | rfl | (rw [hR]; rfl), HB7.out⟩

end Go.Proofs.YtkipjalfgdfaiaaGreatDoor
namespace Go.Proofs.YtkipjalfgdfaiaaGreatDoor
set_option linter.unusedVariables false
set_option linter.unusedSimpArgs false
open Go.RowKit Go.Proofs.YtkipjalfgdfaiaaGreatDoorW.PrintWords Go.Proofs.YtkipjalfgdfaiaaGreatDoorW.PrintLast Go.Proofs.YtkipjalfgdfaiaaGreatDoorW.PrintMore Go.Proofs.YtkipjalfgdfaiaaGreatDoor.PTk

def memB (res : ByteArray → Int × ByteArray × Int) (n : Nd) (deep : Nat) : Bool := if n.f0 = 1 then onlyB n 0 n.f2 0 false e0 0 && runeB n.f2
      else if n.f0 = 4 then onlyB n 0 n.f2 n.f3 false e0 0 && runeB n.f2 && runeB n.f3 && decide (n.f2 ≤ n.f3)
      else if n.f0 = 5 then propN res n
      else classN res n (deep + 1)
theorem membK_at (res : ByteArray → Int × ByteArray × Int) (n : Nd) (ns : List Nd) (deep : Nat) : membK res (n :: ns) deep = (memB res n deep && membK res ns deep) := membK_cons res n ns deep
set_option maxHeartbeats 4000000 in
set_option maxRecDepth 100000 in
theorem class_union (res : ByteArray → Int × ByteArray × Int) {n : Nd} {w : World} {v : Value} (h : RdN w n v) (deep : Nat) (W : World) (hW : Below w.heap.size w W) (h0 : n.f0 = 3) (h1 : deep ≤ 50) (ho : onlyB n n.f1 0 0 n.f4 e0 n.f7.length = true) (h3 : n.f1 = 0) (hlen : n.f7.length ≤ 2147483648)
    (hPT : ∀ r W', Below W.heap.size W W' → Calls Tryz.prog 68 #[.int .i64 r] W' (OkPan (runeB r) W'))
    (hPR : ∀ k ∈ n.f7, ∀ v W', RdN w k v → Below W.heap.size W W' → Calls Tryz.prog 70 #[v] W' (OkPan (propN res k) W'))
    (hCL : ∀ k ∈ n.f7, ∀ v W', RdN w k v → Below W.heap.size W W' → Calls Tryz.prog 69 #[v, .int .i64 ((deep : Int) + 1)] W' (OkPan (classN res k (deep + 1)) W')) :
    Calls Tryz.prog 69 #[v, .int .i64 (deep : Int)] W (OkPan (!n.f7.isEmpty && membK res n.f7 deep) W) := by
  have HM := Aside0.mk must_any
  have hO := fun A6 c6 A7 c7 (hv : v = ndV n A6 c6 A7 c7) W => only_any h 0 n.f1 0 0 n.f4 e0 none A7 0 0 n.f7.length c7 W
  rw [ho] at hO
  obtain ⟨A6, c6, A7, c7, rfl, -, -, l7, hC⟩ := h
  have HO := Aside0.mk (hO A6 c6 A7 c7 rfl)
  have h2 : (deep : Int) ≤ 50 := by omega
  have h0b : (n.f0 == 3) = true := by rw [h0]; rfl
  have h5 : (n.f1 != 0) = false := by rw [h3]; rfl
  have h6 : (n.f1 == 0) = true := by rw [h3]; rfl
  have HL := Aside0.mk hlen
  have HPT := Aside0.mk hPT
  have HPR := Aside0.mk hPR
  have HCL := Aside0.mk hCL
  have HKD := Aside0.mk (fun j hj => kids_at hC j hj)
  have HWW := Aside0.mk hW
  have HD := Aside0.mk h1
  obtain ⟨R, hR⟩ : ∃ R, (!n.f7.isEmpty && membK res n.f7 deep) = R := ⟨_, rfl⟩
  rw [hR]
  have HRE := Aside0.mk hR
  clear hO ho h1 h0 hC h3 hW hPT hPR hCL hR hlen
  by_cases hz : n.f7.length = 0
  · have hz2 : ¬ 0 < n.f7.length := by omega
    have HR : R = false := by rw [← HRE.out, List.length_eq_zero_iff.1 hz]; rfl
    clear hz
    go_enter Tryz.func69, Tryz.ntmps69
    go_wp2_with fail
    refine (HM.out true _).mono ?_
    rintro e w1 ⟨rfl, hb1⟩
    have HB1 := Aside0.mk (below_box hb1)
    obtain ⟨hbx1, hlt1⟩ := box_after hb1
    have HX1 := Aside0.mk hbx1
    have q1_0 := rowc hbx1 0 _ rfl
    have q1_1 := rowc hbx1 1 _ rfl
    have q1_2 := rowc hbx1 2 _ rfl
    have q1_3 := rowc hbx1 3 _ rfl
    have q1_4 := rowc hbx1 4 _ rfl
    have q1_5 := rowc hbx1 5 _ rfl
    have q1_6 := rowc hbx1 6 _ rfl
    have q1_7 := rowc hbx1 7 _ rfl
    clear hb1 hbx1
    go_wp2_with fail
    refine (HO.out _).mono ?_
    rintro e w2 ⟨rfl, hb2⟩
    have HB2 := Aside0.mk (below_to HB1.out hb2)
    have hbx2 := (hb2.block _ hlt1).trans HX1.out
    have hlt2 := Nat.lt_of_lt_of_le hlt1 hb2.size
    have HX2 := Aside0.mk hbx2
    have q2_0 := rowc hbx2 0 _ rfl
    have q2_1 := rowc hbx2 1 _ rfl
    have q2_2 := rowc hbx2 2 _ rfl
    have q2_3 := rowc hbx2 3 _ rfl
    have q2_4 := rowc hbx2 4 _ rfl
    have q2_5 := rowc hbx2 5 _ rfl
    have q2_6 := rowc hbx2 6 _ rfl
    have q2_7 := rowc hbx2 7 _ rfl
    clear hb2 hbx2 hlt1 q1_0 q1_1 q1_2 q1_3 q1_4 q1_5 q1_6 q1_7
    go_wp2_with fail
    refine (HM.out false _).mono ?_
    rintro e w3 ⟨rfl, hb3⟩
    have HB3 := Aside0.mk (below_to HB2.out hb3)
    clear hb3 q2_0 q2_1 q2_2 q2_3 q2_4 q2_5 q2_6 q2_7
    go_wp2_with fail
    exact ⟨rfl, by first | rfl | (rw [HR]; rfl), HB3.out⟩
  · have hz2 : 0 < n.f7.length := by omega
    have HR0 : Aside0 (membK res n.f7 deep = R) := ⟨by rw [← HRE.out]; cases hh : n.f7 with | nil => rw [hh] at hz; exact absurd rfl hz | cons x xs => rfl⟩
    clear hz
    go_enter Tryz.func69, Tryz.ntmps69
    go_wp2_with fail
    refine (HM.out true _).mono ?_
    rintro e w1 ⟨rfl, hb1⟩
    have HB1 := Aside0.mk (below_box hb1)
    obtain ⟨hbx1, hlt1⟩ := box_after hb1
    have HX1 := Aside0.mk hbx1
    have q1_0 := rowc hbx1 0 _ rfl
    have q1_1 := rowc hbx1 1 _ rfl
    have q1_2 := rowc hbx1 2 _ rfl
    have q1_3 := rowc hbx1 3 _ rfl
    have q1_4 := rowc hbx1 4 _ rfl
    have q1_5 := rowc hbx1 5 _ rfl
    have q1_6 := rowc hbx1 6 _ rfl
    have q1_7 := rowc hbx1 7 _ rfl
    clear hb1 hbx1
    go_wp2_with fail
    refine (HO.out _).mono ?_
    rintro e w2 ⟨rfl, hb2⟩
    have HB2 := Aside0.mk (below_to HB1.out hb2)
    have hbx2 := (hb2.block _ hlt1).trans HX1.out
    have hlt2 := Nat.lt_of_lt_of_le hlt1 hb2.size
    have HX2 := Aside0.mk hbx2
    have q2_0 := rowc hbx2 0 _ rfl
    have q2_1 := rowc hbx2 1 _ rfl
    have q2_2 := rowc hbx2 2 _ rfl
    have q2_3 := rowc hbx2 3 _ rfl
    have q2_4 := rowc hbx2 4 _ rfl
    have q2_5 := rowc hbx2 5 _ rfl
    have q2_6 := rowc hbx2 6 _ rfl
    have q2_7 := rowc hbx2 7 _ rfl
    clear hb2 hbx2 hlt1 q1_0 q1_1 q1_2 q1_3 q1_4 q1_5 q1_6 q1_7
    go_wp2_with fail
    refine (HM.out true _).mono ?_
    rintro e w3 ⟨rfl, hb3⟩
    have HB3 := Aside0.mk (below_to HB2.out hb3)
    have hbx3 := (hb3.block _ hlt2).trans HX2.out
    have hlt3 := Nat.lt_of_lt_of_le hlt2 hb3.size
    have HX3 := Aside0.mk hbx3
    have q3_0 := rowc hbx3 0 _ rfl
    have q3_1 := rowc hbx3 1 _ rfl
    have q3_2 := rowc hbx3 2 _ rfl
    have q3_3 := rowc hbx3 3 _ rfl
    have q3_4 := rowc hbx3 4 _ rfl
    have q3_5 := rowc hbx3 5 _ rfl
    have q3_6 := rowc hbx3 6 _ rfl
    have q3_7 := rowc hbx3 7 _ rfl
    clear hb3 hbx3 hlt2 q2_0 q2_1 q2_2 q2_3 q2_4 q2_5 q2_6 q2_7
    go_wp2_with fail
    clear q3_0 q3_1 q3_2 q3_3 q3_4 q3_5 q3_6 q3_7 hlt3
    go_loopg [79] n.f7.length (fun gk v79 w' => ∃ j : Nat, v79 = .int .i64 (j : Int) ∧ Aside0 (j ≤ n.f7.length ∧ gk = n.f7.length - j) ∧ Aside0 (membK res (n.f7.drop j) deep = R) ∧ Aside0 (Below W.heap.size W w'))
    case atStart => exact ⟨0, by first | rfl | simp, ⟨Nat.zero_le _, rfl⟩, ⟨by rw [List.drop_zero]; exact HR0.out⟩, HB3⟩
    case round =>
      obtain ⟨j, rfl, HA, HK, HB⟩ := hrel
      by_cases hj : j < n.f7.length
      rotate_left
      · have hjb : decide (j < n.f7.length) = false := decide_eq_false hj
        have HR : R = true := by rw [← HK.out, List.drop_eq_nil_of_le (by omega), membK_nil]
        clear hj
        go_wp2_with fail
        go_end0
        exact ⟨by first | rfl | (rw [HR]; rfl), HB.out⟩
      have hjd : decide (j < n.f7.length) = true := decide_eq_true hj
      obtain ⟨ad, P6, p6, P7, p7, rfl, hk, rk⟩ := HKD.out j hj
      have hmem := List.getElem_mem hj
      have hkc := HK.out
      rw [List.drop_eq_getElem_cons hj, membK_at] at hkc
      have hpr := fun W' hb => HPR.out _ hmem _ W' rk hb
      have hcl := fun W' hb => HCL.out _ hmem _ W' rk hb
      obtain ⟨x0, x1, x2, x3, x4, x5, x6, x7⟩ := hk.up (HWW.out.trans (HB.out.mono HWW.out.size))
      clear hk
      obtain ⟨m, hm⟩ : ∃ m, n.f7[j] = m := ⟨_, rfl⟩
      rw [hm] at x0 x1 x2 x3 x4 x5 x6 x7 hkc hpr hcl rk
      have HPRJ := Aside0.mk hpr
      have HCLJ := Aside0.mk hcl
      have HKC := Aside0.mk hkc
      have HRK := Aside0.mk rk
      have HJ := Aside0.mk hj
      clear hm hmem hkc hpr hcl rk
      by_cases k1 : m.f0 = 1
      · have e1 : (m.f0 == 1) = true := by rw [k1]; rfl
        have HKM : Aside0 (memB res m deep = (onlyB m 0 m.f2 0 false e0 0 && runeB m.f2)) := ⟨by unfold memB; simp [k1]⟩
        clear k1
        go_wp2_with fail
        have hc0 := fun W' => only_any HRK.out 0 0 m.f2 0 false e0 none none 0 0 0 0 W'
        cases hq0 : onlyB m 0 m.f2 0 false e0 0 with
        | false =>
          rw [hq0] at hc0
          have HR : R = false := by rw [← HKC.out, HKM.out, hq0]; simp
          refine (hc0 _).mono ?_
          rintro e v0 ⟨rfl, hb0⟩
          have HV0 := Aside0.mk (below_to HB.out (below_box hb0))
          clear hb0 hc0 x0 x1 x2 x3 x4 x5 x6 x7
          clear hq0
          go_wp2_with fail
          exact ⟨rfl, by first | rfl | (rw [HR]; rfl), HV0.out⟩
        | true =>
          rw [hq0] at hc0
          refine (hc0 _).mono ?_
          rintro e v0 ⟨rfl, hb0⟩
          have HV0 := Aside0.mk (below_to HB.out (below_box hb0))
          obtain ⟨hx0, hl0⟩ := box_after hb0
          have HX0 := Aside0.mk hx0
          have z0_2 := rowc hx0 2 _ rfl
          clear hx0
          clear hb0 hc0 x0 x1 x2 x3 x4 x5 x6 x7
          go_wp2_with fail
          have hc1 := HPT.out m.f2 _ HV0.out
          cases hq1 : runeB m.f2 with
          | false =>
            rw [hq1] at hc1
            have HR : R = false := by rw [← HKC.out, HKM.out, hq0, hq1]; simp
            refine (hc1).mono ?_
            rintro e v1 ⟨rfl, hb1⟩
            have HV1 := Aside0.mk (below_to HV0.out hb1)
            clear hb1 hc1 z0_2
            clear hq0 hq1
            go_wp2_with fail
            exact ⟨rfl, by first | rfl | (rw [HR]; rfl), HV1.out⟩
          | true =>
            rw [hq1] at hc1
            refine (hc1).mono ?_
            rintro e v1 ⟨rfl, hb1⟩
            have HV1 := Aside0.mk (below_to HV0.out hb1)
            clear hb1 hc1 z0_2
            clear hl0
            go_wp2_with fail
            have HK2 : Aside0 (membK res (n.f7.drop (j + 1)) deep = R) := ⟨by rw [← HKC.out, HKM.out, hq0, hq1]; simp⟩
            clear hq0 hq1
            go_roundg (n.f7.length - j - 1)
            case measure => have := HA.out; have := HJ.out; omega
            case rel => exact ⟨j + 1, by have h1 := HL.out; have h2 := HJ.out; first | rfl | (rw [w64c (by omega) (by omega)]; rfl) | (exact congrArg _ (by omega)), ⟨by have := HJ.out; omega, by omega⟩, HK2, HV1⟩
      have e1 : (m.f0 == 1) = false := by rw [beq_eq_false_iff_ne]; exact k1
      by_cases k4 : m.f0 = 4
      · have e4 : (m.f0 == 4) = true := by rw [k4]; rfl
        have HKM : Aside0 (memB res m deep = (onlyB m 0 m.f2 m.f3 false e0 0 && runeB m.f2 && runeB m.f3 && decide (m.f2 ≤ m.f3))) := ⟨by unfold memB; simp [k4]⟩
        clear k1 k4
        go_wp2_with fail
        have hc0 := fun W' => only_any HRK.out 0 0 m.f2 m.f3 false e0 none none 0 0 0 0 W'
        cases hq0 : onlyB m 0 m.f2 m.f3 false e0 0 with
        | false =>
          rw [hq0] at hc0
          have HR : R = false := by rw [← HKC.out, HKM.out, hq0]; simp
          refine (hc0 _).mono ?_
          rintro e v0 ⟨rfl, hb0⟩
          have HV0 := Aside0.mk (below_to HB.out (below_box hb0))
          clear hb0 hc0 x0 x1 x2 x3 x4 x5 x6 x7
          clear hq0
          go_wp2_with fail
          exact ⟨rfl, by first | rfl | (rw [HR]; rfl), HV0.out⟩
        | true =>
          rw [hq0] at hc0
          refine (hc0 _).mono ?_
          rintro e v0 ⟨rfl, hb0⟩
          have HV0 := Aside0.mk (below_to HB.out (below_box hb0))
          obtain ⟨hx0, hl0⟩ := box_after hb0
          have HX0 := Aside0.mk hx0
          have z0_2 := rowc hx0 2 _ rfl
          have z0_3 := rowc hx0 3 _ rfl
          clear hx0
          clear hb0 hc0 x0 x1 x2 x3 x4 x5 x6 x7
          go_wp2_with fail
          have hc1 := HPT.out m.f2 _ HV0.out
          cases hq1 : runeB m.f2 with
          | false =>
            rw [hq1] at hc1
            have HR : R = false := by rw [← HKC.out, HKM.out, hq0, hq1]; simp
            refine (hc1).mono ?_
            rintro e v1 ⟨rfl, hb1⟩
            have HV1 := Aside0.mk (below_to HV0.out hb1)
            clear hb1 hc1 z0_2 z0_3
            clear hq0 hq1
            go_wp2_with fail
            exact ⟨rfl, by first | rfl | (rw [HR]; rfl), HV1.out⟩
          | true =>
            rw [hq1] at hc1
            refine (hc1).mono ?_
            rintro e v1 ⟨rfl, hb1⟩
            have HV1 := Aside0.mk (below_to HV0.out hb1)
            have hx1 := (hb1.block _ hl0).trans HX0.out
            have hl1 := Nat.lt_of_lt_of_le hl0 hb1.size
            have HX1 := Aside0.mk hx1
            have z1_2 := rowc hx1 2 _ rfl
            have z1_3 := rowc hx1 3 _ rfl
            clear hx1
            clear hb1 hc1 z0_2 z0_3
            clear hl0
            go_wp2_with fail
            have hc2 := HPT.out m.f3 _ HV1.out
            cases hq2 : runeB m.f3 with
            | false =>
              rw [hq2] at hc2
              have HR : R = false := by rw [← HKC.out, HKM.out, hq0, hq1, hq2]; simp
              refine (hc2).mono ?_
              rintro e v2 ⟨rfl, hb2⟩
              have HV2 := Aside0.mk (below_to HV1.out hb2)
              clear hb2 hc2 z1_2 z1_3
              clear hq0 hq1 hq2
              go_wp2_with fail
              exact ⟨rfl, by first | rfl | (rw [HR]; rfl), HV2.out⟩
            | true =>
              rw [hq2] at hc2
              refine (hc2).mono ?_
              rintro e v2 ⟨rfl, hb2⟩
              have HV2 := Aside0.mk (below_to HV1.out hb2)
              have hx2 := (hb2.block _ hl1).trans HX1.out
              have hl2 := Nat.lt_of_lt_of_le hl1 hb2.size
              have HX2 := Aside0.mk hx2
              have z2_2 := rowc hx2 2 _ rfl
              have z2_3 := rowc hx2 3 _ rfl
              clear hx2
              clear hb2 hc2 z1_2 z1_3
              clear hl1
              go_wp2_with fail
              have hc3 := HM.out (decide (m.f2 ≤ m.f3)) v2
              cases hq3 : decide (m.f2 ≤ m.f3) with
              | false =>
                rw [hq3] at hc3
                have HR : R = false := by rw [← HKC.out, HKM.out, hq0, hq1, hq2, hq3]; simp
                refine (hc3).mono ?_
                rintro e v3 ⟨rfl, hb3⟩
                have HV3 := Aside0.mk (below_to HV2.out hb3)
                clear hb3 hc3 z2_2 z2_3
                clear hq0 hq1 hq2 hq3
                go_wp2_with fail
                exact ⟨rfl, by first | rfl | (rw [HR]; rfl), HV3.out⟩
              | true =>
                rw [hq3] at hc3
                refine (hc3).mono ?_
                rintro e v3 ⟨rfl, hb3⟩
                have HV3 := Aside0.mk (below_to HV2.out hb3)
                clear hb3 hc3 z2_2 z2_3
                clear hl2
                go_wp2_with fail
                have HK2 : Aside0 (membK res (n.f7.drop (j + 1)) deep = R) := ⟨by rw [← HKC.out, HKM.out, hq0, hq1, hq2, hq3]; simp⟩
                clear hq0 hq1 hq2 hq3
                go_roundg (n.f7.length - j - 1)
                case measure => have := HA.out; have := HJ.out; omega
                case rel => exact ⟨j + 1, by have h1 := HL.out; have h2 := HJ.out; first | rfl | (rw [w64c (by omega) (by omega)]; rfl) | (exact congrArg _ (by omega)), ⟨by have := HJ.out; omega, by omega⟩, HK2, HV3⟩
      have e4 : (m.f0 == 4) = false := by rw [beq_eq_false_iff_ne]; exact k4
      by_cases k5 : m.f0 = 5
      · have e5 : (m.f0 == 5) = true := by rw [k5]; rfl
        have HKM : Aside0 (memB res m deep = (propN res m)) := ⟨by unfold memB; simp [k5]⟩
        clear k1 k4 k5
        go_wp2_with fail
        have hc0 := fun o => HPRJ.out (wr.alloc o) (below_alloc HB.out o)
        cases hq0 : propN res m with
        | false =>
          rw [hq0] at hc0
          have HR : R = false := by rw [← HKC.out, HKM.out, hq0]; simp
          refine (hc0 _).mono ?_
          rintro e v0 ⟨rfl, hb0⟩
          have HV0 := Aside0.mk (below_to HB.out (below_box hb0))
          clear hb0 hc0 x0 x1 x2 x3 x4 x5 x6 x7
          clear hq0
          go_wp2_with fail
          exact ⟨rfl, by first | rfl | (rw [HR]; rfl), HV0.out⟩
        | true =>
          rw [hq0] at hc0
          refine (hc0 _).mono ?_
          rintro e v0 ⟨rfl, hb0⟩
          have HV0 := Aside0.mk (below_to HB.out (below_box hb0))
          clear hb0 hc0 x0 x1 x2 x3 x4 x5 x6 x7
          go_wp2_with fail
          have HK2 : Aside0 (membK res (n.f7.drop (j + 1)) deep = R) := ⟨by rw [← HKC.out, HKM.out, hq0]; simp⟩
          clear hq0
          go_roundg (n.f7.length - j - 1)
          case measure => have := HA.out; have := HJ.out; omega
          case rel => exact ⟨j + 1, by have h1 := HL.out; have h2 := HJ.out; first | rfl | (rw [w64c (by omega) (by omega)]; rfl) | (exact congrArg _ (by omega)), ⟨by have := HJ.out; omega, by omega⟩, HK2, HV0⟩
      have e5 : (m.f0 == 5) = false := by rw [beq_eq_false_iff_ne]; exact k5
      have HKM : Aside0 (memB res m deep = (classN res m (deep + 1))) := ⟨by unfold memB; simp [k1, k4, k5]⟩
      clear k1 k4 k5
      go_wp2_with fail
      have hc0 := fun o => HCLJ.out (wr.alloc o) (below_alloc HB.out o)
      cases hq0 : classN res m (deep + 1) with
      | false =>
        rw [hq0] at hc0
        have HR : R = false := by rw [← HKC.out, HKM.out, hq0]; simp
        refine (hc0 _).mono ?_
        rintro e v0 ⟨rfl, hb0⟩
        have HV0 := Aside0.mk (below_to HB.out (below_box hb0))
        clear hb0 hc0 x0 x1 x2 x3 x4 x5 x6 x7
        clear hq0
        go_wp2_with fail
        exact ⟨rfl, by first | rfl | (rw [HR]; rfl), HV0.out⟩
      | true =>
        rw [hq0] at hc0
        refine (hc0 _).mono ?_
        rintro e v0 ⟨rfl, hb0⟩
        have HV0 := Aside0.mk (below_to HB.out (below_box hb0))
        clear hb0 hc0 x0 x1 x2 x3 x4 x5 x6 x7
        go_wp2_with fail
        have HK2 : Aside0 (membK res (n.f7.drop (j + 1)) deep = R) := ⟨by rw [← HKC.out, HKM.out, hq0]; simp⟩
        clear hq0
        go_roundg (n.f7.length - j - 1)
        case measure => have := HA.out; have := HJ.out; omega
        case rel => exact ⟨j + 1, by have h1 := HL.out; have h2 := HJ.out; first | rfl | (rw [w64c (by omega) (by omega)]; rfl) | (exact congrArg _ (by omega)), ⟨by have := HJ.out; omega, by omega⟩, HK2, HV0⟩

end Go.Proofs.YtkipjalfgdfaiaaGreatDoor
namespace Go.Proofs.YtkipjalfgdfaiaaGreatDoor
set_option linter.unusedVariables false
set_option linter.unusedSimpArgs false
open Go.ChangeShapes Go.WideShapes Go.ChangeAt Go.RowKit

theorem maxIs_of {w : World} (h : w.ShapedOpen Tryz.prog) : ∃ m, MaxIs w m :=
  cell_of_shapedOpen_int (g := 2) (zero := #[.int .i64 0]) (t := 3) (k := .i64) h (of_decide_eq_true (by kernel_rfl)) (by kernel_rfl) rfl (by kernel_rfl) (by kernel_rfl) Tryz.underlying3

theorem witness_row_zip {H : Type} {enc : TypeId × Value → H} {C : Checked} {os : Os} {f : FuncId} {fn : Func} {s : OpenSpec} {conds : List PathCond} {apart : Bool} {laid : List (String × DataW Unit)} (w0 : World) (args : Array Value) (hos : w0.os = os)
    (hsh : (w0.forCall (fun _ _ => 0) ⟨#[], args, []⟩).Shaped C.prog)
    (hok : Input.okWideB C.prog (w0.forCall (fun _ _ => 0) ⟨#[], args, []⟩) f ⟨#[], args, []⟩ = true)
    (hrow : s.preRow enc C.prog fn conds apart laid (w0.forCall (fun _ _ => 0) ⟨#[], args, []⟩).memory args) :
    ∃ (w : World) (tape : Tape) (i : Input), w.os = os ∧ (w.forCall tape i).Shaped C.prog ∧ i.vars = [] ∧ Input.okWide C.prog (w.forCall tape i) .any w.heap.size f i ∧
      s.preRow enc C.prog fn conds apart laid (w.forCall tape i).memory i.args ∧ ({} : Assume).holds C.prog (lone (Frame.enter C.prog f i.args .normal) [] (w.forCall tape i)) :=
  ⟨w0, fun _ _ => 0, ⟨#[], args, []⟩, hos, hsh, rfl, (Input.okWide_of_okWideB (base := w0.heap.size) hok).2, hrow, by
    simp only [Assume.holds]
    exact ⟨by simp, by simp, fun _ => Modest.zero, by simp, by simp⟩⟩

theorem bulk_one {H : Type} (d : DataW H) : 1 ≤ Rows.uptoBulk d := by
  cases d with
  | lit l => cases l <;> simp [Rows.uptoBulk]
  | nil => exact Nat.le_refl _
  | held h => exact Nat.le_refl _
  | _ => simp only [Rows.uptoBulk]; omega
theorem bulk_len {H : Type} : ∀ l : List (DataW H), l.length ≤ Rows.uptoBulkAll l
  | [] => Nat.zero_le _
  | d :: r => by
    have h1 := bulk_one d
    have h2 := bulk_len r
    simp only [Rows.uptoBulkAll, List.length_cons]
    omega
theorem bulk_all {H : Type} {l : List (DataW H)} (h : Rows.uptoSmall H l = true) : Rows.uptoBulkAll l ≤ 1048576 := of_decide_eq_true h
end Go.Proofs.YtkipjalfgdfaiaaGreatDoor
