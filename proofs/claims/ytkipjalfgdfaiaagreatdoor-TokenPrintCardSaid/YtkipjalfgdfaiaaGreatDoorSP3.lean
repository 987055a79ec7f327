/- TkR7, TkR8, LrP, LnP, LnQ, Shelf, LnC, NmP, NmA, TkP1, TkP2, LnR, LnT, NmC, LnU, NmD. -/
import Derived.Test.YtkipjalfgdfaiaaGreatDoorProg
import Derived.Below
import Derived.Deep.Draws
import Derived.Deep.AppendLies
import Derived.Maps.AppendAt
import Derived.OwnWalk
import Derived.Laws.BytesArg
import Derived.Laws.MakeOwn
import Derived.Laws.OwnMore
import Derived.Deep.OwnRows
import Derived.Tactics
import Derived.Lib.ConvBytes
import Derived.Laws.Slices
import Derived.WalkKit
import Derived.KernelRfl
import Derived.RowKit3
import Derived.Deep.LoopGhost
import Derived.Deep.QuietTactic
import Derived.BigQuiet
import Derived.WideLaws
import Derived.Deep.DeepCutAuto
import Derived.Deep.CutBlock
import Derived.Deep.RegionHeld3
import Derived.Laws.Rows
import Derived.Lib.AppendStr
import Derived.ArgAppend
import Derived.Laws.IdiomCopy
import Derived.OrdersHeld
import Derived.Laws.BitsLemmas
import Derived.RowKit
import Derived.Test.YtkipjalfgdfaiaaGreatDoorWWords
import Derived.Test.YtkipjalfgdfaiaaGreatDoorWLast
import Derived.Test.YtkipjalfgdfaiaaGreatDoorWRepsOne
import Derived.Lib.SplitLaws
import Derived.Lib.CutLaws
import Derived.Lib.SlTrimSet
import Derived.Shelf.Strings.Cut
import Derived.Shelf.Strings.Split
import Derived.Shelf.Strings.SlTrimAscii
import Derived.Laws.RangeAny
import Derived.Laws.RangeString
import Derived.LoopTactic
import Derived.WalkSpells
import Derived.Test.YtkipjalfgdfaiaaGreatDoorSP2
namespace Go.Proofs.YtkipjalfgdfaiaaGreatDoor
set_option linter.unusedVariables false
set_option linter.unusedSimpArgs false
open Go.RowKit Go.Proofs.YtkipjalfgdfaiaaGreatDoorW.PrintWords Go.Proofs.YtkipjalfgdfaiaaGreatDoorW.PrintLast Go.Proofs.YtkipjalfgdfaiaaGreatDoorW.PrintMore Go.Proofs.YtkipjalfgdfaiaaGreatDoor.PTk

section
variable {W0 w : World} {m : Int} {base g h : Nat} {A : Option Addr} {c : Nat} {p : List Int} {st ne k : Nat} {t : Tk}
set_option maxHeartbeats 8000000 in
set_option maxRecDepth 100000 in
theorem back_end (S : St W0 m base g h A c p st ne t k w) (hst : t.st = st) (hk : st ≤ k) (x : Int × Nat) (hp : peekL p k = .error x) :
    Calls Tryz.prog 115 #[.pointer (some ⟨g, 0, none⟩), .pointer (some ⟨h, 0, none⟩)] w (RT W0 g h (fun t k w' => St W0 m base g h A c p st ne t k w') (backL p k t)) := by
  have HS0 := Aside0.mk S
  have fr0 := S.free 0
  have fc0 := S.cell 0 _ rfl
  have hn := S.hn
  have hn2 := Ne.symm S.hn
  have hkb : k ≤ 2000 := Nat.le_trans S.sv.le S.sv.len
  have hks : st ≤ k + 1 := by omega
  have HKS := Aside0.mk hks
  have HL : Aside0 (backL p k t = .error x) := ⟨by unfold backL; rw [hp, thenF_err]⟩
  have HP := Aside0.mk hp
  clear S hst hk hks hp
  go_enter Tryz.func115, Tryz.ntmps115
  go_wp2_with fail
  refine (sPeek (HS0.out.setT 0 _ { t with kind := 9 } rfl)).mono ?_
  intro e w1 hr
  rw [HP.out] at hr
  obtain ⟨rfl, hB⟩ := hr
  have HBE := Aside0.mk hB
  clear hB
  go_wp2
  rw [HL.out]
  exact ⟨rfl, rfl, HBE.out⟩
set_option maxHeartbeats 8000000 in
set_option maxRecDepth 100000 in
theorem back_ltbad (S : St W0 m base g h A c p st ne t k w) (hst : t.st = st) (hk : st ≤ k) (hp : peekL p k = .ok 60) (x : Int × Nat) (hq : nameL p st (k + 1) 132 = .error x) :
    Calls Tryz.prog 115 #[.pointer (some ⟨g, 0, none⟩), .pointer (some ⟨h, 0, none⟩)] w (RT W0 g h (fun t k w' => St W0 m base g h A c p st ne t k w') (backL p k t)) := by
  have HS0 := Aside0.mk S
  have fr0 := S.free 0
  have fc0 := S.cell 0 _ rfl
  have hn := S.hn
  have hn2 := Ne.symm S.hn
  have hkb : k ≤ 2000 := Nat.le_trans S.sv.le S.sv.len
  have hks : st ≤ k + 1 := by omega
  have HKS := Aside0.mk hks
  have HL : Aside0 (backL p k t = .error x) := ⟨by unfold backL; rw [hp, thenF_ok, if_pos rfl, hst, hq, thenF_err]⟩
  have HP := Aside0.mk hp
  have HQ := Aside0.mk hq
  have hkl := (peek_ok hp).1
  clear S hst hk hks hp hq
  go_enter Tryz.func115, Tryz.ntmps115
  go_wp2_with fail
  refine (sPeek (HS0.out.setT 0 _ { t with kind := 9 } rfl)).mono ?_
  intro e w1 hr
  rw [HP.out] at hr
  obtain ⟨rfl, hS⟩ := hr
  have HS1 := Aside0.mk hS
  clear hS
  have fr1_0 := HS1.out.freeS 1
  have ce1_0 := HS1.out.at_
  go_wp2_with fail
  refine (sName (HS1.out.setK _ (k + 1) (by first | rfl | simp; omega) (by omega)) 132 (by decide) HKS.out).mono ?_
  intro e w2 hr
  rw [HQ.out] at hr
  obtain ⟨rfl, hB⟩ := hr
  have HBE := Aside0.mk hB
  clear hB
  go_wp2
  rw [HL.out]
  exact ⟨rfl, rfl, HBE.out⟩
set_option maxHeartbeats 8000000 in
set_option maxRecDepth 100000 in
theorem back_lt (S : St W0 m base g h A c p st ne t k w) (hst : t.st = st) (hk : st ≤ k) (hp : peekL p k = .ok 60) (b : List Int × Nat) (hq : nameL p st (k + 1) 132 = .ok b) :
    Calls Tryz.prog 115 #[.pointer (some ⟨g, 0, none⟩), .pointer (some ⟨h, 0, none⟩)] w (RT W0 g h (fun t k w' => St W0 m base g h A c p st ne t k w') (backL p k t)) := by
  have HS0 := Aside0.mk S
  have fr0 := S.free 0
  have fc0 := S.cell 0 _ rfl
  have hn := S.hn
  have hn2 := Ne.symm S.hn
  have hkb : k ≤ 2000 := Nat.le_trans S.sv.le S.sv.len
  have hks : st ≤ k + 1 := by omega
  have HKS := Aside0.mk hks
  have HL : Aside0 (backL p k t = .ok ({ t with kind := 9, name := strOfNums b.1 }, b.2)) := ⟨by unfold backL; rw [hp, thenF_ok, if_pos rfl, hst, hq, thenF_ok]⟩
  have HP := Aside0.mk hp
  have HQ := Aside0.mk hq
  have hkl := (peek_ok hp).1
  clear S hst hk hks hp hq
  go_enter Tryz.func115, Tryz.ntmps115
  go_wp2_with fail
  refine (sPeek (HS0.out.setT 0 _ { t with kind := 9 } rfl)).mono ?_
  intro e w1 hr
  rw [HP.out] at hr
  obtain ⟨rfl, hS⟩ := hr
  have HS1 := Aside0.mk hS
  clear hS
  have fr1_0 := HS1.out.freeS 1
  have ce1_0 := HS1.out.at_
  go_wp2_with fail
  refine (sName (HS1.out.setK _ (k + 1) (by first | rfl | simp; omega) (by omega)) 132 (by decide) HKS.out).mono ?_
  intro e w2 hr
  rw [HQ.out] at hr
  obtain ⟨rfl, hS⟩ := hr
  have HS2 := Aside0.mk hS
  clear hS
  have fc2_0 := HS2.out.cell 4 _ rfl
  have fr2_0 := HS2.out.free 4
  go_wp2
  go_end0
  rw [HL.out]
  exact ⟨rfl, (HS2.out.setT 4 _ { t with kind := 9, name := strOfNums b.1 } rfl)⟩
set_option maxHeartbeats 8000000 in
set_option maxRecDepth 100000 in
theorem back_nobrace (S : St W0 m base g h A c p st ne t k w) (hst : t.st = st) (hk : st ≤ k) (d : Int) (hp : peekL p k = .ok d) (hd : d ≠ 60) (x : Int × Nat) (hq : needL p st k 123 132 = .error x) :
    Calls Tryz.prog 115 #[.pointer (some ⟨g, 0, none⟩), .pointer (some ⟨h, 0, none⟩)] w (RT W0 g h (fun t k w' => St W0 m base g h A c p st ne t k w') (backL p k t)) := by
  have HS0 := Aside0.mk S
  have fr0 := S.free 0
  have fc0 := S.cell 0 _ rfl
  have hn := S.hn
  have hn2 := Ne.symm S.hn
  have hkb : k ≤ 2000 := Nat.le_trans S.sv.le S.sv.len
  have hks : st ≤ k + 1 := by omega
  have HKS := Aside0.mk hks
  have HL : Aside0 (backL p k t = .error x) := ⟨by unfold backL; rw [hp, thenF_ok, if_neg hd, hst, hq, thenF_err]⟩
  have HP := Aside0.mk hp
  have hd1 : (d == 60) = false := by rw [beq_eq_false_iff_ne]; exact hd
  have hd2 : (60 == d) = false := by rw [beq_eq_false_iff_ne]; exact fun e => hd e.symm
  have HQ := Aside0.mk hq
  clear S hst hk hks hp hq hd
  go_enter Tryz.func115, Tryz.ntmps115
  go_wp2_with fail
  refine (sPeek (HS0.out.setT 0 _ { t with kind := 9 } rfl)).mono ?_
  intro e w1 hr
  rw [HP.out] at hr
  obtain ⟨rfl, hS⟩ := hr
  have HS1 := Aside0.mk hS
  clear hS
  go_wp2_with fail
  refine (sNeed HS1.out 123 132).mono ?_
  intro e w2 hr
  rw [HQ.out] at hr
  obtain ⟨rfl, hB⟩ := hr
  have HBE := Aside0.mk hB
  clear hB
  go_wp2
  rw [HL.out]
  exact ⟨rfl, rfl, HBE.out⟩
set_option maxHeartbeats 8000000 in
set_option maxRecDepth 100000 in
theorem back_end2 (S : St W0 m base g h A c p st ne t k w) (hst : t.st = st) (hk : st ≤ k) (d : Int) (hp : peekL p k = .ok d) (hd : d ≠ 60) (hq : needL p st k 123 132 = .ok (k + 1)) (a : Int) (k2 : Nat) (hx : numberL p (k + 1) 2 = (a, k2)) (x : Int × Nat) (hy : peekL p k2 = .error x) :
    Calls Tryz.prog 115 #[.pointer (some ⟨g, 0, none⟩), .pointer (some ⟨h, 0, none⟩)] w (RT W0 g h (fun t k w' => St W0 m base g h A c p st ne t k w') (backL p k t)) := by
  have HS0 := Aside0.mk S
  have fr0 := S.free 0
  have fc0 := S.cell 0 _ rfl
  have hn := S.hn
  have hn2 := Ne.symm S.hn
  have hkb : k ≤ 2000 := Nat.le_trans S.sv.le S.sv.len
  have hks : st ≤ k + 1 := by omega
  have HKS := Aside0.mk hks
  have HL : Aside0 (backL p k t = .error x) := ⟨by unfold backL; rw [hp, thenF_ok, if_neg hd, hst, hq, thenF_ok, hx]; unfold backE; simp only; rw [hy, thenF_err]⟩
  have HP := Aside0.mk hp
  have hd1 : (d == 60) = false := by rw [beq_eq_false_iff_ne]; exact hd
  have hd2 : (60 == d) = false := by rw [beq_eq_false_iff_ne]; exact fun e => hd e.symm
  have HQ := Aside0.mk hq
  have HX : Aside0 (∀ W, St W0 m base g h A c p st ne { t with kind := 9 } (k + 1) W → Calls Tryz.prog 118 #[.pointer (some ⟨g, 0, none⟩), .int .i64 2] W fun e w' => e = .returned (.int .i64 a) ∧ St W0 m base g h A c p st ne { t with kind := 9 } k2 w') := ⟨fun W hS => by have h := sNumber hS 2 (by omega); rw [hx] at h; exact h⟩
  have hab : -1 ≤ a ∧ a ≤ 999 := by have h := number_bound p (k + 1) 2 (by omega); rw [hx] at h; exact h
  have HY := Aside0.mk hy
  clear S hst hk hks hp hq hd hx hy
  go_enter Tryz.func115, Tryz.ntmps115
  go_wp2_with fail
  refine (sPeek (HS0.out.setT 0 _ { t with kind := 9 } rfl)).mono ?_
  intro e w1 hr
  rw [HP.out] at hr
  obtain ⟨rfl, hS⟩ := hr
  have HS1 := Aside0.mk hS
  clear hS
  go_wp2_with fail
  refine (sNeed HS1.out 123 132).mono ?_
  intro e w2 hr
  rw [HQ.out] at hr
  obtain ⟨rfl, hS⟩ := hr
  have HS2 := Aside0.mk hS
  clear hS
  go_wp2_with fail
  refine (HX.out _ HS2.out).mono ?_
  intro e w3 hr
  obtain ⟨rfl, hS⟩ := hr
  have HS3 := Aside0.mk hS
  clear hS
  have fc3_0 := HS3.out.cell 2 _ rfl
  have fr3_0 := HS3.out.free 2
  go_wp2_with fail
  refine (sPeek (HS3.out.setT 2 _ { t with kind := 9, a := a } rfl)).mono ?_
  intro e w4 hr
  rw [HY.out] at hr
  obtain ⟨rfl, hB⟩ := hr
  have HBE := Aside0.mk hB
  clear hB
  go_wp2
  rw [HL.out]
  exact ⟨rfl, rfl, HBE.out⟩
set_option maxHeartbeats 8000000 in
set_option maxRecDepth 100000 in
theorem back_small (S : St W0 m base g h A c p st ne t k w) (hst : t.st = st) (hk : st ≤ k) (d : Int) (hp : peekL p k = .ok d) (hd : d ≠ 60) (hq : needL p st k 123 132 = .ok (k + 1)) (a : Int) (k2 : Nat) (hx : numberL p (k + 1) 2 = (a, k2)) (y : Int) (hy : peekL p k2 = .ok y) (ha : a < 1) :
    Calls Tryz.prog 115 #[.pointer (some ⟨g, 0, none⟩), .pointer (some ⟨h, 0, none⟩)] w (RT W0 g h (fun t k w' => St W0 m base g h A c p st ne t k w') (backL p k t)) := by
  have HS0 := Aside0.mk S
  have fr0 := S.free 0
  have fc0 := S.cell 0 _ rfl
  have hn := S.hn
  have hn2 := Ne.symm S.hn
  have hkb : k ≤ 2000 := Nat.le_trans S.sv.le S.sv.len
  have hks : st ≤ k + 1 := by omega
  have HKS := Aside0.mk hks
  have HL : Aside0 (backL p k t = .error (132, st)) := ⟨by unfold backL; rw [hp, thenF_ok, if_neg hd, hst, hq, thenF_ok, hx]; unfold backE; simp only; rw [hy, thenF_ok, if_pos ha, hst]⟩
  have HP := Aside0.mk hp
  have hd1 : (d == 60) = false := by rw [beq_eq_false_iff_ne]; exact hd
  have hd2 : (60 == d) = false := by rw [beq_eq_false_iff_ne]; exact fun e => hd e.symm
  have HQ := Aside0.mk hq
  have HX : Aside0 (∀ W, St W0 m base g h A c p st ne { t with kind := 9 } (k + 1) W → Calls Tryz.prog 118 #[.pointer (some ⟨g, 0, none⟩), .int .i64 2] W fun e w' => e = .returned (.int .i64 a) ∧ St W0 m base g h A c p st ne { t with kind := 9 } k2 w') := ⟨fun W hS => by have h := sNumber hS 2 (by omega); rw [hx] at h; exact h⟩
  have hab : -1 ≤ a ∧ a ≤ 999 := by have h := number_bound p (k + 1) 2 (by omega); rw [hx] at h; exact h
  have HY := Aside0.mk hy
  have ha1 : decide (a < 1) = true := decide_eq_true ha
  clear S hst hk hks hp hq hd hx hy ha
  go_enter Tryz.func115, Tryz.ntmps115
  go_wp2_with fail
  refine (sPeek (HS0.out.setT 0 _ { t with kind := 9 } rfl)).mono ?_
  intro e w1 hr
  rw [HP.out] at hr
  obtain ⟨rfl, hS⟩ := hr
  have HS1 := Aside0.mk hS
  clear hS
  go_wp2_with fail
  refine (sNeed HS1.out 123 132).mono ?_
  intro e w2 hr
  rw [HQ.out] at hr
  obtain ⟨rfl, hS⟩ := hr
  have HS2 := Aside0.mk hS
  clear hS
  go_wp2_with fail
  refine (HX.out _ HS2.out).mono ?_
  intro e w3 hr
  obtain ⟨rfl, hS⟩ := hr
  have HS3 := Aside0.mk hS
  clear hS
  have fc3_0 := HS3.out.cell 2 _ rfl
  have fr3_0 := HS3.out.free 2
  go_wp2_with fail
  refine (sPeek (HS3.out.setT 2 _ { t with kind := 9, a := a } rfl)).mono ?_
  intro e w4 hr
  rw [HY.out] at hr
  obtain ⟨rfl, hS⟩ := hr
  have HS4 := Aside0.mk hS
  clear hS
  have ca := HS4.out.cell 2 (.int .i64 a) rfl
  go_wp2_with fail
  refine (sFail HS4.out 132).mono ?_
  intro e w5 hr
  obtain ⟨rfl, hB⟩ := hr
  have HBE := Aside0.mk hB
  clear hB
  go_wp2
  rw [HL.out]
  exact ⟨rfl, rfl, HBE.out⟩
set_option maxHeartbeats 8000000 in
set_option maxRecDepth 100000 in
theorem back_noend (S : St W0 m base g h A c p st ne t k w) (hst : t.st = st) (hk : st ≤ k) (d : Int) (hp : peekL p k = .ok d) (hd : d ≠ 60) (hq : needL p st k 123 132 = .ok (k + 1)) (a : Int) (k2 : Nat) (hx : numberL p (k + 1) 2 = (a, k2)) (y : Int) (hy : peekL p k2 = .ok y) (ha : ¬ a < 1) (x : Int × Nat) (hz : needL p st k2 125 132 = .error x) :
    Calls Tryz.prog 115 #[.pointer (some ⟨g, 0, none⟩), .pointer (some ⟨h, 0, none⟩)] w (RT W0 g h (fun t k w' => St W0 m base g h A c p st ne t k w') (backL p k t)) := by
  have HS0 := Aside0.mk S
  have fr0 := S.free 0
  have fc0 := S.cell 0 _ rfl
  have hn := S.hn
  have hn2 := Ne.symm S.hn
  have hkb : k ≤ 2000 := Nat.le_trans S.sv.le S.sv.len
  have hks : st ≤ k + 1 := by omega
  have HKS := Aside0.mk hks
  have HL : Aside0 (backL p k t = .error x) := ⟨by unfold backL; rw [hp, thenF_ok, if_neg hd, hst, hq, thenF_ok, hx]; unfold backE; simp only; rw [hy, thenF_ok, if_neg ha, hst, hz, thenF_err]⟩
  have HP := Aside0.mk hp
  have hd1 : (d == 60) = false := by rw [beq_eq_false_iff_ne]; exact hd
  have hd2 : (60 == d) = false := by rw [beq_eq_false_iff_ne]; exact fun e => hd e.symm
  have HQ := Aside0.mk hq
  have HX : Aside0 (∀ W, St W0 m base g h A c p st ne { t with kind := 9 } (k + 1) W → Calls Tryz.prog 118 #[.pointer (some ⟨g, 0, none⟩), .int .i64 2] W fun e w' => e = .returned (.int .i64 a) ∧ St W0 m base g h A c p st ne { t with kind := 9 } k2 w') := ⟨fun W hS => by have h := sNumber hS 2 (by omega); rw [hx] at h; exact h⟩
  have hab : -1 ≤ a ∧ a ≤ 999 := by have h := number_bound p (k + 1) 2 (by omega); rw [hx] at h; exact h
  have HY := Aside0.mk hy
  have HZ := Aside0.mk hz
  have ha1 : decide (a < 1) = false := decide_eq_false ha
  clear S hst hk hks hp hq hd hx hy ha hz
  go_enter Tryz.func115, Tryz.ntmps115
  go_wp2_with fail
  refine (sPeek (HS0.out.setT 0 _ { t with kind := 9 } rfl)).mono ?_
  intro e w1 hr
  rw [HP.out] at hr
  obtain ⟨rfl, hS⟩ := hr
  have HS1 := Aside0.mk hS
  clear hS
  go_wp2_with fail
  refine (sNeed HS1.out 123 132).mono ?_
  intro e w2 hr
  rw [HQ.out] at hr
  obtain ⟨rfl, hS⟩ := hr
  have HS2 := Aside0.mk hS
  clear hS
  go_wp2_with fail
  refine (HX.out _ HS2.out).mono ?_
  intro e w3 hr
  obtain ⟨rfl, hS⟩ := hr
  have HS3 := Aside0.mk hS
  clear hS
  have fc3_0 := HS3.out.cell 2 _ rfl
  have fr3_0 := HS3.out.free 2
  go_wp2_with fail
  refine (sPeek (HS3.out.setT 2 _ { t with kind := 9, a := a } rfl)).mono ?_
  intro e w4 hr
  rw [HY.out] at hr
  obtain ⟨rfl, hS⟩ := hr
  have HS4 := Aside0.mk hS
  clear hS
  have ca := HS4.out.cell 2 (.int .i64 a) rfl
  go_wp2_with fail
  refine (sNeed HS4.out 125 132).mono ?_
  intro e w5 hr
  rw [HZ.out] at hr
  obtain ⟨rfl, hB⟩ := hr
  have HBE := Aside0.mk hB
  clear hB
  go_wp2
  rw [HL.out]
  exact ⟨rfl, rfl, HBE.out⟩
set_option maxHeartbeats 8000000 in
set_option maxRecDepth 100000 in
theorem back_brace (S : St W0 m base g h A c p st ne t k w) (hst : t.st = st) (hk : st ≤ k) (d : Int) (hp : peekL p k = .ok d) (hd : d ≠ 60) (hq : needL p st k 123 132 = .ok (k + 1)) (a : Int) (k2 : Nat) (hx : numberL p (k + 1) 2 = (a, k2)) (y : Int) (hy : peekL p k2 = .ok y) (ha : ¬ a < 1) (k3 : Nat) (hz : needL p st k2 125 132 = .ok k3) :
    Calls Tryz.prog 115 #[.pointer (some ⟨g, 0, none⟩), .pointer (some ⟨h, 0, none⟩)] w (RT W0 g h (fun t k w' => St W0 m base g h A c p st ne t k w') (backL p k t)) := by
  have HS0 := Aside0.mk S
  have fr0 := S.free 0
  have fc0 := S.cell 0 _ rfl
  have hn := S.hn
  have hn2 := Ne.symm S.hn
  have hkb : k ≤ 2000 := Nat.le_trans S.sv.le S.sv.len
  have hks : st ≤ k + 1 := by omega
  have HKS := Aside0.mk hks
  have HL : Aside0 (backL p k t = .ok ({ t with kind := 9, a := a }, k3)) := ⟨by unfold backL; rw [hp, thenF_ok, if_neg hd, hst, hq, thenF_ok, hx]; unfold backE; simp only; rw [hy, thenF_ok, if_neg ha, hst, hz, thenF_ok]⟩
  have HP := Aside0.mk hp
  have hd1 : (d == 60) = false := by rw [beq_eq_false_iff_ne]; exact hd
  have hd2 : (60 == d) = false := by rw [beq_eq_false_iff_ne]; exact fun e => hd e.symm
  have HQ := Aside0.mk hq
  have HX : Aside0 (∀ W, St W0 m base g h A c p st ne { t with kind := 9 } (k + 1) W → Calls Tryz.prog 118 #[.pointer (some ⟨g, 0, none⟩), .int .i64 2] W fun e w' => e = .returned (.int .i64 a) ∧ St W0 m base g h A c p st ne { t with kind := 9 } k2 w') := ⟨fun W hS => by have h := sNumber hS 2 (by omega); rw [hx] at h; exact h⟩
  have hab : -1 ≤ a ∧ a ≤ 999 := by have h := number_bound p (k + 1) 2 (by omega); rw [hx] at h; exact h
  have HY := Aside0.mk hy
  have HZ := Aside0.mk hz
  have ha1 : decide (a < 1) = false := decide_eq_false ha
  clear S hst hk hks hp hq hd hx hy ha hz
  go_enter Tryz.func115, Tryz.ntmps115
  go_wp2_with fail
  refine (sPeek (HS0.out.setT 0 _ { t with kind := 9 } rfl)).mono ?_
  intro e w1 hr
  rw [HP.out] at hr
  obtain ⟨rfl, hS⟩ := hr
  have HS1 := Aside0.mk hS
  clear hS
  go_wp2_with fail
  refine (sNeed HS1.out 123 132).mono ?_
  intro e w2 hr
  rw [HQ.out] at hr
  obtain ⟨rfl, hS⟩ := hr
  have HS2 := Aside0.mk hS
  clear hS
  go_wp2_with fail
  refine (HX.out _ HS2.out).mono ?_
  intro e w3 hr
  obtain ⟨rfl, hS⟩ := hr
  have HS3 := Aside0.mk hS
  clear hS
  have fc3_0 := HS3.out.cell 2 _ rfl
  have fr3_0 := HS3.out.free 2
  go_wp2_with fail
  refine (sPeek (HS3.out.setT 2 _ { t with kind := 9, a := a } rfl)).mono ?_
  intro e w4 hr
  rw [HY.out] at hr
  obtain ⟨rfl, hS⟩ := hr
  have HS4 := Aside0.mk hS
  clear hS
  have ca := HS4.out.cell 2 (.int .i64 a) rfl
  go_wp2_with fail
  refine (sNeed HS4.out 125 132).mono ?_
  intro e w5 hr
  rw [HZ.out] at hr
  obtain ⟨rfl, hS⟩ := hr
  have HS5 := Aside0.mk hS
  clear hS
  go_wp2
  go_end0
  rw [HL.out]
  exact ⟨rfl, HS5.out⟩
theorem back_any (S : St W0 m base g h A c p st ne t k w) (hst : t.st = st) (hk : st ≤ k) :
    Calls Tryz.prog 115 #[.pointer (some ⟨g, 0, none⟩), .pointer (some ⟨h, 0, none⟩)] w (RT W0 g h (fun t k w' => St W0 m base g h A c p st ne t k w') (backL p k t)) := by
  cases hp : peekL p k with
  | error x => exact back_end S hst hk x hp
  | ok d =>
    by_cases hd : d = 60
    · subst hd
      cases hq : nameL p st (k + 1) 132 with
      | error x => exact back_ltbad S hst hk hp x hq
      | ok b => exact back_lt S hst hk hp b hq
    · cases hq : needL p st k 123 132 with
      | error x => exact back_nobrace S hst hk d hp hd x hq
      | ok k1 =>
        obtain rfl := (need_ok hq).1
        obtain ⟨x, hx⟩ : ∃ x, numberL p (k + 1) 2 = x := ⟨_, rfl⟩
        obtain ⟨a, k2⟩ := x
        cases hy : peekL p k2 with
        | error x => exact back_end2 S hst hk d hp hd hq a k2 hx x hy
        | ok y =>
          by_cases ha : a < 1
          · exact back_small S hst hk d hp hd hq a k2 hx y hy ha
          · cases hz : needL p st k2 125 132 with
            | error x => exact back_noend S hst hk d hp hd hq a k2 hx y hy ha x hz
            | ok k3 => exact back_brace S hst hk d hp hd hq a k2 hx y hy ha k3 hz
set_option maxHeartbeats 8000000 in
set_option maxRecDepth 100000 in
theorem edge_none_true (S : St W0 m base g h A c p st ne t k w) (hst : t.st = st) (nt : Bool) (hb : nt = true) (hh : hasL p k [123] = false) :
    Calls Tryz.prog 114 #[.pointer (some ⟨g, 0, none⟩), .pointer (some ⟨h, 0, none⟩), .bool nt] w (RT W0 g h (fun t k w' => St W0 m base g h A c p st ne t k w') (edgeL p k t nt)) := by
  have HS0 := Aside0.mk S
  have fr0 := S.free 0
  have fc0 := S.cell 0 _ rfl
  have fr1 := S.free 1
  have fc1 := S.cell 1 _ rfl
  have hn := S.hn
  have hn2 := Ne.symm S.hn
  have hkb : k ≤ 2000 := Nat.le_trans S.sv.le S.sv.len
  have HL : Aside0 (edgeL p k t nt = .ok ({ t with kind := 7, mode := 6 }, k)) := ⟨by unfold edgeL; rw [if_pos hh, hb]; rfl⟩
  have HH := Aside0.mk hh
  have he : eatL p k [123] = k := by unfold eatL; rw [hh]; rfl
  have HE := Aside0.mk he
  subst hb
  clear S hst hh he
  go_enter Tryz.func114, Tryz.ntmps114
  go_wp2_with fail
  refine (sEatS ((HS0.out.setT 0 _ { t with kind := 7 } rfl).setT 1 _ { t with kind := 7, mode := 5 } rfl) [123] ⟨#[123]⟩ rfl (by decide) (by decide)).mono ?_
  intro e w1 hr
  rw [HH.out, HE.out] at hr
  obtain ⟨rfl, hS⟩ := hr
  have HS1 := Aside0.mk hS
  clear hS
  have fr1_0 := HS1.out.free 1
  have cm := HS1.out.cell 1 (.int .i64 5) rfl
  go_wp2
  go_end0
  rw [HL.out]
  exact ⟨rfl, (HS1.out.setT 1 _ { t with kind := 7, mode := 6 } rfl)⟩
set_option maxHeartbeats 8000000 in
set_option maxRecDepth 100000 in
theorem edge_none_false (S : St W0 m base g h A c p st ne t k w) (hst : t.st = st) (nt : Bool) (hb : nt = false) (hh : hasL p k [123] = false) :
    Calls Tryz.prog 114 #[.pointer (some ⟨g, 0, none⟩), .pointer (some ⟨h, 0, none⟩), .bool nt] w (RT W0 g h (fun t k w' => St W0 m base g h A c p st ne t k w') (edgeL p k t nt)) := by
  have HS0 := Aside0.mk S
  have fr0 := S.free 0
  have fc0 := S.cell 0 _ rfl
  have fr1 := S.free 1
  have fc1 := S.cell 1 _ rfl
  have hn := S.hn
  have hn2 := Ne.symm S.hn
  have hkb : k ≤ 2000 := Nat.le_trans S.sv.le S.sv.len
  have HL : Aside0 (edgeL p k t nt = .ok ({ t with kind := 7, mode := 5 }, k)) := ⟨by unfold edgeL; rw [if_pos hh, hb]; rfl⟩
  have HH := Aside0.mk hh
  have he : eatL p k [123] = k := by unfold eatL; rw [hh]; rfl
  have HE := Aside0.mk he
  subst hb
  clear S hst hh he
  go_enter Tryz.func114, Tryz.ntmps114
  go_wp2_with fail
  refine (sEatS ((HS0.out.setT 0 _ { t with kind := 7 } rfl).setT 1 _ { t with kind := 7, mode := 5 } rfl) [123] ⟨#[123]⟩ rfl (by decide) (by decide)).mono ?_
  intro e w1 hr
  rw [HH.out, HE.out] at hr
  obtain ⟨rfl, hS⟩ := hr
  have HS1 := Aside0.mk hS
  clear hS
  have cm := HS1.out.cell 1 (.int .i64 5) rfl
  go_wp2
  go_end0
  rw [HL.out]
  exact ⟨rfl, HS1.out⟩
set_option maxHeartbeats 8000000 in
set_option maxRecDepth 100000 in
theorem edge_end (S : St W0 m base g h A c p st ne t k w) (hst : t.st = st) (nt : Bool) (hh : hasL p k [123] = true) (x : Int × Nat) (hp : peekL p (k + 1) = .error x) :
    Calls Tryz.prog 114 #[.pointer (some ⟨g, 0, none⟩), .pointer (some ⟨h, 0, none⟩), .bool nt] w (RT W0 g h (fun t k w' => St W0 m base g h A c p st ne t k w') (edgeL p k t nt)) := by
  have HS0 := Aside0.mk S
  have fr0 := S.free 0
  have fc0 := S.cell 0 _ rfl
  have fr1 := S.free 1
  have fc1 := S.cell 1 _ rfl
  have hn := S.hn
  have hn2 := Ne.symm S.hn
  have hkb : k ≤ 2000 := Nat.le_trans S.sv.le S.sv.len
  have HL : Aside0 (edgeL p k t nt = .error x) := ⟨by unfold edgeL; rw [if_neg (by rw [hh]; decide), hp, thenF_err]⟩
  have HH := Aside0.mk hh
  have he : eatL p k [123] = k + 1 := by unfold eatL; rw [hh]; rfl
  have HE := Aside0.mk he
  have HP := Aside0.mk hp
  clear S hst hh he hp
  go_enter Tryz.func114, Tryz.ntmps114
  go_wp2_with fail
  refine (sEatS ((HS0.out.setT 0 _ { t with kind := 7 } rfl).setT 1 _ { t with kind := 7, mode := 5 } rfl) [123] ⟨#[123]⟩ rfl (by decide) (by decide)).mono ?_
  intro e w1 hr
  rw [HH.out, HE.out] at hr
  obtain ⟨rfl, hS⟩ := hr
  have HS1 := Aside0.mk hS
  clear hS
  go_wp2_with fail
  refine (sPeek HS1.out).mono ?_
  intro e w2 hr
  rw [HP.out] at hr
  obtain ⟨rfl, hB⟩ := hr
  have HBE := Aside0.mk hB
  clear hB
  go_wp2
  rw [HL.out]
  exact ⟨rfl, rfl, HBE.out⟩
set_option maxHeartbeats 8000000 in
set_option maxRecDepth 100000 in
theorem edge_bad (S : St W0 m base g h A c p st ne t k w) (hst : t.st = st) (nt : Bool) (hh : hasL p k [123] = true) (d : Int) (hp : peekL p (k + 1) = .ok d) (h1 : d ≠ 103) (h2 : d ≠ 119) :
    Calls Tryz.prog 114 #[.pointer (some ⟨g, 0, none⟩), .pointer (some ⟨h, 0, none⟩), .bool nt] w (RT W0 g h (fun t k w' => St W0 m base g h A c p st ne t k w') (edgeL p k t nt)) := by
  have HS0 := Aside0.mk S
  have fr0 := S.free 0
  have fc0 := S.cell 0 _ rfl
  have fr1 := S.free 1
  have fc1 := S.cell 1 _ rfl
  have hn := S.hn
  have hn2 := Ne.symm S.hn
  have hkb : k ≤ 2000 := Nat.le_trans S.sv.le S.sv.len
  have HL : Aside0 (edgeL p k t nt = .error (132, st)) := ⟨by unfold edgeL; rw [if_neg (by rw [hh]; decide), hp, thenF_ok, if_neg (fun hh => hh.elim h1 h2), hst]⟩
  have HH := Aside0.mk hh
  have he : eatL p k [123] = k + 1 := by unfold eatL; rw [hh]; rfl
  have HE := Aside0.mk he
  have HP := Aside0.mk hp
  have g1 : (d == 103) = false := by rw [beq_eq_false_iff_ne]; exact h1
  have g2 : (d == 119) = false := by rw [beq_eq_false_iff_ne]; exact h2
  have g3 : (103 == d) = false := by rw [beq_eq_false_iff_ne]; exact fun e => h1 e.symm
  have g4 : (119 == d) = false := by rw [beq_eq_false_iff_ne]; exact fun e => h2 e.symm
  clear S hst hh he hp h1 h2
  go_enter Tryz.func114, Tryz.ntmps114
  go_wp2_with fail
  refine (sEatS ((HS0.out.setT 0 _ { t with kind := 7 } rfl).setT 1 _ { t with kind := 7, mode := 5 } rfl) [123] ⟨#[123]⟩ rfl (by decide) (by decide)).mono ?_
  intro e w1 hr
  rw [HH.out, HE.out] at hr
  obtain ⟨rfl, hS⟩ := hr
  have HS1 := Aside0.mk hS
  clear hS
  go_wp2_with fail
  refine (sPeek HS1.out).mono ?_
  intro e w2 hr
  rw [HP.out] at hr
  obtain ⟨rfl, hS⟩ := hr
  have HS2 := Aside0.mk hS
  clear hS
  go_wp2_with fail
  refine (sFail HS2.out 132).mono ?_
  intro e w3 hr
  obtain ⟨rfl, hB⟩ := hr
  have HBE := Aside0.mk hB
  clear hB
  go_wp2
  rw [HL.out]
  exact ⟨rfl, rfl, HBE.out⟩
set_option maxHeartbeats 8000000 in
set_option maxRecDepth 100000 in
theorem edge_gbad (S : St W0 m base g h A c p st ne t k w) (hst : t.st = st) (nt : Bool) (hh : hasL p k [123] = true) (hp : peekL p (k + 1) = .ok 103) (x : Int × Nat) (hq : needL p st (k + 2) 125 132 = .error x) :
    Calls Tryz.prog 114 #[.pointer (some ⟨g, 0, none⟩), .pointer (some ⟨h, 0, none⟩), .bool nt] w (RT W0 g h (fun t k w' => St W0 m base g h A c p st ne t k w') (edgeL p k t nt)) := by
  have HS0 := Aside0.mk S
  have fr0 := S.free 0
  have fc0 := S.cell 0 _ rfl
  have fr1 := S.free 1
  have fc1 := S.cell 1 _ rfl
  have hn := S.hn
  have hn2 := Ne.symm S.hn
  have hkb : k ≤ 2000 := Nat.le_trans S.sv.le S.sv.len
  have HL : Aside0 (edgeL p k t nt = .error x) := ⟨by unfold edgeL; rw [if_neg (by rw [hh]; decide), hp, thenF_ok, if_pos (by decide), hst, hq, thenF_err]⟩
  have HH := Aside0.mk hh
  have he : eatL p k [123] = k + 1 := by unfold eatL; rw [hh]; rfl
  have HE := Aside0.mk he
  have HP := Aside0.mk hp
  have HQ := Aside0.mk hq
  have hkl := (peek_ok hp).1
  clear S hst hh he hp hq
  go_enter Tryz.func114, Tryz.ntmps114
  go_wp2_with fail
  refine (sEatS ((HS0.out.setT 0 _ { t with kind := 7 } rfl).setT 1 _ { t with kind := 7, mode := 5 } rfl) [123] ⟨#[123]⟩ rfl (by decide) (by decide)).mono ?_
  intro e w1 hr
  rw [HH.out, HE.out] at hr
  obtain ⟨rfl, hS⟩ := hr
  have HS1 := Aside0.mk hS
  clear hS
  go_wp2_with fail
  refine (sPeek HS1.out).mono ?_
  intro e w2 hr
  rw [HP.out] at hr
  obtain ⟨rfl, hS⟩ := hr
  have HS2 := Aside0.mk hS
  clear hS
  have fc2_0 := HS2.out.cell 1 _ rfl
  have fr2_0 := HS2.out.free 1
  have fr2_1 := HS2.out.freeS 1
  have ce2_0 := HS2.out.at_
  go_wp2_with fail
  refine (sNeed ((HS2.out.setT 1 _ { t with kind := 7, mode := 7 } rfl).setK _ (k + 2) (by first | rfl | simp; omega) (by omega)) 125 132).mono ?_
  intro e w3 hr
  rw [HQ.out] at hr
  obtain ⟨rfl, hB⟩ := hr
  have HBE := Aside0.mk hB
  clear hB
  go_wp2
  rw [HL.out]
  exact ⟨rfl, rfl, HBE.out⟩
set_option maxHeartbeats 8000000 in
set_option maxRecDepth 100000 in
theorem edge_g_true (S : St W0 m base g h A c p st ne t k w) (hst : t.st = st) (nt : Bool) (hb : nt = true) (hh : hasL p k [123] = true) (hp : peekL p (k + 1) = .ok 103) (k3 : Nat) (hq : needL p st (k + 2) 125 132 = .ok k3) :
    Calls Tryz.prog 114 #[.pointer (some ⟨g, 0, none⟩), .pointer (some ⟨h, 0, none⟩), .bool nt] w (RT W0 g h (fun t k w' => St W0 m base g h A c p st ne t k w') (edgeL p k t nt)) := by
  have HS0 := Aside0.mk S
  have fr0 := S.free 0
  have fc0 := S.cell 0 _ rfl
  have fr1 := S.free 1
  have fc1 := S.cell 1 _ rfl
  have hn := S.hn
  have hn2 := Ne.symm S.hn
  have hkb : k ≤ 2000 := Nat.le_trans S.sv.le S.sv.len
  have HL : Aside0 (edgeL p k t nt = .ok ({ t with kind := 7, mode := 8 }, k3)) := ⟨by unfold edgeL; rw [if_neg (by rw [hh]; decide), hp, thenF_ok, if_pos (by decide), hst, hq, thenF_ok, hb]; rfl⟩
  have HH := Aside0.mk hh
  have he : eatL p k [123] = k + 1 := by unfold eatL; rw [hh]; rfl
  have HE := Aside0.mk he
  have HP := Aside0.mk hp
  have HQ := Aside0.mk hq
  have hkl := (peek_ok hp).1
  subst hb
  clear S hst hh he hp hq
  go_enter Tryz.func114, Tryz.ntmps114
  go_wp2_with fail
  refine (sEatS ((HS0.out.setT 0 _ { t with kind := 7 } rfl).setT 1 _ { t with kind := 7, mode := 5 } rfl) [123] ⟨#[123]⟩ rfl (by decide) (by decide)).mono ?_
  intro e w1 hr
  rw [HH.out, HE.out] at hr
  obtain ⟨rfl, hS⟩ := hr
  have HS1 := Aside0.mk hS
  clear hS
  go_wp2_with fail
  refine (sPeek HS1.out).mono ?_
  intro e w2 hr
  rw [HP.out] at hr
  obtain ⟨rfl, hS⟩ := hr
  have HS2 := Aside0.mk hS
  clear hS
  have fc2_0 := HS2.out.cell 1 _ rfl
  have fr2_0 := HS2.out.free 1
  have fr2_1 := HS2.out.freeS 1
  have ce2_0 := HS2.out.at_
  go_wp2_with fail
  refine (sNeed ((HS2.out.setT 1 _ { t with kind := 7, mode := 7 } rfl).setK _ (k + 2) (by first | rfl | simp; omega) (by omega)) 125 132).mono ?_
  intro e w3 hr
  rw [HQ.out] at hr
  obtain ⟨rfl, hS⟩ := hr
  have HS3 := Aside0.mk hS
  clear hS
  have fr3_0 := HS3.out.free 1
  have cm := HS3.out.cell 1 (.int .i64 7) rfl
  go_wp2
  go_end0
  rw [HL.out]
  exact ⟨rfl, (HS3.out.setT 1 _ { t with kind := 7, mode := 8 } rfl)⟩
set_option maxHeartbeats 8000000 in
set_option maxRecDepth 100000 in
theorem edge_g_false (S : St W0 m base g h A c p st ne t k w) (hst : t.st = st) (nt : Bool) (hb : nt = false) (hh : hasL p k [123] = true) (hp : peekL p (k + 1) = .ok 103) (k3 : Nat) (hq : needL p st (k + 2) 125 132 = .ok k3) :
    Calls Tryz.prog 114 #[.pointer (some ⟨g, 0, none⟩), .pointer (some ⟨h, 0, none⟩), .bool nt] w (RT W0 g h (fun t k w' => St W0 m base g h A c p st ne t k w') (edgeL p k t nt)) := by
  have HS0 := Aside0.mk S
  have fr0 := S.free 0
  have fc0 := S.cell 0 _ rfl
  have fr1 := S.free 1
  have fc1 := S.cell 1 _ rfl
  have hn := S.hn
  have hn2 := Ne.symm S.hn
  have hkb : k ≤ 2000 := Nat.le_trans S.sv.le S.sv.len
  have HL : Aside0 (edgeL p k t nt = .ok ({ t with kind := 7, mode := 7 }, k3)) := ⟨by unfold edgeL; rw [if_neg (by rw [hh]; decide), hp, thenF_ok, if_pos (by decide), hst, hq, thenF_ok, hb]; rfl⟩
  have HH := Aside0.mk hh
  have he : eatL p k [123] = k + 1 := by unfold eatL; rw [hh]; rfl
  have HE := Aside0.mk he
  have HP := Aside0.mk hp
  have HQ := Aside0.mk hq
  have hkl := (peek_ok hp).1
  subst hb
  clear S hst hh he hp hq
  go_enter Tryz.func114, Tryz.ntmps114
  go_wp2_with fail
  refine (sEatS ((HS0.out.setT 0 _ { t with kind := 7 } rfl).setT 1 _ { t with kind := 7, mode := 5 } rfl) [123] ⟨#[123]⟩ rfl (by decide) (by decide)).mono ?_
  intro e w1 hr
  rw [HH.out, HE.out] at hr
  obtain ⟨rfl, hS⟩ := hr
  have HS1 := Aside0.mk hS
  clear hS
  go_wp2_with fail
  refine (sPeek HS1.out).mono ?_
  intro e w2 hr
  rw [HP.out] at hr
  obtain ⟨rfl, hS⟩ := hr
  have HS2 := Aside0.mk hS
  clear hS
  have fc2_0 := HS2.out.cell 1 _ rfl
  have fr2_0 := HS2.out.free 1
  have fr2_1 := HS2.out.freeS 1
  have ce2_0 := HS2.out.at_
  go_wp2_with fail
  refine (sNeed ((HS2.out.setT 1 _ { t with kind := 7, mode := 7 } rfl).setK _ (k + 2) (by first | rfl | simp; omega) (by omega)) 125 132).mono ?_
  intro e w3 hr
  rw [HQ.out] at hr
  obtain ⟨rfl, hS⟩ := hr
  have HS3 := Aside0.mk hS
  clear hS
  have cm := HS3.out.cell 1 (.int .i64 7) rfl
  go_wp2
  go_end0
  rw [HL.out]
  exact ⟨rfl, HS3.out⟩
set_option maxHeartbeats 8000000 in
set_option maxRecDepth 100000 in
theorem edge_wbad (S : St W0 m base g h A c p st ne t k w) (hst : t.st = st) (nt : Bool) (hh : hasL p k [123] = true) (hp : peekL p (k + 1) = .ok 119) (x : Int × Nat) (hq : needL p st (k + 2) 125 132 = .error x) :
    Calls Tryz.prog 114 #[.pointer (some ⟨g, 0, none⟩), .pointer (some ⟨h, 0, none⟩), .bool nt] w (RT W0 g h (fun t k w' => St W0 m base g h A c p st ne t k w') (edgeL p k t nt)) := by
  have HS0 := Aside0.mk S
  have fr0 := S.free 0
  have fc0 := S.cell 0 _ rfl
  have fr1 := S.free 1
  have fc1 := S.cell 1 _ rfl
  have hn := S.hn
  have hn2 := Ne.symm S.hn
  have hkb : k ≤ 2000 := Nat.le_trans S.sv.le S.sv.len
  have HL : Aside0 (edgeL p k t nt = .error x) := ⟨by unfold edgeL; rw [if_neg (by rw [hh]; decide), hp, thenF_ok, if_pos (by decide), hst, hq, thenF_err]⟩
  have HH := Aside0.mk hh
  have he : eatL p k [123] = k + 1 := by unfold eatL; rw [hh]; rfl
  have HE := Aside0.mk he
  have HP := Aside0.mk hp
  have HQ := Aside0.mk hq
  have hkl := (peek_ok hp).1
  clear S hst hh he hp hq
  go_enter Tryz.func114, Tryz.ntmps114
  go_wp2_with fail
  refine (sEatS ((HS0.out.setT 0 _ { t with kind := 7 } rfl).setT 1 _ { t with kind := 7, mode := 5 } rfl) [123] ⟨#[123]⟩ rfl (by decide) (by decide)).mono ?_
  intro e w1 hr
  rw [HH.out, HE.out] at hr
  obtain ⟨rfl, hS⟩ := hr
  have HS1 := Aside0.mk hS
  clear hS
  go_wp2_with fail
  refine (sPeek HS1.out).mono ?_
  intro e w2 hr
  rw [HP.out] at hr
  obtain ⟨rfl, hS⟩ := hr
  have HS2 := Aside0.mk hS
  clear hS
  have fc2_0 := HS2.out.cell 1 _ rfl
  have fr2_0 := HS2.out.free 1
  have fr2_1 := HS2.out.freeS 1
  have ce2_0 := HS2.out.at_
  go_wp2_with fail
  refine (sNeed ((HS2.out.setT 1 _ { t with kind := 7, mode := 9 } rfl).setK _ (k + 2) (by first | rfl | simp; omega) (by omega)) 125 132).mono ?_
  intro e w3 hr
  rw [HQ.out] at hr
  obtain ⟨rfl, hB⟩ := hr
  have HBE := Aside0.mk hB
  clear hB
  go_wp2
  rw [HL.out]
  exact ⟨rfl, rfl, HBE.out⟩
set_option maxHeartbeats 8000000 in
set_option maxRecDepth 100000 in
theorem edge_w_true (S : St W0 m base g h A c p st ne t k w) (hst : t.st = st) (nt : Bool) (hb : nt = true) (hh : hasL p k [123] = true) (hp : peekL p (k + 1) = .ok 119) (k3 : Nat) (hq : needL p st (k + 2) 125 132 = .ok k3) :
    Calls Tryz.prog 114 #[.pointer (some ⟨g, 0, none⟩), .pointer (some ⟨h, 0, none⟩), .bool nt] w (RT W0 g h (fun t k w' => St W0 m base g h A c p st ne t k w') (edgeL p k t nt)) := by
  have HS0 := Aside0.mk S
  have fr0 := S.free 0
  have fc0 := S.cell 0 _ rfl
  have fr1 := S.free 1
  have fc1 := S.cell 1 _ rfl
  have hn := S.hn
  have hn2 := Ne.symm S.hn
  have hkb : k ≤ 2000 := Nat.le_trans S.sv.le S.sv.len
  have HL : Aside0 (edgeL p k t nt = .ok ({ t with kind := 7, mode := 10 }, k3)) := ⟨by unfold edgeL; rw [if_neg (by rw [hh]; decide), hp, thenF_ok, if_pos (by decide), hst, hq, thenF_ok, hb]; rfl⟩
  have HH := Aside0.mk hh
  have he : eatL p k [123] = k + 1 := by unfold eatL; rw [hh]; rfl
  have HE := Aside0.mk he
  have HP := Aside0.mk hp
  have HQ := Aside0.mk hq
  have hkl := (peek_ok hp).1
  subst hb
  clear S hst hh he hp hq
  go_enter Tryz.func114, Tryz.ntmps114
  go_wp2_with fail
  refine (sEatS ((HS0.out.setT 0 _ { t with kind := 7 } rfl).setT 1 _ { t with kind := 7, mode := 5 } rfl) [123] ⟨#[123]⟩ rfl (by decide) (by decide)).mono ?_
  intro e w1 hr
  rw [HH.out, HE.out] at hr
  obtain ⟨rfl, hS⟩ := hr
  have HS1 := Aside0.mk hS
  clear hS
  go_wp2_with fail
  refine (sPeek HS1.out).mono ?_
  intro e w2 hr
  rw [HP.out] at hr
  obtain ⟨rfl, hS⟩ := hr
  have HS2 := Aside0.mk hS
  clear hS
  have fc2_0 := HS2.out.cell 1 _ rfl
  have fr2_0 := HS2.out.free 1
  have fr2_1 := HS2.out.freeS 1
  have ce2_0 := HS2.out.at_
  go_wp2_with fail
  refine (sNeed ((HS2.out.setT 1 _ { t with kind := 7, mode := 9 } rfl).setK _ (k + 2) (by first | rfl | simp; omega) (by omega)) 125 132).mono ?_
  intro e w3 hr
  rw [HQ.out] at hr
  obtain ⟨rfl, hS⟩ := hr
  have HS3 := Aside0.mk hS
  clear hS
  have fr3_0 := HS3.out.free 1
  have cm := HS3.out.cell 1 (.int .i64 9) rfl
  go_wp2
  go_end0
  rw [HL.out]
  exact ⟨rfl, (HS3.out.setT 1 _ { t with kind := 7, mode := 10 } rfl)⟩
set_option maxHeartbeats 8000000 in
set_option maxRecDepth 100000 in
theorem edge_w_false (S : St W0 m base g h A c p st ne t k w) (hst : t.st = st) (nt : Bool) (hb : nt = false) (hh : hasL p k [123] = true) (hp : peekL p (k + 1) = .ok 119) (k3 : Nat) (hq : needL p st (k + 2) 125 132 = .ok k3) :
    Calls Tryz.prog 114 #[.pointer (some ⟨g, 0, none⟩), .pointer (some ⟨h, 0, none⟩), .bool nt] w (RT W0 g h (fun t k w' => St W0 m base g h A c p st ne t k w') (edgeL p k t nt)) := by
  have HS0 := Aside0.mk S
  have fr0 := S.free 0
  have fc0 := S.cell 0 _ rfl
  have fr1 := S.free 1
  have fc1 := S.cell 1 _ rfl
  have hn := S.hn
  have hn2 := Ne.symm S.hn
  have hkb : k ≤ 2000 := Nat.le_trans S.sv.le S.sv.len
  have HL : Aside0 (edgeL p k t nt = .ok ({ t with kind := 7, mode := 9 }, k3)) := ⟨by unfold edgeL; rw [if_neg (by rw [hh]; decide), hp, thenF_ok, if_pos (by decide), hst, hq, thenF_ok, hb]; rfl⟩
  have HH := Aside0.mk hh
  have he : eatL p k [123] = k + 1 := by unfold eatL; rw [hh]; rfl
  have HE := Aside0.mk he
  have HP := Aside0.mk hp
  have HQ := Aside0.mk hq
  have hkl := (peek_ok hp).1
  subst hb
  clear S hst hh he hp hq
  go_enter Tryz.func114, Tryz.ntmps114
  go_wp2_with fail
  refine (sEatS ((HS0.out.setT 0 _ { t with kind := 7 } rfl).setT 1 _ { t with kind := 7, mode := 5 } rfl) [123] ⟨#[123]⟩ rfl (by decide) (by decide)).mono ?_
  intro e w1 hr
  rw [HH.out, HE.out] at hr
  obtain ⟨rfl, hS⟩ := hr
  have HS1 := Aside0.mk hS
  clear hS
  go_wp2_with fail
  refine (sPeek HS1.out).mono ?_
  intro e w2 hr
  rw [HP.out] at hr
  obtain ⟨rfl, hS⟩ := hr
  have HS2 := Aside0.mk hS
  clear hS
  have fc2_0 := HS2.out.cell 1 _ rfl
  have fr2_0 := HS2.out.free 1
  have fr2_1 := HS2.out.freeS 1
  have ce2_0 := HS2.out.at_
  go_wp2_with fail
  refine (sNeed ((HS2.out.setT 1 _ { t with kind := 7, mode := 9 } rfl).setK _ (k + 2) (by first | rfl | simp; omega) (by omega)) 125 132).mono ?_
  intro e w3 hr
  rw [HQ.out] at hr
  obtain ⟨rfl, hS⟩ := hr
  have HS3 := Aside0.mk hS
  clear hS
  have cm := HS3.out.cell 1 (.int .i64 9) rfl
  go_wp2
  go_end0
  rw [HL.out]
  exact ⟨rfl, HS3.out⟩
theorem edge_any (S : St W0 m base g h A c p st ne t k w) (hst : t.st = st) (nt : Bool) :
    Calls Tryz.prog 114 #[.pointer (some ⟨g, 0, none⟩), .pointer (some ⟨h, 0, none⟩), .bool nt] w (RT W0 g h (fun t k w' => St W0 m base g h A c p st ne t k w') (edgeL p k t nt)) := by
  cases hh : hasL p k [123] with
  | false =>
    cases hb : nt with
    | true => exact edge_none_true S hst true rfl hh
    | false => exact edge_none_false S hst false rfl hh
  | true =>
    cases hp : peekL p (k + 1) with
    | error x => exact edge_end S hst nt hh x hp
    | ok d =>
      by_cases h1 : d = 103
      · subst h1
        cases hq : needL p st (k + 2) 125 132 with
        | error x => exact edge_gbad S hst nt hh hp x hq
        | ok k3 =>
          cases hb : nt with
          | true => exact edge_g_true S hst true rfl hh hp k3 hq
          | false => exact edge_g_false S hst false rfl hh hp k3 hq
      · by_cases h2 : d = 119
        · subst h2
          cases hq : needL p st (k + 2) 125 132 with
          | error x => exact edge_wbad S hst nt hh hp x hq
          | ok k3 =>
            cases hb : nt with
            | true => exact edge_w_true S hst true rfl hh hp k3 hq
            | false => exact edge_w_false S hst false rfl hh hp k3 hq
        · exact edge_bad S hst nt hh d hp h1 h2
end

end Go.Proofs.YtkipjalfgdfaiaaGreatDoor
namespace Go.Proofs.YtkipjalfgdfaiaaGreatDoor
set_option linter.unusedVariables false
set_option linter.unusedSimpArgs false
open Go.RowKit Go.Proofs.YtkipjalfgdfaiaaGreatDoorW.PrintWords Go.Proofs.YtkipjalfgdfaiaaGreatDoorW.PrintLast Go.Proofs.YtkipjalfgdfaiaaGreatDoorW.PrintMore Go.Proofs.YtkipjalfgdfaiaaGreatDoor.PTk

section
variable {W0 w : World} {m : Int} {base g h : Nat} {A : Option Addr} {c : Nat} {p : List Int} {st ne k : Nat} {t : Tk}
/-- What within hands back. -/
def RW (W0 : World) (S : Nat → Tk → Nat → World → Prop) (ne k : Nat) (t : Tk) : Option (Tk × Nat × Nat) → Ending → World → Prop
  | some a, e, w' => e = .returned (.bool true) ∧ S a.2.2 a.1 a.2.1 w'
  | none, e, w' => e = .returned (.bool false) ∧ S ne t k w'
set_option maxHeartbeats 8000000 in
set_option maxRecDepth 100000 in
theorem within_open_true (S : St W0 m base g h A c p st ne t k w) (hne : ne ≤ 4000) (ho : hasL p k [91] = true) (hc : hasL p (k + 1) [94] = true) :
    Calls Tryz.prog 52 #[.pointer (some ⟨g, 0, none⟩), .pointer (some ⟨h, 0, none⟩)] w (RW W0 (fun ne t k w' => St W0 m base g h A c p st ne t k w') ne k t (withinL p ne k t)) := by
  have HS0 := Aside0.mk S
  have hgh := S.hn
  have hgh2 := Ne.symm S.hn
  have HL : Aside0 (withinL p ne k t = some ({ t with kind := 11, neg := true }, k + 2, ne + 1)) := ⟨by unfold withinL; rw [if_pos ho, hc, show eatL p (k + 1) [94] = k + 2 by unfold eatL; rw [hc]; rfl]⟩
  have Ho := Aside0.mk ho
  have eo : eatL p (k) [91] = k + 1 := by unfold eatL; rw [ho]; rfl
  have Eo := Aside0.mk eo
  have Hc := Aside0.mk hc
  have ec : eatL p (k + 1) [94] = k + 2 := by unfold eatL; rw [hc]; rfl
  have Ec := Aside0.mk ec
  clear S ho eo hc ec
  go_enter Tryz.func52, Tryz.ntmps52
  go_wp2_with fail
  refine (sEatS HS0.out [91] ⟨#[91]⟩ rfl (by decide) (by decide)).mono ?_
  intro e w1 hr
  rw [Ho.out, Eo.out] at hr
  obtain ⟨rfl, hS⟩ := hr
  have HS1 := Aside0.mk hS
  clear hS
  go_wp2_with fail
  refine (sEatS HS1.out [94] ⟨#[94]⟩ rfl (by decide) (by decide)).mono ?_
  intro e w2 hr
  rw [Hc.out, Ec.out] at hr
  obtain ⟨rfl, hS⟩ := hr
  have HS2 := Aside0.mk hS
  clear hS
  have fc2_0 := HS2.out.cell 0 _ rfl
  have fr2_0 := HS2.out.free 0
  have fc2_1 := HS2.out.cell 5 _ rfl
  have fr2_1 := HS2.out.free 5
  have fr2_2 := HS2.out.freeS 3
  have ce2_0 := HS2.out.nest
  go_wp2
  go_ret
  rw [HL.out]
  exact ⟨rfl, (((HS2.out.setT 0 _ { t with kind := 11 } rfl).setT 5 _ { t with kind := 11, neg := true } rfl).setN _ (ne + 1) (by first | rfl | simp))⟩
set_option maxHeartbeats 8000000 in
set_option maxRecDepth 100000 in
theorem within_open_false (S : St W0 m base g h A c p st ne t k w) (hne : ne ≤ 4000) (ho : hasL p k [91] = true) (hc : hasL p (k + 1) [94] = false) :
    Calls Tryz.prog 52 #[.pointer (some ⟨g, 0, none⟩), .pointer (some ⟨h, 0, none⟩)] w (RW W0 (fun ne t k w' => St W0 m base g h A c p st ne t k w') ne k t (withinL p ne k t)) := by
  have HS0 := Aside0.mk S
  have hgh := S.hn
  have hgh2 := Ne.symm S.hn
  have HL : Aside0 (withinL p ne k t = some ({ t with kind := 11, neg := false }, k + 1, ne + 1)) := ⟨by unfold withinL; rw [if_pos ho, hc, show eatL p (k + 1) [94] = k + 1 by unfold eatL; rw [hc]; rfl]⟩
  have Ho := Aside0.mk ho
  have eo : eatL p (k) [91] = k + 1 := by unfold eatL; rw [ho]; rfl
  have Eo := Aside0.mk eo
  have Hc := Aside0.mk hc
  have ec : eatL p (k + 1) [94] = k + 1 := by unfold eatL; rw [hc]; rfl
  have Ec := Aside0.mk ec
  clear S ho eo hc ec
  go_enter Tryz.func52, Tryz.ntmps52
  go_wp2_with fail
  refine (sEatS HS0.out [91] ⟨#[91]⟩ rfl (by decide) (by decide)).mono ?_
  intro e w1 hr
  rw [Ho.out, Eo.out] at hr
  obtain ⟨rfl, hS⟩ := hr
  have HS1 := Aside0.mk hS
  clear hS
  go_wp2_with fail
  refine (sEatS HS1.out [94] ⟨#[94]⟩ rfl (by decide) (by decide)).mono ?_
  intro e w2 hr
  rw [Hc.out, Ec.out] at hr
  obtain ⟨rfl, hS⟩ := hr
  have HS2 := Aside0.mk hS
  clear hS
  have fc2_0 := HS2.out.cell 0 _ rfl
  have fr2_0 := HS2.out.free 0
  have fc2_1 := HS2.out.cell 5 _ rfl
  have fr2_1 := HS2.out.free 5
  have fr2_2 := HS2.out.freeS 3
  have ce2_0 := HS2.out.nest
  go_wp2
  go_ret
  rw [HL.out]
  exact ⟨rfl, (((HS2.out.setT 0 _ { t with kind := 11 } rfl).setT 5 _ { t with kind := 11, neg := false } rfl).setN _ (ne + 1) (by first | rfl | simp))⟩
set_option maxHeartbeats 8000000 in
set_option maxRecDepth 100000 in
theorem within_zero (S : St W0 m base g h A c p st ne t k w) (hne : ne ≤ 4000) (ho : hasL p k [91] = false) (h0 : ne = 0) :
    Calls Tryz.prog 52 #[.pointer (some ⟨g, 0, none⟩), .pointer (some ⟨h, 0, none⟩)] w (RW W0 (fun ne t k w' => St W0 m base g h A c p st ne t k w') ne k t (withinL p ne k t)) := by
  have HS0 := Aside0.mk S
  have hgh := S.hn
  have hgh2 := Ne.symm S.hn
  have HL : Aside0 (withinL p ne k t = none) := ⟨by unfold withinL; rw [if_neg (by rw [ho]; decide), if_pos h0]⟩
  have Ho := Aside0.mk ho
  have eo : eatL p (k) [91] = k := by unfold eatL; rw [ho]; rfl
  have Eo := Aside0.mk eo
  subst h0
  clear S ho eo
  go_enter Tryz.func52, Tryz.ntmps52
  go_wp2_with fail
  refine (sEatS HS0.out [91] ⟨#[91]⟩ rfl (by decide) (by decide)).mono ?_
  intro e w1 hr
  rw [Ho.out, Eo.out] at hr
  obtain ⟨rfl, hS⟩ := hr
  have HS1 := Aside0.mk hS
  clear hS
  have ce1_0 := HS1.out.nest
  go_wp2
  go_ret
  rw [HL.out]
  exact ⟨rfl, HS1.out⟩
set_option maxHeartbeats 8000000 in
set_option maxRecDepth 100000 in
theorem within_n0 (S : St W0 m base g h A c p st ne t k w) (hne : ne ≤ 4000) (h0 : ne ≠ 0) (ho : hasL p k [91] = false) (he : hasL p k [93] = true) :
    Calls Tryz.prog 52 #[.pointer (some ⟨g, 0, none⟩), .pointer (some ⟨h, 0, none⟩)] w (RW W0 (fun ne t k w' => St W0 m base g h A c p st ne t k w') ne k t (withinL p ne k t)) := by
  have HS0 := Aside0.mk S
  have hgh := S.hn
  have hgh2 := Ne.symm S.hn
  have HL : Aside0 (withinL p ne k t = some ({ t with kind := 12 }, k + 1, ne - 1)) := ⟨by unfold withinL; rw [if_neg (by rw [ho]; decide), if_neg h0, if_pos he]⟩
  have Ho := Aside0.mk ho
  have eo : eatL p (k) [91] = k := by unfold eatL; rw [ho]; rfl
  have Eo := Aside0.mk eo
  have He := Aside0.mk he
  have ee : eatL p (k) [93] = k + 1 := by unfold eatL; rw [he]; rfl
  have Ee := Aside0.mk ee
  have hz : ((ne : Int) == 0) = false := by rw [beq_eq_false_iff_ne]; omega
  have HZ := Aside0.mk h0
  have hnp : 1 ≤ ne := by omega
  clear S ho eo he ee h0
  go_enter Tryz.func52, Tryz.ntmps52
  go_wp2_with fail
  refine (sEatS HS0.out [91] ⟨#[91]⟩ rfl (by decide) (by decide)).mono ?_
  intro e w1 hr
  rw [Ho.out, Eo.out] at hr
  obtain ⟨rfl, hS⟩ := hr
  have HS1 := Aside0.mk hS
  clear hS
  have ce1_0 := HS1.out.nest
  go_wp2_with fail
  refine (sEatS HS1.out [93] ⟨#[93]⟩ rfl (by decide) (by decide)).mono ?_
  intro e w2 hr
  rw [He.out, Ee.out] at hr
  obtain ⟨rfl, hS⟩ := hr
  have HS2 := Aside0.mk hS
  clear hS
  have fc2_0 := HS2.out.cell 0 _ rfl
  have fr2_0 := HS2.out.free 0
  have fr2_1 := HS2.out.freeS 3
  have ce2_0 := HS2.out.nest
  go_wp2
  go_ret
  rw [HL.out]
  exact ⟨rfl, ((HS2.out.setT 0 _ { t with kind := 12 } rfl).setN _ (ne - 1) (by first | rfl | (simp; omega)))⟩
set_option maxHeartbeats 8000000 in
set_option maxRecDepth 100000 in
theorem within_n1 (S : St W0 m base g h A c p st ne t k w) (hne : ne ≤ 4000) (h0 : ne ≠ 0) (ho : hasL p k [91] = false) (he : hasL p k [93] = false) (hm : hasL p k [38, 38] = true) :
    Calls Tryz.prog 52 #[.pointer (some ⟨g, 0, none⟩), .pointer (some ⟨h, 0, none⟩)] w (RW W0 (fun ne t k w' => St W0 m base g h A c p st ne t k w') ne k t (withinL p ne k t)) := by
  have HS0 := Aside0.mk S
  have hgh := S.hn
  have hgh2 := Ne.symm S.hn
  have HL : Aside0 (withinL p ne k t = some ({ t with kind := 14, mode := 1 }, k + 2, ne)) := ⟨by unfold withinL; rw [if_neg (by rw [ho]; decide), if_neg h0, if_neg (by rw [he]; decide), if_pos hm]⟩
  have Ho := Aside0.mk ho
  have eo : eatL p (k) [91] = k := by unfold eatL; rw [ho]; rfl
  have Eo := Aside0.mk eo
  have He := Aside0.mk he
  have ee : eatL p (k) [93] = k := by unfold eatL; rw [he]; rfl
  have Ee := Aside0.mk ee
  have Hm := Aside0.mk hm
  have em : eatL p (k) [38, 38] = k + 2 := by unfold eatL; rw [hm]; rfl
  have Em := Aside0.mk em
  have hz : ((ne : Int) == 0) = false := by rw [beq_eq_false_iff_ne]; omega
  have HZ := Aside0.mk h0
  have hnp : 1 ≤ ne := by omega
  clear S ho eo he ee hm em h0
  go_enter Tryz.func52, Tryz.ntmps52
  go_wp2_with fail
  refine (sEatS HS0.out [91] ⟨#[91]⟩ rfl (by decide) (by decide)).mono ?_
  intro e w1 hr
  rw [Ho.out, Eo.out] at hr
  obtain ⟨rfl, hS⟩ := hr
  have HS1 := Aside0.mk hS
  clear hS
  have ce1_0 := HS1.out.nest
  go_wp2_with fail
  refine (sEatS HS1.out [93] ⟨#[93]⟩ rfl (by decide) (by decide)).mono ?_
  intro e w2 hr
  rw [He.out, Ee.out] at hr
  obtain ⟨rfl, hS⟩ := hr
  have HS2 := Aside0.mk hS
  clear hS
  go_wp2_with fail
  refine (sEatS HS2.out [38, 38] ⟨#[38, 38]⟩ rfl (by decide) (by decide)).mono ?_
  intro e w3 hr
  rw [Hm.out, Em.out] at hr
  obtain ⟨rfl, hS⟩ := hr
  have HS3 := Aside0.mk hS
  clear hS
  have fc3_0 := HS3.out.cell 0 _ rfl
  have fr3_0 := HS3.out.free 0
  have fc3_1 := HS3.out.cell 1 _ rfl
  have fr3_1 := HS3.out.free 1
  go_wp2
  go_ret
  rw [HL.out]
  exact ⟨rfl, ((HS3.out.setT 0 _ { t with kind := 14 } rfl).setT 1 _ { t with kind := 14, mode := 1 } rfl)⟩
set_option maxHeartbeats 8000000 in
set_option maxRecDepth 100000 in
theorem within_n2 (S : St W0 m base g h A c p st ne t k w) (hne : ne ≤ 4000) (h0 : ne ≠ 0) (ho : hasL p k [91] = false) (he : hasL p k [93] = false) (hm : hasL p k [38, 38] = false) (hn : hasL p k [45, 45] = true) :
    Calls Tryz.prog 52 #[.pointer (some ⟨g, 0, none⟩), .pointer (some ⟨h, 0, none⟩)] w (RW W0 (fun ne t k w' => St W0 m base g h A c p st ne t k w') ne k t (withinL p ne k t)) := by
  have HS0 := Aside0.mk S
  have hgh := S.hn
  have hgh2 := Ne.symm S.hn
  have HL : Aside0 (withinL p ne k t = some ({ t with kind := 14, mode := 2 }, k + 2, ne)) := ⟨by unfold withinL; rw [if_neg (by rw [ho]; decide), if_neg h0, if_neg (by rw [he]; decide), if_neg (by rw [hm]; decide), if_pos hn]⟩
  have Ho := Aside0.mk ho
  have eo : eatL p (k) [91] = k := by unfold eatL; rw [ho]; rfl
  have Eo := Aside0.mk eo
  have He := Aside0.mk he
  have ee : eatL p (k) [93] = k := by unfold eatL; rw [he]; rfl
  have Ee := Aside0.mk ee
  have Hm := Aside0.mk hm
  have em : eatL p (k) [38, 38] = k := by unfold eatL; rw [hm]; rfl
  have Em := Aside0.mk em
  have Hn := Aside0.mk hn
  have en : eatL p (k) [45, 45] = k + 2 := by unfold eatL; rw [hn]; rfl
  have En := Aside0.mk en
  have hz : ((ne : Int) == 0) = false := by rw [beq_eq_false_iff_ne]; omega
  have HZ := Aside0.mk h0
  have hnp : 1 ≤ ne := by omega
  clear S ho eo he ee hm em hn en h0
  go_enter Tryz.func52, Tryz.ntmps52
  go_wp2_with fail
  refine (sEatS HS0.out [91] ⟨#[91]⟩ rfl (by decide) (by decide)).mono ?_
  intro e w1 hr
  rw [Ho.out, Eo.out] at hr
  obtain ⟨rfl, hS⟩ := hr
  have HS1 := Aside0.mk hS
  clear hS
  have ce1_0 := HS1.out.nest
  go_wp2_with fail
  refine (sEatS HS1.out [93] ⟨#[93]⟩ rfl (by decide) (by decide)).mono ?_
  intro e w2 hr
  rw [He.out, Ee.out] at hr
  obtain ⟨rfl, hS⟩ := hr
  have HS2 := Aside0.mk hS
  clear hS
  go_wp2_with fail
  refine (sEatS HS2.out [38, 38] ⟨#[38, 38]⟩ rfl (by decide) (by decide)).mono ?_
  intro e w3 hr
  rw [Hm.out, Em.out] at hr
  obtain ⟨rfl, hS⟩ := hr
  have HS3 := Aside0.mk hS
  clear hS
  go_wp2_with fail
  refine (sEatS HS3.out [45, 45] ⟨#[45, 45]⟩ rfl (by decide) (by decide)).mono ?_
  intro e w4 hr
  rw [Hn.out, En.out] at hr
  obtain ⟨rfl, hS⟩ := hr
  have HS4 := Aside0.mk hS
  clear hS
  have fc4_0 := HS4.out.cell 0 _ rfl
  have fr4_0 := HS4.out.free 0
  have fc4_1 := HS4.out.cell 1 _ rfl
  have fr4_1 := HS4.out.free 1
  go_wp2
  go_ret
  rw [HL.out]
  exact ⟨rfl, ((HS4.out.setT 0 _ { t with kind := 14 } rfl).setT 1 _ { t with kind := 14, mode := 2 } rfl)⟩
set_option maxHeartbeats 8000000 in
set_option maxRecDepth 100000 in
theorem within_n3 (S : St W0 m base g h A c p st ne t k w) (hne : ne ≤ 4000) (h0 : ne ≠ 0) (ho : hasL p k [91] = false) (he : hasL p k [93] = false) (hm : hasL p k [38, 38] = false) (hn : hasL p k [45, 45] = false) (hx : hasL p k [126, 126] = true) :
    Calls Tryz.prog 52 #[.pointer (some ⟨g, 0, none⟩), .pointer (some ⟨h, 0, none⟩)] w (RW W0 (fun ne t k w' => St W0 m base g h A c p st ne t k w') ne k t (withinL p ne k t)) := by
  have HS0 := Aside0.mk S
  have hgh := S.hn
  have hgh2 := Ne.symm S.hn
  have HL : Aside0 (withinL p ne k t = some ({ t with kind := 14, mode := 3 }, k + 2, ne)) := ⟨by unfold withinL; rw [if_neg (by rw [ho]; decide), if_neg h0, if_neg (by rw [he]; decide), if_neg (by rw [hm]; decide), if_neg (by rw [hn]; decide), if_pos hx]⟩
  have Ho := Aside0.mk ho
  have eo : eatL p (k) [91] = k := by unfold eatL; rw [ho]; rfl
  have Eo := Aside0.mk eo
  have He := Aside0.mk he
  have ee : eatL p (k) [93] = k := by unfold eatL; rw [he]; rfl
  have Ee := Aside0.mk ee
  have Hm := Aside0.mk hm
  have em : eatL p (k) [38, 38] = k := by unfold eatL; rw [hm]; rfl
  have Em := Aside0.mk em
  have Hn := Aside0.mk hn
  have en : eatL p (k) [45, 45] = k := by unfold eatL; rw [hn]; rfl
  have En := Aside0.mk en
  have Hx := Aside0.mk hx
  have ex : eatL p (k) [126, 126] = k + 2 := by unfold eatL; rw [hx]; rfl
  have Ex := Aside0.mk ex
  have hz : ((ne : Int) == 0) = false := by rw [beq_eq_false_iff_ne]; omega
  have HZ := Aside0.mk h0
  have hnp : 1 ≤ ne := by omega
  clear S ho eo he ee hm em hn en hx ex h0
  go_enter Tryz.func52, Tryz.ntmps52
  go_wp2_with fail
  refine (sEatS HS0.out [91] ⟨#[91]⟩ rfl (by decide) (by decide)).mono ?_
  intro e w1 hr
  rw [Ho.out, Eo.out] at hr
  obtain ⟨rfl, hS⟩ := hr
  have HS1 := Aside0.mk hS
  clear hS
  have ce1_0 := HS1.out.nest
  go_wp2_with fail
  refine (sEatS HS1.out [93] ⟨#[93]⟩ rfl (by decide) (by decide)).mono ?_
  intro e w2 hr
  rw [He.out, Ee.out] at hr
  obtain ⟨rfl, hS⟩ := hr
  have HS2 := Aside0.mk hS
  clear hS
  go_wp2_with fail
  refine (sEatS HS2.out [38, 38] ⟨#[38, 38]⟩ rfl (by decide) (by decide)).mono ?_
  intro e w3 hr
  rw [Hm.out, Em.out] at hr
  obtain ⟨rfl, hS⟩ := hr
  have HS3 := Aside0.mk hS
  clear hS
  go_wp2_with fail
  refine (sEatS HS3.out [45, 45] ⟨#[45, 45]⟩ rfl (by decide) (by decide)).mono ?_
  intro e w4 hr
  rw [Hn.out, En.out] at hr
  obtain ⟨rfl, hS⟩ := hr
  have HS4 := Aside0.mk hS
  clear hS
  go_wp2_with fail
  refine (sEatS HS4.out [126, 126] ⟨#[126, 126]⟩ rfl (by decide) (by decide)).mono ?_
  intro e w5 hr
  rw [Hx.out, Ex.out] at hr
  obtain ⟨rfl, hS⟩ := hr
  have HS5 := Aside0.mk hS
  clear hS
  have fc5_0 := HS5.out.cell 0 _ rfl
  have fr5_0 := HS5.out.free 0
  have fc5_1 := HS5.out.cell 1 _ rfl
  have fr5_1 := HS5.out.free 1
  go_wp2
  go_ret
  rw [HL.out]
  exact ⟨rfl, ((HS5.out.setT 0 _ { t with kind := 14 } rfl).setT 1 _ { t with kind := 14, mode := 3 } rfl)⟩
set_option maxHeartbeats 8000000 in
set_option maxRecDepth 100000 in
theorem within_n4 (S : St W0 m base g h A c p st ne t k w) (hne : ne ≤ 4000) (h0 : ne ≠ 0) (ho : hasL p k [91] = false) (he : hasL p k [93] = false) (hm : hasL p k [38, 38] = false) (hn : hasL p k [45, 45] = false) (hx : hasL p k [126, 126] = false) (hd : hasL p k [45] = true) :
    Calls Tryz.prog 52 #[.pointer (some ⟨g, 0, none⟩), .pointer (some ⟨h, 0, none⟩)] w (RW W0 (fun ne t k w' => St W0 m base g h A c p st ne t k w') ne k t (withinL p ne k t)) := by
  have HS0 := Aside0.mk S
  have hgh := S.hn
  have hgh2 := Ne.symm S.hn
  have HL : Aside0 (withinL p ne k t = some ({ t with kind := 13 }, k + 1, ne)) := ⟨by unfold withinL; rw [if_neg (by rw [ho]; decide), if_neg h0, if_neg (by rw [he]; decide), if_neg (by rw [hm]; decide), if_neg (by rw [hn]; decide), if_neg (by rw [hx]; decide), if_pos hd]⟩
  have Ho := Aside0.mk ho
  have eo : eatL p (k) [91] = k := by unfold eatL; rw [ho]; rfl
  have Eo := Aside0.mk eo
  have He := Aside0.mk he
  have ee : eatL p (k) [93] = k := by unfold eatL; rw [he]; rfl
  have Ee := Aside0.mk ee
  have Hm := Aside0.mk hm
  have em : eatL p (k) [38, 38] = k := by unfold eatL; rw [hm]; rfl
  have Em := Aside0.mk em
  have Hn := Aside0.mk hn
  have en : eatL p (k) [45, 45] = k := by unfold eatL; rw [hn]; rfl
  have En := Aside0.mk en
  have Hx := Aside0.mk hx
  have ex : eatL p (k) [126, 126] = k := by unfold eatL; rw [hx]; rfl
  have Ex := Aside0.mk ex
  have Hd := Aside0.mk hd
  have ed : eatL p (k) [45] = k + 1 := by unfold eatL; rw [hd]; rfl
  have Ed := Aside0.mk ed
  have hz : ((ne : Int) == 0) = false := by rw [beq_eq_false_iff_ne]; omega
  have HZ := Aside0.mk h0
  have hnp : 1 ≤ ne := by omega
  clear S ho eo he ee hm em hn en hx ex hd ed h0
  go_enter Tryz.func52, Tryz.ntmps52
  go_wp2_with fail
  refine (sEatS HS0.out [91] ⟨#[91]⟩ rfl (by decide) (by decide)).mono ?_
  intro e w1 hr
  rw [Ho.out, Eo.out] at hr
  obtain ⟨rfl, hS⟩ := hr
  have HS1 := Aside0.mk hS
  clear hS
  have ce1_0 := HS1.out.nest
  go_wp2_with fail
  refine (sEatS HS1.out [93] ⟨#[93]⟩ rfl (by decide) (by decide)).mono ?_
  intro e w2 hr
  rw [He.out, Ee.out] at hr
  obtain ⟨rfl, hS⟩ := hr
  have HS2 := Aside0.mk hS
  clear hS
  go_wp2_with fail
  refine (sEatS HS2.out [38, 38] ⟨#[38, 38]⟩ rfl (by decide) (by decide)).mono ?_
  intro e w3 hr
  rw [Hm.out, Em.out] at hr
  obtain ⟨rfl, hS⟩ := hr
  have HS3 := Aside0.mk hS
  clear hS
  go_wp2_with fail
  refine (sEatS HS3.out [45, 45] ⟨#[45, 45]⟩ rfl (by decide) (by decide)).mono ?_
  intro e w4 hr
  rw [Hn.out, En.out] at hr
  obtain ⟨rfl, hS⟩ := hr
  have HS4 := Aside0.mk hS
  clear hS
  go_wp2_with fail
  refine (sEatS HS4.out [126, 126] ⟨#[126, 126]⟩ rfl (by decide) (by decide)).mono ?_
  intro e w5 hr
  rw [Hx.out, Ex.out] at hr
  obtain ⟨rfl, hS⟩ := hr
  have HS5 := Aside0.mk hS
  clear hS
  go_wp2_with fail
  refine (sEatS HS5.out [45] ⟨#[45]⟩ rfl (by decide) (by decide)).mono ?_
  intro e w6 hr
  rw [Hd.out, Ed.out] at hr
  obtain ⟨rfl, hS⟩ := hr
  have HS6 := Aside0.mk hS
  clear hS
  have fc6_0 := HS6.out.cell 0 _ rfl
  have fr6_0 := HS6.out.free 0
  go_wp2
  go_ret
  rw [HL.out]
  exact ⟨rfl, (HS6.out.setT 0 _ { t with kind := 13 } rfl)⟩
set_option maxHeartbeats 8000000 in
set_option maxRecDepth 100000 in
theorem within_n5 (S : St W0 m base g h A c p st ne t k w) (hne : ne ≤ 4000) (h0 : ne ≠ 0) (ho : hasL p k [91] = false) (he : hasL p k [93] = false) (hm : hasL p k [38, 38] = false) (hn : hasL p k [45, 45] = false) (hx : hasL p k [126, 126] = false) (hd : hasL p k [45] = false) :
    Calls Tryz.prog 52 #[.pointer (some ⟨g, 0, none⟩), .pointer (some ⟨h, 0, none⟩)] w (RW W0 (fun ne t k w' => St W0 m base g h A c p st ne t k w') ne k t (withinL p ne k t)) := by
  have HS0 := Aside0.mk S
  have hgh := S.hn
  have hgh2 := Ne.symm S.hn
  have HL : Aside0 (withinL p ne k t = none) := ⟨by unfold withinL; rw [if_neg (by rw [ho]; decide), if_neg h0, if_neg (by rw [he]; decide), if_neg (by rw [hm]; decide), if_neg (by rw [hn]; decide), if_neg (by rw [hx]; decide), if_neg (by rw [hd]; decide)]⟩
  have Ho := Aside0.mk ho
  have eo : eatL p (k) [91] = k := by unfold eatL; rw [ho]; rfl
  have Eo := Aside0.mk eo
  have He := Aside0.mk he
  have ee : eatL p (k) [93] = k := by unfold eatL; rw [he]; rfl
  have Ee := Aside0.mk ee
  have Hm := Aside0.mk hm
  have em : eatL p (k) [38, 38] = k := by unfold eatL; rw [hm]; rfl
  have Em := Aside0.mk em
  have Hn := Aside0.mk hn
  have en : eatL p (k) [45, 45] = k := by unfold eatL; rw [hn]; rfl
  have En := Aside0.mk en
  have Hx := Aside0.mk hx
  have ex : eatL p (k) [126, 126] = k := by unfold eatL; rw [hx]; rfl
  have Ex := Aside0.mk ex
  have Hd := Aside0.mk hd
  have ed : eatL p (k) [45] = k := by unfold eatL; rw [hd]; rfl
  have Ed := Aside0.mk ed
  have hz : ((ne : Int) == 0) = false := by rw [beq_eq_false_iff_ne]; omega
  have HZ := Aside0.mk h0
  have hnp : 1 ≤ ne := by omega
  clear S ho eo he ee hm em hn en hx ex hd ed h0
  go_enter Tryz.func52, Tryz.ntmps52
  go_wp2_with fail
  refine (sEatS HS0.out [91] ⟨#[91]⟩ rfl (by decide) (by decide)).mono ?_
  intro e w1 hr
  rw [Ho.out, Eo.out] at hr
  obtain ⟨rfl, hS⟩ := hr
  have HS1 := Aside0.mk hS
  clear hS
  have ce1_0 := HS1.out.nest
  go_wp2_with fail
  refine (sEatS HS1.out [93] ⟨#[93]⟩ rfl (by decide) (by decide)).mono ?_
  intro e w2 hr
  rw [He.out, Ee.out] at hr
  obtain ⟨rfl, hS⟩ := hr
  have HS2 := Aside0.mk hS
  clear hS
  go_wp2_with fail
  refine (sEatS HS2.out [38, 38] ⟨#[38, 38]⟩ rfl (by decide) (by decide)).mono ?_
  intro e w3 hr
  rw [Hm.out, Em.out] at hr
  obtain ⟨rfl, hS⟩ := hr
  have HS3 := Aside0.mk hS
  clear hS
  go_wp2_with fail
  refine (sEatS HS3.out [45, 45] ⟨#[45, 45]⟩ rfl (by decide) (by decide)).mono ?_
  intro e w4 hr
  rw [Hn.out, En.out] at hr
  obtain ⟨rfl, hS⟩ := hr
  have HS4 := Aside0.mk hS
  clear hS
  go_wp2_with fail
  refine (sEatS HS4.out [126, 126] ⟨#[126, 126]⟩ rfl (by decide) (by decide)).mono ?_
  intro e w5 hr
  rw [Hx.out, Ex.out] at hr
  obtain ⟨rfl, hS⟩ := hr
  have HS5 := Aside0.mk hS
  clear hS
  go_wp2_with fail
  refine (sEatS HS5.out [45] ⟨#[45]⟩ rfl (by decide) (by decide)).mono ?_
  intro e w6 hr
  rw [Hd.out, Ed.out] at hr
  obtain ⟨rfl, hS⟩ := hr
  have HS6 := Aside0.mk hS
  clear hS
  go_wp2
  go_ret
  rw [HL.out]
  exact ⟨rfl, HS6.out⟩
theorem within_any (S : St W0 m base g h A c p st ne t k w) (hne : ne ≤ 4000) :
    Calls Tryz.prog 52 #[.pointer (some ⟨g, 0, none⟩), .pointer (some ⟨h, 0, none⟩)] w (RW W0 (fun ne t k w' => St W0 m base g h A c p st ne t k w') ne k t (withinL p ne k t)) := by
  cases ho : hasL p k [91] with
  | true =>
    cases hc : hasL p (k + 1) [94] with
    | true => exact within_open_true S hne ho hc
    | false => exact within_open_false S hne ho hc
  | false =>
    by_cases h0 : ne = 0
    · exact within_zero S hne ho h0
    · cases he : hasL p k [93] with
      | true => exact within_n0 S hne h0 ho he
      | false => cases hm : hasL p k [38, 38] with
        | true => exact within_n1 S hne h0 ho he hm
        | false => cases hn : hasL p k [45, 45] with
          | true => exact within_n2 S hne h0 ho he hm hn
          | false => cases hx : hasL p k [126, 126] with
            | true => exact within_n3 S hne h0 ho he hm hn hx
            | false => cases hd : hasL p k [45] with
              | true => exact within_n4 S hne h0 ho he hm hn hx hd
              | false => exact within_n5 S hne h0 ho he hm hn hx hd
end

end Go.Proofs.YtkipjalfgdfaiaaGreatDoor
namespace Go.Proofs.YtkipjalfgdfaiaaGreatDoor.PLinesRead
open Go.RowKit Go.Proofs.YtkipjalfgdfaiaaGreatDoorW.PrintWords Go.Proofs.YtkipjalfgdfaiaaGreatDoorW.PrintLast Go.Proofs.YtkipjalfgdfaiaaGreatDoorW.PrintMore
set_option linter.unusedVariables false
set_option linter.unusedSimpArgs false



theorem info114 : (Tryz.prog.info? 114).map (fun i => (i.zero, i.size, i.bytes)) = some (some (.slice none 0 0), 1, 24) := by kernel_rfl

def rd_L2 (xs : List (List ByteArray)) (i : Int) : (List ByteArray) := xs.getD i.toNat ([] : List ByteArray)
theorem at_L2 {w : World} {A : Option Addr} {n : Nat} {xs : List (List ByteArray)} (h : Kd.C (Kd.slice 9 Kd.string) w A n xs) (i : Int) (h0 : 0 ≤ i) (h1 : i < n) : ∃ ad A0 c0, A = some ad ∧ w.cell? (ad.add i.toNat) = some (.slice A0 (rd_L2 xs i).length c0) ∧ (rd_L2 xs i).length ≤ c0 ∧ Kd.string.C w A0 (rd_L2 xs i).length (rd_L2 xs i) := by
  obtain ⟨ad, c, e, _, hK, hc0⟩ := Kd.C_get h ([] : List ByteArray) i h0 h1
  have hc : ∀ j u, c[j]? = some u → w.cell? (ad.add (i.toNat * 1 + j)) = some u := hc0
  obtain ⟨A0, c0, rfl, l0, g0⟩ := hK
  exact ⟨ad, A0, c0, e, by have hq := hc 0 _ rfl; rwa [Nat.mul_one, Nat.add_zero] at hq, l0, g0⟩

section
end

section
end

section
end

section
end

section
end

section
end

end Go.Proofs.YtkipjalfgdfaiaaGreatDoor.PLinesRead
namespace Go.Proofs.YtkipjalfgdfaiaaGreatDoor
set_option linter.unusedVariables false
set_option linter.unusedSimpArgs false

def bsL (l : List UInt8) : ByteArray := ⟨l.toArray⟩
theorem bsL_data (s : ByteArray) : bsL s.data.toList = s := by
  cases s
  simp [bsL]
theorem data_bsL (l : List UInt8) : (bsL l).data.toList = l := by simp [bsL]
theorem size_bsL (l : List UInt8) : (bsL l).size = l.length := by simp [bsL, ByteArray.size]

/-- A text's parts between a byte. -/
def cutL (c : UInt8) : List UInt8 → List (List UInt8)
  | [] => [[]]
  | b :: l => if b = c then [] :: cutL c l else match cutL c l with
    | [] => [[b]]
    | h :: t => (b :: h) :: t
theorem cutL_none {c : UInt8} : ∀ {p : List UInt8}, (∀ b ∈ p, b ≠ c) → cutL c p = [p]
  | [], _ => rfl
  | b :: p, h => by
    have h1 := cutL_none (c := c) (p := p) (fun x hx => h x (List.mem_cons_of_mem _ hx))
    unfold cutL
    rw [if_neg (h b List.mem_cons_self), h1]
theorem cutL_hit {c : UInt8} (l : List UInt8) : ∀ {p : List UInt8}, (∀ b ∈ p, b ≠ c) → cutL c (p ++ c :: l) = p :: cutL c l
  | [], _ => by
    show cutL c (c :: l) = _
    rw [cutL, if_pos rfl]
  | b :: p, h => by
    have h1 := cutL_hit (c := c) l (p := p) (fun x hx => h x (List.mem_cons_of_mem _ hx))
    show cutL c (b :: (p ++ c :: l)) = _
    rw [cutL, if_neg (h b List.mem_cons_self), h1]
theorem cutL_ne (c : UInt8) : ∀ l : List UInt8, cutL c l ≠ []
  | [] => by simp [cutL]
  | b :: l => by
    unfold cutL
    split
    · simp
    · split <;> simp
theorem cutL_length (c : UInt8) : ∀ l : List UInt8, (cutL c l).length ≤ l.length + 1
  | [] => by simp [cutL]
  | b :: l => by
    have h := cutL_length c l
    unfold cutL
    split
    · simp only [List.length_cons]
      omega
    · split
      · simp
      · rename_i h' t e
        rw [e] at h
        simp only [List.length_cons] at h ⊢
        omega
theorem cutL_part (c : UInt8) : ∀ (l : List UInt8) (x : List UInt8), x ∈ cutL c l → x.length ≤ l.length
  | [], x, h => by
    simp [cutL] at h
    subst h
    simp
  | b :: l, x, h => by
    have ih := cutL_part c l
    unfold cutL at h
    split at h
    · rcases List.mem_cons.1 h with rfl | h
      · simp
      · have := ih x h
        simp only [List.length_cons]
        omega
    · split at h
      · simp at h
        subst h
        simp
      · rename_i h' t e
        rcases List.mem_cons.1 h with rfl | h
        · have := ih h' (by rw [e]; exact List.mem_cons_self)
          simp only [List.length_cons]
          omega
        · have := ih x (by rw [e]; exact List.mem_cons_of_mem _ h)
          simp only [List.length_cons]
          omega
def cutB (c : UInt8) (s : ByteArray) : List ByteArray := (cutL c s.data.toList).map bsL
theorem index_split {s : List UInt8} {c : UInt8} {i : Nat} (h : Lib.index s [c] = i) : s = s.take i ++ c :: s.drop (i + 1) ∧ ∀ b ∈ s.take i, b ≠ c := by
  rw [Lib.index_one] at h
  obtain ⟨h1, h2⟩ := Lib.indexByte_some h
  obtain ⟨hlt, he⟩ := List.getElem?_eq_some_iff.1 h1
  refine ⟨?_, fun b hb => ?_⟩
  · have e := List.drop_eq_getElem_cons hlt
    rw [he] at e
    rw [← e, List.take_append_drop]
  · obtain ⟨k, hk, rfl⟩ := List.getElem_of_mem hb
    rw [List.length_take] at hk
    intro hc
    refine h2 k (by omega) ?_
    rw [List.getElem_take] at hc
    rw [List.getElem?_eq_getElem (by omega), hc]
theorem index_miss {s : List UInt8} {c : UInt8} (h : Lib.index s [c] = -1) : ∀ b ∈ s, b ≠ c := by
  rw [Lib.index_one] at h
  intro b hb hc
  obtain ⟨k, hk, rfl⟩ := List.getElem_of_mem hb
  exact Lib.indexByte_none h k (by rw [List.getElem?_eq_getElem hk, hc])
theorem index_or (s : List UInt8) (c : UInt8) : Lib.index s [c] = -1 ∨ ∃ i : Nat, Lib.index s [c] = i := by
  have h := Lib.index_ge s [c]
  by_cases h1 : Lib.index s [c] = -1
  · exact .inl h1
  · exact .inr ⟨(Lib.index s [c]).toNat, by omega⟩
theorem splitK_cut (c : UInt8) : ∀ (k : Nat) (s : List UInt8), s.count c = k → Lib.splitK [c] 0 k s = cutL c s
  | 0, s, h => by
    have h0 : ∀ b ∈ s, b ≠ c := fun b hb hc => by
      subst hc
      have := List.count_pos_iff.2 hb
      omega
    rw [cutL_none h0]
    rfl
  | k + 1, s, h => by
    rcases index_or s c with hm | ⟨i, hi⟩
    · exfalso
      have h0 := index_miss hm
      have : s.count c = 0 := List.count_eq_zero.2 (fun hc => h0 c hc rfl)
      omega
    · obtain ⟨hs, hp⟩ := index_split hi
      have hk : (s.drop (i + 1)).count c = k := by
        have h1 := h
        rw [hs, List.count_append, List.count_cons_self] at h1
        have h2 : (s.take i).count c = 0 := List.count_eq_zero.2 (fun hc => hp c hc rfl)
        omega
      have ih := splitK_cut c k (s.drop (i + 1)) hk
      have e2 : cutL c s = s.take i :: cutL c (s.drop (i + 1)) := by
        have e3 := congrArg (cutL c) hs
        rw [cutL_hit _ hp] at e3
        exact e3
      rw [Lib.splitK, if_neg (by rw [hi]; simp), hi, e2, ← ih]
      simp
theorem splitB_cut (c : UInt8) (s : ByteArray) : Lib.splitB ⟨#[c]⟩ 0 (Lib.countB s ⟨#[c]⟩) s = cutB c s := by
  have h := Lib.splitB_data ⟨#[c]⟩ 0 (Lib.countB s ⟨#[c]⟩) s
  have hc : Lib.countB s ⟨#[c]⟩ = s.data.toList.count c := Lib.count_one c s.data.toList
  have h2 : Lib.splitK [c] 0 (Lib.countB s ⟨#[c]⟩) s.data.toList = cutL c s.data.toList := splitK_cut c _ _ hc.symm
  have h3 := congrArg (List.map bsL) (h.trans h2)
  rw [List.map_map] at h3
  have h4 : (bsL ∘ fun b : ByteArray => b.data.toList) = id := by
    funext b
    exact bsL_data b
  rw [h4, List.map_id] at h3
  exact h3
theorem countB_cut (c : UInt8) (s : ByteArray) : Lib.countB s ⟨#[c]⟩ + 1 = (cutB c s).length := by
  rw [← splitB_cut, Lib.splitB_all ⟨#[c]⟩ (Nat.le_refl 1) 0 _ s rfl]

/-- What stands ahead of a byte. -/
def upL (c : UInt8) (l : List UInt8) : List UInt8 := (cutL c l).headD []
theorem cut_up (c : UInt8) (l : List UInt8) : (Lib.cut l [c]).1 = upL c l := by
  unfold Lib.cut upL
  rcases index_or l c with hm | ⟨i, hi⟩
  · rw [hm, if_neg (by omega), cutL_none (index_miss hm)]
    rfl
  · obtain ⟨hs, hp⟩ := index_split hi
    have e2 : cutL c l = l.take i :: cutL c (l.drop (i + 1)) := by
      have e3 := congrArg (cutL c) hs
      rw [cutL_hit _ hp] at e3
      exact e3
    rw [hi, if_pos (by omega), e2]
    simp
theorem upL_length (c : UInt8) (l : List UInt8) : (upL c l).length ≤ l.length := by
  unfold upL
  cases h : cutL c l with
  | nil => simp
  | cons x r => exact cutL_part c l x (by rw [h]; exact List.mem_cons_self)
def trimL (l : List UInt8) : List UInt8 := Lib.trimS l [32, 9]
theorem dropWhile_length {α : Type} (p : α → Bool) : ∀ l : List α, (l.dropWhile p).length ≤ l.length
  | [] => by simp
  | b :: l => by
    rw [List.dropWhile_cons]
    split
    · have := dropWhile_length p l
      simp only [List.length_cons]
      omega
    · exact Nat.le_refl _
theorem trimL_length (l : List UInt8) : (trimL l).length ≤ l.length := by
  unfold trimL Lib.trimS Lib.trimLeftS Lib.trimRightS
  refine Nat.le_trans (dropWhile_length _ _) ?_
  rw [List.length_reverse]
  refine Nat.le_trans (dropWhile_length _ _) ?_
  rw [List.length_reverse]
  exact Nat.le_refl _
def upB (c : UInt8) (s : ByteArray) : ByteArray := bsL (upL c s.data.toList)
def trimB (s : ByteArray) : ByteArray := bsL (trimL s.data.toList)
theorem upB_size (c : UInt8) (s : ByteArray) : (upB c s).size ≤ s.size := by
  unfold upB
  rw [size_bsL, Lib.size_eq s]
  exact upL_length _ _
theorem trimB_size (s : ByteArray) : (trimB s).size ≤ s.size := by
  unfold trimB
  rw [size_bsL, Lib.size_eq s]
  exact trimL_length _
theorem cutB_ne (c : UInt8) (s : ByteArray) : cutB c s ≠ [] := fun h => cutL_ne c s.data.toList (List.map_eq_nil_iff.1 h)
theorem cutB_length (c : UInt8) (s : ByteArray) : (cutB c s).length ≤ s.size + 1 := by
  unfold cutB
  rw [List.length_map, Lib.size_eq s]
  exact cutL_length _ _
theorem cutB_part {c : UInt8} {s x : ByteArray} (h : x ∈ cutB c s) : x.size ≤ s.size := by
  obtain ⟨l, hl, rfl⟩ := List.mem_map.1 h
  rw [size_bsL, Lib.size_eq s]
  exact cutL_part c _ _ hl

/-- A line's fields; none: it says nothing. -/
def fieldsB (line : ByteArray) : List ByteArray := if (trimB (upB 35 line)).size = 0 then [] else (cutB 59 (trimB (upB 35 line))).map trimB
theorem fieldsB_length (s : ByteArray) : (fieldsB s).length ≤ s.size + 1 := by
  unfold fieldsB
  split
  · simp
  · rw [List.length_map]
    refine Nat.le_trans (cutB_length _ _) ?_
    have := Nat.le_trans (trimB_size (upB 35 s)) (upB_size 35 s)
    omega

end Go.Proofs.YtkipjalfgdfaiaaGreatDoor
namespace Go.Proofs.YtkipjalfgdfaiaaGreatDoor
set_option linter.unusedVariables false
set_option linter.unusedSimpArgs false
open Go.RowKit Go.Proofs.YtkipjalfgdfaiaaGreatDoorW.PrintWords Go.Proofs.YtkipjalfgdfaiaaGreatDoorW.PrintLast Go.Proofs.YtkipjalfgdfaiaaGreatDoorW.PrintMore Go.Proofs.YtkipjalfgdfaiaaGreatDoor.PLinesRead

theorem ext_bsL (l : List UInt8) (a b : Nat) : (bsL l).extract a b = bsL ((l.drop a).take (b - a)) := by
  rw [Lib.extract_eq, data_bsL]
  rfl
theorem bt_bsL (l : List UInt8) (i : Nat) (h : i < l.length) : bt (bsL l) (i : Int) = (l[i].toNat : Int) := by
  have h1 := bt_at (bsL l) (i : Int) (by rw [Int.toNat_natCast, size_bsL]; exact h)
  rw [← h1]
  rfl
end Go.Proofs.YtkipjalfgdfaiaaGreatDoor
namespace Go.Proofs
open Go.Shelf
def Tryz.lays145_ren : Go.Shelf.Ren := ⟨fun | 145 => 192 | 220 => 202 | 219 => 99 | 217 => 137 | 225 => 138 | 224 => 139 | 267 => 140 | 266 => 164 | 314 => 165 | n => n, fun | 9 => 9 | 4 => 4 | 59 => 213 | 3 => 3 | 5 => 5 | 46 => 43 | 146 => 184 | 51 => 160 | n => n, fun | 1 => 2 | n => n⟩
theorem Tryz.lays145 : Go.Proofs.Lays.n145 Tryz.prog Tryz.lays145_ren := {
  mixed := by kernel_rfl
  f145 := Tryz.func192.trans (congrArg some (by kernel_rfl))
  f217 := Tryz.func137.trans (congrArg some (by kernel_rfl))
  f219 := Tryz.func99.trans (congrArg some (by kernel_rfl))
  f220 := Tryz.func202.trans (congrArg some (by kernel_rfl))
  f224 := Tryz.func139.trans (congrArg some (by kernel_rfl))
  f225 := Tryz.func138.trans (congrArg some (by kernel_rfl))
  f266 := Tryz.func164.trans (congrArg some (by kernel_rfl))
  f267 := Tryz.func140.trans (congrArg some (by kernel_rfl))
  f314 := Tryz.func165.trans (congrArg some (by kernel_rfl))
  t3 := Tryz.underlying3
  a3 := Tryz.isAgg3
  z3 := Tryz.sizeOf3
  v3 := Tryz.zeroValue3
  t4 := Tryz.underlying4
  a4 := Tryz.isAgg4
  z4 := Tryz.sizeOf4
  v4 := Tryz.zeroValue4
  t5 := Tryz.underlying5
  a5 := Tryz.isAgg5
  z5 := Tryz.sizeOf5
  v5 := Tryz.zeroValue5
  t9 := Tryz.underlying9
  a9 := Tryz.isAgg9
  z9 := Tryz.sizeOf9
  v9 := Tryz.zeroValue9
  t46 := Tryz.underlying43
  a46 := Tryz.isAgg43
  z46 := Tryz.sizeOf43
  v46 := Tryz.zeroValue43
  t51 := Tryz.underlying160
  a51 := Tryz.isAgg160
  z51 := Tryz.sizeOf160
  v51 := Tryz.zeroValue160
  t59 := Tryz.underlying213
  a59 := Tryz.isAgg213
  z59 := Tryz.sizeOf213
  v59 := Tryz.zeroValue213
  t146 := Tryz.underlying184
  a146 := Tryz.isAgg184
  z146 := Tryz.sizeOf184
  v146 := Tryz.zeroValue184
  g1 := by kernel_rfl }
open Go.RowKit Go.Lib in
/-- strings.Cut: "Cut slices s around the first instance of sep, returning the text before and after sep. The found result reports whether sep appears in s. If sep does not appear in s, cut returns s, "", false.": IT RETURNS 'Lib.cut s sep'; the world is as it was but for the count of draws. (LAID: no walk: one application.) -/
theorem Tryz.strings_Cut (s sep : ByteArray) (m : Int) (w : World) (hs : s.size < 4294967281) (hm : w.cell? ⟨2, 0, none⟩ = some (.int .i64 m)) :
    Calls Tryz.prog 192 #[.string s, .string sep] w fun e w' => e = .returned (.tuple #[.string ⟨(Lib.cut s.data.toList sep.data.toList).1.toArray⟩, .string ⟨(Lib.cut s.data.toList sep.data.toList).2.1.toArray⟩, .bool (Lib.cut s.data.toList sep.data.toList).2.2]) ∧ ∃ n, w' = w.drewN n := Any.strings_Cut Tryz.lays145 s sep m w hs hm
def Tryz.lays146_ren : Go.Shelf.Ren := ⟨fun | 146 => 181 | 221 => 191 | 268 => 200 | 138 => 201 | 143 => 64 | 195 => 210 | 197 => 90 | 218 => 211 | 219 => 99 | 260 => 129 | 217 => 137 | 225 => 138 | 224 => 139 | 267 => 140 | 266 => 164 | 314 => 165 | n => n, fun | 9 => 9 | 31 => 114 | 3 => 3 | 4 => 4 | 0 => 0 | 105 => 125 | 21 => 21 | 5 => 5 | 46 => 43 | 119 => 176 | 139 => 179 | 138 => 178 | 146 => 184 | 51 => 160 | n => n, fun | 1 => 2 | 3 => 3 | 4 => 4 | n => n⟩
theorem Tryz.lays146 : Go.Proofs.Lays.n146 Tryz.prog Tryz.lays146_ren := {
  mixed := by kernel_rfl
  f138 := Tryz.func201.trans (congrArg some (by kernel_rfl))
  f143 := Tryz.func64.trans (congrArg some (by kernel_rfl))
  f146 := Tryz.func181.trans (congrArg some (by kernel_rfl))
  f195 := Tryz.func210.trans (congrArg some (by kernel_rfl))
  f197 := Tryz.func90.trans (congrArg some (by kernel_rfl))
  f217 := Tryz.func137.trans (congrArg some (by kernel_rfl))
  f218 := Tryz.func211.trans (congrArg some (by kernel_rfl))
  f219 := Tryz.func99.trans (congrArg some (by kernel_rfl))
  f221 := Tryz.func191.trans (congrArg some (by kernel_rfl))
  f224 := Tryz.func139.trans (congrArg some (by kernel_rfl))
  f225 := Tryz.func138.trans (congrArg some (by kernel_rfl))
  f260 := Tryz.func129.trans (congrArg some (by kernel_rfl))
  f266 := Tryz.func164.trans (congrArg some (by kernel_rfl))
  f267 := Tryz.func140.trans (congrArg some (by kernel_rfl))
  f268 := Tryz.func200.trans (congrArg some (by kernel_rfl))
  f314 := Tryz.func165.trans (congrArg some (by kernel_rfl))
  t0 := Tryz.underlying0
  a0 := Tryz.isAgg0
  z0 := Tryz.sizeOf0
  v0 := Tryz.zeroValue0
  t3 := Tryz.underlying3
  a3 := Tryz.isAgg3
  z3 := Tryz.sizeOf3
  v3 := Tryz.zeroValue3
  t4 := Tryz.underlying4
  a4 := Tryz.isAgg4
  z4 := Tryz.sizeOf4
  v4 := Tryz.zeroValue4
  t5 := Tryz.underlying5
  a5 := Tryz.isAgg5
  z5 := Tryz.sizeOf5
  v5 := Tryz.zeroValue5
  t9 := Tryz.underlying9
  a9 := Tryz.isAgg9
  z9 := Tryz.sizeOf9
  v9 := Tryz.zeroValue9
  t21 := Tryz.underlying21
  a21 := Tryz.isAgg21
  z21 := Tryz.sizeOf21
  v21 := Tryz.zeroValue21
  t31 := Tryz.underlying114
  a31 := Tryz.isAgg114
  z31 := Tryz.sizeOf114
  v31 := Tryz.zeroValue114
  t46 := Tryz.underlying43
  a46 := Tryz.isAgg43
  z46 := Tryz.sizeOf43
  v46 := Tryz.zeroValue43
  t51 := Tryz.underlying160
  a51 := Tryz.isAgg160
  z51 := Tryz.sizeOf160
  v51 := Tryz.zeroValue160
  t105 := Tryz.underlying125
  a105 := Tryz.isAgg125
  z105 := Tryz.sizeOf125
  v105 := Tryz.zeroValue125
  t119 := Tryz.underlying176
  a119 := Tryz.isAgg176
  z119 := Tryz.sizeOf176
  t138 := Tryz.underlying178
  a138 := Tryz.isAgg178
  z138 := Tryz.sizeOf178
  v138 := Tryz.zeroValue178
  t139 := Tryz.underlying179
  a139 := Tryz.isAgg179
  z139 := Tryz.sizeOf179
  v139 := Tryz.zeroValue179
  t146 := Tryz.underlying184
  a146 := Tryz.isAgg184
  z146 := Tryz.sizeOf184
  v146 := Tryz.zeroValue184
  g1 := by kernel_rfl
  g3 := by kernel_rfl
  g4 := by kernel_rfl }
open Go.RowKit Go.Lib in
/-- strings.Split. (LAID: no walk: one application.) -/
theorem Tryz.strings_Split (s sep : ByteArray) (m : Int) (w : World) (hs : s.size < 4294967281) (hm : w.cell? ⟨2, 0, none⟩ = some (.int .i64 m)) (h1 : 1 ≤ sep.size) :
    Calls Tryz.prog 181 #[.string s, .string sep] w fun e w' =>
      e = .returned (.slice (some ⟨w.heap.size, 0, none⟩) (Lib.countB s sep + 1) (Lib.countB s sep + 1)) ∧ w' = w.alloc (.cells ((Lib.splitB sep 0 (Lib.countB s sep) s).map Value.string).toArray 9) := Any.strings_Split Tryz.lays146 (by kernel_rfl) s sep m w hs hm h1
def Tryz.lays160_ren : Go.Shelf.Ren := ⟨fun | 160 => 193 | 232 => 204 | 231 => 203 | 227 => 168 | 234 => 206 | 233 => 205 | 236 => 208 | 235 => 207 | 228 => 169 | 271 => 213 | 151 => 212 | 197 => 90 | 120 => 214 | 152 => 166 | 260 => 129 | 137 => 116 | 119 => 179 | 224 => 139 | 225 => 138 | 217 => 137 | 266 => 164 | n => n, fun | 9 => 9 | 4 => 4 | 3 => 3 | 5 => 5 | 117 => 189 | 116 => 188 | 0 => 0 | 124 => 203 | 21 => 21 | 105 => 125 | 46 => 43 | 119 => 176 | 139 => 179 | 138 => 178 | n => n, fun | 3 => 3 | 4 => 4 | n => n⟩
theorem Tryz.lays160 : Go.Proofs.Lays.n160 Tryz.prog Tryz.lays160_ren := {
  mixed := by kernel_rfl
  f119 := Tryz.func179.trans (congrArg some (by kernel_rfl))
  f120 := Tryz.func214.trans (congrArg some (by kernel_rfl))
  f137 := Tryz.func116.trans (congrArg some (by kernel_rfl))
  f151 := Tryz.func212.trans (congrArg some (by kernel_rfl))
  f152 := Tryz.func166.trans (congrArg some (by kernel_rfl))
  f160 := Tryz.func193.trans (congrArg some (by kernel_rfl))
  f197 := Tryz.func90.trans (congrArg some (by kernel_rfl))
  f217 := Tryz.func137.trans (congrArg some (by kernel_rfl))
  f224 := Tryz.func139.trans (congrArg some (by kernel_rfl))
  f225 := Tryz.func138.trans (congrArg some (by kernel_rfl))
  f227 := Tryz.func168.trans (congrArg some (by kernel_rfl))
  f228 := Tryz.func169.trans (congrArg some (by kernel_rfl))
  f231 := Tryz.func203.trans (congrArg some (by kernel_rfl))
  f232 := Tryz.func204.trans (congrArg some (by kernel_rfl))
  f233 := Tryz.func205.trans (congrArg some (by kernel_rfl))
  f234 := Tryz.func206.trans (congrArg some (by kernel_rfl))
  f235 := Tryz.func207.trans (congrArg some (by kernel_rfl))
  f236 := Tryz.func208.trans (congrArg some (by kernel_rfl))
  f260 := Tryz.func129.trans (congrArg some (by kernel_rfl))
  f266 := Tryz.func164.trans (congrArg some (by kernel_rfl))
  f271 := Tryz.func213.trans (congrArg some (by kernel_rfl))
  t0 := Tryz.underlying0
  a0 := Tryz.isAgg0
  z0 := Tryz.sizeOf0
  v0 := Tryz.zeroValue0
  t3 := Tryz.underlying3
  a3 := Tryz.isAgg3
  z3 := Tryz.sizeOf3
  v3 := Tryz.zeroValue3
  t4 := Tryz.underlying4
  a4 := Tryz.isAgg4
  z4 := Tryz.sizeOf4
  v4 := Tryz.zeroValue4
  t5 := Tryz.underlying5
  a5 := Tryz.isAgg5
  z5 := Tryz.sizeOf5
  v5 := Tryz.zeroValue5
  t9 := Tryz.underlying9
  a9 := Tryz.isAgg9
  z9 := Tryz.sizeOf9
  v9 := Tryz.zeroValue9
  t21 := Tryz.underlying21
  a21 := Tryz.isAgg21
  z21 := Tryz.sizeOf21
  v21 := Tryz.zeroValue21
  t46 := Tryz.underlying43
  a46 := Tryz.isAgg43
  z46 := Tryz.sizeOf43
  v46 := Tryz.zeroValue43
  t105 := Tryz.underlying125
  a105 := Tryz.isAgg125
  z105 := Tryz.sizeOf125
  v105 := Tryz.zeroValue125
  t116 := Tryz.underlying188
  a116 := Tryz.isAgg188
  z116 := Tryz.sizeOf188
  t117 := Tryz.underlying189
  a117 := Tryz.isAgg189
  z117 := Tryz.sizeOf189
  v117 := Tryz.zeroValue189
  t119 := Tryz.underlying176
  a119 := Tryz.isAgg176
  z119 := Tryz.sizeOf176
  t124 := Tryz.underlying203
  a124 := Tryz.isAgg203
  z124 := Tryz.sizeOf203
  v124 := Tryz.zeroValue203
  t138 := Tryz.underlying178
  a138 := Tryz.isAgg178
  z138 := Tryz.sizeOf178
  v138 := Tryz.zeroValue178
  t139 := Tryz.underlying179
  a139 := Tryz.isAgg179
  z139 := Tryz.sizeOf179
  v139 := Tryz.zeroValue179
  g3 := by kernel_rfl
  g4 := by kernel_rfl }
open Go.RowKit in
theorem Tryz.strings_Trim_blank (s : ByteArray) (w : World) (hs : s.size ≤ 9223372036854775807) :
    Calls Tryz.prog 193 #[.string s, .string ⟨#[32, 9]⟩] w fun e w' => e = .returned (.string ⟨(Lib.trimS s.data.toList [32, 9]).toArray⟩) ∧ Below w.heap.size w w' := Any.strings_Trim_laid Tryz.lays160 (by kernel_rfl) s ⟨#[32, 9]⟩ w hs (by decide) (ascii_of_all (by decide))
end Go.Proofs
namespace Go.Proofs.YtkipjalfgdfaiaaGreatDoor
set_option linter.unusedVariables false
set_option linter.unusedSimpArgs false
open Go.RowKit Go.Proofs.YtkipjalfgdfaiaaGreatDoorW.PrintWords Go.Proofs.YtkipjalfgdfaiaaGreatDoorW.PrintLast Go.Proofs.YtkipjalfgdfaiaaGreatDoorW.PrintMore

/-- The library's variable bytealg.MaxLen holds m. -/
def MaxIs (w : World) (m : Int) : Prop := w.cell? ⟨2, 0, none⟩ = some (.int .i64 m)
theorem MaxIs.below {w w1 : World} {m : Int} (h : MaxIs w m) (hb : Below w.heap.size w w1) : MaxIs w1 m := pw_cell_below hb h
theorem drewN_below (w : World) (n : Nat) : Below w.heap.size w (w.drewN n) := pw_below_drewN (Below.refl _ _) n

theorem at_S {w : World} {A : Option Addr} {xs : List ByteArray} (h : Kd.C Kd.string w A xs.length xs) (j : Nat) (hj : j < xs.length) : ∃ ad, A = some ad ∧ w.cell? (ad.add j) = some (.string xs[j]) := by
  obtain ⟨ad, c, e, _, hK, hc⟩ := Kd.C_get h ByteArray.empty (j : Int) (by omega) (by omega)
  have e1 : xs.getD ((j : Int).toNat) ByteArray.empty = xs[j] := by simp [hj]
  rw [e1] at hK
  have hK2 : c = [.string xs[j]] := hK
  subst hK2
  have hz : (Kd.string).sz = 1 := rfl
  refine ⟨ad, e, ?_⟩
  have := hc 0 _ rfl
  simpa [hz] using this
theorem add_zero (ad : Addr) : ad.add 0 = ad := by
  cases ad with
  | mk b o s => cases s <;> simp [Addr.add]

theorem cutS_any (c : UInt8) (s : ByteArray) (m : Int) (w : World) (hs : s.size < 4294967281) (hm : MaxIs w m) :
    Calls Tryz.prog 192 #[.string s, .string ⟨#[c]⟩] w fun e w' => (∃ y b, e = .returned (.tuple #[.string (upB c s), .string y, .bool b])) ∧ Below w.heap.size w w' := by
  refine (Tryz.strings_Cut s ⟨#[c]⟩ m w hs hm).mono ?_
  rintro e w1 ⟨rfl, n, rfl⟩
  have h1 : (⟨(Lib.cut s.data.toList (⟨#[c]⟩ : ByteArray).data.toList).1.toArray⟩ : ByteArray) = upB c s := by
    unfold upB bsL
    rw [← cut_up]
  rw [h1]
  exact ⟨⟨_, _, rfl⟩, drewN_below _ _⟩
theorem splitS_any (c : UInt8) (s : ByteArray) (m : Int) (w : World) (hs : s.size < 4294967281) (hm : MaxIs w m) :
    Calls Tryz.prog 181 #[.string s, .string ⟨#[c]⟩] w fun e w' => e = .returned (.slice (some ⟨w.heap.size, 0, none⟩) (cutB c s).length (cutB c s).length) ∧ Own Kd.string 9 w' w.heap.size (.slice (some ⟨w.heap.size, 0, none⟩) (cutB c s).length (cutB c s).length) (cutB c s) ∧ Below w.heap.size w w' := by
  refine (Tryz.strings_Split s ⟨#[c]⟩ m w hs hm (Nat.le_refl 1)).mono ?_
  rintro e w1 ⟨rfl, rfl⟩
  rw [countB_cut, splitB_cut]
  have hl := cutB_length c s
  exact ⟨rfl, Kd.R_of_own (own_lit_of w w.heap.size 9 (cutB c s) (Nat.le_refl _) (by omega)) (fun _ _ => trivial), below_alloc (Below.refl _ _) _⟩
theorem trimS_any (s : ByteArray) (w : World) (hs : s.size < 4294967281) :
    Calls Tryz.prog 193 #[.string s, .string ⟨#[32, 9]⟩] w fun e w' => e = .returned (.string (trimB s)) ∧ Below w.heap.size w w' := Tryz.strings_Trim_blank s w (by omega)

set_option maxHeartbeats 4000000 in
set_option maxRecDepth 100000 in
theorem fields_any (s : ByteArray) (m : Int) (w : World) (hs : s.size < 4294967281) (hm : MaxIs w m) :
    Calls Tryz.prog 182 #[.string s] w fun e w' => ∃ v, e = .returned v ∧ Own Kd.string 9 w' w.heap.size v (fieldsB s) ∧ (fieldsB s = [] → v = .slice none 0 0) ∧ (fieldsB s ≠ [] → ∃ g, v = .slice (some ⟨g, 0, none⟩) (fieldsB s).length (fieldsB s).length) ∧ Below w.heap.size w w' := by
  have hcut := cutS_any 35 s m w hs hm
  have hus := upB_size 35 s
  have hF : fieldsB s = if (trimB (upB 35 s)).size = 0 then [] else (cutB 59 (trimB (upB 35 s))).map trimB := rfl
  obtain ⟨u, hu⟩ : ∃ u, upB 35 s = u := ⟨_, rfl⟩
  rw [hu] at hcut hus hF
  have hts := trimB_size u
  have htrim := fun W => trimS_any u W (by omega)
  obtain ⟨t, ht⟩ : ∃ t, trimB u = t := ⟨_, rfl⟩
  rw [ht] at hF hts htrim
  obtain ⟨F, hFF⟩ : ∃ F, fieldsB s = F := ⟨_, rfl⟩
  rw [hFF] at hF ⊢
  have HF := Aside0.mk hF
  have HM := Aside0.mk hm
  have hT : t.size < 4294967281 := by omega
  clear hF hm hFF hu ht
  go_enter Tryz.func182, Tryz.ntmps182
  go_wp2_with fail
  refine hcut.mono ?_
  rintro e w1 ⟨⟨y, b, rfl⟩, hb1⟩
  have HB1 := Aside0.mk hb1
  clear hb1
  go_wp2_with fail
  refine (htrim w1).mono ?_
  rintro e w2 ⟨rfl, hb2⟩
  have HB2 : Aside0 (Below w.heap.size w w2) := ⟨below_to HB1.out hb2⟩
  clear hb2 htrim hcut
  by_cases h0 : t.size = 0
  · have he : t = ByteArray.empty := ByteArray.size_eq_zero_iff.1 h0
    subst he
    have HF0 : Aside0 (F = []) := ⟨by rw [HF.out, if_pos h0]⟩
    go_wp2
    go_ret
    rw [HF0.out]
    exact ⟨_, rfl, Kd.R_nil _ _ _ _ _, fun _ => rfl, fun h => absurd rfl h, HB2.out⟩
  · have hne : t.toList.isEmpty = false := by
      rw [Lib.toList_data]
      cases h : t.data.toList with
      | nil => have := Lib.size_eq t; rw [h, List.length_nil] at this; omega
      | cons _ _ => rfl
    have HF1 : Aside0 (F = (cutB 59 t).map trimB) := ⟨by rw [HF.out, if_neg h0]⟩
    have hspl := splitS_any 59 t m w2 hT (HM.out.below HB2.out)
    have HPS : Aside0 (∀ x ∈ cutB 59 t, x.size < 4294967281) := ⟨fun x hx => Nat.lt_of_le_of_lt (cutB_part hx) hT⟩
    have HNE : Aside0 (cutB 59 t ≠ []) := ⟨cutB_ne _ _⟩
    have hPL := cutB_length 59 t
    obtain ⟨ps, hps⟩ : ∃ ps, cutB 59 t = ps := ⟨_, rfl⟩
    rw [hps] at hspl HF1 HPS HNE hPL
    clear hps
    go_wp2_with fail
    refine hspl.mono ?_
    rintro e w3 ⟨rfl, ho3, hb3⟩
    have HB3 : Aside0 (Below w.heap.size w w3) := ⟨below_to HB2.out hb3⟩
    have HG : Aside0 (w.heap.size ≤ w2.heap.size) := ⟨HB2.out.size⟩
    have HO3 : Aside0 (Own Kd.string 9 w3 w.heap.size (.slice (some ⟨w2.heap.size, 0, none⟩) ps.length ps.length) ps) := ⟨Kd.R_lower ho3 HG.out⟩
    obtain ⟨g, hg⟩ : ∃ g, w2.heap.size = g := ⟨_, rfl⟩
    rw [hg] at HO3 HG ⊢
    clear ho3 hb3 hspl hg
    go_wp2
    go_loopg [19] ps.length (fun gk i w' => ∃ (k : Nat) (l : List ByteArray), i = .int .i64 (k : Int) ∧ Aside0 (k ≤ ps.length ∧ gk = ps.length - k) ∧ Aside0 (l = (ps.take k).map trimB ++ ps.drop k) ∧ Aside0 (Own Kd.string 9 w' w.heap.size (.slice (some ⟨g, 0, none⟩) ps.length ps.length) l) ∧ Aside0 (Below w.heap.size w w'))
    case atStart => exact ⟨0, ps, by first | rfl | simp, ⟨Nat.zero_le _, rfl⟩, ⟨by simp⟩, HO3, HB3⟩
    case round =>
      obtain ⟨k, l, rfl, HA, HL, HO, HB⟩ := hrel
      by_cases hk : k < ps.length
      · have hl : l.length = ps.length := by rw [HL.out]; simp; omega
        obtain ⟨hc, hz⟩ := Kd.R_celln ByteArray.empty HO.out (k : Int) (by omega) (by omega)
        have he : rdOf ByteArray.empty l (k : Int) = ps[k] := by
          have e1 : l[k]? = some ps[k] := by
            rw [HL.out, List.getElem?_append_right (by simp; omega)]
            simp [hk, Nat.min_eq_left (Nat.le_of_lt hk)]
          unfold rdOf
          rw [Int.toNat_natCast, List.getD_eq_getElem?_getD, e1]
          rfl
        have hset : l.set k (trimB ps[k]) = (ps.take (k + 1)).map trimB ++ ps.drop (k + 1) := by
          have hk2 : ((ps.take k).map trimB).length = k := by simp; omega
          rw [HL.out, List.set_append_right _ _ (by omega), hk2, Nat.sub_self, List.drop_eq_getElem_cons hk, List.set_cons_zero, List.take_succ_eq_append_getElem hk, List.map_append, List.append_assoc]
          rfl
        rw [he] at hc
        have htr := fun W => trimS_any ps[k] W (HPS.out _ (List.getElem_mem hk))
        have HS := Aside0.mk hset
        obtain ⟨x, hx⟩ : ∃ x, ps[k] = x := ⟨_, rfl⟩
        rw [hx] at hc htr HS
        obtain ⟨r, hr⟩ : ∃ r, trimB x = r := ⟨_, rfl⟩
        rw [hr] at htr HS
        clear hset he hx hr
        simp only [Int.toNat_natCast] at hc hz
        go_wp2_with fail
        refine (htr _).mono ?_
        rintro e w4 ⟨rfl, hb4⟩
        have HO4 : Aside0 (Own Kd.string 9 w4 w.heap.size (.slice (some ⟨g, 0, none⟩) ps.length ps.length) l) := ⟨Kd.R_below HO.out hb4⟩
        have HB4 : Aside0 (Below w.heap.size w w4) := ⟨below_to HB.out hb4⟩
        obtain ⟨hc4, hz4⟩ := Kd.R_celln ByteArray.empty HO4.out (k : Int) (by omega) (by omega)
        have HO5 := Aside0.mk (Kd.R_putn HO4.out (k : Int) r)
        simp only [Int.toNat_natCast] at hc4 hz4 HO5
        rw [HS.out] at HO5
        clear hb4
        go_wp2
        go_roundg (ps.length - k - 1)
        case measure => have := HA.out; omega
        case rel => exact ⟨k + 1, _, by go_num, ⟨by omega, by omega⟩, ⟨rfl⟩, HO5, ⟨below_set HB4.out HG.out⟩⟩
      · have hall : l = F := by
          rw [HL.out, HF1.out, List.take_of_length_le (by omega), List.drop_of_length_le (by omega), List.append_nil]
        have HLN : Aside0 (F.length = ps.length) := ⟨by rw [HF1.out, List.length_map]⟩
        have HFN : Aside0 (F ≠ []) := ⟨fun h => HNE.out (List.map_eq_nil_iff.1 (HF1.out.symm.trans h))⟩
        subst hall
        go_wp2
        go_ret
        exact ⟨_, rfl, HO.out, fun h => absurd h HFN.out, fun _ => ⟨g, by rw [HLN.out]; rfl⟩, HB.out⟩

end Go.Proofs.YtkipjalfgdfaiaaGreatDoor
namespace Go.Proofs.YtkipjalfgdfaiaaGreatDoor.PNamesBack
open Go.RowKit Go.Proofs.YtkipjalfgdfaiaaGreatDoorW.PrintWords Go.Proofs.YtkipjalfgdfaiaaGreatDoorW.PrintLast Go.Proofs.YtkipjalfgdfaiaaGreatDoorW.PrintMore
set_option linter.unusedVariables false
set_option linter.unusedSimpArgs false



theorem info5 : (Tryz.prog.info? 5).map (fun i => (i.zero, i.size, i.bytes)) = some (some (.int .u8 0), 1, 1) := by kernel_rfl
section
def stringslite_HasPrefix.f (a0 : ByteArray) (a1 : ByteArray) : Option (Bool) := if (a0.size : Int) ≥ (a1.size : Int) then (if 0 ≤ (a1.size : Int) then (if (a1.size : Int) ≤ (a0.size : Int) then (some ((a0.extract 0 ((a1.size : Int) : Int).toNat).toList == a1.toList)) else (none)) else (none)) else (some false)
set_option maxHeartbeats 8000000 in
set_option maxRecDepth 100000 in
theorem stringslite_HasPrefix.calls (a0 : ByteArray) (a1 : ByteArray) (r : Bool) (w : World) (h : stringslite_HasPrefix.f a0 a1 = some r) :
    Calls Tryz.prog 146 #[.string a0, .string a1] w fun e w' => e = .returned (.bool r) ∧ Drawn0 w w' := by
  have H : (if (a0.size : Int) ≥ (a1.size : Int) then (if 0 ≤ (a1.size : Int) then (if (a1.size : Int) ≤ (a0.size : Int) then (some ((a0.extract 0 ((a1.size : Int) : Int).toNat).toList == a1.toList)) else (none)) else (none)) else (some false)) = some r := h
  clear h
  by_cases c3 : (a0.size : Int) ≥ (a1.size : Int)
  · rw [if_pos c3] at H
    have c3b0 : decide ((a1.size : Int) ≤ (a0.size : Int)) = true := decide_eq_true c3
    have c3b1 : decide (a1.size ≤ a0.size) = true := decide_eq_true (Int.ofNat_le.mp c3)
    clear c3
    by_cases c4 : 0 ≤ (a1.size : Int)
    · rw [if_pos c4] at H
      have c4b0 := eq_true c4
      have c4b1 : decide (0 ≤ (a1.size : Int)) = true := decide_eq_true c4
      clear c4
      by_cases c5 : (a1.size : Int) ≤ (a0.size : Int)
      · rw [if_pos c5] at H
        have c5b0 := eq_true c5
        have c5b1 : decide ((a1.size : Int) ≤ (a0.size : Int)) = true := decide_eq_true c5
        clear c5
        obtain rfl := Option.some.inj H
        go_enter Tryz.func146, Tryz.ntmps146
        go_wp2
        go_ret
        exact ⟨by first | rfl | (simp; done) | (simp [*]; done), by repeat (first | exact Drawn0.refl _ | apply Drawn0.step)⟩
      · rw [if_neg c5] at H
        exact absurd H (by simp)
    · rw [if_neg c4] at H
      exact absurd H (by simp)
  · rw [if_neg c3] at H
    have c3b0 : decide ((a1.size : Int) ≤ (a0.size : Int)) = false := decide_eq_false c3
    have c3b1 : decide (a1.size ≤ a0.size) = false := decide_eq_false (fun h => c3 (Int.ofNat_le.mpr h))
    clear c3
    obtain rfl := Option.some.inj H
    go_enter Tryz.func146, Tryz.ntmps146
    go_wp2
    go_ret
    exact ⟨by first | rfl | (simp; done) | (simp [*]; done), by repeat (first | exact Drawn0.refl _ | apply Drawn0.step)⟩


end

section
def stringslite_CutPrefix.f (a0 : ByteArray) (a1 : ByteArray) : Option (ByteArray × Bool) := (stringslite_HasPrefix.f a0 a1).bind fun t111 => (if t111 = true then (if 0 ≤ (a1.size : Int) then (if (a1.size : Int) ≤ (a0.size : Int) then (some (a0.extract ((a1.size : Int) : Int).toNat a0.size, true)) else (none)) else (none)) else (some (a0, false)))
set_option maxHeartbeats 8000000 in
set_option maxRecDepth 100000 in
theorem stringslite_CutPrefix.calls (a0 : ByteArray) (a1 : ByteArray) (r1 : ByteArray) (r2 : Bool) (w : World) (h : stringslite_CutPrefix.f a0 a1 = some (r1, r2)) :
    Calls Tryz.prog 190 #[.string a0, .string a1] w fun e w' => e = .returned (.tuple #[.string r1, .bool r2]) ∧ Drawn0 w w' := by
  have H : ((stringslite_HasPrefix.f a0 a1).bind fun t111 => (if t111 = true then (if 0 ≤ (a1.size : Int) then (if (a1.size : Int) ≤ (a0.size : Int) then (some (a0.extract ((a1.size : Int) : Int).toNat a0.size, true)) else (none)) else (none)) else (some (a0, false)))) = some (r1, r2) := h
  clear h
  replace H := Option.bind_eq_some_iff.mp H
  obtain ⟨t111, A30, H⟩ := H
  replace H : (if t111 = true then (if 0 ≤ (a1.size : Int) then (if (a1.size : Int) ≤ (a0.size : Int) then (some (a0.extract ((a1.size : Int) : Int).toNat a0.size, true)) else (none)) else (none)) else (some (a0, false))) = some (r1, r2) := H
  have A3 := Aside0.mk A30
  clear A30
  by_cases c4 : t111 = true
  · subst c4
    have H1 : (if 0 ≤ (a1.size : Int) then (if (a1.size : Int) ≤ (a0.size : Int) then (some (a0.extract ((a1.size : Int) : Int).toNat a0.size, true)) else (none)) else (none)) = some (r1, r2) := by rw [if_pos rfl] at H; exact H
    clear H
    have H := H1
    clear H1
    by_cases c5 : 0 ≤ (a1.size : Int)
    · rw [if_pos c5] at H
      have c5b0 := eq_true c5
      have c5b1 : decide (0 ≤ (a1.size : Int)) = true := decide_eq_true c5
      clear c5
      by_cases c6 : (a1.size : Int) ≤ (a0.size : Int)
      · rw [if_pos c6] at H
        have c6b0 := eq_true c6
        have c6b1 : decide ((a1.size : Int) ≤ (a0.size : Int)) = true := decide_eq_true c6
        clear c6
        simp only [Option.some.injEq, Prod.mk.injEq] at H
        obtain ⟨rfl, rfl⟩ := H
        go_enter Tryz.func190, Tryz.ntmps190
        go_wp2_with (first | ((with_reducible refine gate_callee (f := 146) rfl ?_); refine goesL_ (some 8) rfl rfl Tryz.func146 (by kernel_rfl) rfl #[.string a0, .string a1] rfl (by (try simp only [List.map_toArray, List.map_cons, List.map_nil]); first | done | rfl | (simp only [List.length_drop, List.length_take]; rfl)) ?_; (with_reducible refine (stringslite_HasPrefix.calls a0 a1 true _ A3.out).mono ?_); rintro e w' ⟨rfl, ⟨nd, rfl⟩⟩; refine ⟨_, rfl, ?_⟩))
        go_ret2
        exact ⟨by first | rfl | (simp; done) | (simp [*]; done), by repeat (first | exact Drawn0.refl _ | apply Drawn0.step)⟩
      · rw [if_neg c6] at H
        exact absurd H (by simp)
    · rw [if_neg c5] at H
      exact absurd H (by simp)
  · replace c4 := Bool.eq_false_iff.mpr c4
    subst c4
    have H1 : (some (a0, false)) = some (r1, r2) := by rw [if_neg (show ¬ (false = true) by decide)] at H; exact H
    clear H
    have H := H1
    clear H1
    simp only [Option.some.injEq, Prod.mk.injEq] at H
    obtain ⟨rfl, rfl⟩ := H
    go_enter Tryz.func190, Tryz.ntmps190
    go_wp2_with (first | ((with_reducible refine gate_callee (f := 146) rfl ?_); refine goesL_ (some 8) rfl rfl Tryz.func146 (by kernel_rfl) rfl #[.string a0, .string a1] rfl (by (try simp only [List.map_toArray, List.map_cons, List.map_nil]); first | done | rfl | (simp only [List.length_drop, List.length_take]; rfl)) ?_; (with_reducible refine (stringslite_HasPrefix.calls a0 a1 false _ A3.out).mono ?_); rintro e w' ⟨rfl, ⟨nd, rfl⟩⟩; refine ⟨_, rfl, ?_⟩))
    go_ret2
    exact ⟨by first | rfl | (simp; done) | (simp [*]; done), by repeat (first | exact Drawn0.refl _ | apply Drawn0.step)⟩


end

section
def strings_CutPrefix.f (a0 : ByteArray) (a1 : ByteArray) : Option (ByteArray × Bool) := (stringslite_CutPrefix.f a0 a1).bind fun bt112 => (some (bt112.1, bt112.2))
set_option maxHeartbeats 8000000 in
set_option maxRecDepth 100000 in
theorem strings_CutPrefix.calls (a0 : ByteArray) (a1 : ByteArray) (r1 : ByteArray) (r2 : Bool) (w : World) (h : strings_CutPrefix.f a0 a1 = some (r1, r2)) :
    Calls Tryz.prog 180 #[.string a0, .string a1] w fun e w' => e = .returned (.tuple #[.string r1, .bool r2]) ∧ Drawn0 w w' := by
  have H : ((stringslite_CutPrefix.f a0 a1).bind fun bt112 => (some (bt112.1, bt112.2))) = some (r1, r2) := h
  clear h
  replace H := Option.bind_eq_some_iff.mp H
  obtain ⟨⟨t112, t113⟩, A30, H⟩ := H
  replace H : (some (t112, t113)) = some (r1, r2) := H
  have A3 := Aside0.mk A30
  clear A30
  simp only [Option.some.injEq, Prod.mk.injEq] at H
  obtain ⟨rfl, rfl⟩ := H
  go_enter Tryz.func180, Tryz.ntmps180
  go_wp2_with (first | ((with_reducible refine gate_callee (f := 190) rfl ?_); refine goesL_ (some 8) rfl rfl Tryz.func190 (by kernel_rfl) rfl #[.string a0, .string a1] rfl (by (try simp only [List.map_toArray, List.map_cons, List.map_nil]); first | done | rfl | (simp only [List.length_drop, List.length_take]; rfl)) ?_; (with_reducible refine (stringslite_CutPrefix.calls a0 a1 t112 t113 _ A3.out).mono ?_); rintro e w' ⟨rfl, ⟨nd, rfl⟩⟩; refine ⟨_, rfl, ?_⟩))
  go_ret2
  exact ⟨by first | rfl | (simp; done) | (simp [*]; done), by repeat (first | exact Drawn0.refl _ | apply Drawn0.step)⟩



end

section
def names_number.f (a0 : ByteArray) : Option (Int) := if a0.toList = ([103, 99] : List UInt8) then (some 1) else (if a0.toList = ([115, 99] : List UInt8) then (some 2) else (some 3))
set_option maxHeartbeats 8000000 in
set_option maxRecDepth 100000 in
theorem names_number.calls (a0 : ByteArray) (r : Int) (w : World) (h : names_number.f a0 = some r) :
    Calls Tryz.prog 144 #[.string a0] w fun e w' => e = .returned (.int .i64 r) ∧ Drawn0 w w' := by
  have H : (if a0.toList = ([103, 99] : List UInt8) then (some 1) else (if a0.toList = ([115, 99] : List UInt8) then (some 2) else (some 3))) = some r := h
  clear h
  by_cases c2 : a0.toList = ([103, 99] : List UInt8)
  · rw [if_pos c2] at H
    have c2b0 : (a0.toList == ([103, 99] : List UInt8)) = true := beq_iff_eq.mpr c2
    have c2b1 : (a0.toList != ([103, 99] : List UInt8)) = false := bne_eq_false_iff_eq.mpr c2
    clear c2
    obtain rfl := Option.some.inj H
    go_enter Tryz.func144, Tryz.ntmps144
    go_wp2
    go_ret
    exact ⟨by first | rfl | (simp; done) | (simp [*]; done), by repeat (first | exact Drawn0.refl _ | apply Drawn0.step)⟩
  · rw [if_neg c2] at H
    have c2b0 : (a0.toList == ([103, 99] : List UInt8)) = false := beq_eq_false_iff_ne.mpr c2
    have c2b1 : (a0.toList != ([103, 99] : List UInt8)) = true := bne_iff_ne.mpr c2
    by_cases c3 : a0.toList = ([115, 99] : List UInt8)
    · rw [if_pos c3] at H
      have c3b0 : (a0.toList == ([115, 99] : List UInt8)) = true := beq_iff_eq.mpr c3
      have c3b1 : (a0.toList != ([115, 99] : List UInt8)) = false := bne_eq_false_iff_eq.mpr c3
      clear c3
      obtain rfl := Option.some.inj H
      go_enter Tryz.func144, Tryz.ntmps144
      go_wp2
      go_ret
      exact ⟨by first | rfl | (simp; done) | (simp [*]; done), by repeat (first | exact Drawn0.refl _ | apply Drawn0.step)⟩
    · rw [if_neg c3] at H
      have c3b0 : (a0.toList == ([115, 99] : List UInt8)) = false := beq_eq_false_iff_ne.mpr c3
      have c3b1 : (a0.toList != ([115, 99] : List UInt8)) = true := bne_iff_ne.mpr c3
      obtain rfl := Option.some.inj H
      go_enter Tryz.func144, Tryz.ntmps144
      go_wp2
      go_ret
      exact ⟨by first | rfl | (simp; done) | (simp [*]; done), by repeat (first | exact Drawn0.refl _ | apply Drawn0.step)⟩





end

section
end

section
end

end Go.Proofs.YtkipjalfgdfaiaaGreatDoor.PNamesBack
namespace Go.Proofs.YtkipjalfgdfaiaaGreatDoor
set_option linter.unusedVariables false
set_option linter.unusedSimpArgs false
open Go.RowKit Go.Proofs.YtkipjalfgdfaiaaGreatDoorW.PrintWords Go.Proofs.YtkipjalfgdfaiaaGreatDoorW.PrintLast Go.Proofs.YtkipjalfgdfaiaaGreatDoorW.PrintMore

def skipB (b : UInt8) : Bool := b == 32 || b == 45 || b == 95
def lowB (b : UInt8) : UInt8 := if 65 ≤ b.toNat ∧ b.toNat ≤ 90 then b + 32 else b
def lowL : List UInt8 → List UInt8
  | [] => []
  | b :: l => if skipB b = true then lowL l else lowB b :: lowL l
theorem lowL_snoc : ∀ (l : List UInt8) (b : UInt8), lowL (l ++ [b]) = lowL l ++ (if skipB b = true then [] else [lowB b])
  | [], b => by
    show lowL [b] = _
    unfold lowL
    split <;> rfl
  | c :: l, b => by
    have ih := lowL_snoc l b
    show lowL (c :: (l ++ [b])) = _
    by_cases h : skipB c = true
    · rw [lowL, if_pos h, lowL, if_pos h, ih]
    · rw [lowL, if_neg h, lowL, if_neg h, ih, List.cons_append]
theorem lowL_length : ∀ l : List UInt8, (lowL l).length ≤ l.length
  | [] => Nat.le_refl _
  | b :: l => by
    have ih := lowL_length l
    unfold lowL
    split
    · simp only [List.length_cons]
      omega
    · simp only [List.length_cons]
      omega
/-- What stands behind "is". -/
def cutIs (o : List UInt8) : List UInt8 := if 2 < o.length ∧ o.take 2 = [105, 115] then o.drop 2 else o
def looseB (s : ByteArray) : ByteArray := bsL (cutIs (lowL s.data.toList))
def numsOf (l : List UInt8) : List Int := l.map fun b => (b.toNat : Int)
theorem strOf_nums (l : List UInt8) : strOfNums (numsOf l) = bsL l := by
  unfold strOfNums numsOf bsL
  rw [List.map_map]
  have h : ((fun n : Int => UInt8.ofNat n.toNat) ∘ fun b : UInt8 => (b.toNat : Int)) = id := by
    funext b
    simp
  first
    | (rw [h, List.map_id])
    | (congr 1; simp only [Function.comp_def] at h ⊢; simp [h])
theorem numsOf_app (l m : List UInt8) : numsOf (l ++ m) = numsOf l ++ numsOf m := List.map_append
theorem numsOf_length (l : List UInt8) : (numsOf l).length = l.length := List.length_map _
theorem low_or (b : UInt8) (h0 : 65 ≤ b.toNat) (h1 : b.toNat ≤ 90) : bits .or .u8 (b.toNat : Int) 32 = ((b + 32).toNat : Int) := by
  have key : ∀ n : Fin 256, 65 ≤ n.val → n.val ≤ 90 → bits .or .u8 (n.val : Int) 32 = ((UInt8.ofNat n.val + 32).toNat : Int) := by decide +kernel
  have h := key ⟨b.toNat, UInt8.toNat_lt b⟩ h0 h1
  rw [show UInt8.ofNat b.toNat = b by simp] at h
  exact h
theorem skipB_is (b : UInt8) : skipB b = true ↔ b.toNat = 32 ∨ b.toNat = 45 ∨ b.toNat = 95 := by
  unfold skipB
  simp only [Bool.or_eq_true, beq_iff_eq]
  constructor
  · rintro ((rfl | rfl) | rfl)
    · exact .inl rfl
    · exact .inr (.inl rfl)
    · exact .inr (.inr rfl)
  · rintro (h | h | h)
    · exact .inl (.inl (UInt8.toNat_inj.1 h))
    · exact .inl (.inr (UInt8.toNat_inj.1 h))
    · exact .inr (UInt8.toNat_inj.1 h)
theorem take_two {o : List UInt8} (h : 2 ≤ o.length) : (bsL o).extract 0 2 = bsL (o.take 2) := by
  rw [ext_bsL]
  rfl
theorem drop_two (o : List UInt8) : (bsL o).extract 2 (bsL o).size = bsL (o.drop 2) := by
  rw [ext_bsL, size_bsL]
  congr 1
  exact List.take_of_length_le (by rw [List.length_drop]; exact Nat.le_refl _)
theorem toList_bsL (l : List UInt8) : (bsL l).toList = l := by rw [Lib.toList_data, data_bsL]
/-- What strings.CutPrefix answers at "is". -/
theorem prefix_is (o : List UInt8) : Go.Proofs.YtkipjalfgdfaiaaGreatDoor.PNamesBack.strings_CutPrefix.f (bsL o) ⟨#[105, 115]⟩ = some (if 2 ≤ o.length ∧ o.take 2 = [105, 115] then (bsL (o.drop 2), true) else (bsL o, false)) := by
  have h2 : (⟨#[105, 115]⟩ : ByteArray).size = 2 := rfl
  have hl : (⟨#[105, 115]⟩ : ByteArray).toList = [105, 115] := by rw [Lib.toList_data]
  have hp : Go.Proofs.YtkipjalfgdfaiaaGreatDoor.PNamesBack.stringslite_HasPrefix.f (bsL o) ⟨#[105, 115]⟩ = some (decide (2 ≤ o.length ∧ o.take 2 = [105, 115])) := by
    unfold Go.Proofs.YtkipjalfgdfaiaaGreatDoor.PNamesBack.stringslite_HasPrefix.f
    rw [h2, hl, size_bsL]
    by_cases h : 2 ≤ o.length
    · rw [if_pos (by omega), if_pos (by omega), if_pos (by omega)]
      have e : ((2 : Nat) : Int).toNat = 2 := rfl
      rw [e, take_two h, toList_bsL]
      congr 1
      by_cases hq : o.take 2 = [105, 115]
      · rw [hq]
        simp [h]
      · rw [decide_eq_false (fun hh => hq hh.2)]
        exact beq_eq_false_iff_ne.2 hq
    · rw [if_neg (by omega), decide_eq_false (fun hh => h hh.1)]
  unfold Go.Proofs.YtkipjalfgdfaiaaGreatDoor.PNamesBack.strings_CutPrefix.f Go.Proofs.YtkipjalfgdfaiaaGreatDoor.PNamesBack.stringslite_CutPrefix.f
  rw [hp, Option.bind_some]
  by_cases h : 2 ≤ o.length ∧ o.take 2 = [105, 115]
  · rw [if_pos h, if_pos (decide_eq_true h), h2, size_bsL, if_pos (by omega), if_pos (by omega)]
    have e : ((2 : Nat) : Int).toNat = 2 := rfl
    rw [e, Option.bind_some]
    have := drop_two o
    rw [size_bsL] at this
    rw [this]
  · rw [if_neg h, if_neg (by rw [decide_eq_false h]; decide), Option.bind_some]

set_option maxHeartbeats 4000000 in
set_option maxRecDepth 100000 in
theorem loose_any (s : ByteArray) (w : World) (hs : s.size < 140737488355328) :
    Calls Tryz.prog 170 #[.string s] w fun e w' => e = .returned (.string (looseB s)) ∧ Below w.heap.size w w' := by
  have hconv := fun W => print_bytes (P := Tryz.prog) 9 34 5 Tryz.underlying9 Tryz.underlying34 Tryz.underlying5 s W
  obtain ⟨cap, hcap⟩ : ∃ cap, grownCap w s.size 0 5 = cap := ⟨_, rfl⟩
  have hc := hconv w
  rw [hcap] at hc
  have hrd := bytes_reads w 5 s (by omega)
  have hbl := bytes_below (Below.refl w.heap.size w) (Nat.le_refl _) 5 s
  obtain ⟨W0, hW0⟩ : ∃ W0, Lib.bytesWorld w 5 s = W0 := ⟨_, rfl⟩
  rw [hW0] at hc hrd hbl
  have HR := Aside0.mk hrd
  have HB0 := Aside0.mk hbl
  have hsz : s.data.toList.length = s.size := data_length s
  have HA0 : Aside0 (looseB s = bsL (cutIs (lowL s.data.toList))) := ⟨rfl⟩
  have HBT : Aside0 (∀ k b, s.data.toList[k]? = some b → bt s ((k : Nat) : Int) = (b.toNat : Int)) := ⟨fun k b hb => by
    obtain ⟨hk, rfl⟩ := List.getElem?_eq_some_iff.1 hb
    have := bt_bsL s.data.toList k hk
    rwa [bsL_data] at this⟩
  obtain ⟨L, hL⟩ : ∃ L, s.data.toList = L := ⟨_, rfl⟩
  obtain ⟨ans, hans⟩ : ∃ ans, looseB s = ans := ⟨_, rfl⟩
  rw [hL] at hsz HA0 HBT
  rw [hans] at HA0 ⊢
  clear hconv hcap hrd hbl hW0 hans hL
  go_enter Tryz.func170, Tryz.ntmps170
  go_wp2
  go_loopg [3, 12] s.size (fun gk z i w' => ∃ (k : Nat), i = .int .i64 (k : Int) ∧ Aside0 (k ≤ s.size ∧ gk = s.size - k) ∧ Aside0 (Own (Kd.int .u8) 5 w' W0.heap.size z (numsOf (lowL (L.take k)))) ∧ Aside0 (Below W0.heap.size W0 w'))
  case atStart => exact ⟨0, by first | rfl | simp, ⟨Nat.zero_le _, rfl⟩, ⟨Kd.R_nil _ _ _ _ _⟩, ⟨Below.refl _ _⟩⟩
  case round =>
    obtain ⟨k, rfl, HA, HO, HB1⟩ := hrel
    by_cases hk : k < s.size
    · have hkL : k < L.length := by omega
      obtain ⟨b, hb⟩ : ∃ b, L[k] = b := ⟨_, rfl⟩
      have hbo : L[k]? = some b := by rw [List.getElem?_eq_getElem hkL, hb]
      have hT : lowL (L.take (k + 1)) = lowL (L.take k) ++ (if skipB b = true then [] else [lowB b]) := by rw [List.take_succ_eq_append_getElem hkL, hb, lowL_snoc]
      obtain ⟨ad, hae, hx⟩ := HR.out.at_ (k : Int) (by omega) (by omega)
      cases hae
      rw [rd_bytesOf, HBT.out k b hbo, Int.toNat_natCast, add_plain] at hx
      replace hx := pw_cell_below HB1.out hx
      have hb255 := UInt8.toNat_lt b
      have hlen := lowL_length (L.take k)
      rw [List.length_take, Nat.min_eq_left (by omega)] at hlen
      have HLO := Aside0.mk (low_or b)
      have HSK := Aside0.mk (skipB_is b)
      have HLB : Aside0 (lowB b = if 65 ≤ b.toNat ∧ b.toNat ≤ 90 then b + 32 else b) := ⟨rfl⟩
      have HTT := Aside0.mk hT
      clear hT hbo hb
      obtain ⟨O, hO⟩ : ∃ O, lowL (L.take k) = O := ⟨_, rfl⟩
      rw [hO] at HO HTT hlen
      clear hO
      obtain ⟨c, hcb⟩ : ∃ c : Int, (b.toNat : Int) = c := ⟨_, rfl⟩
      rw [hcb] at hx HLO
      have hc0 : 0 ≤ c ∧ c ≤ 255 := by omega
      by_cases hsk : c = 32 ∨ c = 45 ∨ c = 95
      · have HE : Aside0 (lowL (L.take (k + 1)) = O) := ⟨by rw [HTT.out, if_pos (HSK.out.2 (by omega)), List.append_nil]⟩
        have hv : c = 32 ∨ (c = 45 ∨ c = 95) := hsk
        clear HLO HSK HLB HTT hcb
        rcases hv with rfl | rfl | rfl
        · go_wp2
          go_roundg (s.size - k - 1)
          case measure => have := HA.out; omega
          case rel => exact ⟨k + 1, by go_num, ⟨by omega, by omega⟩, ⟨by rw [HE.out]; exact HO.out⟩, HB1⟩
        · go_wp2
          go_roundg (s.size - k - 1)
          case measure => have := HA.out; omega
          case rel => exact ⟨k + 1, by go_num, ⟨by omega, by omega⟩, ⟨by rw [HE.out]; exact HO.out⟩, HB1⟩
        · go_wp2
          go_roundg (s.size - k - 1)
          case measure => have := HA.out; omega
          case rel => exact ⟨k + 1, by go_num, ⟨by omega, by omega⟩, ⟨by rw [HE.out]; exact HO.out⟩, HB1⟩
      · have n32 : ¬ c = 32 := fun h => hsk (.inl h)
        have n45 : ¬ c = 45 := fun h => hsk (.inr (.inl h))
        have n95 : ¬ c = 95 := fun h => hsk (.inr (.inr h))
        have e32 : (c == 32) = false := beq_eq_false_iff_ne.2 n32
        have e45 : (c == 45) = false := beq_eq_false_iff_ne.2 n45
        have e95 : (c == 95) = false := beq_eq_false_iff_ne.2 n95
        have hns : ¬ skipB b = true := fun h => by have := HSK.out.1 h; omega
        by_cases hup : 65 ≤ c ∧ c ≤ 90
        · obtain ⟨h65, h90⟩ := hup
          have hor := HLO.out (by omega) (by omega)
          have HE : Aside0 (numsOf (lowL (L.take (k + 1))) = numsOf O ++ [((b + 32).toNat : Int)]) := ⟨by
            rw [HTT.out, if_neg hns, HLB.out, if_pos ⟨by omega, by omega⟩, numsOf_app]
            rfl⟩
          obtain ⟨d, hd⟩ : ∃ d : Int, ((b + 32).toNat : Int) = d := ⟨_, rfl⟩
          rw [hd] at hor HE
          have hol := numsOf_length O
          clear HLO HSK HLB HTT hcb hsk hns hd
          go_wp2_with (at_builtin; refine Kd.R_append (Kd.int .u8) (w0 := W0) W0.heap.size rfl (.tmp 36) (.tmp 38) 34 5 (.int .u8 0) 1 rfl Tryz.underlying34 Go.Proofs.YtkipjalfgdfaiaaGreatDoor.PNamesBack.info5 rfl (by decide) (by omega) u3 (numsOf O) d [.int .u8 d] (fun _ => True) (fun _ => False) rfl ?aX1 (int_mkM _ _ _ _ _) (fun _ h => h.elim) (fun _ _ => trivial) HO.out HB1.out ?aS1 ?aL1 ?_)
          try (case aX1 => rfl)
          case aS1 => exact HB1.out.size
          case aL1 => omega
          intro v1 w1 ho hb hg _
          have HO1 := Aside0.mk ho
          have HB2 := Aside0.mk hb
          clear ho hb hg
          go_wp2
          go_roundg (s.size - k - 1)
          case measure => have := HA.out; omega
          case rel => exact ⟨k + 1, by go_num, ⟨by omega, by omega⟩, ⟨by rw [HE.out]; exact HO1.out⟩, HB2⟩
        · have HE : Aside0 (numsOf (lowL (L.take (k + 1))) = numsOf O ++ [c]) := ⟨by
            rw [HTT.out, if_neg hns, HLB.out, if_neg (by omega), numsOf_app, ← hcb]
            rfl⟩
          have hol := numsOf_length O
          clear HLO HSK HLB HTT hcb hsk hns
          by_cases h65 : 65 ≤ c
          · have h90 : 90 < c := by omega
            go_wp2_with (at_builtin; refine Kd.R_append (Kd.int .u8) (w0 := W0) W0.heap.size rfl (.tmp 36) (.tmp 38) 34 5 (.int .u8 0) 1 rfl Tryz.underlying34 Go.Proofs.YtkipjalfgdfaiaaGreatDoor.PNamesBack.info5 rfl (by decide) (by omega) u3 (numsOf O) c [.int .u8 c] (fun _ => True) (fun _ => False) rfl ?aX2 (int_mkM _ _ _ _ _) (fun _ h => h.elim) (fun _ _ => trivial) HO.out HB1.out ?aS2 ?aL2 ?_)
            try (case aX2 => rfl)
            case aS2 => exact HB1.out.size
            case aL2 => omega
            intro v1 w1 ho hb hg _
            have HO1 := Aside0.mk ho
            have HB2 := Aside0.mk hb
            clear ho hb hg
            go_wp2
            go_roundg (s.size - k - 1)
            case measure => have := HA.out; omega
            case rel => exact ⟨k + 1, by go_num, ⟨by omega, by omega⟩, ⟨by rw [HE.out]; exact HO1.out⟩, HB2⟩
          · have h65' : c < 65 := by omega
            go_wp2_with (at_builtin; refine Kd.R_append (Kd.int .u8) (w0 := W0) W0.heap.size rfl (.tmp 36) (.tmp 38) 34 5 (.int .u8 0) 1 rfl Tryz.underlying34 Go.Proofs.YtkipjalfgdfaiaaGreatDoor.PNamesBack.info5 rfl (by decide) (by omega) u3 (numsOf O) c [.int .u8 c] (fun _ => True) (fun _ => False) rfl ?aX3 (int_mkM _ _ _ _ _) (fun _ h => h.elim) (fun _ _ => trivial) HO.out HB1.out ?aS3 ?aL3 ?_)
            try (case aX3 => rfl)
            case aS3 => exact HB1.out.size
            case aL3 => omega
            intro v1 w1 ho hb hg _
            have HO1 := Aside0.mk ho
            have HB2 := Aside0.mk hb
            clear ho hb hg
            go_wp2
            go_roundg (s.size - k - 1)
            case measure => have := HA.out; omega
            case rel => exact ⟨k + 1, by go_num, ⟨by omega, by omega⟩, ⟨by rw [HE.out]; exact HO1.out⟩, HB2⟩
    · have hall : L.take k = L := List.take_of_length_le (by omega)
      rw [hall] at HO
      obtain ⟨Av, cv, rfl, hcv, hrv⟩ := Kd.R_reads HO.out
      have hstr := fun W (h : Kd.C (Kd.int .u8) W Av (numsOf (lowL L)).length (numsOf (lowL L))) => Kd.C_string (P := Tryz.prog) (src := 34) (dst := 9) (e := 5) (c := cv) Tryz.underlying34 Tryz.underlying5 Tryz.underlying9 h
      have hs2 := hstr wr hrv
      rw [strOf_nums] at hs2
      have hpre := prefix_is (lowL L)
      obtain ⟨O, hO⟩ : ∃ O, lowL L = O := ⟨_, rfl⟩
      rw [hO] at hs2 hpre HA0 ⊢
      obtain ⟨n, hn⟩ : ∃ n, (numsOf O).length = n := ⟨_, rfl⟩
      rw [hn] at hs2 ⊢
      have HB : Aside0 (Below w.heap.size w wr) := ⟨below_to HB0.out HB1.out⟩
      clear hstr hrv hcv HO hall hO HR
      by_cases hp : 2 ≤ O.length ∧ O.take 2 = [105, 115]
      · rw [if_pos hp] at hpre
        have hcall := fun W => Go.Proofs.YtkipjalfgdfaiaaGreatDoor.PNamesBack.strings_CutPrefix.calls (bsL O) ⟨#[105, 115]⟩ (bsL (O.drop 2)) true W hpre
        by_cases hl : 2 < O.length
        · have HQ : Aside0 (ans = bsL (O.drop 2)) := ⟨by rw [HA0.out]; unfold cutIs; rw [if_pos ⟨hl, hp.2⟩]⟩
          have hd : (O.drop 2).length ≠ 0 := by rw [List.length_drop]; omega
          obtain ⟨D, hD⟩ : ∃ D, bsL (O.drop 2) = D := ⟨_, rfl⟩
          have hne : D.toList.isEmpty = false := by
            rw [← hD, toList_bsL]
            cases hh : O.drop 2 with
            | nil => rw [hh] at hd; exact absurd rfl hd
            | cons _ _ => rfl
          rw [hD] at HQ hcall
          obtain ⟨OB, hOB⟩ : ∃ OB, bsL O = OB := ⟨_, rfl⟩
          rw [hOB] at hs2 hcall
          clear hpre hp hd hD hOB
          go_wp2_with fail
          refine (hcall _).mono ?_
          rintro e w2 ⟨rfl, hd2⟩
          have HB2 : Aside0 (Below w.heap.size w w2) := ⟨below_to HB.out hd2.below⟩
          clear hd2 hcall
          go_wp2
          go_ret
          rw [HQ.out]
          exact ⟨rfl, HB2.out⟩
        · have HQ : Aside0 (ans = bsL O) := ⟨by rw [HA0.out]; unfold cutIs; rw [if_neg (fun h => hl h.1)]⟩
          have hd : O.drop 2 = [] := List.drop_of_length_le (by omega)
          rw [hd] at hcall
          obtain ⟨OB, hOB⟩ : ∃ OB, bsL O = OB := ⟨_, rfl⟩
          rw [hOB] at hs2 hcall HQ
          have hemp : bsL [] = ByteArray.empty := rfl
          rw [hemp] at hcall
          clear hpre hp hd hOB hemp
          go_wp2_with fail
          refine (hcall _).mono ?_
          rintro e w2 ⟨rfl, hd2⟩
          have HB2 : Aside0 (Below w.heap.size w w2) := ⟨below_to HB.out hd2.below⟩
          clear hd2 hcall
          go_wp2
          go_ret
          rw [HQ.out]
          exact ⟨rfl, HB2.out⟩
      · rw [if_neg hp] at hpre
        have hcall := fun W => Go.Proofs.YtkipjalfgdfaiaaGreatDoor.PNamesBack.strings_CutPrefix.calls (bsL O) ⟨#[105, 115]⟩ (bsL O) false W hpre
        have HQ : Aside0 (ans = bsL O) := ⟨by rw [HA0.out]; unfold cutIs; rw [if_neg (fun h => hp ⟨by omega, h.2⟩)]⟩
        obtain ⟨OB, hOB⟩ : ∃ OB, bsL O = OB := ⟨_, rfl⟩
        rw [hOB] at hs2 hcall HQ
        clear hpre hp hOB
        go_wp2_with fail
        refine (hcall _).mono ?_
        rintro e w2 ⟨rfl, hd2⟩
        have HB2 : Aside0 (Below w.heap.size w w2) := ⟨below_to HB.out hd2.below⟩
        clear hd2 hcall
        go_wp2
        go_ret
        rw [HQ.out]
        exact ⟨rfl, HB2.out⟩

end Go.Proofs.YtkipjalfgdfaiaaGreatDoor
namespace Go.Proofs.YtkipjalfgdfaiaaGreatDoor
set_option linter.unusedVariables false
set_option linter.unusedSimpArgs false
open Go.RowKit Go.Proofs.YtkipjalfgdfaiaaGreatDoorW.PrintWords Go.Proofs.YtkipjalfgdfaiaaGreatDoorW.PrintLast Go.Proofs.YtkipjalfgdfaiaaGreatDoorW.PrintMore Go.Proofs.YtkipjalfgdfaiaaGreatDoor.PTk

theorem lower_any (c : Int) (h0 : 0 ≤ c) (h1 : c ≤ 255) (h : hexB c = true) (hd : digB c = false) (w : World) : Calls Tryz.prog 194 #[.int .u8 c] w fun e w' => e = .returned (.int .u8 (hexV c + 87)) ∧ w' = w := by
  have hb : bits .or .u8 c 32 = hexV c + 87 := by
    have key : ∀ n : Nat, n < 256 → hexB (n : Int) = true → digB (n : Int) = false → bits .or .u8 (n : Int) 32 = hexV (n : Int) + 87 := by decide +kernel
    have := key c.toNat (by omega) (by rw [Int.toNat_of_nonneg h0]; exact h) (by rw [Int.toNat_of_nonneg h0]; exact hd)
    rw [Int.toNat_of_nonneg h0] at this
    exact this
  clear h hd
  go_enter Tryz.func194, Tryz.ntmps194
  go_wp2
  go_ret
  exact ⟨by rw [← hb]; rfl, rfl⟩
theorem hexV_rng {c : Int} (h : hexB c = true) : 0 ≤ hexV c ∧ hexV c ≤ 15 ∧ 48 ≤ c ∧ c ≤ 102 ∧ (digB c = true → hexV c = c - 48) ∧ (digB c = false → 10 ≤ hexV c ∧ 65 ≤ c) := by
  unfold hexB digB at h
  simp only [Bool.or_eq_true, Bool.and_eq_true, decide_eq_true_eq] at h
  unfold hexV digB
  simp only [Bool.and_eq_true, decide_eq_true_eq, Bool.and_eq_false_iff, decide_eq_false_iff_not]
  split
  · omega
  · split <;> omega
theorem hexN_snoc (l : List Int) (c : Int) : hexN (l ++ [c]) = 16 * hexN l + hexV c := by
  unfold hexN
  rw [List.foldl_append]
  rfl
theorem hexN_rng : ∀ (k : Nat) (l : List Int), l.length = k → (∀ c ∈ l, hexB c = true) → 0 ≤ hexN l ∧ hexN l < 16 ^ k
  | 0, l, hl, _ => by
    have : l = [] := List.eq_nil_iff_length_eq_zero.2 hl
    subst this
    exact ⟨Int.le_refl _, by decide⟩
  | k + 1, l, hl, h => by
    obtain ⟨l', c, rfl⟩ : ∃ l' c, l = l' ++ [c] := by
      have hne : l ≠ [] := by intro e; rw [e] at hl; simp at hl
      exact ⟨l.dropLast, l.getLast hne, (List.dropLast_concat_getLast hne).symm⟩
    have ih := hexN_rng k l' (by simpa using hl) (fun x hx => h x (List.mem_append_left _ hx))
    have hc := hexV_rng (h c (List.mem_append_right _ List.mem_cons_self))
    rw [hexN_snoc, Int.pow_succ]
    omega
set_option maxHeartbeats 8000000 in
set_option maxRecDepth 100000 in
theorem parseUint16 (l : List Int) (w : World) (h0 : l ≠ []) (h6 : l.length ≤ 6) (hh : ∀ c ∈ l, hexB c = true) :
    Calls Tryz.prog 183 #[.string (strOfNums l), .int .i64 16, .int .i64 64] w fun e w' => e = .returned (.tuple #[.int .u64 (hexN l), .nilIface]) ∧ Below w.heap.size w w' := by
  have hne : (strOfNums l).toList.isEmpty = false := by
    cases he : (strOfNums l).toList with
    | nil => exact (strN_nil h0 he).elim
    | cons a r => rfl
  have hsz := strN_size l
  have hlp : 0 < l.length := List.length_pos_iff.2 h0
  have hbt : ∀ (k : Nat) (hk : k < l.length), bt (strOfNums l) (k : Int) = l[k] := fun k hk => by
    have hr := hexV_rng (hh _ (List.getElem_mem hk))
    have h1 := bt_at (strOfNums l) (k : Int) (by rw [Int.toNat_natCast, hsz]; exact hk)
    rw [← h1]
    have h2 : (strOfNums l).data.toList[k]? = some (UInt8.ofNat l[k].toNat) := by rw [str_data, List.getElem?_map, List.getElem?_eq_getElem hk]; rfl
    have h3 : ((strOfNums l)[(k : Int).toNat]'(by rw [Int.toNat_natCast, hsz]; exact hk)) = UInt8.ofNat l[k].toNat := by
      have h4 : (strOfNums l).data.toList[k]? = some ((strOfNums l)[(k : Int).toNat]'(by rw [Int.toNat_natCast, hsz]; exact hk)) := by
        rw [Array.getElem?_toList]
        exact Array.getElem?_eq_some_iff.2 ⟨by have : (strOfNums l).data.size = l.length := hsz; omega, rfl⟩
      rw [h4] at h2
      exact Option.some.inj h2
    rw [h3, UInt8.toNat_ofNat']
    omega
  have HHX := Aside0.mk hh
  have HBT := Aside0.mk hbt
  obtain ⟨s, hs⟩ : ∃ s, strOfNums l = s := ⟨_, rfl⟩
  rw [hs] at hne hsz HBT ⊢
  have hconv := fun W => print_bytes (P := Tryz.prog) 9 34 5 Tryz.underlying9 Tryz.underlying34 Tryz.underlying5 s W
  obtain ⟨cap, hcap⟩ : ∃ cap, grownCap w s.size 0 5 = cap := ⟨_, rfl⟩
  have hc := hconv w
  rw [hcap] at hc
  have hrd := bytes_reads w 5 s (by omega)
  have hbl := bytes_below (Below.refl w.heap.size w) (Nat.le_refl _) 5 s
  obtain ⟨W0, hW0⟩ : ∃ W0, Lib.bytesWorld w 5 s = W0 := ⟨_, rfl⟩
  rw [hW0] at hc hrd hbl
  have HR := Aside0.mk hrd
  have HB0 := Aside0.mk hbl
  have HBW : Aside0 (∀ w', Below W0.heap.size W0 w' → Below w.heap.size w w') := ⟨fun w' h => below_to hbl h⟩
  have HP : Aside0 (∀ k : Nat, k < 6 → (16 : Int) ^ k ≤ 1048576) := ⟨by decide⟩
  clear hconv hcap hrd hbl hW0 hs hbt hh h0
  have hM : IntKind.u64.wrap (IntKind.u64.wrap 18446744073709551616 - 1) = 18446744073709551615 := by kernel_rfl
  go_enter Tryz.func183, Tryz.ntmps183
  go_wp2
  go_loopg [12, 13, 101] l.length (fun gk vu vn vi w' => ∃ (k : Nat), vu = .bool false ∧ vi = .int .i64 (k : Int) ∧ vn = .int .u64 (hexN (l.take k)) ∧ Aside0 (k ≤ l.length ∧ gk = l.length - k) ∧ Aside0 (Below W0.heap.size W0 w'))
  case atStart => exact ⟨0, rfl, by first | rfl | simp, by first | rfl | simp [hexN], ⟨Nat.zero_le _, rfl⟩, ⟨Below.refl _ _⟩⟩
  case round =>
    obtain ⟨k, rfl, rfl, rfl, HA, HB1⟩ := hrel
    by_cases hk : k < l.length
    · obtain ⟨ad, hae, hx⟩ := HR.out.at_ (k : Int) (by omega) (by omega)
      cases hae
      rw [rd_bytesOf, HBT.out k hk, Int.toNat_natCast, add_plain] at hx
      replace hx := pw_cell_below HB1.out hx
      have hcx := HHX.out _ (List.getElem_mem hk)
      have HT : Aside0 (hexN (l.take (k + 1)) = 16 * hexN (l.take k) + hexV l[k]) := ⟨by rw [List.take_succ_eq_append_getElem hk, hexN_snoc]⟩
      have hn := hexN_rng k (l.take k) (by rw [List.length_take]; omega) (fun c hc => HHX.out c (List.mem_of_mem_take hc))
      have hp := HP.out k (by omega)
      obtain ⟨n, hnn⟩ : ∃ n, hexN (l.take k) = n := ⟨_, rfl⟩
      obtain ⟨c, hcc⟩ : ∃ c, l[k] = c := ⟨_, rfl⟩
      rw [hnn] at HT hn ⊢
      rw [hcc] at HT hcx hx
      have hr := hexV_rng hcx
      have hnb : 0 ≤ n ∧ n < 1048576 := by omega
      have hg1 : decide (1152921504606846976 ≤ n) = false := decide_eq_false (by omega)
      have h95 : c ≠ 95 := by
        intro e
        subst e
        exact absurd hcx (by decide)
      have h95b : (c == 95) = false := by rw [beq_eq_false_iff_ne]; exact h95
      obtain ⟨hv0, hv15, hc48, hc102, hdg, hlt⟩ := hr
      have hcb : 0 ≤ c ∧ c ≤ 255 := by omega
      have c1 : decide (48 ≤ c) = true := decide_eq_true hc48
      have HLW : Aside0 (digB c = false → ∀ W, Calls Tryz.prog 194 #[.int .u8 c] W fun e w' => e = .returned (.int .u8 (hexV c + 87)) ∧ w' = W) := ⟨fun hd W => lower_any c hcb.1 hcb.2 hcx hd W⟩
      cases hd : digB c with
      | true =>
        have hv := hdg hd
        have c2 : decide (c ≤ 57) = true := by
          unfold digB at hd
          rw [Bool.and_eq_true] at hd
          exact hd.2
        rw [hv] at HT
        clear hcx hcc hnn hn hp hdg hlt HLW hd h95 hv hv0 hv15
        have hd1 : decide (16 ≤ c - 48) = false := decide_eq_false (by have := of_decide_eq_true c2; omega)
        have hc57 : c ≤ 57 := of_decide_eq_true c2
        have hg2 : decide (18446744073709551615 < n * 16 + (c - 48)) = false := decide_eq_false (by omega)
        go_wp2
        go_roundg (l.length - k - 1)
        case measure => have := HA.out; omega
        case rel => exact ⟨k + 1, rfl, by go_num, by rw [HT.out]; first | rfl | (congr 1; omega), ⟨by omega, by omega⟩, HB1⟩
      | false =>
        have hv := hlt hd
        have c2 : decide (c ≤ 57) = false := decide_eq_false (by
          unfold digB at hd
          rw [c1] at hd
          have := of_decide_eq_false hd
          omega)
        have HLW2 := Aside0.mk (HLW.out hd)
        have hg2 : decide (18446744073709551615 < n * 16 + (hexV c + 87 - 97 + 10)) = false := decide_eq_false (by omega)
        obtain ⟨v, hvv⟩ : ∃ v, hexV c = v := ⟨_, rfl⟩
        rw [hvv] at HT HLW2 hv hv0 hv15 hg2
        clear hcx hcc hnn hn hp hdg hlt HLW hd h95 hvv
        go_wp2_with (first | (go_at_call 194; refine (HLW2.out _).mono ?_; rintro e w' ⟨rfl, rfl⟩))
        go_roundg (l.length - k - 1)
        case measure => have := HA.out; omega
        case rel => exact ⟨k + 1, rfl, by go_num, by rw [HT.out]; first | rfl | (congr 1; omega), ⟨by omega, by omega⟩, HB1⟩
    · have hkl : k = l.length := by have := HA.out; omega
      subst hkl
      rw [List.take_length]
      obtain ⟨n, hnn⟩ : ∃ n, hexN l = n := ⟨_, rfl⟩
      rw [hnn]
      have HNN := Aside0.mk hnn
      clear hnn
      go_wp2
      go_ret2
      exact ⟨by rw [HNN.out]; rfl, HBW.out _ HB1.out⟩

end Go.Proofs.YtkipjalfgdfaiaaGreatDoor
namespace Go.Proofs.YtkipjalfgdfaiaaGreatDoor
set_option linter.unusedVariables false
set_option linter.unusedSimpArgs false
open Go.RowKit Go.Proofs.YtkipjalfgdfaiaaGreatDoorW.PrintWords Go.Proofs.YtkipjalfgdfaiaaGreatDoorW.PrintLast Go.Proofs.YtkipjalfgdfaiaaGreatDoorW.PrintMore Go.Proofs.YtkipjalfgdfaiaaGreatDoor.PTk

theorem first_byte {l : List Int} (h0 : 0 < l.length) (hr : 0 ≤ l[0] ∧ l[0] ≤ 255) (h : 0 < (strOfNums l).size) : (((strOfNums l)[0]'h).toNat : Int) = l[0] := by
  have h2 : (strOfNums l).data.toList[0]? = some (UInt8.ofNat l[0].toNat) := by rw [str_data, List.getElem?_map, List.getElem?_eq_getElem h0]; rfl
  have h4 : (strOfNums l).data.toList[0]? = some ((strOfNums l)[0]'h) := by
    rw [Array.getElem?_toList]
    exact Array.getElem?_eq_some_iff.2 ⟨h, rfl⟩
  rw [h4] at h2
  rw [Option.some.inj h2, UInt8.toNat_ofNat']
  omega
set_option maxHeartbeats 8000000 in
set_option maxRecDepth 100000 in
theorem parseInner (l : List Int) (w : World) (h0 : l ≠ []) (h6 : l.length ≤ 6) (hh : ∀ c ∈ l, hexB c = true) :
    Calls Tryz.prog 174 #[.string (strOfNums l), .int .i64 16, .int .i64 64] w fun e w' => e = .returned (.tuple #[.int .i64 (hexN l), .nilIface]) ∧ Below w.heap.size w w' := by
  have HU := Aside0.mk (fun W => parseUint16 l W h0 h6 hh)
  have hne : (strOfNums l).toList.isEmpty = false := by
    cases he : (strOfNums l).toList with
    | nil => exact (strN_nil h0 he).elim
    | cons a r => rfl
  have hlp : 0 < l.length := List.length_pos_iff.2 h0
  have hsz := strN_size l
  have hc := hexV_rng (hh _ (List.getElem_mem hlp))
  have hx0 := first_byte hlp (by omega)
  have hn := hexN_rng l.length l rfl hh
  have hp : (16 : Int) ^ l.length ≤ 16777216 := by
    have key : ∀ k : Nat, k ≤ 6 → (16 : Int) ^ k ≤ 16777216 := by
      intro k hk
      have h7 : k < 7 := by omega
      clear hk
      revert k
      decide
    exact key _ h6
  have hnb : 0 ≤ hexN l ∧ hexN l < 16777216 := by omega
  obtain ⟨c, hcc⟩ : ∃ c, l[0] = c := ⟨_, rfl⟩
  rw [hcc] at hx0 hc
  have n43 : (c == 43) = false := by
    rw [beq_eq_false_iff_ne]
    omega
  have n45 : (c == 45) = false := by
    rw [beq_eq_false_iff_ne]
    omega
  have hs0 : 0 < (strOfNums l).size := by omega
  obtain ⟨s, hs⟩ : ∃ s, strOfNums l = s := ⟨_, rfl⟩
  rw [hs] at HU hne hx0 hs0 ⊢
  obtain ⟨n, hnn⟩ : ∃ n, hexN l = n := ⟨_, rfl⟩
  rw [hnn] at HU hnb ⊢
  clear h0 h6 hh hlp hsz hc hn hp hcc hs hnn
  go_enter Tryz.func174, Tryz.ntmps174
  go_wp2_with fail
  refine (HU.out _).mono ?_
  rintro e w1 ⟨rfl, hb1⟩
  have HB1 := Aside0.mk hb1
  clear hb1
  go_wp2
  go_ret2
  exact ⟨rfl, HB1.out⟩
set_option maxHeartbeats 8000000 in
set_option maxRecDepth 100000 in
theorem parseInt16 (l : List Int) (w : World) (h0 : l ≠ []) (h6 : l.length ≤ 6) (hh : ∀ c ∈ l, hexB c = true) :
    Calls Tryz.prog 151 #[.string (strOfNums l), .int .i64 16, .int .i64 64] w fun e w' => e = .returned (.tuple #[.int .i64 (hexN l), .nilIface]) ∧ Below w.heap.size w w' := by
  have HU := Aside0.mk (fun W => parseInner l W h0 h6 hh)
  clear h0 h6 hh
  obtain ⟨s, hs⟩ : ∃ s, strOfNums l = s := ⟨_, rfl⟩
  rw [hs] at HU ⊢
  obtain ⟨n, hnn⟩ : ∃ n, hexN l = n := ⟨_, rfl⟩
  rw [hnn] at HU ⊢
  clear hs hnn
  go_enter Tryz.func151, Tryz.ntmps151
  go_wp2_with fail
  refine (HU.out _).mono ?_
  rintro e w1 ⟨rfl, hb1⟩
  have HB1 := Aside0.mk hb1
  clear hb1
  go_wp2
  go_ret2
  exact ⟨rfl, HB1.out⟩
set_option maxHeartbeats 8000000 in
set_option maxRecDepth 100000 in
theorem parseIntEmpty (w : World) (ev : Value) (hv : w.cell? ⟨7, 0, none⟩ = some ev) (hev : ev = .nilIface ∨ ∃ te pe, ev = .iface te pe) :
    Calls Tryz.prog 151 #[.string ⟨#[]⟩, .int .i64 16, .int .i64 64] w fun e w' => ∃ N, e = .returned (.tuple #[.int .i64 0, .iface 209 (.pointer (some ⟨N, 0, none⟩))]) ∧ Below w.heap.size w w' := by
  have HU := Aside0.mk (fun W => Tryz.internal_strconv_ParseInt_empty 16 64 W)
  have HE := Aside0.mk (Tryz.strconv_toError_syntax ⟨#[80, 97, 114, 115, 101, 73, 110, 116]⟩ ⟨#[]⟩ 16 64 ev w (by decide) hv hev)
  clear hv hev
  go_enter Tryz.func151, Tryz.ntmps151
  go_wp2_with fail
  refine (HU.out _).mono ?_
  rintro e w1 ⟨rfl, rfl⟩
  go_wp2_with fail
  refine HE.out.mono ?_
  rintro e w2 ⟨N, rfl, -, -, hb⟩
  have HB := Aside0.mk hb
  clear hb
  go_wp2
  go_ret2
  exact ⟨N, rfl, HB.out⟩

theorem i64_and63 (x : Int) (h0 : 0 ≤ x) (h1 : x < 2 ^ 62) : bits .and .i64 x 63 = x % 64 := bits_mask .i64 62 (by decide) (fun n h0 h1 => by rw [IntKind.wrap_i64]; omega) 6 (by decide) x h0 h1
theorem or_tail (x : Int) (h0 : 0 ≤ x) (h1 : x ≤ 1114111) : bits .or .u8 128 ((bits .and .i64 x 63) % 256) = 128 + x % 64 := by
  rw [i64_and63 x h0 (by omega)]
  have key : ∀ n : Nat, n < 64 → bits .or .u8 128 ((n : Int) % 256) = 128 + (n : Int) := by decide +kernel
  have := key (x % 64).toNat (by omega)
  rw [Int.toNat_of_nonneg (by omega)] at this
  exact this
theorem or_lead1 (y : Int) (h0 : 0 ≤ y) (h1 : y < 32) : bits .or .u8 ((bits .and .i64 (shr .i64 3968 1) 255) % 256) (y % 256) = 192 + y := by
  have key : ∀ n : Nat, n < 32 → bits .or .u8 ((bits .and .i64 (shr .i64 3968 1) 255) % 256) ((n : Int) % 256) = 192 + (n : Int) := by decide +kernel
  have := key y.toNat (by omega)
  rw [Int.toNat_of_nonneg h0] at this
  exact this
theorem or_lead2 (y : Int) (h0 : 0 ≤ y) (h1 : y < 16) : bits .or .u8 ((bits .and .i64 (shr .i64 3968 2) 255) % 256) (y % 256) = 224 + y := by
  have key : ∀ n : Nat, n < 16 → bits .or .u8 ((bits .and .i64 (shr .i64 3968 2) 255) % 256) ((n : Int) % 256) = 224 + (n : Int) := by decide +kernel
  have := key y.toNat (by omega)
  rw [Int.toNat_of_nonneg h0] at this
  exact this
theorem or_lead3 (y : Int) (h0 : 0 ≤ y) (h1 : y < 8) : bits .or .u8 ((bits .and .i64 (shr .i64 3968 3) 255) % 256) (y % 256) = 240 + y := by
  have key : ∀ n : Nat, n < 8 → bits .or .u8 ((bits .and .i64 (shr .i64 3968 3) 255) % 256) ((n : Int) % 256) = 240 + (n : Int) := by decide +kernel
  have := key y.toNat (by omega)
  rw [Int.toNat_of_nonneg h0] at this
  exact this
theorem ej0 (k : Nat) (x : Int) (b : Bool) : utf_Encode.j0 (k + 1) x b = if b = true then some ([], false) else if x < 128 then some ([x % 256], true) else utf_Encode.l0 k x 1 2048 := by rw [utf_Encode.j0]
theorem ej2 (k : Nat) (x n : Int) : utf_Encode.j2 (k + 1) x n = if 0 ≤ wrap64 (n + 1) then (if (wrap64 (n + 1)).toNat ≤ 281474976710656 then utf_Encode.l1 k x n (List.replicate (wrap64 (n + 1)).toNat 0) n else none) else none := by rw [utf_Encode.j2]
theorem el0 (k : Nat) (x n b : Int) : utf_Encode.l0 (k + 1) x n b = if x ≥ b then (if n < 3 then utf_Encode.l0 k x (wrap64 (n + 1)) (wrap64 (b * 32)) else utf_Encode.j2 k x n) else utf_Encode.j2 k x n := by rw [utf_Encode.l0]
theorem el1 (k : Nat) (x n : Int) (l : List Int) (i : Int) : utf_Encode.l1 (k + 1) x n l i = if i > 0 then (if 0 ≤ i then (if i < (l.length : Int) then utf_Encode.l1 k (x / 64) n (l.set i.toNat (Go.bits .or .u8 128 ((Go.bits .and .i64 x 63) % 256))) (wrap64 (i - 1)) else none) else none) else (if 0 ≤ n then (if 0 < (l.length : Int) then some (l.set (0 : Int).toNat (Go.bits .or .u8 ((Go.bits .and .i64 (shr .i64 3968 n) 255) % 256) (x % 256)), true) else none) else none) := by rw [utf_Encode.l1]
theorem enc_f (r : Int) : ∃ k, utf_Encode.f k r = some (if runeB r = true then encL r else [], runeB r) := by
  refine ⟨12, ?_⟩
  have w2 : wrap64 (1 + 1) = 2 := by unfold wrap64; rfl
  have w3 : wrap64 (2 + 1) = 3 := by unfold wrap64; rfl
  have w4 : wrap64 (3 + 1) = 4 := by unfold wrap64; rfl
  have v0 : wrap64 (1 - 1) = 0 := by unfold wrap64; rfl
  have v1 : wrap64 (2 - 1) = 1 := by unfold wrap64; rfl
  have v2 : wrap64 (3 - 1) = 2 := by unfold wrap64; rfl
  have b1 : wrap64 (2048 * 32) = 65536 := by unfold wrap64; rfl
  have b2 : wrap64 (65536 * 32) = 2097152 := by unfold wrap64; rfl
  by_cases h1 : r < 0
  · have hr : runeB r = false := by
      rw [Bool.eq_false_iff]
      intro h
      have := (runeB_iff r).1 h
      omega
    rw [hr]
    simp [utf_Encode.f, utf_Encode.j0, h1]
  by_cases h2 : r > 1114111
  · have hr : runeB r = false := by
      rw [Bool.eq_false_iff]
      intro h
      have := (runeB_iff r).1 h
      omega
    rw [hr]
    simp [utf_Encode.f, utf_Encode.j0, h1, h2]
  by_cases h3 : r / 2048 = 27
  · have hr : runeB r = false := by
      rw [Bool.eq_false_iff]
      intro h
      have := (runeB_iff r).1 h
      omega
    rw [hr]
    simp [utf_Encode.f, utf_Encode.j0, h1, h2, h3]
  have hr : runeB r = true := (runeB_iff r).2 (by omega)
  rw [hr]
  have h3' : (r / 2048 == 27) = false := by rw [beq_eq_false_iff_ne]; exact h3
  unfold utf_Encode.f
  rw [if_neg h1, if_neg h2, h3']
  rw [ej0, if_neg (by decide), if_pos rfl]
  by_cases a : r < 128
  · rw [if_pos a, encL_ascii a, Int.emod_eq_of_lt (by omega) (by omega)]
  rw [if_neg a]
  unfold encL
  rw [if_neg a]
  by_cases b : r < 2048
  · rw [if_pos b]
    rw [el0, if_neg (by omega)]
    rw [ej2, w2, if_pos (by decide), if_pos (by decide)]
    rw [el1, if_pos (by decide), if_pos (by decide), if_pos (by decide), v0]
    rw [el1, if_neg (by decide), if_pos (by decide), if_pos (by simp), or_tail (r) (by omega) (by omega), or_lead1 (r / 64) (by omega) (by omega)]
    rfl
  · rw [if_neg b]
    by_cases c : r < 65536
    · rw [if_pos c]
      rw [el0, if_pos (by omega), if_pos (by decide), w2, b1]
      rw [el0, if_neg (by omega)]
      rw [ej2, w3, if_pos (by decide), if_pos (by decide)]
      rw [el1, if_pos (by decide), if_pos (by decide), if_pos (by decide), v1]
      rw [el1, if_pos (by decide), if_pos (by decide), if_pos (by simp), v0]
      rw [el1, if_neg (by decide), if_pos (by decide), if_pos (by simp), or_tail (r) (by omega) (by omega), or_tail (r / 64) (by omega) (by omega), or_lead2 (r / 64 / 64) (by omega) (by omega)]
      have e : r / 64 / 64 = r / 4096 := by omega
      rw [e]
      rfl
    · rw [if_neg c]
      rw [el0, if_pos (by omega), if_pos (by decide), w2, b1]
      rw [el0, if_pos (by omega), if_pos (by decide), w3, b2]
      rw [el0, if_neg (by omega)]
      rw [ej2, w4, if_pos (by decide), if_pos (by decide)]
      rw [el1, if_pos (by decide), if_pos (by decide), if_pos (by decide), v2]
      rw [el1, if_pos (by decide), if_pos (by decide), if_pos (by simp), v1]
      rw [el1, if_pos (by decide), if_pos (by decide), if_pos (by simp), v0]
      rw [el1, if_neg (by decide), if_pos (by decide), if_pos (by simp), or_tail (r) (by omega) (by omega), or_tail (r / 64) (by omega) (by omega), or_tail (r / 64 / 64) (by omega) (by omega), or_lead3 (r / 64 / 64 / 64) (by omega) (by omega)]
      have e : r / 64 / 64 = r / 4096 := by omega
      have e2 : r / 64 / 64 / 64 = r / 262144 := by omega
      rw [e2, e]
      rfl
/-- utf.Encode: a code point's bytes, in memory of its own. -/
theorem encode_any (r : Int) (w : World) : Calls Tryz.prog 37 #[.int .i64 r] w fun e w' => ∃ v : Value, e = .returned (.tuple #[v, .bool (runeB r)]) ∧ Kd.R (Kd.int .u8) 5 w' w.heap.size (fun _ => True) v (if runeB r = true then encL r else []) ∧ Below w.heap.size w w' := by
  obtain ⟨k, hk⟩ := enc_f r
  exact utf_Encode.calls k r _ _ w hk

end Go.Proofs.YtkipjalfgdfaiaaGreatDoor
namespace Go.Proofs.YtkipjalfgdfaiaaGreatDoor
set_option linter.unusedVariables false
set_option linter.unusedSimpArgs false
open Go.RowKit Go.Proofs.YtkipjalfgdfaiaaGreatDoorW.PrintWords Go.Proofs.YtkipjalfgdfaiaaGreatDoorW.PrintLast Go.Proofs.YtkipjalfgdfaiaaGreatDoorW.PrintMore Go.Proofs.YtkipjalfgdfaiaaGreatDoor.PLinesRead

def rowsL : List ByteArray → List (List ByteArray) → List (List ByteArray)
  | [], out => out
  | x :: r, out => if fieldsB x = [] then rowsL r out else rowsL r (out ++ [fieldsB x])
theorem rowsL_skip {x : ByteArray} {r : List ByteArray} {out : List (List ByteArray)} (h : fieldsB x = []) : rowsL (x :: r) out = rowsL r out := by rw [rowsL, if_pos h]
theorem rowsL_take {x : ByteArray} {r : List ByteArray} {out : List (List ByteArray)} (h : fieldsB x ≠ []) : rowsL (x :: r) out = rowsL r (out ++ [fieldsB x]) := by rw [rowsL, if_neg h]
def rowsB (s : ByteArray) : List (List ByteArray) := rowsL (cutB 10 s) []
end Go.Proofs.YtkipjalfgdfaiaaGreatDoor
namespace Go.Proofs.YtkipjalfgdfaiaaGreatDoor
set_option linter.unusedVariables false
set_option linter.unusedSimpArgs false
open Go.RowKit Go.Proofs.YtkipjalfgdfaiaaGreatDoorW.PrintWords Go.Proofs.YtkipjalfgdfaiaaGreatDoorW.PrintLast Go.Proofs.YtkipjalfgdfaiaaGreatDoorW.PrintMore

abbrev kSl : Kd (List ByteArray) := Kd.slice 9 Kd.string

set_option maxHeartbeats 4000000 in
set_option maxRecDepth 100000 in
theorem rows_any (s : ByteArray) (m : Int) (w : World) (hs : s.size < 4294967281) (hm : MaxIs w m) :
    Calls Tryz.prog 171 #[.string s] w fun e w' => ∃ v, e = .returned v ∧ Own kSl 114 w' w.heap.size v (rowsB s) ∧ Below w.heap.size w w' := by
  have hspl := splitS_any 10 s m w hs hm
  have HPS : Aside0 (∀ x ∈ cutB 10 s, x.size < 4294967281) := ⟨fun x hx => Nat.lt_of_le_of_lt (cutB_part hx) hs⟩
  have hPL := cutB_length 10 s
  have HE : Aside0 (rowsL (cutB 10 s) [] = rowsB s) := ⟨rfl⟩
  obtain ⟨ps, hps⟩ : ∃ ps, cutB 10 s = ps := ⟨_, rfl⟩
  rw [hps] at hspl HPS hPL HE
  obtain ⟨E, hE⟩ : ∃ E, rowsB s = E := ⟨_, rfl⟩
  rw [hE] at HE ⊢
  have hpl2 : ps.length < 4294967282 := by omega
  have HM := Aside0.mk hm
  clear hps hE hm hPL
  have hq : ∀ (W : World) (A : Option Addr) (n c : Nat), (binOp .neq 114 (.slice A n c) (.slice none 0 0)).run Tryz.prog W = .ok (.bool (!A.isNone)) W := fun W A n c => run_neq_slice_nil_any W _ _ A n c 0 0 Tryz.underlying114
  go_enter Tryz.func171, Tryz.ntmps171
  go_wp2_with fail
  refine hspl.mono ?_
  rintro e w1 ⟨rfl, ho1, hb1⟩
  have HO1 := Aside0.mk ho1
  have HB1 := Aside0.mk hb1
  clear hspl ho1 hb1
  go_wp2
  go_loopg [3, 10] ps.length (fun gk z i w' => ∃ (k : Nat) (out : List (List ByteArray)), i = .int .i64 (k : Int) ∧ Aside0 (k ≤ ps.length ∧ gk = ps.length - k ∧ out.length ≤ k) ∧ Aside0 (rowsL (ps.drop k) out = E) ∧ Aside0 (Own kSl 114 w' w.heap.size z out) ∧ Aside0 (Own Kd.string 9 w' w.heap.size (.slice (some ⟨w.heap.size, 0, none⟩) ps.length ps.length) ps) ∧ Aside0 (Below w.heap.size w w'))
  case atStart => exact ⟨0, [], by first | rfl | simp, ⟨Nat.zero_le _, rfl, Nat.le_refl _⟩, HE, ⟨Kd.R_nil _ _ _ _ _⟩, HO1, HB1⟩
  case round =>
    obtain ⟨k, out, rfl, HA, HL, HO, HC, HB⟩ := hrel
    by_cases hk : k < ps.length
    · obtain ⟨ad, hae, hx0⟩ := at_S (Kd.R_reads' HC.out).2.2 k hk
      cases hae
      rw [add_plain] at hx0
      have hxs := HPS.out _ (List.getElem_mem hk)
      have hdr : ps.drop k = ps[k] :: ps.drop (k + 1) := List.drop_eq_getElem_cons hk
      obtain ⟨x, hx⟩ : ∃ x, ps[k] = x := ⟨_, rfl⟩
      rw [hx] at hx0 hxs hdr
      rw [hdr] at HL
      clear hx hdr
      have hfl := fieldsB_length x
      have hfa := fields_any x m wr hxs (HM.out.below HB.out)
      have HSK := Aside0.mk (fun h => rowsL_skip (x := x) (r := ps.drop (k + 1)) (out := out) h)
      have HGD := Aside0.mk (fun h => rowsL_take (x := x) (r := ps.drop (k + 1)) (out := out) h)
      obtain ⟨F, hF⟩ : ∃ F, fieldsB x = F := ⟨_, rfl⟩
      rw [hF] at hfl hfa HSK HGD
      clear hF
      obtain ⟨inner, hin⟩ := Kd.R_own HO.out
      have HIN := Aside0.mk hin
      clear hin
      go_wp2_with fail
      refine hfa.mono ?_
      rintro e w2 ⟨v, rfl, ho2, hn2, hs2, hb2⟩
      have HB2 : Aside0 (Below w.heap.size w w2) := ⟨below_to HB.out hb2⟩
      have HO2 : Aside0 (Own kSl 114 w2 w.heap.size u3 out) := ⟨Kd.R_below HO.out hb2⟩
      have HC2 : Aside0 (Own Kd.string 9 w2 w.heap.size (.slice (some ⟨w.heap.size, 0, none⟩) ps.length ps.length) ps) := ⟨Kd.R_below HC.out hb2⟩
      have HOV : Aside0 (Kd.R Kd.string 9 w2 w.heap.size (fun k => True ∧ some k ≠ u3.ownBlock) v F) := ⟨Kd.R_lower (Kd.R_new ho2 HIN.out) HB.out.size⟩
      clear hfa ho2 hb2 HB HO HC HIN
      by_cases hF0 : F = []
      · obtain rfl := hn2 hF0
        have HS := Aside0.mk (HSK.out hF0)
        clear hn2 hs2
        go_wp2
        go_roundg (ps.length - k - 1)
        case measure => have := HA.out; omega
        case rel => exact ⟨k + 1, out, by go_num, ⟨by have := HA.out; omega, by have := HA.out; omega, by have := HA.out; omega⟩, ⟨by rw [← HS.out]; exact HL.out⟩, HO2, HC2, HB2⟩
      · obtain ⟨g, rfl⟩ := hs2 hF0
        have HE2 : Aside0 (rowsL (ps.drop (k + 1)) (out ++ [F]) = E) := ⟨by rw [← HL.out, HGD.out hF0]⟩
        clear hn2 hs2 hF0 HSK HGD
        go_wp2_with (at_builtin; refine Kd.R_append kSl (w0 := w) w.heap.size rfl (.tmp 18) (.tmp 20) 191 114 (.slice none 0 0) 24 rfl Tryz.underlying191 Go.Proofs.YtkipjalfgdfaiaaGreatDoor.PLinesRead.info114 rfl (by decide) (by omega) u3 out F [.slice (some ⟨g, 0, none⟩) F.length F.length] (fun _ => True) (fun k => True ∧ some k ≠ u3.ownBlock) rfl ?aX ⟨_, rfl, HOV.out⟩ (fun _ h => h) (fun _ _ => trivial) HO2.out HB2.out ?aS ?aL ?_)
        case aX => rfl
        case aS => exact HB2.out.size
        case aL => have := HA.out; omega
        intro v5 w5 ho5 hb5 hg5 _
        have HO5 := Aside0.mk ho5
        have HB5 := Aside0.mk hb5
        have HC5 : Aside0 (Own Kd.string 9 w5 w.heap.size (.slice (some ⟨w.heap.size, 0, none⟩) ps.length ps.length) ps) := ⟨by
          obtain ⟨inner, hin⟩ := Kd.R_own HO2.out
          have ho := Kd.own_of_R HC2.out
          exact Kd.R_of_own (own_other ho hg5 (own_type_ne ho hin (by decide))) (fun _ _ => trivial)⟩
        clear ho5 hb5 hg5
        go_wp2
        go_roundg (ps.length - k - 1)
        case measure => have := HA.out; omega
        case rel => exact ⟨k + 1, out ++ [F], by go_num, ⟨by have := HA.out; omega, by have := HA.out; omega, by have := HA.out; simp; omega⟩, HE2, HO5, HC5, HB5⟩
    · have HE2 : Aside0 (E = out) := ⟨by rw [← HL.out, List.drop_of_length_le (by omega)]; rfl⟩
      go_wp2
      go_ret
      rw [HE2.out]
      exact ⟨_, rfl, HO.out, HB.out⟩

end Go.Proofs.YtkipjalfgdfaiaaGreatDoor
namespace Go.Proofs.YtkipjalfgdfaiaaGreatDoor
set_option linter.unusedVariables false
set_option linter.unusedSimpArgs false
open Go.RowKit Go.Proofs.YtkipjalfgdfaiaaGreatDoorW.PrintWords Go.Proofs.YtkipjalfgdfaiaaGreatDoorW.PrintLast Go.Proofs.YtkipjalfgdfaiaaGreatDoorW.PrintMore

def eqB (a b : ByteArray) : Bool := a.data.toList == b.data.toList
theorem eqB_iff {a b : ByteArray} : eqB a b = true ↔ a = b := by
  unfold eqB
  rw [beq_iff_eq]
  constructor
  · intro h
    rw [← bsL_data a, ← bsL_data b, h]
  · rintro rfl
    rfl
theorem eqB_self (a : ByteArray) : eqB a a = true := eqB_iff.2 rfl
theorem eqB_ne {a b : ByteArray} (h : a ≠ b) : eqB a b = false := Bool.eq_false_iff.2 (fun e => h (eqB_iff.1 e))
def cellB (f : List ByteArray) (i : Nat) : ByteArray := f.getD i ByteArray.empty
def rowHit (kind want : ByteArray) (f : List ByteArray) : Bool := eqB (cellB f 0) kind && (f.drop 1).any (fun n => eqB (looseB n) want)
def findL (kind want : ByteArray) : List (List ByteArray) → Option ByteArray
  | [] => none
  | f :: r => if rowHit kind want f = true then some (cellB f 1) else findL kind want r
def numB (k : ByteArray) : Int := if k.toList = ([103, 99] : List UInt8) then 1 else if k.toList = ([115, 99] : List UInt8) then 2 else 3
def idxL : List UInt8 → Option Nat
  | [] => none
  | b :: l => if b = 61 ∨ b = 58 then some 0 else (idxL l).map (· + 1)
def errN : Int × ByteArray × Int := (0, ByteArray.empty, 50)
def errV : Int × ByteArray × Int := (0, ByteArray.empty, 51)
def valL (R : List (List ByteArray)) (kind s : ByteArray) : Int × ByteArray × Int := match findL kind (looseB s) R with
  | none => errV
  | some v => (numB kind, v, 0)
def keyL (R : List (List ByteArray)) (a s : ByteArray) : Int × ByteArray × Int := match findL ⟨#[112, 114]⟩ (looseB a) R with
  | none => errN
  | some k => valL R k s
def bareL (R : List (List ByteArray)) (s : ByteArray) : List ByteArray → Int × ByteArray × Int
  | [] => errN
  | k :: r => match findL k (looseB s) R with
    | none => bareL R s r
    | some v => (numB k, v, 0)
def kindsL : List ByteArray := [⟨#[103, 99]⟩, ⟨#[98, 105]⟩, ⟨#[115, 99]⟩]
def resolveL (R : List (List ByteArray)) (s : ByteArray) : Int × ByteArray × Int := match idxL s.data.toList with
  | some i => keyL R (s.extract 0 i) (s.extract (i + 1) s.size)
  | none => bareL R s kindsL
def longHit (kind : Int) (v : ByteArray) (f : List ByteArray) : Bool := !eqB (cellB f 0) ⟨#[112, 114]⟩ && decide (numB (cellB f 0) = kind) && eqB (cellB f 1) v
def longL (kind : Int) (v : ByteArray) : List (List ByteArray) → Option ByteArray
  | [] => none
  | f :: r => if longHit kind v f = true then some (cellB f 2) else longL kind v r

/-- The text that the program's code holds: the last one that a region assigns. -/
def textOp : List Oper → Option ByteArray
  | [] => none
  | o :: r => match textOp r with
    | some b => some b
    | none => match o.op with
      | .assign (.const (.string b)) => some b
      | _ => none
def textCode : Code → Option ByteArray
  | .seq a b => match textCode b with
    | some x => some x
    | none => textCode a
  | .region _ ops _ => textOp ops.toList
  | _ => none
/-- Each row has three cells, of few bytes; the middle one is not empty. -/
def rowsOk (R : List (List ByteArray)) : Bool := R.all fun f => f.length == 3 && f.all (fun x => decide (x.size < 1000)) && !(cellB f 1).data.toList.isEmpty
def awakeB : ByteArray := ⟨#[103, 101, 110, 101, 114, 97, 108, 32, 99, 97, 116, 101, 103, 111, 114, 121, 32, 61, 32, 117, 112, 112, 101, 114, 99, 97, 115, 101, 45, 108, 101, 116, 116, 101, 114]⟩
def awakeOk (R : List (List ByteArray)) : Bool := (resolveL R awakeB).1 == 1 && eqB (resolveL R awakeB).2.1 ⟨#[76, 117]⟩ && (resolveL R awakeB).2.2 == 0
def aheadB (n : Int) : ByteArray := if n = 1 then ⟨#[103, 99, 61]⟩ else if n = 2 then ⟨#[115, 99, 61]⟩ else ByteArray.empty
/-- Each value has a long name, which names it; each property is a kind. -/
def backRow (R : List (List ByteArray)) (f : List ByteArray) : Bool := match longL (numB (cellB f 0)) (cellB f 1) R with
  | none => false
  | some l => (resolveL R (aheadB (numB (cellB f 0)) ++ l)).1 == numB (cellB f 0) && eqB (resolveL R (aheadB (numB (cellB f 0)) ++ l)).2.1 (cellB f 1) && (resolveL R (aheadB (numB (cellB f 0)) ++ l)).2.2 == 0
def backOk (R : List (List ByteArray)) : Bool := (R.all fun f => !kindsL.any (fun k => eqB (cellB f 0) k) || backRow R f) && R.all fun f => !eqB (cellB f 0) ⟨#[112, 114]⟩ || kindsL.any (fun k => eqB (cellB f 1) k)
/-- The text of api.Aliases, and what is known of its rows. -/
def AliasIs (b : ByteArray) : Prop := (∀ w, Calls Tryz.prog 172 #[] w fun e w' => e = .returned (.string b) ∧ Below w.heap.size w w') ∧ b.size < 4294967281 ∧ rowsOk (rowsB b) = true ∧ awakeOk (rowsB b) = true ∧ backOk (rowsB b) = true

set_option maxHeartbeats 8000000 in
set_option maxRecDepth 100000 in
theorem alias_ex : ∃ b, AliasIs b := by
  refine ⟨((Tryz.f172.body).bind textCode).getD ByteArray.empty, fun w => ?_, of_decide_eq_true (by kernel_rfl), by kernel_rfl, by kernel_rfl, by kernel_rfl⟩
  go_enter Tryz.func172, Tryz.ntmps172
  go_wp2
  go_ret
  exact ⟨congrArg (fun b => Ending.returned (.string b)) (by kernel_rfl), Below.refl _ _⟩

end Go.Proofs.YtkipjalfgdfaiaaGreatDoor
namespace Go.Proofs.YtkipjalfgdfaiaaGreatDoor
set_option linter.unusedVariables false
set_option linter.unusedSimpArgs false

theorem rowsL_len : ∀ (ps : List ByteArray) (out : List (List ByteArray)), (rowsL ps out).length ≤ out.length + ps.length
  | [], out => Nat.le_refl _
  | x :: r, out => by
    by_cases h : fieldsB x = []
    · rw [rowsL_skip h]
      have := rowsL_len r out
      simp only [List.length_cons]
      omega
    · rw [rowsL_take h]
      have := rowsL_len r (out ++ [fieldsB x])
      simp only [List.length_append, List.length_cons, List.length_nil] at this ⊢
      omega
theorem rowsB_len (s : ByteArray) : (rowsB s).length ≤ s.size + 1 := by
  have h := rowsL_len (cutB 10 s) []
  have h2 := cutB_length 10 s
  simp only [List.length_nil, Nat.zero_add] at h
  exact Nat.le_trans h h2
end Go.Proofs.YtkipjalfgdfaiaaGreatDoor
namespace Go.Proofs.YtkipjalfgdfaiaaGreatDoor
set_option linter.unusedVariables false
set_option linter.unusedSimpArgs false
open Go.RowKit Go.Proofs.YtkipjalfgdfaiaaGreatDoorW.PrintWords Go.Proofs.YtkipjalfgdfaiaaGreatDoorW.PrintLast Go.Proofs.YtkipjalfgdfaiaaGreatDoorW.PrintMore Go.Proofs.YtkipjalfgdfaiaaGreatDoor.PLinesRead

theorem row_ok {R : List (List ByteArray)} (h : rowsOk R = true) {f : List ByteArray} (hf : f ∈ R) : f.length = 3 ∧ (∀ x ∈ f, x.size < 1000) ∧ (cellB f 1).size ≠ 0 := by
  unfold rowsOk at h
  rw [List.all_eq_true] at h
  have h1 := h f hf
  simp only [Bool.and_eq_true, beq_iff_eq, List.all_eq_true, decide_eq_true_eq, Bool.not_eq_true'] at h1
  obtain ⟨⟨h1, h2⟩, h3⟩ := h1
  refine ⟨h1, h2, fun h4 => ?_⟩
  rw [Lib.size_eq, List.length_eq_zero_iff] at h4
  rw [h4] at h3
  cases h3
theorem beq_toList {a b : ByteArray} (h : a ≠ b) : (a.toList == b.toList) = false := by
  rw [Lib.toList_data, Lib.toList_data]
  exact beq_eq_false_iff_ne.2 (fun e => h (by rw [← bsL_data a, ← bsL_data b, e]))
theorem drop1_at {f : List ByteArray} {j : Nat} (h : j < (f.drop 1).length) : (f.drop 1)[j] = f[j + 1]'(by rw [List.length_drop] at h; omega) := by
  rw [List.getElem_drop]
  congr 1
  omega
theorem cell_at {f : List ByteArray} {i : Nat} (h : i < f.length) : cellB f i = f[i] := by
  unfold cellB
  rw [List.getD_eq_getElem?_getD, List.getElem?_eq_getElem h]
  rfl

set_option maxHeartbeats 4000000 in
set_option maxRecDepth 100000 in
theorem find_any (b : ByteArray) (hal : AliasIs b) (kind s : ByteArray) (m : Int) (w : World) (hm : MaxIs w m) (hs : s.size < 140737488355328) :
    Calls Tryz.prog 143 #[.string kind, .string s] w fun e w' => e = .returned (.tuple #[.string ((findL kind (looseB s) (rowsB b)).getD ByteArray.empty), .bool (findL kind (looseB s) (rowsB b)).isSome]) ∧ Below w.heap.size w w' := by
  obtain ⟨ha, hbs, hok, -, -⟩ := hal
  have HRK := Aside0.mk (fun f (hf : f ∈ rowsB b) => row_ok hok hf)
  have HRW := Aside0.mk (fun W hm => rows_any b m W hbs hm)
  have HRL := rowsB_len b
  obtain ⟨R, hR⟩ : ∃ R, rowsB b = R := ⟨_, rfl⟩
  rw [hR] at HRK HRW HRL ⊢
  have HL := Aside0.mk (fun W => loose_any s W hs)
  obtain ⟨want, hwant⟩ : ∃ want, looseB s = want := ⟨_, rfl⟩
  rw [hwant] at HL ⊢
  have HE : Aside0 (findL kind want (R.drop 0) = findL kind want R) := ⟨rfl⟩
  obtain ⟨ans, hans⟩ : ∃ ans, findL kind want R = ans := ⟨_, rfl⟩
  rw [hans] at HE ⊢
  have HM := Aside0.mk hm
  have HAL := Aside0.mk ha
  have hrl : R.length < 4294967290 := by omega
  clear ha hbs hok hR HRL hwant hans hm
  go_enter Tryz.func143, Tryz.ntmps143
  go_wp2_with fail
  refine (HL.out _).mono ?_
  rintro e w1 ⟨rfl, hb1⟩
  have HB1 := Aside0.mk hb1
  clear hb1
  go_wp2_with fail
  refine (HAL.out _).mono ?_
  rintro e w2 ⟨rfl, hb2⟩
  have HB2 : Aside0 (Below w.heap.size w w2) := ⟨below_to HB1.out hb2⟩
  clear hb2
  go_wp2_with fail
  refine (HRW.out _ (HM.out.below HB2.out)).mono ?_
  rintro e w3 ⟨v3, rfl, ho3, hb3⟩
  have HB3 : Aside0 (Below w.heap.size w w3) := ⟨below_to HB2.out hb3⟩
  obtain ⟨A, c, rfl, hc, hr⟩ := Kd.R_reads ho3
  have HR := Aside0.mk hr
  clear ho3 hb3 hr
  go_wp2
  go_loopg [16] R.length (fun gk i w' => ∃ (k : Nat), i = .int .i64 (k : Int) ∧ Aside0 (k ≤ R.length ∧ gk = R.length - k) ∧ Aside0 (findL kind want (R.drop k) = ans) ∧ Aside0 (Below w3.heap.size w3 w'))
  case atStart => exact ⟨0, by first | rfl | simp, ⟨Nat.zero_le _, rfl⟩, HE, ⟨Below.refl _ _⟩⟩
  case round =>
    obtain ⟨k, rfl, HA, HF, HB⟩ := hrel
    have HBW : Aside0 (Below w.heap.size w wr) := ⟨below_to HB3.out HB.out⟩
    by_cases hk : k < R.length
    · obtain ⟨ad, A0, c0, rfl, hx0, hxl, hxr⟩ := at_L2 HR.out (k : Int) (by omega) (by omega)
      replace hx0 := pw_cell_below HB.out hx0
      replace hxr := Kd.C_below hxr HB.out
      have hfR : rd_L2 R (k : Int) = R[k] := by simp [rd_L2, hk]
      have hok := HRK.out R[k] (List.getElem_mem hk)
      have hdr : R.drop k = R[k] :: R.drop (k + 1) := List.drop_eq_getElem_cons hk
      rw [hfR] at hx0 hxl hxr
      rw [hdr] at HF
      obtain ⟨f, hff⟩ : ∃ f, R[k] = f := ⟨_, rfl⟩
      rw [hff] at hx0 hxl hxr hok HF
      clear hfR hff hdr
      obtain ⟨hf3, hfs, -⟩ := hok
      simp only [Int.toNat_natCast] at hx0
      obtain ⟨ad0, rfl, hy0⟩ := at_S hxr 0 (by omega)
      obtain ⟨ad0', he1, hy1⟩ := at_S hxr 1 (by omega)
      cases he1
      rw [add_zero] at hy0
      have ha1 := add_field ad0 0 1 (by omega)
      rw [Nat.zero_add, add_zero] at ha1
      rw [ha1] at hy1
      clear ha1
      have hc0e := cell_at (show 0 < f.length by omega)
      have hc1e := cell_at (show 1 < f.length by omega)
      obtain ⟨x0, hxx0⟩ : ∃ x0, f[0]'(by omega) = x0 := ⟨_, rfl⟩
      obtain ⟨x1, hxx1⟩ : ∃ x1, f[1]'(by omega) = x1 := ⟨_, rfl⟩
      rw [hxx0] at hy0 hc0e
      rw [hxx1] at hy1 hc1e
      have HXR := Aside0.mk hxr
      have HFS := Aside0.mk hfs
      clear hxr hfs hxx0 hxx1
      by_cases hkd : x0 = kind
      · subst hkd
        have HH : Aside0 (rowHit x0 want f = (f.drop 1).any (fun n => eqB (looseB n) want)) := ⟨by unfold rowHit; rw [hc0e, eqB_self, Bool.true_and]⟩
        have hdl : (f.drop 1).length = 2 := by rw [List.length_drop]; omega
        have HNS : Aside0 (∀ n ∈ f.drop 1, n.size < 1000) := ⟨fun n hn => HFS.out n (List.mem_of_mem_drop hn)⟩
        have HNC : Aside0 (∀ q (hq : q < (f.drop 1).length), wr.cell? ⟨ad0.block, ad0.off + 1 + q, none⟩ = some (.string ((f.drop 1)[q]))) := ⟨fun q hq => by
          obtain ⟨adn, he, hz⟩ := at_S HXR.out (q + 1) (by omega)
          cases he
          have h2 := add_field ad0 0 (q + 1) (by omega)
          rw [Nat.zero_add, add_zero] at h2
          rw [h2, show ad0.off + (q + 1) = ad0.off + 1 + q by omega] at hz
          rw [drop1_at hq]
          exact hz⟩
        obtain ⟨N, hN⟩ : ∃ N, f.drop 1 = N := ⟨_, rfl⟩
        rw [hN] at HH HNS HNC hdl
        clear hN HFS
        obtain ⟨wo, hwo⟩ : ∃ wo : World, wo = wr := ⟨_, rfl⟩
        subst hwo
        go_wp2
        go_loopg [28] 2 (fun gk i w' => ∃ (q : Nat), i = .int .i64 (q : Int) ∧ Aside0 (q ≤ 2 ∧ gk = 2 - q) ∧ Aside0 ((N.take q).any (fun n => eqB (looseB n) want) = false) ∧ Aside0 (Below wo.heap.size wo w'))
        case atStart => exact ⟨0, by first | rfl | simp, ⟨Nat.zero_le _, rfl⟩, ⟨rfl⟩, ⟨Below.refl _ _⟩⟩
        case round =>
          obtain ⟨q, rfl, HQ, HN, HBQ⟩ := hrel
          by_cases hq : q < 2
          · have hz := HNC.out q (by omega)
            replace hz := pw_cell_below HBQ.out hz
            have hns := HNS.out _ (List.getElem_mem (show q < N.length by omega))
            have htk : (N.take (q + 1)).any (fun n => eqB (looseB n) want) = eqB (looseB (N[q]'(by omega))) want := by
              rw [List.take_succ_eq_append_getElem (by omega), List.any_append, HN.out, Bool.false_or, List.any_cons, List.any_nil, Bool.or_false]
            have hmem : N[q]'(by omega) ∈ N := List.getElem_mem _
            have hany : eqB (looseB (N[q]'(by omega))) want = true → N.any (fun n => eqB (looseB n) want) = true := fun h => List.any_eq_true.2 ⟨_, hmem, h⟩
            obtain ⟨n, hn⟩ : ∃ n, N[q]'(by omega) = n := ⟨_, rfl⟩
            rw [hn] at hz hns htk hany
            have HLN := Aside0.mk (fun W => loose_any n W (by omega))
            obtain ⟨ln, hln⟩ : ∃ ln, looseB n = ln := ⟨_, rfl⟩
            rw [hln] at HLN htk hany
            have HTK := Aside0.mk htk
            have HANY := Aside0.mk hany
            clear hn hmem hns hln htk hany
            go_wp2_with fail
            refine (HLN.out _).mono ?_
            rintro e w5 ⟨rfl, hb5⟩
            have HB5 : Aside0 (Below wo.heap.size wo w5) := ⟨below_to HBQ.out hb5⟩
            replace hy1 := pw_cell_below HB5.out hy1
            clear hb5 hz
            by_cases hw : ln = want
            · subst hw
              have HAN : Aside0 (ans = some x1) := ⟨by
                rw [← HF.out, findL, if_pos (by rw [HH.out]; exact HANY.out (eqB_self _)), hc1e]⟩
              have HBZ : Aside0 (Below w.heap.size w w5) := ⟨below_to HBW.out HB5.out⟩
              go_wp2
              go_ret2
              rw [HAN.out]
              exact ⟨rfl, HBZ.out⟩
            · have hbq := beq_toList hw
              have HT2 : Aside0 ((N.take (q + 1)).any (fun n => eqB (looseB n) want) = false) := ⟨by rw [HTK.out]; exact eqB_ne hw⟩
              go_wp2
              go_roundg (2 - q - 1)
              case measure => have := HQ.out; omega
              case rel => exact ⟨q + 1, by go_num, ⟨by omega, by omega⟩, HT2, HB5⟩
          · have HAN : Aside0 (findL x0 want (R.drop (k + 1)) = ans) := ⟨by
              have hall : N.take q = N := List.take_of_length_le (by omega)
              have := HN.out
              rw [hall] at this
              rw [← HF.out, findL, if_neg (by rw [HH.out, this]; decide)]⟩
            have HB6 : Aside0 (Below w3.heap.size w3 wr) := ⟨below_to HB.out HBQ.out⟩
            go_wp2
            go_roundg (R.length - k - 1)
            case measure => have := HA.out; omega
            case rel => exact ⟨k + 1, by go_num, ⟨by omega, by omega⟩, HAN, HB6⟩
      · have hbq := beq_toList hkd
        have HAN : Aside0 (findL kind want (R.drop (k + 1)) = ans) := ⟨by
          rw [← HF.out, findL, if_neg (by unfold rowHit; rw [hc0e, eqB_ne hkd]; simp)]⟩
        go_wp2
        go_roundg (R.length - k - 1)
        case measure => have := HA.out; omega
        case rel => exact ⟨k + 1, by go_num, ⟨by omega, by omega⟩, HAN, HB⟩
    · have HAN : Aside0 (ans = none) := ⟨by rw [← HF.out, List.drop_of_length_le (by omega)]; rfl⟩
      go_wp2
      go_ret2
      rw [HAN.out]
      exact ⟨rfl, HBW.out⟩

end Go.Proofs.YtkipjalfgdfaiaaGreatDoor
