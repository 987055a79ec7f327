/- TkRC, TkRD, TkRE, TkRF, TkG, TqP, TrP, TqE, TkJ, TkPa, ShelfU, TkPr, TkPs, TokenPrintW, LnM, TkH, TkH2. -/
import Derived.Recover
import Derived.Defers
import Derived.Lib.SlBytesConst
import Derived.Test.YtkipjalfgdfaiaaGreatDoorProg
import Derived.Below
import Derived.Deep.Draws
import Derived.Deep.AppendLies
import Derived.Maps.AppendAt
import Derived.OwnWalk
import Derived.Laws.BytesArg
import Derived.Laws.MakeOwn
import Derived.Laws.OwnMore
import Derived.Deep.OwnRows
import Derived.Tactics
import Derived.Lib.ConvBytes
import Derived.Laws.Slices
import Derived.WalkKit
import Derived.KernelRfl
import Derived.RowKit3
import Derived.Deep.LoopGhost
import Derived.Deep.QuietTactic
import Derived.BigQuiet
import Derived.WideLaws
import Derived.Deep.DeepCutAuto
import Derived.Deep.CutBlock
import Derived.Deep.RegionHeld3
import Derived.Laws.Rows
import Derived.Lib.AppendStr
import Derived.ArgAppend
import Derived.Laws.IdiomCopy
import Derived.OrdersHeld
import Derived.Laws.BitsLemmas
import Derived.RowKit
import Derived.Test.YtkipjalfgdfaiaaGreatDoorWWords
import Derived.Test.YtkipjalfgdfaiaaGreatDoorWLast
import Derived.Test.YtkipjalfgdfaiaaGreatDoorWRepsOne
import Derived.Shelf.Strings.OnBuilder
import Derived.Test.YtkipjalfgdfaiaaGreatDoorRows
import Derived.Shelf.Vars
import Derived.Deep.DeepHandedRow
import Derived.Lay
import Derived.Lib.LaidU8
import Derived.Test.YtkipjalfgdfaiaaGreatDoorSP4
namespace Go.Proofs.YtkipjalfgdfaiaaGreatDoor
set_option linter.unusedVariables false
set_option linter.unusedSimpArgs false
open Go.RowKit Go.Proofs.YtkipjalfgdfaiaaGreatDoorW.PrintWords Go.Proofs.YtkipjalfgdfaiaaGreatDoorW.PrintLast Go.Proofs.YtkipjalfgdfaiaaGreatDoorW.PrintMore Go.Proofs.YtkipjalfgdfaiaaGreatDoor.PTk

section
variable {W0 w : World} {m : Int} {base g h : Nat} {A : Option Addr} {c : Nat} {p : List Int} {st ne k : Nat} {t : Tk}
set_option maxHeartbeats 8000000 in
set_option maxRecDepth 100000 in
theorem oth_bytes (b : ByteArray) (hal : AliasIs b) (S : St W0 m base g h A c p st ne t k w) (hst : t.st = st) (hk : st ≤ k) (hkl : k < p.length) (x : Int × Nat) (hc : charL p k = .error x) :
    Calls Tryz.prog 53 #[.pointer (some ⟨g, 0, none⟩), .pointer (some ⟨h, 0, none⟩)] w (RT W0 g h (fun t k w' => St W0 m base g h A c p st ne t k w') (otherL (resolveL (rowsB b)) p ne k t)) := by
  have HS0 := Aside0.mk S
  have HL : Aside0 (otherL (resolveL (rowsB b)) p ne k t = .error x) := ⟨by unfold otherL; rw [hc, thenF_err]⟩
  have HC := Aside0.mk hc
  clear S hst hk hc
  go_enter Tryz.func53, Tryz.ntmps53
  go_wp2_with fail
  refine (sChar HS0.out hkl).mono ?_
  intro e w1 hr
  rw [HC.out] at hr
  obtain ⟨rfl, hB⟩ := hr
  have HBE := Aside0.mk hB
  clear hB
  go_wp2
  rw [HL.out]
  exact ⟨rfl, rfl, HBE.out⟩
set_option maxHeartbeats 8000000 in
set_option maxRecDepth 100000 in
theorem oth_esc (b : ByteArray) (hal : AliasIs b) (S : St W0 m base g h A c p st ne t k w) (hst : t.st = st) (hk : st ≤ k) (hkl : k < p.length) (k1 : Nat) (hc : charL p k = .ok (92, k1)) :
    Calls Tryz.prog 53 #[.pointer (some ⟨g, 0, none⟩), .pointer (some ⟨h, 0, none⟩)] w (RT W0 g h (fun t k w' => St W0 m base g h A c p st ne t k w') (otherL (resolveL (rowsB b)) p ne k t)) := by
  have HS0 := Aside0.mk S
  have hgh := S.hn
  have hgh2 := Ne.symm S.hn
  obtain ⟨nb, -, hk1, hn1, hn2⟩ := char_ok hc
  have hsk1 : st ≤ k1 := by omega
  have HSK := Aside0.mk hsk1
  have HST := Aside0.mk hst
  have HAL := Aside0.mk hal
  have HPR := Aside0.mk S.sv.rng
  have HL : Aside0 (otherL (resolveL (rowsB b)) p ne k t = escapeL (resolveL (rowsB b)) p ne k1 t) := ⟨by unfold otherL; rw [hc, thenF_ok]; show othL (resolveL (rowsB b)) p ne 92 k1 t = _; unfold othL; rw [if_pos rfl]⟩
  have HC := Aside0.mk hc
  clear S hst hk hc hk1 hn1 hn2 hsk1 hal
  go_enter Tryz.func53, Tryz.ntmps53
  go_wp2_with fail
  refine (sChar HS0.out hkl).mono ?_
  intro e w1 hr
  rw [HC.out] at hr
  obtain ⟨rfl, hS⟩ := hr
  have HS1 := Aside0.mk hS
  clear hS
  have fc1_0 := HS1.out.cell 0 _ rfl
  have fr1_0 := HS1.out.free 0
  have fc1_1 := HS1.out.cell 1 _ rfl
  have fr1_1 := HS1.out.free 1
  have fc1_2 := HS1.out.cell 2 _ rfl
  have fr1_2 := HS1.out.free 2
  have ce1_0 := HS1.out.nest
  go_wp2_with fail
  refine (escape_any b HAL.out HS1.out HST.out HSK.out HPR.out).mono ?_
  intro e w2 hr
  obtain ⟨X, hX⟩ : ∃ X, escapeL (resolveL (rowsB b)) p ne k1 t = X := ⟨_, rfl⟩
  rw [hX] at hr
  rw [hX] at HL
  clear hX
  cases X with
  | error x =>
    obtain ⟨rfl, hB⟩ := hr
    have HBE := Aside0.mk hB
    clear hB
    go_wp2
    rw [HL.out]
    exact ⟨rfl, rfl, HBE.out⟩
  | ok x =>
    obtain ⟨rfl, hS⟩ := hr
    have HS2 := Aside0.mk hS
    clear hS
    go_wp2
    go_end0
    rw [HL.out]
    exact ⟨rfl, HS2.out⟩
set_option maxHeartbeats 8000000 in
set_option maxRecDepth 100000 in
theorem oth_in (b : ByteArray) (hal : AliasIs b) (S : St W0 m base g h A c p st ne t k w) (hst : t.st = st) (hk : st ≤ k) (hkl : k < p.length) (ch : Int) (k1 : Nat) (hc : charL p k = .ok (ch, k1)) (n92 : ch ≠ 92) (hne : ne ≠ 0) :
    Calls Tryz.prog 53 #[.pointer (some ⟨g, 0, none⟩), .pointer (some ⟨h, 0, none⟩)] w (RT W0 g h (fun t k w' => St W0 m base g h A c p st ne t k w') (otherL (resolveL (rowsB b)) p ne k t)) := by
  have HS0 := Aside0.mk S
  have hgh := S.hn
  have hgh2 := Ne.symm S.hn
  obtain ⟨nb, -, hk1, hn1, hn2⟩ := char_ok hc
  have hsk1 : st ≤ k1 := by omega
  have HSK := Aside0.mk hsk1
  have HST := Aside0.mk hst
  have HAL := Aside0.mk hal
  have HPR := Aside0.mk S.sv.rng
  have HL : Aside0 (otherL (resolveL (rowsB b)) p ne k t = .ok ({ t with kind := 1, a := ch }, k1)) := ⟨by unfold otherL; rw [hc, thenF_ok]; show othL (resolveL (rowsB b)) p ne ch k1 t = _; unfold othL; rw [if_neg n92, if_pos hne]⟩
  have HC := Aside0.mk hc
  have e92 : (ch == 92) = false := by rw [beq_eq_false_iff_ne]; exact n92
  have f92 : (92 == ch) = false := by rw [beq_eq_false_iff_ne]; exact fun e => n92 e.symm
  have hnd : decide (0 < ne) = true := decide_eq_true (by omega)
  clear S hst hk hc hk1 hn1 hn2 hsk1 hal n92 hne
  go_enter Tryz.func53, Tryz.ntmps53
  go_wp2_with fail
  refine (sChar HS0.out hkl).mono ?_
  intro e w1 hr
  rw [HC.out] at hr
  obtain ⟨rfl, hS⟩ := hr
  have HS1 := Aside0.mk hS
  clear hS
  have fc1_0 := HS1.out.cell 0 _ rfl
  have fr1_0 := HS1.out.free 0
  have fc1_1 := HS1.out.cell 1 _ rfl
  have fr1_1 := HS1.out.free 1
  have fc1_2 := HS1.out.cell 2 _ rfl
  have fr1_2 := HS1.out.free 2
  have ce1_0 := HS1.out.nest
  go_wp2
  go_end0
  rw [HL.out]
  exact ⟨rfl, ((HS1.out.setT 0 _ { t with kind := 1 } rfl).setT 2 _ { t with kind := 1, a := ch } rfl)⟩
set_option maxHeartbeats 8000000 in
set_option maxRecDepth 100000 in
theorem oth_out_dot (b : ByteArray) (hal : AliasIs b) (S : St W0 m base g h A c p st ne t k w) (hst : t.st = st) (hk : st ≤ k) (hkl : k < p.length) (k1 : Nat) (hc : charL p k = .ok (46, k1)) (h00 : ne = 0) :
    Calls Tryz.prog 53 #[.pointer (some ⟨g, 0, none⟩), .pointer (some ⟨h, 0, none⟩)] w (RT W0 g h (fun t k w' => St W0 m base g h A c p st ne t k w') (otherL (resolveL (rowsB b)) p ne k t)) := by
  have HS0 := Aside0.mk S
  have hgh := S.hn
  have hgh2 := Ne.symm S.hn
  obtain ⟨nb, -, hk1, hn1, hn2⟩ := char_ok hc
  have hsk1 : st ≤ k1 := by omega
  have HSK := Aside0.mk hsk1
  have HST := Aside0.mk hst
  have HAL := Aside0.mk hal
  have HPR := Aside0.mk S.sv.rng
  have HL : Aside0 (otherL (resolveL (rowsB b)) p ne k t = .ok ({ t with kind := 2 }, k1)) := ⟨by unfold otherL; rw [hc, thenF_ok]; show othL (resolveL (rowsB b)) p ne 46 k1 t = _; unfold othL; rw [if_neg (by decide), if_neg (fun q => q h00), if_pos rfl]⟩
  have HC := Aside0.mk hc
  subst h00
  clear S hst hk hc hk1 hn1 hn2 hsk1 hal
  go_enter Tryz.func53, Tryz.ntmps53
  go_wp2_with fail
  refine (sChar HS0.out hkl).mono ?_
  intro e w1 hr
  rw [HC.out] at hr
  obtain ⟨rfl, hS⟩ := hr
  have HS1 := Aside0.mk hS
  clear hS
  have fc1_0 := HS1.out.cell 0 _ rfl
  have fr1_0 := HS1.out.free 0
  have fc1_1 := HS1.out.cell 1 _ rfl
  have fr1_1 := HS1.out.free 1
  have fc1_2 := HS1.out.cell 2 _ rfl
  have fr1_2 := HS1.out.free 2
  have ce1_0 := HS1.out.nest
  go_wp2
  go_end0
  rw [HL.out]
  exact ⟨rfl, (HS1.out.setT 0 _ { t with kind := 2 } rfl)⟩
set_option maxHeartbeats 8000000 in
set_option maxRecDepth 100000 in
theorem oth_out_bar (b : ByteArray) (hal : AliasIs b) (S : St W0 m base g h A c p st ne t k w) (hst : t.st = st) (hk : st ≤ k) (hkl : k < p.length) (k1 : Nat) (hc : charL p k = .ok (124, k1)) (h00 : ne = 0) :
    Calls Tryz.prog 53 #[.pointer (some ⟨g, 0, none⟩), .pointer (some ⟨h, 0, none⟩)] w (RT W0 g h (fun t k w' => St W0 m base g h A c p st ne t k w') (otherL (resolveL (rowsB b)) p ne k t)) := by
  have HS0 := Aside0.mk S
  have hgh := S.hn
  have hgh2 := Ne.symm S.hn
  obtain ⟨nb, -, hk1, hn1, hn2⟩ := char_ok hc
  have hsk1 : st ≤ k1 := by omega
  have HSK := Aside0.mk hsk1
  have HST := Aside0.mk hst
  have HAL := Aside0.mk hal
  have HPR := Aside0.mk S.sv.rng
  have HL : Aside0 (otherL (resolveL (rowsB b)) p ne k t = .ok ({ t with kind := 5 }, k1)) := ⟨by unfold otherL; rw [hc, thenF_ok]; show othL (resolveL (rowsB b)) p ne 124 k1 t = _; unfold othL; rw [if_neg (by decide), if_neg (fun q => q h00), if_neg (by decide), if_pos rfl]⟩
  have HC := Aside0.mk hc
  subst h00
  clear S hst hk hc hk1 hn1 hn2 hsk1 hal
  go_enter Tryz.func53, Tryz.ntmps53
  go_wp2_with fail
  refine (sChar HS0.out hkl).mono ?_
  intro e w1 hr
  rw [HC.out] at hr
  obtain ⟨rfl, hS⟩ := hr
  have HS1 := Aside0.mk hS
  clear hS
  have fc1_0 := HS1.out.cell 0 _ rfl
  have fr1_0 := HS1.out.free 0
  have fc1_1 := HS1.out.cell 1 _ rfl
  have fr1_1 := HS1.out.free 1
  have fc1_2 := HS1.out.cell 2 _ rfl
  have fr1_2 := HS1.out.free 2
  have ce1_0 := HS1.out.nest
  go_wp2
  go_end0
  rw [HL.out]
  exact ⟨rfl, (HS1.out.setT 0 _ { t with kind := 5 } rfl)⟩
set_option maxHeartbeats 8000000 in
set_option maxRecDepth 100000 in
theorem oth_out_par (b : ByteArray) (hal : AliasIs b) (S : St W0 m base g h A c p st ne t k w) (hst : t.st = st) (hk : st ≤ k) (hkl : k < p.length) (k1 : Nat) (hc : charL p k = .ok (40, k1)) (h00 : ne = 0) :
    Calls Tryz.prog 53 #[.pointer (some ⟨g, 0, none⟩), .pointer (some ⟨h, 0, none⟩)] w (RT W0 g h (fun t k w' => St W0 m base g h A c p st ne t k w') (otherL (resolveL (rowsB b)) p ne k t)) := by
  have HS0 := Aside0.mk S
  have hgh := S.hn
  have hgh2 := Ne.symm S.hn
  obtain ⟨nb, -, hk1, hn1, hn2⟩ := char_ok hc
  have hsk1 : st ≤ k1 := by omega
  have HSK := Aside0.mk hsk1
  have HST := Aside0.mk hst
  have HAL := Aside0.mk hal
  have HPR := Aside0.mk S.sv.rng
  have HL : Aside0 (otherL (resolveL (rowsB b)) p ne k t = openL p k1 t) := ⟨by unfold otherL; rw [hc, thenF_ok]; show othL (resolveL (rowsB b)) p ne 40 k1 t = _; unfold othL; rw [if_neg (by decide), if_neg (fun q => q h00), if_neg (by decide), if_neg (by decide), if_pos rfl]⟩
  have HC := Aside0.mk hc
  subst h00
  clear S hst hk hc hk1 hn1 hn2 hsk1 hal
  go_enter Tryz.func53, Tryz.ntmps53
  go_wp2_with fail
  refine (sChar HS0.out hkl).mono ?_
  intro e w1 hr
  rw [HC.out] at hr
  obtain ⟨rfl, hS⟩ := hr
  have HS1 := Aside0.mk hS
  clear hS
  have fc1_0 := HS1.out.cell 0 _ rfl
  have fr1_0 := HS1.out.free 0
  have fc1_1 := HS1.out.cell 1 _ rfl
  have fr1_1 := HS1.out.free 1
  have fc1_2 := HS1.out.cell 2 _ rfl
  have fr1_2 := HS1.out.free 2
  have ce1_0 := HS1.out.nest
  go_wp2_with fail
  refine (open_any HS1.out HST.out HSK.out).mono ?_
  intro e w2 hr
  obtain ⟨X, hX⟩ : ∃ X, openL p k1 t = X := ⟨_, rfl⟩
  rw [hX] at hr
  rw [hX] at HL
  clear hX
  cases X with
  | error x =>
    obtain ⟨rfl, hB⟩ := hr
    have HBE := Aside0.mk hB
    clear hB
    go_wp2
    rw [HL.out]
    exact ⟨rfl, rfl, HBE.out⟩
  | ok x =>
    obtain ⟨rfl, hS⟩ := hr
    have HS2 := Aside0.mk hS
    clear hS
    go_wp2
    go_end0
    rw [HL.out]
    exact ⟨rfl, HS2.out⟩
set_option maxHeartbeats 8000000 in
set_option maxRecDepth 100000 in
theorem oth_out_close (b : ByteArray) (hal : AliasIs b) (S : St W0 m base g h A c p st ne t k w) (hst : t.st = st) (hk : st ≤ k) (hkl : k < p.length) (k1 : Nat) (hc : charL p k = .ok (41, k1)) (h00 : ne = 0) :
    Calls Tryz.prog 53 #[.pointer (some ⟨g, 0, none⟩), .pointer (some ⟨h, 0, none⟩)] w (RT W0 g h (fun t k w' => St W0 m base g h A c p st ne t k w') (otherL (resolveL (rowsB b)) p ne k t)) := by
  have HS0 := Aside0.mk S
  have hgh := S.hn
  have hgh2 := Ne.symm S.hn
  obtain ⟨nb, -, hk1, hn1, hn2⟩ := char_ok hc
  have hsk1 : st ≤ k1 := by omega
  have HSK := Aside0.mk hsk1
  have HST := Aside0.mk hst
  have HAL := Aside0.mk hal
  have HPR := Aside0.mk S.sv.rng
  have HL : Aside0 (otherL (resolveL (rowsB b)) p ne k t = .ok ({ t with kind := 4 }, k1)) := ⟨by unfold otherL; rw [hc, thenF_ok]; show othL (resolveL (rowsB b)) p ne 41 k1 t = _; unfold othL; rw [if_neg (by decide), if_neg (fun q => q h00), if_neg (by decide), if_neg (by decide), if_neg (by decide), if_pos rfl]⟩
  have HC := Aside0.mk hc
  subst h00
  clear S hst hk hc hk1 hn1 hn2 hsk1 hal
  go_enter Tryz.func53, Tryz.ntmps53
  go_wp2_with fail
  refine (sChar HS0.out hkl).mono ?_
  intro e w1 hr
  rw [HC.out] at hr
  obtain ⟨rfl, hS⟩ := hr
  have HS1 := Aside0.mk hS
  clear hS
  have fc1_0 := HS1.out.cell 0 _ rfl
  have fr1_0 := HS1.out.free 0
  have fc1_1 := HS1.out.cell 1 _ rfl
  have fr1_1 := HS1.out.free 1
  have fc1_2 := HS1.out.cell 2 _ rfl
  have fr1_2 := HS1.out.free 2
  have ce1_0 := HS1.out.nest
  go_wp2
  go_end0
  rw [HL.out]
  exact ⟨rfl, (HS1.out.setT 0 _ { t with kind := 4 } rfl)⟩
set_option maxHeartbeats 8000000 in
set_option maxRecDepth 100000 in
theorem oth_out_hat (b : ByteArray) (hal : AliasIs b) (S : St W0 m base g h A c p st ne t k w) (hst : t.st = st) (hk : st ≤ k) (hkl : k < p.length) (k1 : Nat) (hc : charL p k = .ok (94, k1)) (h00 : ne = 0) :
    Calls Tryz.prog 53 #[.pointer (some ⟨g, 0, none⟩), .pointer (some ⟨h, 0, none⟩)] w (RT W0 g h (fun t k w' => St W0 m base g h A c p st ne t k w') (otherL (resolveL (rowsB b)) p ne k t)) := by
  have HS0 := Aside0.mk S
  have hgh := S.hn
  have hgh2 := Ne.symm S.hn
  obtain ⟨nb, -, hk1, hn1, hn2⟩ := char_ok hc
  have hsk1 : st ≤ k1 := by omega
  have HSK := Aside0.mk hsk1
  have HST := Aside0.mk hst
  have HAL := Aside0.mk hal
  have HPR := Aside0.mk S.sv.rng
  have HL : Aside0 (otherL (resolveL (rowsB b)) p ne k t = .ok ({ t with kind := 7, mode := 1 }, k1)) := ⟨by unfold otherL; rw [hc, thenF_ok]; show othL (resolveL (rowsB b)) p ne 94 k1 t = _; unfold othL; rw [if_neg (by decide), if_neg (fun q => q h00), if_neg (by decide), if_neg (by decide), if_neg (by decide), if_neg (by decide), if_pos rfl]⟩
  have HC := Aside0.mk hc
  subst h00
  clear S hst hk hc hk1 hn1 hn2 hsk1 hal
  go_enter Tryz.func53, Tryz.ntmps53
  go_wp2_with fail
  refine (sChar HS0.out hkl).mono ?_
  intro e w1 hr
  rw [HC.out] at hr
  obtain ⟨rfl, hS⟩ := hr
  have HS1 := Aside0.mk hS
  clear hS
  have fc1_0 := HS1.out.cell 0 _ rfl
  have fr1_0 := HS1.out.free 0
  have fc1_1 := HS1.out.cell 1 _ rfl
  have fr1_1 := HS1.out.free 1
  have fc1_2 := HS1.out.cell 2 _ rfl
  have fr1_2 := HS1.out.free 2
  have ce1_0 := HS1.out.nest
  go_wp2
  go_end0
  rw [HL.out]
  exact ⟨rfl, ((HS1.out.setT 0 _ { t with kind := 7 } rfl).setT 1 _ { t with kind := 7, mode := 1 } rfl)⟩
set_option maxHeartbeats 8000000 in
set_option maxRecDepth 100000 in
theorem oth_out_dollar (b : ByteArray) (hal : AliasIs b) (S : St W0 m base g h A c p st ne t k w) (hst : t.st = st) (hk : st ≤ k) (hkl : k < p.length) (k1 : Nat) (hc : charL p k = .ok (36, k1)) (h00 : ne = 0) :
    Calls Tryz.prog 53 #[.pointer (some ⟨g, 0, none⟩), .pointer (some ⟨h, 0, none⟩)] w (RT W0 g h (fun t k w' => St W0 m base g h A c p st ne t k w') (otherL (resolveL (rowsB b)) p ne k t)) := by
  have HS0 := Aside0.mk S
  have hgh := S.hn
  have hgh2 := Ne.symm S.hn
  obtain ⟨nb, -, hk1, hn1, hn2⟩ := char_ok hc
  have hsk1 : st ≤ k1 := by omega
  have HSK := Aside0.mk hsk1
  have HST := Aside0.mk hst
  have HAL := Aside0.mk hal
  have HPR := Aside0.mk S.sv.rng
  have HL : Aside0 (otherL (resolveL (rowsB b)) p ne k t = .ok ({ t with kind := 7, mode := 2 }, k1)) := ⟨by unfold otherL; rw [hc, thenF_ok]; show othL (resolveL (rowsB b)) p ne 36 k1 t = _; unfold othL; rw [if_neg (by decide), if_neg (fun q => q h00), if_neg (by decide), if_neg (by decide), if_neg (by decide), if_neg (by decide), if_neg (by decide), if_pos rfl]⟩
  have HC := Aside0.mk hc
  subst h00
  clear S hst hk hc hk1 hn1 hn2 hsk1 hal
  go_enter Tryz.func53, Tryz.ntmps53
  go_wp2_with fail
  refine (sChar HS0.out hkl).mono ?_
  intro e w1 hr
  rw [HC.out] at hr
  obtain ⟨rfl, hS⟩ := hr
  have HS1 := Aside0.mk hS
  clear hS
  have fc1_0 := HS1.out.cell 0 _ rfl
  have fr1_0 := HS1.out.free 0
  have fc1_1 := HS1.out.cell 1 _ rfl
  have fr1_1 := HS1.out.free 1
  have fc1_2 := HS1.out.cell 2 _ rfl
  have fr1_2 := HS1.out.free 2
  have ce1_0 := HS1.out.nest
  go_wp2
  go_end0
  rw [HL.out]
  exact ⟨rfl, ((HS1.out.setT 0 _ { t with kind := 7 } rfl).setT 1 _ { t with kind := 7, mode := 2 } rfl)⟩
set_option maxHeartbeats 8000000 in
set_option maxRecDepth 100000 in
theorem oth_out_star (b : ByteArray) (hal : AliasIs b) (S : St W0 m base g h A c p st ne t k w) (hst : t.st = st) (hk : st ≤ k) (hkl : k < p.length) (k1 : Nat) (hc : charL p k = .ok (42, k1)) (h00 : ne = 0) :
    Calls Tryz.prog 53 #[.pointer (some ⟨g, 0, none⟩), .pointer (some ⟨h, 0, none⟩)] w (RT W0 g h (fun t k w' => St W0 m base g h A c p st ne t k w') (otherL (resolveL (rowsB b)) p ne k t)) := by
  have HS0 := Aside0.mk S
  have hgh := S.hn
  have hgh2 := Ne.symm S.hn
  obtain ⟨nb, -, hk1, hn1, hn2⟩ := char_ok hc
  have hsk1 : st ≤ k1 := by omega
  have HSK := Aside0.mk hsk1
  have HST := Aside0.mk hst
  have HAL := Aside0.mk hal
  have HPR := Aside0.mk S.sv.rng
  have HL : Aside0 (otherL (resolveL (rowsB b)) p ne k t = repeatL p k1 t 42) := ⟨by unfold otherL; rw [hc, thenF_ok]; show othL (resolveL (rowsB b)) p ne 42 k1 t = _; unfold othL; rw [if_neg (by decide), if_neg (fun q => q h00), if_neg (by decide), if_neg (by decide), if_neg (by decide), if_neg (by decide), if_neg (by decide), if_neg (by decide), if_pos (by decide)]⟩
  have HC := Aside0.mk hc
  subst h00
  clear S hst hk hc hk1 hn1 hn2 hsk1 hal
  go_enter Tryz.func53, Tryz.ntmps53
  go_wp2_with fail
  refine (sChar HS0.out hkl).mono ?_
  intro e w1 hr
  rw [HC.out] at hr
  obtain ⟨rfl, hS⟩ := hr
  have HS1 := Aside0.mk hS
  clear hS
  have fc1_0 := HS1.out.cell 0 _ rfl
  have fr1_0 := HS1.out.free 0
  have fc1_1 := HS1.out.cell 1 _ rfl
  have fr1_1 := HS1.out.free 1
  have fc1_2 := HS1.out.cell 2 _ rfl
  have fr1_2 := HS1.out.free 2
  have ce1_0 := HS1.out.nest
  go_wp2_with fail
  refine (repeat_any HS1.out HST.out HSK.out 42).mono ?_
  intro e w2 hr
  obtain ⟨X, hX⟩ : ∃ X, repeatL p k1 t 42 = X := ⟨_, rfl⟩
  rw [hX] at hr
  rw [hX] at HL
  clear hX
  cases X with
  | error x =>
    obtain ⟨rfl, hB⟩ := hr
    have HBE := Aside0.mk hB
    clear hB
    go_wp2
    rw [HL.out]
    exact ⟨rfl, rfl, HBE.out⟩
  | ok x =>
    obtain ⟨rfl, hS⟩ := hr
    have HS2 := Aside0.mk hS
    clear hS
    go_wp2
    go_end0
    rw [HL.out]
    exact ⟨rfl, HS2.out⟩
set_option maxHeartbeats 8000000 in
set_option maxRecDepth 100000 in
theorem oth_out_plus (b : ByteArray) (hal : AliasIs b) (S : St W0 m base g h A c p st ne t k w) (hst : t.st = st) (hk : st ≤ k) (hkl : k < p.length) (k1 : Nat) (hc : charL p k = .ok (43, k1)) (h00 : ne = 0) :
    Calls Tryz.prog 53 #[.pointer (some ⟨g, 0, none⟩), .pointer (some ⟨h, 0, none⟩)] w (RT W0 g h (fun t k w' => St W0 m base g h A c p st ne t k w') (otherL (resolveL (rowsB b)) p ne k t)) := by
  have HS0 := Aside0.mk S
  have hgh := S.hn
  have hgh2 := Ne.symm S.hn
  obtain ⟨nb, -, hk1, hn1, hn2⟩ := char_ok hc
  have hsk1 : st ≤ k1 := by omega
  have HSK := Aside0.mk hsk1
  have HST := Aside0.mk hst
  have HAL := Aside0.mk hal
  have HPR := Aside0.mk S.sv.rng
  have HL : Aside0 (otherL (resolveL (rowsB b)) p ne k t = repeatL p k1 t 43) := ⟨by unfold otherL; rw [hc, thenF_ok]; show othL (resolveL (rowsB b)) p ne 43 k1 t = _; unfold othL; rw [if_neg (by decide), if_neg (fun q => q h00), if_neg (by decide), if_neg (by decide), if_neg (by decide), if_neg (by decide), if_neg (by decide), if_neg (by decide), if_pos (by decide)]⟩
  have HC := Aside0.mk hc
  subst h00
  clear S hst hk hc hk1 hn1 hn2 hsk1 hal
  go_enter Tryz.func53, Tryz.ntmps53
  go_wp2_with fail
  refine (sChar HS0.out hkl).mono ?_
  intro e w1 hr
  rw [HC.out] at hr
  obtain ⟨rfl, hS⟩ := hr
  have HS1 := Aside0.mk hS
  clear hS
  have fc1_0 := HS1.out.cell 0 _ rfl
  have fr1_0 := HS1.out.free 0
  have fc1_1 := HS1.out.cell 1 _ rfl
  have fr1_1 := HS1.out.free 1
  have fc1_2 := HS1.out.cell 2 _ rfl
  have fr1_2 := HS1.out.free 2
  have ce1_0 := HS1.out.nest
  go_wp2_with fail
  refine (repeat_any HS1.out HST.out HSK.out 43).mono ?_
  intro e w2 hr
  obtain ⟨X, hX⟩ : ∃ X, repeatL p k1 t 43 = X := ⟨_, rfl⟩
  rw [hX] at hr
  rw [hX] at HL
  clear hX
  cases X with
  | error x =>
    obtain ⟨rfl, hB⟩ := hr
    have HBE := Aside0.mk hB
    clear hB
    go_wp2
    rw [HL.out]
    exact ⟨rfl, rfl, HBE.out⟩
  | ok x =>
    obtain ⟨rfl, hS⟩ := hr
    have HS2 := Aside0.mk hS
    clear hS
    go_wp2
    go_end0
    rw [HL.out]
    exact ⟨rfl, HS2.out⟩
set_option maxHeartbeats 8000000 in
set_option maxRecDepth 100000 in
theorem oth_out_ask (b : ByteArray) (hal : AliasIs b) (S : St W0 m base g h A c p st ne t k w) (hst : t.st = st) (hk : st ≤ k) (hkl : k < p.length) (k1 : Nat) (hc : charL p k = .ok (63, k1)) (h00 : ne = 0) :
    Calls Tryz.prog 53 #[.pointer (some ⟨g, 0, none⟩), .pointer (some ⟨h, 0, none⟩)] w (RT W0 g h (fun t k w' => St W0 m base g h A c p st ne t k w') (otherL (resolveL (rowsB b)) p ne k t)) := by
  have HS0 := Aside0.mk S
  have hgh := S.hn
  have hgh2 := Ne.symm S.hn
  obtain ⟨nb, -, hk1, hn1, hn2⟩ := char_ok hc
  have hsk1 : st ≤ k1 := by omega
  have HSK := Aside0.mk hsk1
  have HST := Aside0.mk hst
  have HAL := Aside0.mk hal
  have HPR := Aside0.mk S.sv.rng
  have HL : Aside0 (otherL (resolveL (rowsB b)) p ne k t = repeatL p k1 t 63) := ⟨by unfold otherL; rw [hc, thenF_ok]; show othL (resolveL (rowsB b)) p ne 63 k1 t = _; unfold othL; rw [if_neg (by decide), if_neg (fun q => q h00), if_neg (by decide), if_neg (by decide), if_neg (by decide), if_neg (by decide), if_neg (by decide), if_neg (by decide), if_pos (by decide)]⟩
  have HC := Aside0.mk hc
  subst h00
  clear S hst hk hc hk1 hn1 hn2 hsk1 hal
  go_enter Tryz.func53, Tryz.ntmps53
  go_wp2_with fail
  refine (sChar HS0.out hkl).mono ?_
  intro e w1 hr
  rw [HC.out] at hr
  obtain ⟨rfl, hS⟩ := hr
  have HS1 := Aside0.mk hS
  clear hS
  have fc1_0 := HS1.out.cell 0 _ rfl
  have fr1_0 := HS1.out.free 0
  have fc1_1 := HS1.out.cell 1 _ rfl
  have fr1_1 := HS1.out.free 1
  have fc1_2 := HS1.out.cell 2 _ rfl
  have fr1_2 := HS1.out.free 2
  have ce1_0 := HS1.out.nest
  go_wp2_with fail
  refine (repeat_any HS1.out HST.out HSK.out 63).mono ?_
  intro e w2 hr
  obtain ⟨X, hX⟩ : ∃ X, repeatL p k1 t 63 = X := ⟨_, rfl⟩
  rw [hX] at hr
  rw [hX] at HL
  clear hX
  cases X with
  | error x =>
    obtain ⟨rfl, hB⟩ := hr
    have HBE := Aside0.mk hB
    clear hB
    go_wp2
    rw [HL.out]
    exact ⟨rfl, rfl, HBE.out⟩
  | ok x =>
    obtain ⟨rfl, hS⟩ := hr
    have HS2 := Aside0.mk hS
    clear hS
    go_wp2
    go_end0
    rw [HL.out]
    exact ⟨rfl, HS2.out⟩
set_option maxHeartbeats 8000000 in
set_option maxRecDepth 100000 in
theorem oth_out_brace (b : ByteArray) (hal : AliasIs b) (S : St W0 m base g h A c p st ne t k w) (hst : t.st = st) (hk : st ≤ k) (hkl : k < p.length) (k1 : Nat) (hc : charL p k = .ok (123, k1)) (h00 : ne = 0) :
    Calls Tryz.prog 53 #[.pointer (some ⟨g, 0, none⟩), .pointer (some ⟨h, 0, none⟩)] w (RT W0 g h (fun t k w' => St W0 m base g h A c p st ne t k w') (otherL (resolveL (rowsB b)) p ne k t)) := by
  have HS0 := Aside0.mk S
  have hgh := S.hn
  have hgh2 := Ne.symm S.hn
  obtain ⟨nb, -, hk1, hn1, hn2⟩ := char_ok hc
  have hsk1 : st ≤ k1 := by omega
  have HSK := Aside0.mk hsk1
  have HST := Aside0.mk hst
  have HAL := Aside0.mk hal
  have HPR := Aside0.mk S.sv.rng
  have HL : Aside0 (otherL (resolveL (rowsB b)) p ne k t = repeatL p k1 t 123) := ⟨by unfold otherL; rw [hc, thenF_ok]; show othL (resolveL (rowsB b)) p ne 123 k1 t = _; unfold othL; rw [if_neg (by decide), if_neg (fun q => q h00), if_neg (by decide), if_neg (by decide), if_neg (by decide), if_neg (by decide), if_neg (by decide), if_neg (by decide), if_pos (by decide)]⟩
  have HC := Aside0.mk hc
  subst h00
  clear S hst hk hc hk1 hn1 hn2 hsk1 hal
  go_enter Tryz.func53, Tryz.ntmps53
  go_wp2_with fail
  refine (sChar HS0.out hkl).mono ?_
  intro e w1 hr
  rw [HC.out] at hr
  obtain ⟨rfl, hS⟩ := hr
  have HS1 := Aside0.mk hS
  clear hS
  have fc1_0 := HS1.out.cell 0 _ rfl
  have fr1_0 := HS1.out.free 0
  have fc1_1 := HS1.out.cell 1 _ rfl
  have fr1_1 := HS1.out.free 1
  have fc1_2 := HS1.out.cell 2 _ rfl
  have fr1_2 := HS1.out.free 2
  have ce1_0 := HS1.out.nest
  go_wp2_with fail
  refine (repeat_any HS1.out HST.out HSK.out 123).mono ?_
  intro e w2 hr
  obtain ⟨X, hX⟩ : ∃ X, repeatL p k1 t 123 = X := ⟨_, rfl⟩
  rw [hX] at hr
  rw [hX] at HL
  clear hX
  cases X with
  | error x =>
    obtain ⟨rfl, hB⟩ := hr
    have HBE := Aside0.mk hB
    clear hB
    go_wp2
    rw [HL.out]
    exact ⟨rfl, rfl, HBE.out⟩
  | ok x =>
    obtain ⟨rfl, hS⟩ := hr
    have HS2 := Aside0.mk hS
    clear hS
    go_wp2
    go_end0
    rw [HL.out]
    exact ⟨rfl, HS2.out⟩
set_option maxHeartbeats 8000000 in
set_option maxRecDepth 100000 in
theorem oth_out_char (b : ByteArray) (hal : AliasIs b) (S : St W0 m base g h A c p st ne t k w) (hst : t.st = st) (hk : st ≤ k) (hkl : k < p.length) (ch : Int) (k1 : Nat) (hc : charL p k = .ok (ch, k1)) (n92 : ch ≠ 92) (n46 : ch ≠ 46) (n124 : ch ≠ 124) (n40 : ch ≠ 40) (n41 : ch ≠ 41) (n94 : ch ≠ 94) (n36 : ch ≠ 36) (n42 : ch ≠ 42) (n43 : ch ≠ 43) (n63 : ch ≠ 63) (n123 : ch ≠ 123) (h00 : ne = 0) :
    Calls Tryz.prog 53 #[.pointer (some ⟨g, 0, none⟩), .pointer (some ⟨h, 0, none⟩)] w (RT W0 g h (fun t k w' => St W0 m base g h A c p st ne t k w') (otherL (resolveL (rowsB b)) p ne k t)) := by
  have HS0 := Aside0.mk S
  have hgh := S.hn
  have hgh2 := Ne.symm S.hn
  obtain ⟨nb, -, hk1, hn1, hn2⟩ := char_ok hc
  have hsk1 : st ≤ k1 := by omega
  have HSK := Aside0.mk hsk1
  have HST := Aside0.mk hst
  have HAL := Aside0.mk hal
  have HPR := Aside0.mk S.sv.rng
  have HL : Aside0 (otherL (resolveL (rowsB b)) p ne k t = .ok ({ t with kind := 1, a := ch }, k1)) := ⟨by unfold otherL; rw [hc, thenF_ok]; show othL (resolveL (rowsB b)) p ne ch k1 t = _; unfold othL; rw [if_neg n92, if_neg (fun q => q h00), if_neg n46, if_neg n124, if_neg n40, if_neg n41, if_neg n94, if_neg n36, if_neg (fun q => by rcases q with q | q | q | q; exact n42 q; exact n43 q; exact n63 q; exact n123 q)]⟩
  have HC := Aside0.mk hc
  have e92 : (ch == 92) = false := by rw [beq_eq_false_iff_ne]; exact n92
  have f92 : (92 == ch) = false := by rw [beq_eq_false_iff_ne]; exact fun e => n92 e.symm
  have e46 : (ch == 46) = false := by rw [beq_eq_false_iff_ne]; exact n46
  have f46 : (46 == ch) = false := by rw [beq_eq_false_iff_ne]; exact fun e => n46 e.symm
  have e124 : (ch == 124) = false := by rw [beq_eq_false_iff_ne]; exact n124
  have f124 : (124 == ch) = false := by rw [beq_eq_false_iff_ne]; exact fun e => n124 e.symm
  have e40 : (ch == 40) = false := by rw [beq_eq_false_iff_ne]; exact n40
  have f40 : (40 == ch) = false := by rw [beq_eq_false_iff_ne]; exact fun e => n40 e.symm
  have e41 : (ch == 41) = false := by rw [beq_eq_false_iff_ne]; exact n41
  have f41 : (41 == ch) = false := by rw [beq_eq_false_iff_ne]; exact fun e => n41 e.symm
  have e94 : (ch == 94) = false := by rw [beq_eq_false_iff_ne]; exact n94
  have f94 : (94 == ch) = false := by rw [beq_eq_false_iff_ne]; exact fun e => n94 e.symm
  have e36 : (ch == 36) = false := by rw [beq_eq_false_iff_ne]; exact n36
  have f36 : (36 == ch) = false := by rw [beq_eq_false_iff_ne]; exact fun e => n36 e.symm
  have e42 : (ch == 42) = false := by rw [beq_eq_false_iff_ne]; exact n42
  have f42 : (42 == ch) = false := by rw [beq_eq_false_iff_ne]; exact fun e => n42 e.symm
  have e43 : (ch == 43) = false := by rw [beq_eq_false_iff_ne]; exact n43
  have f43 : (43 == ch) = false := by rw [beq_eq_false_iff_ne]; exact fun e => n43 e.symm
  have e63 : (ch == 63) = false := by rw [beq_eq_false_iff_ne]; exact n63
  have f63 : (63 == ch) = false := by rw [beq_eq_false_iff_ne]; exact fun e => n63 e.symm
  have e123 : (ch == 123) = false := by rw [beq_eq_false_iff_ne]; exact n123
  have f123 : (123 == ch) = false := by rw [beq_eq_false_iff_ne]; exact fun e => n123 e.symm
  subst h00
  clear S hst hk hc hk1 hn1 hn2 hsk1 hal n92 n46 n124 n40 n41 n94 n36 n42 n43 n63 n123
  go_enter Tryz.func53, Tryz.ntmps53
  go_wp2_with fail
  refine (sChar HS0.out hkl).mono ?_
  intro e w1 hr
  rw [HC.out] at hr
  obtain ⟨rfl, hS⟩ := hr
  have HS1 := Aside0.mk hS
  clear hS
  have fc1_0 := HS1.out.cell 0 _ rfl
  have fr1_0 := HS1.out.free 0
  have fc1_1 := HS1.out.cell 1 _ rfl
  have fr1_1 := HS1.out.free 1
  have fc1_2 := HS1.out.cell 2 _ rfl
  have fr1_2 := HS1.out.free 2
  have ce1_0 := HS1.out.nest
  go_wp2
  go_end0
  rw [HL.out]
  exact ⟨rfl, ((HS1.out.setT 0 _ { t with kind := 1 } rfl).setT 2 _ { t with kind := 1, a := ch } rfl)⟩
theorem other_any (b : ByteArray) (hal : AliasIs b) (S : St W0 m base g h A c p st ne t k w) (hst : t.st = st) (hk : st ≤ k) (hkl : k < p.length) :
    Calls Tryz.prog 53 #[.pointer (some ⟨g, 0, none⟩), .pointer (some ⟨h, 0, none⟩)] w (RT W0 g h (fun t k w' => St W0 m base g h A c p st ne t k w') (otherL (resolveL (rowsB b)) p ne k t)) := by
  cases hc : charL p k with
  | error x => exact oth_bytes b hal S hst hk hkl x hc
  | ok a =>
    obtain ⟨ch, k1⟩ := a
    by_cases n92 : ch = 92
    · subst n92; exact oth_esc b hal S hst hk hkl k1 hc
    by_cases h00 : ne = 0
    · by_cases n46 : ch = 46
      · subst n46; exact oth_out_dot b hal S hst hk hkl k1 hc h00
      by_cases n124 : ch = 124
      · subst n124; exact oth_out_bar b hal S hst hk hkl k1 hc h00
      by_cases n40 : ch = 40
      · subst n40; exact oth_out_par b hal S hst hk hkl k1 hc h00
      by_cases n41 : ch = 41
      · subst n41; exact oth_out_close b hal S hst hk hkl k1 hc h00
      by_cases n94 : ch = 94
      · subst n94; exact oth_out_hat b hal S hst hk hkl k1 hc h00
      by_cases n36 : ch = 36
      · subst n36; exact oth_out_dollar b hal S hst hk hkl k1 hc h00
      by_cases n42 : ch = 42
      · subst n42; exact oth_out_star b hal S hst hk hkl k1 hc h00
      by_cases n43 : ch = 43
      · subst n43; exact oth_out_plus b hal S hst hk hkl k1 hc h00
      by_cases n63 : ch = 63
      · subst n63; exact oth_out_ask b hal S hst hk hkl k1 hc h00
      by_cases n123 : ch = 123
      · subst n123; exact oth_out_brace b hal S hst hk hkl k1 hc h00
      exact oth_out_char b hal S hst hk hkl ch k1 hc n92 n46 n124 n40 n41 n94 n36 n42 n43 n63 n123 h00
    · exact oth_in b hal S hst hk hkl ch k1 hc n92 h00
end

end Go.Proofs.YtkipjalfgdfaiaaGreatDoor
namespace Go.Proofs.YtkipjalfgdfaiaaGreatDoor
set_option linter.unusedVariables false
set_option linter.unusedSimpArgs false
open Go.RowKit Go.Proofs.YtkipjalfgdfaiaaGreatDoorW.PrintWords Go.Proofs.YtkipjalfgdfaiaaGreatDoorW.PrintLast Go.Proofs.YtkipjalfgdfaiaaGreatDoorW.PrintMore Go.Proofs.YtkipjalfgdfaiaaGreatDoor.PTk

/-- A token that just begins. -/
def tk0 (k : Nat) : Tk := { kind := 0, st := k }
theorem results_one {P : Program} {fn : Func} {p : Tmp} {ty : TypeId} (h : fn.results = #[.cell p ty]) (tmps : Array Value) (w : World) (g : Nat) (t : TypeId) (cs : Array Value) (fr : Nat × Nat) (d : TypeDesc)
    (hp : tmps.getD p undef = .pointer (some ⟨g, 0, none⟩)) (hg : w.heap[g]? = some (.cells cs t fr))
    (hu : P.underlying ty = some d) (hd : (match d with | .struct _ | .array _ _ => true | _ => false) = true) (hi : (P.info? ty).map (·.size) = some cs.size) :
    (results fn tmps).run P w = .ok (.agg cs) w := by
  have hp' : tmps[p]?.getD undef = .pointer (some ⟨g, 0, none⟩) := by simpa using hp
  simp [results, h, hp', asAddr, run_loadVar_row w g t ty cs fr d hg hu hd hi]
/-- What next hands back. -/
def RNx (w : World) (g : Nat) (vp : Value) (k : Nat) : Fl (Tk × Nat × Nat) → Ending → World → Prop
  | .ok a, e, w' => e = .returned (.agg (tkC a.1)) ∧ ScP w' g vp a.2.1 k a.2.2 ∧ But (· = g) w w'
  | .error x, e, w' => e = dies x.1 x.2 ∧ But (· = g) w w'
theorem But.shrink {w w' : World} {g h : Nat} (hb : But (Two g h) w w') (hh : w.heap.size ≤ h) : But (· = g) w w' :=
  ⟨hb.os, hb.tape, hb.output, hb.size, fun b hbl hn => hb.block b hbl (fun e => by rcases e with e | e; exact hn e; omega)⟩
theorem set_tk {w : World} {hr : Nat} {t : Tk} (hz : w.heap[hr]? = some (.cells #[.int .i64 0, .int .i64 0, .int .i64 0, .int .i64 0, .string ⟨#[]⟩, .bool false, .int .i64 0, .int .i64 0] 41 (0, 0))) :
    ((((((((w.setCell ⟨hr, 0, none⟩ (.int .i64 t.kind)).setCell ⟨hr, 1, none⟩ (.int .i64 t.mode)).setCell ⟨hr, 2, none⟩ (.int .i64 t.a)).setCell ⟨hr, 3, none⟩ (.int .i64 t.b)).setCell ⟨hr, 4, none⟩ (.string t.name)).setCell ⟨hr, 5, none⟩ (.bool t.neg)).setCell ⟨hr, 6, none⟩ (.int .i64 (t.st : Int))).setCell ⟨hr, 7, none⟩ (.int .i64 (t.en : Int))).heap[hr]? = some (.cells (tkC t) 41 (0, 0)) := by
  have h0 := blk_put hz 0 (.int .i64 t.kind) (cs' := #[.int .i64 t.kind, .int .i64 0, .int .i64 0, .int .i64 0, .string ⟨#[]⟩, .bool false, .int .i64 0, .int .i64 0]) rfl
  have h1 := blk_put h0 1 (.int .i64 t.mode) (cs' := #[.int .i64 t.kind, .int .i64 t.mode, .int .i64 0, .int .i64 0, .string ⟨#[]⟩, .bool false, .int .i64 0, .int .i64 0]) rfl
  have h2 := blk_put h1 2 (.int .i64 t.a) (cs' := #[.int .i64 t.kind, .int .i64 t.mode, .int .i64 t.a, .int .i64 0, .string ⟨#[]⟩, .bool false, .int .i64 0, .int .i64 0]) rfl
  have h3 := blk_put h2 3 (.int .i64 t.b) (cs' := #[.int .i64 t.kind, .int .i64 t.mode, .int .i64 t.a, .int .i64 t.b, .string ⟨#[]⟩, .bool false, .int .i64 0, .int .i64 0]) rfl
  have h4 := blk_put h3 4 (.string t.name) (cs' := #[.int .i64 t.kind, .int .i64 t.mode, .int .i64 t.a, .int .i64 t.b, .string t.name, .bool false, .int .i64 0, .int .i64 0]) rfl
  have h5 := blk_put h4 5 (.bool t.neg) (cs' := #[.int .i64 t.kind, .int .i64 t.mode, .int .i64 t.a, .int .i64 t.b, .string t.name, .bool t.neg, .int .i64 0, .int .i64 0]) rfl
  have h6 := blk_put h5 6 (.int .i64 (t.st : Int)) (cs' := #[.int .i64 t.kind, .int .i64 t.mode, .int .i64 t.a, .int .i64 t.b, .string t.name, .bool t.neg, .int .i64 (t.st : Int), .int .i64 0]) rfl
  have h7 := blk_put h6 7 (.int .i64 (t.en : Int)) (cs' := #[.int .i64 t.kind, .int .i64 t.mode, .int .i64 t.a, .int .i64 t.b, .string t.name, .bool t.neg, .int .i64 (t.st : Int), .int .i64 (t.en : Int)]) rfl
  exact h7
theorem but_tk {w : World} {hr : Nat} {t : Tk} : But (· = hr) w ((((((((w.setCell ⟨hr, 0, none⟩ (.int .i64 t.kind)).setCell ⟨hr, 1, none⟩ (.int .i64 t.mode)).setCell ⟨hr, 2, none⟩ (.int .i64 t.a)).setCell ⟨hr, 3, none⟩ (.int .i64 t.b)).setCell ⟨hr, 4, none⟩ (.string t.name)).setCell ⟨hr, 5, none⟩ (.bool t.neg)).setCell ⟨hr, 6, none⟩ (.int .i64 (t.st : Int))).setCell ⟨hr, 7, none⟩ (.int .i64 (t.en : Int))) :=
  (((((((((But.refl (· = hr) w).set hr 0 rfl _).set hr 1 rfl _).set hr 2 rfl _).set hr 3 rfl _).set hr 4 rfl _).set hr 5 rfl _).set hr 6 rfl _).set hr 7 rfl _)
/-- The end of next. -/
theorem next_fin {w w1 : World} {g hr k ne' k' : Nat} {vp : Value} {t : Tk} (hb : But (· = g) w w1) (hS : ScP w1 g vp k' k ne') (hg : g < w.heap.size) (hh : w.heap.size ≤ hr) :
    ScP ((((((((w1.setCell ⟨hr, 0, none⟩ (.int .i64 t.kind)).setCell ⟨hr, 1, none⟩ (.int .i64 t.mode)).setCell ⟨hr, 2, none⟩ (.int .i64 t.a)).setCell ⟨hr, 3, none⟩ (.int .i64 t.b)).setCell ⟨hr, 4, none⟩ (.string t.name)).setCell ⟨hr, 5, none⟩ (.bool t.neg)).setCell ⟨hr, 6, none⟩ (.int .i64 (t.st : Int))).setCell ⟨hr, 7, none⟩ (.int .i64 (t.en : Int))) g vp k' k ne' ∧ But (· = g) w ((((((((w1.setCell ⟨hr, 0, none⟩ (.int .i64 t.kind)).setCell ⟨hr, 1, none⟩ (.int .i64 t.mode)).setCell ⟨hr, 2, none⟩ (.int .i64 t.a)).setCell ⟨hr, 3, none⟩ (.int .i64 t.b)).setCell ⟨hr, 4, none⟩ (.string t.name)).setCell ⟨hr, 5, none⟩ (.bool t.neg)).setCell ⟨hr, 6, none⟩ (.int .i64 (t.st : Int))).setCell ⟨hr, 7, none⟩ (.int .i64 (t.en : Int))) := by
  have h8 := but_tk (w := w1) (hr := hr) (t := t)
  have hl : g < w1.heap.size := Nat.lt_of_lt_of_le hg hb.size
  exact ⟨(h8.block g hl (by omega)).trans hS, ((hb.mono (ex' := Two g hr) fun x e => .inl e).trans (h8.mono fun x e => .inr e)).shrink hh⟩
/-- The end of next: the place behind the token is laid, the token is handed back. -/
theorem next_start {w : World} {m : Int} {base g : Nat} {A : Option Addr} {c : Nat} {p : List Int} {k st ne : Nat} (hV : Sv w base g A c p k st ne) (hvr : Vars base w m) {WB WA : World}
    (hWB : (w.setCell ⟨g, 2, none⟩ (.int .i64 (k : Int))).alloc (.cells #[.int .i64 0, .int .i64 0, .int .i64 0, .int .i64 0, .string ⟨#[]⟩, .bool false, .int .i64 0, .int .i64 0] 41) = WB)
    (hWA : WB.alloc (.cells #[.int .i64 0, .int .i64 0, .int .i64 0, .int .i64 0, .string ⟨#[]⟩, .bool false, .int .i64 (k : Int), .int .i64 0] 41) = WA) :
    St WA m base g (w.heap.size + 1) A c p k ne (tk0 k) k WA ∧ But (· = g) w WA ∧ WA.heap[w.heap.size]? = some (.cells #[.int .i64 0, .int .i64 0, .int .i64 0, .int .i64 0, .string ⟨#[]⟩, .bool false, .int .i64 0, .int .i64 0] 41 (0, 0)) ∧ WB.cell? ⟨g, 1, none⟩ = some (.int .i64 (k : Int)) := by
  have hgl := hV.lt
  have h0 : But (· = g) w (w.setCell ⟨g, 2, none⟩ (.int .i64 (k : Int))) := But.set (ex := (· = g)) (But.refl _ _) g 2 rfl _
  have hs0 : (w.setCell ⟨g, 2, none⟩ (.int .i64 (k : Int))).heap.size = w.heap.size := by simp
  have p0 : ScP (w.setCell ⟨g, 2, none⟩ (.int .i64 (k : Int))) g (.slice A p.length c) k k ne := blk_put hV.sc 2 _ rfl
  have hB1 : Below (w.setCell ⟨g, 2, none⟩ (.int .i64 (k : Int))).heap.size (w.setCell ⟨g, 2, none⟩ (.int .i64 (k : Int))) WB := by rw [← hWB]; exact below_alloc (Below.refl _ _) _
  have hz1 : WB.heap[w.heap.size]? = some (.cells #[.int .i64 0, .int .i64 0, .int .i64 0, .int .i64 0, .string ⟨#[]⟩, .bool false, .int .i64 0, .int .i64 0] 41 (0, 0)) := by
    rw [← hWB]
    have := heap_alloc_new (w.setCell ⟨g, 2, none⟩ (.int .i64 (k : Int))) (.cells #[.int .i64 0, .int .i64 0, .int .i64 0, .int .i64 0, .string ⟨#[]⟩, .bool false, .int .i64 0, .int .i64 0] 41)
    rw [hs0] at this
    exact this
  have hs1 : WB.heap.size = w.heap.size + 1 := by rw [← hWB]; simp
  have hB2 : Below WB.heap.size WB WA := by rw [← hWA]; exact below_alloc (Below.refl _ _) _
  have hz2 : WA.heap[w.heap.size]? = some (.cells #[.int .i64 0, .int .i64 0, .int .i64 0, .int .i64 0, .string ⟨#[]⟩, .bool false, .int .i64 0, .int .i64 0] 41 (0, 0)) := (hB2.block _ (by omega)).trans hz1
  have hk2 : WA.heap[w.heap.size + 1]? = some (.cells (tkC (tk0 k)) 41 (0, 0)) := by
    rw [← hWA]
    have := heap_alloc_new WB (.cells #[.int .i64 0, .int .i64 0, .int .i64 0, .int .i64 0, .string ⟨#[]⟩, .bool false, .int .i64 (k : Int), .int .i64 0] 41)
    rw [hs1] at this
    exact this
  have hB : But (· = g) w WA := (h0.trans (But.of_below hB1)).trans (But.of_below hB2)
  have p2 : ScP WA g (.slice A p.length c) k k ne := ((hB2.block g (by omega)).trans (hB1.block g (by omega))).trans p0
  have hsv : Sv WA base g A c p k k ne := hV.move hB (fun x e => by rw [e]; exact hV.hb) p2 hV.le
  have hbb := hV.hb
  have p1 : ScP WB g (.slice A p.length c) k k ne := (hB1.block g (by omega)).trans p0
  exact ⟨St.start hsv hk2 (hvr.move (hB.below (by omega) fun x hx e => by omega)) (by omega) (by omega), hB, hz2, rowc p1 1 _ rfl⟩
set_option maxHeartbeats 8000000 in
set_option maxRecDepth 100000 in
theorem scanNext_any (b : ByteArray) (hal : AliasIs b) (w : World) (m : Int) (base g : Nat) (A : Option Addr) (c : Nat) (p : List Int) (k st ne : Nat) (hV : Sv w base g A c p k st ne) (hvr : Vars base w m) (hkl : k < p.length) (hne : ne ≤ 4000) :
    Calls Tryz.prog 35 #[.pointer (some ⟨g, 0, none⟩)] w (RNx w g (.slice A p.length c) k (nextL (resolveL (rowsB b)) p ne k)) := by
  have c1 := rowc hV.sc 1 _ rfl
  have c2 := rowc hV.sc 2 _ rfl
  have f2 := blk_frozen hV.sc 2
  have hgl := hV.lt
  obtain ⟨WB, hWB⟩ : ∃ WB, (w.setCell ⟨g, 2, none⟩ (.int .i64 (k : Int))).alloc (.cells #[.int .i64 0, .int .i64 0, .int .i64 0, .int .i64 0, .string ⟨#[]⟩, .bool false, .int .i64 0, .int .i64 0] 41) = WB := ⟨_, rfl⟩
  obtain ⟨WA, hWA⟩ : ∃ WA, WB.alloc (.cells #[.int .i64 0, .int .i64 0, .int .i64 0, .int .i64 0, .string ⟨#[]⟩, .bool false, .int .i64 (k : Int), .int .i64 0] 41) = WA := ⟨_, rfl⟩
  obtain ⟨hS0, hBA, hZA, cB⟩ := next_start hV hvr hWB hWA
  have HS0 := Aside0.mk hS0
  have HBA := Aside0.mk hBA
  have HZA := Aside0.mk hZA
  have HAL := Aside0.mk hal
  have HW := Aside0.mk (within_any hS0 hne)
  have HL : Aside0 (nextL (resolveL (rowsB b)) p ne k = match withinL p ne k (tk0 k) with
    | some a => .ok ({ a.1 with en := a.2.1 }, a.2.1, a.2.2)
    | none => thenF (otherL (resolveL (rowsB b)) p ne k (tk0 k)) fun a => .ok ({ a.1 with en := a.2 }, a.2, ne)) := ⟨rfl⟩
  obtain ⟨X, hX⟩ : ∃ X, withinL p ne k (tk0 k) = X := ⟨_, rfl⟩
  rw [hX] at HL HW
  have hsz : ∀ (t : Tk) (ne' k' : Nat) (W : World), St WA m base g (w.heap.size + 1) A c p k ne' t k' W → W.heap[w.heap.size]? = some (.cells #[.int .i64 0, .int .i64 0, .int .i64 0, .int .i64 0, .string ⟨#[]⟩, .bool false, .int .i64 0, .int .i64 0] 41 (0, 0)) := fun t ne' k' W hS => by
    have h2 : WA.heap.size = w.heap.size + 2 := by rw [← hWA, ← hWB]; simp
    exact (hS.bt.block w.heap.size (by omega) (fun e => by rcases e with e | e <;> omega)).trans hZA
  have HSZ := Aside0.mk hsz
  have hfin : ∀ (t : Tk) (ne' k' : Nat) (W : World), St WA m base g (w.heap.size + 1) A c p k ne' t k' W → But (· = g) w W := fun t ne' k' W hS => ((hBA.mono (ex' := Two g (w.heap.size + 1)) fun x e => .inl e).trans hS.bt).shrink (by omega)
  have HFIN := Aside0.mk hfin
  have hsl : w.heap.size < w.heap.size + 1 := by omega
  cases X with
  | some a =>
    obtain ⟨t1, k1, ne1⟩ := a
    simp only at HL
    clear hS0 hBA hZA hal hX hsz hfin hV hvr cB
    subst hWA
    subst hWB
    go_enter Tryz.func35, Tryz.ntmps35
    go_wp2_with fail
    refine HW.out.mono ?_
    intro e w1 hr
    obtain ⟨rfl, hS⟩ := hr
    simp only at hS
    have HS1 := Aside0.mk hS
    have ca := hS.at_
    have f7 := hS.free 7
    have k0 := hS.cell 0 (.int .i64 t1.kind) rfl
    have k1_ := hS.cell 1 (.int .i64 t1.mode) rfl
    have k2 := hS.cell 2 (.int .i64 t1.a) rfl
    have k3 := hS.cell 3 (.int .i64 t1.b) rfl
    have k4 := hS.cell 4 (.string t1.name) rfl
    have k5 := hS.cell 5 (.bool t1.neg) rfl
    have k6 := hS.cell 6 (.int .i64 (t1.st : Int)) rfl
    have k7 := hS.cell 7 (.int .i64 (t1.en : Int)) rfl
    have hz := HSZ.out _ _ _ _ hS
    have HZ := Aside0.mk hz
    have z0 := rowc hz 0 _ rfl
    have z1 := rowc hz 1 _ rfl
    have z2 := rowc hz 2 _ rfl
    have z3 := rowc hz 3 _ rfl
    have z4 := rowc hz 4 _ rfl
    have z5 := rowc hz 5 _ rfl
    have z6 := rowc hz 6 _ rfl
    have z7 := rowc hz 7 _ rfl
    have y0 := blk_frozen hz 0
    have y1 := blk_frozen hz 1
    have y2 := blk_frozen hz 2
    have y3 := blk_frozen hz 3
    have y4 := blk_frozen hz 4
    have y5 := blk_frozen hz 5
    have y6 := blk_frozen hz 6
    have y7 := blk_frozen hz 7
    clear hS hz c1 c2 f2
    have HF : Aside0 (St _ m base g (w.heap.size + 1) A c p k ne1 { t1 with en := k1 } k1 (w1.setCell ⟨w.heap.size + 1, 7, none⟩ (.int .i64 (k1 : Int)))) := ⟨HS1.out.setT 7 _ { t1 with en := k1 } rfl⟩
    go_wp2
    refine bodyPost_ret (results_one rfl _ _ w.heap.size 41 (tkC { t1 with en := k1 }) (0, 0) _ rfl (set_tk (t := { t1 with en := k1 }) (HSZ.out _ _ _ _ HF.out)) Tryz.underlying41 rfl (by kernel_rfl)) rfl ?_
    rw [HL.out]
    have hfin := next_fin (hr := w.heap.size) (t := { t1 with en := k1 }) (HFIN.out _ _ _ _ HF.out) HF.out.sv.sc hgl (Nat.le_refl _)
    exact ⟨rfl, hfin.1, hfin.2⟩
  | none =>
    simp only at HL
    have HO := Aside0.mk (fun W (hS : St WA m base g (w.heap.size + 1) A c p k ne (tk0 k) k W) => other_any b hal hS rfl (Nat.le_refl _) hkl)
    obtain ⟨Y, hY⟩ : ∃ Y, otherL (resolveL (rowsB b)) p ne k (tk0 k) = Y := ⟨_, rfl⟩
    rw [hY] at HL HO
    cases Y with
    | error x =>
      rw [thenF_err] at HL
      clear hS0 hBA hZA hal hX hsz hfin hV hvr cB hY
      subst hWA
      subst hWB
      go_enter Tryz.func35, Tryz.ntmps35
      go_wp2_with fail
      refine HW.out.mono ?_
      intro e w1 hr
      obtain ⟨rfl, hS⟩ := hr
      have HS1 := Aside0.mk hS
      clear hS c1 c2 f2
      go_wp2_with fail
      refine (HO.out _ HS1.out).mono ?_
      intro e w2 hr
      obtain ⟨rfl, hB⟩ := hr
      have HB := Aside0.mk hB
      clear hB
      go_wp2
      rw [HL.out]
      exact ⟨rfl, rfl, ((HBA.out.mono (ex' := Two g (w.heap.size + 1)) fun x e => .inl e).trans HB.out).shrink (by omega)⟩
    | ok a =>
      obtain ⟨t1, k1⟩ := a
      rw [thenF_ok] at HL
      simp only at HL
      clear hS0 hBA hZA hal hX hsz hfin hV hvr cB hY
      subst hWA
      subst hWB
      go_enter Tryz.func35, Tryz.ntmps35
      go_wp2_with fail
      refine HW.out.mono ?_
      intro e w1 hr
      obtain ⟨rfl, hS⟩ := hr
      have HS1 := Aside0.mk hS
      clear hS c1 c2 f2
      go_wp2_with fail
      refine (HO.out _ HS1.out).mono ?_
      intro e w2 hr
      obtain ⟨rfl, hS⟩ := hr
      simp only at hS
      have HS2 := Aside0.mk hS
      have ca := hS.at_
      have f7 := hS.free 7
      have k0 := hS.cell 0 (.int .i64 t1.kind) rfl
      have k1_ := hS.cell 1 (.int .i64 t1.mode) rfl
      have k2 := hS.cell 2 (.int .i64 t1.a) rfl
      have k3 := hS.cell 3 (.int .i64 t1.b) rfl
      have k4 := hS.cell 4 (.string t1.name) rfl
      have k5 := hS.cell 5 (.bool t1.neg) rfl
      have k6 := hS.cell 6 (.int .i64 (t1.st : Int)) rfl
      have k7 := hS.cell 7 (.int .i64 (t1.en : Int)) rfl
      have hz := HSZ.out _ _ _ _ hS
      have HZ := Aside0.mk hz
      have z0 := rowc hz 0 _ rfl
      have z1 := rowc hz 1 _ rfl
      have z2 := rowc hz 2 _ rfl
      have z3 := rowc hz 3 _ rfl
      have z4 := rowc hz 4 _ rfl
      have z5 := rowc hz 5 _ rfl
      have z6 := rowc hz 6 _ rfl
      have z7 := rowc hz 7 _ rfl
      have y0 := blk_frozen hz 0
      have y1 := blk_frozen hz 1
      have y2 := blk_frozen hz 2
      have y3 := blk_frozen hz 3
      have y4 := blk_frozen hz 4
      have y5 := blk_frozen hz 5
      have y6 := blk_frozen hz 6
      have y7 := blk_frozen hz 7
      clear hS hz
      have HF : Aside0 (St _ m base g (w.heap.size + 1) A c p k ne { t1 with en := k1 } k1 (w2.setCell ⟨w.heap.size + 1, 7, none⟩ (.int .i64 (k1 : Int)))) := ⟨HS2.out.setT 7 _ { t1 with en := k1 } rfl⟩
      go_wp2
      refine bodyPost_ret (results_one rfl _ _ w.heap.size 41 (tkC { t1 with en := k1 }) (0, 0) _ rfl (set_tk (t := { t1 with en := k1 }) (HSZ.out _ _ _ _ HF.out)) Tryz.underlying41 rfl (by kernel_rfl)) rfl ?_
      rw [HL.out]
      have hfin := next_fin (hr := w.heap.size) (t := { t1 with en := k1 }) (HFIN.out _ _ _ _ HF.out) HF.out.sv.sc hgl (Nat.le_refl _)
      exact ⟨rfl, hfin.1, hfin.2⟩

end Go.Proofs.YtkipjalfgdfaiaaGreatDoor
namespace Go.Proofs.YtkipjalfgdfaiaaGreatDoor
set_option linter.unusedVariables false
set_option linter.unusedSimpArgs false
open Go.RowKit Go.Proofs.YtkipjalfgdfaiaaGreatDoorW.PrintWords Go.Proofs.YtkipjalfgdfaiaaGreatDoorW.PrintLast Go.Proofs.YtkipjalfgdfaiaaGreatDoorW.PrintMore Go.Proofs.YtkipjalfgdfaiaaGreatDoor.PTk

set_option maxHeartbeats 4000000 in
set_option maxRecDepth 100000 in
theorem catch_fault (fb : Nat) (x y c a : Int) (older : List PanicEntry) (w : World) (hb : w.heap[fb]? = some (.cells #[.int .i64 x, .int .i64 y] 37 (0, 0))) :
    CallsD Tryz.prog 34 #[.pointer (some ⟨fb, 0, none⟩)] (.panicking ({ v := faultV c a, recovered := false } :: older)) w fun e u' w' =>
      e = .returned (.tuple #[]) ∧ u' = .panicking ({ v := faultV c a, recovered := true } :: older) ∧ w'.heap[fb]? = some (.cells #[.int .i64 c, .int .i64 a] 37 (0, 0)) ∧ But (· = fb) w w' := by
  have c0 := rowc hb 0 _ rfl
  have c1 := rowc hb 1 _ rfl
  have f0 := blk_frozen hb 0
  have f1 := blk_frozen hb 1
  refine callsD_of_wpS Tryz.func34 rfl fun c₀ cs hu => ?_
  have hta : ∀ W : World, (Instr.typeAssert (.iface 37 (.agg #[.int .i64 c, .int .i64 a])) 20 37 true).run Tryz.prog W = .ok (.tuple #[.agg #[.int .i64 c, .int .i64 a], .bool true]) W := fun W => by kernel_rfl
  show Code.wpS _ _ _ { tmps := #[.pointer (some ⟨fb, 0, none⟩), undef, undef, undef, undef, undef, undef, undef, undef, undef], defers := [] } _ _
  apply wpS_seq
  apply wpS_region
  simp [hta, wpOpsS, go_sem, recoverD, hu, Tryz.ntmps34, Exit.thenS, faultV, c0, c1, f0, f1]
  refine wpS_of_wp ?_
  have hb2 : (w.alloc (.cells #[.int .i64 c, .int .i64 a] 37)).heap[fb]? = some (.cells #[.int .i64 x, .int .i64 y] 37 (0, 0)) := ((below_alloc (Below.refl w.heap.size w) _).block fb (by exact (Array.getElem?_eq_some_iff.1 hb).1)).trans hb
  have hn2 : (w.alloc (.cells #[.int .i64 c, .int .i64 a] 37)).heap[w.heap.size]? = some (.cells #[.int .i64 c, .int .i64 a] 37 (0, 0)) := heap_alloc_new _ _
  have hB : But (· = fb) w (w.alloc (.cells #[.int .i64 c, .int .i64 a] 37)) := But.of_below (below_alloc (Below.refl _ _) _)
  obtain ⟨wx, hwx⟩ : ∃ wx, w.alloc (.cells #[.int .i64 c, .int .i64 a] 37) = wx := ⟨_, rfl⟩
  obtain ⟨n, hn⟩ : ∃ n, w.heap.size = n := ⟨_, rfl⟩
  rw [hwx, hn] at hn2
  rw [hwx] at hb2 hB
  rw [hwx, hn]
  have HB := Aside0.mk hB
  have HB2 := Aside0.mk hb2
  have HU := Aside0.mk hu
  have e0 := rowc hb2 0 _ rfl
  have e1 := rowc hb2 1 _ rfl
  have g0 := blk_frozen hb2 0
  have g1 := blk_frozen hb2 1
  have n0 := rowc hn2 0 _ rfl
  have n1 := rowc hn2 1 _ rfl
  clear hb2 hn2 hB hwx hn hta c0 c1 f0 f1 hb hu
  go_wp2
  exact ⟨rfl, _, rfl, .tuple #[], by simp [results, Tryz.results34, go_sem], rfl, rfl, blk_put (blk_put HB2.out 0 _ rfl) 1 _ rfl, But.set (ex := (· = fb)) (But.set (ex := (· = fb)) HB.out fb 0 rfl _) fb 1 rfl _⟩
set_option maxHeartbeats 4000000 in
set_option maxRecDepth 100000 in
theorem catch_none (fb : Nat) (w : World) :
    CallsD Tryz.prog 34 #[.pointer (some ⟨fb, 0, none⟩)] .returning w fun e u' w' =>
      e = .returned (.tuple #[]) ∧ u' = .returning ∧ Below w.heap.size w w' := by
  refine callsD_of_wpS Tryz.func34 rfl fun c₀ cs hu => ?_
  have hta : ∀ W : World, (Instr.typeAssert .nilIface 20 37 true).run Tryz.prog W = .ok (.tuple #[.agg #[.int .i64 0, .int .i64 0], .bool false]) W := fun W => by kernel_rfl
  show Code.wpS _ _ _ { tmps := #[.pointer (some ⟨fb, 0, none⟩), undef, undef, undef, undef, undef, undef, undef, undef, undef], defers := [] } _ _
  apply wpS_seq
  apply wpS_region
  simp [hta, wpOpsS, go_sem, recoverD, hu, Tryz.ntmps34, Exit.thenS]
  refine wpS_of_wp ?_
  have hB : Below w.heap.size w (w.alloc (.cells #[.int .i64 0, .int .i64 0] 37)) := below_alloc (Below.refl _ _) _
  obtain ⟨wx, hwx⟩ : ∃ wx, w.alloc (.cells #[.int .i64 0, .int .i64 0] 37) = wx := ⟨_, rfl⟩
  rw [hwx] at hB
  rw [hwx]
  have HB := Aside0.mk hB
  have HU := Aside0.mk hu
  clear hB hwx hta hu
  go_wp2
  refine ⟨rfl, .returning, ?_, .tuple #[], by simp [results, Tryz.results34, go_sem], rfl, rfl, HB.out⟩
  rw [← HU.out]

end Go.Proofs.YtkipjalfgdfaiaaGreatDoor
namespace Go.Proofs.YtkipjalfgdfaiaaGreatDoor
set_option linter.unusedVariables false
set_option linter.unusedSimpArgs false
open Go.RowKit Go.Proofs.YtkipjalfgdfaiaaGreatDoorW.PrintWords Go.Proofs.YtkipjalfgdfaiaaGreatDoorW.PrintLast Go.Proofs.YtkipjalfgdfaiaaGreatDoorW.PrintMore Go.Proofs.YtkipjalfgdfaiaaGreatDoor.PTk

abbrev kTk : Kd S41 := k41
def tkS (t : Tk) : S41 := ⟨t.kind, t.mode, t.a, t.b, t.name, t.neg, (t.st : Int), (t.en : Int)⟩
theorem infoTk : (Tryz.prog.info? 41).map (fun i => (i.zero, i.size, i.bytes)) = some (some (.agg #[.int .i64 0, .int .i64 0, .int .i64 0, .int .i64 0, .string ⟨#[]⟩, .bool false, .int .i64 0, .int .i64 0]), 8, 72) := by kernel_rfl
theorem scanR_end (res : ByteArray → Int × ByteArray × Int) (p : List Int) (f ne k : Nat) (out : List Tk) (h : ¬ k < p.length) : scanR res p f ne k out = (out, 0, 0) := by
  cases f with
  | zero => rfl
  | succ f => rw [scanR, if_neg h]
theorem within_nest (p : List Int) (ne k : Nat) (t : Tk) (a : Tk × Nat × Nat) (h : withinL p ne k t = some a) : a.2.2 ≤ ne + 1 := by
  unfold withinL at h
  repeat' split at h
  all_goals first | (cases h; simp only; omega) | cases h
theorem next_nest (res : ByteArray → Int × ByteArray × Int) (p : List Int) (ne k : Nat) (a : Tk × Nat × Nat) (h : nextL res p ne k = .ok a) : a.2.2 ≤ ne + 1 := by
  unfold nextL at h
  split at h
  · rename_i x hx
    cases h
    exact within_nest p ne k _ x hx
  · cases ho : otherL res p ne k { kind := 0, st := k } with
    | error x => rw [ho] at h; cases h
    | ok x => rw [ho] at h; cases h; exact Nat.le_succ _
theorem own_far {α : Type} {d : Kd α} {e : Nat} {w w1 : World} {ex : Nat → Prop} {base : Nat} {v : Value} {xs : List α} (h : But ex w w1) (hr : d.R e w base (fun _ => True) v xs) (ho : ∀ k, base ≤ k → ¬ ex k) : d.R e w1 base (fun _ => True) v xs :=
  Kd.R_mono (Kd.R_move (Kd.R_bound hr) (fun k hk => h.block k hk.2.2.1 (ho k hk.2.1))) (fun k hk => trivial)
/-- What Scan hands back. -/
def RScan (w : World) (r : List Tk × Int × Nat) (e : Ending) (w' : World) : Prop :=
  ∃ v, e = .returned (.tuple #[v, .agg #[.int .i64 r.2.1, .int .i64 (r.2.2 : Int)]]) ∧ Own kTk 41 w' w.heap.size v (r.1.map tkS) ∧ Below w.heap.size w w'
set_option maxHeartbeats 16000000 in
set_option maxRecDepth 100000 in
theorem scan_short (b : ByteArray) (hal : AliasIs b) (w : World) (m : Int) (A : Option Addr) (c : Nat) (p : List Int) (hvr : Vars w.heap.size w m) (hC : Kd.C kB w A p.length p) (hrg : ∀ x ∈ p, 0 ≤ x ∧ x ≤ 255) (hcap : p.length ≤ c) (hl : p.length ≤ 2000) :
    Calls Tryz.prog 19 #[.slice A p.length c] w (RScan w (scanL (resolveL (rowsB b)) p)) := by
  have hmf : ∀ (fn : Fn) (first cap : Array Value) (w : World), (Instr.makeFunc fn first cap).run Tryz.prog w = .ok (.func fn first cap) w := fun _ _ _ _ => rfl
  have HAL := Aside0.mk hal
  have hL : scanL (resolveL (rowsB b)) p = scanR (resolveL (rowsB b)) p p.length 0 0 [] := by unfold scanL; rw [if_neg (by omega)]
  obtain ⟨R, hR⟩ : ∃ R, scanL (resolveL (rowsB b)) p = R := ⟨_, rfl⟩
  rw [hR] at hL ⊢
  have HL := Aside0.mk hL
  obtain ⟨WA, hWA⟩ : ∃ WA, (w.alloc (.cells #[.int .i64 0, .int .i64 0] 37)).alloc (.cells #[.slice A p.length c, .int .i64 0, .int .i64 0, .int .i64 0] 77) = WA := ⟨_, rfl⟩
  have hBA : Below w.heap.size w WA := by rw [← hWA]; exact below_alloc (below_alloc (Below.refl _ _) _) _
  have hzA : WA.heap.size = w.heap.size + 2 := by rw [← hWA]; simp
  have hfA : WA.heap[w.heap.size]? = some (.cells #[.int .i64 0, .int .i64 0] 37 (0, 0)) := by
    rw [← hWA]
    have h1 := heap_alloc_new w (.cells #[.int .i64 0, .int .i64 0] 37)
    exact ((below_alloc (Below.refl _ (w.alloc (.cells #[.int .i64 0, .int .i64 0] 37))) _).block w.heap.size (by simp)).trans h1
  have hgA : ScP WA (w.heap.size + 1) (.slice A p.length c) 0 0 0 := by
    show WA.heap[w.heap.size + 1]? = _
    rw [← hWA]
    have h1 := heap_alloc_new (w.alloc (.cells #[.int .i64 0, .int .i64 0] 37)) (.cells #[.slice A p.length c, .int .i64 0, .int .i64 0, .int .i64 0] 77)
    have h2 : (w.alloc (.cells #[.int .i64 0, .int .i64 0] 37)).heap.size = w.heap.size + 1 := by simp
    rw [h2] at h1
    exact h1
  have hsv : Sv WA w.heap.size (w.heap.size + 1) A c p 0 0 0 := ⟨hgA, fun W hW => Kd.C_below hC (hBA.trans hW), Nat.zero_le _, hcap, hl, hrg, Nat.le_succ _⟩
  have hvA := hvr.move hBA
  have HSV := Aside0.mk hsv
  have HVA := Aside0.mk hvA
  have HFA := Aside0.mk hfA
  have HBA := Aside0.mk hBA
  have HZA := Aside0.mk hzA
  have hwl : w.heap.size < w.heap.size + 1 := by omega
  have h63 : (p.length : Int) ≤ 2000 := by omega
  have hd0 : decide (2000 < (p.length : Int)) = false := decide_eq_false (by omega)
  have HVR := Aside0.mk hvr
  clear hal hR hL hBA hzA hfA hgA hsv hvA hC hvr
  subst hWA
  go_enter_defers Tryz.func19, Tryz.ntmps19
  go_wp2
  go_loopg [2] p.length (fun gk v w' => ∃ (j st ne f : Nat) (out : List Tk), Aside0 (gk = f ∧ p.length ≤ f + j ∧ j ≤ p.length ∧ ne ≤ j ∧ out.length ≤ j) ∧ Aside0 (scanR (resolveL (rowsB b)) p f ne j out = R) ∧ Aside0 (Sv w' w.heap.size (w.heap.size + 1) A c p j st ne) ∧ Aside0 (w'.heap[w.heap.size]? = some (.cells #[.int .i64 0, .int .i64 0] 37 (0, 0))) ∧ Aside0 (Kd.R kTk 41 w' (w.heap.size + 2) (fun _ => True) v (out.map tkS)) ∧ Aside0 (Below w.heap.size w w') ∧ Aside0 (w.heap.size + 2 ≤ w'.heap.size))
  case atStart => exact ⟨0, 0, 0, p.length, [], ⟨rfl, Nat.le_refl _, Nat.zero_le _, Nat.le_refl _, Nat.le_refl _⟩, ⟨HL.out.symm⟩, HSV, HFA, ⟨Kd.R_nil _ _ _ _ _⟩, HBA, ⟨by rw [HZA.out]; exact Nat.le_refl _⟩⟩
  case round =>
    obtain ⟨j, st, ne, f, out, HA, HJ, HS, HF, HO, HB, HZ⟩ := hrel
    have c1 : wr.cell? ⟨w.heap.size + 1, 1, none⟩ = some (.int .i64 (j : Int)) := rowc HS.out.sc 1 _ rfl
    by_cases hjl : j < p.length
    · obtain ⟨f, rfl⟩ : ∃ f', f = f' + 1 := ⟨f - 1, by have := HA.out; omega⟩
      have hj := HJ.out
      rw [scanR, if_pos hjl] at hj
      have HNX := Aside0.mk (scanNext_any b HAL.out wr m w.heap.size (w.heap.size + 1) A c p j st ne HS.out (HVR.out.move HB.out) hjl (by have := HA.out; omega))
      have hjd : decide (j < p.length) = true := decide_eq_true hjl
      have HJL := Aside0.mk hjl
      cases hn : nextL (resolveL (rowsB b)) p ne j with
      | error x =>
        rw [hn] at hj HNX
        have HR : Aside0 (R = (out, x.1, x.2)) := ⟨hj.symm⟩
        clear hj hn hjl
        go_wp2_with fail
        refine HNX.out.mono ?_
        intro e w2 hr
        obtain ⟨rfl, hB2⟩ := hr
        have HB2 := Aside0.mk hB2
        have HF2 : Aside0 (w2.heap[w.heap.size]? = some (.cells #[.int .i64 0, .int .i64 0] 37 (0, 0))) := ⟨(hB2.block _ (by have := HZ.out; omega) (by omega)).trans HF.out⟩
        have HO2 : Aside0 (Kd.R kTk 41 w2 (w.heap.size + 2) (fun _ => True) u2 (out.map tkS)) := ⟨own_far hB2 HO.out (fun k hk => by omega)⟩
        clear hB2
        go_wp2
        refine leaves_cons (f := 34) (args := #[.pointer (some ⟨w.heap.size, 0, none⟩)]) (by simp) (by simp [go_sem]) ?_
        refine (catch_fault w.heap.size 0 0 x.1 x.2 [] _ HF2.out).mono ?_
        rintro e u' w3 ⟨rfl, rfl, hf3, hB3⟩
        refine ⟨_, results_tc rfl _ _ w.heap.size 37 _ (0, 0) _ rfl hf3 Tryz.underlying37 rfl (by kernel_rfl), ?_⟩
        rw [HR.out]
        refine ⟨u2, rfl, Kd.R_lower (own_far hB3 HO2.out (fun k hk => by omega)) (Nat.le_add_right _ _), ?_⟩
        exact (HB.out.trans (HB2.out.below (by have := HZ.out; omega) (fun k hk e => by omega))).trans (hB3.below (by have := HZ.out; have := HB2.out.size; omega) (fun k hk e => by omega))
      | ok a =>
        have HNE := Aside0.mk (next_nest _ _ _ _ _ hn)
        have HST := Aside0.mk ((next_step (resolveL (rowsB b)) p ne j (Nat.le_of_lt hjl)).1 a hn).1
        rw [hn] at hj HNX
        have HR : Aside0 (scanR (resolveL (rowsB b)) p f a.2.2 a.2.1 (out ++ [a.1]) = R) := ⟨hj⟩
        obtain ⟨t1, k1, ne1⟩ := a
        have HNY : Aside0 (Calls Tryz.prog 35 #[.pointer (some ⟨w.heap.size + 1, 0, none⟩)] wr fun e w' => e = .returned (.agg #[.int .i64 t1.kind, .int .i64 t1.mode, .int .i64 t1.a, .int .i64 t1.b, .string t1.name, .bool t1.neg, .int .i64 (t1.st : Int), .int .i64 (t1.en : Int)]) ∧ ScP w' (w.heap.size + 1) (.slice A p.length c) k1 j ne1 ∧ But (· = w.heap.size + 1) wr w') := ⟨HNX.out.mono fun e w' h => h⟩
        simp only at HR HNE HST
        clear hj hn hjl HNX
        go_wp2_with fail
        refine HNY.out.mono ?_
        intro e w2 hr
        obtain ⟨rfl, hP2, hB2⟩ := hr
        have HB2 := Aside0.mk hB2
        have HF2 : Aside0 (w2.heap[w.heap.size]? = some (.cells #[.int .i64 0, .int .i64 0] 37 (0, 0))) := ⟨(hB2.block _ (by have := HZ.out; omega) (by omega)).trans HF.out⟩
        have HO2 : Aside0 (Kd.R kTk 41 w2 (w.heap.size + 2) (fun _ => True) u2 (out.map tkS)) := ⟨own_far hB2 HO.out (fun k hk => by omega)⟩
        have HS2 : Aside0 (Sv w2 w.heap.size (w.heap.size + 1) A c p k1 j ne1) := ⟨HS.out.go hB2 hP2 HST.out.2.1⟩
        have HZ2 : Aside0 (w.heap.size + 2 ≤ w2.heap.size) := ⟨Nat.le_trans HZ.out hB2.size⟩
        clear hB2 hP2
        have hol : (out.map tkS).length ≤ 2000 := by rw [List.length_map]; have := HA.out; omega
        go_wp2_with (at_builtin; refine Kd.R_append kTk (w0 := w2) (w.heap.size + 2) rfl (.tmp 20) (.tmp 23) 35 41 (.agg #[.int .i64 0, .int .i64 0, .int .i64 0, .int .i64 0, .string ⟨#[]⟩, .bool false, .int .i64 0, .int .i64 0]) 72 rfl Tryz.underlying35 infoTk rfl (by decide) (by omega) u2 (out.map tkS) (tkS t1) [.int .i64 t1.kind, .int .i64 t1.mode, .int .i64 t1.a, .int .i64 t1.b, .string t1.name, .bool t1.neg, .int .i64 (t1.st : Int), .int .i64 (t1.en : Int)] (fun _ => True) (fun _ => False) rfl ?aX (k41_mkM _ _ _ (tkS t1)) (fun _ h => h.elim) (fun _ _ => trivial) HO2.out (Below.refl _ _) HZ2.out ?aL ?_)
        case aL => omega
        try (case aX => rfl)
        intro v3 w3 hO3 hB3 hG3 _
        rw [← List.map_singleton (f := tkS), ← List.map_append] at hO3
        have HO3 := Aside0.mk hO3
        have HB3 := Aside0.mk hB3
        clear hO3 hB3 hG3
        have hx3 : But (fun x => w.heap.size + 2 ≤ x) w2 w3 := ⟨HB3.out.os, HB3.out.tape, HB3.out.output, HB3.out.size, fun b _ hn => HB3.out.block b (by omega)⟩
        have HS3 : Aside0 (Sv w3 w.heap.size (w.heap.size + 1) A c p k1 j ne1) := ⟨HS2.out.move hx3 (fun k hk => by omega) ((HB3.out.block _ (by omega)).trans HS2.out.sc) HS2.out.le⟩
        have HF3 : Aside0 (w3.heap[w.heap.size]? = some (.cells #[.int .i64 0, .int .i64 0] 37 (0, 0))) := ⟨(HB3.out.block _ (by omega)).trans HF2.out⟩
        have HBB : Aside0 (Below w.heap.size w w3) := ⟨(HB.out.trans (HB2.out.below (by have := HZ.out; omega) (fun k hk e => by omega))).trans (HB3.out.mono (by omega))⟩
        have HZ3 : Aside0 (w.heap.size + 2 ≤ w3.heap.size) := ⟨Nat.le_trans HZ2.out HB3.out.size⟩
        clear hx3 hol
        go_wp2
        go_roundg f
        case measure => have := HA.out; omega
        case rel => exact ⟨k1, j, ne1, f, out ++ [t1], ⟨rfl, by have := HA.out; have := HST.out; omega, HST.out.2.1, by have := HA.out; have := HST.out; have := HNE.out; omega, by have := HA.out; have := HST.out; rw [List.length_append, List.length_singleton]; omega⟩, HR, HS3, HF3, HO3, HBB, HZ3⟩
    · have hj := HJ.out
      rw [scanR_end _ _ _ _ _ _ hjl] at hj
      have hjd : decide (j < p.length) = false := decide_eq_false hjl
      have f0 := rowc HF.out 0 _ rfl
      have f1 := rowc HF.out 1 _ rfl
      have g0 := blk_frozen HF.out 0
      have g1 := blk_frozen HF.out 1
      have HR : Aside0 (R = (out, 0, 0)) := ⟨hj.symm⟩
      clear hj hjl
      have hX : But (· = w.heap.size) wr (((wr.setCell ⟨w.heap.size, 0, none⟩ (.int .i64 0)).setCell ⟨w.heap.size, 1, none⟩ (.int .i64 0)).drew) := (But.set (ex := (· = w.heap.size)) (But.set (ex := (· = w.heap.size)) (But.refl _ _) w.heap.size 0 rfl _) w.heap.size 1 rfl _).trans (But.of_below (below_drew (Below.refl _ _)))
      have hF2 : (((wr.setCell ⟨w.heap.size, 0, none⟩ (.int .i64 0)).setCell ⟨w.heap.size, 1, none⟩ (.int .i64 0)).drew).heap[w.heap.size]? = some (.cells #[.int .i64 0, .int .i64 0] 37 (0, 0)) := ((below_drew (Below.refl wr.heap.size _)).block _ (by have := HZ.out; omega)).trans (blk_put (blk_put HF.out 0 _ rfl) 1 _ rfl)
      have HX := Aside0.mk hX
      have HF2 := Aside0.mk hF2
      clear hX hF2
      go_wp2
      go_region
      go_wp2
      refine leaves_cons (f := 34) (args := #[.pointer (some ⟨w.heap.size, 0, none⟩)]) (by simp) (by simp [go_sem]) ?_
      refine (catch_none w.heap.size _).mono ?_
      rintro e u' w3 ⟨rfl, rfl, hB3⟩
      have hf3 := (hB3.block w.heap.size (Array.getElem?_eq_some_iff.1 HF2.out).1).trans HF2.out
      refine ⟨_, results_tc rfl _ _ w.heap.size 37 _ (0, 0) _ rfl hf3 Tryz.underlying37 rfl (by kernel_rfl), ?_⟩
      rw [HR.out]
      refine ⟨u2, rfl, Kd.R_lower (own_far (ex := fun _ => False) (But.of_below hB3) (own_far HX.out HO.out (fun k hk => by omega)) (fun k hk => id)) (Nat.le_add_right _ _), ?_⟩
      exact (HB.out.trans (HX.out.below (by have := HZ.out; omega) (fun k hk e => by omega))).trans (hB3.mono (by have := HZ.out; have := HX.out.size; omega))

set_option maxHeartbeats 4000000 in
set_option maxRecDepth 100000 in
theorem scan_long (res : ByteArray → Int × ByteArray × Int) (w : World) (A : Option Addr) (c : Nat) (p : List Int) (hl : 2000 < p.length) (h63 : p.length ≤ 9223372036854775807) :
    Calls Tryz.prog 19 #[.slice A p.length c] w (RScan w (scanL res p)) := by
  have hL : scanL res p = ([], 4, 2000) := by unfold scanL; rw [if_pos hl]
  rw [hL]
  have hd0 : decide (2000 < (p.length : Int)) = true := decide_eq_true (by omega)
  clear hL hl
  go_enter_defers Tryz.func19, Tryz.ntmps19
  go_wp2
  exact ⟨_, results_tc rfl _ _ w.heap.size 37 _ (0, 0) _ rfl (heap_alloc_new _ _) Tryz.underlying37 rfl (by kernel_rfl), .slice none 0 0, rfl, Kd.R_nil _ _ _ _ _, below_alloc (Below.refl _ _) _⟩
theorem scan_any (b : ByteArray) (hal : AliasIs b) (w : World) (m : Int) (A : Option Addr) (c : Nat) (p : List Int) (hvr : Vars w.heap.size w m) (hC : Kd.C kB w A p.length p) (hrg : ∀ x ∈ p, 0 ≤ x ∧ x ≤ 255) (hcap : p.length ≤ c) :
    Calls Tryz.prog 19 #[.slice A p.length c] w (RScan w (scanL (resolveL (rowsB b)) p)) := by
  by_cases hl : p.length ≤ 2000
  · exact scan_short b hal w m A c p hvr hC hrg hcap hl
  · exact scan_long _ w A c p (by omega) (by have := hC.2.1; omega)

end Go.Proofs.YtkipjalfgdfaiaaGreatDoor
namespace Go.Proofs.YtkipjalfgdfaiaaGreatDoor
set_option linter.unusedVariables false
set_option linter.unusedSimpArgs false
open Go.RowKit Go.Proofs.YtkipjalfgdfaiaaGreatDoorW.PrintWords Go.Proofs.YtkipjalfgdfaiaaGreatDoorW.PrintLast Go.Proofs.YtkipjalfgdfaiaaGreatDoorW.PrintMore Go.Proofs.YtkipjalfgdfaiaaGreatDoor.PTk

theorem scan_awake (res : ByteArray → Int × ByteArray × Int) : scanL res [97, 123, 50, 44, 51, 125, 63] = ([{ kind := 1, a := 97, st := 0, en := 1 }, { kind := 6, mode := 1, a := 2, b := 3, st := 1, en := 7 }], 0, 0) := by kernel_rfl
/-- A slice of bytes out of a block that holds them, marked or not. -/
theorem rdB {W : World} {g : Nat} {l : List Int} {t : TypeId} {fr : Nat × Nat} (h : W.heap[g]? = some (.cells (l.map (Value.int .u8)).toArray t fr)) (hm : l.length ≤ 9223372036854775807) : Kd.C kB W (some ⟨g, 0, none⟩) l.length l := by
  refine ⟨rfl, hm, fun _ => ⟨_, rfl, fun j p hj => ⟨[.int .u8 p], rfl, rfl, fun i u hu => ?_⟩⟩⟩
  have hi : i = 0 := by
    have := (List.getElem?_eq_some_iff.1 hu).1
    simpa using this
  subst hi
  cases hu
  have hz : kB.sz = 1 := rfl
  rw [hz, Nat.mul_one, Nat.add_zero, add_plain]
  refine rowc h j _ ?_
  rw [List.getElem?_toArray, List.getElem?_map, hj]
  rfl
theorem scan_reads {w : World} {r : List Tk × Int × Nat} {e : Ending} {w' : World} (h : RScan w r e w') : ∃ (A : Option Addr) (c : Nat), e = .returned (.tuple #[.slice A r.1.length c, .agg #[.int .i64 r.2.1, .int .i64 (r.2.2 : Int)]]) ∧ r.1.length ≤ c ∧ Kd.C kTk w' A r.1.length (r.1.map tkS) ∧ Below w.heap.size w w' := by
  obtain ⟨v, rfl, ho, hb⟩ := h
  obtain ⟨A, c, rfl, hle, hC⟩ := Kd.R_reads ho
  rw [List.length_map] at hC hle
  exact ⟨A, c, by rw [List.length_map], hle, hC, hb⟩
set_option maxHeartbeats 4000000 in
set_option maxRecDepth 100000 in
theorem awake13_any (b : ByteArray) (hal : AliasIs b) (w : World) (m : Int) (hvr : Vars w.heap.size w m) : Calls Tryz.prog 20 #[] w fun e w' => e = .returned (.bool true) ∧ Below w.heap.size w w' := by
  have kc := fun (w : World) (C : Array Value) (n c : Nat) => Lib.run_convert_bytes_const (P := Tryz.prog) w 34 5 C n c Tryz.underlying34 Tryz.underlying5
  obtain ⟨w1, hw1⟩ : ∃ w1, w.alloc (.cells #[.int .u8 97, .int .u8 123, .int .u8 50, .int .u8 44, .int .u8 51, .int .u8 125, .int .u8 63] 5 (7, 8)) = w1 := ⟨_, rfl⟩
  have hb1 : Below w.heap.size w w1 := by rw [← hw1]; exact below_alloc (Below.refl _ _) _
  have hz1 : w1.heap.size = w.heap.size + 1 := by rw [← hw1]; simp
  have hC : Kd.C kB w1 (some ⟨w.heap.size, 0, none⟩) [97, 123, 50, 44, 51, 125, 63].length [97, 123, 50, 44, 51, 125, 63] := by rw [← hw1]; exact rdB (fr := (7, 8)) (heap_alloc_new _ _) (by decide)
  have hv1 := (hvr.move hb1)
  have hv2 : Vars w1.heap.size w1 m := hv1.up (by omega)
  have HT := Aside0.mk (scan_any b hal w1 m (some ⟨w.heap.size, 0, none⟩) 7 [97, 123, 50, 44, 51, 125, 63] hv2 hC (by decide) (by decide))
  rw [scan_awake] at HT
  have HT2 : Aside0 (Calls Tryz.prog 19 #[.slice (some ⟨w.heap.size, 0, none⟩) 7 7] w1 fun e w' => ∃ (ad : Addr) (c : Nat), e = .returned (.tuple #[.slice (some ad) 2 c, .agg #[.int .i64 0, .int .i64 0]]) ∧ w'.cell? ⟨ad.block, ad.off + 8 + 1, none⟩ = some (.int .i64 1) ∧ w'.cell? ⟨ad.block, ad.off + 8 + 3, none⟩ = some (.int .i64 3) ∧ Below w1.heap.size w1 w') := ⟨HT.out.mono fun e w' h => by
    obtain ⟨A, c, rfl, hle, hC, hb⟩ := scan_reads h
    obtain ⟨ad, e, -, h1, -, h3, -⟩ := at_T41 hC 1 (by decide) (by decide)
    subst e
    exact ⟨ad, c, rfl, h1, h3, hb⟩⟩
  have HB1 := Aside0.mk hb1
  clear hb1 hC hv1 hv2 hvr hal hz1 HT
  go_enter Tryz.func20, Tryz.ntmps20
  go_wp2_with fail
  refine HT2.out.mono ?_
  rintro e w2 ⟨ad, c, rfl, x1, x3, hb2⟩
  have HB2 : Aside0 (Below w.heap.size w w2) := ⟨below_to HB1.out hb2⟩
  have X1 := Aside0.mk x1
  have X3 := Aside0.mk x3
  clear kc hw1 hb2 x1 x3
  have y1 := pw_cell_below (below_alloc (Below.refl w2.heap.size w2) (.cells #[.int .i64 0, .int .i64 0] 37)) X1.out
  have y3 := pw_cell_below (below_alloc (Below.refl w2.heap.size w2) (.cells #[.int .i64 0, .int .i64 0] 37)) X3.out
  go_wp2
  go_ret
  exact ⟨rfl, below_alloc HB2.out _⟩

end Go.Proofs.YtkipjalfgdfaiaaGreatDoor
namespace Go.Proofs.YtkipjalfgdfaiaaGreatDoor.PTk
open Go.RowKit Go.Proofs.YtkipjalfgdfaiaaGreatDoorW.PrintWords Go.Proofs.YtkipjalfgdfaiaaGreatDoorW.PrintLast Go.Proofs.YtkipjalfgdfaiaaGreatDoorW.PrintMore
set_option linter.unusedVariables false
set_option linter.unusedSimpArgs false




section
end

section
end

section
end

section
def rubricatorref01_Encode.j0 : Nat → Int → Bool → Option (List Int × Bool)
  | 0, _, _ => none
  | k + 1, x0, x4 => if x4 = true then (some (([] : List Int), false)) else (if x0 < 128 then (some ((([(x0) % 256] : List Int)), true)) else (if x0 < 2048 then (some ((([(wrap64 (192 + (wrap64 (Int.tdiv x0 64)))) % 256, (wrap64 (128 + (Int.tmod x0 64))) % 256] : List Int)), true)) else (if x0 < 65536 then (some ((([(wrap64 (224 + (wrap64 (Int.tdiv x0 4096)))) % 256, (wrap64 (128 + (Int.tmod (wrap64 (Int.tdiv x0 64)) 64))) % 256, (wrap64 (128 + (Int.tmod x0 64))) % 256] : List Int)), true)) else (some ((([(wrap64 (240 + (wrap64 (Int.tdiv x0 262144)))) % 256, (wrap64 (128 + (Int.tmod (wrap64 (Int.tdiv x0 4096)) 64))) % 256, (wrap64 (128 + (Int.tmod (wrap64 (Int.tdiv x0 64)) 64))) % 256, (wrap64 (128 + (Int.tmod x0 64))) % 256] : List Int)), true)))))
def rubricatorref01_Encode.f (k : Nat) (a0 : Int) : Option (List Int × Bool) := if a0 < 0 then (rubricatorref01_Encode.j0 k a0 true) else (if a0 > 1114111 then (rubricatorref01_Encode.j0 k a0 true) else (if a0 ≥ 55296 then (rubricatorref01_Encode.j0 k a0 (decide (a0 ≤ 57343))) else (rubricatorref01_Encode.j0 k a0 false)))
theorem rubricatorref01_Encode.mono_l : ∀ k, (∀ y0 y1, LeO (rubricatorref01_Encode.j0 k y0 y1) (rubricatorref01_Encode.j0 (k + 1) y0 y1))
  | 0 => fun _ _ r h => by simp [rubricatorref01_Encode.j0] at h
  | k + 1 => by
    have ih0 := rubricatorref01_Encode.mono_l k
    · intro y0 y1
      unfold rubricatorref01_Encode.j0
      repeat' first
      | (with_reducible exact ih0 _ _)
      | (with_reducible exact LeO.refl _)
      | (with_reducible exact LeO.none _)
      | (with_reducible refine LeO.ite ?_ ?_)
      | (with_reducible refine LeO.bind ?_ (fun _ => ?_))
      | exact ih0 _ _
      | exact LeO.none _
      | refine LeO.ite ?_ ?_
      | refine LeO.bind ?_ (fun _ => ?_)
theorem rubricatorref01_Encode.mono : ∀ a0 k, LeO (rubricatorref01_Encode.f k a0) (rubricatorref01_Encode.f (k + 1) a0) := by
  intro a0 k
  have ih0 := rubricatorref01_Encode.mono_l k
  unfold rubricatorref01_Encode.f
  repeat' first
      | (with_reducible exact ih0 _ _)
      | (with_reducible exact LeO.refl _)
      | (with_reducible exact LeO.none _)
      | (with_reducible refine LeO.ite ?_ ?_)
      | (with_reducible refine LeO.bind ?_ (fun _ => ?_))
      | exact ih0 _ _
      | exact LeO.none _
      | refine LeO.ite ?_ ?_
      | refine LeO.bind ?_ (fun _ => ?_)
set_option maxHeartbeats 8000000 in
set_option maxRecDepth 100000 in
theorem rubricatorref01_Encode.calls (k : Nat) (a0 : Int) (r1 : List Int) (r2 : Bool) (w : World) (h : rubricatorref01_Encode.f k a0 = some (r1, r2)) :
    Calls Tryz.prog 41 #[.int .i64 a0] w fun e w' => ∃ v0_ : Value, e = .returned (.tuple #[v0_, .bool r2]) ∧ Kd.R (Kd.int .u8) 5 w' w.heap.size (fun _ => True) v0_ r1 ∧ Below w.heap.size w w' := by
  have HB := Aside0.mk (Below.refl w.heap.size w)
  have H : (if a0 < 0 then (rubricatorref01_Encode.j0 k a0 true) else (if a0 > 1114111 then (rubricatorref01_Encode.j0 k a0 true) else (if a0 ≥ 55296 then (rubricatorref01_Encode.j0 k a0 (decide (a0 ≤ 57343))) else (rubricatorref01_Encode.j0 k a0 false)))) = some (r1, r2) := h
  clear h
  have HC2 := Aside0.mk H
  clear H
  go_enter Tryz.func41, Tryz.ntmps41
  go_upto_region 1 with (fail)
  go_cut [4] (fun v4 wc => ∃ (kq : Nat) (x4_1 : Bool), v4 = .bool x4_1 ∧ Aside0 (rubricatorref01_Encode.j0 kq a0 x4_1 = some (r1, r2)) ∧ Aside0 (kq ≤ k) ∧ Aside0 (Below w.heap.size w wc))
  case first =>
    have H := HC2.out
    clear HC2
    by_cases c3 : a0 < 0
    · rw [if_pos c3] at H
      have c3b0 : decide (a0 < 0) = true := decide_eq_true c3
      clear c3
      (first | rw [c3b0] | (simp only [i64_w, i32_w]; rw [c3b0]) | skip)
      have H' := Aside0.mk H
      clear H
      go_wp2
      go_meet
      case rel => exact ⟨_, (true), (by first | rfl | (simp; done) | (simp [*]; done)), H', ⟨by first | omega | exact Nat.le_refl _⟩, ⟨by repeat (first | (with_reducible first | exact HB.out | apply below_alloc | apply pw_below_drewN | apply below_drew1) | exact HB.out)⟩⟩
    · rw [if_neg c3] at H
      have c3b0 : decide (a0 < 0) = false := decide_eq_false c3
      clear c3
      (first | rw [c3b0] | (simp only [i64_w, i32_w]; rw [c3b0]) | skip)
      by_cases c4 : a0 > 1114111
      · rw [if_pos c4] at H
        have c4b0 : decide (1114111 < a0) = true := decide_eq_true c4
        clear c4
        have H' := Aside0.mk H
        clear H
        go_wp2
        go_meet
        case rel => exact ⟨_, (true), (by first | rfl | (simp; done) | (simp [*]; done)), H', ⟨by first | omega | exact Nat.le_refl _⟩, ⟨by repeat (first | (with_reducible first | exact HB.out | apply below_alloc | apply pw_below_drewN | apply below_drew1) | exact HB.out)⟩⟩
      · rw [if_neg c4] at H
        have c4b0 : decide (1114111 < a0) = false := decide_eq_false c4
        clear c4
        by_cases c5 : a0 ≥ 55296
        · rw [if_pos c5] at H
          have c5b0 : decide (55296 ≤ a0) = true := decide_eq_true c5
          clear c5
          have H' := Aside0.mk H
          clear H
          go_wp2
          go_meet
          case rel => exact ⟨_, (decide (a0 ≤ 57343)), (by first | rfl | (simp; done) | (simp [*]; done)), H', ⟨by first | omega | exact Nat.le_refl _⟩, ⟨by repeat (first | (with_reducible first | exact HB.out | apply below_alloc | apply pw_below_drewN | apply below_drew1) | exact HB.out)⟩⟩
        · rw [if_neg c5] at H
          have c5b0 : decide (55296 ≤ a0) = false := decide_eq_false c5
          clear c5
          have H' := Aside0.mk H
          clear H
          go_wp2
          go_meet
          case rel => exact ⟨_, (false), (by first | rfl | (simp; done) | (simp [*]; done)), H', ⟨by first | omega | exact Nat.le_refl _⟩, ⟨by repeat (first | (with_reducible first | exact HB.out | apply below_alloc | apply pw_below_drewN | apply below_drew1) | exact HB.out)⟩⟩
  case rest =>
    clear HC2
    try clear p2
    try clear c3
    try clear c3b0
    try clear c4
    try clear c4b0
    try clear c5
    try clear c5b0
    obtain ⟨kq, x4_1, rfl, HA, HJ1, HB⟩ := hcut
    cases kq with
    | zero => exact absurd HA.out (by simp [rubricatorref01_Encode.j0])
    | succ kj1 =>
      have H := HA.out
      clear HA
      simp only [rubricatorref01_Encode.j0] at H
      by_cases c6 : x4_1 = true
      · subst c6
        have H1 : (some (([] : List Int), false)) = some (r1, r2) := by rw [if_pos rfl] at H; exact H
        clear H
        have H := H1
        clear H1
        simp only [Option.some.injEq, Prod.mk.injEq] at H
        obtain ⟨rfl, rfl⟩ := H
        go_wp2
        go_ret2
        exact ⟨_, by first | rfl | (simp [errW_none, errW_some] <;> rfl) | (simp [*, errW_none, errW_some] <;> rfl), by first | exact Kd.R_nil _ _ _ _ _ | exact Kd.N_nil _ _ _ _ _ | exact Kd.V_nil _ _ _ _ _ | exact Kd.Q_nil _ _ _ _ _ | exact Kd.S_nil _ _ _ _ _, by repeat (first | (with_reducible first | exact HB.out | apply below_alloc | apply pw_below_drewN | apply below_drew1) | exact HB.out)⟩
      · replace c6 := Bool.eq_false_iff.mpr c6
        subst c6
        have H1 : (if a0 < 128 then (some ((([(a0) % 256] : List Int)), true)) else (if a0 < 2048 then (some ((([(wrap64 (192 + (wrap64 (Int.tdiv a0 64)))) % 256, (wrap64 (128 + (Int.tmod a0 64))) % 256] : List Int)), true)) else (if a0 < 65536 then (some ((([(wrap64 (224 + (wrap64 (Int.tdiv a0 4096)))) % 256, (wrap64 (128 + (Int.tmod (wrap64 (Int.tdiv a0 64)) 64))) % 256, (wrap64 (128 + (Int.tmod a0 64))) % 256] : List Int)), true)) else (some ((([(wrap64 (240 + (wrap64 (Int.tdiv a0 262144)))) % 256, (wrap64 (128 + (Int.tmod (wrap64 (Int.tdiv a0 4096)) 64))) % 256, (wrap64 (128 + (Int.tmod (wrap64 (Int.tdiv a0 64)) 64))) % 256, (wrap64 (128 + (Int.tmod a0 64))) % 256] : List Int)), true))))) = some (r1, r2) := by rw [if_neg (show ¬ (false = true) by decide)] at H; exact H
        clear H
        have H := H1
        clear H1
        by_cases c7 : a0 < 128
        · rw [if_pos c7] at H
          have c7b0 : decide (a0 < 128) = true := decide_eq_true c7
          clear c7
          obtain ⟨y170, hy170⟩ : ∃ y_ : List Int, y_ = (([(a0) % 256] : List Int)) := ⟨_, rfl⟩
          replace H : (some (y170, true)) = some (r1, r2) := by first | (rw [hy170]; with_reducible exact H) | (have H2_ := (Option.bind_some _ _).symm.trans H; rw [hy170]; with_reducible exact H2_) | (have H2_ := (Option.bind_some _ _).symm.trans H; with_reducible exact H2_) | with_reducible exact H | (rw [hy170]; exact H) | exact H
          have Ny170 := Aside0.mk hy170
          clear hy170
          simp only [Option.some.injEq, Prod.mk.injEq] at H
          obtain ⟨rfl, rfl⟩ := H
          go_wp2_with (first | ((with_reducible refine gate_dst (N := 24) rfl ?_); refine Kd.R_lit (Kd.int .u8) _ 5 ?hg (N := 24) ?hd (xs := ([(a0) % 256] : List Int)) (inner := [.int .u8 ((a0) % 256)]) (ok := fun _ => True) (okp := fun _ => True) ?hr ?hp (fun _ hk => hk) trivial (Below.refl _ _) (Nat.le_refl _) (by simp) ?_; (case hd => rfl); (case hg => rfl); (case hr => first | (go_simp; done) | (go_simp; rfl)); (case hp => exact (Reps.one (show Kd.M (Kd.int .u8) _ _ _ ((a0) % 256) [.int .u8 ((a0) % 256)] from rfl) (Reps.none _ _))); intro v171 w8 ho9 hb hg_ hnew_; clear hg_ hnew_; (first | rw [← Ny170.out] at ho9 | (simp only [Int.reduceToNat] at ho9; rw [← Ny170.out] at ho9)); have n0_ := Aside0.mk (Kd.R_lower ho9 (below_size (by repeat (first | (with_reducible first | exact HB.out | apply below_alloc | apply pw_below_drewN | apply below_drew1) | exact HB.out)))); have n1_ := Aside0.mk (below_step (by repeat (first | (with_reducible first | exact HB.out | apply below_alloc | apply pw_below_drewN | apply below_drew1) | exact HB.out)) hb); clear HB; have HO172 := n0_; have HB := n1_; clear n0_ n1_; clear hb ho9))
          go_ret2
          exact ⟨_, by first | rfl | (simp [errW_none, errW_some] <;> rfl) | (simp [*, errW_none, errW_some] <;> rfl), by (with_reducible repeat (first | apply Kd.R_alloc | apply Kd.R_drewN | apply Kd.R_drew)); exact HO172.out, by repeat (first | (with_reducible first | exact HB.out | apply below_alloc | apply pw_below_drewN | apply below_drew1) | exact HB.out)⟩
        · rw [if_neg c7] at H
          have c7b0 : decide (a0 < 128) = false := decide_eq_false c7
          clear c7
          by_cases c10 : a0 < 2048
          · rw [if_pos c10] at H
            have c10b0 : decide (a0 < 2048) = true := decide_eq_true c10
            clear c10
            obtain ⟨y173, hy173⟩ : ∃ y_ : List Int, y_ = (([(wrap64 (192 + (wrap64 (Int.tdiv a0 64)))) % 256, (wrap64 (128 + (Int.tmod a0 64))) % 256] : List Int)) := ⟨_, rfl⟩
            replace H : (some (y173, true)) = some (r1, r2) := by first | (rw [hy173]; with_reducible exact H) | (have H2_ := (Option.bind_some _ _).symm.trans H; rw [hy173]; with_reducible exact H2_) | (have H2_ := (Option.bind_some _ _).symm.trans H; with_reducible exact H2_) | with_reducible exact H | (rw [hy173]; exact H) | exact H
            have Ny173 := Aside0.mk hy173
            clear hy173
            simp only [Option.some.injEq, Prod.mk.injEq] at H
            obtain ⟨rfl, rfl⟩ := H
            go_wp2_with (first | ((with_reducible refine gate_dst (N := 36) rfl ?_); refine Kd.R_lit (Kd.int .u8) _ 5 ?hg (N := 36) ?hd (xs := ([(wrap64 (192 + (wrap64 (Int.tdiv a0 64)))) % 256, (wrap64 (128 + (Int.tmod a0 64))) % 256] : List Int)) (inner := [.int .u8 ((wrap64 (192 + (wrap64 (Int.tdiv a0 64)))) % 256), .int .u8 ((wrap64 (128 + (Int.tmod a0 64))) % 256)]) (ok := fun _ => True) (okp := fun _ => True) ?hr ?hp (fun _ hk => hk) trivial (Below.refl _ _) (Nat.le_refl _) (by simp) ?_; (case hd => rfl); (case hg => rfl); (case hr => first | (go_simp; done) | (go_simp; rfl)); (case hp => exact (Reps.one (show Kd.M (Kd.int .u8) _ _ _ ((wrap64 (192 + (wrap64 (Int.tdiv a0 64)))) % 256) [.int .u8 ((wrap64 (192 + (wrap64 (Int.tdiv a0 64)))) % 256)] from rfl) (Reps.one (show Kd.M (Kd.int .u8) _ _ _ ((wrap64 (128 + (Int.tmod a0 64))) % 256) [.int .u8 ((wrap64 (128 + (Int.tmod a0 64))) % 256)] from rfl) (Reps.none _ _)))); intro v174 w11 ho12 hb hg_ hnew_; clear hg_ hnew_; (first | rw [← Ny173.out] at ho12 | (simp only [Int.reduceToNat] at ho12; rw [← Ny173.out] at ho12)); have n0_ := Aside0.mk (Kd.R_lower ho12 (below_size (by repeat (first | (with_reducible first | exact HB.out | apply below_alloc | apply pw_below_drewN | apply below_drew1) | exact HB.out)))); have n1_ := Aside0.mk (below_step (by repeat (first | (with_reducible first | exact HB.out | apply below_alloc | apply pw_below_drewN | apply below_drew1) | exact HB.out)) hb); clear HB; have HO175 := n0_; have HB := n1_; clear n0_ n1_; clear hb ho12))
            go_ret2
            exact ⟨_, by first | rfl | (simp [errW_none, errW_some] <;> rfl) | (simp [*, errW_none, errW_some] <;> rfl), by (with_reducible repeat (first | apply Kd.R_alloc | apply Kd.R_drewN | apply Kd.R_drew)); exact HO175.out, by repeat (first | (with_reducible first | exact HB.out | apply below_alloc | apply pw_below_drewN | apply below_drew1) | exact HB.out)⟩
          · rw [if_neg c10] at H
            have c10b0 : decide (a0 < 2048) = false := decide_eq_false c10
            clear c10
            by_cases c13 : a0 < 65536
            · rw [if_pos c13] at H
              have c13b0 : decide (a0 < 65536) = true := decide_eq_true c13
              clear c13
              obtain ⟨y176, hy176⟩ : ∃ y_ : List Int, y_ = (([(wrap64 (224 + (wrap64 (Int.tdiv a0 4096)))) % 256, (wrap64 (128 + (Int.tmod (wrap64 (Int.tdiv a0 64)) 64))) % 256, (wrap64 (128 + (Int.tmod a0 64))) % 256] : List Int)) := ⟨_, rfl⟩
              replace H : (some (y176, true)) = some (r1, r2) := by first | (rw [hy176]; with_reducible exact H) | (have H2_ := (Option.bind_some _ _).symm.trans H; rw [hy176]; with_reducible exact H2_) | (have H2_ := (Option.bind_some _ _).symm.trans H; with_reducible exact H2_) | with_reducible exact H | (rw [hy176]; exact H) | exact H
              have Ny176 := Aside0.mk hy176
              clear hy176
              simp only [Option.some.injEq, Prod.mk.injEq] at H
              obtain ⟨rfl, rfl⟩ := H
              go_wp2_with (first | ((with_reducible refine gate_dst (N := 53) rfl ?_); refine Kd.R_lit (Kd.int .u8) _ 5 ?hg (N := 53) ?hd (xs := ([(wrap64 (224 + (wrap64 (Int.tdiv a0 4096)))) % 256, (wrap64 (128 + (Int.tmod (wrap64 (Int.tdiv a0 64)) 64))) % 256, (wrap64 (128 + (Int.tmod a0 64))) % 256] : List Int)) (inner := [.int .u8 ((wrap64 (224 + (wrap64 (Int.tdiv a0 4096)))) % 256), .int .u8 ((wrap64 (128 + (Int.tmod (wrap64 (Int.tdiv a0 64)) 64))) % 256), .int .u8 ((wrap64 (128 + (Int.tmod a0 64))) % 256)]) (ok := fun _ => True) (okp := fun _ => True) ?hr ?hp (fun _ hk => hk) trivial (Below.refl _ _) (Nat.le_refl _) (by simp) ?_; (case hd => rfl); (case hg => rfl); (case hr => first | (go_simp; done) | (go_simp; rfl)); (case hp => exact (Reps.one (show Kd.M (Kd.int .u8) _ _ _ ((wrap64 (224 + (wrap64 (Int.tdiv a0 4096)))) % 256) [.int .u8 ((wrap64 (224 + (wrap64 (Int.tdiv a0 4096)))) % 256)] from rfl) (Reps.one (show Kd.M (Kd.int .u8) _ _ _ ((wrap64 (128 + (Int.tmod (wrap64 (Int.tdiv a0 64)) 64))) % 256) [.int .u8 ((wrap64 (128 + (Int.tmod (wrap64 (Int.tdiv a0 64)) 64))) % 256)] from rfl) (Reps.one (show Kd.M (Kd.int .u8) _ _ _ ((wrap64 (128 + (Int.tmod a0 64))) % 256) [.int .u8 ((wrap64 (128 + (Int.tmod a0 64))) % 256)] from rfl) (Reps.none _ _))))); intro v177 w14 ho15 hb hg_ hnew_; clear hg_ hnew_; (first | rw [← Ny176.out] at ho15 | (simp only [Int.reduceToNat] at ho15; rw [← Ny176.out] at ho15)); have n0_ := Aside0.mk (Kd.R_lower ho15 (below_size (by repeat (first | (with_reducible first | exact HB.out | apply below_alloc | apply pw_below_drewN | apply below_drew1) | exact HB.out)))); have n1_ := Aside0.mk (below_step (by repeat (first | (with_reducible first | exact HB.out | apply below_alloc | apply pw_below_drewN | apply below_drew1) | exact HB.out)) hb); clear HB; have HO178 := n0_; have HB := n1_; clear n0_ n1_; clear hb ho15))
              go_ret2
              exact ⟨_, by first | rfl | (simp [errW_none, errW_some] <;> rfl) | (simp [*, errW_none, errW_some] <;> rfl), by (with_reducible repeat (first | apply Kd.R_alloc | apply Kd.R_drewN | apply Kd.R_drew)); exact HO178.out, by repeat (first | (with_reducible first | exact HB.out | apply below_alloc | apply pw_below_drewN | apply below_drew1) | exact HB.out)⟩
            · rw [if_neg c13] at H
              have c13b0 : decide (a0 < 65536) = false := decide_eq_false c13
              clear c13
              obtain ⟨y179, hy179⟩ : ∃ y_ : List Int, y_ = (([(wrap64 (240 + (wrap64 (Int.tdiv a0 262144)))) % 256, (wrap64 (128 + (Int.tmod (wrap64 (Int.tdiv a0 4096)) 64))) % 256, (wrap64 (128 + (Int.tmod (wrap64 (Int.tdiv a0 64)) 64))) % 256, (wrap64 (128 + (Int.tmod a0 64))) % 256] : List Int)) := ⟨_, rfl⟩
              replace H : (some (y179, true)) = some (r1, r2) := by first | (rw [hy179]; with_reducible exact H) | (have H2_ := (Option.bind_some _ _).symm.trans H; rw [hy179]; with_reducible exact H2_) | (have H2_ := (Option.bind_some _ _).symm.trans H; with_reducible exact H2_) | with_reducible exact H | (rw [hy179]; exact H) | exact H
              have Ny179 := Aside0.mk hy179
              clear hy179
              simp only [Option.some.injEq, Prod.mk.injEq] at H
              obtain ⟨rfl, rfl⟩ := H
              go_wp2_with (first | ((with_reducible refine gate_dst (N := 72) rfl ?_); refine Kd.R_lit (Kd.int .u8) _ 5 ?hg (N := 72) ?hd (xs := ([(wrap64 (240 + (wrap64 (Int.tdiv a0 262144)))) % 256, (wrap64 (128 + (Int.tmod (wrap64 (Int.tdiv a0 4096)) 64))) % 256, (wrap64 (128 + (Int.tmod (wrap64 (Int.tdiv a0 64)) 64))) % 256, (wrap64 (128 + (Int.tmod a0 64))) % 256] : List Int)) (inner := [.int .u8 ((wrap64 (240 + (wrap64 (Int.tdiv a0 262144)))) % 256), .int .u8 ((wrap64 (128 + (Int.tmod (wrap64 (Int.tdiv a0 4096)) 64))) % 256), .int .u8 ((wrap64 (128 + (Int.tmod (wrap64 (Int.tdiv a0 64)) 64))) % 256), .int .u8 ((wrap64 (128 + (Int.tmod a0 64))) % 256)]) (ok := fun _ => True) (okp := fun _ => True) ?hr ?hp (fun _ hk => hk) trivial (Below.refl _ _) (Nat.le_refl _) (by simp) ?_; (case hd => rfl); (case hg => rfl); (case hr => first | (go_simp; done) | (go_simp; rfl)); (case hp => exact (Reps.one (show Kd.M (Kd.int .u8) _ _ _ ((wrap64 (240 + (wrap64 (Int.tdiv a0 262144)))) % 256) [.int .u8 ((wrap64 (240 + (wrap64 (Int.tdiv a0 262144)))) % 256)] from rfl) (Reps.one (show Kd.M (Kd.int .u8) _ _ _ ((wrap64 (128 + (Int.tmod (wrap64 (Int.tdiv a0 4096)) 64))) % 256) [.int .u8 ((wrap64 (128 + (Int.tmod (wrap64 (Int.tdiv a0 4096)) 64))) % 256)] from rfl) (Reps.one (show Kd.M (Kd.int .u8) _ _ _ ((wrap64 (128 + (Int.tmod (wrap64 (Int.tdiv a0 64)) 64))) % 256) [.int .u8 ((wrap64 (128 + (Int.tmod (wrap64 (Int.tdiv a0 64)) 64))) % 256)] from rfl) (Reps.one (show Kd.M (Kd.int .u8) _ _ _ ((wrap64 (128 + (Int.tmod a0 64))) % 256) [.int .u8 ((wrap64 (128 + (Int.tmod a0 64))) % 256)] from rfl) (Reps.none _ _)))))); intro v180 w16 ho17 hb hg_ hnew_; clear hg_ hnew_; (first | rw [← Ny179.out] at ho17 | (simp only [Int.reduceToNat] at ho17; rw [← Ny179.out] at ho17)); have n0_ := Aside0.mk (Kd.R_lower ho17 (below_size (by repeat (first | (with_reducible first | exact HB.out | apply below_alloc | apply pw_below_drewN | apply below_drew1) | exact HB.out)))); have n1_ := Aside0.mk (below_step (by repeat (first | (with_reducible first | exact HB.out | apply below_alloc | apply pw_below_drewN | apply below_drew1) | exact HB.out)) hb); clear HB; have HO181 := n0_; have HB := n1_; clear n0_ n1_; clear hb ho17))
              go_ret2
              exact ⟨_, by first | rfl | (simp [errW_none, errW_some] <;> rfl) | (simp [*, errW_none, errW_some] <;> rfl), by (with_reducible repeat (first | apply Kd.R_alloc | apply Kd.R_drewN | apply Kd.R_drew)); exact HO181.out, by repeat (first | (with_reducible first | exact HB.out | apply below_alloc | apply pw_below_drewN | apply below_drew1) | exact HB.out)⟩


end

section
end

section
end

section
end

end Go.Proofs.YtkipjalfgdfaiaaGreatDoor.PTk
namespace Go.Proofs.YtkipjalfgdfaiaaGreatDoor.PTk
open Go.RowKit Go.Proofs.YtkipjalfgdfaiaaGreatDoorW.PrintWords Go.Proofs.YtkipjalfgdfaiaaGreatDoorW.PrintLast Go.Proofs.YtkipjalfgdfaiaaGreatDoorW.PrintMore
set_option linter.unusedVariables false
set_option linter.unusedSimpArgs false




section
mutual
def rubricatorref13_Print.j0 : Nat → Int → List Int → ByteArray → Option (ByteArray)
  | 0, _, _, _ => none
  | k + 1, x0, x5, x7 => if x0 < 32 then (rubricatorref13_Print.j1 k x0 x5 x7 true) else (rubricatorref13_Print.j1 k x0 x5 x7 (x0 == 127))
def rubricatorref13_Print.j1 : Nat → Int → List Int → ByteArray → Bool → Option (ByteArray)
  | 0, _, _, _, _ => none
  | k + 1, x0, x5, x7, x23 => if x23 = true then (if 0 ≤ (Int.tmod x0 16) then (if (Int.tmod x0 16) ≤ (wrap64 ((Int.tmod x0 16) + 1)) then (if (wrap64 ((Int.tmod x0 16) + 1)) ≤ 16 then (if x0 ≥ 16 then (if 0 ≤ (wrap64 (Int.tdiv x0 16)) then (if (wrap64 (Int.tdiv x0 16)) ≤ (wrap64 ((wrap64 (Int.tdiv x0 16)) + 1)) then (if (wrap64 ((wrap64 (Int.tdiv x0 16)) + 1)) ≤ 16 then (if ((⟨#[48, 49, 50, 51, 52, 53, 54, 55, 56, 57, 65, 66, 67, 68, 69, 70]⟩ : ByteArray).extract ((wrap64 (Int.tdiv x0 16)) : Int).toNat ((wrap64 ((wrap64 (Int.tdiv x0 16)) + 1)) : Int).toNat).size + ((⟨#[48, 49, 50, 51, 52, 53, 54, 55, 56, 57, 65, 66, 67, 68, 69, 70]⟩ : ByteArray).extract ((Int.tmod x0 16) : Int).toNat ((wrap64 ((Int.tmod x0 16) + 1)) : Int).toNat).size ≤ 9223372036854775807 then (if 3 + (((⟨#[48, 49, 50, 51, 52, 53, 54, 55, 56, 57, 65, 66, 67, 68, 69, 70]⟩ : ByteArray).extract ((wrap64 (Int.tdiv x0 16)) : Int).toNat ((wrap64 ((wrap64 (Int.tdiv x0 16)) + 1)) : Int).toNat) ++ ((⟨#[48, 49, 50, 51, 52, 53, 54, 55, 56, 57, 65, 66, 67, 68, 69, 70]⟩ : ByteArray).extract ((Int.tmod x0 16) : Int).toNat ((wrap64 ((Int.tmod x0 16) + 1)) : Int).toNat)).size ≤ 9223372036854775807 then (if ((⟨#[92, 120, 123]⟩ : ByteArray) ++ (((⟨#[48, 49, 50, 51, 52, 53, 54, 55, 56, 57, 65, 66, 67, 68, 69, 70]⟩ : ByteArray).extract ((wrap64 (Int.tdiv x0 16)) : Int).toNat ((wrap64 ((wrap64 (Int.tdiv x0 16)) + 1)) : Int).toNat) ++ ((⟨#[48, 49, 50, 51, 52, 53, 54, 55, 56, 57, 65, 66, 67, 68, 69, 70]⟩ : ByteArray).extract ((Int.tmod x0 16) : Int).toNat ((wrap64 ((Int.tmod x0 16) + 1)) : Int).toNat))).size + 1 ≤ 9223372036854775807 then (some (((⟨#[92, 120, 123]⟩ : ByteArray) ++ (((⟨#[48, 49, 50, 51, 52, 53, 54, 55, 56, 57, 65, 66, 67, 68, 69, 70]⟩ : ByteArray).extract ((wrap64 (Int.tdiv x0 16)) : Int).toNat ((wrap64 ((wrap64 (Int.tdiv x0 16)) + 1)) : Int).toNat) ++ ((⟨#[48, 49, 50, 51, 52, 53, 54, 55, 56, 57, 65, 66, 67, 68, 69, 70]⟩ : ByteArray).extract ((Int.tmod x0 16) : Int).toNat ((wrap64 ((Int.tmod x0 16) + 1)) : Int).toNat))) ++ (⟨#[125]⟩ : ByteArray))) else (none)) else (none)) else (none)) else (none)) else (none)) else (none)) else (if 3 + ((⟨#[48, 49, 50, 51, 52, 53, 54, 55, 56, 57, 65, 66, 67, 68, 69, 70]⟩ : ByteArray).extract ((Int.tmod x0 16) : Int).toNat ((wrap64 ((Int.tmod x0 16) + 1)) : Int).toNat).size ≤ 9223372036854775807 then (if ((⟨#[92, 120, 123]⟩ : ByteArray) ++ ((⟨#[48, 49, 50, 51, 52, 53, 54, 55, 56, 57, 65, 66, 67, 68, 69, 70]⟩ : ByteArray).extract ((Int.tmod x0 16) : Int).toNat ((wrap64 ((Int.tmod x0 16) + 1)) : Int).toNat)).size + 1 ≤ 9223372036854775807 then (some (((⟨#[92, 120, 123]⟩ : ByteArray) ++ ((⟨#[48, 49, 50, 51, 52, 53, 54, 55, 56, 57, 65, 66, 67, 68, 69, 70]⟩ : ByteArray).extract ((Int.tmod x0 16) : Int).toNat ((wrap64 ((Int.tmod x0 16) + 1)) : Int).toNat)) ++ (⟨#[125]⟩ : ByteArray))) else (none)) else (none))) else (none)) else (none)) else (none)) else (rubricatorref13_Print.l0 k x0 x5 x7 0)
def rubricatorref13_Print.l0 : Nat → Int → List Int → ByteArray → Int → Option (ByteArray)
  | 0, _, _, _, _ => none
  | k + 1, x0, x5, x7, x9 => if x9 < (x7.size : Int) then (if 0 ≤ x9 then (if (wrap64 (bt x7 x9)) = x0 then (if 1 + (strOfNums x5).size ≤ 9223372036854775807 then (some ((⟨#[92]⟩ : ByteArray) ++ (strOfNums x5))) else (none)) else (rubricatorref13_Print.l0 k x0 x5 x7 (wrap64 (x9 + 1)))) else (none)) else (some (strOfNums x5))
end
def rubricatorref13_Print.f (k : Nat) (a0 : Int) (a1 : Bool) : Option (ByteArray) := (rubricatorref01_Encode.f k a0).bind fun bt220 => (if bt220.2 = true then (if a1 = true then (rubricatorref13_Print.j0 k a0 bt220.1 (⟨#[91, 93, 94, 45, 38, 126, 92]⟩ : ByteArray)) else (rubricatorref13_Print.j0 k a0 bt220.1 (⟨#[46, 91, 40, 124, 41, 42, 43, 63, 123, 94, 36, 92]⟩ : ByteArray))) else (some (⟨#[]⟩ : ByteArray)))
set_option maxHeartbeats 8000000 in
set_option maxRecDepth 100000 in
theorem rubricatorref13_Print.calls (k : Nat) (a0 : Int) (a1 : Bool) (r : ByteArray) (w : World) (h : rubricatorref13_Print.f k a0 a1 = some r) :
    Calls Tryz.prog 24 #[.int .i64 a0, .bool a1] w fun e w' => e = .returned (.string r) ∧ Below w.heap.size w w' := by
  have HB := Aside0.mk (Below.refl w.heap.size w)
  have H : ((rubricatorref01_Encode.f k a0).bind fun bt220 => (if bt220.2 = true then (if a1 = true then (rubricatorref13_Print.j0 k a0 bt220.1 (⟨#[91, 93, 94, 45, 38, 126, 92]⟩ : ByteArray)) else (rubricatorref13_Print.j0 k a0 bt220.1 (⟨#[46, 91, 40, 124, 41, 42, 43, 63, 123, 94, 36, 92]⟩ : ByteArray))) else (some (⟨#[]⟩ : ByteArray)))) = some r := h
  clear h
  replace H := Option.bind_eq_some_iff.mp H
  obtain ⟨⟨t220, t221⟩, A30, H⟩ := H
  replace H : (if t221 = true then (if a1 = true then (rubricatorref13_Print.j0 k a0 t220 (⟨#[91, 93, 94, 45, 38, 126, 92]⟩ : ByteArray)) else (rubricatorref13_Print.j0 k a0 t220 (⟨#[46, 91, 40, 124, 41, 42, 43, 63, 123, 94, 36, 92]⟩ : ByteArray))) else (some (⟨#[]⟩ : ByteArray))) = some r := H
  have A3 := Aside0.mk A30
  clear A30
  by_cases c4 : t221 = true
  · subst c4
    have H1 : (if a1 = true then (rubricatorref13_Print.j0 k a0 t220 (⟨#[91, 93, 94, 45, 38, 126, 92]⟩ : ByteArray)) else (rubricatorref13_Print.j0 k a0 t220 (⟨#[46, 91, 40, 124, 41, 42, 43, 63, 123, 94, 36, 92]⟩ : ByteArray))) = some r := by rw [if_pos rfl] at H; exact H
    clear H
    have H := H1
    clear H1
    have HC5 := Aside0.mk H
    clear H
    go_enter Tryz.func24, Tryz.ntmps24
    go_upto_if 17 with (first | ((with_reducible refine gate_callee (f := 41) rfl ?_); refine goesL_ (some 12) rfl rfl Tryz.func41 (by kernel_rfl) rfl #[.int .i64 a0] rfl (by (try simp only [List.map_toArray, List.map_cons, List.map_nil]); first | done | rfl | (simp only [List.length_drop, List.length_take]; rfl)) ?_; (with_reducible refine (rubricatorref01_Encode.calls k a0 t220 true _ A3.out).mono ?_); rintro e w6 ⟨v222, rfl, ho0, hb⟩; refine ⟨_, rfl, ?_⟩; have n0_ := Aside0.mk (Kd.R_lower ho0 (below_size (by repeat (first | (with_reducible first | exact HB.out | apply below_alloc | apply pw_below_drewN | apply below_drew1) | exact HB.out)))); have n1_ := Aside0.mk (below_step (by repeat (first | (with_reducible first | exact HB.out | apply below_alloc | apply pw_below_drewN | apply below_drew1) | exact HB.out)) hb); clear HB; have HO223 := n0_; have HB := n1_; clear n0_ n1_; (try clear hb); (try clear hb2); (try clear hk); (try clear hi); (try clear ho0)))
    (try simp only [Act.put, List.setIfInBounds_toArray, List.set_cons_zero, List.set_cons_succ])
    go_cut [7] (fun v7 wc => ∃ (kq : Nat) (x7_4 : ByteArray), v7 = .string x7_4 ∧ Aside0 (rubricatorref13_Print.j0 kq a0 t220 x7_4 = some r) ∧ Aside0 (kq ≤ k) ∧ Aside0 (Kd.R (Kd.int .u8) 5 wc w.heap.size (fun _ => True) v222 t220) ∧ Aside0 (Below w.heap.size w wc))
    case first =>
      have H := HC5.out
      clear HC5
      by_cases c7 : a1 = true
      · subst c7
        have H1 : (rubricatorref13_Print.j0 k a0 t220 (⟨#[91, 93, 94, 45, 38, 126, 92]⟩ : ByteArray)) = some r := by rw [if_pos rfl] at H; exact H
        clear H
        have H := H1
        clear H1
        have H' := Aside0.mk H
        clear H
        go_wp2
        go_meet
        case rel => exact ⟨_, ((⟨#[91, 93, 94, 45, 38, 126, 92]⟩ : ByteArray)), (by first | rfl | (simp; done) | (simp [*]; done)), H', ⟨by first | omega | exact Nat.le_refl _⟩, ⟨by (with_reducible repeat (first | apply Kd.R_alloc | apply Kd.R_drewN | apply Kd.R_drew)); exact HO223.out⟩, ⟨by repeat (first | (with_reducible first | exact HB.out | apply below_alloc | apply pw_below_drewN | apply below_drew1) | exact HB.out)⟩⟩
      · replace c7 := Bool.eq_false_iff.mpr c7
        subst c7
        have H1 : (rubricatorref13_Print.j0 k a0 t220 (⟨#[46, 91, 40, 124, 41, 42, 43, 63, 123, 94, 36, 92]⟩ : ByteArray)) = some r := by rw [if_neg (show ¬ (false = true) by decide)] at H; exact H
        clear H
        have H := H1
        clear H1
        have H' := Aside0.mk H
        clear H
        go_wp2
        go_meet
        case rel => exact ⟨_, ((⟨#[46, 91, 40, 124, 41, 42, 43, 63, 123, 94, 36, 92]⟩ : ByteArray)), (by first | rfl | (simp; done) | (simp [*]; done)), H', ⟨by first | omega | exact Nat.le_refl _⟩, ⟨by (with_reducible repeat (first | apply Kd.R_alloc | apply Kd.R_drewN | apply Kd.R_drew)); exact HO223.out⟩, ⟨by repeat (first | (with_reducible first | exact HB.out | apply below_alloc | apply pw_below_drewN | apply below_drew1) | exact HB.out)⟩⟩
    case rest =>
      clear HC5
      try clear c2
      try clear p2
      try clear c4
      try clear c7
      obtain ⟨kq, x7_4, rfl, HA, HJ4, HO_5, HB⟩ := hcut
      cases kq with
      | zero => exact absurd HA.out (by simp [rubricatorref13_Print.j0])
      | succ kj4 =>
        have H := HA.out
        clear HA
        simp only [rubricatorref13_Print.j0] at H
        have HC8 := Aside0.mk H
        clear H
        go_upto_region 7 with (fail)
        go_cut [23] (fun v23 wc => ∃ (kq : Nat) (x23_7 : Bool), v23 = .bool x23_7 ∧ Aside0 (rubricatorref13_Print.j1 kq a0 t220 x7_4 x23_7 = some r) ∧ Aside0 (kq ≤ kj4) ∧ Aside0 (Kd.R (Kd.int .u8) 5 wc w.heap.size (fun _ => True) v222 t220) ∧ Aside0 (Below w.heap.size w wc))
        case first =>
          have H := HC8.out
          clear HC8
          by_cases c9 : a0 < 32
          · rw [if_pos c9] at H
            have c9b0 : decide (a0 < 32) = true := decide_eq_true c9
            clear c9
            (first | rw [c9b0] | (simp only [i64_w, i32_w]; rw [c9b0]) | skip)
            have H' := Aside0.mk H
            clear H
            go_wp2
            go_meet
            case rel => exact ⟨_, (true), (by first | rfl | (simp; done) | (simp [*]; done)), H', ⟨by have := HJ4.out; first | omega | exact Nat.le_refl _⟩, ⟨by (with_reducible repeat (first | apply Kd.R_alloc | apply Kd.R_drewN | apply Kd.R_drew)); exact HO_5.out⟩, ⟨by repeat (first | (with_reducible first | exact HB.out | apply below_alloc | apply pw_below_drewN | apply below_drew1) | exact HB.out)⟩⟩
          · rw [if_neg c9] at H
            have c9b0 : decide (a0 < 32) = false := decide_eq_false c9
            clear c9
            (first | rw [c9b0] | (simp only [i64_w, i32_w]; rw [c9b0]) | skip)
            have H' := Aside0.mk H
            clear H
            go_wp2
            go_meet
            case rel => exact ⟨_, ((a0 == 127)), (by first | rfl | (simp; done) | (simp [*]; done)), H', ⟨by have := HJ4.out; first | omega | exact Nat.le_refl _⟩, ⟨by (with_reducible repeat (first | apply Kd.R_alloc | apply Kd.R_drewN | apply Kd.R_drew)); exact HO_5.out⟩, ⟨by repeat (first | (with_reducible first | exact HB.out | apply below_alloc | apply pw_below_drewN | apply below_drew1) | exact HB.out)⟩⟩
        case rest =>
          clear HC8
          try clear c2
          try clear p2
          try clear c4
          try clear c7
          try clear c9
          try clear c9b0
          try clear p2
          obtain ⟨kq, x23_7, rfl, HA, HJ7, HO_5, HB⟩ := hcut
          cases kq with
          | zero => exact absurd HA.out (by simp [rubricatorref13_Print.j1])
          | succ kj7 =>
            have H := HA.out
            clear HA
            simp only [rubricatorref13_Print.j1] at H
            by_cases c10 : x23_7 = true
            · subst c10
              have H1 : (if 0 ≤ (Int.tmod a0 16) then (if (Int.tmod a0 16) ≤ (wrap64 ((Int.tmod a0 16) + 1)) then (if (wrap64 ((Int.tmod a0 16) + 1)) ≤ 16 then (if a0 ≥ 16 then (if 0 ≤ (wrap64 (Int.tdiv a0 16)) then (if (wrap64 (Int.tdiv a0 16)) ≤ (wrap64 ((wrap64 (Int.tdiv a0 16)) + 1)) then (if (wrap64 ((wrap64 (Int.tdiv a0 16)) + 1)) ≤ 16 then (if ((⟨#[48, 49, 50, 51, 52, 53, 54, 55, 56, 57, 65, 66, 67, 68, 69, 70]⟩ : ByteArray).extract ((wrap64 (Int.tdiv a0 16)) : Int).toNat ((wrap64 ((wrap64 (Int.tdiv a0 16)) + 1)) : Int).toNat).size + ((⟨#[48, 49, 50, 51, 52, 53, 54, 55, 56, 57, 65, 66, 67, 68, 69, 70]⟩ : ByteArray).extract ((Int.tmod a0 16) : Int).toNat ((wrap64 ((Int.tmod a0 16) + 1)) : Int).toNat).size ≤ 9223372036854775807 then (if 3 + (((⟨#[48, 49, 50, 51, 52, 53, 54, 55, 56, 57, 65, 66, 67, 68, 69, 70]⟩ : ByteArray).extract ((wrap64 (Int.tdiv a0 16)) : Int).toNat ((wrap64 ((wrap64 (Int.tdiv a0 16)) + 1)) : Int).toNat) ++ ((⟨#[48, 49, 50, 51, 52, 53, 54, 55, 56, 57, 65, 66, 67, 68, 69, 70]⟩ : ByteArray).extract ((Int.tmod a0 16) : Int).toNat ((wrap64 ((Int.tmod a0 16) + 1)) : Int).toNat)).size ≤ 9223372036854775807 then (if ((⟨#[92, 120, 123]⟩ : ByteArray) ++ (((⟨#[48, 49, 50, 51, 52, 53, 54, 55, 56, 57, 65, 66, 67, 68, 69, 70]⟩ : ByteArray).extract ((wrap64 (Int.tdiv a0 16)) : Int).toNat ((wrap64 ((wrap64 (Int.tdiv a0 16)) + 1)) : Int).toNat) ++ ((⟨#[48, 49, 50, 51, 52, 53, 54, 55, 56, 57, 65, 66, 67, 68, 69, 70]⟩ : ByteArray).extract ((Int.tmod a0 16) : Int).toNat ((wrap64 ((Int.tmod a0 16) + 1)) : Int).toNat))).size + 1 ≤ 9223372036854775807 then (some (((⟨#[92, 120, 123]⟩ : ByteArray) ++ (((⟨#[48, 49, 50, 51, 52, 53, 54, 55, 56, 57, 65, 66, 67, 68, 69, 70]⟩ : ByteArray).extract ((wrap64 (Int.tdiv a0 16)) : Int).toNat ((wrap64 ((wrap64 (Int.tdiv a0 16)) + 1)) : Int).toNat) ++ ((⟨#[48, 49, 50, 51, 52, 53, 54, 55, 56, 57, 65, 66, 67, 68, 69, 70]⟩ : ByteArray).extract ((Int.tmod a0 16) : Int).toNat ((wrap64 ((Int.tmod a0 16) + 1)) : Int).toNat))) ++ (⟨#[125]⟩ : ByteArray))) else (none)) else (none)) else (none)) else (none)) else (none)) else (none)) else (if 3 + ((⟨#[48, 49, 50, 51, 52, 53, 54, 55, 56, 57, 65, 66, 67, 68, 69, 70]⟩ : ByteArray).extract ((Int.tmod a0 16) : Int).toNat ((wrap64 ((Int.tmod a0 16) + 1)) : Int).toNat).size ≤ 9223372036854775807 then (if ((⟨#[92, 120, 123]⟩ : ByteArray) ++ ((⟨#[48, 49, 50, 51, 52, 53, 54, 55, 56, 57, 65, 66, 67, 68, 69, 70]⟩ : ByteArray).extract ((Int.tmod a0 16) : Int).toNat ((wrap64 ((Int.tmod a0 16) + 1)) : Int).toNat)).size + 1 ≤ 9223372036854775807 then (some (((⟨#[92, 120, 123]⟩ : ByteArray) ++ ((⟨#[48, 49, 50, 51, 52, 53, 54, 55, 56, 57, 65, 66, 67, 68, 69, 70]⟩ : ByteArray).extract ((Int.tmod a0 16) : Int).toNat ((wrap64 ((Int.tmod a0 16) + 1)) : Int).toNat)) ++ (⟨#[125]⟩ : ByteArray))) else (none)) else (none))) else (none)) else (none)) else (none)) = some r := by rw [if_pos rfl] at H; exact H
              clear H
              have H := H1
              clear H1
              obtain ⟨ji11, hji11⟩ : ∃ j_ : Int, (Int.tmod a0 16) = j_ := ⟨_, rfl⟩
              replace H : (if 0 ≤ (ji11) then (if (ji11) ≤ (wrap64 ((ji11) + 1)) then (if (wrap64 ((ji11) + 1)) ≤ 16 then (if a0 ≥ 16 then (if 0 ≤ (wrap64 (Int.tdiv a0 16)) then (if (wrap64 (Int.tdiv a0 16)) ≤ (wrap64 ((wrap64 (Int.tdiv a0 16)) + 1)) then (if (wrap64 ((wrap64 (Int.tdiv a0 16)) + 1)) ≤ 16 then (if ((⟨#[48, 49, 50, 51, 52, 53, 54, 55, 56, 57, 65, 66, 67, 68, 69, 70]⟩ : ByteArray).extract ((wrap64 (Int.tdiv a0 16)) : Int).toNat ((wrap64 ((wrap64 (Int.tdiv a0 16)) + 1)) : Int).toNat).size + ((⟨#[48, 49, 50, 51, 52, 53, 54, 55, 56, 57, 65, 66, 67, 68, 69, 70]⟩ : ByteArray).extract ((ji11) : Int).toNat ((wrap64 ((ji11) + 1)) : Int).toNat).size ≤ 9223372036854775807 then (if 3 + (((⟨#[48, 49, 50, 51, 52, 53, 54, 55, 56, 57, 65, 66, 67, 68, 69, 70]⟩ : ByteArray).extract ((wrap64 (Int.tdiv a0 16)) : Int).toNat ((wrap64 ((wrap64 (Int.tdiv a0 16)) + 1)) : Int).toNat) ++ ((⟨#[48, 49, 50, 51, 52, 53, 54, 55, 56, 57, 65, 66, 67, 68, 69, 70]⟩ : ByteArray).extract ((ji11) : Int).toNat ((wrap64 ((ji11) + 1)) : Int).toNat)).size ≤ 9223372036854775807 then (if ((⟨#[92, 120, 123]⟩ : ByteArray) ++ (((⟨#[48, 49, 50, 51, 52, 53, 54, 55, 56, 57, 65, 66, 67, 68, 69, 70]⟩ : ByteArray).extract ((wrap64 (Int.tdiv a0 16)) : Int).toNat ((wrap64 ((wrap64 (Int.tdiv a0 16)) + 1)) : Int).toNat) ++ ((⟨#[48, 49, 50, 51, 52, 53, 54, 55, 56, 57, 65, 66, 67, 68, 69, 70]⟩ : ByteArray).extract ((ji11) : Int).toNat ((wrap64 ((ji11) + 1)) : Int).toNat))).size + 1 ≤ 9223372036854775807 then (some (((⟨#[92, 120, 123]⟩ : ByteArray) ++ (((⟨#[48, 49, 50, 51, 52, 53, 54, 55, 56, 57, 65, 66, 67, 68, 69, 70]⟩ : ByteArray).extract ((wrap64 (Int.tdiv a0 16)) : Int).toNat ((wrap64 ((wrap64 (Int.tdiv a0 16)) + 1)) : Int).toNat) ++ ((⟨#[48, 49, 50, 51, 52, 53, 54, 55, 56, 57, 65, 66, 67, 68, 69, 70]⟩ : ByteArray).extract ((ji11) : Int).toNat ((wrap64 ((ji11) + 1)) : Int).toNat))) ++ (⟨#[125]⟩ : ByteArray))) else (none)) else (none)) else (none)) else (none)) else (none)) else (none)) else (if 3 + ((⟨#[48, 49, 50, 51, 52, 53, 54, 55, 56, 57, 65, 66, 67, 68, 69, 70]⟩ : ByteArray).extract ((ji11) : Int).toNat ((wrap64 ((ji11) + 1)) : Int).toNat).size ≤ 9223372036854775807 then (if ((⟨#[92, 120, 123]⟩ : ByteArray) ++ ((⟨#[48, 49, 50, 51, 52, 53, 54, 55, 56, 57, 65, 66, 67, 68, 69, 70]⟩ : ByteArray).extract ((ji11) : Int).toNat ((wrap64 ((ji11) + 1)) : Int).toNat)).size + 1 ≤ 9223372036854775807 then (some (((⟨#[92, 120, 123]⟩ : ByteArray) ++ ((⟨#[48, 49, 50, 51, 52, 53, 54, 55, 56, 57, 65, 66, 67, 68, 69, 70]⟩ : ByteArray).extract ((ji11) : Int).toNat ((wrap64 ((ji11) + 1)) : Int).toNat)) ++ (⟨#[125]⟩ : ByteArray))) else (none)) else (none))) else (none)) else (none)) else (none)) = some r := by first | (rw [hji11] at H; exact H) | (simp only [hji11] at H ⊢; exact H)
              by_cases c12 : 0 ≤ (ji11)
              · rw [if_pos c12] at H
                have c12b0 := eq_true c12
                have c12b1 : decide (0 ≤ (ji11)) = true := decide_eq_true c12
                clear c12
                by_cases c13 : (ji11) ≤ (wrap64 ((ji11) + 1))
                · rw [if_pos c13] at H
                  have c13b0 := eq_true c13
                  have c13b1 : decide ((ji11) ≤ (wrap64 ((ji11) + 1))) = true := decide_eq_true c13
                  by_cases c14 : (wrap64 ((ji11) + 1)) ≤ 16
                  · rw [if_pos c14] at H
                    have c14b0 := eq_true c14
                    have c14b1 : decide ((wrap64 ((ji11) + 1)) ≤ 16) = true := decide_eq_true c14
                    by_cases c15 : a0 ≥ 16
                    · rw [if_pos c15] at H
                      have c15b0 : decide (16 ≤ a0) = true := decide_eq_true c15
                      clear c15
                      obtain ⟨ji16, hji16⟩ : ∃ j_ : Int, (wrap64 (Int.tdiv a0 16)) = j_ := ⟨_, rfl⟩
                      replace H : (if 0 ≤ (ji16) then (if (ji16) ≤ (wrap64 ((ji16) + 1)) then (if (wrap64 ((ji16) + 1)) ≤ 16 then (if ((⟨#[48, 49, 50, 51, 52, 53, 54, 55, 56, 57, 65, 66, 67, 68, 69, 70]⟩ : ByteArray).extract ((ji16) : Int).toNat ((wrap64 ((ji16) + 1)) : Int).toNat).size + ((⟨#[48, 49, 50, 51, 52, 53, 54, 55, 56, 57, 65, 66, 67, 68, 69, 70]⟩ : ByteArray).extract ((ji11) : Int).toNat ((wrap64 ((ji11) + 1)) : Int).toNat).size ≤ 9223372036854775807 then (if 3 + (((⟨#[48, 49, 50, 51, 52, 53, 54, 55, 56, 57, 65, 66, 67, 68, 69, 70]⟩ : ByteArray).extract ((ji16) : Int).toNat ((wrap64 ((ji16) + 1)) : Int).toNat) ++ ((⟨#[48, 49, 50, 51, 52, 53, 54, 55, 56, 57, 65, 66, 67, 68, 69, 70]⟩ : ByteArray).extract ((ji11) : Int).toNat ((wrap64 ((ji11) + 1)) : Int).toNat)).size ≤ 9223372036854775807 then (if ((⟨#[92, 120, 123]⟩ : ByteArray) ++ (((⟨#[48, 49, 50, 51, 52, 53, 54, 55, 56, 57, 65, 66, 67, 68, 69, 70]⟩ : ByteArray).extract ((ji16) : Int).toNat ((wrap64 ((ji16) + 1)) : Int).toNat) ++ ((⟨#[48, 49, 50, 51, 52, 53, 54, 55, 56, 57, 65, 66, 67, 68, 69, 70]⟩ : ByteArray).extract ((ji11) : Int).toNat ((wrap64 ((ji11) + 1)) : Int).toNat))).size + 1 ≤ 9223372036854775807 then (some (((⟨#[92, 120, 123]⟩ : ByteArray) ++ (((⟨#[48, 49, 50, 51, 52, 53, 54, 55, 56, 57, 65, 66, 67, 68, 69, 70]⟩ : ByteArray).extract ((ji16) : Int).toNat ((wrap64 ((ji16) + 1)) : Int).toNat) ++ ((⟨#[48, 49, 50, 51, 52, 53, 54, 55, 56, 57, 65, 66, 67, 68, 69, 70]⟩ : ByteArray).extract ((ji11) : Int).toNat ((wrap64 ((ji11) + 1)) : Int).toNat))) ++ (⟨#[125]⟩ : ByteArray))) else (none)) else (none)) else (none)) else (none)) else (none)) else (none)) = some r := by first | (rw [hji16] at H; exact H) | (simp only [hji16] at H ⊢; exact H)
                      have hji16w : (IntKind.i64.wrap (Int.tdiv a0 16)) = ji16 := (i64_w _).trans hji16
                      by_cases c17 : 0 ≤ (ji16)
                      · rw [if_pos c17] at H
                        have c17b0 := eq_true c17
                        have c17b1 : decide (0 ≤ (ji16)) = true := decide_eq_true c17
                        clear c17
                        by_cases c18 : (ji16) ≤ (wrap64 ((ji16) + 1))
                        · rw [if_pos c18] at H
                          have c18b0 := eq_true c18
                          have c18b1 : decide ((ji16) ≤ (wrap64 ((ji16) + 1))) = true := decide_eq_true c18
                          by_cases c19 : (wrap64 ((ji16) + 1)) ≤ 16
                          · rw [if_pos c19] at H
                            have c19b0 := eq_true c19
                            have c19b1 : decide ((wrap64 ((ji16) + 1)) ≤ 16) = true := decide_eq_true c19
                            by_cases c20 : ((⟨#[48, 49, 50, 51, 52, 53, 54, 55, 56, 57, 65, 66, 67, 68, 69, 70]⟩ : ByteArray).extract ((ji16) : Int).toNat ((wrap64 ((ji16) + 1)) : Int).toNat).size + ((⟨#[48, 49, 50, 51, 52, 53, 54, 55, 56, 57, 65, 66, 67, 68, 69, 70]⟩ : ByteArray).extract ((ji11) : Int).toNat ((wrap64 ((ji11) + 1)) : Int).toNat).size ≤ 9223372036854775807
                            · rw [if_pos c20] at H
                              have c20b0 := eq_true c20
                              have c20b1 : decide (((⟨#[48, 49, 50, 51, 52, 53, 54, 55, 56, 57, 65, 66, 67, 68, 69, 70]⟩ : ByteArray).extract ((ji16) : Int).toNat ((wrap64 ((ji16) + 1)) : Int).toNat).size + ((⟨#[48, 49, 50, 51, 52, 53, 54, 55, 56, 57, 65, 66, 67, 68, 69, 70]⟩ : ByteArray).extract ((ji11) : Int).toNat ((wrap64 ((ji11) + 1)) : Int).toNat).size ≤ 9223372036854775807) = true := decide_eq_true c20
                              try have c20b2 : (9223372036854775807 < ((⟨#[48, 49, 50, 51, 52, 53, 54, 55, 56, 57, 65, 66, 67, 68, 69, 70]⟩ : ByteArray).extract ((ji16) : Int).toNat ((wrap64 ((ji16) + 1)) : Int).toNat).size + ((⟨#[48, 49, 50, 51, 52, 53, 54, 55, 56, 57, 65, 66, 67, 68, 69, 70]⟩ : ByteArray).extract ((ji11) : Int).toNat ((wrap64 ((ji11) + 1)) : Int).toNat).size) = False := eq_false (Nat.not_lt.2 c20)
                              by_cases c21 : 3 + (((⟨#[48, 49, 50, 51, 52, 53, 54, 55, 56, 57, 65, 66, 67, 68, 69, 70]⟩ : ByteArray).extract ((ji16) : Int).toNat ((wrap64 ((ji16) + 1)) : Int).toNat) ++ ((⟨#[48, 49, 50, 51, 52, 53, 54, 55, 56, 57, 65, 66, 67, 68, 69, 70]⟩ : ByteArray).extract ((ji11) : Int).toNat ((wrap64 ((ji11) + 1)) : Int).toNat)).size ≤ 9223372036854775807
                              · rw [if_pos c21] at H
                                have c21b0 := eq_true c21
                                have c21b1 : decide (3 + (((⟨#[48, 49, 50, 51, 52, 53, 54, 55, 56, 57, 65, 66, 67, 68, 69, 70]⟩ : ByteArray).extract ((ji16) : Int).toNat ((wrap64 ((ji16) + 1)) : Int).toNat) ++ ((⟨#[48, 49, 50, 51, 52, 53, 54, 55, 56, 57, 65, 66, 67, 68, 69, 70]⟩ : ByteArray).extract ((ji11) : Int).toNat ((wrap64 ((ji11) + 1)) : Int).toNat)).size ≤ 9223372036854775807) = true := decide_eq_true c21
                                try have c21b2 : (9223372036854775807 < 3 + (((⟨#[48, 49, 50, 51, 52, 53, 54, 55, 56, 57, 65, 66, 67, 68, 69, 70]⟩ : ByteArray).extract ((ji16) : Int).toNat ((wrap64 ((ji16) + 1)) : Int).toNat) ++ ((⟨#[48, 49, 50, 51, 52, 53, 54, 55, 56, 57, 65, 66, 67, 68, 69, 70]⟩ : ByteArray).extract ((ji11) : Int).toNat ((wrap64 ((ji11) + 1)) : Int).toNat)).size) = False := eq_false (Nat.not_lt.2 c21)
                                by_cases c22 : ((⟨#[92, 120, 123]⟩ : ByteArray) ++ (((⟨#[48, 49, 50, 51, 52, 53, 54, 55, 56, 57, 65, 66, 67, 68, 69, 70]⟩ : ByteArray).extract ((ji16) : Int).toNat ((wrap64 ((ji16) + 1)) : Int).toNat) ++ ((⟨#[48, 49, 50, 51, 52, 53, 54, 55, 56, 57, 65, 66, 67, 68, 69, 70]⟩ : ByteArray).extract ((ji11) : Int).toNat ((wrap64 ((ji11) + 1)) : Int).toNat))).size + 1 ≤ 9223372036854775807
                                · rw [if_pos c22] at H
                                  have c22b0 := eq_true c22
                                  have c22b1 : decide (((⟨#[92, 120, 123]⟩ : ByteArray) ++ (((⟨#[48, 49, 50, 51, 52, 53, 54, 55, 56, 57, 65, 66, 67, 68, 69, 70]⟩ : ByteArray).extract ((ji16) : Int).toNat ((wrap64 ((ji16) + 1)) : Int).toNat) ++ ((⟨#[48, 49, 50, 51, 52, 53, 54, 55, 56, 57, 65, 66, 67, 68, 69, 70]⟩ : ByteArray).extract ((ji11) : Int).toNat ((wrap64 ((ji11) + 1)) : Int).toNat))).size + 1 ≤ 9223372036854775807) = true := decide_eq_true c22
                                  try have c22b2 : (9223372036854775807 < ((⟨#[92, 120, 123]⟩ : ByteArray) ++ (((⟨#[48, 49, 50, 51, 52, 53, 54, 55, 56, 57, 65, 66, 67, 68, 69, 70]⟩ : ByteArray).extract ((ji16) : Int).toNat ((wrap64 ((ji16) + 1)) : Int).toNat) ++ ((⟨#[48, 49, 50, 51, 52, 53, 54, 55, 56, 57, 65, 66, 67, 68, 69, 70]⟩ : ByteArray).extract ((ji11) : Int).toNat ((wrap64 ((ji11) + 1)) : Int).toNat))).size + 1) = False := eq_false (Nat.not_lt.2 c22)
                                  obtain rfl := Option.some.inj H
                                  go_wp2
                                  go_ret
                                  exact ⟨by first | rfl | (simp [errW_none, errW_some] <;> rfl) | (simp only [← hji11, ← hji16]; first | rfl | (simp [errW_none, errW_some] <;> rfl)) | (simp [*, errW_none, errW_some] <;> rfl), by repeat (first | (with_reducible first | exact HB.out | apply below_alloc | apply pw_below_drewN | apply below_drew1) | exact HB.out)⟩
                                · rw [if_neg c22] at H
                                  exact absurd H (by simp)
                              · rw [if_neg c21] at H
                                exact absurd H (by simp)
                            · rw [if_neg c20] at H
                              exact absurd H (by simp)
                          · rw [if_neg c19] at H
                            exact absurd H (by simp)
                        · rw [if_neg c18] at H
                          exact absurd H (by simp)
                      · rw [if_neg c17] at H
                        exact absurd H (by simp)
                    · rw [if_neg c15] at H
                      have c15b0 : decide (16 ≤ a0) = false := decide_eq_false c15
                      clear c15
                      by_cases c23 : 3 + ((⟨#[48, 49, 50, 51, 52, 53, 54, 55, 56, 57, 65, 66, 67, 68, 69, 70]⟩ : ByteArray).extract ((ji11) : Int).toNat ((wrap64 ((ji11) + 1)) : Int).toNat).size ≤ 9223372036854775807
                      · rw [if_pos c23] at H
                        have c23b0 := eq_true c23
                        have c23b1 : decide (3 + ((⟨#[48, 49, 50, 51, 52, 53, 54, 55, 56, 57, 65, 66, 67, 68, 69, 70]⟩ : ByteArray).extract ((ji11) : Int).toNat ((wrap64 ((ji11) + 1)) : Int).toNat).size ≤ 9223372036854775807) = true := decide_eq_true c23
                        try have c23b2 : (9223372036854775807 < 3 + ((⟨#[48, 49, 50, 51, 52, 53, 54, 55, 56, 57, 65, 66, 67, 68, 69, 70]⟩ : ByteArray).extract ((ji11) : Int).toNat ((wrap64 ((ji11) + 1)) : Int).toNat).size) = False := eq_false (Nat.not_lt.2 c23)
                        by_cases c24 : ((⟨#[92, 120, 123]⟩ : ByteArray) ++ ((⟨#[48, 49, 50, 51, 52, 53, 54, 55, 56, 57, 65, 66, 67, 68, 69, 70]⟩ : ByteArray).extract ((ji11) : Int).toNat ((wrap64 ((ji11) + 1)) : Int).toNat)).size + 1 ≤ 9223372036854775807
                        · rw [if_pos c24] at H
                          have c24b0 := eq_true c24
                          have c24b1 : decide (((⟨#[92, 120, 123]⟩ : ByteArray) ++ ((⟨#[48, 49, 50, 51, 52, 53, 54, 55, 56, 57, 65, 66, 67, 68, 69, 70]⟩ : ByteArray).extract ((ji11) : Int).toNat ((wrap64 ((ji11) + 1)) : Int).toNat)).size + 1 ≤ 9223372036854775807) = true := decide_eq_true c24
                          try have c24b2 : (9223372036854775807 < ((⟨#[92, 120, 123]⟩ : ByteArray) ++ ((⟨#[48, 49, 50, 51, 52, 53, 54, 55, 56, 57, 65, 66, 67, 68, 69, 70]⟩ : ByteArray).extract ((ji11) : Int).toNat ((wrap64 ((ji11) + 1)) : Int).toNat)).size + 1) = False := eq_false (Nat.not_lt.2 c24)
                          obtain rfl := Option.some.inj H
                          go_wp2
                          go_ret
                          exact ⟨by first | rfl | (simp [errW_none, errW_some] <;> rfl) | (simp only [← hji11]; first | rfl | (simp [errW_none, errW_some] <;> rfl)) | (simp [*, errW_none, errW_some] <;> rfl), by repeat (first | (with_reducible first | exact HB.out | apply below_alloc | apply pw_below_drewN | apply below_drew1) | exact HB.out)⟩
                        · rw [if_neg c24] at H
                          exact absurd H (by simp)
                      · rw [if_neg c23] at H
                        exact absurd H (by simp)
                  · rw [if_neg c14] at H
                    exact absurd H (by simp)
                · rw [if_neg c13] at H
                  exact absurd H (by simp)
              · rw [if_neg c12] at H
                exact absurd H (by simp)
            · replace c10 := Bool.eq_false_iff.mpr c10
              subst c10
              have H1 : (rubricatorref13_Print.l0 kj7 a0 t220 x7_4 0) = some r := by rw [if_neg (show ¬ (false = true) by decide)] at H; exact H
              clear H
              have H := H1
              clear H1
              have H' := Aside0.mk H
              clear H
              go_wp2
              go_loopg [9] kj7 (fun kq v9 w' => ∃ (x9_3 : Int), v9 = .int .i64 x9_3 ∧ Aside0 (rubricatorref13_Print.l0 kq a0 t220 x7_4 x9_3 = some r) ∧ Aside0 (kq ≤ kj7) ∧ Aside0 (Kd.R (Kd.int .u8) 5 w' w.heap.size (fun _ => True) v222 t220) ∧ Aside0 (Below w.heap.size w w'))
              case atStart => exact ⟨(0), (by first | rfl | (simp; done) | (simp [*]; done)), H', ⟨Nat.le_refl _⟩, ⟨by (with_reducible repeat (first | apply Kd.R_alloc | apply Kd.R_drewN | apply Kd.R_drew)); exact HO_5.out⟩, ⟨by repeat (first | (with_reducible first | exact HB.out | apply below_alloc | apply pw_below_drewN | apply below_drew1) | exact HB.out)⟩⟩
              case round =>
                clear H'
                try clear c1
                try clear c2
                try clear p2
                try clear c4
                try clear p6
                try clear c7
                try clear c9
                try clear c9b0
                try clear c10
                try clear c12
                try clear c12b0
                try clear c12b1
                try clear c13
                try clear c13b0
                try clear c13b1
                try clear c14
                try clear c14b0
                try clear c14b1
                try clear c15
                try clear c15b0
                try clear c17
                try clear c17b0
                try clear c17b1
                try clear c18
                try clear c18b0
                try clear c18b1
                try clear c19
                try clear c19b0
                try clear c19b1
                try clear c20
                try clear c20b0
                try clear c20b1
                try clear c20b2
                try clear c21
                try clear c21b0
                try clear c21b1
                try clear c21b2
                try clear c22
                try clear c22b0
                try clear c22b1
                try clear c22b2
                try clear c23
                try clear c23b0
                try clear c23b1
                try clear c23b2
                try clear c24
                try clear c24b0
                try clear c24b1
                try clear c24b2
                try clear p2
                obtain ⟨x9_3, rfl, HA, HK3, HO_5, HB⟩ := hrel
                cases gk with
                | zero => exact absurd HA.out (by simp [rubricatorref13_Print.l0])
                | succ k3 =>
                  have H := HA.out
                  clear HA
                  simp only [rubricatorref13_Print.l0] at H
                  by_cases c25 : x9_3 < (x7_4.size : Int)
                  · rw [if_pos c25] at H
                    have c25b0 : decide (x9_3 < (x7_4.size : Int)) = true := decide_eq_true c25
                    clear c25
                    by_cases c26 : 0 ≤ x9_3
                    · rw [if_pos c26] at H
                      have c26b0 : decide (0 ≤ x9_3) = true := decide_eq_true c26
                      clear c26
                      by_cases c28 : (wrap64 (bt x7_4 x9_3)) = a0
                      · rw [if_pos c28] at H
                        have c28b0 : ((wrap64 (bt x7_4 x9_3)) == a0) = true := beq_iff_eq.mpr c28
                        have c28b1 : ((wrap64 (bt x7_4 x9_3)) != a0) = false := bne_eq_false_iff_eq.mpr c28
                        clear c28
                        by_cases c29 : 1 + (strOfNums t220).size ≤ 9223372036854775807
                        · rw [if_pos c29] at H
                          have c29b0 := eq_true c29
                          have c29b1 : decide (1 + (strOfNums t220).size ≤ 9223372036854775807) = true := decide_eq_true c29
                          try have c29b2 : (9223372036854775807 < 1 + (strOfNums t220).size) = False := eq_false (Nat.not_lt.2 c29)
                          obtain rfl := Option.some.inj H
                          have p27 : 0 ≤ (x9_3 : Int) := of_decide_eq_true (by first | (with_reducible assumption) | assumption)
                          have q27 : x9_3 < (x7_4.size : Int) := of_decide_eq_true (by first | (with_reducible assumption) | assumption)
                          have hx27 := bt_at x7_4 x9_3
                          replace p27 := eq_true p27
                          replace q27 := eq_true q27
                          have hcv30 := own_string (P := Tryz.prog) Tryz.underlying34 Tryz.underlying5 Tryz.underlying9 (Kd.own_of_R HO_5.out)
                          go_wp2
                          go_ret
                          exact ⟨by first | rfl | (simp [errW_none, errW_some] <;> rfl) | (simp [*, errW_none, errW_some] <;> rfl), by repeat (first | (with_reducible first | exact HB.out | apply below_alloc | apply pw_below_drewN | apply below_drew1) | exact HB.out)⟩
                        · rw [if_neg c29] at H
                          exact absurd H (by simp)
                      · rw [if_neg c28] at H
                        have c28b0 : ((wrap64 (bt x7_4 x9_3)) == a0) = false := beq_eq_false_iff_ne.mpr c28
                        have c28b1 : ((wrap64 (bt x7_4 x9_3)) != a0) = true := bne_iff_ne.mpr c28
                        have H' := Aside0.mk H
                        clear H
                        have p27 : 0 ≤ (x9_3 : Int) := of_decide_eq_true (by first | (with_reducible assumption) | assumption)
                        have q27 : x9_3 < (x7_4.size : Int) := of_decide_eq_true (by first | (with_reducible assumption) | assumption)
                        have hx27 := bt_at x7_4 x9_3
                        replace p27 := eq_true p27
                        replace q27 := eq_true q27
                        go_wp2
                        go_roundg k3
                        case measure => have := HJ4.out; have := HJ7.out; have := HK3.out; omega
                        case rel => exact ⟨(wrap64 (x9_3 + 1)), (by first | rfl | (simp; done) | (simp [*]; done)), H', ⟨by have := HJ4.out; have := HJ7.out; have := HK3.out; omega⟩, ⟨by (with_reducible repeat (first | apply Kd.R_alloc | apply Kd.R_drewN | apply Kd.R_drew)); exact HO_5.out⟩, ⟨by repeat (first | (with_reducible first | exact HB.out | apply below_alloc | apply pw_below_drewN | apply below_drew1) | exact HB.out)⟩⟩
                    · rw [if_neg c26] at H
                      exact absurd H (by simp)
                  · rw [if_neg c25] at H
                    have c25b0 : decide (x9_3 < (x7_4.size : Int)) = false := decide_eq_false c25
                    clear c25
                    obtain rfl := Option.some.inj H
                    have hcv31 := own_string (P := Tryz.prog) Tryz.underlying34 Tryz.underlying5 Tryz.underlying9 (Kd.own_of_R HO_5.out)
                    go_wp2
                    go_ret
                    exact ⟨by first | rfl | (simp [errW_none, errW_some] <;> rfl) | (simp [*, errW_none, errW_some] <;> rfl), by repeat (first | (with_reducible first | exact HB.out | apply below_alloc | apply pw_below_drewN | apply below_drew1) | exact HB.out)⟩
  · replace c4 := Bool.eq_false_iff.mpr c4
    subst c4
    have H1 : (some (⟨#[]⟩ : ByteArray)) = some r := by rw [if_neg (show ¬ (false = true) by decide)] at H; exact H
    clear H
    have H := H1
    clear H1
    obtain rfl := Option.some.inj H
    go_enter Tryz.func24, Tryz.ntmps24
    go_wp2_with (first | ((with_reducible refine gate_callee (f := 41) rfl ?_); refine goesL_ (some 12) rfl rfl Tryz.func41 (by kernel_rfl) rfl #[.int .i64 a0] rfl (by (try simp only [List.map_toArray, List.map_cons, List.map_nil]); first | done | rfl | (simp only [List.length_drop, List.length_take]; rfl)) ?_; (with_reducible refine (rubricatorref01_Encode.calls k a0 t220 false _ A3.out).mono ?_); rintro e w32 ⟨v222, rfl, ho0, hb⟩; refine ⟨_, rfl, ?_⟩; have n0_ := Aside0.mk (Kd.R_lower ho0 (below_size (by repeat (first | (with_reducible first | exact HB.out | apply below_alloc | apply pw_below_drewN | apply below_drew1) | exact HB.out)))); have n1_ := Aside0.mk (below_step (by repeat (first | (with_reducible first | exact HB.out | apply below_alloc | apply pw_below_drewN | apply below_drew1) | exact HB.out)) hb); clear HB; have HO223 := n0_; have HB := n1_; clear n0_ n1_; (try clear hb); (try clear hb2); (try clear hk); (try clear hi); (try clear ho0)))
    go_ret
    exact ⟨by first | rfl | (simp [errW_none, errW_some] <;> rfl) | (simp [*, errW_none, errW_some] <;> rfl), by repeat (first | (with_reducible first | exact HB.out | apply below_alloc | apply pw_below_drewN | apply below_drew1) | exact HB.out)⟩



end

end Go.Proofs.YtkipjalfgdfaiaaGreatDoor.PTk
namespace Go.Proofs.YtkipjalfgdfaiaaGreatDoor
set_option linter.unusedVariables false
set_option linter.unusedSimpArgs false
open Go.RowKit Go.Proofs.YtkipjalfgdfaiaaGreatDoorW.PrintWords Go.Proofs.YtkipjalfgdfaiaaGreatDoorW.PrintLast Go.Proofs.YtkipjalfgdfaiaaGreatDoorW.PrintMore Go.Proofs.YtkipjalfgdfaiaaGreatDoor.PTk

theorem wrap_id {x : Int} (h0 : 0 ≤ x) (h1 : x ≤ 9223372036854775807) : wrap64 x = x := by
  unfold wrap64
  omega
theorem enc_q {r : Int} (hr : runeB r = true) : rubricatorref01_Encode.f 1 r = some (encL r, true) := by
  obtain ⟨h0, h1, h2⟩ := (runeB_iff r).1 hr
  have hj : rubricatorref01_Encode.f 1 r = rubricatorref01_Encode.j0 1 r false := by
    unfold rubricatorref01_Encode.f
    rw [if_neg (by omega), if_neg (by omega)]
    by_cases h : r ≥ 55296
    · rw [if_pos h, show decide (r ≤ 57343) = false from decide_eq_false (by omega)]
    · rw [if_neg h]
  rw [hj]
  show rubricatorref01_Encode.j0 (0 + 1) r false = _
  rw [rubricatorref01_Encode.j0]
  unfold encL
  have t1 : Int.tdiv r 64 = r / 64 := Int.tdiv_eq_ediv_of_nonneg h0
  have t2 : Int.tdiv r 4096 = r / 4096 := Int.tdiv_eq_ediv_of_nonneg h0
  have t3 : Int.tdiv r 262144 = r / 262144 := Int.tdiv_eq_ediv_of_nonneg h0
  have m1 : Int.tmod r 64 = r % 64 := Int.tmod_eq_emod_of_nonneg h0
  have m2 : Int.tmod (r / 64) 64 = r / 64 % 64 := Int.tmod_eq_emod_of_nonneg (by omega)
  have m3 : Int.tmod (r / 4096) 64 = r / 4096 % 64 := Int.tmod_eq_emod_of_nonneg (by omega)
  have w1 : wrap64 (r / 64) = r / 64 := wrap_id (by omega) (by omega)
  have w2 : wrap64 (r / 4096) = r / 4096 := wrap_id (by omega) (by omega)
  have w3 : wrap64 (r / 262144) = r / 262144 := wrap_id (by omega) (by omega)
  rw [t1, t2, t3, m1, w1, w2, w3, m2, m3, if_neg (by decide)]
  have x1 : wrap64 (128 + r % 64) % 256 = 128 + r % 64 := by rw [wrap_id (by omega) (by omega)]; omega
  have x2 : wrap64 (128 + r / 64 % 64) % 256 = 128 + r / 64 % 64 := by rw [wrap_id (by omega) (by omega)]; omega
  have x3 : wrap64 (128 + r / 4096 % 64) % 256 = 128 + r / 4096 % 64 := by rw [wrap_id (by omega) (by omega)]; omega
  rw [x1, x2, x3]
  by_cases a : r < 128
  · rw [if_pos a, if_pos a, Int.emod_eq_of_lt h0 (by omega)]
  rw [if_neg a, if_neg a]
  by_cases b : r < 2048
  · rw [if_pos b, if_pos b, wrap_id (by omega) (by omega), Int.emod_eq_of_lt (by omega) (by omega)]
  rw [if_neg b, if_neg b]
  by_cases c : r < 65536
  · rw [if_pos c, if_pos c, wrap_id (by omega) (by omega), Int.emod_eq_of_lt (by omega) (by omega)]
  rw [if_neg c, if_neg c, wrap_id (by omega) (by omega), Int.emod_eq_of_lt (by omega) (by omega)]
section
variable {W0 w w' : World} {m : Int} {base g h : Nat} {A : Option Addr} {c : Nat} {p : List Int} {ne ne' k k' : Nat} {t t' : Tk}
end

end Go.Proofs.YtkipjalfgdfaiaaGreatDoor
namespace Go.Proofs.YtkipjalfgdfaiaaGreatDoor
set_option linter.unusedVariables false
set_option linter.unusedSimpArgs false
open Go.RowKit Go.Proofs.YtkipjalfgdfaiaaGreatDoorW.PrintWords

/-- The marks outside of classes, and within. -/
def marksL (cls : Bool) : List Int := if cls then [91, 93, 94, 45, 38, 126, 92] else [46, 91, 40, 124, 41, 42, 43, 63, 123, 94, 36, 92]
def hexG (d : Int) : Int := if d < 10 then 48 + d else 55 + d
def hexT (r : Int) : List Int := if r < 16 then [hexG r] else [hexG (r / 16), hexG (r % 16)]
/-- A code point as a pattern says it. -/
def printL (r : Int) (cls : Bool) : List Int :=
  if runeB r = false then []
  else if r < 32 ∨ r = 127 then [92, 120, 123] ++ hexT r ++ [125]
  else if (marksL cls).contains r then 92 :: encL r
  else encL r
theorem hexG_rng {d : Int} (h0 : 0 ≤ d) (h1 : d < 16) : hexB (hexG d) = true ∧ hexV (hexG d) = d := by
  obtain ⟨n, rfl⟩ : ∃ n : Nat, d = (n : Int) := ⟨d.toNat, by omega⟩
  have hn : n < 16 := by omega
  clear h0 h1
  revert n
  decide
theorem hexT_ok {r : Int} (h0 : 0 ≤ r) (h1 : r < 128) : (∀ c ∈ hexT r, hexB c = true) ∧ hexN (hexT r) = r ∧ hexT r ≠ [] ∧ (hexT r).length ≤ 2 := by
  unfold hexT
  by_cases h : r < 16
  · rw [if_pos h]
    have := hexG_rng h0 h
    refine ⟨fun c hc => ?_, ?_, by simp, by simp⟩
    · simp only [List.mem_cons, List.not_mem_nil, or_false] at hc
      rw [hc]
      exact this.1
    · simp only [hexN, List.foldl_cons, List.foldl_nil]
      rw [this.2]
      omega
  · rw [if_neg h]
    have a := hexG_rng (d := r / 16) (by omega) (by omega)
    have b := hexG_rng (d := r % 16) (by omega) (by omega)
    refine ⟨fun c hc => ?_, ?_, by simp, by simp⟩
    · simp only [List.mem_cons, List.not_mem_nil, or_false] at hc
      rcases hc with hc | hc
      · rw [hc]; exact a.1
      · rw [hc]; exact b.1
    · simp only [hexN, List.foldl_cons, List.foldl_nil]
      rw [a.2, b.2]
      omega
theorem printL_none {r : Int} {cls : Bool} (h : runeB r = false) : printL r cls = [] := if_pos h
end Go.Proofs.YtkipjalfgdfaiaaGreatDoor
namespace Go.Proofs.YtkipjalfgdfaiaaGreatDoor
set_option linter.unusedVariables false
set_option linter.unusedSimpArgs false
open Go.RowKit Go.Proofs.YtkipjalfgdfaiaaGreatDoorW.PrintWords Go.Proofs.YtkipjalfgdfaiaaGreatDoorW.PrintLast Go.Proofs.YtkipjalfgdfaiaaGreatDoorW.PrintMore Go.Proofs.YtkipjalfgdfaiaaGreatDoor.PTk

theorem and15u (q : Nat) (h : q < 128) : bits .and .u64 (q : Int) 15 = ((q % 16 : Nat) : Int) := by
  have h : ∀ q : Fin 128, bits .and .u64 (q.val : Int) 15 = ((q.val % 16 : Nat) : Int) := by decide +kernel
  exact h ⟨q, by assumption⟩
set_option maxRecDepth 100000 in
theorem tz16 (w : World) (hc : w.cell? ⟨6, 15, none⟩ = some (.int .u8 4)) : Calls Tryz.prog 136 #[.int .u64 16] w fun e w' => e = .returned (.int .i64 4) ∧ w' = w := by
  have key : IntKind.u64.wrap (bits BinOp.and IntKind.u64 16 (IntKind.u64.wrap (-16)) * 285870213051353865) / 288230376151711744 = 15 := by decide +kernel
  go_enter Tryz.func136, Tryz.ntmps136
  go_wp2
  go_ret
  exact ⟨rfl, rfl⟩
theorem pow16 (w : World) : Calls Tryz.prog 135 #[.int .i64 16] w fun e w' => e = .returned (.bool true) ∧ w' = w := by
  have key : bits .and .i64 16 15 = 0 := by decide +kernel
  go_enter Tryz.func135, Tryz.ntmps135
  go_wp2
  go_ret
  exact ⟨rfl, rfl⟩
/-- A digit below 16, in small letters. -/
def hexS (d : Nat) : UInt8 := if d < 10 then (48 + d).toUInt8 else (87 + d).toUInt8
theorem hexS_at (d : Nat) (hd : d < 16) : ∀ h, (⟨#[48, 49, 50, 51, 52, 53, 54, 55, 56, 57, 97, 98, 99, 100, 101, 102, 103, 104, 105, 106, 107, 108, 109, 110, 111, 112, 113, 114, 115, 116, 117, 118, 119, 120, 121, 122]⟩ : ByteArray)[d]'h = hexS d := by
  have h : ∀ d : Fin 16, ∀ h, (⟨#[48, 49, 50, 51, 52, 53, 54, 55, 56, 57, 97, 98, 99, 100, 101, 102, 103, 104, 105, 106, 107, 108, 109, 110, 111, 112, 113, 114, 115, 116, 117, 118, 119, 120, 121, 122]⟩ : ByteArray)[d.val]'h = hexS d.val := by decide +kernel
  exact h ⟨d, hd⟩
/-- Small hexadecimal digits of a number below 256. -/
def hexLo (q : Nat) : List UInt8 := if q < 16 then [hexS q] else [hexS (q / 16), hexS (q % 16)]
set_option maxRecDepth 100000 in
/-- A cut of an array of 65 bytes, from place j on. -/
theorem slice65 (W : World) (g j : Nat) (hj : j < 65) : (Instr.sliceAt 161 (.pointer (some ⟨g, 0, none⟩)) (some (.int .i64 (j : Int))) none none).run Tryz.prog W = .ok (.slice (some ⟨g, j, none⟩) (65 - j) (65 - j)) W := by
  have ha : Tryz.prog.arrayLen 161 = 65 := by kernel_rfl
  have he : Tryz.prog.elem 161 = 5 := by kernel_rfl
  have h := run_sliceAt_array_l (P := Tryz.prog) W 161 ⟨g, 0, none⟩ (by rw [ha, he]; exact Tryz.underlying161) .i64 (j : Int) (by omega) (by rw [ha]; omega)
  rw [h, he, Tryz.sizeOf5, ha]
  simp only [Result.andThen, slicedAt]
  have hadd : (⟨g, 0, none⟩ : Addr).add j = ⟨g, j, none⟩ := by unfold Addr.add; split <;> simp_all
  rw [if_neg (by omega), Int.toNat_natCast, Nat.mul_one, hadd]
/-- What the array holds from place j on. -/
def Tail65 (W : World) (g j : Nat) (acc : List UInt8) : Prop := (∀ k, k < 65 → (∃ u, W.cell? ⟨g, k, none⟩ = some u) ∧ W.frozen? ⟨g, k, none⟩ = false) ∧ ∀ k (hk : k < acc.length), W.cell? ⟨g, j + k, none⟩ = some (.int .u8 (acc[k].toNat : Int))
theorem Tail65.put {W : World} {g j : Nat} {acc : List UInt8} (h : Tail65 W g (j + 1) acc) (hj : j < 65) (b : UInt8) : Tail65 (W.setCell ⟨g, j, none⟩ (.int .u8 (b.toNat : Int))) g j (b :: acc) := by
  refine ⟨fun k hk => ?_, fun k hk => ?_⟩
  · obtain ⟨⟨u, hu⟩, hz⟩ := h.1 k hk
    exact ⟨cell?_setCell_some hu, by rw [World.frozen?_setCell]; exact hz⟩
  · obtain ⟨⟨u, hu⟩, hz⟩ := h.1 j hj
    match k, hk with
    | 0, _ => exact World.cell?_setCell_same _ _ _ hu
    | k + 1, hk =>
      rw [World.cell?_setCell_other _ _ _ _ (by intro e; have := congrArg Addr.off e; simp at this), show j + (k + 1) = j + 1 + k by omega]
      exact h.2 k (by simp only [List.length_cons] at hk; omega)
theorem Tail65.new (w : World) : Tail65 (w.alloc (.cells Tryz.zeroCells161 161)) w.heap.size 65 [] := by
  refine ⟨fun k hk => ⟨?_, Lib.frozen_of_heap (heap_alloc_new w _) k⟩, fun k hk => absurd hk (by simp)⟩
  rw [Lib.cell_of_heap (heap_alloc_new w _)]
  have hz : Tryz.zeroCells161.size = 65 := by kernel_rfl
  exact ⟨_, Array.getElem?_eq_getElem (by rw [hz]; exact hk)⟩
theorem Tail65.str {W : World} {g j : Nat} {acc : List UInt8} (h : Tail65 W g j acc) : (convert 34 9 (.slice (some ⟨g, j, none⟩) acc.length acc.length)).run Tryz.prog W = .ok (.string (bsL acc)) W :=
  run_convert_bytes_back (P := Tryz.prog) W 34 9 5 ⟨g, j, none⟩ acc.length acc Tryz.underlying34 Tryz.underlying5 Tryz.underlying9 (fun k hk => by
    have : (⟨g, j, none⟩ : Addr).add k = ⟨g, j + k, none⟩ := by unfold Addr.add; split <;> simp_all
    rw [this]
    exact h.2 k hk)
set_option maxHeartbeats 4000000 in
set_option maxRecDepth 100000 in
theorem bits16 (q : Nat) (hq : q < 128) (w : World) (hc : w.cell? ⟨6, 15, none⟩ = some (.int .u8 4)) :
    Calls Tryz.prog 98 #[.slice none 0 0, .int .u64 (q : Int), .int .i64 16, .bool false, .bool false] w fun e w' => e = .returned (.tuple #[.slice none 0 0, .string (bsL (hexLo q))]) ∧ Below w.heap.size w w' := by
  have HT := Aside0.mk tz16
  obtain ⟨W, hW⟩ : ∃ W, w.alloc (.cells Tryz.zeroCells161 161) = W := ⟨_, rfl⟩
  have hwc : W.cell? ⟨6, 15, none⟩ = some (.int .u8 4) := by rw [← hW]; exact pw_cell_below (below_alloc (Below.refl _ _) _) hc
  have hb1 : Below w.heap.size w W := by rw [← hW]; exact below_alloc (Below.refl _ _) _
  have ht : Tail65 W w.heap.size 65 [] := by rw [← hW]; exact Tail65.new w
  have HB := Aside0.mk hb1
  have HWC := Aside0.mk hwc
  clear hc hb1 hwc
  go_enter Tryz.func98, Tryz.ntmps98
  go_wp2_with fail
  refine (pow16 W).mono ?_
  rintro e w1 ⟨rfl, rfl⟩
  go_wp2_with fail
  refine (HT.out _ HWC.out).mono ?_
  rintro e w1 ⟨rfl, rfl⟩
  clear hW
  go_wp2_with fail
  by_cases h16 : q < 16
  · have hlt : ¬ (16 : Int) ≤ (q : Int) := by omega
    have hx := hexS_at q h16
    have hl : hexLo q = [hexS q] := if_pos h16
    obtain ⟨⟨u, hu⟩, hf⟩ := ht.1 64 (by decide)
    have h2 := ht.put (j := 64) (by decide) (hexS q)
    have hs := slice65 (w1.setCell ⟨w.heap.size, 64, none⟩ (.int .u8 ((hexS q).toNat : Int))) w.heap.size 64 (by decide)
    have hcv : (convert 34 9 (.slice (some ⟨w.heap.size, 64, none⟩) 1 1)).run Tryz.prog _ = _ := h2.str
    have HB2 : Aside0 (Below w.heap.size w (w1.setCell ⟨w.heap.size, 64, none⟩ (.int .u8 ((hexS q).toNat : Int)))) := ⟨below_set HB.out (Nat.le_refl _)⟩
    clear ht h2
    refine wp_loop_rounds 1 ?_
    rw [rounds_succ]
    go_wp2
    go_ret2
    exact ⟨rfl, HB2.out⟩
  · have hge : (16 : Int) ≤ (q : Int) := by omega
    have hlt : ¬ (16 : Int) ≤ ((q / 16 : Nat) : Int) := by omega
    have hx := hexS_at (q % 16) (by omega)
    have hy := hexS_at (q / 16) (by omega)
    have hl : hexLo q = [hexS (q / 16), hexS (q % 16)] := if_neg h16
    have hand := and15u q hq
    obtain ⟨⟨u, hu⟩, hf⟩ := ht.1 64 (by decide)
    have h2 := ht.put (j := 64) (by decide) (hexS (q % 16))
    obtain ⟨⟨u3, hu3⟩, hf3⟩ := h2.1 63 (by decide)
    have h3 := h2.put (j := 63) (by decide) (hexS (q / 16))
    have HB2 : Aside0 (Below w.heap.size w ((w1.setCell ⟨w.heap.size, 64, none⟩ (.int .u8 ((hexS (q % 16)).toNat : Int))).setCell ⟨w.heap.size, 63, none⟩ (.int .u8 ((hexS (q / 16)).toNat : Int)))) := ⟨below_set (below_set HB.out (Nat.le_refl _)) (Nat.le_refl _)⟩
    obtain ⟨W2, hW2⟩ : ∃ W2, (w1.setCell ⟨w.heap.size, 64, none⟩ (.int .u8 ((hexS (q % 16)).toNat : Int))) = W2 := ⟨_, rfl⟩
    rw [hW2] at h2 hu3 hf3 h3 HB2
    have hs := slice65 (W2.setCell ⟨w.heap.size, 63, none⟩ (.int .u8 ((hexS (q / 16)).toNat : Int))) w.heap.size 63 (by decide)
    have hcv : (convert 34 9 (.slice (some ⟨w.heap.size, 63, none⟩) 2 2)).run Tryz.prog _ = _ := h3.str
    clear ht h2 h3
    refine wp_loop_rounds 2 ?_
    rw [rounds_succ]
    go_wp2
    rw [rounds_succ]
    go_wp2
    go_ret2
    exact ⟨by rw [hl]; rfl, HB2.out⟩
set_option maxHeartbeats 1000000 in
set_option maxRecDepth 100000 in
theorem fmti16 (q : Nat) (hq : q < 128) (w : World) (hc : w.cell? ⟨6, 15, none⟩ = some (.int .u8 4)) :
    Calls Tryz.prog 63 #[.int .i64 (q : Int), .int .i64 16] w fun e w' => e = .returned (.string (bsL (hexLo q))) ∧ Below w.heap.size w w' := by
  have HT := Aside0.mk (bits16 q hq w hc)
  have h0 : ¬ (q : Int) < 0 := by omega
  have h1 : IntKind.u64.wrap (q : Int) = (q : Int) := by rw [IntKind.wrap_u64]; omega
  clear hc
  go_enter Tryz.func63, Tryz.ntmps63
  go_wp2_with fail
  refine HT.out.mono ?_
  rintro e w' ⟨rfl, hb⟩
  have HB := Aside0.mk hb
  clear hb
  go_wp2_with fail
  go_ret
  exact ⟨rfl, HB.out⟩
set_option maxHeartbeats 1000000 in
set_option maxRecDepth 100000 in
theorem fmt16 (q : Nat) (hq : q < 128) (w : World) (hc : w.cell? ⟨6, 15, none⟩ = some (.int .u8 4)) :
    Calls Tryz.prog 39 #[.int .i64 (q : Int), .int .i64 16] w fun e w' => e = .returned (.string (bsL (hexLo q))) ∧ Below w.heap.size w w' := by
  have HT := Aside0.mk (fmti16 q hq w hc)
  clear hc
  go_enter Tryz.func39, Tryz.ntmps39
  go_wp2_with fail
  refine HT.out.mono ?_
  rintro e w' ⟨rfl, hb⟩
  have HB := Aside0.mk hb
  clear hb
  go_wp2_with fail
  go_ret
  exact ⟨rfl, HB.out⟩

end Go.Proofs.YtkipjalfgdfaiaaGreatDoor
namespace Go.Proofs
open Go.Shelf
theorem Tryz.Builder_Extra_158 : Builder.Extra Tryz.prog Tryz.lays158_ren := {
  sizeBuilder := by kernel_rfl
  liesBuilder := by kernel_rfl
  t5 := Tryz.underlying5
  a5 := Tryz.isAgg5
  z5 := Tryz.sizeOf5
  v5 := Tryz.zeroValue5
  infoByte := by kernel_rfl
  cellsByte := by kernel_rfl
  sizeByte := by kernel_rfl
  neB5 := by decide }
open Go.RowKit in
/-- strings.ToUpper: "ToUpper returns s with all Unicode letters mapped to their upper case.": ON ASCII TEXT OF AT MOST 2^47 BYTES. Below the heap's end the world is as it was: where a letter turns, the call makes a builder and its buffer. (LAID: no walk: one application.) -/
theorem Tryz.strings_ToUpper_ascii (s : ByteArray) (w : World) (hs : s.size ≤ 140737488355328) (hascii : ∀ (j : Nat) (b : UInt8), s.data.toList[j]? = some b → b.toNat < 128) :
    Calls Tryz.prog 38 #[.string s] w fun e w' => e = .returned (.string ⟨(Lib.toUpperA s.data.toList).toArray⟩) ∧ Below w.heap.size w w' := Any.strings_ToUpper_ascii Tryz.lays158 Tryz.Builder_Extra_158 s w hs hascii
end Go.Proofs
namespace Go.Proofs.YtkipjalfgdfaiaaGreatDoor
set_option linter.unusedVariables false
set_option linter.unusedSimpArgs false
open Go.RowKit Go.Proofs.YtkipjalfgdfaiaaGreatDoorW.PrintWords Go.Proofs.YtkipjalfgdfaiaaGreatDoorW.PrintLast Go.Proofs.YtkipjalfgdfaiaaGreatDoorW.PrintMore Go.Proofs.YtkipjalfgdfaiaaGreatDoor.PTk

/-- A text that begins with a byte that a list lacks isn't within it. -/
theorem contains_not {s sub : List UInt8} {c : UInt8} {t : List UInt8} (hs : sub = c :: t) (hc : c ∉ s) : Lib.contains s sub = false := by
  unfold Lib.contains
  rw [Lib.index_none, decide_eq_false (by decide)]
  intro j hj
  unfold Lib.occAt
  subst hs
  cases hd : s.drop j with
  | nil => rfl
  | cons a l =>
    have hm : a ∈ s := List.mem_of_mem_drop (i := j) (by rw [hd]; exact List.mem_cons_self)
    rw [List.isPrefixOf_cons_cons] <;> simp only [Bool.and_eq_false_imp, beq_iff_eq]
    intro he
    exact absurd (he ▸ hm) hc
theorem encL_data {r : Int} (hr : runeB r = true) (h : 128 ≤ r) : ∃ c t, (strOfNums (encL r)).data.toList = c :: t ∧ 128 ≤ c.toNat := by
  have hp := encL_pos r
  have hh := encL_high hr h
  have hg := encL_rng hr
  rw [str_data]
  cases he : encL r with
  | nil => rw [he] at hp; simp at hp
  | cons c t =>
    rw [he] at hh hg
    refine ⟨_, _, rfl, ?_⟩
    have h1 := hh c List.mem_cons_self
    have h2 := hg c List.mem_cons_self
    show 128 ≤ (UInt8.ofNat c.toNat).toNat
    rw [UInt8.toNat_ofNat', Nat.mod_eq_of_lt (by omega)]
    omega
theorem str_app (a b : List Int) : strOfNums (a ++ b) = strOfNums a ++ strOfNums b := by
  apply ByteArray.ext
  rw [ByteArray.data_append]
  unfold strOfNums
  simp
abbrev marksS (cls : Bool) : ByteArray := if cls then ⟨#[91, 93, 94, 45, 38, 126, 92]⟩ else ⟨#[46, 91, 40, 124, 41, 42, 43, 63, 123, 94, 36, 92]⟩
theorem marks_ascii : ∀ (cls : Bool) (r : Fin 128), Lib.contains (marksS cls).data.toList [UInt8.ofNat r.val] = (marksL cls).contains (r.val : Int) := by decide +kernel
theorem marks_low : ∀ (cls : Bool), ∀ c ∈ (marksS cls).data.toList, c.toNat < 128 := by decide
theorem marks_rng : ∀ (cls : Bool), ∀ c ∈ marksL cls, c < 128 := by decide
theorem marks_has {r : Int} (hr : runeB r = true) (cls : Bool) : Lib.contains (marksS cls).data.toList (strOfNums (encL r)).data.toList = (marksL cls).contains r := by
  have hrr := (runeB_iff r).1 hr
  by_cases h : r < 128
  · rw [encL_ascii h]
    have := marks_ascii cls ⟨r.toNat, by omega⟩
    simp only at this
    rw [show ((r.toNat : Nat) : Int) = r by omega] at this
    rw [← this]
    rfl
  · obtain ⟨c, t, he, hc⟩ := encL_data hr (by omega)
    rw [contains_not he (fun hm => by have := marks_low cls c hm; omega)]
    symm
    rw [Bool.eq_false_iff]
    intro hm
    rw [List.contains_iff_mem] at hm
    have := marks_rng cls r hm
    omega
/-- Hexadecimal digits in great letters. -/
theorem upper_hex : ∀ q : Fin 128, (⟨(Lib.toUpperA (hexLo q.val)).toArray⟩ : ByteArray) = strOfNums (hexT (q.val : Int)) := by decide +kernel
theorem hexLo_ascii : ∀ q : Fin 128, ∀ b ∈ hexLo q.val, b.toNat < 128 := by decide +kernel
set_option maxHeartbeats 4000000 in
set_option maxRecDepth 100000 in
theorem print_any (r : Int) (cls : Bool) (w : World) (m : Int) (hmx : w.cell? ⟨2, 0, none⟩ = some (.int .i64 m)) (hc : w.cell? ⟨6, 15, none⟩ = some (.int .u8 4)) :
    Calls Tryz.prog 23 #[.int .i64 r, .bool cls] w fun e w' => e = .returned (.string (strOfNums (printL r cls))) ∧ Below w.heap.size w w' := by
  have HE := Aside0.mk (encode_any r w)
  have HMX := Aside0.mk hmx
  have HC := Aside0.mk hc
  have hmg : 2 < w.heap.size := World.block_lt_of_cell? w _ hmx
  have hcg : 6 < w.heap.size := World.block_lt_of_cell? w _ hc
  obtain ⟨P, hP⟩ : ∃ P, printL r cls = P := ⟨_, rfl⟩
  rw [hP]
  cases hr : runeB r with
  | false =>
    rw [hr] at HE
    obtain rfl : P = [] := by rw [← hP, printL_none hr]
    clear hmx hc hP
    go_enter Tryz.func23, Tryz.ntmps23
    go_wp2_with fail
    refine HE.out.mono ?_
    rintro e w1 ⟨v, rfl, ho, hb⟩
    obtain ⟨A, c, rfl⟩ := Kd.R_slice ho
    have HB := Aside0.mk hb
    clear hb ho
    cases cls with
    | false =>
      go_wp2_with fail
      go_ret
      exact ⟨rfl, HB.out⟩
    | true =>
      go_wp2_with fail
      go_ret
      exact ⟨rfl, HB.out⟩
  | true =>
    rw [hr] at HE
    have hrr := (runeB_iff r).1 hr
    unfold printL at hP
    rw [if_neg (by rw [hr]; decide)] at hP
    by_cases h1 : r < 32 ∨ r = 127
    · rw [if_pos h1] at hP
      obtain ⟨q, rfl⟩ : ∃ q : Nat, r = (q : Int) := ⟨r.toNat, by omega⟩
      have hq : q < 128 := by omega
      have HF := Aside0.mk (fun W (h1 : W.cell? ⟨6, 15, none⟩ = some (.int .u8 4)) => fmt16 q hq W h1)
      have HU := Aside0.mk (fun W => Tryz.strings_ToUpper_ascii (bsL (hexLo q)) W (by show (hexLo q).toArray.size ≤ _; rw [List.size_toArray]; unfold hexLo; split <;> simp) (fun j b hb => hexLo_ascii ⟨q, hq⟩ b (List.mem_of_getElem? hb)))
      have hup := upper_hex ⟨q, hq⟩
      have hup2 : (⟨(Lib.toUpperA (bsL (hexLo q)).data.toList).toArray⟩ : ByteArray) = strOfNums (hexT (q : Int)) := hup
      have hxl := (hexT_ok (r := (q : Int)) (by omega) (by omega)).2.2.2
      rw [hup2] at HU
      have HP : Aside0 ((⟨#[92, 120, 123]⟩ : ByteArray) ++ strOfNums (hexT (q : Int)) ++ ⟨#[125]⟩ = strOfNums P) := ⟨by rw [← hP, str_app, str_app]; rfl⟩
      have hsz : (strOfNums (hexT (q : Int))).size ≤ 2 := by rw [strN_size]; exact hxl
      have hsz1 : ((⟨#[92, 120, 123]⟩ : ByteArray) ++ strOfNums (hexT (q : Int))).size ≤ 5 := by rw [ByteArray.size_append]; have : (⟨#[92, 120, 123]⟩ : ByteArray).size = 3 := rfl; omega
      obtain ⟨X, hX⟩ : ∃ X, strOfNums (hexT (q : Int)) = X := ⟨_, rfl⟩
      obtain ⟨Y, hY⟩ : ∃ Y, (⟨#[92, 120, 123]⟩ : ByteArray) ++ X = Y := ⟨_, rfl⟩
      rw [hX] at HU HP hsz hsz1
      rw [hY] at HP hsz1
      clear hmx hc hP hup hup2 hX hxl hrr hr
      go_enter Tryz.func23, Tryz.ntmps23
      go_wp2_with fail
      refine HE.out.mono ?_
      rintro e w1 ⟨v, rfl, ho, hb⟩
      obtain ⟨A, c, rfl⟩ := Kd.R_slice ho
      have HB := Aside0.mk hb
      have HF1 := Aside0.mk (HF.out w1 ((hb.cell hcg).trans HC.out))
      clear hb ho
      by_cases h32 : q < 32
      · have h32b : decide ((q : Int) < 32) = true := decide_eq_true (by omega)
        cases cls with
        | false =>
          go_wp2_with fail
          refine HF1.out.mono ?_
          rintro e w2 ⟨rfl, hb2⟩
          have HB2 := Aside0.mk (below_to HB.out hb2)
          clear hb2
          go_wp2_with fail
          refine (HU.out w2).mono ?_
          rintro e w3 ⟨rfl, hb3⟩
          have HB3 := Aside0.mk (below_to HB2.out hb3)
          clear hb3
          go_wp2_with fail
          go_ret
          first | exact ⟨rfl, HB3.out⟩ | exact ⟨by rw [HP.out]; rfl, HB3.out⟩
        | true =>
          go_wp2_with fail
          refine HF1.out.mono ?_
          rintro e w2 ⟨rfl, hb2⟩
          have HB2 := Aside0.mk (below_to HB.out hb2)
          clear hb2
          go_wp2_with fail
          refine (HU.out w2).mono ?_
          rintro e w3 ⟨rfl, hb3⟩
          have HB3 := Aside0.mk (below_to HB2.out hb3)
          clear hb3
          go_wp2_with fail
          go_ret
          first | exact ⟨rfl, HB3.out⟩ | exact ⟨by rw [HP.out]; rfl, HB3.out⟩
      · obtain rfl : q = 127 := by omega
        cases cls with
        | false =>
          go_wp2_with fail
          refine HF1.out.mono ?_
          rintro e w2 ⟨rfl, hb2⟩
          have HB2 := Aside0.mk (below_to HB.out hb2)
          clear hb2
          go_wp2_with fail
          refine (HU.out w2).mono ?_
          rintro e w3 ⟨rfl, hb3⟩
          have HB3 := Aside0.mk (below_to HB2.out hb3)
          clear hb3
          go_wp2_with fail
          go_ret
          first | exact ⟨rfl, HB3.out⟩ | exact ⟨by rw [HP.out]; rfl, HB3.out⟩
        | true =>
          go_wp2_with fail
          refine HF1.out.mono ?_
          rintro e w2 ⟨rfl, hb2⟩
          have HB2 := Aside0.mk (below_to HB.out hb2)
          clear hb2
          go_wp2_with fail
          refine (HU.out w2).mono ?_
          rintro e w3 ⟨rfl, hb3⟩
          have HB3 := Aside0.mk (below_to HB2.out hb3)
          clear hb3
          go_wp2_with fail
          go_ret
          first | exact ⟨rfl, HB3.out⟩ | exact ⟨by rw [HP.out]; rfl, HB3.out⟩
    · rw [if_neg h1] at hP
      have h32b : decide (r < 32) = false := decide_eq_false (by omega)
      have h127 : (r == 127) = false := by rw [beq_eq_false_iff_ne]; omega
      have HM := Aside0.mk (fun (b : Bool) W hw => Tryz.strings_Contains (marksS b) (strOfNums (encL r)) m W (by cases b <;> decide) hw)
      have hmk := marks_has hr cls
      have HL : Aside0 ((encL r).length ≤ 4) := ⟨(encL_pos r).2⟩
      obtain ⟨S, hS⟩ : ∃ S, strOfNums (encL r) = S := ⟨_, rfl⟩
      have hsl : S.size ≤ 4 := by rw [← hS, strN_size]; exact HL.out
      cases hm : (marksL cls).contains r with
      | true =>
        rw [hm] at hmk hP
        have HP : Aside0 ((⟨#[92]⟩ : ByteArray) ++ S = strOfNums P) := ⟨by rw [← hP, ← hS]; exact (str_app [92] (encL r)).symm⟩
        rw [hS] at HM hmk
        clear hmx hc hP hrr hr hm
        cases cls with
        | false =>
          go_enter Tryz.func23, Tryz.ntmps23
          go_wp2_with fail
          refine HE.out.mono ?_
          rintro e w1 ⟨v, rfl, ho, hb⟩
          obtain ⟨A, c, rfl⟩ := Kd.R_slice ho
          obtain ⟨A', c', e, hcap, hC0⟩ := Kd.R_reads ho
          obtain ⟨rfl, -, rfl⟩ : A = A' ∧ True ∧ c = c' := by injection e with h1 h2 h3; exact ⟨h1, trivial, h3⟩
          have hC : Kd.C kB w1 A (encL r).length (encL r) := hC0
          have hcv := fun n => Kd.C_string (P := Tryz.prog) (c := c) Tryz.underlying34 Tryz.underlying5 Tryz.underlying9 (Kd.C_below hC (pw_below_drewN (Below.refl _ _) n))
          have hcv0 := Kd.C_string (P := Tryz.prog) (c := c) Tryz.underlying34 Tryz.underlying5 Tryz.underlying9 hC
          have HB := Aside0.mk hb
          have HM1 := Aside0.mk (fun b => HM.out b w1 ((hb.cell hmg).trans HMX.out))
          rw [hS] at hcv hcv0
          clear hb ho hcap hC0 hC e
          go_wp2_with fail
          refine (HM1.out false).mono ?_
          intro e w2 hr2
          rw [hmk] at hr2
          obtain ⟨rfl, rfl⟩ := hr2
          go_wp2_with fail
          go_ret
          first | exact ⟨rfl, HB.out⟩ | exact ⟨by rw [HP.out]; rfl, HB.out⟩
        | true =>
          go_enter Tryz.func23, Tryz.ntmps23
          go_wp2_with fail
          refine HE.out.mono ?_
          rintro e w1 ⟨v, rfl, ho, hb⟩
          obtain ⟨A, c, rfl⟩ := Kd.R_slice ho
          obtain ⟨A', c', e, hcap, hC0⟩ := Kd.R_reads ho
          obtain ⟨rfl, -, rfl⟩ : A = A' ∧ True ∧ c = c' := by injection e with h1 h2 h3; exact ⟨h1, trivial, h3⟩
          have hC : Kd.C kB w1 A (encL r).length (encL r) := hC0
          have hcv := fun n => Kd.C_string (P := Tryz.prog) (c := c) Tryz.underlying34 Tryz.underlying5 Tryz.underlying9 (Kd.C_below hC (pw_below_drewN (Below.refl _ _) n))
          have hcv0 := Kd.C_string (P := Tryz.prog) (c := c) Tryz.underlying34 Tryz.underlying5 Tryz.underlying9 hC
          have HB := Aside0.mk hb
          have HM1 := Aside0.mk (fun b => HM.out b w1 ((hb.cell hmg).trans HMX.out))
          rw [hS] at hcv hcv0
          clear hb ho hcap hC0 hC e
          go_wp2_with fail
          refine (HM1.out true).mono ?_
          intro e w2 hr2
          rw [hmk] at hr2
          obtain ⟨rfl, rfl⟩ := hr2
          go_wp2_with fail
          go_ret
          first | exact ⟨rfl, HB.out⟩ | exact ⟨by rw [HP.out]; rfl, HB.out⟩
      | false =>
        rw [hm] at hmk hP
        have HP : Aside0 (S = strOfNums P) := ⟨by rw [← hP, ← hS]; rfl⟩
        rw [hS] at HM hmk
        clear hmx hc hP hrr hr hm
        cases cls with
        | false =>
          go_enter Tryz.func23, Tryz.ntmps23
          go_wp2_with fail
          refine HE.out.mono ?_
          rintro e w1 ⟨v, rfl, ho, hb⟩
          obtain ⟨A, c, rfl⟩ := Kd.R_slice ho
          obtain ⟨A', c', e, hcap, hC0⟩ := Kd.R_reads ho
          obtain ⟨rfl, -, rfl⟩ : A = A' ∧ True ∧ c = c' := by injection e with h1 h2 h3; exact ⟨h1, trivial, h3⟩
          have hC : Kd.C kB w1 A (encL r).length (encL r) := hC0
          have hcv := fun n => Kd.C_string (P := Tryz.prog) (c := c) Tryz.underlying34 Tryz.underlying5 Tryz.underlying9 (Kd.C_below hC (pw_below_drewN (Below.refl _ _) n))
          have hcv0 := Kd.C_string (P := Tryz.prog) (c := c) Tryz.underlying34 Tryz.underlying5 Tryz.underlying9 hC
          have HB := Aside0.mk hb
          have HM1 := Aside0.mk (fun b => HM.out b w1 ((hb.cell hmg).trans HMX.out))
          rw [hS] at hcv hcv0
          clear hb ho hcap hC0 hC e
          go_wp2_with fail
          refine (HM1.out false).mono ?_
          intro e w2 hr2
          rw [hmk] at hr2
          obtain ⟨rfl, rfl⟩ := hr2
          go_wp2_with fail
          go_ret
          first | exact ⟨rfl, HB.out⟩ | exact ⟨by rw [HP.out]; rfl, HB.out⟩
        | true =>
          go_enter Tryz.func23, Tryz.ntmps23
          go_wp2_with fail
          refine HE.out.mono ?_
          rintro e w1 ⟨v, rfl, ho, hb⟩
          obtain ⟨A, c, rfl⟩ := Kd.R_slice ho
          obtain ⟨A', c', e, hcap, hC0⟩ := Kd.R_reads ho
          obtain ⟨rfl, -, rfl⟩ : A = A' ∧ True ∧ c = c' := by injection e with h1 h2 h3; exact ⟨h1, trivial, h3⟩
          have hC : Kd.C kB w1 A (encL r).length (encL r) := hC0
          have hcv := fun n => Kd.C_string (P := Tryz.prog) (c := c) Tryz.underlying34 Tryz.underlying5 Tryz.underlying9 (Kd.C_below hC (pw_below_drewN (Below.refl _ _) n))
          have hcv0 := Kd.C_string (P := Tryz.prog) (c := c) Tryz.underlying34 Tryz.underlying5 Tryz.underlying9 hC
          have HB := Aside0.mk hb
          have HM1 := Aside0.mk (fun b => HM.out b w1 ((hb.cell hmg).trans HMX.out))
          rw [hS] at hcv hcv0
          clear hb ho hcap hC0 hC e
          go_wp2_with fail
          refine (HM1.out true).mono ?_
          intro e w2 hr2
          rw [hmk] at hr2
          obtain ⟨rfl, rfl⟩ := hr2
          go_wp2_with fail
          go_ret
          first | exact ⟨rfl, HB.out⟩ | exact ⟨by rw [HP.out]; rfl, HB.out⟩

end Go.Proofs.YtkipjalfgdfaiaaGreatDoor
namespace Go.Proofs.YtkipjalfgdfaiaaGreatDoor
set_option linter.unusedVariables false
set_option linter.unusedSimpArgs false
open Go.RowKit Go.Proofs.YtkipjalfgdfaiaaGreatDoorW.PrintWords Go.Proofs.YtkipjalfgdfaiaaGreatDoorW.PrintLast Go.Proofs.YtkipjalfgdfaiaaGreatDoorW.PrintMore Go.Proofs.YtkipjalfgdfaiaaGreatDoor.PTk

theorem refPrint_low : ∀ (cls : Bool) (q : Fin 128), rubricatorref13_Print.f 20 (q.val : Int) cls = some (strOfNums (printL (q.val : Int) cls)) := by decide +kernel
theorem enc_not {r : Int} (hr : runeB r = false) : ∃ l, rubricatorref01_Encode.f 20 r = some (l, false) := by
  have h : ¬ (0 ≤ r ∧ r ≤ 1114111 ∧ ¬ (55296 ≤ r ∧ r ≤ 57343)) := fun h => by rw [(runeB_iff r).2 ⟨h.1, h.2.1, by omega⟩] at hr; cases hr
  unfold rubricatorref01_Encode.f
  have hj : ∀ k x, rubricatorref01_Encode.j0 (k + 1) x true = some ([], false) := fun k x => by rw [rubricatorref01_Encode.j0, if_pos rfl]
  split
  · exact ⟨_, hj 19 r⟩
  · split
    · exact ⟨_, hj 19 r⟩
    · split
      · rw [show decide (r ≤ 57343) = true from decide_eq_true (by omega)]
        exact ⟨_, hj 19 r⟩
      · omega
theorem enc_q20 {r : Int} (hr : runeB r = true) : rubricatorref01_Encode.f 20 r = some (encL r, true) := by
  have h : ∀ n, rubricatorref01_Encode.f (n + 1) r = some (encL r, true) := fun n => by
    induction n with
    | zero => exact enc_q hr
    | succ n ih => exact rubricatorref01_Encode.mono r (n + 1) _ ih
  exact h 19
theorem loop_miss (r : Int) (hr : 128 ≤ r) (x : List Int) (s : ByteArray) (hs : s.size ≤ 12) (hb : ∀ c ∈ s.data.toList, c.toNat < 128) : ∀ (n i k : Nat), i + n = s.size → n < k → rubricatorref13_Print.l0 k r x s (i : Int) = some (strOfNums x)
  | 0, i, 0, _, h => by omega
  | 0, i, k + 1, hi, _ => by
    unfold rubricatorref13_Print.l0
    rw [if_neg (by omega)]
  | n + 1, i, 0, _, h => by omega
  | n + 1, i, k + 1, hi, hk => by
    unfold rubricatorref13_Print.l0
    have hbt : bt s (i : Int) < 128 := by
      unfold bt
      rw [dif_pos (by omega)]
      have := hb _ (List.getElem_mem (l := s.data.toList) (n := i) (by have h1 : s.data.size = s.size := rfl; rw [Array.length_toList]; omega))
      have e : ∀ h, s[(i : Int).toNat]'h = s.data.toList[i]'(by have h1 : s.data.size = s.size := rfl; rw [Array.length_toList]; omega) := fun h => rfl
      rw [e]
      omega
    have hb0 := (bt_range s (i : Int)).1
    rw [if_pos (by omega), if_pos (by omega), wrap_id hb0 (by omega), if_neg (by omega), wrap_id (by omega) (by omega)]
    exact loop_miss r hr x s hs hb n (i + 1) k (by omega) (by omega)
theorem refPrint_ev (r : Int) (cls : Bool) : rubricatorref13_Print.f 20 r cls = some (strOfNums (printL r cls)) := by
  by_cases h : 0 ≤ r ∧ r < 128
  · have := refPrint_low cls ⟨r.toNat, by omega⟩
    simp only at this
    rwa [show ((r.toNat : Nat) : Int) = r by omega] at this
  · cases hr : runeB r with
    | false =>
      obtain ⟨l, hl⟩ := enc_not hr
      unfold rubricatorref13_Print.f
      rw [hl, printL_none hr]
      rfl
    | true =>
      have hrr := (runeB_iff r).1 hr
      have hP : printL r cls = encL r := by
        unfold printL
        rw [if_neg (by rw [hr]; decide), if_neg (by omega), if_neg]
        intro hm
        rw [List.contains_iff_mem] at hm
        have := marks_rng cls r hm
        omega
      have hj : ∀ s : ByteArray, s.size ≤ 12 → (∀ c ∈ s.data.toList, c.toNat < 128) → rubricatorref13_Print.j0 20 r (encL r) s = some (strOfNums (encL r)) := fun s h1 h2 => by
        rw [rubricatorref13_Print.j0, if_neg (by omega), rubricatorref13_Print.j1, if_neg (by rw [beq_iff_eq]; omega)]
        exact loop_miss r (by omega) (encL r) s h1 h2 s.size 0 18 (by omega) (by omega)
      unfold rubricatorref13_Print.f
      rw [enc_q20 hr, hP, Option.bind_some]
      rw [if_pos rfl]
      split
      · exact hj _ (by decide) (by decide)
      · exact hj _ (by decide) (by decide)
theorem refPrint_any (r : Int) (cls : Bool) (w : World) : Calls Tryz.prog 24 #[.int .i64 r, .bool cls] w fun e w' => e = .returned (.string (strOfNums (printL r cls))) ∧ Below w.heap.size w w' :=
  rubricatorref13_Print.calls 20 r cls _ w (refPrint_ev r cls)

end Go.Proofs.YtkipjalfgdfaiaaGreatDoor
namespace Go.Proofs.YtkipjalfgdfaiaaGreatDoor
set_option linter.unusedVariables false
set_option linter.unusedSimpArgs false
open Go.RowKit Go.Proofs.YtkipjalfgdfaiaaGreatDoorW.PrintWords Go.Proofs.YtkipjalfgdfaiaaGreatDoorW.PrintLast Go.Proofs.YtkipjalfgdfaiaaGreatDoorW.PrintMore Go.Proofs.YtkipjalfgdfaiaaGreatDoor.PTk

set_option maxHeartbeats 4000000 in
set_option maxRecDepth 100000 in
theorem TokenPrint_walk (w : World) (r : Int) (cls : Bool) (m : Int) (hvr : Vars w.heap.size w m) (hc : w.cell? ⟨6, 15, none⟩ = some (.int .u8 4)) :
    Calls Tryz.prog 9 #[.int .i64 r, .bool cls] w fun e w' => e = .returned (.bool true) ∧ Below w.heap.size w w' := by
  obtain ⟨b, hal⟩ := alias_ex
  have HP := Aside0.mk (print_any r cls w m hvr.mx hc)
  have HR := Aside0.mk (fun W => refPrint_any r cls W)
  have HAW := Aside0.mk (fun W m' h => awake13_any b hal W m' h)
  have HV := Aside0.mk hvr
  obtain ⟨S, hS⟩ : ∃ S, strOfNums (printL r cls) = S := ⟨_, rfl⟩
  rw [hS] at HP HR
  clear hvr hc hal hS
  go_enter Tryz.func9, Tryz.ntmps9
  go_wp2_with fail
  refine HP.out.mono ?_
  rintro e w1 ⟨rfl, hb1⟩
  have HB1 := Aside0.mk hb1
  clear hb1
  go_wp2_with fail
  refine (HR.out w1).mono ?_
  rintro e w2 ⟨rfl, hb2⟩
  have hb := below_to HB1.out hb2
  have HB2 := Aside0.mk hb
  have HA := Aside0.mk (HAW.out w2 m ((HV.out.move hb).up hb.size))
  clear hb hb2
  go_wp2_with fail
  refine HA.out.mono ?_
  rintro e w3 ⟨rfl, hb3⟩
  have HB3 := Aside0.mk (below_to HB2.out hb3)
  clear hb3
  go_wp2_with fail
  go_ret
  exact ⟨rfl, HB3.out⟩

end Go.Proofs.YtkipjalfgdfaiaaGreatDoor
namespace Go.Proofs.YtkipjalfgdfaiaaGreatDoor
set_option linter.unusedVariables false
set_option linter.unusedSimpArgs false
open Go.ChangeShapes Go.WideShapes Go.ChangeAt Go.RowKit

theorem maxIs_of {w : World} (h : w.ShapedOpen Tryz.prog) : ∃ m, MaxIs w m :=
  cell_of_shapedOpen_int (g := 2) (zero := #[.int .i64 0]) (t := 3) (k := .i64) h (of_decide_eq_true (by kernel_rfl)) (by kernel_rfl) rfl (by kernel_rfl) (by kernel_rfl) Tryz.underlying3

theorem witness_row_zip {H : Type} {enc : TypeId × Value → H} {C : Checked} {os : Os} {f : FuncId} {fn : Func} {s : OpenSpec} {conds : List PathCond} {apart : Bool} {laid : List (String × DataW Unit)} (w0 : World) (args : Array Value) (hos : w0.os = os)
    (hsh : (w0.forCall (fun _ _ => 0) ⟨#[], args, []⟩).Shaped C.prog)
    (hok : Input.okWideB C.prog (w0.forCall (fun _ _ => 0) ⟨#[], args, []⟩) f ⟨#[], args, []⟩ = true)
    (hrow : s.preRow enc C.prog fn conds apart laid (w0.forCall (fun _ _ => 0) ⟨#[], args, []⟩).memory args) :
    ∃ (w : World) (tape : Tape) (i : Input), w.os = os ∧ (w.forCall tape i).Shaped C.prog ∧ i.vars = [] ∧ Input.okWide C.prog (w.forCall tape i) .any w.heap.size f i ∧
      s.preRow enc C.prog fn conds apart laid (w.forCall tape i).memory i.args ∧ ({} : Assume).holds C.prog (lone (Frame.enter C.prog f i.args .normal) [] (w.forCall tape i)) :=
  ⟨w0, fun _ _ => 0, ⟨#[], args, []⟩, hos, hsh, rfl, (Input.okWide_of_okWideB (base := w0.heap.size) hok).2, hrow, by
    simp only [Assume.holds]
    exact ⟨by simp, by simp, fun _ => Modest.zero, by simp, by simp⟩⟩

end Go.Proofs.YtkipjalfgdfaiaaGreatDoor
namespace Go.Proofs.YtkipjalfgdfaiaaGreatDoor
set_option linter.unusedVariables false
set_option linter.unusedSimpArgs false
open Go.ChangeShapes Go.WideShapes Go.ChangeAt Go.RowKit

theorem iface_of_reads {P : Program} {w : World} {n : String} {d : DataW Unit} {g : Nat} {t : TypeId} (h : Lib.VarReads P w n d) (hg : P.globalNamed n = some g) (ht : (P.globals[g]?).map (·.type) = some t) (hu : ∃ i, P.underlying t = some (.interface i)) :
    ∃ ev, w.cell? ⟨g, 0, none⟩ = some ev ∧ (ev = .nilIface ∨ ∃ te pe, ev = .iface te pe) := by
  obtain ⟨g', t', cs, fuel, p, hg', ht', hv, htr⟩ := h
  obtain rfl := Option.some.inj (hg.symm.trans hg')
  obtain rfl := Option.some.inj (ht.symm.trans ht')
  have hc := World.var?_cell hg hv 0
  obtain ⟨i, hu⟩ := hu
  obtain ⟨l⟩ := cs
  cases fuel with
  | zero => simp [DataW.trod] at htr
  | succ fuel =>
    unfold DataW.trod at htr
    rw [hu] at htr
    match l, htr with
    | [.nilIface], _ => exact ⟨.nilIface, hc, .inl rfl⟩
    | [.iface u v], _ => exact ⟨.iface u v, hc, .inr ⟨u, v, rfl⟩⟩

theorem vars_of {w : World} {l : List (String × DataW Unit)} (hl : laidMet Tryz.prog l w) {d : DataW Unit} (hm : ("strconv.ErrSyntax", d) ∈ l) (hs : w.ShapedOpen Tryz.prog) : ∃ m, Vars w.heap.size w m := by
  obtain ⟨m, hmx⟩ := maxIs_of hs
  obtain ⟨ev, hev, he⟩ := iface_of_reads (Lib.laidMet.reads hl hm) (g := 7) (t := 90) (by kernel_rfl) (by kernel_rfl) ⟨_, Tryz.underlying90⟩
  exact ⟨m, hmx, ⟨ev, hev, he⟩, World.block_lt_of_cell? w _ hmx, World.block_lt_of_cell? w _ hev⟩

end Go.Proofs.YtkipjalfgdfaiaaGreatDoor
namespace Go.Proofs.YtkipjalfgdfaiaaGreatDoor
set_option linter.unusedVariables false
set_option linter.unusedSimpArgs false
open Go.ChangeShapes Go.WideShapes Go.ChangeAt Go.RowKit

theorem tab_of {w : World} {l : List (String × DataW Unit)} (hl : laidMet Tryz.prog l w) (hm : ("math/bits.deBruijn64tab", Rows.laid_math_bits_deBruijn64tab) ∈ l) : w.cell? ⟨6, 15, none⟩ = some (.int .u8 4) := by
  obtain ⟨g', t', cs, fuel, p, hg', ht', hv, htr⟩ := Lib.laidMet.reads hl hm
  obtain rfl := Option.some.inj ((show Tryz.prog.globalNamed "math/bits.deBruijn64tab" = some 6 by kernel_rfl).symm.trans hg')
  obtain rfl := Option.some.inj ((show (Tryz.prog.globals[6]?).map (·.type) = some 202 by kernel_rfl).symm.trans ht')
  have hc := World.var?_cell hg' hv 15
  have h := Lib.cells_of_tab (zs := [0, 1, 56, 2, 57, 49, 28, 3, 61, 58, 42, 50, 38, 29, 17, 4, 62, 47, 59, 36, 45, 43, 51, 22, 53, 39, 33, 30, 24, 18, 12, 5, 63, 55, 48, 27, 60, 41, 37, 16, 46, 35, 44, 21, 52, 32, 23, 11, 54, 26, 40, 15, 34, 20, 31, 10, 25, 14, 19, 9, 13, 8, 7, 6]) (k := .u8) Tryz.underlying202 Tryz.underlying5 (by kernel_rfl) (by kernel_rfl) htr
  rw [hc]
  have h2 : cs[15]? = cs.toList[15]? := by simp
  rw [h2, h]
  rfl

end Go.Proofs.YtkipjalfgdfaiaaGreatDoor
