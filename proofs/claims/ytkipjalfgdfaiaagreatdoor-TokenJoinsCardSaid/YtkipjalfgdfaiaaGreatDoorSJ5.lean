/- TkRC, TkRD, TkRE, TkRF, TkG, TkCl, TkJ, TkPa, ShelfU, TkPr, TkQ, TokenJoinsW, LnM, TkH, TkH2, Rd, TkOp, TkOpI, TokenJoins. -/
import Derived.Recover
import Derived.Defers
import Derived.Lib.SlBytesConst
import Derived.WalkSpells
import Derived.WalkLawsBesides
import Derived.Laws.BitsLemmas
import Derived.Shelf.Strings.OnBuilder
import Derived.Test.YtkipjalfgdfaiaaGreatDoorRows
import Derived.Shelf.Vars
import Derived.Deep.DeepHandedRow
import Derived.Lay
import Derived.Lib.LaidU8
import Derived.ChangeSlices
import Derived.Deep.SlicePairs
import Derived.SliceStrings
import Derived.ChangeSame
import Derived.Test.YtkipjalfgdfaiaaGreatDoorCards
import Derived.Test.YtkipjalfgdfaiaaGreatDoorTie
import Derived.WalkKit
import Derived.ProofKit
import Derived.OpenShut
import Derived.ShutString
import Derived.ChangeOld
import Derived.Below
import Derived.SizedLaws
import Derived.SevenTiedAt
import Derived.Test.YtkipjalfgdfaiaaGreatDoorSJ4
namespace Go.Proofs.YtkipjalfgdfaiaaGreatDoor
set_option linter.unusedVariables false
set_option linter.unusedSimpArgs false
open Go.RowKit Go.Proofs.YtkipjalfgdfaiaaGreatDoorW.PrintWords Go.Proofs.YtkipjalfgdfaiaaGreatDoorW.PrintLast Go.Proofs.YtkipjalfgdfaiaaGreatDoorW.PrintMore Go.Proofs.YtkipjalfgdfaiaaGreatDoor.PTk

section
variable {W0 w : World} {m : Int} {base g h : Nat} {A : Option Addr} {c : Nat} {p : List Int} {st ne k : Nat} {t : Tk}
set_option maxHeartbeats 8000000 in
set_option maxRecDepth 100000 in
theorem oth_bytes (b : ByteArray) (hal : AliasIs b) (S : St W0 m base g h A c p st ne t k w) (hst : t.st = st) (hk : st ≤ k) (hkl : k < p.length) (x : Int × Nat) (hc : charL p k = .error x) :
    Calls Tryz.prog 53 #[.pointer (some ⟨g, 0, none⟩), .pointer (some ⟨h, 0, none⟩)] w (RT W0 g h (fun t k w' => St W0 m base g h A c p st ne t k w') (otherL (resolveL (rowsB b)) p ne k t)) := by
  have HS0 := Aside0.mk S
  have HL : Aside0 (otherL (resolveL (rowsB b)) p ne k t = .error x) := ⟨by unfold otherL; rw [hc, thenF_err]⟩
  have HC := Aside0.mk hc
  clear S hst hk hc
  go_enter Tryz.func53, Tryz.ntmps53
  go_wp2_with fail
  refine (sChar HS0.out hkl).mono ?_
  intro e w1 hr
  rw [HC.out] at hr
  obtain ⟨rfl, hB⟩ := hr
  have HBE := Aside0.mk hB
  clear hB
  go_wp2
  rw [HL.out]
  exact ⟨rfl, rfl, HBE.out⟩
set_option maxHeartbeats 8000000 in
set_option maxRecDepth 100000 in
theorem oth_esc (b : ByteArray) (hal : AliasIs b) (S : St W0 m base g h A c p st ne t k w) (hst : t.st = st) (hk : st ≤ k) (hkl : k < p.length) (k1 : Nat) (hc : charL p k = .ok (92, k1)) :
    Calls Tryz.prog 53 #[.pointer (some ⟨g, 0, none⟩), .pointer (some ⟨h, 0, none⟩)] w (RT W0 g h (fun t k w' => St W0 m base g h A c p st ne t k w') (otherL (resolveL (rowsB b)) p ne k t)) := by
  have HS0 := Aside0.mk S
  have hgh := S.hn
  have hgh2 := Ne.symm S.hn
  obtain ⟨nb, -, hk1, hn1, hn2⟩ := char_ok hc
  have hsk1 : st ≤ k1 := by omega
  have HSK := Aside0.mk hsk1
  have HST := Aside0.mk hst
  have HAL := Aside0.mk hal
  have HPR := Aside0.mk S.sv.rng
  have HL : Aside0 (otherL (resolveL (rowsB b)) p ne k t = escapeL (resolveL (rowsB b)) p ne k1 t) := ⟨by unfold otherL; rw [hc, thenF_ok]; show othL (resolveL (rowsB b)) p ne 92 k1 t = _; unfold othL; rw [if_pos rfl]⟩
  have HC := Aside0.mk hc
  clear S hst hk hc hk1 hn1 hn2 hsk1 hal
  go_enter Tryz.func53, Tryz.ntmps53
  go_wp2_with fail
  refine (sChar HS0.out hkl).mono ?_
  intro e w1 hr
  rw [HC.out] at hr
  obtain ⟨rfl, hS⟩ := hr
  have HS1 := Aside0.mk hS
  clear hS
  have fc1_0 := HS1.out.cell 0 _ rfl
  have fr1_0 := HS1.out.free 0
  have fc1_1 := HS1.out.cell 1 _ rfl
  have fr1_1 := HS1.out.free 1
  have fc1_2 := HS1.out.cell 2 _ rfl
  have fr1_2 := HS1.out.free 2
  have ce1_0 := HS1.out.nest
  go_wp2_with fail
  refine (escape_any b HAL.out HS1.out HST.out HSK.out HPR.out).mono ?_
  intro e w2 hr
  obtain ⟨X, hX⟩ : ∃ X, escapeL (resolveL (rowsB b)) p ne k1 t = X := ⟨_, rfl⟩
  rw [hX] at hr
  rw [hX] at HL
  clear hX
  cases X with
  | error x =>
    obtain ⟨rfl, hB⟩ := hr
    have HBE := Aside0.mk hB
    clear hB
    go_wp2
    rw [HL.out]
    exact ⟨rfl, rfl, HBE.out⟩
  | ok x =>
    obtain ⟨rfl, hS⟩ := hr
    have HS2 := Aside0.mk hS
    clear hS
    go_wp2
    go_end0
    rw [HL.out]
    exact ⟨rfl, HS2.out⟩
set_option maxHeartbeats 8000000 in
set_option maxRecDepth 100000 in
theorem oth_in (b : ByteArray) (hal : AliasIs b) (S : St W0 m base g h A c p st ne t k w) (hst : t.st = st) (hk : st ≤ k) (hkl : k < p.length) (ch : Int) (k1 : Nat) (hc : charL p k = .ok (ch, k1)) (n92 : ch ≠ 92) (hne : ne ≠ 0) :
    Calls Tryz.prog 53 #[.pointer (some ⟨g, 0, none⟩), .pointer (some ⟨h, 0, none⟩)] w (RT W0 g h (fun t k w' => St W0 m base g h A c p st ne t k w') (otherL (resolveL (rowsB b)) p ne k t)) := by
  have HS0 := Aside0.mk S
  have hgh := S.hn
  have hgh2 := Ne.symm S.hn
  obtain ⟨nb, -, hk1, hn1, hn2⟩ := char_ok hc
  have hsk1 : st ≤ k1 := by omega
  have HSK := Aside0.mk hsk1
  have HST := Aside0.mk hst
  have HAL := Aside0.mk hal
  have HPR := Aside0.mk S.sv.rng
  have HL : Aside0 (otherL (resolveL (rowsB b)) p ne k t = .ok ({ t with kind := 1, a := ch }, k1)) := ⟨by unfold otherL; rw [hc, thenF_ok]; show othL (resolveL (rowsB b)) p ne ch k1 t = _; unfold othL; rw [if_neg n92, if_pos hne]⟩
  have HC := Aside0.mk hc
  have e92 : (ch == 92) = false := by rw [beq_eq_false_iff_ne]; exact n92
  have f92 : (92 == ch) = false := by rw [beq_eq_false_iff_ne]; exact fun e => n92 e.symm
  have hnd : decide (0 < ne) = true := decide_eq_true (by omega)
  clear S hst hk hc hk1 hn1 hn2 hsk1 hal n92 hne
  go_enter Tryz.func53, Tryz.ntmps53
  go_wp2_with fail
  refine (sChar HS0.out hkl).mono ?_
  intro e w1 hr
  rw [HC.out] at hr
  obtain ⟨rfl, hS⟩ := hr
  have HS1 := Aside0.mk hS
  clear hS
  have fc1_0 := HS1.out.cell 0 _ rfl
  have fr1_0 := HS1.out.free 0
  have fc1_1 := HS1.out.cell 1 _ rfl
  have fr1_1 := HS1.out.free 1
  have fc1_2 := HS1.out.cell 2 _ rfl
  have fr1_2 := HS1.out.free 2
  have ce1_0 := HS1.out.nest
  go_wp2
  go_end0
  rw [HL.out]
  exact ⟨rfl, ((HS1.out.setT 0 _ { t with kind := 1 } rfl).setT 2 _ { t with kind := 1, a := ch } rfl)⟩
set_option maxHeartbeats 8000000 in
set_option maxRecDepth 100000 in
theorem oth_out_dot (b : ByteArray) (hal : AliasIs b) (S : St W0 m base g h A c p st ne t k w) (hst : t.st = st) (hk : st ≤ k) (hkl : k < p.length) (k1 : Nat) (hc : charL p k = .ok (46, k1)) (h00 : ne = 0) :
    Calls Tryz.prog 53 #[.pointer (some ⟨g, 0, none⟩), .pointer (some ⟨h, 0, none⟩)] w (RT W0 g h (fun t k w' => St W0 m base g h A c p st ne t k w') (otherL (resolveL (rowsB b)) p ne k t)) := by
  have HS0 := Aside0.mk S
  have hgh := S.hn
  have hgh2 := Ne.symm S.hn
  obtain ⟨nb, -, hk1, hn1, hn2⟩ := char_ok hc
  have hsk1 : st ≤ k1 := by omega
  have HSK := Aside0.mk hsk1
  have HST := Aside0.mk hst
  have HAL := Aside0.mk hal
  have HPR := Aside0.mk S.sv.rng
  have HL : Aside0 (otherL (resolveL (rowsB b)) p ne k t = .ok ({ t with kind := 2 }, k1)) := ⟨by unfold otherL; rw [hc, thenF_ok]; show othL (resolveL (rowsB b)) p ne 46 k1 t = _; unfold othL; rw [if_neg (by decide), if_neg (fun q => q h00), if_pos rfl]⟩
  have HC := Aside0.mk hc
  subst h00
  clear S hst hk hc hk1 hn1 hn2 hsk1 hal
  go_enter Tryz.func53, Tryz.ntmps53
  go_wp2_with fail
  refine (sChar HS0.out hkl).mono ?_
  intro e w1 hr
  rw [HC.out] at hr
  obtain ⟨rfl, hS⟩ := hr
  have HS1 := Aside0.mk hS
  clear hS
  have fc1_0 := HS1.out.cell 0 _ rfl
  have fr1_0 := HS1.out.free 0
  have fc1_1 := HS1.out.cell 1 _ rfl
  have fr1_1 := HS1.out.free 1
  have fc1_2 := HS1.out.cell 2 _ rfl
  have fr1_2 := HS1.out.free 2
  have ce1_0 := HS1.out.nest
  go_wp2
  go_end0
  rw [HL.out]
  exact ⟨rfl, (HS1.out.setT 0 _ { t with kind := 2 } rfl)⟩
set_option maxHeartbeats 8000000 in
set_option maxRecDepth 100000 in
theorem oth_out_bar (b : ByteArray) (hal : AliasIs b) (S : St W0 m base g h A c p st ne t k w) (hst : t.st = st) (hk : st ≤ k) (hkl : k < p.length) (k1 : Nat) (hc : charL p k = .ok (124, k1)) (h00 : ne = 0) :
    Calls Tryz.prog 53 #[.pointer (some ⟨g, 0, none⟩), .pointer (some ⟨h, 0, none⟩)] w (RT W0 g h (fun t k w' => St W0 m base g h A c p st ne t k w') (otherL (resolveL (rowsB b)) p ne k t)) := by
  have HS0 := Aside0.mk S
  have hgh := S.hn
  have hgh2 := Ne.symm S.hn
  obtain ⟨nb, -, hk1, hn1, hn2⟩ := char_ok hc
  have hsk1 : st ≤ k1 := by omega
  have HSK := Aside0.mk hsk1
  have HST := Aside0.mk hst
  have HAL := Aside0.mk hal
  have HPR := Aside0.mk S.sv.rng
  have HL : Aside0 (otherL (resolveL (rowsB b)) p ne k t = .ok ({ t with kind := 5 }, k1)) := ⟨by unfold otherL; rw [hc, thenF_ok]; show othL (resolveL (rowsB b)) p ne 124 k1 t = _; unfold othL; rw [if_neg (by decide), if_neg (fun q => q h00), if_neg (by decide), if_pos rfl]⟩
  have HC := Aside0.mk hc
  subst h00
  clear S hst hk hc hk1 hn1 hn2 hsk1 hal
  go_enter Tryz.func53, Tryz.ntmps53
  go_wp2_with fail
  refine (sChar HS0.out hkl).mono ?_
  intro e w1 hr
  rw [HC.out] at hr
  obtain ⟨rfl, hS⟩ := hr
  have HS1 := Aside0.mk hS
  clear hS
  have fc1_0 := HS1.out.cell 0 _ rfl
  have fr1_0 := HS1.out.free 0
  have fc1_1 := HS1.out.cell 1 _ rfl
  have fr1_1 := HS1.out.free 1
  have fc1_2 := HS1.out.cell 2 _ rfl
  have fr1_2 := HS1.out.free 2
  have ce1_0 := HS1.out.nest
  go_wp2
  go_end0
  rw [HL.out]
  exact ⟨rfl, (HS1.out.setT 0 _ { t with kind := 5 } rfl)⟩
set_option maxHeartbeats 8000000 in
set_option maxRecDepth 100000 in
theorem oth_out_par (b : ByteArray) (hal : AliasIs b) (S : St W0 m base g h A c p st ne t k w) (hst : t.st = st) (hk : st ≤ k) (hkl : k < p.length) (k1 : Nat) (hc : charL p k = .ok (40, k1)) (h00 : ne = 0) :
    Calls Tryz.prog 53 #[.pointer (some ⟨g, 0, none⟩), .pointer (some ⟨h, 0, none⟩)] w (RT W0 g h (fun t k w' => St W0 m base g h A c p st ne t k w') (otherL (resolveL (rowsB b)) p ne k t)) := by
  have HS0 := Aside0.mk S
  have hgh := S.hn
  have hgh2 := Ne.symm S.hn
  obtain ⟨nb, -, hk1, hn1, hn2⟩ := char_ok hc
  have hsk1 : st ≤ k1 := by omega
  have HSK := Aside0.mk hsk1
  have HST := Aside0.mk hst
  have HAL := Aside0.mk hal
  have HPR := Aside0.mk S.sv.rng
  have HL : Aside0 (otherL (resolveL (rowsB b)) p ne k t = openL p k1 t) := ⟨by unfold otherL; rw [hc, thenF_ok]; show othL (resolveL (rowsB b)) p ne 40 k1 t = _; unfold othL; rw [if_neg (by decide), if_neg (fun q => q h00), if_neg (by decide), if_neg (by decide), if_pos rfl]⟩
  have HC := Aside0.mk hc
  subst h00
  clear S hst hk hc hk1 hn1 hn2 hsk1 hal
  go_enter Tryz.func53, Tryz.ntmps53
  go_wp2_with fail
  refine (sChar HS0.out hkl).mono ?_
  intro e w1 hr
  rw [HC.out] at hr
  obtain ⟨rfl, hS⟩ := hr
  have HS1 := Aside0.mk hS
  clear hS
  have fc1_0 := HS1.out.cell 0 _ rfl
  have fr1_0 := HS1.out.free 0
  have fc1_1 := HS1.out.cell 1 _ rfl
  have fr1_1 := HS1.out.free 1
  have fc1_2 := HS1.out.cell 2 _ rfl
  have fr1_2 := HS1.out.free 2
  have ce1_0 := HS1.out.nest
  go_wp2_with fail
  refine (open_any HS1.out HST.out HSK.out).mono ?_
  intro e w2 hr
  obtain ⟨X, hX⟩ : ∃ X, openL p k1 t = X := ⟨_, rfl⟩
  rw [hX] at hr
  rw [hX] at HL
  clear hX
  cases X with
  | error x =>
    obtain ⟨rfl, hB⟩ := hr
    have HBE := Aside0.mk hB
    clear hB
    go_wp2
    rw [HL.out]
    exact ⟨rfl, rfl, HBE.out⟩
  | ok x =>
    obtain ⟨rfl, hS⟩ := hr
    have HS2 := Aside0.mk hS
    clear hS
    go_wp2
    go_end0
    rw [HL.out]
    exact ⟨rfl, HS2.out⟩
set_option maxHeartbeats 8000000 in
set_option maxRecDepth 100000 in
theorem oth_out_close (b : ByteArray) (hal : AliasIs b) (S : St W0 m base g h A c p st ne t k w) (hst : t.st = st) (hk : st ≤ k) (hkl : k < p.length) (k1 : Nat) (hc : charL p k = .ok (41, k1)) (h00 : ne = 0) :
    Calls Tryz.prog 53 #[.pointer (some ⟨g, 0, none⟩), .pointer (some ⟨h, 0, none⟩)] w (RT W0 g h (fun t k w' => St W0 m base g h A c p st ne t k w') (otherL (resolveL (rowsB b)) p ne k t)) := by
  have HS0 := Aside0.mk S
  have hgh := S.hn
  have hgh2 := Ne.symm S.hn
  obtain ⟨nb, -, hk1, hn1, hn2⟩ := char_ok hc
  have hsk1 : st ≤ k1 := by omega
  have HSK := Aside0.mk hsk1
  have HST := Aside0.mk hst
  have HAL := Aside0.mk hal
  have HPR := Aside0.mk S.sv.rng
  have HL : Aside0 (otherL (resolveL (rowsB b)) p ne k t = .ok ({ t with kind := 4 }, k1)) := ⟨by unfold otherL; rw [hc, thenF_ok]; show othL (resolveL (rowsB b)) p ne 41 k1 t = _; unfold othL; rw [if_neg (by decide), if_neg (fun q => q h00), if_neg (by decide), if_neg (by decide), if_neg (by decide), if_pos rfl]⟩
  have HC := Aside0.mk hc
  subst h00
  clear S hst hk hc hk1 hn1 hn2 hsk1 hal
  go_enter Tryz.func53, Tryz.ntmps53
  go_wp2_with fail
  refine (sChar HS0.out hkl).mono ?_
  intro e w1 hr
  rw [HC.out] at hr
  obtain ⟨rfl, hS⟩ := hr
  have HS1 := Aside0.mk hS
  clear hS
  have fc1_0 := HS1.out.cell 0 _ rfl
  have fr1_0 := HS1.out.free 0
  have fc1_1 := HS1.out.cell 1 _ rfl
  have fr1_1 := HS1.out.free 1
  have fc1_2 := HS1.out.cell 2 _ rfl
  have fr1_2 := HS1.out.free 2
  have ce1_0 := HS1.out.nest
  go_wp2
  go_end0
  rw [HL.out]
  exact ⟨rfl, (HS1.out.setT 0 _ { t with kind := 4 } rfl)⟩
set_option maxHeartbeats 8000000 in
set_option maxRecDepth 100000 in
theorem oth_out_hat (b : ByteArray) (hal : AliasIs b) (S : St W0 m base g h A c p st ne t k w) (hst : t.st = st) (hk : st ≤ k) (hkl : k < p.length) (k1 : Nat) (hc : charL p k = .ok (94, k1)) (h00 : ne = 0) :
    Calls Tryz.prog 53 #[.pointer (some ⟨g, 0, none⟩), .pointer (some ⟨h, 0, none⟩)] w (RT W0 g h (fun t k w' => St W0 m base g h A c p st ne t k w') (otherL (resolveL (rowsB b)) p ne k t)) := by
  have HS0 := Aside0.mk S
  have hgh := S.hn
  have hgh2 := Ne.symm S.hn
  obtain ⟨nb, -, hk1, hn1, hn2⟩ := char_ok hc
  have hsk1 : st ≤ k1 := by omega
  have HSK := Aside0.mk hsk1
  have HST := Aside0.mk hst
  have HAL := Aside0.mk hal
  have HPR := Aside0.mk S.sv.rng
  have HL : Aside0 (otherL (resolveL (rowsB b)) p ne k t = .ok ({ t with kind := 7, mode := 1 }, k1)) := ⟨by unfold otherL; rw [hc, thenF_ok]; show othL (resolveL (rowsB b)) p ne 94 k1 t = _; unfold othL; rw [if_neg (by decide), if_neg (fun q => q h00), if_neg (by decide), if_neg (by decide), if_neg (by decide), if_neg (by decide), if_pos rfl]⟩
  have HC := Aside0.mk hc
  subst h00
  clear S hst hk hc hk1 hn1 hn2 hsk1 hal
  go_enter Tryz.func53, Tryz.ntmps53
  go_wp2_with fail
  refine (sChar HS0.out hkl).mono ?_
  intro e w1 hr
  rw [HC.out] at hr
  obtain ⟨rfl, hS⟩ := hr
  have HS1 := Aside0.mk hS
  clear hS
  have fc1_0 := HS1.out.cell 0 _ rfl
  have fr1_0 := HS1.out.free 0
  have fc1_1 := HS1.out.cell 1 _ rfl
  have fr1_1 := HS1.out.free 1
  have fc1_2 := HS1.out.cell 2 _ rfl
  have fr1_2 := HS1.out.free 2
  have ce1_0 := HS1.out.nest
  go_wp2
  go_end0
  rw [HL.out]
  exact ⟨rfl, ((HS1.out.setT 0 _ { t with kind := 7 } rfl).setT 1 _ { t with kind := 7, mode := 1 } rfl)⟩
set_option maxHeartbeats 8000000 in
set_option maxRecDepth 100000 in
theorem oth_out_dollar (b : ByteArray) (hal : AliasIs b) (S : St W0 m base g h A c p st ne t k w) (hst : t.st = st) (hk : st ≤ k) (hkl : k < p.length) (k1 : Nat) (hc : charL p k = .ok (36, k1)) (h00 : ne = 0) :
    Calls Tryz.prog 53 #[.pointer (some ⟨g, 0, none⟩), .pointer (some ⟨h, 0, none⟩)] w (RT W0 g h (fun t k w' => St W0 m base g h A c p st ne t k w') (otherL (resolveL (rowsB b)) p ne k t)) := by
  have HS0 := Aside0.mk S
  have hgh := S.hn
  have hgh2 := Ne.symm S.hn
  obtain ⟨nb, -, hk1, hn1, hn2⟩ := char_ok hc
  have hsk1 : st ≤ k1 := by omega
  have HSK := Aside0.mk hsk1
  have HST := Aside0.mk hst
  have HAL := Aside0.mk hal
  have HPR := Aside0.mk S.sv.rng
  have HL : Aside0 (otherL (resolveL (rowsB b)) p ne k t = .ok ({ t with kind := 7, mode := 2 }, k1)) := ⟨by unfold otherL; rw [hc, thenF_ok]; show othL (resolveL (rowsB b)) p ne 36 k1 t = _; unfold othL; rw [if_neg (by decide), if_neg (fun q => q h00), if_neg (by decide), if_neg (by decide), if_neg (by decide), if_neg (by decide), if_neg (by decide), if_pos rfl]⟩
  have HC := Aside0.mk hc
  subst h00
  clear S hst hk hc hk1 hn1 hn2 hsk1 hal
  go_enter Tryz.func53, Tryz.ntmps53
  go_wp2_with fail
  refine (sChar HS0.out hkl).mono ?_
  intro e w1 hr
  rw [HC.out] at hr
  obtain ⟨rfl, hS⟩ := hr
  have HS1 := Aside0.mk hS
  clear hS
  have fc1_0 := HS1.out.cell 0 _ rfl
  have fr1_0 := HS1.out.free 0
  have fc1_1 := HS1.out.cell 1 _ rfl
  have fr1_1 := HS1.out.free 1
  have fc1_2 := HS1.out.cell 2 _ rfl
  have fr1_2 := HS1.out.free 2
  have ce1_0 := HS1.out.nest
  go_wp2
  go_end0
  rw [HL.out]
  exact ⟨rfl, ((HS1.out.setT 0 _ { t with kind := 7 } rfl).setT 1 _ { t with kind := 7, mode := 2 } rfl)⟩
set_option maxHeartbeats 8000000 in
set_option maxRecDepth 100000 in
theorem oth_out_star (b : ByteArray) (hal : AliasIs b) (S : St W0 m base g h A c p st ne t k w) (hst : t.st = st) (hk : st ≤ k) (hkl : k < p.length) (k1 : Nat) (hc : charL p k = .ok (42, k1)) (h00 : ne = 0) :
    Calls Tryz.prog 53 #[.pointer (some ⟨g, 0, none⟩), .pointer (some ⟨h, 0, none⟩)] w (RT W0 g h (fun t k w' => St W0 m base g h A c p st ne t k w') (otherL (resolveL (rowsB b)) p ne k t)) := by
  have HS0 := Aside0.mk S
  have hgh := S.hn
  have hgh2 := Ne.symm S.hn
  obtain ⟨nb, -, hk1, hn1, hn2⟩ := char_ok hc
  have hsk1 : st ≤ k1 := by omega
  have HSK := Aside0.mk hsk1
  have HST := Aside0.mk hst
  have HAL := Aside0.mk hal
  have HPR := Aside0.mk S.sv.rng
  have HL : Aside0 (otherL (resolveL (rowsB b)) p ne k t = repeatL p k1 t 42) := ⟨by unfold otherL; rw [hc, thenF_ok]; show othL (resolveL (rowsB b)) p ne 42 k1 t = _; unfold othL; rw [if_neg (by decide), if_neg (fun q => q h00), if_neg (by decide), if_neg (by decide), if_neg (by decide), if_neg (by decide), if_neg (by decide), if_neg (by decide), if_pos (by decide)]⟩
  have HC := Aside0.mk hc
  subst h00
  clear S hst hk hc hk1 hn1 hn2 hsk1 hal
  go_enter Tryz.func53, Tryz.ntmps53
  go_wp2_with fail
  refine (sChar HS0.out hkl).mono ?_
  intro e w1 hr
  rw [HC.out] at hr
  obtain ⟨rfl, hS⟩ := hr
  have HS1 := Aside0.mk hS
  clear hS
  have fc1_0 := HS1.out.cell 0 _ rfl
  have fr1_0 := HS1.out.free 0
  have fc1_1 := HS1.out.cell 1 _ rfl
  have fr1_1 := HS1.out.free 1
  have fc1_2 := HS1.out.cell 2 _ rfl
  have fr1_2 := HS1.out.free 2
  have ce1_0 := HS1.out.nest
  go_wp2_with fail
  refine (repeat_any HS1.out HST.out HSK.out 42).mono ?_
  intro e w2 hr
  obtain ⟨X, hX⟩ : ∃ X, repeatL p k1 t 42 = X := ⟨_, rfl⟩
  rw [hX] at hr
  rw [hX] at HL
  clear hX
  cases X with
  | error x =>
    obtain ⟨rfl, hB⟩ := hr
    have HBE := Aside0.mk hB
    clear hB
    go_wp2
    rw [HL.out]
    exact ⟨rfl, rfl, HBE.out⟩
  | ok x =>
    obtain ⟨rfl, hS⟩ := hr
    have HS2 := Aside0.mk hS
    clear hS
    go_wp2
    go_end0
    rw [HL.out]
    exact ⟨rfl, HS2.out⟩
set_option maxHeartbeats 8000000 in
set_option maxRecDepth 100000 in
theorem oth_out_plus (b : ByteArray) (hal : AliasIs b) (S : St W0 m base g h A c p st ne t k w) (hst : t.st = st) (hk : st ≤ k) (hkl : k < p.length) (k1 : Nat) (hc : charL p k = .ok (43, k1)) (h00 : ne = 0) :
    Calls Tryz.prog 53 #[.pointer (some ⟨g, 0, none⟩), .pointer (some ⟨h, 0, none⟩)] w (RT W0 g h (fun t k w' => St W0 m base g h A c p st ne t k w') (otherL (resolveL (rowsB b)) p ne k t)) := by
  have HS0 := Aside0.mk S
  have hgh := S.hn
  have hgh2 := Ne.symm S.hn
  obtain ⟨nb, -, hk1, hn1, hn2⟩ := char_ok hc
  have hsk1 : st ≤ k1 := by omega
  have HSK := Aside0.mk hsk1
  have HST := Aside0.mk hst
  have HAL := Aside0.mk hal
  have HPR := Aside0.mk S.sv.rng
  have HL : Aside0 (otherL (resolveL (rowsB b)) p ne k t = repeatL p k1 t 43) := ⟨by unfold otherL; rw [hc, thenF_ok]; show othL (resolveL (rowsB b)) p ne 43 k1 t = _; unfold othL; rw [if_neg (by decide), if_neg (fun q => q h00), if_neg (by decide), if_neg (by decide), if_neg (by decide), if_neg (by decide), if_neg (by decide), if_neg (by decide), if_pos (by decide)]⟩
  have HC := Aside0.mk hc
  subst h00
  clear S hst hk hc hk1 hn1 hn2 hsk1 hal
  go_enter Tryz.func53, Tryz.ntmps53
  go_wp2_with fail
  refine (sChar HS0.out hkl).mono ?_
  intro e w1 hr
  rw [HC.out] at hr
  obtain ⟨rfl, hS⟩ := hr
  have HS1 := Aside0.mk hS
  clear hS
  have fc1_0 := HS1.out.cell 0 _ rfl
  have fr1_0 := HS1.out.free 0
  have fc1_1 := HS1.out.cell 1 _ rfl
  have fr1_1 := HS1.out.free 1
  have fc1_2 := HS1.out.cell 2 _ rfl
  have fr1_2 := HS1.out.free 2
  have ce1_0 := HS1.out.nest
  go_wp2_with fail
  refine (repeat_any HS1.out HST.out HSK.out 43).mono ?_
  intro e w2 hr
  obtain ⟨X, hX⟩ : ∃ X, repeatL p k1 t 43 = X := ⟨_, rfl⟩
  rw [hX] at hr
  rw [hX] at HL
  clear hX
  cases X with
  | error x =>
    obtain ⟨rfl, hB⟩ := hr
    have HBE := Aside0.mk hB
    clear hB
    go_wp2
    rw [HL.out]
    exact ⟨rfl, rfl, HBE.out⟩
  | ok x =>
    obtain ⟨rfl, hS⟩ := hr
    have HS2 := Aside0.mk hS
    clear hS
    go_wp2
    go_end0
    rw [HL.out]
    exact ⟨rfl, HS2.out⟩
set_option maxHeartbeats 8000000 in
set_option maxRecDepth 100000 in
theorem oth_out_ask (b : ByteArray) (hal : AliasIs b) (S : St W0 m base g h A c p st ne t k w) (hst : t.st = st) (hk : st ≤ k) (hkl : k < p.length) (k1 : Nat) (hc : charL p k = .ok (63, k1)) (h00 : ne = 0) :
    Calls Tryz.prog 53 #[.pointer (some ⟨g, 0, none⟩), .pointer (some ⟨h, 0, none⟩)] w (RT W0 g h (fun t k w' => St W0 m base g h A c p st ne t k w') (otherL (resolveL (rowsB b)) p ne k t)) := by
  have HS0 := Aside0.mk S
  have hgh := S.hn
  have hgh2 := Ne.symm S.hn
  obtain ⟨nb, -, hk1, hn1, hn2⟩ := char_ok hc
  have hsk1 : st ≤ k1 := by omega
  have HSK := Aside0.mk hsk1
  have HST := Aside0.mk hst
  have HAL := Aside0.mk hal
  have HPR := Aside0.mk S.sv.rng
  have HL : Aside0 (otherL (resolveL (rowsB b)) p ne k t = repeatL p k1 t 63) := ⟨by unfold otherL; rw [hc, thenF_ok]; show othL (resolveL (rowsB b)) p ne 63 k1 t = _; unfold othL; rw [if_neg (by decide), if_neg (fun q => q h00), if_neg (by decide), if_neg (by decide), if_neg (by decide), if_neg (by decide), if_neg (by decide), if_neg (by decide), if_pos (by decide)]⟩
  have HC := Aside0.mk hc
  subst h00
  clear S hst hk hc hk1 hn1 hn2 hsk1 hal
  go_enter Tryz.func53, Tryz.ntmps53
  go_wp2_with fail
  refine (sChar HS0.out hkl).mono ?_
  intro e w1 hr
  rw [HC.out] at hr
  obtain ⟨rfl, hS⟩ := hr
  have HS1 := Aside0.mk hS
  clear hS
  have fc1_0 := HS1.out.cell 0 _ rfl
  have fr1_0 := HS1.out.free 0
  have fc1_1 := HS1.out.cell 1 _ rfl
  have fr1_1 := HS1.out.free 1
  have fc1_2 := HS1.out.cell 2 _ rfl
  have fr1_2 := HS1.out.free 2
  have ce1_0 := HS1.out.nest
  go_wp2_with fail
  refine (repeat_any HS1.out HST.out HSK.out 63).mono ?_
  intro e w2 hr
  obtain ⟨X, hX⟩ : ∃ X, repeatL p k1 t 63 = X := ⟨_, rfl⟩
  rw [hX] at hr
  rw [hX] at HL
  clear hX
  cases X with
  | error x =>
    obtain ⟨rfl, hB⟩ := hr
    have HBE := Aside0.mk hB
    clear hB
    go_wp2
    rw [HL.out]
    exact ⟨rfl, rfl, HBE.out⟩
  | ok x =>
    obtain ⟨rfl, hS⟩ := hr
    have HS2 := Aside0.mk hS
    clear hS
    go_wp2
    go_end0
    rw [HL.out]
    exact ⟨rfl, HS2.out⟩
set_option maxHeartbeats 8000000 in
set_option maxRecDepth 100000 in
theorem oth_out_brace (b : ByteArray) (hal : AliasIs b) (S : St W0 m base g h A c p st ne t k w) (hst : t.st = st) (hk : st ≤ k) (hkl : k < p.length) (k1 : Nat) (hc : charL p k = .ok (123, k1)) (h00 : ne = 0) :
    Calls Tryz.prog 53 #[.pointer (some ⟨g, 0, none⟩), .pointer (some ⟨h, 0, none⟩)] w (RT W0 g h (fun t k w' => St W0 m base g h A c p st ne t k w') (otherL (resolveL (rowsB b)) p ne k t)) := by
  have HS0 := Aside0.mk S
  have hgh := S.hn
  have hgh2 := Ne.symm S.hn
  obtain ⟨nb, -, hk1, hn1, hn2⟩ := char_ok hc
  have hsk1 : st ≤ k1 := by omega
  have HSK := Aside0.mk hsk1
  have HST := Aside0.mk hst
  have HAL := Aside0.mk hal
  have HPR := Aside0.mk S.sv.rng
  have HL : Aside0 (otherL (resolveL (rowsB b)) p ne k t = repeatL p k1 t 123) := ⟨by unfold otherL; rw [hc, thenF_ok]; show othL (resolveL (rowsB b)) p ne 123 k1 t = _; unfold othL; rw [if_neg (by decide), if_neg (fun q => q h00), if_neg (by decide), if_neg (by decide), if_neg (by decide), if_neg (by decide), if_neg (by decide), if_neg (by decide), if_pos (by decide)]⟩
  have HC := Aside0.mk hc
  subst h00
  clear S hst hk hc hk1 hn1 hn2 hsk1 hal
  go_enter Tryz.func53, Tryz.ntmps53
  go_wp2_with fail
  refine (sChar HS0.out hkl).mono ?_
  intro e w1 hr
  rw [HC.out] at hr
  obtain ⟨rfl, hS⟩ := hr
  have HS1 := Aside0.mk hS
  clear hS
  have fc1_0 := HS1.out.cell 0 _ rfl
  have fr1_0 := HS1.out.free 0
  have fc1_1 := HS1.out.cell 1 _ rfl
  have fr1_1 := HS1.out.free 1
  have fc1_2 := HS1.out.cell 2 _ rfl
  have fr1_2 := HS1.out.free 2
  have ce1_0 := HS1.out.nest
  go_wp2_with fail
  refine (repeat_any HS1.out HST.out HSK.out 123).mono ?_
  intro e w2 hr
  obtain ⟨X, hX⟩ : ∃ X, repeatL p k1 t 123 = X := ⟨_, rfl⟩
  rw [hX] at hr
  rw [hX] at HL
  clear hX
  cases X with
  | error x =>
    obtain ⟨rfl, hB⟩ := hr
    have HBE := Aside0.mk hB
    clear hB
    go_wp2
    rw [HL.out]
    exact ⟨rfl, rfl, HBE.out⟩
  | ok x =>
    obtain ⟨rfl, hS⟩ := hr
    have HS2 := Aside0.mk hS
    clear hS
    go_wp2
    go_end0
    rw [HL.out]
    exact ⟨rfl, HS2.out⟩
set_option maxHeartbeats 8000000 in
set_option maxRecDepth 100000 in
theorem oth_out_char (b : ByteArray) (hal : AliasIs b) (S : St W0 m base g h A c p st ne t k w) (hst : t.st = st) (hk : st ≤ k) (hkl : k < p.length) (ch : Int) (k1 : Nat) (hc : charL p k = .ok (ch, k1)) (n92 : ch ≠ 92) (n46 : ch ≠ 46) (n124 : ch ≠ 124) (n40 : ch ≠ 40) (n41 : ch ≠ 41) (n94 : ch ≠ 94) (n36 : ch ≠ 36) (n42 : ch ≠ 42) (n43 : ch ≠ 43) (n63 : ch ≠ 63) (n123 : ch ≠ 123) (h00 : ne = 0) :
    Calls Tryz.prog 53 #[.pointer (some ⟨g, 0, none⟩), .pointer (some ⟨h, 0, none⟩)] w (RT W0 g h (fun t k w' => St W0 m base g h A c p st ne t k w') (otherL (resolveL (rowsB b)) p ne k t)) := by
  have HS0 := Aside0.mk S
  have hgh := S.hn
  have hgh2 := Ne.symm S.hn
  obtain ⟨nb, -, hk1, hn1, hn2⟩ := char_ok hc
  have hsk1 : st ≤ k1 := by omega
  have HSK := Aside0.mk hsk1
  have HST := Aside0.mk hst
  have HAL := Aside0.mk hal
  have HPR := Aside0.mk S.sv.rng
  have HL : Aside0 (otherL (resolveL (rowsB b)) p ne k t = .ok ({ t with kind := 1, a := ch }, k1)) := ⟨by unfold otherL; rw [hc, thenF_ok]; show othL (resolveL (rowsB b)) p ne ch k1 t = _; unfold othL; rw [if_neg n92, if_neg (fun q => q h00), if_neg n46, if_neg n124, if_neg n40, if_neg n41, if_neg n94, if_neg n36, if_neg (fun q => by rcases q with q | q | q | q; exact n42 q; exact n43 q; exact n63 q; exact n123 q)]⟩
  have HC := Aside0.mk hc
  have e92 : (ch == 92) = false := by rw [beq_eq_false_iff_ne]; exact n92
  have f92 : (92 == ch) = false := by rw [beq_eq_false_iff_ne]; exact fun e => n92 e.symm
  have e46 : (ch == 46) = false := by rw [beq_eq_false_iff_ne]; exact n46
  have f46 : (46 == ch) = false := by rw [beq_eq_false_iff_ne]; exact fun e => n46 e.symm
  have e124 : (ch == 124) = false := by rw [beq_eq_false_iff_ne]; exact n124
  have f124 : (124 == ch) = false := by rw [beq_eq_false_iff_ne]; exact fun e => n124 e.symm
  have e40 : (ch == 40) = false := by rw [beq_eq_false_iff_ne]; exact n40
  have f40 : (40 == ch) = false := by rw [beq_eq_false_iff_ne]; exact fun e => n40 e.symm
  have e41 : (ch == 41) = false := by rw [beq_eq_false_iff_ne]; exact n41
  have f41 : (41 == ch) = false := by rw [beq_eq_false_iff_ne]; exact fun e => n41 e.symm
  have e94 : (ch == 94) = false := by rw [beq_eq_false_iff_ne]; exact n94
  have f94 : (94 == ch) = false := by rw [beq_eq_false_iff_ne]; exact fun e => n94 e.symm
  have e36 : (ch == 36) = false := by rw [beq_eq_false_iff_ne]; exact n36
  have f36 : (36 == ch) = false := by rw [beq_eq_false_iff_ne]; exact fun e => n36 e.symm
  have e42 : (ch == 42) = false := by rw [beq_eq_false_iff_ne]; exact n42
  have f42 : (42 == ch) = false := by rw [beq_eq_false_iff_ne]; exact fun e => n42 e.symm
  have e43 : (ch == 43) = false := by rw [beq_eq_false_iff_ne]; exact n43
  have f43 : (43 == ch) = false := by rw [beq_eq_false_iff_ne]; exact fun e => n43 e.symm
  have e63 : (ch == 63) = false := by rw [beq_eq_false_iff_ne]; exact n63
  have f63 : (63 == ch) = false := by rw [beq_eq_false_iff_ne]; exact fun e => n63 e.symm
  have e123 : (ch == 123) = false := by rw [beq_eq_false_iff_ne]; exact n123
  have f123 : (123 == ch) = false := by rw [beq_eq_false_iff_ne]; exact fun e => n123 e.symm
  subst h00
  clear S hst hk hc hk1 hn1 hn2 hsk1 hal n92 n46 n124 n40 n41 n94 n36 n42 n43 n63 n123
  go_enter Tryz.func53, Tryz.ntmps53
  go_wp2_with fail
  refine (sChar HS0.out hkl).mono ?_
  intro e w1 hr
  rw [HC.out] at hr
  obtain ⟨rfl, hS⟩ := hr
  have HS1 := Aside0.mk hS
  clear hS
  have fc1_0 := HS1.out.cell 0 _ rfl
  have fr1_0 := HS1.out.free 0
  have fc1_1 := HS1.out.cell 1 _ rfl
  have fr1_1 := HS1.out.free 1
  have fc1_2 := HS1.out.cell 2 _ rfl
  have fr1_2 := HS1.out.free 2
  have ce1_0 := HS1.out.nest
  go_wp2
  go_end0
  rw [HL.out]
  exact ⟨rfl, ((HS1.out.setT 0 _ { t with kind := 1 } rfl).setT 2 _ { t with kind := 1, a := ch } rfl)⟩
theorem other_any (b : ByteArray) (hal : AliasIs b) (S : St W0 m base g h A c p st ne t k w) (hst : t.st = st) (hk : st ≤ k) (hkl : k < p.length) :
    Calls Tryz.prog 53 #[.pointer (some ⟨g, 0, none⟩), .pointer (some ⟨h, 0, none⟩)] w (RT W0 g h (fun t k w' => St W0 m base g h A c p st ne t k w') (otherL (resolveL (rowsB b)) p ne k t)) := by
  cases hc : charL p k with
  | error x => exact oth_bytes b hal S hst hk hkl x hc
  | ok a =>
    obtain ⟨ch, k1⟩ := a
    by_cases n92 : ch = 92
    · subst n92; exact oth_esc b hal S hst hk hkl k1 hc
    by_cases h00 : ne = 0
    · by_cases n46 : ch = 46
      · subst n46; exact oth_out_dot b hal S hst hk hkl k1 hc h00
      by_cases n124 : ch = 124
      · subst n124; exact oth_out_bar b hal S hst hk hkl k1 hc h00
      by_cases n40 : ch = 40
      · subst n40; exact oth_out_par b hal S hst hk hkl k1 hc h00
      by_cases n41 : ch = 41
      · subst n41; exact oth_out_close b hal S hst hk hkl k1 hc h00
      by_cases n94 : ch = 94
      · subst n94; exact oth_out_hat b hal S hst hk hkl k1 hc h00
      by_cases n36 : ch = 36
      · subst n36; exact oth_out_dollar b hal S hst hk hkl k1 hc h00
      by_cases n42 : ch = 42
      · subst n42; exact oth_out_star b hal S hst hk hkl k1 hc h00
      by_cases n43 : ch = 43
      · subst n43; exact oth_out_plus b hal S hst hk hkl k1 hc h00
      by_cases n63 : ch = 63
      · subst n63; exact oth_out_ask b hal S hst hk hkl k1 hc h00
      by_cases n123 : ch = 123
      · subst n123; exact oth_out_brace b hal S hst hk hkl k1 hc h00
      exact oth_out_char b hal S hst hk hkl ch k1 hc n92 n46 n124 n40 n41 n94 n36 n42 n43 n63 n123 h00
    · exact oth_in b hal S hst hk hkl ch k1 hc n92 h00
end

end Go.Proofs.YtkipjalfgdfaiaaGreatDoor
namespace Go.Proofs.YtkipjalfgdfaiaaGreatDoor
set_option linter.unusedVariables false
set_option linter.unusedSimpArgs false
open Go.RowKit Go.Proofs.YtkipjalfgdfaiaaGreatDoorW.PrintWords Go.Proofs.YtkipjalfgdfaiaaGreatDoorW.PrintLast Go.Proofs.YtkipjalfgdfaiaaGreatDoorW.PrintMore Go.Proofs.YtkipjalfgdfaiaaGreatDoor.PTk

/-- A token that just begins. -/
def tk0 (k : Nat) : Tk := { kind := 0, st := k }
theorem results_one {P : Program} {fn : Func} {p : Tmp} {ty : TypeId} (h : fn.results = #[.cell p ty]) (tmps : Array Value) (w : World) (g : Nat) (t : TypeId) (cs : Array Value) (fr : Nat × Nat) (d : TypeDesc)
    (hp : tmps.getD p undef = .pointer (some ⟨g, 0, none⟩)) (hg : w.heap[g]? = some (.cells cs t fr))
    (hu : P.underlying ty = some d) (hd : (match d with | .struct _ | .array _ _ => true | _ => false) = true) (hi : (P.info? ty).map (·.size) = some cs.size) :
    (results fn tmps).run P w = .ok (.agg cs) w := by
  have hp' : tmps[p]?.getD undef = .pointer (some ⟨g, 0, none⟩) := by simpa using hp
  simp [results, h, hp', asAddr, run_loadVar_row w g t ty cs fr d hg hu hd hi]
/-- What next hands back. -/
def RNx (w : World) (g : Nat) (vp : Value) (k : Nat) : Fl (Tk × Nat × Nat) → Ending → World → Prop
  | .ok a, e, w' => e = .returned (.agg (tkC a.1)) ∧ ScP w' g vp a.2.1 k a.2.2 ∧ But (· = g) w w'
  | .error x, e, w' => e = dies x.1 x.2 ∧ But (· = g) w w'
theorem But.shrink {w w' : World} {g h : Nat} (hb : But (Two g h) w w') (hh : w.heap.size ≤ h) : But (· = g) w w' :=
  ⟨hb.os, hb.tape, hb.output, hb.size, fun b hbl hn => hb.block b hbl (fun e => by rcases e with e | e; exact hn e; omega)⟩
theorem set_tk {w : World} {hr : Nat} {t : Tk} (hz : w.heap[hr]? = some (.cells #[.int .i64 0, .int .i64 0, .int .i64 0, .int .i64 0, .string ⟨#[]⟩, .bool false, .int .i64 0, .int .i64 0] 41 (0, 0))) :
    ((((((((w.setCell ⟨hr, 0, none⟩ (.int .i64 t.kind)).setCell ⟨hr, 1, none⟩ (.int .i64 t.mode)).setCell ⟨hr, 2, none⟩ (.int .i64 t.a)).setCell ⟨hr, 3, none⟩ (.int .i64 t.b)).setCell ⟨hr, 4, none⟩ (.string t.name)).setCell ⟨hr, 5, none⟩ (.bool t.neg)).setCell ⟨hr, 6, none⟩ (.int .i64 (t.st : Int))).setCell ⟨hr, 7, none⟩ (.int .i64 (t.en : Int))).heap[hr]? = some (.cells (tkC t) 41 (0, 0)) := by
  have h0 := blk_put hz 0 (.int .i64 t.kind) (cs' := #[.int .i64 t.kind, .int .i64 0, .int .i64 0, .int .i64 0, .string ⟨#[]⟩, .bool false, .int .i64 0, .int .i64 0]) rfl
  have h1 := blk_put h0 1 (.int .i64 t.mode) (cs' := #[.int .i64 t.kind, .int .i64 t.mode, .int .i64 0, .int .i64 0, .string ⟨#[]⟩, .bool false, .int .i64 0, .int .i64 0]) rfl
  have h2 := blk_put h1 2 (.int .i64 t.a) (cs' := #[.int .i64 t.kind, .int .i64 t.mode, .int .i64 t.a, .int .i64 0, .string ⟨#[]⟩, .bool false, .int .i64 0, .int .i64 0]) rfl
  have h3 := blk_put h2 3 (.int .i64 t.b) (cs' := #[.int .i64 t.kind, .int .i64 t.mode, .int .i64 t.a, .int .i64 t.b, .string ⟨#[]⟩, .bool false, .int .i64 0, .int .i64 0]) rfl
  have h4 := blk_put h3 4 (.string t.name) (cs' := #[.int .i64 t.kind, .int .i64 t.mode, .int .i64 t.a, .int .i64 t.b, .string t.name, .bool false, .int .i64 0, .int .i64 0]) rfl
  have h5 := blk_put h4 5 (.bool t.neg) (cs' := #[.int .i64 t.kind, .int .i64 t.mode, .int .i64 t.a, .int .i64 t.b, .string t.name, .bool t.neg, .int .i64 0, .int .i64 0]) rfl
  have h6 := blk_put h5 6 (.int .i64 (t.st : Int)) (cs' := #[.int .i64 t.kind, .int .i64 t.mode, .int .i64 t.a, .int .i64 t.b, .string t.name, .bool t.neg, .int .i64 (t.st : Int), .int .i64 0]) rfl
  have h7 := blk_put h6 7 (.int .i64 (t.en : Int)) (cs' := #[.int .i64 t.kind, .int .i64 t.mode, .int .i64 t.a, .int .i64 t.b, .string t.name, .bool t.neg, .int .i64 (t.st : Int), .int .i64 (t.en : Int)]) rfl
  exact h7
theorem but_tk {w : World} {hr : Nat} {t : Tk} : But (· = hr) w ((((((((w.setCell ⟨hr, 0, none⟩ (.int .i64 t.kind)).setCell ⟨hr, 1, none⟩ (.int .i64 t.mode)).setCell ⟨hr, 2, none⟩ (.int .i64 t.a)).setCell ⟨hr, 3, none⟩ (.int .i64 t.b)).setCell ⟨hr, 4, none⟩ (.string t.name)).setCell ⟨hr, 5, none⟩ (.bool t.neg)).setCell ⟨hr, 6, none⟩ (.int .i64 (t.st : Int))).setCell ⟨hr, 7, none⟩ (.int .i64 (t.en : Int))) :=
  (((((((((But.refl (· = hr) w).set hr 0 rfl _).set hr 1 rfl _).set hr 2 rfl _).set hr 3 rfl _).set hr 4 rfl _).set hr 5 rfl _).set hr 6 rfl _).set hr 7 rfl _)
/-- The end of next. -/
theorem next_fin {w w1 : World} {g hr k ne' k' : Nat} {vp : Value} {t : Tk} (hb : But (· = g) w w1) (hS : ScP w1 g vp k' k ne') (hg : g < w.heap.size) (hh : w.heap.size ≤ hr) :
    ScP ((((((((w1.setCell ⟨hr, 0, none⟩ (.int .i64 t.kind)).setCell ⟨hr, 1, none⟩ (.int .i64 t.mode)).setCell ⟨hr, 2, none⟩ (.int .i64 t.a)).setCell ⟨hr, 3, none⟩ (.int .i64 t.b)).setCell ⟨hr, 4, none⟩ (.string t.name)).setCell ⟨hr, 5, none⟩ (.bool t.neg)).setCell ⟨hr, 6, none⟩ (.int .i64 (t.st : Int))).setCell ⟨hr, 7, none⟩ (.int .i64 (t.en : Int))) g vp k' k ne' ∧ But (· = g) w ((((((((w1.setCell ⟨hr, 0, none⟩ (.int .i64 t.kind)).setCell ⟨hr, 1, none⟩ (.int .i64 t.mode)).setCell ⟨hr, 2, none⟩ (.int .i64 t.a)).setCell ⟨hr, 3, none⟩ (.int .i64 t.b)).setCell ⟨hr, 4, none⟩ (.string t.name)).setCell ⟨hr, 5, none⟩ (.bool t.neg)).setCell ⟨hr, 6, none⟩ (.int .i64 (t.st : Int))).setCell ⟨hr, 7, none⟩ (.int .i64 (t.en : Int))) := by
  have h8 := but_tk (w := w1) (hr := hr) (t := t)
  have hl : g < w1.heap.size := Nat.lt_of_lt_of_le hg hb.size
  exact ⟨(h8.block g hl (by omega)).trans hS, ((hb.mono (ex' := Two g hr) fun x e => .inl e).trans (h8.mono fun x e => .inr e)).shrink hh⟩
/-- The end of next: the place behind the token is laid, the token is handed back. -/
theorem next_start {w : World} {m : Int} {base g : Nat} {A : Option Addr} {c : Nat} {p : List Int} {k st ne : Nat} (hV : Sv w base g A c p k st ne) (hvr : Vars base w m) {WB WA : World}
    (hWB : (w.setCell ⟨g, 2, none⟩ (.int .i64 (k : Int))).alloc (.cells #[.int .i64 0, .int .i64 0, .int .i64 0, .int .i64 0, .string ⟨#[]⟩, .bool false, .int .i64 0, .int .i64 0] 41) = WB)
    (hWA : WB.alloc (.cells #[.int .i64 0, .int .i64 0, .int .i64 0, .int .i64 0, .string ⟨#[]⟩, .bool false, .int .i64 (k : Int), .int .i64 0] 41) = WA) :
    St WA m base g (w.heap.size + 1) A c p k ne (tk0 k) k WA ∧ But (· = g) w WA ∧ WA.heap[w.heap.size]? = some (.cells #[.int .i64 0, .int .i64 0, .int .i64 0, .int .i64 0, .string ⟨#[]⟩, .bool false, .int .i64 0, .int .i64 0] 41 (0, 0)) ∧ WB.cell? ⟨g, 1, none⟩ = some (.int .i64 (k : Int)) := by
  have hgl := hV.lt
  have h0 : But (· = g) w (w.setCell ⟨g, 2, none⟩ (.int .i64 (k : Int))) := But.set (ex := (· = g)) (But.refl _ _) g 2 rfl _
  have hs0 : (w.setCell ⟨g, 2, none⟩ (.int .i64 (k : Int))).heap.size = w.heap.size := by simp
  have p0 : ScP (w.setCell ⟨g, 2, none⟩ (.int .i64 (k : Int))) g (.slice A p.length c) k k ne := blk_put hV.sc 2 _ rfl
  have hB1 : Below (w.setCell ⟨g, 2, none⟩ (.int .i64 (k : Int))).heap.size (w.setCell ⟨g, 2, none⟩ (.int .i64 (k : Int))) WB := by rw [← hWB]; exact below_alloc (Below.refl _ _) _
  have hz1 : WB.heap[w.heap.size]? = some (.cells #[.int .i64 0, .int .i64 0, .int .i64 0, .int .i64 0, .string ⟨#[]⟩, .bool false, .int .i64 0, .int .i64 0] 41 (0, 0)) := by
    rw [← hWB]
    have := heap_alloc_new (w.setCell ⟨g, 2, none⟩ (.int .i64 (k : Int))) (.cells #[.int .i64 0, .int .i64 0, .int .i64 0, .int .i64 0, .string ⟨#[]⟩, .bool false, .int .i64 0, .int .i64 0] 41)
    rw [hs0] at this
    exact this
  have hs1 : WB.heap.size = w.heap.size + 1 := by rw [← hWB]; simp
  have hB2 : Below WB.heap.size WB WA := by rw [← hWA]; exact below_alloc (Below.refl _ _) _
  have hz2 : WA.heap[w.heap.size]? = some (.cells #[.int .i64 0, .int .i64 0, .int .i64 0, .int .i64 0, .string ⟨#[]⟩, .bool false, .int .i64 0, .int .i64 0] 41 (0, 0)) := (hB2.block _ (by omega)).trans hz1
  have hk2 : WA.heap[w.heap.size + 1]? = some (.cells (tkC (tk0 k)) 41 (0, 0)) := by
    rw [← hWA]
    have := heap_alloc_new WB (.cells #[.int .i64 0, .int .i64 0, .int .i64 0, .int .i64 0, .string ⟨#[]⟩, .bool false, .int .i64 (k : Int), .int .i64 0] 41)
    rw [hs1] at this
    exact this
  have hB : But (· = g) w WA := (h0.trans (But.of_below hB1)).trans (But.of_below hB2)
  have p2 : ScP WA g (.slice A p.length c) k k ne := ((hB2.block g (by omega)).trans (hB1.block g (by omega))).trans p0
  have hsv : Sv WA base g A c p k k ne := hV.move hB (fun x e => by rw [e]; exact hV.hb) p2 hV.le
  have hbb := hV.hb
  have p1 : ScP WB g (.slice A p.length c) k k ne := (hB1.block g (by omega)).trans p0
  exact ⟨St.start hsv hk2 (hvr.move (hB.below (by omega) fun x hx e => by omega)) (by omega) (by omega), hB, hz2, rowc p1 1 _ rfl⟩
set_option maxHeartbeats 8000000 in
set_option maxRecDepth 100000 in
theorem scanNext_any (b : ByteArray) (hal : AliasIs b) (w : World) (m : Int) (base g : Nat) (A : Option Addr) (c : Nat) (p : List Int) (k st ne : Nat) (hV : Sv w base g A c p k st ne) (hvr : Vars base w m) (hkl : k < p.length) (hne : ne ≤ 4000) :
    Calls Tryz.prog 35 #[.pointer (some ⟨g, 0, none⟩)] w (RNx w g (.slice A p.length c) k (nextL (resolveL (rowsB b)) p ne k)) := by
  have c1 := rowc hV.sc 1 _ rfl
  have c2 := rowc hV.sc 2 _ rfl
  have f2 := blk_frozen hV.sc 2
  have hgl := hV.lt
  obtain ⟨WB, hWB⟩ : ∃ WB, (w.setCell ⟨g, 2, none⟩ (.int .i64 (k : Int))).alloc (.cells #[.int .i64 0, .int .i64 0, .int .i64 0, .int .i64 0, .string ⟨#[]⟩, .bool false, .int .i64 0, .int .i64 0] 41) = WB := ⟨_, rfl⟩
  obtain ⟨WA, hWA⟩ : ∃ WA, WB.alloc (.cells #[.int .i64 0, .int .i64 0, .int .i64 0, .int .i64 0, .string ⟨#[]⟩, .bool false, .int .i64 (k : Int), .int .i64 0] 41) = WA := ⟨_, rfl⟩
  obtain ⟨hS0, hBA, hZA, cB⟩ := next_start hV hvr hWB hWA
  have HS0 := Aside0.mk hS0
  have HBA := Aside0.mk hBA
  have HZA := Aside0.mk hZA
  have HAL := Aside0.mk hal
  have HW := Aside0.mk (within_any hS0 hne)
  have HL : Aside0 (nextL (resolveL (rowsB b)) p ne k = match withinL p ne k (tk0 k) with
    | some a => .ok ({ a.1 with en := a.2.1 }, a.2.1, a.2.2)
    | none => thenF (otherL (resolveL (rowsB b)) p ne k (tk0 k)) fun a => .ok ({ a.1 with en := a.2 }, a.2, ne)) := ⟨rfl⟩
  obtain ⟨X, hX⟩ : ∃ X, withinL p ne k (tk0 k) = X := ⟨_, rfl⟩
  rw [hX] at HL HW
  have hsz : ∀ (t : Tk) (ne' k' : Nat) (W : World), St WA m base g (w.heap.size + 1) A c p k ne' t k' W → W.heap[w.heap.size]? = some (.cells #[.int .i64 0, .int .i64 0, .int .i64 0, .int .i64 0, .string ⟨#[]⟩, .bool false, .int .i64 0, .int .i64 0] 41 (0, 0)) := fun t ne' k' W hS => by
    have h2 : WA.heap.size = w.heap.size + 2 := by rw [← hWA, ← hWB]; simp
    exact (hS.bt.block w.heap.size (by omega) (fun e => by rcases e with e | e <;> omega)).trans hZA
  have HSZ := Aside0.mk hsz
  have hfin : ∀ (t : Tk) (ne' k' : Nat) (W : World), St WA m base g (w.heap.size + 1) A c p k ne' t k' W → But (· = g) w W := fun t ne' k' W hS => ((hBA.mono (ex' := Two g (w.heap.size + 1)) fun x e => .inl e).trans hS.bt).shrink (by omega)
  have HFIN := Aside0.mk hfin
  have hsl : w.heap.size < w.heap.size + 1 := by omega
  cases X with
  | some a =>
    obtain ⟨t1, k1, ne1⟩ := a
    simp only at HL
    clear hS0 hBA hZA hal hX hsz hfin hV hvr cB
    subst hWA
    subst hWB
    go_enter Tryz.func35, Tryz.ntmps35
    go_wp2_with fail
    refine HW.out.mono ?_
    intro e w1 hr
    obtain ⟨rfl, hS⟩ := hr
    simp only at hS
    have HS1 := Aside0.mk hS
    have ca := hS.at_
    have f7 := hS.free 7
    have k0 := hS.cell 0 (.int .i64 t1.kind) rfl
    have k1_ := hS.cell 1 (.int .i64 t1.mode) rfl
    have k2 := hS.cell 2 (.int .i64 t1.a) rfl
    have k3 := hS.cell 3 (.int .i64 t1.b) rfl
    have k4 := hS.cell 4 (.string t1.name) rfl
    have k5 := hS.cell 5 (.bool t1.neg) rfl
    have k6 := hS.cell 6 (.int .i64 (t1.st : Int)) rfl
    have k7 := hS.cell 7 (.int .i64 (t1.en : Int)) rfl
    have hz := HSZ.out _ _ _ _ hS
    have HZ := Aside0.mk hz
    have z0 := rowc hz 0 _ rfl
    have z1 := rowc hz 1 _ rfl
    have z2 := rowc hz 2 _ rfl
    have z3 := rowc hz 3 _ rfl
    have z4 := rowc hz 4 _ rfl
    have z5 := rowc hz 5 _ rfl
    have z6 := rowc hz 6 _ rfl
    have z7 := rowc hz 7 _ rfl
    have y0 := blk_frozen hz 0
    have y1 := blk_frozen hz 1
    have y2 := blk_frozen hz 2
    have y3 := blk_frozen hz 3
    have y4 := blk_frozen hz 4
    have y5 := blk_frozen hz 5
    have y6 := blk_frozen hz 6
    have y7 := blk_frozen hz 7
    clear hS hz c1 c2 f2
    have HF : Aside0 (St _ m base g (w.heap.size + 1) A c p k ne1 { t1 with en := k1 } k1 (w1.setCell ⟨w.heap.size + 1, 7, none⟩ (.int .i64 (k1 : Int)))) := ⟨HS1.out.setT 7 _ { t1 with en := k1 } rfl⟩
    go_wp2
    refine bodyPost_ret (results_one rfl _ _ w.heap.size 41 (tkC { t1 with en := k1 }) (0, 0) _ rfl (set_tk (t := { t1 with en := k1 }) (HSZ.out _ _ _ _ HF.out)) Tryz.underlying41 rfl (by kernel_rfl)) rfl ?_
    rw [HL.out]
    have hfin := next_fin (hr := w.heap.size) (t := { t1 with en := k1 }) (HFIN.out _ _ _ _ HF.out) HF.out.sv.sc hgl (Nat.le_refl _)
    exact ⟨rfl, hfin.1, hfin.2⟩
  | none =>
    simp only at HL
    have HO := Aside0.mk (fun W (hS : St WA m base g (w.heap.size + 1) A c p k ne (tk0 k) k W) => other_any b hal hS rfl (Nat.le_refl _) hkl)
    obtain ⟨Y, hY⟩ : ∃ Y, otherL (resolveL (rowsB b)) p ne k (tk0 k) = Y := ⟨_, rfl⟩
    rw [hY] at HL HO
    cases Y with
    | error x =>
      rw [thenF_err] at HL
      clear hS0 hBA hZA hal hX hsz hfin hV hvr cB hY
      subst hWA
      subst hWB
      go_enter Tryz.func35, Tryz.ntmps35
      go_wp2_with fail
      refine HW.out.mono ?_
      intro e w1 hr
      obtain ⟨rfl, hS⟩ := hr
      have HS1 := Aside0.mk hS
      clear hS c1 c2 f2
      go_wp2_with fail
      refine (HO.out _ HS1.out).mono ?_
      intro e w2 hr
      obtain ⟨rfl, hB⟩ := hr
      have HB := Aside0.mk hB
      clear hB
      go_wp2
      rw [HL.out]
      exact ⟨rfl, rfl, ((HBA.out.mono (ex' := Two g (w.heap.size + 1)) fun x e => .inl e).trans HB.out).shrink (by omega)⟩
    | ok a =>
      obtain ⟨t1, k1⟩ := a
      rw [thenF_ok] at HL
      simp only at HL
      clear hS0 hBA hZA hal hX hsz hfin hV hvr cB hY
      subst hWA
      subst hWB
      go_enter Tryz.func35, Tryz.ntmps35
      go_wp2_with fail
      refine HW.out.mono ?_
      intro e w1 hr
      obtain ⟨rfl, hS⟩ := hr
      have HS1 := Aside0.mk hS
      clear hS c1 c2 f2
      go_wp2_with fail
      refine (HO.out _ HS1.out).mono ?_
      intro e w2 hr
      obtain ⟨rfl, hS⟩ := hr
      simp only at hS
      have HS2 := Aside0.mk hS
      have ca := hS.at_
      have f7 := hS.free 7
      have k0 := hS.cell 0 (.int .i64 t1.kind) rfl
      have k1_ := hS.cell 1 (.int .i64 t1.mode) rfl
      have k2 := hS.cell 2 (.int .i64 t1.a) rfl
      have k3 := hS.cell 3 (.int .i64 t1.b) rfl
      have k4 := hS.cell 4 (.string t1.name) rfl
      have k5 := hS.cell 5 (.bool t1.neg) rfl
      have k6 := hS.cell 6 (.int .i64 (t1.st : Int)) rfl
      have k7 := hS.cell 7 (.int .i64 (t1.en : Int)) rfl
      have hz := HSZ.out _ _ _ _ hS
      have HZ := Aside0.mk hz
      have z0 := rowc hz 0 _ rfl
      have z1 := rowc hz 1 _ rfl
      have z2 := rowc hz 2 _ rfl
      have z3 := rowc hz 3 _ rfl
      have z4 := rowc hz 4 _ rfl
      have z5 := rowc hz 5 _ rfl
      have z6 := rowc hz 6 _ rfl
      have z7 := rowc hz 7 _ rfl
      have y0 := blk_frozen hz 0
      have y1 := blk_frozen hz 1
      have y2 := blk_frozen hz 2
      have y3 := blk_frozen hz 3
      have y4 := blk_frozen hz 4
      have y5 := blk_frozen hz 5
      have y6 := blk_frozen hz 6
      have y7 := blk_frozen hz 7
      clear hS hz
      have HF : Aside0 (St _ m base g (w.heap.size + 1) A c p k ne { t1 with en := k1 } k1 (w2.setCell ⟨w.heap.size + 1, 7, none⟩ (.int .i64 (k1 : Int)))) := ⟨HS2.out.setT 7 _ { t1 with en := k1 } rfl⟩
      go_wp2
      refine bodyPost_ret (results_one rfl _ _ w.heap.size 41 (tkC { t1 with en := k1 }) (0, 0) _ rfl (set_tk (t := { t1 with en := k1 }) (HSZ.out _ _ _ _ HF.out)) Tryz.underlying41 rfl (by kernel_rfl)) rfl ?_
      rw [HL.out]
      have hfin := next_fin (hr := w.heap.size) (t := { t1 with en := k1 }) (HFIN.out _ _ _ _ HF.out) HF.out.sv.sc hgl (Nat.le_refl _)
      exact ⟨rfl, hfin.1, hfin.2⟩

end Go.Proofs.YtkipjalfgdfaiaaGreatDoor
namespace Go.Proofs.YtkipjalfgdfaiaaGreatDoor
set_option linter.unusedVariables false
set_option linter.unusedSimpArgs false
open Go.RowKit Go.Proofs.YtkipjalfgdfaiaaGreatDoorW.PrintWords Go.Proofs.YtkipjalfgdfaiaaGreatDoorW.PrintLast Go.Proofs.YtkipjalfgdfaiaaGreatDoorW.PrintMore Go.Proofs.YtkipjalfgdfaiaaGreatDoor.PTk

set_option maxHeartbeats 4000000 in
set_option maxRecDepth 100000 in
theorem catch_fault (fb : Nat) (x y c a : Int) (older : List PanicEntry) (w : World) (hb : w.heap[fb]? = some (.cells #[.int .i64 x, .int .i64 y] 37 (0, 0))) :
    CallsD Tryz.prog 34 #[.pointer (some ⟨fb, 0, none⟩)] (.panicking ({ v := faultV c a, recovered := false } :: older)) w fun e u' w' =>
      e = .returned (.tuple #[]) ∧ u' = .panicking ({ v := faultV c a, recovered := true } :: older) ∧ w'.heap[fb]? = some (.cells #[.int .i64 c, .int .i64 a] 37 (0, 0)) ∧ But (· = fb) w w' := by
  have c0 := rowc hb 0 _ rfl
  have c1 := rowc hb 1 _ rfl
  have f0 := blk_frozen hb 0
  have f1 := blk_frozen hb 1
  refine callsD_of_wpS Tryz.func34 rfl fun c₀ cs hu => ?_
  have hta : ∀ W : World, (Instr.typeAssert (.iface 37 (.agg #[.int .i64 c, .int .i64 a])) 20 37 true).run Tryz.prog W = .ok (.tuple #[.agg #[.int .i64 c, .int .i64 a], .bool true]) W := fun W => by kernel_rfl
  show Code.wpS _ _ _ { tmps := #[.pointer (some ⟨fb, 0, none⟩), undef, undef, undef, undef, undef, undef, undef, undef, undef], defers := [] } _ _
  apply wpS_seq
  apply wpS_region
  simp [hta, wpOpsS, go_sem, recoverD, hu, Tryz.ntmps34, Exit.thenS, faultV, c0, c1, f0, f1]
  refine wpS_of_wp ?_
  have hb2 : (w.alloc (.cells #[.int .i64 c, .int .i64 a] 37)).heap[fb]? = some (.cells #[.int .i64 x, .int .i64 y] 37 (0, 0)) := ((below_alloc (Below.refl w.heap.size w) _).block fb (by exact (Array.getElem?_eq_some_iff.1 hb).1)).trans hb
  have hn2 : (w.alloc (.cells #[.int .i64 c, .int .i64 a] 37)).heap[w.heap.size]? = some (.cells #[.int .i64 c, .int .i64 a] 37 (0, 0)) := heap_alloc_new _ _
  have hB : But (· = fb) w (w.alloc (.cells #[.int .i64 c, .int .i64 a] 37)) := But.of_below (below_alloc (Below.refl _ _) _)
  obtain ⟨wx, hwx⟩ : ∃ wx, w.alloc (.cells #[.int .i64 c, .int .i64 a] 37) = wx := ⟨_, rfl⟩
  obtain ⟨n, hn⟩ : ∃ n, w.heap.size = n := ⟨_, rfl⟩
  rw [hwx, hn] at hn2
  rw [hwx] at hb2 hB
  rw [hwx, hn]
  have HB := Aside0.mk hB
  have HB2 := Aside0.mk hb2
  have HU := Aside0.mk hu
  have e0 := rowc hb2 0 _ rfl
  have e1 := rowc hb2 1 _ rfl
  have g0 := blk_frozen hb2 0
  have g1 := blk_frozen hb2 1
  have n0 := rowc hn2 0 _ rfl
  have n1 := rowc hn2 1 _ rfl
  clear hb2 hn2 hB hwx hn hta c0 c1 f0 f1 hb hu
  go_wp2
  exact ⟨rfl, _, rfl, .tuple #[], by simp [results, Tryz.results34, go_sem], rfl, rfl, blk_put (blk_put HB2.out 0 _ rfl) 1 _ rfl, But.set (ex := (· = fb)) (But.set (ex := (· = fb)) HB.out fb 0 rfl _) fb 1 rfl _⟩
set_option maxHeartbeats 4000000 in
set_option maxRecDepth 100000 in
theorem catch_none (fb : Nat) (w : World) :
    CallsD Tryz.prog 34 #[.pointer (some ⟨fb, 0, none⟩)] .returning w fun e u' w' =>
      e = .returned (.tuple #[]) ∧ u' = .returning ∧ Below w.heap.size w w' := by
  refine callsD_of_wpS Tryz.func34 rfl fun c₀ cs hu => ?_
  have hta : ∀ W : World, (Instr.typeAssert .nilIface 20 37 true).run Tryz.prog W = .ok (.tuple #[.agg #[.int .i64 0, .int .i64 0], .bool false]) W := fun W => by kernel_rfl
  show Code.wpS _ _ _ { tmps := #[.pointer (some ⟨fb, 0, none⟩), undef, undef, undef, undef, undef, undef, undef, undef, undef], defers := [] } _ _
  apply wpS_seq
  apply wpS_region
  simp [hta, wpOpsS, go_sem, recoverD, hu, Tryz.ntmps34, Exit.thenS]
  refine wpS_of_wp ?_
  have hB : Below w.heap.size w (w.alloc (.cells #[.int .i64 0, .int .i64 0] 37)) := below_alloc (Below.refl _ _) _
  obtain ⟨wx, hwx⟩ : ∃ wx, w.alloc (.cells #[.int .i64 0, .int .i64 0] 37) = wx := ⟨_, rfl⟩
  rw [hwx] at hB
  rw [hwx]
  have HB := Aside0.mk hB
  have HU := Aside0.mk hu
  clear hB hwx hta hu
  go_wp2
  refine ⟨rfl, .returning, ?_, .tuple #[], by simp [results, Tryz.results34, go_sem], rfl, rfl, HB.out⟩
  rw [← HU.out]

end Go.Proofs.YtkipjalfgdfaiaaGreatDoor
namespace Go.Proofs.YtkipjalfgdfaiaaGreatDoor
set_option linter.unusedVariables false
set_option linter.unusedSimpArgs false
open Go.RowKit Go.Proofs.YtkipjalfgdfaiaaGreatDoorW.PrintWords Go.Proofs.YtkipjalfgdfaiaaGreatDoorW.PrintLast Go.Proofs.YtkipjalfgdfaiaaGreatDoorW.PrintMore Go.Proofs.YtkipjalfgdfaiaaGreatDoor.PTk

abbrev kTk : Kd S41 := k41
def tkS (t : Tk) : S41 := ⟨t.kind, t.mode, t.a, t.b, t.name, t.neg, (t.st : Int), (t.en : Int)⟩
theorem infoTk : (Tryz.prog.info? 41).map (fun i => (i.zero, i.size, i.bytes)) = some (some (.agg #[.int .i64 0, .int .i64 0, .int .i64 0, .int .i64 0, .string ⟨#[]⟩, .bool false, .int .i64 0, .int .i64 0]), 8, 72) := by kernel_rfl
theorem scanR_end (res : ByteArray → Int × ByteArray × Int) (p : List Int) (f ne k : Nat) (out : List Tk) (h : ¬ k < p.length) : scanR res p f ne k out = (out, 0, 0) := by
  cases f with
  | zero => rfl
  | succ f => rw [scanR, if_neg h]
theorem within_nest (p : List Int) (ne k : Nat) (t : Tk) (a : Tk × Nat × Nat) (h : withinL p ne k t = some a) : a.2.2 ≤ ne + 1 := by
  unfold withinL at h
  repeat' split at h
  all_goals first | (cases h; simp only; omega) | cases h
theorem next_nest (res : ByteArray → Int × ByteArray × Int) (p : List Int) (ne k : Nat) (a : Tk × Nat × Nat) (h : nextL res p ne k = .ok a) : a.2.2 ≤ ne + 1 := by
  unfold nextL at h
  split at h
  · rename_i x hx
    cases h
    exact within_nest p ne k _ x hx
  · cases ho : otherL res p ne k { kind := 0, st := k } with
    | error x => rw [ho] at h; cases h
    | ok x => rw [ho] at h; cases h; exact Nat.le_succ _
theorem own_far {α : Type} {d : Kd α} {e : Nat} {w w1 : World} {ex : Nat → Prop} {base : Nat} {v : Value} {xs : List α} (h : But ex w w1) (hr : d.R e w base (fun _ => True) v xs) (ho : ∀ k, base ≤ k → ¬ ex k) : d.R e w1 base (fun _ => True) v xs :=
  Kd.R_mono (Kd.R_move (Kd.R_bound hr) (fun k hk => h.block k hk.2.2.1 (ho k hk.2.1))) (fun k hk => trivial)
/-- What Scan hands back. -/
def RScan (w : World) (r : List Tk × Int × Nat) (e : Ending) (w' : World) : Prop :=
  ∃ v, e = .returned (.tuple #[v, .agg #[.int .i64 r.2.1, .int .i64 (r.2.2 : Int)]]) ∧ Own kTk 41 w' w.heap.size v (r.1.map tkS) ∧ Below w.heap.size w w'
set_option maxHeartbeats 16000000 in
set_option maxRecDepth 100000 in
theorem scan_short (b : ByteArray) (hal : AliasIs b) (w : World) (m : Int) (A : Option Addr) (c : Nat) (p : List Int) (hvr : Vars w.heap.size w m) (hC : Kd.C kB w A p.length p) (hrg : ∀ x ∈ p, 0 ≤ x ∧ x ≤ 255) (hcap : p.length ≤ c) (hl : p.length ≤ 2000) :
    Calls Tryz.prog 19 #[.slice A p.length c] w (RScan w (scanL (resolveL (rowsB b)) p)) := by
  have hmf : ∀ (fn : Fn) (first cap : Array Value) (w : World), (Instr.makeFunc fn first cap).run Tryz.prog w = .ok (.func fn first cap) w := fun _ _ _ _ => rfl
  have HAL := Aside0.mk hal
  have hL : scanL (resolveL (rowsB b)) p = scanR (resolveL (rowsB b)) p p.length 0 0 [] := by unfold scanL; rw [if_neg (by omega)]
  obtain ⟨R, hR⟩ : ∃ R, scanL (resolveL (rowsB b)) p = R := ⟨_, rfl⟩
  rw [hR] at hL ⊢
  have HL := Aside0.mk hL
  obtain ⟨WA, hWA⟩ : ∃ WA, (w.alloc (.cells #[.int .i64 0, .int .i64 0] 37)).alloc (.cells #[.slice A p.length c, .int .i64 0, .int .i64 0, .int .i64 0] 77) = WA := ⟨_, rfl⟩
  have hBA : Below w.heap.size w WA := by rw [← hWA]; exact below_alloc (below_alloc (Below.refl _ _) _) _
  have hzA : WA.heap.size = w.heap.size + 2 := by rw [← hWA]; simp
  have hfA : WA.heap[w.heap.size]? = some (.cells #[.int .i64 0, .int .i64 0] 37 (0, 0)) := by
    rw [← hWA]
    have h1 := heap_alloc_new w (.cells #[.int .i64 0, .int .i64 0] 37)
    exact ((below_alloc (Below.refl _ (w.alloc (.cells #[.int .i64 0, .int .i64 0] 37))) _).block w.heap.size (by simp)).trans h1
  have hgA : ScP WA (w.heap.size + 1) (.slice A p.length c) 0 0 0 := by
    show WA.heap[w.heap.size + 1]? = _
    rw [← hWA]
    have h1 := heap_alloc_new (w.alloc (.cells #[.int .i64 0, .int .i64 0] 37)) (.cells #[.slice A p.length c, .int .i64 0, .int .i64 0, .int .i64 0] 77)
    have h2 : (w.alloc (.cells #[.int .i64 0, .int .i64 0] 37)).heap.size = w.heap.size + 1 := by simp
    rw [h2] at h1
    exact h1
  have hsv : Sv WA w.heap.size (w.heap.size + 1) A c p 0 0 0 := ⟨hgA, fun W hW => Kd.C_below hC (hBA.trans hW), Nat.zero_le _, hcap, hl, hrg, Nat.le_succ _⟩
  have hvA := hvr.move hBA
  have HSV := Aside0.mk hsv
  have HVA := Aside0.mk hvA
  have HFA := Aside0.mk hfA
  have HBA := Aside0.mk hBA
  have HZA := Aside0.mk hzA
  have hwl : w.heap.size < w.heap.size + 1 := by omega
  have h63 : (p.length : Int) ≤ 2000 := by omega
  have hd0 : decide (2000 < (p.length : Int)) = false := decide_eq_false (by omega)
  have HVR := Aside0.mk hvr
  clear hal hR hL hBA hzA hfA hgA hsv hvA hC hvr
  subst hWA
  go_enter_defers Tryz.func19, Tryz.ntmps19
  go_wp2
  go_loopg [2] p.length (fun gk v w' => ∃ (j st ne f : Nat) (out : List Tk), Aside0 (gk = f ∧ p.length ≤ f + j ∧ j ≤ p.length ∧ ne ≤ j ∧ out.length ≤ j) ∧ Aside0 (scanR (resolveL (rowsB b)) p f ne j out = R) ∧ Aside0 (Sv w' w.heap.size (w.heap.size + 1) A c p j st ne) ∧ Aside0 (w'.heap[w.heap.size]? = some (.cells #[.int .i64 0, .int .i64 0] 37 (0, 0))) ∧ Aside0 (Kd.R kTk 41 w' (w.heap.size + 2) (fun _ => True) v (out.map tkS)) ∧ Aside0 (Below w.heap.size w w') ∧ Aside0 (w.heap.size + 2 ≤ w'.heap.size))
  case atStart => exact ⟨0, 0, 0, p.length, [], ⟨rfl, Nat.le_refl _, Nat.zero_le _, Nat.le_refl _, Nat.le_refl _⟩, ⟨HL.out.symm⟩, HSV, HFA, ⟨Kd.R_nil _ _ _ _ _⟩, HBA, ⟨by rw [HZA.out]; exact Nat.le_refl _⟩⟩
  case round =>
    obtain ⟨j, st, ne, f, out, HA, HJ, HS, HF, HO, HB, HZ⟩ := hrel
    have c1 : wr.cell? ⟨w.heap.size + 1, 1, none⟩ = some (.int .i64 (j : Int)) := rowc HS.out.sc 1 _ rfl
    by_cases hjl : j < p.length
    · obtain ⟨f, rfl⟩ : ∃ f', f = f' + 1 := ⟨f - 1, by have := HA.out; omega⟩
      have hj := HJ.out
      rw [scanR, if_pos hjl] at hj
      have HNX := Aside0.mk (scanNext_any b HAL.out wr m w.heap.size (w.heap.size + 1) A c p j st ne HS.out (HVR.out.move HB.out) hjl (by have := HA.out; omega))
      have hjd : decide (j < p.length) = true := decide_eq_true hjl
      have HJL := Aside0.mk hjl
      cases hn : nextL (resolveL (rowsB b)) p ne j with
      | error x =>
        rw [hn] at hj HNX
        have HR : Aside0 (R = (out, x.1, x.2)) := ⟨hj.symm⟩
        clear hj hn hjl
        go_wp2_with fail
        refine HNX.out.mono ?_
        intro e w2 hr
        obtain ⟨rfl, hB2⟩ := hr
        have HB2 := Aside0.mk hB2
        have HF2 : Aside0 (w2.heap[w.heap.size]? = some (.cells #[.int .i64 0, .int .i64 0] 37 (0, 0))) := ⟨(hB2.block _ (by have := HZ.out; omega) (by omega)).trans HF.out⟩
        have HO2 : Aside0 (Kd.R kTk 41 w2 (w.heap.size + 2) (fun _ => True) u2 (out.map tkS)) := ⟨own_far hB2 HO.out (fun k hk => by omega)⟩
        clear hB2
        go_wp2
        refine leaves_cons (f := 34) (args := #[.pointer (some ⟨w.heap.size, 0, none⟩)]) (by simp) (by simp [go_sem]) ?_
        refine (catch_fault w.heap.size 0 0 x.1 x.2 [] _ HF2.out).mono ?_
        rintro e u' w3 ⟨rfl, rfl, hf3, hB3⟩
        refine ⟨_, results_tc rfl _ _ w.heap.size 37 _ (0, 0) _ rfl hf3 Tryz.underlying37 rfl (by kernel_rfl), ?_⟩
        rw [HR.out]
        refine ⟨u2, rfl, Kd.R_lower (own_far hB3 HO2.out (fun k hk => by omega)) (Nat.le_add_right _ _), ?_⟩
        exact (HB.out.trans (HB2.out.below (by have := HZ.out; omega) (fun k hk e => by omega))).trans (hB3.below (by have := HZ.out; have := HB2.out.size; omega) (fun k hk e => by omega))
      | ok a =>
        have HNE := Aside0.mk (next_nest _ _ _ _ _ hn)
        have HST := Aside0.mk ((next_step (resolveL (rowsB b)) p ne j (Nat.le_of_lt hjl)).1 a hn).1
        rw [hn] at hj HNX
        have HR : Aside0 (scanR (resolveL (rowsB b)) p f a.2.2 a.2.1 (out ++ [a.1]) = R) := ⟨hj⟩
        obtain ⟨t1, k1, ne1⟩ := a
        have HNY : Aside0 (Calls Tryz.prog 35 #[.pointer (some ⟨w.heap.size + 1, 0, none⟩)] wr fun e w' => e = .returned (.agg #[.int .i64 t1.kind, .int .i64 t1.mode, .int .i64 t1.a, .int .i64 t1.b, .string t1.name, .bool t1.neg, .int .i64 (t1.st : Int), .int .i64 (t1.en : Int)]) ∧ ScP w' (w.heap.size + 1) (.slice A p.length c) k1 j ne1 ∧ But (· = w.heap.size + 1) wr w') := ⟨HNX.out.mono fun e w' h => h⟩
        simp only at HR HNE HST
        clear hj hn hjl HNX
        go_wp2_with fail
        refine HNY.out.mono ?_
        intro e w2 hr
        obtain ⟨rfl, hP2, hB2⟩ := hr
        have HB2 := Aside0.mk hB2
        have HF2 : Aside0 (w2.heap[w.heap.size]? = some (.cells #[.int .i64 0, .int .i64 0] 37 (0, 0))) := ⟨(hB2.block _ (by have := HZ.out; omega) (by omega)).trans HF.out⟩
        have HO2 : Aside0 (Kd.R kTk 41 w2 (w.heap.size + 2) (fun _ => True) u2 (out.map tkS)) := ⟨own_far hB2 HO.out (fun k hk => by omega)⟩
        have HS2 : Aside0 (Sv w2 w.heap.size (w.heap.size + 1) A c p k1 j ne1) := ⟨HS.out.go hB2 hP2 HST.out.2.1⟩
        have HZ2 : Aside0 (w.heap.size + 2 ≤ w2.heap.size) := ⟨Nat.le_trans HZ.out hB2.size⟩
        clear hB2 hP2
        have hol : (out.map tkS).length ≤ 2000 := by rw [List.length_map]; have := HA.out; omega
        go_wp2_with (at_builtin; refine Kd.R_append kTk (w0 := w2) (w.heap.size + 2) rfl (.tmp 20) (.tmp 23) 35 41 (.agg #[.int .i64 0, .int .i64 0, .int .i64 0, .int .i64 0, .string ⟨#[]⟩, .bool false, .int .i64 0, .int .i64 0]) 72 rfl Tryz.underlying35 infoTk rfl (by decide) (by omega) u2 (out.map tkS) (tkS t1) [.int .i64 t1.kind, .int .i64 t1.mode, .int .i64 t1.a, .int .i64 t1.b, .string t1.name, .bool t1.neg, .int .i64 (t1.st : Int), .int .i64 (t1.en : Int)] (fun _ => True) (fun _ => False) rfl ?aX (k41_mkM _ _ _ (tkS t1)) (fun _ h => h.elim) (fun _ _ => trivial) HO2.out (Below.refl _ _) HZ2.out ?aL ?_)
        case aL => omega
        try (case aX => rfl)
        intro v3 w3 hO3 hB3 hG3 _
        rw [← List.map_singleton (f := tkS), ← List.map_append] at hO3
        have HO3 := Aside0.mk hO3
        have HB3 := Aside0.mk hB3
        clear hO3 hB3 hG3
        have hx3 : But (fun x => w.heap.size + 2 ≤ x) w2 w3 := ⟨HB3.out.os, HB3.out.tape, HB3.out.output, HB3.out.size, fun b _ hn => HB3.out.block b (by omega)⟩
        have HS3 : Aside0 (Sv w3 w.heap.size (w.heap.size + 1) A c p k1 j ne1) := ⟨HS2.out.move hx3 (fun k hk => by omega) ((HB3.out.block _ (by omega)).trans HS2.out.sc) HS2.out.le⟩
        have HF3 : Aside0 (w3.heap[w.heap.size]? = some (.cells #[.int .i64 0, .int .i64 0] 37 (0, 0))) := ⟨(HB3.out.block _ (by omega)).trans HF2.out⟩
        have HBB : Aside0 (Below w.heap.size w w3) := ⟨(HB.out.trans (HB2.out.below (by have := HZ.out; omega) (fun k hk e => by omega))).trans (HB3.out.mono (by omega))⟩
        have HZ3 : Aside0 (w.heap.size + 2 ≤ w3.heap.size) := ⟨Nat.le_trans HZ2.out HB3.out.size⟩
        clear hx3 hol
        go_wp2
        go_roundg f
        case measure => have := HA.out; omega
        case rel => exact ⟨k1, j, ne1, f, out ++ [t1], ⟨rfl, by have := HA.out; have := HST.out; omega, HST.out.2.1, by have := HA.out; have := HST.out; have := HNE.out; omega, by have := HA.out; have := HST.out; rw [List.length_append, List.length_singleton]; omega⟩, HR, HS3, HF3, HO3, HBB, HZ3⟩
    · have hj := HJ.out
      rw [scanR_end _ _ _ _ _ _ hjl] at hj
      have hjd : decide (j < p.length) = false := decide_eq_false hjl
      have f0 := rowc HF.out 0 _ rfl
      have f1 := rowc HF.out 1 _ rfl
      have g0 := blk_frozen HF.out 0
      have g1 := blk_frozen HF.out 1
      have HR : Aside0 (R = (out, 0, 0)) := ⟨hj.symm⟩
      clear hj hjl
      have hX : But (· = w.heap.size) wr (((wr.setCell ⟨w.heap.size, 0, none⟩ (.int .i64 0)).setCell ⟨w.heap.size, 1, none⟩ (.int .i64 0)).drew) := (But.set (ex := (· = w.heap.size)) (But.set (ex := (· = w.heap.size)) (But.refl _ _) w.heap.size 0 rfl _) w.heap.size 1 rfl _).trans (But.of_below (below_drew (Below.refl _ _)))
      have hF2 : (((wr.setCell ⟨w.heap.size, 0, none⟩ (.int .i64 0)).setCell ⟨w.heap.size, 1, none⟩ (.int .i64 0)).drew).heap[w.heap.size]? = some (.cells #[.int .i64 0, .int .i64 0] 37 (0, 0)) := ((below_drew (Below.refl wr.heap.size _)).block _ (by have := HZ.out; omega)).trans (blk_put (blk_put HF.out 0 _ rfl) 1 _ rfl)
      have HX := Aside0.mk hX
      have HF2 := Aside0.mk hF2
      clear hX hF2
      go_wp2
      go_region
      go_wp2
      refine leaves_cons (f := 34) (args := #[.pointer (some ⟨w.heap.size, 0, none⟩)]) (by simp) (by simp [go_sem]) ?_
      refine (catch_none w.heap.size _).mono ?_
      rintro e u' w3 ⟨rfl, rfl, hB3⟩
      have hf3 := (hB3.block w.heap.size (Array.getElem?_eq_some_iff.1 HF2.out).1).trans HF2.out
      refine ⟨_, results_tc rfl _ _ w.heap.size 37 _ (0, 0) _ rfl hf3 Tryz.underlying37 rfl (by kernel_rfl), ?_⟩
      rw [HR.out]
      refine ⟨u2, rfl, Kd.R_lower (own_far (ex := fun _ => False) (But.of_below hB3) (own_far HX.out HO.out (fun k hk => by omega)) (fun k hk => id)) (Nat.le_add_right _ _), ?_⟩
      exact (HB.out.trans (HX.out.below (by have := HZ.out; omega) (fun k hk e => by omega))).trans (hB3.mono (by have := HZ.out; have := HX.out.size; omega))

set_option maxHeartbeats 4000000 in
set_option maxRecDepth 100000 in
theorem scan_long (res : ByteArray → Int × ByteArray × Int) (w : World) (A : Option Addr) (c : Nat) (p : List Int) (hl : 2000 < p.length) (h63 : p.length ≤ 9223372036854775807) :
    Calls Tryz.prog 19 #[.slice A p.length c] w (RScan w (scanL res p)) := by
  have hL : scanL res p = ([], 4, 2000) := by unfold scanL; rw [if_pos hl]
  rw [hL]
  have hd0 : decide (2000 < (p.length : Int)) = true := decide_eq_true (by omega)
  clear hL hl
  go_enter_defers Tryz.func19, Tryz.ntmps19
  go_wp2
  exact ⟨_, results_tc rfl _ _ w.heap.size 37 _ (0, 0) _ rfl (heap_alloc_new _ _) Tryz.underlying37 rfl (by kernel_rfl), .slice none 0 0, rfl, Kd.R_nil _ _ _ _ _, below_alloc (Below.refl _ _) _⟩
theorem scan_any (b : ByteArray) (hal : AliasIs b) (w : World) (m : Int) (A : Option Addr) (c : Nat) (p : List Int) (hvr : Vars w.heap.size w m) (hC : Kd.C kB w A p.length p) (hrg : ∀ x ∈ p, 0 ≤ x ∧ x ≤ 255) (hcap : p.length ≤ c) :
    Calls Tryz.prog 19 #[.slice A p.length c] w (RScan w (scanL (resolveL (rowsB b)) p)) := by
  by_cases hl : p.length ≤ 2000
  · exact scan_short b hal w m A c p hvr hC hrg hcap hl
  · exact scan_long _ w A c p (by omega) (by have := hC.2.1; omega)

end Go.Proofs.YtkipjalfgdfaiaaGreatDoor
namespace Go.Proofs.YtkipjalfgdfaiaaGreatDoor
set_option linter.unusedVariables false
set_option linter.unusedSimpArgs false
open Go.RowKit Go.Proofs.YtkipjalfgdfaiaaGreatDoorW.PrintWords Go.Proofs.YtkipjalfgdfaiaaGreatDoorW.PrintLast Go.Proofs.YtkipjalfgdfaiaaGreatDoorW.PrintMore Go.Proofs.YtkipjalfgdfaiaaGreatDoor.PTk

theorem scan_awake (res : ByteArray → Int × ByteArray × Int) : scanL res [97, 123, 50, 44, 51, 125, 63] = ([{ kind := 1, a := 97, st := 0, en := 1 }, { kind := 6, mode := 1, a := 2, b := 3, st := 1, en := 7 }], 0, 0) := by kernel_rfl
/-- A slice of bytes out of a block that holds them, marked or not. -/
theorem rdB {W : World} {g : Nat} {l : List Int} {t : TypeId} {fr : Nat × Nat} (h : W.heap[g]? = some (.cells (l.map (Value.int .u8)).toArray t fr)) (hm : l.length ≤ 9223372036854775807) : Kd.C kB W (some ⟨g, 0, none⟩) l.length l := by
  refine ⟨rfl, hm, fun _ => ⟨_, rfl, fun j p hj => ⟨[.int .u8 p], rfl, rfl, fun i u hu => ?_⟩⟩⟩
  have hi : i = 0 := by
    have := (List.getElem?_eq_some_iff.1 hu).1
    simpa using this
  subst hi
  cases hu
  have hz : kB.sz = 1 := rfl
  rw [hz, Nat.mul_one, Nat.add_zero, add_plain]
  refine rowc h j _ ?_
  rw [List.getElem?_toArray, List.getElem?_map, hj]
  rfl
theorem rd_tk (l : List Tk) (j : Nat) (h : j < l.length) : rd_T41 (l.map tkS) (j : Int) = tkS l[j] := by
  unfold rd_T41
  rw [Int.toNat_natCast]
  simp [h]
/-- A list of tokens that a call made: each token's cells. -/
def TkRow (w : World) (A : Option Addr) (l : List Tk) : Prop := ∀ (j : Nat) (hj : j < l.length), ∃ g, A = some ⟨g, 0, none⟩ ∧ ∀ i v, (tkC l[j])[i]? = some v → w.cell? ⟨g, j * 8 + i, none⟩ = some v
theorem TkRow.below {w w' : World} {A : Option Addr} {l : List Tk} (h : TkRow w A l) (hb : Below w.heap.size w w') : TkRow w' A l := fun j hj => by
  obtain ⟨g, hA, hc⟩ := h j hj
  exact ⟨g, hA, fun i v hv => pw_cell_below hb (hc i v hv)⟩
theorem own_tk {w : World} {base : Nat} {v : Value} {l : List Tk} (h : Own kTk 41 w base v (l.map tkS)) : ∃ A c, v = .slice A l.length c ∧ l.length ≤ c ∧ l.length ≤ 9223372036854775807 ∧ TkRow w A l := by
  obtain ⟨A, c, rfl, hle, hC⟩ := Kd.R_reads h
  have h63 := hC.2.1
  rw [List.length_map] at hle h63 hC
  refine ⟨A, c, by rw [List.length_map], hle, h63, fun j hj => ?_⟩
  obtain ⟨g, cap, e, -, -, -⟩ := Kd.R_form h (by rw [List.length_map]; omega)
  rw [List.length_map] at e
  cases e
  obtain ⟨ad, e, h0, h1, h2, h3, h4, h5, h6, h7⟩ := at_T41 hC (j : Int) (by omega) (by omega)
  cases e
  rw [rd_tk l j hj, Int.toNat_natCast] at h0 h1 h2 h3 h4 h5 h6 h7
  refine ⟨g, rfl, fun i v hv => ?_⟩
  simp only [add_plain, Nat.zero_add] at h0 h1 h2 h3 h4 h5 h6 h7
  unfold tkC at hv
  match i, hv with
  | 0, hv => cases hv; exact h0
  | 1, hv => cases hv; exact h1
  | 2, hv => cases hv; exact h2
  | 3, hv => cases hv; exact h3
  | 4, hv => cases hv; exact h4
  | 5, hv => cases hv; exact h5
  | 6, hv => cases hv; exact h6
  | 7, hv => cases hv; exact h7
theorem scan_reads {w : World} {r : List Tk × Int × Nat} {e : Ending} {w' : World} (h : RScan w r e w') : ∃ (A : Option Addr) (c : Nat), e = .returned (.tuple #[.slice A r.1.length c, .agg #[.int .i64 r.2.1, .int .i64 (r.2.2 : Int)]]) ∧ r.1.length ≤ c ∧ Kd.C kTk w' A r.1.length (r.1.map tkS) ∧ Below w.heap.size w w' := by
  obtain ⟨v, rfl, ho, hb⟩ := h
  obtain ⟨A, c, rfl, hle, hC⟩ := Kd.R_reads ho
  rw [List.length_map] at hC hle
  exact ⟨A, c, by rw [List.length_map], hle, hC, hb⟩
set_option maxHeartbeats 4000000 in
set_option maxRecDepth 100000 in
theorem awake13_any (b : ByteArray) (hal : AliasIs b) (w : World) (m : Int) (hvr : Vars w.heap.size w m) : Calls Tryz.prog 20 #[] w fun e w' => e = .returned (.bool true) ∧ Below w.heap.size w w' := by
  have kc := fun (w : World) (C : Array Value) (n c : Nat) => Lib.run_convert_bytes_const (P := Tryz.prog) w 34 5 C n c Tryz.underlying34 Tryz.underlying5
  obtain ⟨w1, hw1⟩ : ∃ w1, w.alloc (.cells #[.int .u8 97, .int .u8 123, .int .u8 50, .int .u8 44, .int .u8 51, .int .u8 125, .int .u8 63] 5 (7, 8)) = w1 := ⟨_, rfl⟩
  have hb1 : Below w.heap.size w w1 := by rw [← hw1]; exact below_alloc (Below.refl _ _) _
  have hz1 : w1.heap.size = w.heap.size + 1 := by rw [← hw1]; simp
  have hC : Kd.C kB w1 (some ⟨w.heap.size, 0, none⟩) [97, 123, 50, 44, 51, 125, 63].length [97, 123, 50, 44, 51, 125, 63] := by rw [← hw1]; exact rdB (fr := (7, 8)) (heap_alloc_new _ _) (by decide)
  have hv1 := (hvr.move hb1)
  have hv2 : Vars w1.heap.size w1 m := hv1.up (by omega)
  have HT := Aside0.mk (scan_any b hal w1 m (some ⟨w.heap.size, 0, none⟩) 7 [97, 123, 50, 44, 51, 125, 63] hv2 hC (by decide) (by decide))
  rw [scan_awake] at HT
  have HT2 : Aside0 (Calls Tryz.prog 19 #[.slice (some ⟨w.heap.size, 0, none⟩) 7 7] w1 fun e w' => ∃ (ad : Addr) (c : Nat), e = .returned (.tuple #[.slice (some ad) 2 c, .agg #[.int .i64 0, .int .i64 0]]) ∧ w'.cell? ⟨ad.block, ad.off + 8 + 1, none⟩ = some (.int .i64 1) ∧ w'.cell? ⟨ad.block, ad.off + 8 + 3, none⟩ = some (.int .i64 3) ∧ Below w1.heap.size w1 w') := ⟨HT.out.mono fun e w' h => by
    obtain ⟨A, c, rfl, hle, hC, hb⟩ := scan_reads h
    obtain ⟨ad, e, -, h1, -, h3, -⟩ := at_T41 hC 1 (by decide) (by decide)
    subst e
    exact ⟨ad, c, rfl, h1, h3, hb⟩⟩
  have HB1 := Aside0.mk hb1
  clear hb1 hC hv1 hv2 hvr hal hz1 HT
  go_enter Tryz.func20, Tryz.ntmps20
  go_wp2_with fail
  refine HT2.out.mono ?_
  rintro e w2 ⟨ad, c, rfl, x1, x3, hb2⟩
  have HB2 : Aside0 (Below w.heap.size w w2) := ⟨below_to HB1.out hb2⟩
  have X1 := Aside0.mk x1
  have X3 := Aside0.mk x3
  clear kc hw1 hb2 x1 x3
  have y1 := pw_cell_below (below_alloc (Below.refl w2.heap.size w2) (.cells #[.int .i64 0, .int .i64 0] 37)) X1.out
  have y3 := pw_cell_below (below_alloc (Below.refl w2.heap.size w2) (.cells #[.int .i64 0, .int .i64 0] 37)) X3.out
  go_wp2
  go_ret
  exact ⟨rfl, below_alloc HB2.out _⟩

end Go.Proofs.YtkipjalfgdfaiaaGreatDoor
namespace Go.Proofs.YtkipjalfgdfaiaaGreatDoor
set_option linter.unusedVariables false
set_option linter.unusedSimpArgs false
open Go.RowKit Go.Proofs.YtkipjalfgdfaiaaGreatDoorW.PrintWords Go.Proofs.YtkipjalfgdfaiaaGreatDoorW.PrintLast Go.Proofs.YtkipjalfgdfaiaaGreatDoorW.PrintMore Go.Proofs.YtkipjalfgdfaiaaGreatDoor.PTk

set_option maxHeartbeats 400000 in
set_option maxRecDepth 100000 in
theorem cloneB_any (w : World) (v : Value) (l : List Int) (h : RdS kB w v l) (hl : l.length * 1 ≤ 140737488355328) :
    Calls Tryz.prog 26 #[v] w fun e w' => ∃ v', e = .returned v' ∧ Own kB 5 w' w.heap.size v' l ∧ Below w.heap.size w w' := by
  obtain ⟨A, c, rfl, hc, hr⟩ := h
  cases A with
  | none =>
    have heq : ∀ w, (binOp .eql 34 (.slice none l.length c) (.slice none 0 0)).run Tryz.prog w = .ok (.bool true) w := fun w => Lib.run_eql_slice_nil (P := Tryz.prog) w 34 5 none l.length c 0 0 Tryz.underlying34
    have hl0 : l = [] := by
      rcases Nat.eq_zero_or_pos l.length with h0 | h0
      · exact List.length_eq_zero_iff.1 h0
      · obtain ⟨ad, e, _⟩ := hr.2.2 h0
        cases e
    have HL := Aside0.mk hl0
    clear hr hl hc hl0
    go_enter Tryz.func26, Tryz.ntmps26
    go_wp2
    go_ret
    exact ⟨_, rfl, by rw [HL.out]; exact Kd.R_nil _ _ _ _ _, Below.refl _ _⟩
  | some ad =>
    have heq : ∀ w, (binOp .eql 34 (.slice (some ad) l.length c) (.slice none 0 0)).run Tryz.prog w = .ok (.bool false) w := fun w => Lib.run_eql_slice_nil (P := Tryz.prog) w 34 5 (some ad) l.length c 0 0 Tryz.underlying34
    have HR := Aside0.mk hr
    have HL := Aside0.mk hl
    clear hr hl hc
    go_enter Tryz.func26, Tryz.ntmps26
    go_wp2_with (at_builtin; refine Kd.R_append_rows kB (w0 := w) w.heap.size rfl (.tmp 5) (.tmp 6) 34 5 (.int .u8 0) 1 rfl Tryz.underlying34 info5 rfl (by decide) (by omega) _ [] l (some ad) l.length c (fun _ => True) (fun _ => False) rfl rfl ?aO (Kd.C_below HR.out (below_alloc (Below.refl _ _) _)) (fun _ _ h => h) (fun _ h => h.elim) (fun _ _ => trivial) ?aB ?aS ?aL ?_)
    case aO => exact R_lit0 kB _ _ _ (Nat.le_refl _)
    case aB => exact below_alloc (Below.refl _ _) _
    case aS => simp
    case aL => have := HL.out; simpa using this
    intro v1 w1 ho hb _ _
    clear heq
    go_wp2
    go_ret
    exact ⟨_, rfl, by simpa using ho, hb⟩

end Go.Proofs.YtkipjalfgdfaiaaGreatDoor
namespace Go.Proofs.YtkipjalfgdfaiaaGreatDoor
set_option linter.unusedVariables false
set_option linter.unusedSimpArgs false
open Go.RowKit Go.Proofs.YtkipjalfgdfaiaaGreatDoorW.PrintWords

/-- The marks outside of classes, and within. -/
def marksL (cls : Bool) : List Int := if cls then [91, 93, 94, 45, 38, 126, 92] else [46, 91, 40, 124, 41, 42, 43, 63, 123, 94, 36, 92]
def hexG (d : Int) : Int := if d < 10 then 48 + d else 55 + d
def hexT (r : Int) : List Int := if r < 16 then [hexG r] else [hexG (r / 16), hexG (r % 16)]
/-- A code point as a pattern says it. -/
def printL (r : Int) (cls : Bool) : List Int :=
  if runeB r = false then []
  else if r < 32 ∨ r = 127 then [92, 120, 123] ++ hexT r ++ [125]
  else if (marksL cls).contains r then 92 :: encL r
  else encL r
theorem has_cons {p l : List Int} {k : Nat} {c : Int} (h : p.drop k = c :: l) (a : Int) (T : List Int) : hasL p k (a :: T) = ((a == c) && T.isPrefixOf l) := by
  unfold hasL
  rw [h]
  rfl
theorem peek_cons {p l : List Int} {k : Nat} {c : Int} (h : p.drop k = c :: l) : peekL p k = .ok c ∧ p.drop (k + 1) = l ∧ k < p.length := by
  have hk : k < p.length := by
    have := congrArg List.length h
    rw [List.length_drop] at this
    simp only [List.length_cons] at this
    omega
  have h2 : p[k]? = some c := by
    have : (p.drop k)[0]? = some c := by rw [h]; rfl
    rw [List.getElem?_drop] at this
    simpa using this
  refine ⟨by unfold peekL; rw [h2], ?_, hk⟩
  have : (p.drop k).drop 1 = l := by rw [h]; rfl
  rw [List.drop_drop] at this
  exact this
theorem char_of {p : List Int} {k : Nat} {r : Int} {n : Nat} (h : readL (p.drop k) = (r, n, true)) : charL p k = .ok (r, k + n) := by
  unfold charL
  rw [h]
theorem within_none {p l : List Int} {k ne : Nat} {c : Int} (h : p.drop k = c :: l) (t : Tk) (h1 : c ≠ 91) (h2 : ne = 0 ∨ (c ≠ 93 ∧ c ≠ 38 ∧ c ≠ 45 ∧ c ≠ 126)) : withinL p ne k t = none := by
  have e : ∀ (a : Int) (T : List Int), a ≠ c → hasL p k (a :: T) = false := fun a T hne => by
    rw [has_cons h]
    have : (a == c) = false := by rw [beq_eq_false_iff_ne]; exact hne
    rw [this]
    rfl
  unfold withinL
  rw [if_neg (by rw [e 91 _ (Ne.symm h1)]; decide)]
  rcases h2 with h2 | ⟨a, b, d, f⟩
  · rw [if_pos h2]
  · by_cases h0 : ne = 0
    · rw [if_pos h0]
    · rw [if_neg h0, if_neg (by rw [e 93 _ (Ne.symm a)]; decide), if_neg (by rw [e 38 _ (Ne.symm b)]; decide), if_neg (by rw [e 45 _ (Ne.symm d)]; decide), if_neg (by rw [e 126 _ (Ne.symm f)]; decide), if_neg (by rw [e 45 _ (Ne.symm d)]; decide)]
theorem mark_plain {cls : Bool} {r : Int} (h : (marksL cls).contains r = true) : letB r = false ∧ digB r = false ∧ r < 128 ∧ 0 ≤ r := by
  rw [List.contains_iff_mem] at h
  unfold marksL at h
  split at h
  · simp only [List.mem_cons, List.not_mem_nil, or_false] at h
    rcases h with h | h | h | h | h | h | h <;> subst h <;> decide
  · simp only [List.mem_cons, List.not_mem_nil, or_false] at h
    rcases h with h | h | h | h | h | h | h | h | h | h | h | h <;> subst h <;> decide
theorem mark_none {cls : Bool} {r : Int} (h : (marksL cls).contains r = false) : ∀ c ∈ marksL cls, r ≠ c := by
  intro c hc he
  rw [← he] at hc
  rw [← List.contains_iff_mem] at hc
  rw [h] at hc
  exact absurd hc (by decide)
theorem hexG_rng {d : Int} (h0 : 0 ≤ d) (h1 : d < 16) : hexB (hexG d) = true ∧ hexV (hexG d) = d := by
  obtain ⟨n, rfl⟩ : ∃ n : Nat, d = (n : Int) := ⟨d.toNat, by omega⟩
  have hn : n < 16 := by omega
  clear h0 h1
  revert n
  decide
theorem hexT_ok {r : Int} (h0 : 0 ≤ r) (h1 : r < 128) : (∀ c ∈ hexT r, hexB c = true) ∧ hexN (hexT r) = r ∧ hexT r ≠ [] ∧ (hexT r).length ≤ 2 := by
  unfold hexT
  by_cases h : r < 16
  · rw [if_pos h]
    have := hexG_rng h0 h
    refine ⟨fun c hc => ?_, ?_, by simp, by simp⟩
    · simp only [List.mem_cons, List.not_mem_nil, or_false] at hc
      rw [hc]
      exact this.1
    · simp only [hexN, List.foldl_cons, List.foldl_nil]
      rw [this.2]
      omega
  · rw [if_neg h]
    have a := hexG_rng (d := r / 16) (by omega) (by omega)
    have b := hexG_rng (d := r % 16) (by omega) (by omega)
    refine ⟨fun c hc => ?_, ?_, by simp, by simp⟩
    · simp only [List.mem_cons, List.not_mem_nil, or_false] at hc
      rcases hc with hc | hc
      · rw [hc]; exact a.1
      · rw [hc]; exact b.1
    · simp only [hexN, List.foldl_cons, List.foldl_nil]
      rw [a.2, b.2]
      omega
theorem run_all (of_ : Int → Bool) (c : Int) (post : List Int) (hc : of_ c = false) : ∀ (l : List Int) (m : Nat), (∀ x ∈ l, of_ x = true) → l.length < m → runN of_ m (l ++ c :: post) = l.length
  | [], 0, _, h => by simp at h
  | [], m + 1, _, _ => by
    simp only [List.nil_append, runN, List.length_nil]
    rw [if_neg (by rw [hc]; decide)]
  | x :: l, 0, _, h => by omega
  | x :: l, m + 1, hl, h => by
    simp only [List.cons_append, runN, List.length_cons]
    rw [if_pos (hl x List.mem_cons_self), run_all of_ c post hc l m (fun y hy => hl y (List.mem_cons_of_mem _ hy)) (by simp only [List.length_cons] at h; omega)]
/-- What is said for a code point is read as one token, of it. -/
theorem other_print (res : ByteArray → Int × ByteArray × Int) {p post : List Int} {r : Int} {cls : Bool} {k ne : Nat} (t : Tk) (hr : runeB r = true) (h : p.drop k = printL r cls ++ post) (hc : ne = 0 ∧ cls = false ∨ ne ≠ 0 ∧ cls = true) :
    withinL p ne k t = none ∧ otherL res p ne k t = .ok ({ t with kind := 1, a := r }, k + (printL r cls).length) := by
  have hrr := (runeB_iff r).1 hr
  unfold printL at h ⊢
  rw [if_neg (by rw [hr]; decide)] at h ⊢
  by_cases h1 : r < 32 ∨ r = 127
  · rw [if_pos h1] at h ⊢
    have hx := hexT_ok (r := r) hrr.1 (by omega)
    obtain ⟨d, hd⟩ : ∃ d, hexT r = d := ⟨_, rfl⟩
    rw [hd] at hx h ⊢
    simp only [List.cons_append, List.nil_append, List.append_assoc] at h
    have a0 := peek_cons h
    have a1 := peek_cons a0.2.1
    have a2 := peek_cons a1.2.1
    refine ⟨within_none h t (by decide) (.inr (by decide)), ?_⟩
    unfold otherL
    rw [char_of (r := 92) (n := 1) (by rw [h]; rfl), thenF_ok]
    simp only
    unfold othL
    rw [if_pos rfl]
    unfold escapeL
    rw [a1.1, thenF_ok, char_of (r := 120) (n := 1) (by rw [a0.2.1]; rfl), thenF_ok]
    simp only
    unfold escL
    rw [if_neg (by decide), if_neg (by decide), if_neg (by decide), if_pos rfl]
    unfold pointL
    rw [need_of (by exact a2.1), thenF_ok]
    have hd3 : p.drop (k + 1 + 1 + 1) = d ++ 125 :: post := a2.2.1
    have hrun : runN hexB 6 (p.drop (k + 1 + 1 + 1)) = d.length := by
      rw [hd3]
      exact run_all hexB 125 post (by decide) d 6 hx.1 (by omega)
    rw [hrun, hd3]
    have ht : (d ++ 125 :: post).take d.length = d := by simp
    rw [ht]
    have hd4 : p.drop (k + 1 + 1 + 1 + d.length) = 125 :: post := by
      rw [← List.drop_drop, hd3]
      simp
    have a4 := peek_cons hd4
    unfold pointE
    rw [a4.1, thenF_ok, if_neg (by rw [hx.2.1, hr]; intro hh; rcases hh with hh | hh; exact hx.2.2.1 hh; exact absurd hh (by decide)), need_of a4.1, thenF_ok, hx.2.1]
    congr 2
    simp only [List.length_append, List.length_cons, List.length_nil]
    omega
  · rw [if_neg h1] at h ⊢
    cases hm : (marksL cls).contains r with
    | true =>
      rw [hm] at h
      simp only [if_true] at h ⊢
      have hp := mark_plain hm
      rw [encL_ascii hp.2.2.1] at h ⊢
      simp only [List.cons_append, List.nil_append] at h
      have a0 := peek_cons h
      have a1 := peek_cons a0.2.1
      refine ⟨within_none h t (by decide) (.inr (by decide)), ?_⟩
      unfold otherL
      rw [char_of (r := 92) (n := 1) (by rw [h]; rfl), thenF_ok]
      simp only
      unfold othL
      rw [if_pos rfl]
      unfold escapeL
      have hrd : readL (p.drop (k + 1)) = (r, 1, true) := by
        rw [a0.2.1]
        simp only [readL]
        rw [if_pos hp.2.2.1]
      rw [a1.1, thenF_ok, char_of hrd, thenF_ok]
      simp only
      unfold escL
      rw [if_pos (.inr ⟨hp.1, hp.2.1⟩)]
      rfl
    | false =>
      rw [hm] at h
      simp only [Bool.false_eq_true, if_false] at h ⊢
      have hn := mark_none hm
      have hrd := readL_enc r hr post
      rw [← h] at hrd
      obtain ⟨c, l, hcl⟩ : ∃ c l, encL r = c :: l := by
        cases he : encL r with
        | nil => have := encL_pos r; rw [he] at this; simp at this
        | cons c l => exact ⟨c, l, rfl⟩
      have hcm : ∀ x ∈ marksL cls, c ≠ x := fun x hx => by
        by_cases ha : r < 128
        · rw [encL_ascii ha] at hcl
          have : r = c := (List.cons.inj hcl).1
          rw [← this]
          exact hn x hx
        · have hh := encL_high hr (by omega) c (by rw [hcl]; exact List.mem_cons_self)
          have := mark_plain (cls := cls) (r := x) (by rw [List.contains_iff_mem]; exact hx)
          omega
      have hne : r ≠ 92 := hn 92 (by unfold marksL; split <;> decide)
      refine ⟨within_none (c := c) (l := l ++ post) (by rw [h, hcl]; rfl) t (hcm 91 (by unfold marksL; split <;> decide)) ?_, ?_⟩
      · rcases hc with ⟨hc, _⟩ | ⟨_, hc⟩
        · exact .inl hc
        · subst hc
          exact .inr ⟨hcm 93 (by decide), hcm 38 (by decide), hcm 45 (by decide), hcm 126 (by decide)⟩
      · unfold otherL
        rw [char_of hrd, thenF_ok]
        simp only
        unfold othL
        rw [if_neg hne]
        rcases hc with ⟨hc, hc2⟩ | ⟨hc, _⟩
        · subst hc2
          rw [if_neg (by omega), if_neg (hn 46 (by decide)), if_neg (hn 124 (by decide)), if_neg (hn 40 (by decide)), if_neg (hn 41 (by decide)), if_neg (hn 94 (by decide)), if_neg (hn 36 (by decide)), if_neg]
          rintro (e | e | e | e)
          · exact hn 42 (by decide) e
          · exact hn 43 (by decide) e
          · exact hn 63 (by decide) e
          · exact hn 123 (by decide) e
        · rw [if_pos hc]
theorem next_print (res : ByteArray → Int × ByteArray × Int) {p post : List Int} {r : Int} {cls : Bool} {k ne : Nat} (hr : runeB r = true) (h : p.drop k = printL r cls ++ post) (hc : ne = 0 ∧ cls = false ∨ ne ≠ 0 ∧ cls = true) :
    nextL res p ne k = .ok ({ kind := 1, a := r, st := k, en := k + (printL r cls).length }, k + (printL r cls).length, ne) := by
  have h2 := other_print res { kind := 0, st := k } hr h hc
  unfold nextL
  rw [h2.1]
  simp only
  rw [h2.2, thenF_ok]
theorem printL_none {r : Int} {cls : Bool} (h : runeB r = false) : printL r cls = [] := if_pos h
theorem printL_pos {r : Int} {cls : Bool} (h : runeB r = true) : 1 ≤ (printL r cls).length ∧ (printL r cls).length ≤ 6 := by
  have hrr := (runeB_iff r).1 h
  have he := encL_pos r
  unfold printL
  rw [if_neg (by rw [h]; decide)]
  split
  · have hx := hexT_ok (r := r) hrr.1 (by omega)
    simp only [List.length_append, List.length_cons, List.length_nil]
    omega
  · split
    · simp only [List.length_cons]; omega
    · omega
theorem printL_rng {r : Int} {cls : Bool} : ∀ x ∈ printL r cls, 0 ≤ x ∧ x ≤ 255 := by
  cases hr : runeB r with
  | false => rw [printL_none hr]; simp
  | true =>
    have hrr := (runeB_iff r).1 hr
    have he := encL_rng hr
    unfold printL
    rw [if_neg (by rw [hr]; decide)]
    intro x hx
    split at hx
    · have hd := hexT_ok (r := r) hrr.1 (by omega)
      simp only [List.mem_append, List.mem_cons, List.not_mem_nil, or_false] at hx
      rcases hx with ((hx | hx | hx) | hx) | hx
      · omega
      · omega
      · omega
      · have := hd.1 x hx
        unfold hexB digB at this
        simp only [Bool.or_eq_true, Bool.and_eq_true, decide_eq_true_eq] at this
        omega
      · omega
    · split at hx
      · rw [List.mem_cons] at hx
        rcases hx with hx | hx
        · omega
        · exact he x hx
      · exact he x hx
/-- Texts of code points, one behind the other, are read as tokens of these. -/
theorem scan_prints (res : ByteArray → Int × ByteArray × Int) (p : List Int) : ∀ (rs : List Int) (f k : Nat) (out : List Tk), p.drop k = rs.flatMap (fun r => printL r false) → p.length ≤ f + k → k ≤ p.length →
    ∃ new, scanR res p f 0 k out = (out ++ new, 0, 0) ∧ new.length = (rs.filter fun r => runeB r).length ∧ ∀ t ∈ new, t.kind = 1
  | [], f, k, out, h, hf, hk => by
    simp only [List.flatMap_nil] at h
    have hl : p.length ≤ k := List.drop_eq_nil_iff.1 h
    refine ⟨[], ?_, rfl, by simp⟩
    cases f with
    | zero => simp [scanR]
    | succ f => rw [scanR, if_neg (by omega)]; simp
  | r :: rs, f, k, out, h, hf, hk => by
    rw [List.flatMap_cons] at h
    cases hr : runeB r with
    | false =>
      rw [printL_none hr, List.nil_append] at h
      obtain ⟨new, h1, h2, h3⟩ := scan_prints res p rs f k out h hf hk
      refine ⟨new, h1, ?_, h3⟩
      rw [List.filter_cons_of_neg (by rw [hr]; decide)]
      exact h2
    | true =>
      have hp := printL_pos (cls := false) hr
      have hl : k + (printL r false).length ≤ p.length := by
        have := congrArg List.length h
        rw [List.length_drop, List.length_append] at this
        omega
      obtain ⟨g, rfl⟩ : ∃ g, f = g + 1 := ⟨f - 1, by omega⟩
      have hd : p.drop (k + (printL r false).length) = rs.flatMap (fun r => printL r false) := by
        rw [← List.drop_drop, h]
        simp
      obtain ⟨new, h1, h2, h3⟩ := scan_prints res p rs g (k + (printL r false).length) (out ++ [{ kind := 1, a := r, st := k, en := k + (printL r false).length }]) hd (by omega) hl
      refine ⟨{ kind := 1, a := r, st := k, en := k + (printL r false).length } :: new, ?_, ?_, ?_⟩
      · rw [scanR, if_pos (by omega), next_print res hr h (.inl ⟨rfl, rfl⟩)]
        simp only
        rw [h1]
        simp
      · rw [List.filter_cons_of_pos (by rw [hr])]
        simp [h2]
      · intro t ht
        rw [List.mem_cons] at ht
        rcases ht with ht | ht
        · rw [ht]
        · exact h3 t ht
end Go.Proofs.YtkipjalfgdfaiaaGreatDoor
namespace Go.Proofs.YtkipjalfgdfaiaaGreatDoor
set_option linter.unusedVariables false
set_option linter.unusedSimpArgs false
open Go.RowKit Go.Proofs.YtkipjalfgdfaiaaGreatDoorW.PrintWords Go.Proofs.YtkipjalfgdfaiaaGreatDoorW.PrintLast Go.Proofs.YtkipjalfgdfaiaaGreatDoorW.PrintMore Go.Proofs.YtkipjalfgdfaiaaGreatDoor.PTk

theorem and15u (q : Nat) (h : q < 128) : bits .and .u64 (q : Int) 15 = ((q % 16 : Nat) : Int) := by
  have h : ∀ q : Fin 128, bits .and .u64 (q.val : Int) 15 = ((q.val % 16 : Nat) : Int) := by decide +kernel
  exact h ⟨q, by assumption⟩
set_option maxRecDepth 100000 in
theorem tz16 (w : World) (hc : w.cell? ⟨6, 15, none⟩ = some (.int .u8 4)) : Calls Tryz.prog 136 #[.int .u64 16] w fun e w' => e = .returned (.int .i64 4) ∧ w' = w := by
  have key : IntKind.u64.wrap (bits BinOp.and IntKind.u64 16 (IntKind.u64.wrap (-16)) * 285870213051353865) / 288230376151711744 = 15 := by decide +kernel
  go_enter Tryz.func136, Tryz.ntmps136
  go_wp2
  go_ret
  exact ⟨rfl, rfl⟩
theorem pow16 (w : World) : Calls Tryz.prog 135 #[.int .i64 16] w fun e w' => e = .returned (.bool true) ∧ w' = w := by
  have key : bits .and .i64 16 15 = 0 := by decide +kernel
  go_enter Tryz.func135, Tryz.ntmps135
  go_wp2
  go_ret
  exact ⟨rfl, rfl⟩
/-- A digit below 16, in small letters. -/
def hexS (d : Nat) : UInt8 := if d < 10 then (48 + d).toUInt8 else (87 + d).toUInt8
theorem hexS_at (d : Nat) (hd : d < 16) : ∀ h, (⟨#[48, 49, 50, 51, 52, 53, 54, 55, 56, 57, 97, 98, 99, 100, 101, 102, 103, 104, 105, 106, 107, 108, 109, 110, 111, 112, 113, 114, 115, 116, 117, 118, 119, 120, 121, 122]⟩ : ByteArray)[d]'h = hexS d := by
  have h : ∀ d : Fin 16, ∀ h, (⟨#[48, 49, 50, 51, 52, 53, 54, 55, 56, 57, 97, 98, 99, 100, 101, 102, 103, 104, 105, 106, 107, 108, 109, 110, 111, 112, 113, 114, 115, 116, 117, 118, 119, 120, 121, 122]⟩ : ByteArray)[d.val]'h = hexS d.val := by decide +kernel
  exact h ⟨d, hd⟩
/-- Small hexadecimal digits of a number below 256. -/
def hexLo (q : Nat) : List UInt8 := if q < 16 then [hexS q] else [hexS (q / 16), hexS (q % 16)]
set_option maxRecDepth 100000 in
/-- A cut of an array of 65 bytes, from place j on. -/
theorem slice65 (W : World) (g j : Nat) (hj : j < 65) : (Instr.sliceAt 161 (.pointer (some ⟨g, 0, none⟩)) (some (.int .i64 (j : Int))) none none).run Tryz.prog W = .ok (.slice (some ⟨g, j, none⟩) (65 - j) (65 - j)) W := by
  have ha : Tryz.prog.arrayLen 161 = 65 := by kernel_rfl
  have he : Tryz.prog.elem 161 = 5 := by kernel_rfl
  have h := run_sliceAt_array_l (P := Tryz.prog) W 161 ⟨g, 0, none⟩ (by rw [ha, he]; exact Tryz.underlying161) .i64 (j : Int) (by omega) (by rw [ha]; omega)
  rw [h, he, Tryz.sizeOf5, ha]
  simp only [Result.andThen, slicedAt]
  have hadd : (⟨g, 0, none⟩ : Addr).add j = ⟨g, j, none⟩ := by unfold Addr.add; split <;> simp_all
  rw [if_neg (by omega), Int.toNat_natCast, Nat.mul_one, hadd]
/-- What the array holds from place j on. -/
def Tail65 (W : World) (g j : Nat) (acc : List UInt8) : Prop := (∀ k, k < 65 → (∃ u, W.cell? ⟨g, k, none⟩ = some u) ∧ W.frozen? ⟨g, k, none⟩ = false) ∧ ∀ k (hk : k < acc.length), W.cell? ⟨g, j + k, none⟩ = some (.int .u8 (acc[k].toNat : Int))
theorem Tail65.put {W : World} {g j : Nat} {acc : List UInt8} (h : Tail65 W g (j + 1) acc) (hj : j < 65) (b : UInt8) : Tail65 (W.setCell ⟨g, j, none⟩ (.int .u8 (b.toNat : Int))) g j (b :: acc) := by
  refine ⟨fun k hk => ?_, fun k hk => ?_⟩
  · obtain ⟨⟨u, hu⟩, hz⟩ := h.1 k hk
    exact ⟨cell?_setCell_some hu, by rw [World.frozen?_setCell]; exact hz⟩
  · obtain ⟨⟨u, hu⟩, hz⟩ := h.1 j hj
    match k, hk with
    | 0, _ => exact World.cell?_setCell_same _ _ _ hu
    | k + 1, hk =>
      rw [World.cell?_setCell_other _ _ _ _ (by intro e; have := congrArg Addr.off e; simp at this), show j + (k + 1) = j + 1 + k by omega]
      exact h.2 k (by simp only [List.length_cons] at hk; omega)
theorem Tail65.new (w : World) : Tail65 (w.alloc (.cells Tryz.zeroCells161 161)) w.heap.size 65 [] := by
  refine ⟨fun k hk => ⟨?_, Lib.frozen_of_heap (heap_alloc_new w _) k⟩, fun k hk => absurd hk (by simp)⟩
  rw [Lib.cell_of_heap (heap_alloc_new w _)]
  have hz : Tryz.zeroCells161.size = 65 := by kernel_rfl
  exact ⟨_, Array.getElem?_eq_getElem (by rw [hz]; exact hk)⟩
theorem Tail65.str {W : World} {g j : Nat} {acc : List UInt8} (h : Tail65 W g j acc) : (convert 34 9 (.slice (some ⟨g, j, none⟩) acc.length acc.length)).run Tryz.prog W = .ok (.string (bsL acc)) W :=
  run_convert_bytes_back (P := Tryz.prog) W 34 9 5 ⟨g, j, none⟩ acc.length acc Tryz.underlying34 Tryz.underlying5 Tryz.underlying9 (fun k hk => by
    have : (⟨g, j, none⟩ : Addr).add k = ⟨g, j + k, none⟩ := by unfold Addr.add; split <;> simp_all
    rw [this]
    exact h.2 k hk)
set_option maxHeartbeats 4000000 in
set_option maxRecDepth 100000 in
theorem bits16 (q : Nat) (hq : q < 128) (w : World) (hc : w.cell? ⟨6, 15, none⟩ = some (.int .u8 4)) :
    Calls Tryz.prog 98 #[.slice none 0 0, .int .u64 (q : Int), .int .i64 16, .bool false, .bool false] w fun e w' => e = .returned (.tuple #[.slice none 0 0, .string (bsL (hexLo q))]) ∧ Below w.heap.size w w' := by
  have HT := Aside0.mk tz16
  obtain ⟨W, hW⟩ : ∃ W, w.alloc (.cells Tryz.zeroCells161 161) = W := ⟨_, rfl⟩
  have hwc : W.cell? ⟨6, 15, none⟩ = some (.int .u8 4) := by rw [← hW]; exact pw_cell_below (below_alloc (Below.refl _ _) _) hc
  have hb1 : Below w.heap.size w W := by rw [← hW]; exact below_alloc (Below.refl _ _) _
  have ht : Tail65 W w.heap.size 65 [] := by rw [← hW]; exact Tail65.new w
  have HB := Aside0.mk hb1
  have HWC := Aside0.mk hwc
  clear hc hb1 hwc
  go_enter Tryz.func98, Tryz.ntmps98
  go_wp2_with fail
  refine (pow16 W).mono ?_
  rintro e w1 ⟨rfl, rfl⟩
  go_wp2_with fail
  refine (HT.out _ HWC.out).mono ?_
  rintro e w1 ⟨rfl, rfl⟩
  clear hW
  go_wp2_with fail
  by_cases h16 : q < 16
  · have hlt : ¬ (16 : Int) ≤ (q : Int) := by omega
    have hx := hexS_at q h16
    have hl : hexLo q = [hexS q] := if_pos h16
    obtain ⟨⟨u, hu⟩, hf⟩ := ht.1 64 (by decide)
    have h2 := ht.put (j := 64) (by decide) (hexS q)
    have hs := slice65 (w1.setCell ⟨w.heap.size, 64, none⟩ (.int .u8 ((hexS q).toNat : Int))) w.heap.size 64 (by decide)
    have hcv : (convert 34 9 (.slice (some ⟨w.heap.size, 64, none⟩) 1 1)).run Tryz.prog _ = _ := h2.str
    have HB2 : Aside0 (Below w.heap.size w (w1.setCell ⟨w.heap.size, 64, none⟩ (.int .u8 ((hexS q).toNat : Int)))) := ⟨below_set HB.out (Nat.le_refl _)⟩
    clear ht h2
    refine wp_loop_rounds 1 ?_
    rw [rounds_succ]
    go_wp2
    go_ret2
    exact ⟨rfl, HB2.out⟩
  · have hge : (16 : Int) ≤ (q : Int) := by omega
    have hlt : ¬ (16 : Int) ≤ ((q / 16 : Nat) : Int) := by omega
    have hx := hexS_at (q % 16) (by omega)
    have hy := hexS_at (q / 16) (by omega)
    have hl : hexLo q = [hexS (q / 16), hexS (q % 16)] := if_neg h16
    have hand := and15u q hq
    obtain ⟨⟨u, hu⟩, hf⟩ := ht.1 64 (by decide)
    have h2 := ht.put (j := 64) (by decide) (hexS (q % 16))
    obtain ⟨⟨u3, hu3⟩, hf3⟩ := h2.1 63 (by decide)
    have h3 := h2.put (j := 63) (by decide) (hexS (q / 16))
    have HB2 : Aside0 (Below w.heap.size w ((w1.setCell ⟨w.heap.size, 64, none⟩ (.int .u8 ((hexS (q % 16)).toNat : Int))).setCell ⟨w.heap.size, 63, none⟩ (.int .u8 ((hexS (q / 16)).toNat : Int)))) := ⟨below_set (below_set HB.out (Nat.le_refl _)) (Nat.le_refl _)⟩
    obtain ⟨W2, hW2⟩ : ∃ W2, (w1.setCell ⟨w.heap.size, 64, none⟩ (.int .u8 ((hexS (q % 16)).toNat : Int))) = W2 := ⟨_, rfl⟩
    rw [hW2] at h2 hu3 hf3 h3 HB2
    have hs := slice65 (W2.setCell ⟨w.heap.size, 63, none⟩ (.int .u8 ((hexS (q / 16)).toNat : Int))) w.heap.size 63 (by decide)
    have hcv : (convert 34 9 (.slice (some ⟨w.heap.size, 63, none⟩) 2 2)).run Tryz.prog _ = _ := h3.str
    clear ht h2 h3
    refine wp_loop_rounds 2 ?_
    rw [rounds_succ]
    go_wp2
    rw [rounds_succ]
    go_wp2
    go_ret2
    exact ⟨by rw [hl]; rfl, HB2.out⟩
set_option maxHeartbeats 1000000 in
set_option maxRecDepth 100000 in
theorem fmti16 (q : Nat) (hq : q < 128) (w : World) (hc : w.cell? ⟨6, 15, none⟩ = some (.int .u8 4)) :
    Calls Tryz.prog 63 #[.int .i64 (q : Int), .int .i64 16] w fun e w' => e = .returned (.string (bsL (hexLo q))) ∧ Below w.heap.size w w' := by
  have HT := Aside0.mk (bits16 q hq w hc)
  have h0 : ¬ (q : Int) < 0 := by omega
  have h1 : IntKind.u64.wrap (q : Int) = (q : Int) := by rw [IntKind.wrap_u64]; omega
  clear hc
  go_enter Tryz.func63, Tryz.ntmps63
  go_wp2_with fail
  refine HT.out.mono ?_
  rintro e w' ⟨rfl, hb⟩
  have HB := Aside0.mk hb
  clear hb
  go_wp2_with fail
  go_ret
  exact ⟨rfl, HB.out⟩
set_option maxHeartbeats 1000000 in
set_option maxRecDepth 100000 in
theorem fmt16 (q : Nat) (hq : q < 128) (w : World) (hc : w.cell? ⟨6, 15, none⟩ = some (.int .u8 4)) :
    Calls Tryz.prog 39 #[.int .i64 (q : Int), .int .i64 16] w fun e w' => e = .returned (.string (bsL (hexLo q))) ∧ Below w.heap.size w w' := by
  have HT := Aside0.mk (fmti16 q hq w hc)
  clear hc
  go_enter Tryz.func39, Tryz.ntmps39
  go_wp2_with fail
  refine HT.out.mono ?_
  rintro e w' ⟨rfl, hb⟩
  have HB := Aside0.mk hb
  clear hb
  go_wp2_with fail
  go_ret
  exact ⟨rfl, HB.out⟩

end Go.Proofs.YtkipjalfgdfaiaaGreatDoor
namespace Go.Proofs
open Go.Shelf
theorem Tryz.Builder_Extra_158 : Builder.Extra Tryz.prog Tryz.lays158_ren := {
  sizeBuilder := by kernel_rfl
  liesBuilder := by kernel_rfl
  t5 := Tryz.underlying5
  a5 := Tryz.isAgg5
  z5 := Tryz.sizeOf5
  v5 := Tryz.zeroValue5
  infoByte := by kernel_rfl
  cellsByte := by kernel_rfl
  sizeByte := by kernel_rfl
  neB5 := by decide }
open Go.RowKit in
/-- strings.ToUpper: "ToUpper returns s with all Unicode letters mapped to their upper case.": ON ASCII TEXT OF AT MOST 2^47 BYTES. Below the heap's end the world is as it was: where a letter turns, the call makes a builder and its buffer. (LAID: no walk: one application.) -/
theorem Tryz.strings_ToUpper_ascii (s : ByteArray) (w : World) (hs : s.size ≤ 140737488355328) (hascii : ∀ (j : Nat) (b : UInt8), s.data.toList[j]? = some b → b.toNat < 128) :
    Calls Tryz.prog 38 #[.string s] w fun e w' => e = .returned (.string ⟨(Lib.toUpperA s.data.toList).toArray⟩) ∧ Below w.heap.size w w' := Any.strings_ToUpper_ascii Tryz.lays158 Tryz.Builder_Extra_158 s w hs hascii
end Go.Proofs
namespace Go.Proofs.YtkipjalfgdfaiaaGreatDoor
set_option linter.unusedVariables false
set_option linter.unusedSimpArgs false
open Go.RowKit Go.Proofs.YtkipjalfgdfaiaaGreatDoorW.PrintWords Go.Proofs.YtkipjalfgdfaiaaGreatDoorW.PrintLast Go.Proofs.YtkipjalfgdfaiaaGreatDoorW.PrintMore Go.Proofs.YtkipjalfgdfaiaaGreatDoor.PTk

/-- A text that begins with a byte that a list lacks isn't within it. -/
theorem contains_not {s sub : List UInt8} {c : UInt8} {t : List UInt8} (hs : sub = c :: t) (hc : c ∉ s) : Lib.contains s sub = false := by
  unfold Lib.contains
  rw [Lib.index_none, decide_eq_false (by decide)]
  intro j hj
  unfold Lib.occAt
  subst hs
  cases hd : s.drop j with
  | nil => rfl
  | cons a l =>
    have hm : a ∈ s := List.mem_of_mem_drop (i := j) (by rw [hd]; exact List.mem_cons_self)
    rw [List.isPrefixOf_cons_cons] <;> simp only [Bool.and_eq_false_imp, beq_iff_eq]
    intro he
    exact absurd (he ▸ hm) hc
theorem encL_data {r : Int} (hr : runeB r = true) (h : 128 ≤ r) : ∃ c t, (strOfNums (encL r)).data.toList = c :: t ∧ 128 ≤ c.toNat := by
  have hp := encL_pos r
  have hh := encL_high hr h
  have hg := encL_rng hr
  rw [str_data]
  cases he : encL r with
  | nil => rw [he] at hp; simp at hp
  | cons c t =>
    rw [he] at hh hg
    refine ⟨_, _, rfl, ?_⟩
    have h1 := hh c List.mem_cons_self
    have h2 := hg c List.mem_cons_self
    show 128 ≤ (UInt8.ofNat c.toNat).toNat
    rw [UInt8.toNat_ofNat', Nat.mod_eq_of_lt (by omega)]
    omega
theorem str_app (a b : List Int) : strOfNums (a ++ b) = strOfNums a ++ strOfNums b := by
  apply ByteArray.ext
  rw [ByteArray.data_append]
  unfold strOfNums
  simp
abbrev marksS (cls : Bool) : ByteArray := if cls then ⟨#[91, 93, 94, 45, 38, 126, 92]⟩ else ⟨#[46, 91, 40, 124, 41, 42, 43, 63, 123, 94, 36, 92]⟩
theorem marks_ascii : ∀ (cls : Bool) (r : Fin 128), Lib.contains (marksS cls).data.toList [UInt8.ofNat r.val] = (marksL cls).contains (r.val : Int) := by decide +kernel
theorem marks_low : ∀ (cls : Bool), ∀ c ∈ (marksS cls).data.toList, c.toNat < 128 := by decide
theorem marks_rng : ∀ (cls : Bool), ∀ c ∈ marksL cls, c < 128 := by decide
theorem marks_has {r : Int} (hr : runeB r = true) (cls : Bool) : Lib.contains (marksS cls).data.toList (strOfNums (encL r)).data.toList = (marksL cls).contains r := by
  have hrr := (runeB_iff r).1 hr
  by_cases h : r < 128
  · rw [encL_ascii h]
    have := marks_ascii cls ⟨r.toNat, by omega⟩
    simp only at this
    rw [show ((r.toNat : Nat) : Int) = r by omega] at this
    rw [← this]
    rfl
  · obtain ⟨c, t, he, hc⟩ := encL_data hr (by omega)
    rw [contains_not he (fun hm => by have := marks_low cls c hm; omega)]
    symm
    rw [Bool.eq_false_iff]
    intro hm
    rw [List.contains_iff_mem] at hm
    have := marks_rng cls r hm
    omega
/-- Hexadecimal digits in great letters. -/
theorem upper_hex : ∀ q : Fin 128, (⟨(Lib.toUpperA (hexLo q.val)).toArray⟩ : ByteArray) = strOfNums (hexT (q.val : Int)) := by decide +kernel
theorem hexLo_ascii : ∀ q : Fin 128, ∀ b ∈ hexLo q.val, b.toNat < 128 := by decide +kernel
set_option maxHeartbeats 4000000 in
set_option maxRecDepth 100000 in
theorem print_any (r : Int) (cls : Bool) (w : World) (m : Int) (hmx : w.cell? ⟨2, 0, none⟩ = some (.int .i64 m)) (hc : w.cell? ⟨6, 15, none⟩ = some (.int .u8 4)) :
    Calls Tryz.prog 23 #[.int .i64 r, .bool cls] w fun e w' => e = .returned (.string (strOfNums (printL r cls))) ∧ Below w.heap.size w w' := by
  have HE := Aside0.mk (encode_any r w)
  have HMX := Aside0.mk hmx
  have HC := Aside0.mk hc
  have hmg : 2 < w.heap.size := World.block_lt_of_cell? w _ hmx
  have hcg : 6 < w.heap.size := World.block_lt_of_cell? w _ hc
  obtain ⟨P, hP⟩ : ∃ P, printL r cls = P := ⟨_, rfl⟩
  rw [hP]
  cases hr : runeB r with
  | false =>
    rw [hr] at HE
    obtain rfl : P = [] := by rw [← hP, printL_none hr]
    clear hmx hc hP
    go_enter Tryz.func23, Tryz.ntmps23
    go_wp2_with fail
    refine HE.out.mono ?_
    rintro e w1 ⟨v, rfl, ho, hb⟩
    obtain ⟨A, c, rfl⟩ := Kd.R_slice ho
    have HB := Aside0.mk hb
    clear hb ho
    cases cls with
    | false =>
      go_wp2_with fail
      go_ret
      exact ⟨rfl, HB.out⟩
    | true =>
      go_wp2_with fail
      go_ret
      exact ⟨rfl, HB.out⟩
  | true =>
    rw [hr] at HE
    have hrr := (runeB_iff r).1 hr
    unfold printL at hP
    rw [if_neg (by rw [hr]; decide)] at hP
    by_cases h1 : r < 32 ∨ r = 127
    · rw [if_pos h1] at hP
      obtain ⟨q, rfl⟩ : ∃ q : Nat, r = (q : Int) := ⟨r.toNat, by omega⟩
      have hq : q < 128 := by omega
      have HF := Aside0.mk (fun W (h1 : W.cell? ⟨6, 15, none⟩ = some (.int .u8 4)) => fmt16 q hq W h1)
      have HU := Aside0.mk (fun W => Tryz.strings_ToUpper_ascii (bsL (hexLo q)) W (by show (hexLo q).toArray.size ≤ _; rw [List.size_toArray]; unfold hexLo; split <;> simp) (fun j b hb => hexLo_ascii ⟨q, hq⟩ b (List.mem_of_getElem? hb)))
      have hup := upper_hex ⟨q, hq⟩
      have hup2 : (⟨(Lib.toUpperA (bsL (hexLo q)).data.toList).toArray⟩ : ByteArray) = strOfNums (hexT (q : Int)) := hup
      have hxl := (hexT_ok (r := (q : Int)) (by omega) (by omega)).2.2.2
      rw [hup2] at HU
      have HP : Aside0 ((⟨#[92, 120, 123]⟩ : ByteArray) ++ strOfNums (hexT (q : Int)) ++ ⟨#[125]⟩ = strOfNums P) := ⟨by rw [← hP, str_app, str_app]; rfl⟩
      have hsz : (strOfNums (hexT (q : Int))).size ≤ 2 := by rw [strN_size]; exact hxl
      have hsz1 : ((⟨#[92, 120, 123]⟩ : ByteArray) ++ strOfNums (hexT (q : Int))).size ≤ 5 := by rw [ByteArray.size_append]; have : (⟨#[92, 120, 123]⟩ : ByteArray).size = 3 := rfl; omega
      obtain ⟨X, hX⟩ : ∃ X, strOfNums (hexT (q : Int)) = X := ⟨_, rfl⟩
      obtain ⟨Y, hY⟩ : ∃ Y, (⟨#[92, 120, 123]⟩ : ByteArray) ++ X = Y := ⟨_, rfl⟩
      rw [hX] at HU HP hsz hsz1
      rw [hY] at HP hsz1
      clear hmx hc hP hup hup2 hX hxl hrr hr
      go_enter Tryz.func23, Tryz.ntmps23
      go_wp2_with fail
      refine HE.out.mono ?_
      rintro e w1 ⟨v, rfl, ho, hb⟩
      obtain ⟨A, c, rfl⟩ := Kd.R_slice ho
      have HB := Aside0.mk hb
      have HF1 := Aside0.mk (HF.out w1 ((hb.cell hcg).trans HC.out))
      clear hb ho
      by_cases h32 : q < 32
      · have h32b : decide ((q : Int) < 32) = true := decide_eq_true (by omega)
        cases cls with
        | false =>
          go_wp2_with fail
          refine HF1.out.mono ?_
          rintro e w2 ⟨rfl, hb2⟩
          have HB2 := Aside0.mk (below_to HB.out hb2)
          clear hb2
          go_wp2_with fail
          refine (HU.out w2).mono ?_
          rintro e w3 ⟨rfl, hb3⟩
          have HB3 := Aside0.mk (below_to HB2.out hb3)
          clear hb3
          go_wp2_with fail
          go_ret
          first | exact ⟨rfl, HB3.out⟩ | exact ⟨by rw [HP.out]; rfl, HB3.out⟩
        | true =>
          go_wp2_with fail
          refine HF1.out.mono ?_
          rintro e w2 ⟨rfl, hb2⟩
          have HB2 := Aside0.mk (below_to HB.out hb2)
          clear hb2
          go_wp2_with fail
          refine (HU.out w2).mono ?_
          rintro e w3 ⟨rfl, hb3⟩
          have HB3 := Aside0.mk (below_to HB2.out hb3)
          clear hb3
          go_wp2_with fail
          go_ret
          first | exact ⟨rfl, HB3.out⟩ | exact ⟨by rw [HP.out]; rfl, HB3.out⟩
      · obtain rfl : q = 127 := by omega
        cases cls with
        | false =>
          go_wp2_with fail
          refine HF1.out.mono ?_
          rintro e w2 ⟨rfl, hb2⟩
          have HB2 := Aside0.mk (below_to HB.out hb2)
          clear hb2
          go_wp2_with fail
          refine (HU.out w2).mono ?_
          rintro e w3 ⟨rfl, hb3⟩
          have HB3 := Aside0.mk (below_to HB2.out hb3)
          clear hb3
          go_wp2_with fail
          go_ret
          first | exact ⟨rfl, HB3.out⟩ | exact ⟨by rw [HP.out]; rfl, HB3.out⟩
        | true =>
          go_wp2_with fail
          refine HF1.out.mono ?_
          rintro e w2 ⟨rfl, hb2⟩
          have HB2 := Aside0.mk (below_to HB.out hb2)
          clear hb2
          go_wp2_with fail
          refine (HU.out w2).mono ?_
          rintro e w3 ⟨rfl, hb3⟩
          have HB3 := Aside0.mk (below_to HB2.out hb3)
          clear hb3
          go_wp2_with fail
          go_ret
          first | exact ⟨rfl, HB3.out⟩ | exact ⟨by rw [HP.out]; rfl, HB3.out⟩
    · rw [if_neg h1] at hP
      have h32b : decide (r < 32) = false := decide_eq_false (by omega)
      have h127 : (r == 127) = false := by rw [beq_eq_false_iff_ne]; omega
      have HM := Aside0.mk (fun (b : Bool) W hw => Tryz.strings_Contains (marksS b) (strOfNums (encL r)) m W (by cases b <;> decide) hw)
      have hmk := marks_has hr cls
      have HL : Aside0 ((encL r).length ≤ 4) := ⟨(encL_pos r).2⟩
      obtain ⟨S, hS⟩ : ∃ S, strOfNums (encL r) = S := ⟨_, rfl⟩
      have hsl : S.size ≤ 4 := by rw [← hS, strN_size]; exact HL.out
      cases hm : (marksL cls).contains r with
      | true =>
        rw [hm] at hmk hP
        have HP : Aside0 ((⟨#[92]⟩ : ByteArray) ++ S = strOfNums P) := ⟨by rw [← hP, ← hS]; exact (str_app [92] (encL r)).symm⟩
        rw [hS] at HM hmk
        clear hmx hc hP hrr hr hm
        cases cls with
        | false =>
          go_enter Tryz.func23, Tryz.ntmps23
          go_wp2_with fail
          refine HE.out.mono ?_
          rintro e w1 ⟨v, rfl, ho, hb⟩
          obtain ⟨A, c, rfl⟩ := Kd.R_slice ho
          obtain ⟨A', c', e, hcap, hC0⟩ := Kd.R_reads ho
          obtain ⟨rfl, -, rfl⟩ : A = A' ∧ True ∧ c = c' := by injection e with h1 h2 h3; exact ⟨h1, trivial, h3⟩
          have hC : Kd.C kB w1 A (encL r).length (encL r) := hC0
          have hcv := fun n => Kd.C_string (P := Tryz.prog) (c := c) Tryz.underlying34 Tryz.underlying5 Tryz.underlying9 (Kd.C_below hC (pw_below_drewN (Below.refl _ _) n))
          have hcv0 := Kd.C_string (P := Tryz.prog) (c := c) Tryz.underlying34 Tryz.underlying5 Tryz.underlying9 hC
          have HB := Aside0.mk hb
          have HM1 := Aside0.mk (fun b => HM.out b w1 ((hb.cell hmg).trans HMX.out))
          rw [hS] at hcv hcv0
          clear hb ho hcap hC0 hC e
          go_wp2_with fail
          refine (HM1.out false).mono ?_
          intro e w2 hr2
          rw [hmk] at hr2
          obtain ⟨rfl, rfl⟩ := hr2
          go_wp2_with fail
          go_ret
          first | exact ⟨rfl, HB.out⟩ | exact ⟨by rw [HP.out]; rfl, HB.out⟩
        | true =>
          go_enter Tryz.func23, Tryz.ntmps23
          go_wp2_with fail
          refine HE.out.mono ?_
          rintro e w1 ⟨v, rfl, ho, hb⟩
          obtain ⟨A, c, rfl⟩ := Kd.R_slice ho
          obtain ⟨A', c', e, hcap, hC0⟩ := Kd.R_reads ho
          obtain ⟨rfl, -, rfl⟩ : A = A' ∧ True ∧ c = c' := by injection e with h1 h2 h3; exact ⟨h1, trivial, h3⟩
          have hC : Kd.C kB w1 A (encL r).length (encL r) := hC0
          have hcv := fun n => Kd.C_string (P := Tryz.prog) (c := c) Tryz.underlying34 Tryz.underlying5 Tryz.underlying9 (Kd.C_below hC (pw_below_drewN (Below.refl _ _) n))
          have hcv0 := Kd.C_string (P := Tryz.prog) (c := c) Tryz.underlying34 Tryz.underlying5 Tryz.underlying9 hC
          have HB := Aside0.mk hb
          have HM1 := Aside0.mk (fun b => HM.out b w1 ((hb.cell hmg).trans HMX.out))
          rw [hS] at hcv hcv0
          clear hb ho hcap hC0 hC e
          go_wp2_with fail
          refine (HM1.out true).mono ?_
          intro e w2 hr2
          rw [hmk] at hr2
          obtain ⟨rfl, rfl⟩ := hr2
          go_wp2_with fail
          go_ret
          first | exact ⟨rfl, HB.out⟩ | exact ⟨by rw [HP.out]; rfl, HB.out⟩
      | false =>
        rw [hm] at hmk hP
        have HP : Aside0 (S = strOfNums P) := ⟨by rw [← hP, ← hS]; rfl⟩
        rw [hS] at HM hmk
        clear hmx hc hP hrr hr hm
        cases cls with
        | false =>
          go_enter Tryz.func23, Tryz.ntmps23
          go_wp2_with fail
          refine HE.out.mono ?_
          rintro e w1 ⟨v, rfl, ho, hb⟩
          obtain ⟨A, c, rfl⟩ := Kd.R_slice ho
          obtain ⟨A', c', e, hcap, hC0⟩ := Kd.R_reads ho
          obtain ⟨rfl, -, rfl⟩ : A = A' ∧ True ∧ c = c' := by injection e with h1 h2 h3; exact ⟨h1, trivial, h3⟩
          have hC : Kd.C kB w1 A (encL r).length (encL r) := hC0
          have hcv := fun n => Kd.C_string (P := Tryz.prog) (c := c) Tryz.underlying34 Tryz.underlying5 Tryz.underlying9 (Kd.C_below hC (pw_below_drewN (Below.refl _ _) n))
          have hcv0 := Kd.C_string (P := Tryz.prog) (c := c) Tryz.underlying34 Tryz.underlying5 Tryz.underlying9 hC
          have HB := Aside0.mk hb
          have HM1 := Aside0.mk (fun b => HM.out b w1 ((hb.cell hmg).trans HMX.out))
          rw [hS] at hcv hcv0
          clear hb ho hcap hC0 hC e
          go_wp2_with fail
          refine (HM1.out false).mono ?_
          intro e w2 hr2
          rw [hmk] at hr2
          obtain ⟨rfl, rfl⟩ := hr2
          go_wp2_with fail
          go_ret
          first | exact ⟨rfl, HB.out⟩ | exact ⟨by rw [HP.out]; rfl, HB.out⟩
        | true =>
          go_enter Tryz.func23, Tryz.ntmps23
          go_wp2_with fail
          refine HE.out.mono ?_
          rintro e w1 ⟨v, rfl, ho, hb⟩
          obtain ⟨A, c, rfl⟩ := Kd.R_slice ho
          obtain ⟨A', c', e, hcap, hC0⟩ := Kd.R_reads ho
          obtain ⟨rfl, -, rfl⟩ : A = A' ∧ True ∧ c = c' := by injection e with h1 h2 h3; exact ⟨h1, trivial, h3⟩
          have hC : Kd.C kB w1 A (encL r).length (encL r) := hC0
          have hcv := fun n => Kd.C_string (P := Tryz.prog) (c := c) Tryz.underlying34 Tryz.underlying5 Tryz.underlying9 (Kd.C_below hC (pw_below_drewN (Below.refl _ _) n))
          have hcv0 := Kd.C_string (P := Tryz.prog) (c := c) Tryz.underlying34 Tryz.underlying5 Tryz.underlying9 hC
          have HB := Aside0.mk hb
          have HM1 := Aside0.mk (fun b => HM.out b w1 ((hb.cell hmg).trans HMX.out))
          rw [hS] at hcv hcv0
          clear hb ho hcap hC0 hC e
          go_wp2_with fail
          refine (HM1.out true).mono ?_
          intro e w2 hr2
          rw [hmk] at hr2
          obtain ⟨rfl, rfl⟩ := hr2
          go_wp2_with fail
          go_ret
          first | exact ⟨rfl, HB.out⟩ | exact ⟨by rw [HP.out]; rfl, HB.out⟩

end Go.Proofs.YtkipjalfgdfaiaaGreatDoor
namespace Go.Proofs.YtkipjalfgdfaiaaGreatDoor
set_option linter.unusedVariables false
set_option linter.unusedSimpArgs false
open Go.RowKit Go.Proofs.YtkipjalfgdfaiaaGreatDoorW.PrintWords Go.Proofs.YtkipjalfgdfaiaaGreatDoorW.PrintLast Go.Proofs.YtkipjalfgdfaiaaGreatDoorW.PrintMore Go.Proofs.YtkipjalfgdfaiaaGreatDoor.PTk

def quoteL (l : List Int) : List Int := (l.take 50).flatMap fun r => printL r false
def quoteN (l : List Int) : Nat := ((l.take 50).filter fun r => runeB r).length
theorem bytes_str (l : List Int) (hr : ∀ x ∈ l, 0 ≤ x ∧ x ≤ 255) : bytesOf (strOfNums l) = l := by
  unfold bytesOf
  rw [str_data, List.map_map]
  conv => rhs; rw [← List.map_id l]
  apply List.map_congr_left
  intro x hx
  have := hr x hx
  show ((UInt8.ofNat x.toNat).toNat : Int) = x
  rw [UInt8.toNat_ofNat', Nat.mod_eq_of_lt (by omega)]
  omega
theorem str_empty (l : List Int) : (strOfNums l).toList.isEmpty = l.isEmpty := by
  rw [ByteArray.toList_eq]
  rw [str_data]
  cases l <;> rfl
set_option maxHeartbeats 4000000 in
set_option maxRecDepth 100000 in
theorem quoted_any (w : World) (A : Option Addr) (c : Nat) (l : List Int) (hC : Kd.C (Kd.int .i64) w A l.length l) (hcap : l.length ≤ c) (m : Int) (hmx : w.cell? ⟨2, 0, none⟩ = some (.int .i64 m)) (hc : w.cell? ⟨6, 15, none⟩ = some (.int .u8 4)) :
    Calls Tryz.prog 25 #[.slice A l.length c] w fun e w' => ∃ v, e = .returned (.tuple #[v, .int .i64 (quoteN l : Int)]) ∧ Own kB 5 w' w.heap.size v (quoteL l) ∧ Below w.heap.size w w' := by
  have hmg : 2 < w.heap.size := World.block_lt_of_cell? w _ hmx
  have hcg : 6 < w.heap.size := World.block_lt_of_cell? w _ hc
  have HP := Aside0.mk (fun r W (hb : Below w.heap.size w W) => print_any r false W m ((hb.cell hmg).trans hmx) ((hb.cell hcg).trans hc))
  obtain ⟨q, hq⟩ : ∃ q, l.take 50 = q := ⟨_, rfl⟩
  have hql : min (l.length : Int) 50 = (q.length : Int) := by rw [← hq, List.length_take]; omega
  have hq50 : q.length ≤ 50 := by rw [← hq, List.length_take]; omega
  have hqc : q.length ≤ c := by rw [← hq, List.length_take]; omega
  have hCq : Kd.C (Kd.int .i64) w A q.length q := by
    rw [← hq]
    by_cases h : l.length ≤ 50
    · rw [List.take_of_length_le h]; exact hC
    · exact Kd.C_take hC (by omega)
  have HC := Aside0.mk hCq
  have HQL := Aside0.mk (show quoteL l = q.flatMap (fun r => printL r false) by rw [← hq]; rfl)
  have HQN := Aside0.mk (show quoteN l = (q.filter fun r => runeB r).length by rw [← hq]; rfl)
  clear hC hmx hc hq hCq
  go_enter Tryz.func25, Tryz.ntmps25
  go_wp2_with fail
  go_loopg [4, 5, 15] q.length (fun gk v4 v5 v15 w' => ∃ (k n : Nat), v5 = .int .i64 (n : Int) ∧ v15 = .int .i64 (k : Int) ∧ Aside0 (k ≤ q.length ∧ gk = q.length - k ∧ n = ((q.take k).filter fun r => runeB r).length ∧ n ≤ k) ∧ Aside0 (Own kB 5 w' w.heap.size v4 ((q.take k).flatMap fun r => printL r false) ∧ ((q.take k).flatMap fun r => printL r false).length ≤ 6 * k) ∧ Aside0 (Below w.heap.size w w'))
  case atStart => exact ⟨0, 0, by first | rfl | simp, by first | rfl | simp, ⟨Nat.zero_le _, rfl, rfl, Nat.le_refl _⟩, ⟨Kd.R_nil _ _ _ _ _, Nat.zero_le _⟩, ⟨Below.refl _ _⟩⟩
  case round =>
    obtain ⟨k, n, rfl, rfl, HA, HO, HB⟩ := hrel
    by_cases hk : k < q.length
    · obtain ⟨ad, rfl, hx⟩ := at_I (Kd.C_below HC.out HB.out) k hk
      have hO := HO.out.1
      have hOl := HO.out.2
      have HT : Aside0 ((q.take (k + 1)).flatMap (fun r => printL r false) = (q.take k).flatMap (fun r => printL r false) ++ printL q[k] false) := ⟨by rw [List.take_succ_eq_append_getElem hk, List.flatMap_append]; simp⟩
      have HF : Aside0 (((q.take (k + 1)).filter fun r => runeB r).length = ((q.take k).filter fun r => runeB r).length + (if runeB q[k] = true then 1 else 0)) := ⟨by rw [List.take_succ_eq_append_getElem hk, List.filter_append, List.length_append]; cases h : runeB q[k] <;> simp [h]⟩
      obtain ⟨r, hr⟩ : ∃ r, q[k] = r := ⟨_, rfl⟩
      rw [hr] at hx HT HF
      have HPR := Aside0.mk (HP.out r wr HB.out)
      have hpl : (printL r false).length ≤ 6 := by
        cases h : runeB r with
        | true => exact (printL_pos (cls := false) h).2
        | false => rw [printL_none h]; simp
      have hpe : ((printL r false).isEmpty) = !(runeB r) := by
        cases h : runeB r with
        | true => have := (printL_pos (cls := false) h).1; cases hp : printL r false with | nil => rw [hp] at this; simp at this | cons a b => rfl
        | false => rw [printL_none h]; rfl
      have hpb : bytesOf (strOfNums (printL r false)) = printL r false := bytes_str _ (fun x hx => printL_rng x hx)
      have hps : (strOfNums (printL r false)).size ≤ 6 := by rw [strN_size]; exact hpl
      have hse : (strOfNums (printL r false)).toList.isEmpty = !(runeB r) := by rw [← hpe, str_empty]
      obtain ⟨P, hP⟩ : ∃ P, printL r false = P := ⟨_, rfl⟩
      obtain ⟨S, hS⟩ : ∃ S, strOfNums P = S := ⟨_, rfl⟩
      obtain ⟨X, hX⟩ : ∃ X, (q.take k).flatMap (fun r => printL r false) = X := ⟨_, rfl⟩
      rw [hP] at HT hpl hpb hps hse HPR
      rw [hS] at hpb hps hse HPR
      rw [hX] at HT hO hOl
      obtain ⟨A4, c4, rfl⟩ := Kd.R_slice hO
      have HOX := Aside0.mk hO
      have HXL := Aside0.mk hOl
      have HPB := Aside0.mk hpb
      have HPL := Aside0.mk hpl
      have hkd : decide (k < q.length) = true := decide_eq_true hk
      have HK := Aside0.mk hk
      have hnb : (n : Int) ≤ 50 := by have := HA.out; omega
      have hkb : (k : Int) ≤ 50 := by omega
      clear hr hpe hpb hP hS hX hO hOl hpl HO
      go_wp2_with fail
      refine HPR.out.mono ?_
      rintro e w1 ⟨rfl, hb1⟩
      have HB1 := Aside0.mk (below_to HB.out hb1)
      have HO1 := Aside0.mk (Kd.R_below HOX.out hb1)
      clear hb1
      cases hrb : runeB r with
      | true =>
        rw [hrb] at hse HF
        go_wp2_with (at_builtin; refine print_append_str (w0 := w) w.heap.size rfl (.tmp 21) (.tmp 22) 34 9 5 rfl Tryz.underlying34 Tryz.underlying9 info5 _ X S rfl rfl (Kd.own_of_R HO1.out) HB1.out ?aS1 ?aL1 ?_)
        case aS1 => exact HB1.out.size
        case aL1 => have := HXL.out; omega
        intro v1 w2 hw2 hb2 _
        have HO2 : Aside0 (Own kB 5 w2 w.heap.size v1 ((q.take (k + 1)).flatMap fun r => printL r false)) := ⟨by rw [HT.out, ← HPB.out]; exact Kd.R_of_own (by rw [List.length_append]; exact hw2) (fun _ _ => trivial)⟩
        have HL2 : Aside0 (((q.take (k + 1)).flatMap fun r => printL r false).length ≤ 6 * (k + 1)) := ⟨by rw [HT.out, List.length_append]; have h1 := HXL.out; have h2 := HPL.out; omega⟩
        obtain ⟨A5, c5, rfl⟩ := Kd.R_slice HO2.out
        have HB2 := Aside0.mk hb2
        clear hw2 hb2 hk
        go_wp2
        go_roundg (q.length - k - 1)
        case measure => have := HA.out; have := HK.out; omega
        case rel => exact ⟨k + 1, n + 1, by first | rfl | go_num, by first | rfl | go_num, ⟨by have := HK.out; omega, by omega, by rw [HF.out, ← HA.out.2.2.1]; rfl, by have := HA.out.2.2.2; omega⟩, ⟨HO2.out, HL2.out⟩, HB2⟩
      | false =>
        rw [hrb] at hse HF
        go_wp2_with (at_builtin; refine print_append_str (w0 := w) w.heap.size rfl (.tmp 21) (.tmp 22) 34 9 5 rfl Tryz.underlying34 Tryz.underlying9 info5 _ X S rfl rfl (Kd.own_of_R HO1.out) HB1.out ?aS0 ?aL0 ?_)
        case aS0 => exact HB1.out.size
        case aL0 => have := HXL.out; omega
        intro v1 w2 hw2 hb2 _
        have HO2 : Aside0 (Own kB 5 w2 w.heap.size v1 ((q.take (k + 1)).flatMap fun r => printL r false)) := ⟨by rw [HT.out, ← HPB.out]; exact Kd.R_of_own (by rw [List.length_append]; exact hw2) (fun _ _ => trivial)⟩
        have HL2 : Aside0 (((q.take (k + 1)).flatMap fun r => printL r false).length ≤ 6 * (k + 1)) := ⟨by rw [HT.out, List.length_append]; have h1 := HXL.out; have h2 := HPL.out; omega⟩
        obtain ⟨A5, c5, rfl⟩ := Kd.R_slice HO2.out
        have HB2 := Aside0.mk hb2
        clear hw2 hb2 hk
        go_wp2
        go_roundg (q.length - k - 1)
        case measure => have := HA.out; have := HK.out; omega
        case rel => exact ⟨k + 1, n, by first | rfl | go_num, by first | rfl | go_num, ⟨by have := HK.out; omega, by omega, by rw [HF.out, ← HA.out.2.2.1]; rfl, by have := HA.out.2.2.2; omega⟩, ⟨HO2.out, HL2.out⟩, HB2⟩
    · have hkd : decide (k < q.length) = false := decide_eq_false hk
      have hkq : k = q.length := by have := HA.out; omega
      subst hkq
      have HO2 := HO.out.1
      have HA2 := HA.out
      rw [List.take_length] at HO2 HA2
      have HN : Aside0 (n = quoteN l) := ⟨by rw [HQN.out]; exact HA2.2.2.1⟩
      have HOF := Aside0.mk HO2
      clear HO2 HA2 HO HA hkd
      go_wp2_with fail
      go_ret2
      exact ⟨_, by rw [← HN.out]; rfl, by rw [HQL.out]; exact HOF.out, HB.out⟩

end Go.Proofs.YtkipjalfgdfaiaaGreatDoor
namespace Go.Proofs.YtkipjalfgdfaiaaGreatDoor
set_option linter.unusedVariables false
set_option linter.unusedSimpArgs false
open Go.RowKit Go.Proofs.YtkipjalfgdfaiaaGreatDoorW.PrintWords Go.Proofs.YtkipjalfgdfaiaaGreatDoorW.PrintLast Go.Proofs.YtkipjalfgdfaiaaGreatDoorW.PrintMore Go.Proofs.YtkipjalfgdfaiaaGreatDoor.PTk

theorem quoteL_len (l : List Int) : (quoteL l).length ≤ 300 ∧ ∀ x ∈ quoteL l, 0 ≤ x ∧ x ≤ 255 := by
  have h : ∀ (q : List Int), (q.flatMap fun r => printL r false).length ≤ 6 * q.length := fun q => by
    induction q with
    | nil => simp
    | cons r q ih =>
      rw [List.flatMap_cons, List.length_append, List.length_cons]
      have : (printL r false).length ≤ 6 := by
        cases h : runeB r with
        | true => exact (printL_pos (cls := false) h).2
        | false => rw [printL_none h]; simp
      omega
  refine ⟨?_, fun x hx => ?_⟩
  · have h1 := h (l.take 50)
    have h2 : (l.take 50).length ≤ 50 := by rw [List.length_take]; omega
    unfold quoteL
    omega
  · unfold quoteL at hx
    rw [List.mem_flatMap] at hx
    obtain ⟨r, _, hx⟩ := hx
    exact printL_rng x hx
theorem joins_scan (res : ByteArray → Int × ByteArray × Int) (a b : List Int) : ∃ new, scanL res (quoteL a ++ quoteL b) = (new, 0, 0) ∧ new.length = quoteN a + quoteN b ∧ ∀ t ∈ new, t.kind = 1 := by
  have h1 := (quoteL_len a).1
  have h2 := (quoteL_len b).1
  have hl : (quoteL a ++ quoteL b).length ≤ 600 := by rw [List.length_append]; omega
  obtain ⟨new, e1, e2, e3⟩ := scan_prints res (quoteL a ++ quoteL b) (a.take 50 ++ b.take 50) (quoteL a ++ quoteL b).length 0 [] (by rw [List.drop_zero, List.flatMap_append]; rfl) (by omega) (Nat.zero_le _)
  refine ⟨new, ?_, ?_, e3⟩
  · unfold scanL
    rw [if_neg (by omega), e1]
    simp
  · rw [e2, List.filter_append, List.length_append]
    rfl
set_option maxHeartbeats 8000000 in
set_option maxRecDepth 100000 in
theorem TokenJoins_walk (w : World) (A : Option Addr) (ca : Nat) (a : List Int) (B : Option Addr) (cb : Nat) (b : List Int) (ha : Kd.C (Kd.int .i64) w A a.length a) (hca : a.length ≤ ca) (hb : Kd.C (Kd.int .i64) w B b.length b) (hcb : b.length ≤ cb) (m : Int) (hvr : Vars w.heap.size w m) (hc : w.cell? ⟨6, 15, none⟩ = some (.int .u8 4)) :
    Calls Tryz.prog 11 #[.slice A a.length ca, .slice B b.length cb] w fun e w' => e = .returned (.bool true) ∧ Below w.heap.size w w' := by
  obtain ⟨bb, hal⟩ := alias_ex
  have hcg : 6 < w.heap.size := World.block_lt_of_cell? w _ hc
  have HQ1 := Aside0.mk (quoted_any w A ca a ha hca m hvr.mx hc)
  have HQ2 := Aside0.mk (fun W (h : Below w.heap.size w W) => quoted_any W B cb b (Kd.C_below hb h) hcb m (hvr.move h).mx ((h.cell hcg).trans hc))
  have HAW := Aside0.mk (fun W m' h => awake13_any bb hal W m' h)
  have HV := Aside0.mk hvr
  obtain ⟨new, hsc, hnl, hnk⟩ := joins_scan (resolveL (rowsB bb)) a b
  obtain ⟨hql1, hqr1⟩ := quoteL_len a
  obtain ⟨hql2, hqr2⟩ := quoteL_len b
  have hrg : ∀ x ∈ quoteL a ++ quoteL b, 0 ≤ x ∧ x ≤ 255 := fun x hx => (List.mem_append.1 hx).elim (hqr1 x) (hqr2 x)
  have HSC := Aside0.mk (fun W (hv : Vars W.heap.size W m) c A hC hcap => scan_any bb hal W m A c (quoteL a ++ quoteL b) hv hC hrg hcap)
  rw [hsc] at HSC
  obtain ⟨x, hx⟩ : ∃ x, quoteL a = x := ⟨_, rfl⟩
  obtain ⟨y, hy⟩ : ∃ y, quoteL b = y := ⟨_, rfl⟩
  obtain ⟨i, hi⟩ : ∃ i, quoteN a = i := ⟨_, rfl⟩
  obtain ⟨k, hk⟩ : ∃ k, quoteN b = k := ⟨_, rfl⟩
  rw [hx] at hql1 HQ1 HSC
  rw [hy] at hql2 HQ2 HSC
  rw [hi] at hnl HQ1
  rw [hk] at hnl HQ2
  have HNK := Aside0.mk hnk
  have HL1 := Aside0.mk hql1
  have HL2 := Aside0.mk hql2
  clear ha hb hvr hc hal hsc hqr1 hqr2 hrg hx hy hi hk hnk hql1 hql2
  go_enter Tryz.func11, Tryz.ntmps11
  go_wp2_with fail
  refine HQ1.out.mono ?_
  rintro e w1 ⟨v1, rfl, ho1, hb1⟩
  obtain ⟨A1, c1, rfl⟩ := Kd.R_slice ho1
  have HB1 := Aside0.mk hb1
  have HO1 := Aside0.mk ho1
  have HQ3 := Aside0.mk (HQ2.out w1 hb1)
  clear hb1 ho1
  go_wp2_with fail
  refine HQ3.out.mono ?_
  rintro e w2 ⟨v2, rfl, ho2, hb2⟩
  obtain ⟨A2, c2, rfl⟩ := Kd.R_slice ho2
  have HB2 := Aside0.mk (below_to HB1.out hb2)
  have HX := Aside0.mk (RdS.below (RdS.of_R HO1.out) hb2)
  have HCL := Aside0.mk (cloneB_any w2 _ x HX.out (by have := HL1.out; omega))
  have HY := Aside0.mk ho2
  clear hb2 ho2
  go_wp2_with fail
  refine HCL.out.mono ?_
  rintro e w3 ⟨v3, rfl, ho3, hb3⟩
  obtain ⟨A3, c3, rfl⟩ := Kd.R_slice ho3
  have HB3 := Aside0.mk (below_to HB2.out hb3)
  have HZ := Aside0.mk ho3
  obtain ⟨A2', c2', e2, hcap2, hC2⟩ := Kd.R_reads HY.out
  obtain ⟨rfl, rfl⟩ : A2 = A2' ∧ c2 = c2' := by injection e2 with h1 h2 h3; exact ⟨h1, h3⟩
  have HY3 := Aside0.mk (Kd.C_below hC2 hb3)
  have HW23 := Aside0.mk hb3
  clear e2 hcap2 hC2 hb3 ho3
  go_wp2_with (at_builtin; refine Kd.R_append_rows kB (w0 := w2) w2.heap.size rfl (.tmp 28) (.tmp 29) 34 5 (.int .u8 0) 1 rfl Tryz.underlying34 info5 rfl (by decide) (by omega) _ x y A2 y.length c2 (fun _ => True) (fun _ => False) rfl rfl HZ.out HY3.out (fun _ _ h => h) (fun _ h => h.elim) (fun _ _ => trivial) HW23.out ?aS ?aL ?_)
  case aS => exact HW23.out.size
  case aL => have h1 := HL1.out; have h2 := HL2.out; omega
  intro v4 w4 ho4 hb4 _ _
  obtain ⟨A4, c4, e4, hcap4, hC4⟩ := Kd.R_reads ho4
  subst e4
  have HB4 := Aside0.mk (below_to HB2.out hb4)
  have HSC4 := Aside0.mk (HSC.out w4 ((HV.out.move HB4.out).up HB4.out.size) c4 A4 hC4 hcap4)
  rw [List.length_append] at HSC4
  clear ho4 hb4 hcap4 hC4
  go_wp2_with fail
  refine HSC4.out.mono ?_
  intro e w5 hr5
  obtain ⟨v5, rfl, ho5, hb5⟩ := hr5
  obtain ⟨A5, c5, rfl, -, hl63, hR5⟩ := own_tk ho5
  have HB5 := Aside0.mk (below_to HB4.out hb5)
  have hl63b : new.length ≤ 9223372036854775807 := hl63
  obtain ⟨wf, hwf⟩ : ∃ W, w5.alloc (.cells #[.int .i64 0, .int .i64 0] 37) = W := ⟨_, rfl⟩
  have hbf : Below w5.heap.size w5 wf := by rw [← hwf]; exact below_alloc (Below.refl _ _) _
  have hf0 : wf.cell? ⟨w5.heap.size, 0, none⟩ = some (.int .i64 0) := by rw [← hwf]; exact rowc (heap_alloc_new w5 _) 0 _ rfl
  have HBF := Aside0.mk (below_to HB5.out hbf)
  have HF0 := Aside0.mk hf0
  have HR5 := Aside0.mk (hR5.below hbf)
  have HWF := Aside0.mk hwf
  have HZF : Aside0 (wf.heap.size = w5.heap.size + 1) := ⟨by rw [← hwf]; simp⟩
  clear ho5 hR5 hb5 hl63 hbf hf0 hwf
  go_wp2_with fail
  rw [HWF.out]
  go_loopg [36] (i + k) (fun gk v36 w' => ∃ (j : Nat), v36 = .int .i64 (j : Int) ∧ Aside0 (j ≤ new.length ∧ gk = new.length - j) ∧ Aside0 (Below wf.heap.size wf w'))
  case atStart => exact ⟨0, by first | rfl | simp, ⟨Nat.zero_le _, by omega⟩, ⟨Below.refl _ _⟩⟩
  case round =>
    obtain ⟨j, rfl, HA, HB⟩ := hrel
    by_cases hj : j < new.length
    · obtain ⟨g, hA, hc⟩ := (HR5.out.below HB.out) j hj
      subst hA
      have hk1 : new[j].kind = 1 := HNK.out _ (List.getElem_mem hj)
      have x0 := hc 0 _ rfl
      have x1 := hc 1 _ rfl
      have x2 := hc 2 _ rfl
      have x3 := hc 3 _ rfl
      have x4 := hc 4 _ rfl
      have x5 := hc 5 _ rfl
      have x6 := hc 6 _ rfl
      have x7 := hc 7 _ rfl
      obtain ⟨t, ht⟩ : ∃ t, new[j] = t := ⟨_, rfl⟩
      rw [ht] at x0 x1 x2 x3 x4 x5 x6 x7 hk1
      simp only [Nat.add_zero] at x0
      simp only [tkC, List.getElem_cons_zero, List.getElem_cons_succ] at x0 x1 x2 x3 x4 x5 x6 x7
      have hjd : (j : Int) < (i : Int) + (k : Int) := by omega
      have hkb : (t.kind != 1) = false := by rw [hk1]; rfl
      have HJ := Aside0.mk hj
      clear hc ht hk1 hj
      go_wp2
      go_roundg (new.length - j - 1)
      case measure => have := HA.out; have := HJ.out; omega
      exact ⟨j + 1, by first | rfl | go_num, ⟨by have := HJ.out; omega, by omega⟩, ⟨below_alloc HB.out _⟩⟩
    · have hjd : ¬ (j : Int) < (i : Int) + (k : Int) := by omega
      have hf := pw_cell_below HB.out HF0.out
      have hbw : Below w.heap.size w wr := below_to HBF.out HB.out
      have HBW := Aside0.mk hbw
      have HA3 := HAW.out wr m ((HV.out.move hbw).up hbw.size)
      clear hbw hj
      go_wp2_with fail
      refine HA3.mono ?_
      rintro e w7 ⟨rfl, hb7⟩
      have HB7 := Aside0.mk (below_to HBW.out hb7)
      clear hb7
      go_wp2_with fail
      go_ret
      exact ⟨rfl, HB7.out⟩

end Go.Proofs.YtkipjalfgdfaiaaGreatDoor
namespace Go.Proofs.YtkipjalfgdfaiaaGreatDoor
set_option linter.unusedVariables false
set_option linter.unusedSimpArgs false
open Go.ChangeShapes Go.WideShapes Go.ChangeAt Go.RowKit

theorem maxIs_of {w : World} (h : w.ShapedOpen Tryz.prog) : ∃ m, MaxIs w m :=
  cell_of_shapedOpen_int (g := 2) (zero := #[.int .i64 0]) (t := 3) (k := .i64) h (of_decide_eq_true (by kernel_rfl)) (by kernel_rfl) rfl (by kernel_rfl) (by kernel_rfl) Tryz.underlying3

theorem witness_row_zip {H : Type} {enc : TypeId × Value → H} {C : Checked} {os : Os} {f : FuncId} {fn : Func} {s : OpenSpec} {conds : List PathCond} {apart : Bool} {laid : List (String × DataW Unit)} (w0 : World) (args : Array Value) (hos : w0.os = os)
    (hsh : (w0.forCall (fun _ _ => 0) ⟨#[], args, []⟩).Shaped C.prog)
    (hok : Input.okWideB C.prog (w0.forCall (fun _ _ => 0) ⟨#[], args, []⟩) f ⟨#[], args, []⟩ = true)
    (hrow : s.preRow enc C.prog fn conds apart laid (w0.forCall (fun _ _ => 0) ⟨#[], args, []⟩).memory args) :
    ∃ (w : World) (tape : Tape) (i : Input), w.os = os ∧ (w.forCall tape i).Shaped C.prog ∧ i.vars = [] ∧ Input.okWide C.prog (w.forCall tape i) .any w.heap.size f i ∧
      s.preRow enc C.prog fn conds apart laid (w.forCall tape i).memory i.args ∧ ({} : Assume).holds C.prog (lone (Frame.enter C.prog f i.args .normal) [] (w.forCall tape i)) :=
  ⟨w0, fun _ _ => 0, ⟨#[], args, []⟩, hos, hsh, rfl, (Input.okWide_of_okWideB (base := w0.heap.size) hok).2, hrow, by
    simp only [Assume.holds]
    exact ⟨by simp, by simp, fun _ => Modest.zero, by simp, by simp⟩⟩

theorem bulk_one {H : Type} (d : DataW H) : 1 ≤ Rows.uptoBulk d := by
  cases d with
  | lit l => cases l <;> simp [Rows.uptoBulk]
  | nil => exact Nat.le_refl _
  | held h => exact Nat.le_refl _
  | _ => simp only [Rows.uptoBulk]; omega
theorem bulk_len {H : Type} : ∀ l : List (DataW H), l.length ≤ Rows.uptoBulkAll l
  | [] => Nat.zero_le _
  | d :: r => by
    have h1 := bulk_one d
    have h2 := bulk_len r
    simp only [Rows.uptoBulkAll, List.length_cons]
    omega
end Go.Proofs.YtkipjalfgdfaiaaGreatDoor
namespace Go.Proofs.YtkipjalfgdfaiaaGreatDoor
set_option linter.unusedVariables false
set_option linter.unusedSimpArgs false
open Go.ChangeShapes Go.WideShapes Go.ChangeAt Go.RowKit

theorem iface_of_reads {P : Program} {w : World} {n : String} {d : DataW Unit} {g : Nat} {t : TypeId} (h : Lib.VarReads P w n d) (hg : P.globalNamed n = some g) (ht : (P.globals[g]?).map (·.type) = some t) (hu : ∃ i, P.underlying t = some (.interface i)) :
    ∃ ev, w.cell? ⟨g, 0, none⟩ = some ev ∧ (ev = .nilIface ∨ ∃ te pe, ev = .iface te pe) := by
  obtain ⟨g', t', cs, fuel, p, hg', ht', hv, htr⟩ := h
  obtain rfl := Option.some.inj (hg.symm.trans hg')
  obtain rfl := Option.some.inj (ht.symm.trans ht')
  have hc := World.var?_cell hg hv 0
  obtain ⟨i, hu⟩ := hu
  obtain ⟨l⟩ := cs
  cases fuel with
  | zero => simp [DataW.trod] at htr
  | succ fuel =>
    unfold DataW.trod at htr
    rw [hu] at htr
    match l, htr with
    | [.nilIface], _ => exact ⟨.nilIface, hc, .inl rfl⟩
    | [.iface u v], _ => exact ⟨.iface u v, hc, .inr ⟨u, v, rfl⟩⟩

theorem vars_of {w : World} {l : List (String × DataW Unit)} (hl : laidMet Tryz.prog l w) {d : DataW Unit} (hm : ("strconv.ErrSyntax", d) ∈ l) (hs : w.ShapedOpen Tryz.prog) : ∃ m, Vars w.heap.size w m := by
  obtain ⟨m, hmx⟩ := maxIs_of hs
  obtain ⟨ev, hev, he⟩ := iface_of_reads (Lib.laidMet.reads hl hm) (g := 7) (t := 90) (by kernel_rfl) (by kernel_rfl) ⟨_, Tryz.underlying90⟩
  exact ⟨m, hmx, ⟨ev, hev, he⟩, World.block_lt_of_cell? w _ hmx, World.block_lt_of_cell? w _ hev⟩

end Go.Proofs.YtkipjalfgdfaiaaGreatDoor
namespace Go.Proofs.YtkipjalfgdfaiaaGreatDoor
set_option linter.unusedVariables false
set_option linter.unusedSimpArgs false
open Go.ChangeShapes Go.WideShapes Go.ChangeAt Go.RowKit

theorem tab_of {w : World} {l : List (String × DataW Unit)} (hl : laidMet Tryz.prog l w) (hm : ("math/bits.deBruijn64tab", Rows.laid_math_bits_deBruijn64tab) ∈ l) : w.cell? ⟨6, 15, none⟩ = some (.int .u8 4) := by
  obtain ⟨g', t', cs, fuel, p, hg', ht', hv, htr⟩ := Lib.laidMet.reads hl hm
  obtain rfl := Option.some.inj ((show Tryz.prog.globalNamed "math/bits.deBruijn64tab" = some 6 by kernel_rfl).symm.trans hg')
  obtain rfl := Option.some.inj ((show (Tryz.prog.globals[6]?).map (·.type) = some 202 by kernel_rfl).symm.trans ht')
  have hc := World.var?_cell hg' hv 15
  have h := Lib.cells_of_tab (zs := [0, 1, 56, 2, 57, 49, 28, 3, 61, 58, 42, 50, 38, 29, 17, 4, 62, 47, 59, 36, 45, 43, 51, 22, 53, 39, 33, 30, 24, 18, 12, 5, 63, 55, 48, 27, 60, 41, 37, 16, 46, 35, 44, 21, 52, 32, 23, 11, 54, 26, 40, 15, 34, 20, 31, 10, 25, 14, 19, 9, 13, 8, 7, 6]) (k := .u8) Tryz.underlying202 Tryz.underlying5 (by kernel_rfl) (by kernel_rfl) htr
  rw [hc]
  have h2 : cs[15]? = cs.toList[15]? := by simp
  rw [h2, h]
  rfl

end Go.Proofs.YtkipjalfgdfaiaaGreatDoor
namespace Go.Proofs.YtkipjalfgdfaiaaGreatDoor
set_option linter.unusedVariables false
set_option linter.unusedSimpArgs false
open Go.RowKit Go.Proofs.YtkipjalfgdfaiaaGreatDoorW.PrintWords

theorem rd_cells {α : Type} {kd : Kd α} (enc : α → List Value) (hk : ∀ w x, kd.K w x (enc x)) {w : World} {a : Addr} {l : List α} {n c : Nat} (hn : l.length = n) (hl : n ≤ c) (hm : n ≤ 9223372036854775807)
    (hc : ∀ j (hj : j < l.length) i u, (enc l[j])[i]? = some u → w.cell? (a.add (j * kd.sz + i)) = some u) : RdS kd w (.slice (some a) n c) l := by
  subst hn
  refine ⟨some a, c, rfl, hl, rfl, hm, fun _ => ⟨a, rfl, fun j p hj => ⟨enc p, kd.K_len (hk w p), hk w p, fun i u hu => ?_⟩⟩⟩
  obtain ⟨hlt, rfl⟩ := List.getElem?_eq_some_iff.1 hj
  exact hc j hlt i u hu
end Go.Proofs.YtkipjalfgdfaiaaGreatDoor
namespace Go.Proofs.YtkipjalfgdfaiaaGreatDoor
set_option linter.unusedVariables false
set_option linter.unusedSimpArgs false
open Go.ChangeShapes Go.WideShapes Go.ChangeAt Go.RowKit Go.Proofs.YtkipjalfgdfaiaaGreatDoorW.PrintWords

variable {H : Type} {enc : TypeId × Value → H} {W : World}
theorem bulk_lt {H : Type} (elems spare : List (DataW H)) : elems.length < Rows.uptoBulk (.slice elems spare) := by
  have h := bulk_len elems
  simp only [Rows.uptoBulk]
  omega
end Go.Proofs.YtkipjalfgdfaiaaGreatDoor
namespace Go.Proofs.YtkipjalfgdfaiaaGreatDoor
set_option linter.unusedVariables false
set_option linter.unusedSimpArgs false
open Go.ChangeShapes Go.WideShapes Go.ChangeAt Go.RowKit Go.Proofs.YtkipjalfgdfaiaaGreatDoorW.PrintWords

variable {H : Type} {enc : TypeId × Value → H} {W : World}
set_option maxRecDepth 100000 in
theorem trod_nums {fuel : Nat} {cs : List Value} {x : DataW H × List MemPlace} (h : DataW.trod enc Tryz.prog W 0 (fun _ => true) true fuel 50 cs = some x) :
    ∃ a len cap, ∃ l : List Int, cs = [.slice a len cap] ∧ l.length = len ∧ len ≤ cap ∧ Kd.C (Kd.int .i64) W a len l ∧ l.length < Rows.uptoBulk x.1 := by
  rcases open_ints Tryz.underlying50 Tryz.underlying3 (by kernel_rfl) h with ⟨hcs, _⟩ | ⟨a, len, cap, ss, hcs, _, hl, hm, hss, hd, hc, hwf⟩
  · exact ⟨none, 0, 0, [], hcs, rfl, Nat.le_refl _, Kd.C_nil _ _, by have := bulk_one x.1; show 0 < _; omega⟩
  · have hsl : len ≤ ss.length := by rw [hss]; split <;> omega
    have hlen : (ss.take len).length = len := by rw [List.length_take]; omega
    have hr : RdS (Kd.int .i64) W (.slice (some a) len cap) (ss.take len) := by
      refine rd_cells (kd := Kd.int .i64) (fun s => [.int .i64 s]) (fun _ _ => rfl) hlen hl (Nat.le_trans hl (by simpa [maxLen] using hm)) (fun j hj i u hu => ?_)
      have hj2 : j < ss.length := by omega
      have hz : (Kd.int .i64).sz = 1 := rfl
      rw [hz, Nat.mul_one]
      match i, hu with
      | 0, hu =>
        cases hu
        have h := hc j hj2
        simpa [hj2] using h
    obtain ⟨A, c', e, h1, h2⟩ := hr
    rw [hlen] at e h2
    cases e
    refine ⟨some a, len, cap, ss.take len, hcs, hlen, hl, h2, ?_⟩
    · rw [hd]
      have h := bulk_lt (H := H) (lits .i64 (ss.take len)) (lits .i64 (ss.drop len))
      have hl2 : (lits .i64 (ss.take len) : List (DataW H)).length = (ss.take len).length := by simp [lits]
      rw [← hl2]
      exact h
set_option maxRecDepth 100000 in
theorem open_In {a : Option Addr} {len cap : Nat} {d : DataW H} {ps : List MemPlace}
    (h : DataW.Trod enc Tryz.prog W 0 (fun _ => true) true 50 (.slice a len cap) d ps) : ∃ l : List Int, l.length = len ∧ len ≤ cap ∧ Kd.C (Kd.int .i64) W a len l ∧ l.length < Rows.uptoBulk d := by
  obtain ⟨fuel, hf⟩ := h
  obtain ⟨a', len', cap', l, e, hl, hc, hC, hb⟩ := trod_nums hf
  have e2 : a = a' ∧ len = len' ∧ cap = cap' := by simpa [Value.cells] using e
  obtain ⟨rfl, rfl, rfl⟩ := e2
  exact ⟨l, hl, hc, hC, hb⟩

end Go.Proofs.YtkipjalfgdfaiaaGreatDoor
namespace Go.Proofs.YtkipjalfgdfaiaaGreatDoor.tokenJoins
open Go.ChangeShapes Go.WideShapes Go.ChangeAt Go.RowKit
open Go.ChangeMaps (open_string shut_string)
set_option linter.unusedVariables false
set_option linter.unusedSimpArgs false
theorem own : ownKnob Tryz.prog.godebug = none := by kernel_rfl
theorem laidOut_ : laidOutB Tryz.prog = true := by kernel_rfl
theorem laid_met (os : Os) : laidMet Tryz.prog Rows.tokenJoinsRow.laid ((World.laidAll Tryz.prog os Rows.tokenJoinsRow.laid).forCall (fun _ _ => 0) ⟨#[], #[.slice none 0 0, .slice none 0 0], []⟩).memory :=
  laidMet_laidAll _ (by kernel_rfl) (by kernel_rfl)
theorem reads (os : Os) {H : Type} (enc : TypeId × Value → H) : ∃ places, DataW.whole enc Tryz.prog ((World.laidAll Tryz.prog os Rows.tokenJoinsRow.laid).forCall (fun _ _ => 0) ⟨#[], #[.slice none 0 0, .slice none 0 0], []⟩).memory Tryz.f11.params.toList Rows.tokenJoinsSpec.vars false (#[.slice none 0 0, .slice none 0 0] : Array Value).toList 8 = some ([.nil, .nil], [], places) :=
  ⟨[], by kernel_rfl⟩
set_option maxRecDepth 100000 in
theorem lifted (os : Os) (started : os.Started) (H : Type) (enc : TypeId × Value → H) (F : Stop.Interp) :
    ReturnsInHanded {} Tryz.checked os 11 .any ((OpenSpec.ofChange Rows.tokenJoinsSpec).preRow enc Tryz.prog Tryz.f11 Rows.tokenJoinsRow.domain false Rows.tokenJoinsRow.laid) (((OpenSpec.ofChange Rows.tokenJoinsSpec).at F).post enc Tryz.prog Tryz.f11 false true false false) := by
  obtain ⟨places, hx⟩ := reads os enc
  refine returnsInHanded_of_row (C := Tryz.checked) (s := OpenSpec.ofChange Rows.tokenJoinsSpec) own started (by kernel_rfl) Tryz.func11
    (witness_row_zip (enc := enc) (C := Tryz.checked) (World.laidAll Tryz.prog os Rows.tokenJoinsRow.laid) #[.slice none 0 0, .slice none 0 0] (World.laidAll_os _ _ _) (World.shaped_of_ZipB (by kernel_rfl) (by kernel_rfl)) (by kernel_rfl)
      (OpenSpec.preRow_of_cond 8 hx (by kernel_rfl) (fun k hk => by cases hk) (by kernel_rfl) (laid_met os))) ?_
  intro W base args ds gs before hval0 hW _ hk0 hz0 hlaid hS _
  obtain ⟨m, hm⟩ := vars_of hlaid (by repeat (first | exact List.Mem.head _ | apply List.Mem.tail)) hS
  have hval : ∀ (j : Nat) t v, Tryz.f11.params[j]? = some t → args[j]? = some v → Value.okWide Tryz.prog W .any base t v := hval0
  have hW' := hW
  obtain ⟨p, q, hA0, hV, rfl, hfz, hnd⟩ := hW
  have hA : DataW.TrodAll enc Tryz.prog W 0 (fun _ => true) true Tryz.f11.params.toList args.toList ds p := hA0
  rw [Tryz.params11] at hA hval
  obtain ⟨v0, vs0, d0, ds0, p0, q0, hargs, rfl, rfl, h0, r0⟩ := trodAll_cons hA
  obtain ⟨v1, vs1, d1, ds1, p1, q1, rfl, rfl, rfl, h1, r1⟩ := trodAll_cons r0
  obtain ⟨rfl, rfl, rfl⟩ := trodAll_nil r1
  obtain rfl : args = #[v0, v1] := by cases args; simp_all
  obtain ⟨rfl, rfl⟩ := trodVars_none hV
  obtain ⟨a0, len0, cap0, rfl⟩ := okWide_slice Tryz.underlying50 (hval 0 50 v0 rfl rfl)
  have k0 := h0
  have lt0 : ∀ x ∈ p0, x.block < W.heap.size := by obtain ⟨m, hm⟩ := k0; exact DataW.trod_lt m _ _ _ hm
  obtain ⟨l0, e0, c0, w0, b0⟩ := open_In h0
  subst e0
  obtain ⟨a1, len1, cap1, rfl⟩ := okWide_slice Tryz.underlying50 (hval 1 50 v1 rfl rfl)
  have k1 := h1
  have lt1 : ∀ x ∈ p1, x.block < W.heap.size := by obtain ⟨m, hm⟩ := k1; exact DataW.trod_lt m _ _ _ hm
  obtain ⟨l1, e1, c1, w1, b1⟩ := open_In h1
  subst e1
  clear hA0 hval0 hz0
  refine (TokenJoins_walk W a0 cap0 l0 a1 cap1 l1 w0 c0 w1 c1 m hm (tab_of hlaid (by repeat (first | exact List.Mem.head _ | apply List.Mem.tail)))).mono fun e W' ⟨he, bel⟩ => ?_
  subst he
  exact ⟨_, rfl, _, _, _, [], _, [], hW', trodAll_mk1 (shut_bool Tryz.underlying4 _), (trodAll_cons_mk (Below.trod laidOut_ (by kernel_rfl) (of_decide_eq_true (by kernel_rfl)) k0 bel lt0) (trodAll_cons_mk (Below.trod laidOut_ (by kernel_rfl) (of_decide_eq_true (by kernel_rfl)) k1 bel lt1) trodAll_mk0)), rfl, bel.frame _, fun h => by cases h⟩
theorem said : Rows.TokenJoinsSaid :=
  OpenClaim.holds_of_cond 11 Tryz.f11 rfl rfl rfl rfl rfl rfl rfl ⟨rfl, rfl, rfl, rfl, rfl⟩ rfl rfl rfl rfl rfl (by kernel_rfl) Tryz.func11 (by kernel_rfl)
    (of_decide_eq_true (by kernel_rfl)) (by unfold Func.isWrapper; first | (rw [if_pos (by decide +kernel)]; kernel_rfl) | (rw [if_neg (by decide +kernel)]; exact ⟨rfl, rfl⟩))
    (fun os started H enc _ F => by rw [OpenClaim.pre_eq_preRow]; exact lifted os started H enc F)
theorem plain (f : FuncId) (fn : Func) (hf : Tryz.pinned.checked.prog.funcNamed Rows.tokenJoinsRow.func = some f) (hfn : Tryz.pinned.checked.prog.funcs[f]? = some fn) :
    true = Tryz.pinned.checked.prog.looks [] ∧ ∀ (j : Nat) t, fn.params[j]? = some t → Tryz.pinned.checked.prog.wantsStandIn t = false := by
  obtain rfl : f = 11 := Option.some.inj ((show Tryz.prog.funcNamed Rows.tokenJoinsRow.func = some 11 by kernel_rfl).symm.trans hf) |>.symm
  obtain rfl : fn = Tryz.f11 := (Option.some.inj (Tryz.func11.symm.trans hfn)).symm
  refine ⟨by kernel_rfl, fun j t ht => ?_⟩
  rw [Tryz.params11] at ht
  have hm : t ∈ [50, 50] := by simpa using Array.mem_of_getElem? ht
  have hall : ([50, 50].all fun u => !Tryz.prog.wantsStandIn u) = true := by kernel_rfl
  exact (show Tryz.prog.wantsStandIn t = false by simpa using List.all_eq_true.1 hall t hm)
end Go.Proofs.YtkipjalfgdfaiaaGreatDoor.tokenJoins
namespace Go.Proofs.YtkipjalfgdfaiaaGreatDoor
theorem tokenJoins_holds : Rows.TokenJoinsCardSaid :=
  Claim7.holds_tied_plain_at .later [] _ _ _ _ tokenJoins.said (fun _ h => by cases h) (by kernel_rfl) (fun _ h => by cases h) tokenJoins_row_tie rfl ⟨rfl, rfl⟩ (by kernel_rfl) rfl tokenJoins.plain (by kernel_rfl)
end Go.Proofs.YtkipjalfgdfaiaaGreatDoor
namespace Go.Proofs.YtkipjalfgdfaiaaGreatDoor
#print axioms tokenJoins_holds
end Go.Proofs.YtkipjalfgdfaiaaGreatDoor
