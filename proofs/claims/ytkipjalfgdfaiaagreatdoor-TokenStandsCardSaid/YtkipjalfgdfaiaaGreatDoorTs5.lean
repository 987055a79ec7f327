/- TkRC, TkRD, TkRE, TkRF, TkG, TokenStandsW, LnM, TkH, Rd, TkOp, TokenStands. -/
import Derived.Recover
import Derived.Defers
import Derived.Lib.SlBytesConst
import Derived.Test.YtkipjalfgdfaiaaGreatDoorRows
import Derived.Shelf.Vars
import Derived.Deep.DeepHandedRow
import Derived.Lay
import Derived.Lib.LaidU8
import Derived.ChangeSlices
import Derived.Deep.SlicePairs
import Derived.SliceStrings
import Derived.ChangeSame
import Derived.Test.YtkipjalfgdfaiaaGreatDoorCards
import Derived.Test.YtkipjalfgdfaiaaGreatDoorTie
import Derived.WalkKit
import Derived.ProofKit
import Derived.OpenShut
import Derived.ShutString
import Derived.ChangeOld
import Derived.Below
import Derived.SizedLaws
import Derived.SevenTiedAt
import Derived.Test.YtkipjalfgdfaiaaGreatDoorTs4
namespace Go.Proofs.YtkipjalfgdfaiaaGreatDoor
set_option linter.unusedVariables false
set_option linter.unusedSimpArgs false
open Go.RowKit Go.Proofs.YtkipjalfgdfaiaaGreatDoorW.PrintWords Go.Proofs.YtkipjalfgdfaiaaGreatDoorW.PrintLast Go.Proofs.YtkipjalfgdfaiaaGreatDoorW.PrintMore Go.Proofs.YtkipjalfgdfaiaaGreatDoor.PTk

section
variable {W0 w : World} {m : Int} {base g h : Nat} {A : Option Addr} {c : Nat} {p : List Int} {st ne k : Nat} {t : Tk}
set_option maxHeartbeats 8000000 in
set_option maxRecDepth 100000 in
theorem oth_bytes (b : ByteArray) (hal : AliasIs b) (S : St W0 m base g h A c p st ne t k w) (hst : t.st = st) (hk : st ≤ k) (hkl : k < p.length) (x : Int × Nat) (hc : charL p k = .error x) :
    Calls Tryz.prog 53 #[.pointer (some ⟨g, 0, none⟩), .pointer (some ⟨h, 0, none⟩)] w (RT W0 g h (fun t k w' => St W0 m base g h A c p st ne t k w') (otherL (resolveL (rowsB b)) p ne k t)) := by
  have HS0 := Aside0.mk S
  have HL : Aside0 (otherL (resolveL (rowsB b)) p ne k t = .error x) := ⟨by unfold otherL; rw [hc, thenF_err]⟩
  have HC := Aside0.mk hc
  clear S hst hk hc
  go_enter Tryz.func53, Tryz.ntmps53
  go_wp2_with fail
  refine (sChar HS0.out hkl).mono ?_
  intro e w1 hr
  rw [HC.out] at hr
  obtain ⟨rfl, hB⟩ := hr
  have HBE := Aside0.mk hB
  clear hB
  go_wp2
  rw [HL.out]
  exact ⟨rfl, rfl, HBE.out⟩
set_option maxHeartbeats 8000000 in
set_option maxRecDepth 100000 in
theorem oth_esc (b : ByteArray) (hal : AliasIs b) (S : St W0 m base g h A c p st ne t k w) (hst : t.st = st) (hk : st ≤ k) (hkl : k < p.length) (k1 : Nat) (hc : charL p k = .ok (92, k1)) :
    Calls Tryz.prog 53 #[.pointer (some ⟨g, 0, none⟩), .pointer (some ⟨h, 0, none⟩)] w (RT W0 g h (fun t k w' => St W0 m base g h A c p st ne t k w') (otherL (resolveL (rowsB b)) p ne k t)) := by
  have HS0 := Aside0.mk S
  have hgh := S.hn
  have hgh2 := Ne.symm S.hn
  obtain ⟨nb, -, hk1, hn1, hn2⟩ := char_ok hc
  have hsk1 : st ≤ k1 := by omega
  have HSK := Aside0.mk hsk1
  have HST := Aside0.mk hst
  have HAL := Aside0.mk hal
  have HPR := Aside0.mk S.sv.rng
  have HL : Aside0 (otherL (resolveL (rowsB b)) p ne k t = escapeL (resolveL (rowsB b)) p ne k1 t) := ⟨by unfold otherL; rw [hc, thenF_ok]; show othL (resolveL (rowsB b)) p ne 92 k1 t = _; unfold othL; rw [if_pos rfl]⟩
  have HC := Aside0.mk hc
  clear S hst hk hc hk1 hn1 hn2 hsk1 hal
  go_enter Tryz.func53, Tryz.ntmps53
  go_wp2_with fail
  refine (sChar HS0.out hkl).mono ?_
  intro e w1 hr
  rw [HC.out] at hr
  obtain ⟨rfl, hS⟩ := hr
  have HS1 := Aside0.mk hS
  clear hS
  have fc1_0 := HS1.out.cell 0 _ rfl
  have fr1_0 := HS1.out.free 0
  have fc1_1 := HS1.out.cell 1 _ rfl
  have fr1_1 := HS1.out.free 1
  have fc1_2 := HS1.out.cell 2 _ rfl
  have fr1_2 := HS1.out.free 2
  have ce1_0 := HS1.out.nest
  go_wp2_with fail
  refine (escape_any b HAL.out HS1.out HST.out HSK.out HPR.out).mono ?_
  intro e w2 hr
  obtain ⟨X, hX⟩ : ∃ X, escapeL (resolveL (rowsB b)) p ne k1 t = X := ⟨_, rfl⟩
  rw [hX] at hr
  rw [hX] at HL
  clear hX
  cases X with
  | error x =>
    obtain ⟨rfl, hB⟩ := hr
    have HBE := Aside0.mk hB
    clear hB
    go_wp2
    rw [HL.out]
    exact ⟨rfl, rfl, HBE.out⟩
  | ok x =>
    obtain ⟨rfl, hS⟩ := hr
    have HS2 := Aside0.mk hS
    clear hS
    go_wp2
    go_end0
    rw [HL.out]
    exact ⟨rfl, HS2.out⟩
set_option maxHeartbeats 8000000 in
set_option maxRecDepth 100000 in
theorem oth_in (b : ByteArray) (hal : AliasIs b) (S : St W0 m base g h A c p st ne t k w) (hst : t.st = st) (hk : st ≤ k) (hkl : k < p.length) (ch : Int) (k1 : Nat) (hc : charL p k = .ok (ch, k1)) (n92 : ch ≠ 92) (hne : ne ≠ 0) :
    Calls Tryz.prog 53 #[.pointer (some ⟨g, 0, none⟩), .pointer (some ⟨h, 0, none⟩)] w (RT W0 g h (fun t k w' => St W0 m base g h A c p st ne t k w') (otherL (resolveL (rowsB b)) p ne k t)) := by
  have HS0 := Aside0.mk S
  have hgh := S.hn
  have hgh2 := Ne.symm S.hn
  obtain ⟨nb, -, hk1, hn1, hn2⟩ := char_ok hc
  have hsk1 : st ≤ k1 := by omega
  have HSK := Aside0.mk hsk1
  have HST := Aside0.mk hst
  have HAL := Aside0.mk hal
  have HPR := Aside0.mk S.sv.rng
  have HL : Aside0 (otherL (resolveL (rowsB b)) p ne k t = .ok ({ t with kind := 1, a := ch }, k1)) := ⟨by unfold otherL; rw [hc, thenF_ok]; show othL (resolveL (rowsB b)) p ne ch k1 t = _; unfold othL; rw [if_neg n92, if_pos hne]⟩
  have HC := Aside0.mk hc
  have e92 : (ch == 92) = false := by rw [beq_eq_false_iff_ne]; exact n92
  have f92 : (92 == ch) = false := by rw [beq_eq_false_iff_ne]; exact fun e => n92 e.symm
  have hnd : decide (0 < ne) = true := decide_eq_true (by omega)
  clear S hst hk hc hk1 hn1 hn2 hsk1 hal n92 hne
  go_enter Tryz.func53, Tryz.ntmps53
  go_wp2_with fail
  refine (sChar HS0.out hkl).mono ?_
  intro e w1 hr
  rw [HC.out] at hr
  obtain ⟨rfl, hS⟩ := hr
  have HS1 := Aside0.mk hS
  clear hS
  have fc1_0 := HS1.out.cell 0 _ rfl
  have fr1_0 := HS1.out.free 0
  have fc1_1 := HS1.out.cell 1 _ rfl
  have fr1_1 := HS1.out.free 1
  have fc1_2 := HS1.out.cell 2 _ rfl
  have fr1_2 := HS1.out.free 2
  have ce1_0 := HS1.out.nest
  go_wp2
  go_end0
  rw [HL.out]
  exact ⟨rfl, ((HS1.out.setT 0 _ { t with kind := 1 } rfl).setT 2 _ { t with kind := 1, a := ch } rfl)⟩
set_option maxHeartbeats 8000000 in
set_option maxRecDepth 100000 in
theorem oth_out_dot (b : ByteArray) (hal : AliasIs b) (S : St W0 m base g h A c p st ne t k w) (hst : t.st = st) (hk : st ≤ k) (hkl : k < p.length) (k1 : Nat) (hc : charL p k = .ok (46, k1)) (h00 : ne = 0) :
    Calls Tryz.prog 53 #[.pointer (some ⟨g, 0, none⟩), .pointer (some ⟨h, 0, none⟩)] w (RT W0 g h (fun t k w' => St W0 m base g h A c p st ne t k w') (otherL (resolveL (rowsB b)) p ne k t)) := by
  have HS0 := Aside0.mk S
  have hgh := S.hn
  have hgh2 := Ne.symm S.hn
  obtain ⟨nb, -, hk1, hn1, hn2⟩ := char_ok hc
  have hsk1 : st ≤ k1 := by omega
  have HSK := Aside0.mk hsk1
  have HST := Aside0.mk hst
  have HAL := Aside0.mk hal
  have HPR := Aside0.mk S.sv.rng
  have HL : Aside0 (otherL (resolveL (rowsB b)) p ne k t = .ok ({ t with kind := 2 }, k1)) := ⟨by unfold otherL; rw [hc, thenF_ok]; show othL (resolveL (rowsB b)) p ne 46 k1 t = _; unfold othL; rw [if_neg (by decide), if_neg (fun q => q h00), if_pos rfl]⟩
  have HC := Aside0.mk hc
  subst h00
  clear S hst hk hc hk1 hn1 hn2 hsk1 hal
  go_enter Tryz.func53, Tryz.ntmps53
  go_wp2_with fail
  refine (sChar HS0.out hkl).mono ?_
  intro e w1 hr
  rw [HC.out] at hr
  obtain ⟨rfl, hS⟩ := hr
  have HS1 := Aside0.mk hS
  clear hS
  have fc1_0 := HS1.out.cell 0 _ rfl
  have fr1_0 := HS1.out.free 0
  have fc1_1 := HS1.out.cell 1 _ rfl
  have fr1_1 := HS1.out.free 1
  have fc1_2 := HS1.out.cell 2 _ rfl
  have fr1_2 := HS1.out.free 2
  have ce1_0 := HS1.out.nest
  go_wp2
  go_end0
  rw [HL.out]
  exact ⟨rfl, (HS1.out.setT 0 _ { t with kind := 2 } rfl)⟩
set_option maxHeartbeats 8000000 in
set_option maxRecDepth 100000 in
theorem oth_out_bar (b : ByteArray) (hal : AliasIs b) (S : St W0 m base g h A c p st ne t k w) (hst : t.st = st) (hk : st ≤ k) (hkl : k < p.length) (k1 : Nat) (hc : charL p k = .ok (124, k1)) (h00 : ne = 0) :
    Calls Tryz.prog 53 #[.pointer (some ⟨g, 0, none⟩), .pointer (some ⟨h, 0, none⟩)] w (RT W0 g h (fun t k w' => St W0 m base g h A c p st ne t k w') (otherL (resolveL (rowsB b)) p ne k t)) := by
  have HS0 := Aside0.mk S
  have hgh := S.hn
  have hgh2 := Ne.symm S.hn
  obtain ⟨nb, -, hk1, hn1, hn2⟩ := char_ok hc
  have hsk1 : st ≤ k1 := by omega
  have HSK := Aside0.mk hsk1
  have HST := Aside0.mk hst
  have HAL := Aside0.mk hal
  have HPR := Aside0.mk S.sv.rng
  have HL : Aside0 (otherL (resolveL (rowsB b)) p ne k t = .ok ({ t with kind := 5 }, k1)) := ⟨by unfold otherL; rw [hc, thenF_ok]; show othL (resolveL (rowsB b)) p ne 124 k1 t = _; unfold othL; rw [if_neg (by decide), if_neg (fun q => q h00), if_neg (by decide), if_pos rfl]⟩
  have HC := Aside0.mk hc
  subst h00
  clear S hst hk hc hk1 hn1 hn2 hsk1 hal
  go_enter Tryz.func53, Tryz.ntmps53
  go_wp2_with fail
  refine (sChar HS0.out hkl).mono ?_
  intro e w1 hr
  rw [HC.out] at hr
  obtain ⟨rfl, hS⟩ := hr
  have HS1 := Aside0.mk hS
  clear hS
  have fc1_0 := HS1.out.cell 0 _ rfl
  have fr1_0 := HS1.out.free 0
  have fc1_1 := HS1.out.cell 1 _ rfl
  have fr1_1 := HS1.out.free 1
  have fc1_2 := HS1.out.cell 2 _ rfl
  have fr1_2 := HS1.out.free 2
  have ce1_0 := HS1.out.nest
  go_wp2
  go_end0
  rw [HL.out]
  exact ⟨rfl, (HS1.out.setT 0 _ { t with kind := 5 } rfl)⟩
set_option maxHeartbeats 8000000 in
set_option maxRecDepth 100000 in
theorem oth_out_par (b : ByteArray) (hal : AliasIs b) (S : St W0 m base g h A c p st ne t k w) (hst : t.st = st) (hk : st ≤ k) (hkl : k < p.length) (k1 : Nat) (hc : charL p k = .ok (40, k1)) (h00 : ne = 0) :
    Calls Tryz.prog 53 #[.pointer (some ⟨g, 0, none⟩), .pointer (some ⟨h, 0, none⟩)] w (RT W0 g h (fun t k w' => St W0 m base g h A c p st ne t k w') (otherL (resolveL (rowsB b)) p ne k t)) := by
  have HS0 := Aside0.mk S
  have hgh := S.hn
  have hgh2 := Ne.symm S.hn
  obtain ⟨nb, -, hk1, hn1, hn2⟩ := char_ok hc
  have hsk1 : st ≤ k1 := by omega
  have HSK := Aside0.mk hsk1
  have HST := Aside0.mk hst
  have HAL := Aside0.mk hal
  have HPR := Aside0.mk S.sv.rng
  have HL : Aside0 (otherL (resolveL (rowsB b)) p ne k t = openL p k1 t) := ⟨by unfold otherL; rw [hc, thenF_ok]; show othL (resolveL (rowsB b)) p ne 40 k1 t = _; unfold othL; rw [if_neg (by decide), if_neg (fun q => q h00), if_neg (by decide), if_neg (by decide), if_pos rfl]⟩
  have HC := Aside0.mk hc
  subst h00
  clear S hst hk hc hk1 hn1 hn2 hsk1 hal
  go_enter Tryz.func53, Tryz.ntmps53
  go_wp2_with fail
  refine (sChar HS0.out hkl).mono ?_
  intro e w1 hr
  rw [HC.out] at hr
  obtain ⟨rfl, hS⟩ := hr
  have HS1 := Aside0.mk hS
  clear hS
  have fc1_0 := HS1.out.cell 0 _ rfl
  have fr1_0 := HS1.out.free 0
  have fc1_1 := HS1.out.cell 1 _ rfl
  have fr1_1 := HS1.out.free 1
  have fc1_2 := HS1.out.cell 2 _ rfl
  have fr1_2 := HS1.out.free 2
  have ce1_0 := HS1.out.nest
  go_wp2_with fail
  refine (open_any HS1.out HST.out HSK.out).mono ?_
  intro e w2 hr
  obtain ⟨X, hX⟩ : ∃ X, openL p k1 t = X := ⟨_, rfl⟩
  rw [hX] at hr
  rw [hX] at HL
  clear hX
  cases X with
  | error x =>
    obtain ⟨rfl, hB⟩ := hr
    have HBE := Aside0.mk hB
    clear hB
    go_wp2
    rw [HL.out]
    exact ⟨rfl, rfl, HBE.out⟩
  | ok x =>
    obtain ⟨rfl, hS⟩ := hr
    have HS2 := Aside0.mk hS
    clear hS
    go_wp2
    go_end0
    rw [HL.out]
    exact ⟨rfl, HS2.out⟩
set_option maxHeartbeats 8000000 in
set_option maxRecDepth 100000 in
theorem oth_out_close (b : ByteArray) (hal : AliasIs b) (S : St W0 m base g h A c p st ne t k w) (hst : t.st = st) (hk : st ≤ k) (hkl : k < p.length) (k1 : Nat) (hc : charL p k = .ok (41, k1)) (h00 : ne = 0) :
    Calls Tryz.prog 53 #[.pointer (some ⟨g, 0, none⟩), .pointer (some ⟨h, 0, none⟩)] w (RT W0 g h (fun t k w' => St W0 m base g h A c p st ne t k w') (otherL (resolveL (rowsB b)) p ne k t)) := by
  have HS0 := Aside0.mk S
  have hgh := S.hn
  have hgh2 := Ne.symm S.hn
  obtain ⟨nb, -, hk1, hn1, hn2⟩ := char_ok hc
  have hsk1 : st ≤ k1 := by omega
  have HSK := Aside0.mk hsk1
  have HST := Aside0.mk hst
  have HAL := Aside0.mk hal
  have HPR := Aside0.mk S.sv.rng
  have HL : Aside0 (otherL (resolveL (rowsB b)) p ne k t = .ok ({ t with kind := 4 }, k1)) := ⟨by unfold otherL; rw [hc, thenF_ok]; show othL (resolveL (rowsB b)) p ne 41 k1 t = _; unfold othL; rw [if_neg (by decide), if_neg (fun q => q h00), if_neg (by decide), if_neg (by decide), if_neg (by decide), if_pos rfl]⟩
  have HC := Aside0.mk hc
  subst h00
  clear S hst hk hc hk1 hn1 hn2 hsk1 hal
  go_enter Tryz.func53, Tryz.ntmps53
  go_wp2_with fail
  refine (sChar HS0.out hkl).mono ?_
  intro e w1 hr
  rw [HC.out] at hr
  obtain ⟨rfl, hS⟩ := hr
  have HS1 := Aside0.mk hS
  clear hS
  have fc1_0 := HS1.out.cell 0 _ rfl
  have fr1_0 := HS1.out.free 0
  have fc1_1 := HS1.out.cell 1 _ rfl
  have fr1_1 := HS1.out.free 1
  have fc1_2 := HS1.out.cell 2 _ rfl
  have fr1_2 := HS1.out.free 2
  have ce1_0 := HS1.out.nest
  go_wp2
  go_end0
  rw [HL.out]
  exact ⟨rfl, (HS1.out.setT 0 _ { t with kind := 4 } rfl)⟩
set_option maxHeartbeats 8000000 in
set_option maxRecDepth 100000 in
theorem oth_out_hat (b : ByteArray) (hal : AliasIs b) (S : St W0 m base g h A c p st ne t k w) (hst : t.st = st) (hk : st ≤ k) (hkl : k < p.length) (k1 : Nat) (hc : charL p k = .ok (94, k1)) (h00 : ne = 0) :
    Calls Tryz.prog 53 #[.pointer (some ⟨g, 0, none⟩), .pointer (some ⟨h, 0, none⟩)] w (RT W0 g h (fun t k w' => St W0 m base g h A c p st ne t k w') (otherL (resolveL (rowsB b)) p ne k t)) := by
  have HS0 := Aside0.mk S
  have hgh := S.hn
  have hgh2 := Ne.symm S.hn
  obtain ⟨nb, -, hk1, hn1, hn2⟩ := char_ok hc
  have hsk1 : st ≤ k1 := by omega
  have HSK := Aside0.mk hsk1
  have HST := Aside0.mk hst
  have HAL := Aside0.mk hal
  have HPR := Aside0.mk S.sv.rng
  have HL : Aside0 (otherL (resolveL (rowsB b)) p ne k t = .ok ({ t with kind := 7, mode := 1 }, k1)) := ⟨by unfold otherL; rw [hc, thenF_ok]; show othL (resolveL (rowsB b)) p ne 94 k1 t = _; unfold othL; rw [if_neg (by decide), if_neg (fun q => q h00), if_neg (by decide), if_neg (by decide), if_neg (by decide), if_neg (by decide), if_pos rfl]⟩
  have HC := Aside0.mk hc
  subst h00
  clear S hst hk hc hk1 hn1 hn2 hsk1 hal
  go_enter Tryz.func53, Tryz.ntmps53
  go_wp2_with fail
  refine (sChar HS0.out hkl).mono ?_
  intro e w1 hr
  rw [HC.out] at hr
  obtain ⟨rfl, hS⟩ := hr
  have HS1 := Aside0.mk hS
  clear hS
  have fc1_0 := HS1.out.cell 0 _ rfl
  have fr1_0 := HS1.out.free 0
  have fc1_1 := HS1.out.cell 1 _ rfl
  have fr1_1 := HS1.out.free 1
  have fc1_2 := HS1.out.cell 2 _ rfl
  have fr1_2 := HS1.out.free 2
  have ce1_0 := HS1.out.nest
  go_wp2
  go_end0
  rw [HL.out]
  exact ⟨rfl, ((HS1.out.setT 0 _ { t with kind := 7 } rfl).setT 1 _ { t with kind := 7, mode := 1 } rfl)⟩
set_option maxHeartbeats 8000000 in
set_option maxRecDepth 100000 in
theorem oth_out_dollar (b : ByteArray) (hal : AliasIs b) (S : St W0 m base g h A c p st ne t k w) (hst : t.st = st) (hk : st ≤ k) (hkl : k < p.length) (k1 : Nat) (hc : charL p k = .ok (36, k1)) (h00 : ne = 0) :
    Calls Tryz.prog 53 #[.pointer (some ⟨g, 0, none⟩), .pointer (some ⟨h, 0, none⟩)] w (RT W0 g h (fun t k w' => St W0 m base g h A c p st ne t k w') (otherL (resolveL (rowsB b)) p ne k t)) := by
  have HS0 := Aside0.mk S
  have hgh := S.hn
  have hgh2 := Ne.symm S.hn
  obtain ⟨nb, -, hk1, hn1, hn2⟩ := char_ok hc
  have hsk1 : st ≤ k1 := by omega
  have HSK := Aside0.mk hsk1
  have HST := Aside0.mk hst
  have HAL := Aside0.mk hal
  have HPR := Aside0.mk S.sv.rng
  have HL : Aside0 (otherL (resolveL (rowsB b)) p ne k t = .ok ({ t with kind := 7, mode := 2 }, k1)) := ⟨by unfold otherL; rw [hc, thenF_ok]; show othL (resolveL (rowsB b)) p ne 36 k1 t = _; unfold othL; rw [if_neg (by decide), if_neg (fun q => q h00), if_neg (by decide), if_neg (by decide), if_neg (by decide), if_neg (by decide), if_neg (by decide), if_pos rfl]⟩
  have HC := Aside0.mk hc
  subst h00
  clear S hst hk hc hk1 hn1 hn2 hsk1 hal
  go_enter Tryz.func53, Tryz.ntmps53
  go_wp2_with fail
  refine (sChar HS0.out hkl).mono ?_
  intro e w1 hr
  rw [HC.out] at hr
  obtain ⟨rfl, hS⟩ := hr
  have HS1 := Aside0.mk hS
  clear hS
  have fc1_0 := HS1.out.cell 0 _ rfl
  have fr1_0 := HS1.out.free 0
  have fc1_1 := HS1.out.cell 1 _ rfl
  have fr1_1 := HS1.out.free 1
  have fc1_2 := HS1.out.cell 2 _ rfl
  have fr1_2 := HS1.out.free 2
  have ce1_0 := HS1.out.nest
  go_wp2
  go_end0
  rw [HL.out]
  exact ⟨rfl, ((HS1.out.setT 0 _ { t with kind := 7 } rfl).setT 1 _ { t with kind := 7, mode := 2 } rfl)⟩
set_option maxHeartbeats 8000000 in
set_option maxRecDepth 100000 in
theorem oth_out_star (b : ByteArray) (hal : AliasIs b) (S : St W0 m base g h A c p st ne t k w) (hst : t.st = st) (hk : st ≤ k) (hkl : k < p.length) (k1 : Nat) (hc : charL p k = .ok (42, k1)) (h00 : ne = 0) :
    Calls Tryz.prog 53 #[.pointer (some ⟨g, 0, none⟩), .pointer (some ⟨h, 0, none⟩)] w (RT W0 g h (fun t k w' => St W0 m base g h A c p st ne t k w') (otherL (resolveL (rowsB b)) p ne k t)) := by
  have HS0 := Aside0.mk S
  have hgh := S.hn
  have hgh2 := Ne.symm S.hn
  obtain ⟨nb, -, hk1, hn1, hn2⟩ := char_ok hc
  have hsk1 : st ≤ k1 := by omega
  have HSK := Aside0.mk hsk1
  have HST := Aside0.mk hst
  have HAL := Aside0.mk hal
  have HPR := Aside0.mk S.sv.rng
  have HL : Aside0 (otherL (resolveL (rowsB b)) p ne k t = repeatL p k1 t 42) := ⟨by unfold otherL; rw [hc, thenF_ok]; show othL (resolveL (rowsB b)) p ne 42 k1 t = _; unfold othL; rw [if_neg (by decide), if_neg (fun q => q h00), if_neg (by decide), if_neg (by decide), if_neg (by decide), if_neg (by decide), if_neg (by decide), if_neg (by decide), if_pos (by decide)]⟩
  have HC := Aside0.mk hc
  subst h00
  clear S hst hk hc hk1 hn1 hn2 hsk1 hal
  go_enter Tryz.func53, Tryz.ntmps53
  go_wp2_with fail
  refine (sChar HS0.out hkl).mono ?_
  intro e w1 hr
  rw [HC.out] at hr
  obtain ⟨rfl, hS⟩ := hr
  have HS1 := Aside0.mk hS
  clear hS
  have fc1_0 := HS1.out.cell 0 _ rfl
  have fr1_0 := HS1.out.free 0
  have fc1_1 := HS1.out.cell 1 _ rfl
  have fr1_1 := HS1.out.free 1
  have fc1_2 := HS1.out.cell 2 _ rfl
  have fr1_2 := HS1.out.free 2
  have ce1_0 := HS1.out.nest
  go_wp2_with fail
  refine (repeat_any HS1.out HST.out HSK.out 42).mono ?_
  intro e w2 hr
  obtain ⟨X, hX⟩ : ∃ X, repeatL p k1 t 42 = X := ⟨_, rfl⟩
  rw [hX] at hr
  rw [hX] at HL
  clear hX
  cases X with
  | error x =>
    obtain ⟨rfl, hB⟩ := hr
    have HBE := Aside0.mk hB
    clear hB
    go_wp2
    rw [HL.out]
    exact ⟨rfl, rfl, HBE.out⟩
  | ok x =>
    obtain ⟨rfl, hS⟩ := hr
    have HS2 := Aside0.mk hS
    clear hS
    go_wp2
    go_end0
    rw [HL.out]
    exact ⟨rfl, HS2.out⟩
set_option maxHeartbeats 8000000 in
set_option maxRecDepth 100000 in
theorem oth_out_plus (b : ByteArray) (hal : AliasIs b) (S : St W0 m base g h A c p st ne t k w) (hst : t.st = st) (hk : st ≤ k) (hkl : k < p.length) (k1 : Nat) (hc : charL p k = .ok (43, k1)) (h00 : ne = 0) :
    Calls Tryz.prog 53 #[.pointer (some ⟨g, 0, none⟩), .pointer (some ⟨h, 0, none⟩)] w (RT W0 g h (fun t k w' => St W0 m base g h A c p st ne t k w') (otherL (resolveL (rowsB b)) p ne k t)) := by
  have HS0 := Aside0.mk S
  have hgh := S.hn
  have hgh2 := Ne.symm S.hn
  obtain ⟨nb, -, hk1, hn1, hn2⟩ := char_ok hc
  have hsk1 : st ≤ k1 := by omega
  have HSK := Aside0.mk hsk1
  have HST := Aside0.mk hst
  have HAL := Aside0.mk hal
  have HPR := Aside0.mk S.sv.rng
  have HL : Aside0 (otherL (resolveL (rowsB b)) p ne k t = repeatL p k1 t 43) := ⟨by unfold otherL; rw [hc, thenF_ok]; show othL (resolveL (rowsB b)) p ne 43 k1 t = _; unfold othL; rw [if_neg (by decide), if_neg (fun q => q h00), if_neg (by decide), if_neg (by decide), if_neg (by decide), if_neg (by decide), if_neg (by decide), if_neg (by decide), if_pos (by decide)]⟩
  have HC := Aside0.mk hc
  subst h00
  clear S hst hk hc hk1 hn1 hn2 hsk1 hal
  go_enter Tryz.func53, Tryz.ntmps53
  go_wp2_with fail
  refine (sChar HS0.out hkl).mono ?_
  intro e w1 hr
  rw [HC.out] at hr
  obtain ⟨rfl, hS⟩ := hr
  have HS1 := Aside0.mk hS
  clear hS
  have fc1_0 := HS1.out.cell 0 _ rfl
  have fr1_0 := HS1.out.free 0
  have fc1_1 := HS1.out.cell 1 _ rfl
  have fr1_1 := HS1.out.free 1
  have fc1_2 := HS1.out.cell 2 _ rfl
  have fr1_2 := HS1.out.free 2
  have ce1_0 := HS1.out.nest
  go_wp2_with fail
  refine (repeat_any HS1.out HST.out HSK.out 43).mono ?_
  intro e w2 hr
  obtain ⟨X, hX⟩ : ∃ X, repeatL p k1 t 43 = X := ⟨_, rfl⟩
  rw [hX] at hr
  rw [hX] at HL
  clear hX
  cases X with
  | error x =>
    obtain ⟨rfl, hB⟩ := hr
    have HBE := Aside0.mk hB
    clear hB
    go_wp2
    rw [HL.out]
    exact ⟨rfl, rfl, HBE.out⟩
  | ok x =>
    obtain ⟨rfl, hS⟩ := hr
    have HS2 := Aside0.mk hS
    clear hS
    go_wp2
    go_end0
    rw [HL.out]
    exact ⟨rfl, HS2.out⟩
set_option maxHeartbeats 8000000 in
set_option maxRecDepth 100000 in
theorem oth_out_ask (b : ByteArray) (hal : AliasIs b) (S : St W0 m base g h A c p st ne t k w) (hst : t.st = st) (hk : st ≤ k) (hkl : k < p.length) (k1 : Nat) (hc : charL p k = .ok (63, k1)) (h00 : ne = 0) :
    Calls Tryz.prog 53 #[.pointer (some ⟨g, 0, none⟩), .pointer (some ⟨h, 0, none⟩)] w (RT W0 g h (fun t k w' => St W0 m base g h A c p st ne t k w') (otherL (resolveL (rowsB b)) p ne k t)) := by
  have HS0 := Aside0.mk S
  have hgh := S.hn
  have hgh2 := Ne.symm S.hn
  obtain ⟨nb, -, hk1, hn1, hn2⟩ := char_ok hc
  have hsk1 : st ≤ k1 := by omega
  have HSK := Aside0.mk hsk1
  have HST := Aside0.mk hst
  have HAL := Aside0.mk hal
  have HPR := Aside0.mk S.sv.rng
  have HL : Aside0 (otherL (resolveL (rowsB b)) p ne k t = repeatL p k1 t 63) := ⟨by unfold otherL; rw [hc, thenF_ok]; show othL (resolveL (rowsB b)) p ne 63 k1 t = _; unfold othL; rw [if_neg (by decide), if_neg (fun q => q h00), if_neg (by decide), if_neg (by decide), if_neg (by decide), if_neg (by decide), if_neg (by decide), if_neg (by decide), if_pos (by decide)]⟩
  have HC := Aside0.mk hc
  subst h00
  clear S hst hk hc hk1 hn1 hn2 hsk1 hal
  go_enter Tryz.func53, Tryz.ntmps53
  go_wp2_with fail
  refine (sChar HS0.out hkl).mono ?_
  intro e w1 hr
  rw [HC.out] at hr
  obtain ⟨rfl, hS⟩ := hr
  have HS1 := Aside0.mk hS
  clear hS
  have fc1_0 := HS1.out.cell 0 _ rfl
  have fr1_0 := HS1.out.free 0
  have fc1_1 := HS1.out.cell 1 _ rfl
  have fr1_1 := HS1.out.free 1
  have fc1_2 := HS1.out.cell 2 _ rfl
  have fr1_2 := HS1.out.free 2
  have ce1_0 := HS1.out.nest
  go_wp2_with fail
  refine (repeat_any HS1.out HST.out HSK.out 63).mono ?_
  intro e w2 hr
  obtain ⟨X, hX⟩ : ∃ X, repeatL p k1 t 63 = X := ⟨_, rfl⟩
  rw [hX] at hr
  rw [hX] at HL
  clear hX
  cases X with
  | error x =>
    obtain ⟨rfl, hB⟩ := hr
    have HBE := Aside0.mk hB
    clear hB
    go_wp2
    rw [HL.out]
    exact ⟨rfl, rfl, HBE.out⟩
  | ok x =>
    obtain ⟨rfl, hS⟩ := hr
    have HS2 := Aside0.mk hS
    clear hS
    go_wp2
    go_end0
    rw [HL.out]
    exact ⟨rfl, HS2.out⟩
set_option maxHeartbeats 8000000 in
set_option maxRecDepth 100000 in
theorem oth_out_brace (b : ByteArray) (hal : AliasIs b) (S : St W0 m base g h A c p st ne t k w) (hst : t.st = st) (hk : st ≤ k) (hkl : k < p.length) (k1 : Nat) (hc : charL p k = .ok (123, k1)) (h00 : ne = 0) :
    Calls Tryz.prog 53 #[.pointer (some ⟨g, 0, none⟩), .pointer (some ⟨h, 0, none⟩)] w (RT W0 g h (fun t k w' => St W0 m base g h A c p st ne t k w') (otherL (resolveL (rowsB b)) p ne k t)) := by
  have HS0 := Aside0.mk S
  have hgh := S.hn
  have hgh2 := Ne.symm S.hn
  obtain ⟨nb, -, hk1, hn1, hn2⟩ := char_ok hc
  have hsk1 : st ≤ k1 := by omega
  have HSK := Aside0.mk hsk1
  have HST := Aside0.mk hst
  have HAL := Aside0.mk hal
  have HPR := Aside0.mk S.sv.rng
  have HL : Aside0 (otherL (resolveL (rowsB b)) p ne k t = repeatL p k1 t 123) := ⟨by unfold otherL; rw [hc, thenF_ok]; show othL (resolveL (rowsB b)) p ne 123 k1 t = _; unfold othL; rw [if_neg (by decide), if_neg (fun q => q h00), if_neg (by decide), if_neg (by decide), if_neg (by decide), if_neg (by decide), if_neg (by decide), if_neg (by decide), if_pos (by decide)]⟩
  have HC := Aside0.mk hc
  subst h00
  clear S hst hk hc hk1 hn1 hn2 hsk1 hal
  go_enter Tryz.func53, Tryz.ntmps53
  go_wp2_with fail
  refine (sChar HS0.out hkl).mono ?_
  intro e w1 hr
  rw [HC.out] at hr
  obtain ⟨rfl, hS⟩ := hr
  have HS1 := Aside0.mk hS
  clear hS
  have fc1_0 := HS1.out.cell 0 _ rfl
  have fr1_0 := HS1.out.free 0
  have fc1_1 := HS1.out.cell 1 _ rfl
  have fr1_1 := HS1.out.free 1
  have fc1_2 := HS1.out.cell 2 _ rfl
  have fr1_2 := HS1.out.free 2
  have ce1_0 := HS1.out.nest
  go_wp2_with fail
  refine (repeat_any HS1.out HST.out HSK.out 123).mono ?_
  intro e w2 hr
  obtain ⟨X, hX⟩ : ∃ X, repeatL p k1 t 123 = X := ⟨_, rfl⟩
  rw [hX] at hr
  rw [hX] at HL
  clear hX
  cases X with
  | error x =>
    obtain ⟨rfl, hB⟩ := hr
    have HBE := Aside0.mk hB
    clear hB
    go_wp2
    rw [HL.out]
    exact ⟨rfl, rfl, HBE.out⟩
  | ok x =>
    obtain ⟨rfl, hS⟩ := hr
    have HS2 := Aside0.mk hS
    clear hS
    go_wp2
    go_end0
    rw [HL.out]
    exact ⟨rfl, HS2.out⟩
set_option maxHeartbeats 8000000 in
set_option maxRecDepth 100000 in
theorem oth_out_char (b : ByteArray) (hal : AliasIs b) (S : St W0 m base g h A c p st ne t k w) (hst : t.st = st) (hk : st ≤ k) (hkl : k < p.length) (ch : Int) (k1 : Nat) (hc : charL p k = .ok (ch, k1)) (n92 : ch ≠ 92) (n46 : ch ≠ 46) (n124 : ch ≠ 124) (n40 : ch ≠ 40) (n41 : ch ≠ 41) (n94 : ch ≠ 94) (n36 : ch ≠ 36) (n42 : ch ≠ 42) (n43 : ch ≠ 43) (n63 : ch ≠ 63) (n123 : ch ≠ 123) (h00 : ne = 0) :
    Calls Tryz.prog 53 #[.pointer (some ⟨g, 0, none⟩), .pointer (some ⟨h, 0, none⟩)] w (RT W0 g h (fun t k w' => St W0 m base g h A c p st ne t k w') (otherL (resolveL (rowsB b)) p ne k t)) := by
  have HS0 := Aside0.mk S
  have hgh := S.hn
  have hgh2 := Ne.symm S.hn
  obtain ⟨nb, -, hk1, hn1, hn2⟩ := char_ok hc
  have hsk1 : st ≤ k1 := by omega
  have HSK := Aside0.mk hsk1
  have HST := Aside0.mk hst
  have HAL := Aside0.mk hal
  have HPR := Aside0.mk S.sv.rng
  have HL : Aside0 (otherL (resolveL (rowsB b)) p ne k t = .ok ({ t with kind := 1, a := ch }, k1)) := ⟨by unfold otherL; rw [hc, thenF_ok]; show othL (resolveL (rowsB b)) p ne ch k1 t = _; unfold othL; rw [if_neg n92, if_neg (fun q => q h00), if_neg n46, if_neg n124, if_neg n40, if_neg n41, if_neg n94, if_neg n36, if_neg (fun q => by rcases q with q | q | q | q; exact n42 q; exact n43 q; exact n63 q; exact n123 q)]⟩
  have HC := Aside0.mk hc
  have e92 : (ch == 92) = false := by rw [beq_eq_false_iff_ne]; exact n92
  have f92 : (92 == ch) = false := by rw [beq_eq_false_iff_ne]; exact fun e => n92 e.symm
  have e46 : (ch == 46) = false := by rw [beq_eq_false_iff_ne]; exact n46
  have f46 : (46 == ch) = false := by rw [beq_eq_false_iff_ne]; exact fun e => n46 e.symm
  have e124 : (ch == 124) = false := by rw [beq_eq_false_iff_ne]; exact n124
  have f124 : (124 == ch) = false := by rw [beq_eq_false_iff_ne]; exact fun e => n124 e.symm
  have e40 : (ch == 40) = false := by rw [beq_eq_false_iff_ne]; exact n40
  have f40 : (40 == ch) = false := by rw [beq_eq_false_iff_ne]; exact fun e => n40 e.symm
  have e41 : (ch == 41) = false := by rw [beq_eq_false_iff_ne]; exact n41
  have f41 : (41 == ch) = false := by rw [beq_eq_false_iff_ne]; exact fun e => n41 e.symm
  have e94 : (ch == 94) = false := by rw [beq_eq_false_iff_ne]; exact n94
  have f94 : (94 == ch) = false := by rw [beq_eq_false_iff_ne]; exact fun e => n94 e.symm
  have e36 : (ch == 36) = false := by rw [beq_eq_false_iff_ne]; exact n36
  have f36 : (36 == ch) = false := by rw [beq_eq_false_iff_ne]; exact fun e => n36 e.symm
  have e42 : (ch == 42) = false := by rw [beq_eq_false_iff_ne]; exact n42
  have f42 : (42 == ch) = false := by rw [beq_eq_false_iff_ne]; exact fun e => n42 e.symm
  have e43 : (ch == 43) = false := by rw [beq_eq_false_iff_ne]; exact n43
  have f43 : (43 == ch) = false := by rw [beq_eq_false_iff_ne]; exact fun e => n43 e.symm
  have e63 : (ch == 63) = false := by rw [beq_eq_false_iff_ne]; exact n63
  have f63 : (63 == ch) = false := by rw [beq_eq_false_iff_ne]; exact fun e => n63 e.symm
  have e123 : (ch == 123) = false := by rw [beq_eq_false_iff_ne]; exact n123
  have f123 : (123 == ch) = false := by rw [beq_eq_false_iff_ne]; exact fun e => n123 e.symm
  subst h00
  clear S hst hk hc hk1 hn1 hn2 hsk1 hal n92 n46 n124 n40 n41 n94 n36 n42 n43 n63 n123
  go_enter Tryz.func53, Tryz.ntmps53
  go_wp2_with fail
  refine (sChar HS0.out hkl).mono ?_
  intro e w1 hr
  rw [HC.out] at hr
  obtain ⟨rfl, hS⟩ := hr
  have HS1 := Aside0.mk hS
  clear hS
  have fc1_0 := HS1.out.cell 0 _ rfl
  have fr1_0 := HS1.out.free 0
  have fc1_1 := HS1.out.cell 1 _ rfl
  have fr1_1 := HS1.out.free 1
  have fc1_2 := HS1.out.cell 2 _ rfl
  have fr1_2 := HS1.out.free 2
  have ce1_0 := HS1.out.nest
  go_wp2
  go_end0
  rw [HL.out]
  exact ⟨rfl, ((HS1.out.setT 0 _ { t with kind := 1 } rfl).setT 2 _ { t with kind := 1, a := ch } rfl)⟩
theorem other_any (b : ByteArray) (hal : AliasIs b) (S : St W0 m base g h A c p st ne t k w) (hst : t.st = st) (hk : st ≤ k) (hkl : k < p.length) :
    Calls Tryz.prog 53 #[.pointer (some ⟨g, 0, none⟩), .pointer (some ⟨h, 0, none⟩)] w (RT W0 g h (fun t k w' => St W0 m base g h A c p st ne t k w') (otherL (resolveL (rowsB b)) p ne k t)) := by
  cases hc : charL p k with
  | error x => exact oth_bytes b hal S hst hk hkl x hc
  | ok a =>
    obtain ⟨ch, k1⟩ := a
    by_cases n92 : ch = 92
    · subst n92; exact oth_esc b hal S hst hk hkl k1 hc
    by_cases h00 : ne = 0
    · by_cases n46 : ch = 46
      · subst n46; exact oth_out_dot b hal S hst hk hkl k1 hc h00
      by_cases n124 : ch = 124
      · subst n124; exact oth_out_bar b hal S hst hk hkl k1 hc h00
      by_cases n40 : ch = 40
      · subst n40; exact oth_out_par b hal S hst hk hkl k1 hc h00
      by_cases n41 : ch = 41
      · subst n41; exact oth_out_close b hal S hst hk hkl k1 hc h00
      by_cases n94 : ch = 94
      · subst n94; exact oth_out_hat b hal S hst hk hkl k1 hc h00
      by_cases n36 : ch = 36
      · subst n36; exact oth_out_dollar b hal S hst hk hkl k1 hc h00
      by_cases n42 : ch = 42
      · subst n42; exact oth_out_star b hal S hst hk hkl k1 hc h00
      by_cases n43 : ch = 43
      · subst n43; exact oth_out_plus b hal S hst hk hkl k1 hc h00
      by_cases n63 : ch = 63
      · subst n63; exact oth_out_ask b hal S hst hk hkl k1 hc h00
      by_cases n123 : ch = 123
      · subst n123; exact oth_out_brace b hal S hst hk hkl k1 hc h00
      exact oth_out_char b hal S hst hk hkl ch k1 hc n92 n46 n124 n40 n41 n94 n36 n42 n43 n63 n123 h00
    · exact oth_in b hal S hst hk hkl ch k1 hc n92 h00
end

end Go.Proofs.YtkipjalfgdfaiaaGreatDoor
namespace Go.Proofs.YtkipjalfgdfaiaaGreatDoor
set_option linter.unusedVariables false
set_option linter.unusedSimpArgs false
open Go.RowKit Go.Proofs.YtkipjalfgdfaiaaGreatDoorW.PrintWords Go.Proofs.YtkipjalfgdfaiaaGreatDoorW.PrintLast Go.Proofs.YtkipjalfgdfaiaaGreatDoorW.PrintMore Go.Proofs.YtkipjalfgdfaiaaGreatDoor.PTk

/-- A token that just begins. -/
def tk0 (k : Nat) : Tk := { kind := 0, st := k }
theorem results_one {P : Program} {fn : Func} {p : Tmp} {ty : TypeId} (h : fn.results = #[.cell p ty]) (tmps : Array Value) (w : World) (g : Nat) (t : TypeId) (cs : Array Value) (fr : Nat × Nat) (d : TypeDesc)
    (hp : tmps.getD p undef = .pointer (some ⟨g, 0, none⟩)) (hg : w.heap[g]? = some (.cells cs t fr))
    (hu : P.underlying ty = some d) (hd : (match d with | .struct _ | .array _ _ => true | _ => false) = true) (hi : (P.info? ty).map (·.size) = some cs.size) :
    (results fn tmps).run P w = .ok (.agg cs) w := by
  have hp' : tmps[p]?.getD undef = .pointer (some ⟨g, 0, none⟩) := by simpa using hp
  simp [results, h, hp', asAddr, run_loadVar_row w g t ty cs fr d hg hu hd hi]
/-- What next hands back. -/
def RNx (w : World) (g : Nat) (vp : Value) (k : Nat) : Fl (Tk × Nat × Nat) → Ending → World → Prop
  | .ok a, e, w' => e = .returned (.agg (tkC a.1)) ∧ ScP w' g vp a.2.1 k a.2.2 ∧ But (· = g) w w'
  | .error x, e, w' => e = dies x.1 x.2 ∧ But (· = g) w w'
theorem But.shrink {w w' : World} {g h : Nat} (hb : But (Two g h) w w') (hh : w.heap.size ≤ h) : But (· = g) w w' :=
  ⟨hb.os, hb.tape, hb.output, hb.size, fun b hbl hn => hb.block b hbl (fun e => by rcases e with e | e; exact hn e; omega)⟩
theorem set_tk {w : World} {hr : Nat} {t : Tk} (hz : w.heap[hr]? = some (.cells #[.int .i64 0, .int .i64 0, .int .i64 0, .int .i64 0, .string ⟨#[]⟩, .bool false, .int .i64 0, .int .i64 0] 41 (0, 0))) :
    ((((((((w.setCell ⟨hr, 0, none⟩ (.int .i64 t.kind)).setCell ⟨hr, 1, none⟩ (.int .i64 t.mode)).setCell ⟨hr, 2, none⟩ (.int .i64 t.a)).setCell ⟨hr, 3, none⟩ (.int .i64 t.b)).setCell ⟨hr, 4, none⟩ (.string t.name)).setCell ⟨hr, 5, none⟩ (.bool t.neg)).setCell ⟨hr, 6, none⟩ (.int .i64 (t.st : Int))).setCell ⟨hr, 7, none⟩ (.int .i64 (t.en : Int))).heap[hr]? = some (.cells (tkC t) 41 (0, 0)) := by
  have h0 := blk_put hz 0 (.int .i64 t.kind) (cs' := #[.int .i64 t.kind, .int .i64 0, .int .i64 0, .int .i64 0, .string ⟨#[]⟩, .bool false, .int .i64 0, .int .i64 0]) rfl
  have h1 := blk_put h0 1 (.int .i64 t.mode) (cs' := #[.int .i64 t.kind, .int .i64 t.mode, .int .i64 0, .int .i64 0, .string ⟨#[]⟩, .bool false, .int .i64 0, .int .i64 0]) rfl
  have h2 := blk_put h1 2 (.int .i64 t.a) (cs' := #[.int .i64 t.kind, .int .i64 t.mode, .int .i64 t.a, .int .i64 0, .string ⟨#[]⟩, .bool false, .int .i64 0, .int .i64 0]) rfl
  have h3 := blk_put h2 3 (.int .i64 t.b) (cs' := #[.int .i64 t.kind, .int .i64 t.mode, .int .i64 t.a, .int .i64 t.b, .string ⟨#[]⟩, .bool false, .int .i64 0, .int .i64 0]) rfl
  have h4 := blk_put h3 4 (.string t.name) (cs' := #[.int .i64 t.kind, .int .i64 t.mode, .int .i64 t.a, .int .i64 t.b, .string t.name, .bool false, .int .i64 0, .int .i64 0]) rfl
  have h5 := blk_put h4 5 (.bool t.neg) (cs' := #[.int .i64 t.kind, .int .i64 t.mode, .int .i64 t.a, .int .i64 t.b, .string t.name, .bool t.neg, .int .i64 0, .int .i64 0]) rfl
  have h6 := blk_put h5 6 (.int .i64 (t.st : Int)) (cs' := #[.int .i64 t.kind, .int .i64 t.mode, .int .i64 t.a, .int .i64 t.b, .string t.name, .bool t.neg, .int .i64 (t.st : Int), .int .i64 0]) rfl
  have h7 := blk_put h6 7 (.int .i64 (t.en : Int)) (cs' := #[.int .i64 t.kind, .int .i64 t.mode, .int .i64 t.a, .int .i64 t.b, .string t.name, .bool t.neg, .int .i64 (t.st : Int), .int .i64 (t.en : Int)]) rfl
  exact h7
theorem but_tk {w : World} {hr : Nat} {t : Tk} : But (· = hr) w ((((((((w.setCell ⟨hr, 0, none⟩ (.int .i64 t.kind)).setCell ⟨hr, 1, none⟩ (.int .i64 t.mode)).setCell ⟨hr, 2, none⟩ (.int .i64 t.a)).setCell ⟨hr, 3, none⟩ (.int .i64 t.b)).setCell ⟨hr, 4, none⟩ (.string t.name)).setCell ⟨hr, 5, none⟩ (.bool t.neg)).setCell ⟨hr, 6, none⟩ (.int .i64 (t.st : Int))).setCell ⟨hr, 7, none⟩ (.int .i64 (t.en : Int))) :=
  (((((((((But.refl (· = hr) w).set hr 0 rfl _).set hr 1 rfl _).set hr 2 rfl _).set hr 3 rfl _).set hr 4 rfl _).set hr 5 rfl _).set hr 6 rfl _).set hr 7 rfl _)
/-- The end of next. -/
theorem next_fin {w w1 : World} {g hr k ne' k' : Nat} {vp : Value} {t : Tk} (hb : But (· = g) w w1) (hS : ScP w1 g vp k' k ne') (hg : g < w.heap.size) (hh : w.heap.size ≤ hr) :
    ScP ((((((((w1.setCell ⟨hr, 0, none⟩ (.int .i64 t.kind)).setCell ⟨hr, 1, none⟩ (.int .i64 t.mode)).setCell ⟨hr, 2, none⟩ (.int .i64 t.a)).setCell ⟨hr, 3, none⟩ (.int .i64 t.b)).setCell ⟨hr, 4, none⟩ (.string t.name)).setCell ⟨hr, 5, none⟩ (.bool t.neg)).setCell ⟨hr, 6, none⟩ (.int .i64 (t.st : Int))).setCell ⟨hr, 7, none⟩ (.int .i64 (t.en : Int))) g vp k' k ne' ∧ But (· = g) w ((((((((w1.setCell ⟨hr, 0, none⟩ (.int .i64 t.kind)).setCell ⟨hr, 1, none⟩ (.int .i64 t.mode)).setCell ⟨hr, 2, none⟩ (.int .i64 t.a)).setCell ⟨hr, 3, none⟩ (.int .i64 t.b)).setCell ⟨hr, 4, none⟩ (.string t.name)).setCell ⟨hr, 5, none⟩ (.bool t.neg)).setCell ⟨hr, 6, none⟩ (.int .i64 (t.st : Int))).setCell ⟨hr, 7, none⟩ (.int .i64 (t.en : Int))) := by
  have h8 := but_tk (w := w1) (hr := hr) (t := t)
  have hl : g < w1.heap.size := Nat.lt_of_lt_of_le hg hb.size
  exact ⟨(h8.block g hl (by omega)).trans hS, ((hb.mono (ex' := Two g hr) fun x e => .inl e).trans (h8.mono fun x e => .inr e)).shrink hh⟩
/-- The end of next: the place behind the token is laid, the token is handed back. -/
theorem next_start {w : World} {m : Int} {base g : Nat} {A : Option Addr} {c : Nat} {p : List Int} {k st ne : Nat} (hV : Sv w base g A c p k st ne) (hvr : Vars base w m) {WB WA : World}
    (hWB : (w.setCell ⟨g, 2, none⟩ (.int .i64 (k : Int))).alloc (.cells #[.int .i64 0, .int .i64 0, .int .i64 0, .int .i64 0, .string ⟨#[]⟩, .bool false, .int .i64 0, .int .i64 0] 41) = WB)
    (hWA : WB.alloc (.cells #[.int .i64 0, .int .i64 0, .int .i64 0, .int .i64 0, .string ⟨#[]⟩, .bool false, .int .i64 (k : Int), .int .i64 0] 41) = WA) :
    St WA m base g (w.heap.size + 1) A c p k ne (tk0 k) k WA ∧ But (· = g) w WA ∧ WA.heap[w.heap.size]? = some (.cells #[.int .i64 0, .int .i64 0, .int .i64 0, .int .i64 0, .string ⟨#[]⟩, .bool false, .int .i64 0, .int .i64 0] 41 (0, 0)) ∧ WB.cell? ⟨g, 1, none⟩ = some (.int .i64 (k : Int)) := by
  have hgl := hV.lt
  have h0 : But (· = g) w (w.setCell ⟨g, 2, none⟩ (.int .i64 (k : Int))) := But.set (ex := (· = g)) (But.refl _ _) g 2 rfl _
  have hs0 : (w.setCell ⟨g, 2, none⟩ (.int .i64 (k : Int))).heap.size = w.heap.size := by simp
  have p0 : ScP (w.setCell ⟨g, 2, none⟩ (.int .i64 (k : Int))) g (.slice A p.length c) k k ne := blk_put hV.sc 2 _ rfl
  have hB1 : Below (w.setCell ⟨g, 2, none⟩ (.int .i64 (k : Int))).heap.size (w.setCell ⟨g, 2, none⟩ (.int .i64 (k : Int))) WB := by rw [← hWB]; exact below_alloc (Below.refl _ _) _
  have hz1 : WB.heap[w.heap.size]? = some (.cells #[.int .i64 0, .int .i64 0, .int .i64 0, .int .i64 0, .string ⟨#[]⟩, .bool false, .int .i64 0, .int .i64 0] 41 (0, 0)) := by
    rw [← hWB]
    have := heap_alloc_new (w.setCell ⟨g, 2, none⟩ (.int .i64 (k : Int))) (.cells #[.int .i64 0, .int .i64 0, .int .i64 0, .int .i64 0, .string ⟨#[]⟩, .bool false, .int .i64 0, .int .i64 0] 41)
    rw [hs0] at this
    exact this
  have hs1 : WB.heap.size = w.heap.size + 1 := by rw [← hWB]; simp
  have hB2 : Below WB.heap.size WB WA := by rw [← hWA]; exact below_alloc (Below.refl _ _) _
  have hz2 : WA.heap[w.heap.size]? = some (.cells #[.int .i64 0, .int .i64 0, .int .i64 0, .int .i64 0, .string ⟨#[]⟩, .bool false, .int .i64 0, .int .i64 0] 41 (0, 0)) := (hB2.block _ (by omega)).trans hz1
  have hk2 : WA.heap[w.heap.size + 1]? = some (.cells (tkC (tk0 k)) 41 (0, 0)) := by
    rw [← hWA]
    have := heap_alloc_new WB (.cells #[.int .i64 0, .int .i64 0, .int .i64 0, .int .i64 0, .string ⟨#[]⟩, .bool false, .int .i64 (k : Int), .int .i64 0] 41)
    rw [hs1] at this
    exact this
  have hB : But (· = g) w WA := (h0.trans (But.of_below hB1)).trans (But.of_below hB2)
  have p2 : ScP WA g (.slice A p.length c) k k ne := ((hB2.block g (by omega)).trans (hB1.block g (by omega))).trans p0
  have hsv : Sv WA base g A c p k k ne := hV.move hB (fun x e => by rw [e]; exact hV.hb) p2 hV.le
  have hbb := hV.hb
  have p1 : ScP WB g (.slice A p.length c) k k ne := (hB1.block g (by omega)).trans p0
  exact ⟨St.start hsv hk2 (hvr.move (hB.below (by omega) fun x hx e => by omega)) (by omega) (by omega), hB, hz2, rowc p1 1 _ rfl⟩
set_option maxHeartbeats 8000000 in
set_option maxRecDepth 100000 in
theorem scanNext_any (b : ByteArray) (hal : AliasIs b) (w : World) (m : Int) (base g : Nat) (A : Option Addr) (c : Nat) (p : List Int) (k st ne : Nat) (hV : Sv w base g A c p k st ne) (hvr : Vars base w m) (hkl : k < p.length) (hne : ne ≤ 4000) :
    Calls Tryz.prog 35 #[.pointer (some ⟨g, 0, none⟩)] w (RNx w g (.slice A p.length c) k (nextL (resolveL (rowsB b)) p ne k)) := by
  have c1 := rowc hV.sc 1 _ rfl
  have c2 := rowc hV.sc 2 _ rfl
  have f2 := blk_frozen hV.sc 2
  have hgl := hV.lt
  obtain ⟨WB, hWB⟩ : ∃ WB, (w.setCell ⟨g, 2, none⟩ (.int .i64 (k : Int))).alloc (.cells #[.int .i64 0, .int .i64 0, .int .i64 0, .int .i64 0, .string ⟨#[]⟩, .bool false, .int .i64 0, .int .i64 0] 41) = WB := ⟨_, rfl⟩
  obtain ⟨WA, hWA⟩ : ∃ WA, WB.alloc (.cells #[.int .i64 0, .int .i64 0, .int .i64 0, .int .i64 0, .string ⟨#[]⟩, .bool false, .int .i64 (k : Int), .int .i64 0] 41) = WA := ⟨_, rfl⟩
  obtain ⟨hS0, hBA, hZA, cB⟩ := next_start hV hvr hWB hWA
  have HS0 := Aside0.mk hS0
  have HBA := Aside0.mk hBA
  have HZA := Aside0.mk hZA
  have HAL := Aside0.mk hal
  have HW := Aside0.mk (within_any hS0 hne)
  have HL : Aside0 (nextL (resolveL (rowsB b)) p ne k = match withinL p ne k (tk0 k) with
    | some a => .ok ({ a.1 with en := a.2.1 }, a.2.1, a.2.2)
    | none => thenF (otherL (resolveL (rowsB b)) p ne k (tk0 k)) fun a => .ok ({ a.1 with en := a.2 }, a.2, ne)) := ⟨rfl⟩
  obtain ⟨X, hX⟩ : ∃ X, withinL p ne k (tk0 k) = X := ⟨_, rfl⟩
  rw [hX] at HL HW
  have hsz : ∀ (t : Tk) (ne' k' : Nat) (W : World), St WA m base g (w.heap.size + 1) A c p k ne' t k' W → W.heap[w.heap.size]? = some (.cells #[.int .i64 0, .int .i64 0, .int .i64 0, .int .i64 0, .string ⟨#[]⟩, .bool false, .int .i64 0, .int .i64 0] 41 (0, 0)) := fun t ne' k' W hS => by
    have h2 : WA.heap.size = w.heap.size + 2 := by rw [← hWA, ← hWB]; simp
    exact (hS.bt.block w.heap.size (by omega) (fun e => by rcases e with e | e <;> omega)).trans hZA
  have HSZ := Aside0.mk hsz
  have hfin : ∀ (t : Tk) (ne' k' : Nat) (W : World), St WA m base g (w.heap.size + 1) A c p k ne' t k' W → But (· = g) w W := fun t ne' k' W hS => ((hBA.mono (ex' := Two g (w.heap.size + 1)) fun x e => .inl e).trans hS.bt).shrink (by omega)
  have HFIN := Aside0.mk hfin
  have hsl : w.heap.size < w.heap.size + 1 := by omega
  cases X with
  | some a =>
    obtain ⟨t1, k1, ne1⟩ := a
    simp only at HL
    clear hS0 hBA hZA hal hX hsz hfin hV hvr cB
    subst hWA
    subst hWB
    go_enter Tryz.func35, Tryz.ntmps35
    go_wp2_with fail
    refine HW.out.mono ?_
    intro e w1 hr
    obtain ⟨rfl, hS⟩ := hr
    simp only at hS
    have HS1 := Aside0.mk hS
    have ca := hS.at_
    have f7 := hS.free 7
    have k0 := hS.cell 0 (.int .i64 t1.kind) rfl
    have k1_ := hS.cell 1 (.int .i64 t1.mode) rfl
    have k2 := hS.cell 2 (.int .i64 t1.a) rfl
    have k3 := hS.cell 3 (.int .i64 t1.b) rfl
    have k4 := hS.cell 4 (.string t1.name) rfl
    have k5 := hS.cell 5 (.bool t1.neg) rfl
    have k6 := hS.cell 6 (.int .i64 (t1.st : Int)) rfl
    have k7 := hS.cell 7 (.int .i64 (t1.en : Int)) rfl
    have hz := HSZ.out _ _ _ _ hS
    have HZ := Aside0.mk hz
    have z0 := rowc hz 0 _ rfl
    have z1 := rowc hz 1 _ rfl
    have z2 := rowc hz 2 _ rfl
    have z3 := rowc hz 3 _ rfl
    have z4 := rowc hz 4 _ rfl
    have z5 := rowc hz 5 _ rfl
    have z6 := rowc hz 6 _ rfl
    have z7 := rowc hz 7 _ rfl
    have y0 := blk_frozen hz 0
    have y1 := blk_frozen hz 1
    have y2 := blk_frozen hz 2
    have y3 := blk_frozen hz 3
    have y4 := blk_frozen hz 4
    have y5 := blk_frozen hz 5
    have y6 := blk_frozen hz 6
    have y7 := blk_frozen hz 7
    clear hS hz c1 c2 f2
    have HF : Aside0 (St _ m base g (w.heap.size + 1) A c p k ne1 { t1 with en := k1 } k1 (w1.setCell ⟨w.heap.size + 1, 7, none⟩ (.int .i64 (k1 : Int)))) := ⟨HS1.out.setT 7 _ { t1 with en := k1 } rfl⟩
    go_wp2
    refine bodyPost_ret (results_one rfl _ _ w.heap.size 41 (tkC { t1 with en := k1 }) (0, 0) _ rfl (set_tk (t := { t1 with en := k1 }) (HSZ.out _ _ _ _ HF.out)) Tryz.underlying41 rfl (by kernel_rfl)) rfl ?_
    rw [HL.out]
    have hfin := next_fin (hr := w.heap.size) (t := { t1 with en := k1 }) (HFIN.out _ _ _ _ HF.out) HF.out.sv.sc hgl (Nat.le_refl _)
    exact ⟨rfl, hfin.1, hfin.2⟩
  | none =>
    simp only at HL
    have HO := Aside0.mk (fun W (hS : St WA m base g (w.heap.size + 1) A c p k ne (tk0 k) k W) => other_any b hal hS rfl (Nat.le_refl _) hkl)
    obtain ⟨Y, hY⟩ : ∃ Y, otherL (resolveL (rowsB b)) p ne k (tk0 k) = Y := ⟨_, rfl⟩
    rw [hY] at HL HO
    cases Y with
    | error x =>
      rw [thenF_err] at HL
      clear hS0 hBA hZA hal hX hsz hfin hV hvr cB hY
      subst hWA
      subst hWB
      go_enter Tryz.func35, Tryz.ntmps35
      go_wp2_with fail
      refine HW.out.mono ?_
      intro e w1 hr
      obtain ⟨rfl, hS⟩ := hr
      have HS1 := Aside0.mk hS
      clear hS c1 c2 f2
      go_wp2_with fail
      refine (HO.out _ HS1.out).mono ?_
      intro e w2 hr
      obtain ⟨rfl, hB⟩ := hr
      have HB := Aside0.mk hB
      clear hB
      go_wp2
      rw [HL.out]
      exact ⟨rfl, rfl, ((HBA.out.mono (ex' := Two g (w.heap.size + 1)) fun x e => .inl e).trans HB.out).shrink (by omega)⟩
    | ok a =>
      obtain ⟨t1, k1⟩ := a
      rw [thenF_ok] at HL
      simp only at HL
      clear hS0 hBA hZA hal hX hsz hfin hV hvr cB hY
      subst hWA
      subst hWB
      go_enter Tryz.func35, Tryz.ntmps35
      go_wp2_with fail
      refine HW.out.mono ?_
      intro e w1 hr
      obtain ⟨rfl, hS⟩ := hr
      have HS1 := Aside0.mk hS
      clear hS c1 c2 f2
      go_wp2_with fail
      refine (HO.out _ HS1.out).mono ?_
      intro e w2 hr
      obtain ⟨rfl, hS⟩ := hr
      simp only at hS
      have HS2 := Aside0.mk hS
      have ca := hS.at_
      have f7 := hS.free 7
      have k0 := hS.cell 0 (.int .i64 t1.kind) rfl
      have k1_ := hS.cell 1 (.int .i64 t1.mode) rfl
      have k2 := hS.cell 2 (.int .i64 t1.a) rfl
      have k3 := hS.cell 3 (.int .i64 t1.b) rfl
      have k4 := hS.cell 4 (.string t1.name) rfl
      have k5 := hS.cell 5 (.bool t1.neg) rfl
      have k6 := hS.cell 6 (.int .i64 (t1.st : Int)) rfl
      have k7 := hS.cell 7 (.int .i64 (t1.en : Int)) rfl
      have hz := HSZ.out _ _ _ _ hS
      have HZ := Aside0.mk hz
      have z0 := rowc hz 0 _ rfl
      have z1 := rowc hz 1 _ rfl
      have z2 := rowc hz 2 _ rfl
      have z3 := rowc hz 3 _ rfl
      have z4 := rowc hz 4 _ rfl
      have z5 := rowc hz 5 _ rfl
      have z6 := rowc hz 6 _ rfl
      have z7 := rowc hz 7 _ rfl
      have y0 := blk_frozen hz 0
      have y1 := blk_frozen hz 1
      have y2 := blk_frozen hz 2
      have y3 := blk_frozen hz 3
      have y4 := blk_frozen hz 4
      have y5 := blk_frozen hz 5
      have y6 := blk_frozen hz 6
      have y7 := blk_frozen hz 7
      clear hS hz
      have HF : Aside0 (St _ m base g (w.heap.size + 1) A c p k ne { t1 with en := k1 } k1 (w2.setCell ⟨w.heap.size + 1, 7, none⟩ (.int .i64 (k1 : Int)))) := ⟨HS2.out.setT 7 _ { t1 with en := k1 } rfl⟩
      go_wp2
      refine bodyPost_ret (results_one rfl _ _ w.heap.size 41 (tkC { t1 with en := k1 }) (0, 0) _ rfl (set_tk (t := { t1 with en := k1 }) (HSZ.out _ _ _ _ HF.out)) Tryz.underlying41 rfl (by kernel_rfl)) rfl ?_
      rw [HL.out]
      have hfin := next_fin (hr := w.heap.size) (t := { t1 with en := k1 }) (HFIN.out _ _ _ _ HF.out) HF.out.sv.sc hgl (Nat.le_refl _)
      exact ⟨rfl, hfin.1, hfin.2⟩

end Go.Proofs.YtkipjalfgdfaiaaGreatDoor
namespace Go.Proofs.YtkipjalfgdfaiaaGreatDoor
set_option linter.unusedVariables false
set_option linter.unusedSimpArgs false
open Go.RowKit Go.Proofs.YtkipjalfgdfaiaaGreatDoorW.PrintWords Go.Proofs.YtkipjalfgdfaiaaGreatDoorW.PrintLast Go.Proofs.YtkipjalfgdfaiaaGreatDoorW.PrintMore Go.Proofs.YtkipjalfgdfaiaaGreatDoor.PTk

set_option maxHeartbeats 4000000 in
set_option maxRecDepth 100000 in
theorem catch_fault (fb : Nat) (x y c a : Int) (older : List PanicEntry) (w : World) (hb : w.heap[fb]? = some (.cells #[.int .i64 x, .int .i64 y] 37 (0, 0))) :
    CallsD Tryz.prog 34 #[.pointer (some ⟨fb, 0, none⟩)] (.panicking ({ v := faultV c a, recovered := false } :: older)) w fun e u' w' =>
      e = .returned (.tuple #[]) ∧ u' = .panicking ({ v := faultV c a, recovered := true } :: older) ∧ w'.heap[fb]? = some (.cells #[.int .i64 c, .int .i64 a] 37 (0, 0)) ∧ But (· = fb) w w' := by
  have c0 := rowc hb 0 _ rfl
  have c1 := rowc hb 1 _ rfl
  have f0 := blk_frozen hb 0
  have f1 := blk_frozen hb 1
  refine callsD_of_wpS Tryz.func34 rfl fun c₀ cs hu => ?_
  have hta : ∀ W : World, (Instr.typeAssert (.iface 37 (.agg #[.int .i64 c, .int .i64 a])) 20 37 true).run Tryz.prog W = .ok (.tuple #[.agg #[.int .i64 c, .int .i64 a], .bool true]) W := fun W => by kernel_rfl
  show Code.wpS _ _ _ { tmps := #[.pointer (some ⟨fb, 0, none⟩), undef, undef, undef, undef, undef, undef, undef, undef, undef], defers := [] } _ _
  apply wpS_seq
  apply wpS_region
  simp [hta, wpOpsS, go_sem, recoverD, hu, Tryz.ntmps34, Exit.thenS, faultV, c0, c1, f0, f1]
  refine wpS_of_wp ?_
  have hb2 : (w.alloc (.cells #[.int .i64 c, .int .i64 a] 37)).heap[fb]? = some (.cells #[.int .i64 x, .int .i64 y] 37 (0, 0)) := ((below_alloc (Below.refl w.heap.size w) _).block fb (by exact (Array.getElem?_eq_some_iff.1 hb).1)).trans hb
  have hn2 : (w.alloc (.cells #[.int .i64 c, .int .i64 a] 37)).heap[w.heap.size]? = some (.cells #[.int .i64 c, .int .i64 a] 37 (0, 0)) := heap_alloc_new _ _
  have hB : But (· = fb) w (w.alloc (.cells #[.int .i64 c, .int .i64 a] 37)) := But.of_below (below_alloc (Below.refl _ _) _)
  obtain ⟨wx, hwx⟩ : ∃ wx, w.alloc (.cells #[.int .i64 c, .int .i64 a] 37) = wx := ⟨_, rfl⟩
  obtain ⟨n, hn⟩ : ∃ n, w.heap.size = n := ⟨_, rfl⟩
  rw [hwx, hn] at hn2
  rw [hwx] at hb2 hB
  rw [hwx, hn]
  have HB := Aside0.mk hB
  have HB2 := Aside0.mk hb2
  have HU := Aside0.mk hu
  have e0 := rowc hb2 0 _ rfl
  have e1 := rowc hb2 1 _ rfl
  have g0 := blk_frozen hb2 0
  have g1 := blk_frozen hb2 1
  have n0 := rowc hn2 0 _ rfl
  have n1 := rowc hn2 1 _ rfl
  clear hb2 hn2 hB hwx hn hta c0 c1 f0 f1 hb hu
  go_wp2
  exact ⟨rfl, _, rfl, .tuple #[], by simp [results, Tryz.results34, go_sem], rfl, rfl, blk_put (blk_put HB2.out 0 _ rfl) 1 _ rfl, But.set (ex := (· = fb)) (But.set (ex := (· = fb)) HB.out fb 0 rfl _) fb 1 rfl _⟩
set_option maxHeartbeats 4000000 in
set_option maxRecDepth 100000 in
theorem catch_none (fb : Nat) (w : World) :
    CallsD Tryz.prog 34 #[.pointer (some ⟨fb, 0, none⟩)] .returning w fun e u' w' =>
      e = .returned (.tuple #[]) ∧ u' = .returning ∧ Below w.heap.size w w' := by
  refine callsD_of_wpS Tryz.func34 rfl fun c₀ cs hu => ?_
  have hta : ∀ W : World, (Instr.typeAssert .nilIface 20 37 true).run Tryz.prog W = .ok (.tuple #[.agg #[.int .i64 0, .int .i64 0], .bool false]) W := fun W => by kernel_rfl
  show Code.wpS _ _ _ { tmps := #[.pointer (some ⟨fb, 0, none⟩), undef, undef, undef, undef, undef, undef, undef, undef, undef], defers := [] } _ _
  apply wpS_seq
  apply wpS_region
  simp [hta, wpOpsS, go_sem, recoverD, hu, Tryz.ntmps34, Exit.thenS]
  refine wpS_of_wp ?_
  have hB : Below w.heap.size w (w.alloc (.cells #[.int .i64 0, .int .i64 0] 37)) := below_alloc (Below.refl _ _) _
  obtain ⟨wx, hwx⟩ : ∃ wx, w.alloc (.cells #[.int .i64 0, .int .i64 0] 37) = wx := ⟨_, rfl⟩
  rw [hwx] at hB
  rw [hwx]
  have HB := Aside0.mk hB
  have HU := Aside0.mk hu
  clear hB hwx hta hu
  go_wp2
  refine ⟨rfl, .returning, ?_, .tuple #[], by simp [results, Tryz.results34, go_sem], rfl, rfl, HB.out⟩
  rw [← HU.out]

end Go.Proofs.YtkipjalfgdfaiaaGreatDoor
namespace Go.Proofs.YtkipjalfgdfaiaaGreatDoor
set_option linter.unusedVariables false
set_option linter.unusedSimpArgs false
open Go.RowKit Go.Proofs.YtkipjalfgdfaiaaGreatDoorW.PrintWords Go.Proofs.YtkipjalfgdfaiaaGreatDoorW.PrintLast Go.Proofs.YtkipjalfgdfaiaaGreatDoorW.PrintMore Go.Proofs.YtkipjalfgdfaiaaGreatDoor.PTk

abbrev kTk : Kd S41 := k41
def tkS (t : Tk) : S41 := ⟨t.kind, t.mode, t.a, t.b, t.name, t.neg, (t.st : Int), (t.en : Int)⟩
theorem infoTk : (Tryz.prog.info? 41).map (fun i => (i.zero, i.size, i.bytes)) = some (some (.agg #[.int .i64 0, .int .i64 0, .int .i64 0, .int .i64 0, .string ⟨#[]⟩, .bool false, .int .i64 0, .int .i64 0]), 8, 72) := by kernel_rfl
theorem scanR_end (res : ByteArray → Int × ByteArray × Int) (p : List Int) (f ne k : Nat) (out : List Tk) (h : ¬ k < p.length) : scanR res p f ne k out = (out, 0, 0) := by
  cases f with
  | zero => rfl
  | succ f => rw [scanR, if_neg h]
theorem within_nest (p : List Int) (ne k : Nat) (t : Tk) (a : Tk × Nat × Nat) (h : withinL p ne k t = some a) : a.2.2 ≤ ne + 1 := by
  unfold withinL at h
  repeat' split at h
  all_goals first | (cases h; simp only; omega) | cases h
theorem next_nest (res : ByteArray → Int × ByteArray × Int) (p : List Int) (ne k : Nat) (a : Tk × Nat × Nat) (h : nextL res p ne k = .ok a) : a.2.2 ≤ ne + 1 := by
  unfold nextL at h
  split at h
  · rename_i x hx
    cases h
    exact within_nest p ne k _ x hx
  · cases ho : otherL res p ne k { kind := 0, st := k } with
    | error x => rw [ho] at h; cases h
    | ok x => rw [ho] at h; cases h; exact Nat.le_succ _
theorem own_far {α : Type} {d : Kd α} {e : Nat} {w w1 : World} {ex : Nat → Prop} {base : Nat} {v : Value} {xs : List α} (h : But ex w w1) (hr : d.R e w base (fun _ => True) v xs) (ho : ∀ k, base ≤ k → ¬ ex k) : d.R e w1 base (fun _ => True) v xs :=
  Kd.R_mono (Kd.R_move (Kd.R_bound hr) (fun k hk => h.block k hk.2.2.1 (ho k hk.2.1))) (fun k hk => trivial)
/-- What Scan hands back. -/
def RScan (w : World) (r : List Tk × Int × Nat) (e : Ending) (w' : World) : Prop :=
  ∃ v, e = .returned (.tuple #[v, .agg #[.int .i64 r.2.1, .int .i64 (r.2.2 : Int)]]) ∧ Own kTk 41 w' w.heap.size v (r.1.map tkS) ∧ Below w.heap.size w w'
set_option maxHeartbeats 16000000 in
set_option maxRecDepth 100000 in
theorem scan_short (b : ByteArray) (hal : AliasIs b) (w : World) (m : Int) (A : Option Addr) (c : Nat) (p : List Int) (hvr : Vars w.heap.size w m) (hC : Kd.C kB w A p.length p) (hrg : ∀ x ∈ p, 0 ≤ x ∧ x ≤ 255) (hcap : p.length ≤ c) (hl : p.length ≤ 2000) :
    Calls Tryz.prog 19 #[.slice A p.length c] w (RScan w (scanL (resolveL (rowsB b)) p)) := by
  have hmf : ∀ (fn : Fn) (first cap : Array Value) (w : World), (Instr.makeFunc fn first cap).run Tryz.prog w = .ok (.func fn first cap) w := fun _ _ _ _ => rfl
  have HAL := Aside0.mk hal
  have hL : scanL (resolveL (rowsB b)) p = scanR (resolveL (rowsB b)) p p.length 0 0 [] := by unfold scanL; rw [if_neg (by omega)]
  obtain ⟨R, hR⟩ : ∃ R, scanL (resolveL (rowsB b)) p = R := ⟨_, rfl⟩
  rw [hR] at hL ⊢
  have HL := Aside0.mk hL
  obtain ⟨WA, hWA⟩ : ∃ WA, (w.alloc (.cells #[.int .i64 0, .int .i64 0] 37)).alloc (.cells #[.slice A p.length c, .int .i64 0, .int .i64 0, .int .i64 0] 77) = WA := ⟨_, rfl⟩
  have hBA : Below w.heap.size w WA := by rw [← hWA]; exact below_alloc (below_alloc (Below.refl _ _) _) _
  have hzA : WA.heap.size = w.heap.size + 2 := by rw [← hWA]; simp
  have hfA : WA.heap[w.heap.size]? = some (.cells #[.int .i64 0, .int .i64 0] 37 (0, 0)) := by
    rw [← hWA]
    have h1 := heap_alloc_new w (.cells #[.int .i64 0, .int .i64 0] 37)
    exact ((below_alloc (Below.refl _ (w.alloc (.cells #[.int .i64 0, .int .i64 0] 37))) _).block w.heap.size (by simp)).trans h1
  have hgA : ScP WA (w.heap.size + 1) (.slice A p.length c) 0 0 0 := by
    show WA.heap[w.heap.size + 1]? = _
    rw [← hWA]
    have h1 := heap_alloc_new (w.alloc (.cells #[.int .i64 0, .int .i64 0] 37)) (.cells #[.slice A p.length c, .int .i64 0, .int .i64 0, .int .i64 0] 77)
    have h2 : (w.alloc (.cells #[.int .i64 0, .int .i64 0] 37)).heap.size = w.heap.size + 1 := by simp
    rw [h2] at h1
    exact h1
  have hsv : Sv WA w.heap.size (w.heap.size + 1) A c p 0 0 0 := ⟨hgA, fun W hW => Kd.C_below hC (hBA.trans hW), Nat.zero_le _, hcap, hl, hrg, Nat.le_succ _⟩
  have hvA := hvr.move hBA
  have HSV := Aside0.mk hsv
  have HVA := Aside0.mk hvA
  have HFA := Aside0.mk hfA
  have HBA := Aside0.mk hBA
  have HZA := Aside0.mk hzA
  have hwl : w.heap.size < w.heap.size + 1 := by omega
  have h63 : (p.length : Int) ≤ 2000 := by omega
  have hd0 : decide (2000 < (p.length : Int)) = false := decide_eq_false (by omega)
  have HVR := Aside0.mk hvr
  clear hal hR hL hBA hzA hfA hgA hsv hvA hC hvr
  subst hWA
  go_enter_defers Tryz.func19, Tryz.ntmps19
  go_wp2
  go_loopg [2] p.length (fun gk v w' => ∃ (j st ne f : Nat) (out : List Tk), Aside0 (gk = f ∧ p.length ≤ f + j ∧ j ≤ p.length ∧ ne ≤ j ∧ out.length ≤ j) ∧ Aside0 (scanR (resolveL (rowsB b)) p f ne j out = R) ∧ Aside0 (Sv w' w.heap.size (w.heap.size + 1) A c p j st ne) ∧ Aside0 (w'.heap[w.heap.size]? = some (.cells #[.int .i64 0, .int .i64 0] 37 (0, 0))) ∧ Aside0 (Kd.R kTk 41 w' (w.heap.size + 2) (fun _ => True) v (out.map tkS)) ∧ Aside0 (Below w.heap.size w w') ∧ Aside0 (w.heap.size + 2 ≤ w'.heap.size))
  case atStart => exact ⟨0, 0, 0, p.length, [], ⟨rfl, Nat.le_refl _, Nat.zero_le _, Nat.le_refl _, Nat.le_refl _⟩, ⟨HL.out.symm⟩, HSV, HFA, ⟨Kd.R_nil _ _ _ _ _⟩, HBA, ⟨by rw [HZA.out]; exact Nat.le_refl _⟩⟩
  case round =>
    obtain ⟨j, st, ne, f, out, HA, HJ, HS, HF, HO, HB, HZ⟩ := hrel
    have c1 : wr.cell? ⟨w.heap.size + 1, 1, none⟩ = some (.int .i64 (j : Int)) := rowc HS.out.sc 1 _ rfl
    by_cases hjl : j < p.length
    · obtain ⟨f, rfl⟩ : ∃ f', f = f' + 1 := ⟨f - 1, by have := HA.out; omega⟩
      have hj := HJ.out
      rw [scanR, if_pos hjl] at hj
      have HNX := Aside0.mk (scanNext_any b HAL.out wr m w.heap.size (w.heap.size + 1) A c p j st ne HS.out (HVR.out.move HB.out) hjl (by have := HA.out; omega))
      have hjd : decide (j < p.length) = true := decide_eq_true hjl
      have HJL := Aside0.mk hjl
      cases hn : nextL (resolveL (rowsB b)) p ne j with
      | error x =>
        rw [hn] at hj HNX
        have HR : Aside0 (R = (out, x.1, x.2)) := ⟨hj.symm⟩
        clear hj hn hjl
        go_wp2_with fail
        refine HNX.out.mono ?_
        intro e w2 hr
        obtain ⟨rfl, hB2⟩ := hr
        have HB2 := Aside0.mk hB2
        have HF2 : Aside0 (w2.heap[w.heap.size]? = some (.cells #[.int .i64 0, .int .i64 0] 37 (0, 0))) := ⟨(hB2.block _ (by have := HZ.out; omega) (by omega)).trans HF.out⟩
        have HO2 : Aside0 (Kd.R kTk 41 w2 (w.heap.size + 2) (fun _ => True) u2 (out.map tkS)) := ⟨own_far hB2 HO.out (fun k hk => by omega)⟩
        clear hB2
        go_wp2
        refine leaves_cons (f := 34) (args := #[.pointer (some ⟨w.heap.size, 0, none⟩)]) (by simp) (by simp [go_sem]) ?_
        refine (catch_fault w.heap.size 0 0 x.1 x.2 [] _ HF2.out).mono ?_
        rintro e u' w3 ⟨rfl, rfl, hf3, hB3⟩
        refine ⟨_, results_tc rfl _ _ w.heap.size 37 _ (0, 0) _ rfl hf3 Tryz.underlying37 rfl (by kernel_rfl), ?_⟩
        rw [HR.out]
        refine ⟨u2, rfl, Kd.R_lower (own_far hB3 HO2.out (fun k hk => by omega)) (Nat.le_add_right _ _), ?_⟩
        exact (HB.out.trans (HB2.out.below (by have := HZ.out; omega) (fun k hk e => by omega))).trans (hB3.below (by have := HZ.out; have := HB2.out.size; omega) (fun k hk e => by omega))
      | ok a =>
        have HNE := Aside0.mk (next_nest _ _ _ _ _ hn)
        have HST := Aside0.mk ((next_step (resolveL (rowsB b)) p ne j (Nat.le_of_lt hjl)).1 a hn).1
        rw [hn] at hj HNX
        have HR : Aside0 (scanR (resolveL (rowsB b)) p f a.2.2 a.2.1 (out ++ [a.1]) = R) := ⟨hj⟩
        obtain ⟨t1, k1, ne1⟩ := a
        have HNY : Aside0 (Calls Tryz.prog 35 #[.pointer (some ⟨w.heap.size + 1, 0, none⟩)] wr fun e w' => e = .returned (.agg #[.int .i64 t1.kind, .int .i64 t1.mode, .int .i64 t1.a, .int .i64 t1.b, .string t1.name, .bool t1.neg, .int .i64 (t1.st : Int), .int .i64 (t1.en : Int)]) ∧ ScP w' (w.heap.size + 1) (.slice A p.length c) k1 j ne1 ∧ But (· = w.heap.size + 1) wr w') := ⟨HNX.out.mono fun e w' h => h⟩
        simp only at HR HNE HST
        clear hj hn hjl HNX
        go_wp2_with fail
        refine HNY.out.mono ?_
        intro e w2 hr
        obtain ⟨rfl, hP2, hB2⟩ := hr
        have HB2 := Aside0.mk hB2
        have HF2 : Aside0 (w2.heap[w.heap.size]? = some (.cells #[.int .i64 0, .int .i64 0] 37 (0, 0))) := ⟨(hB2.block _ (by have := HZ.out; omega) (by omega)).trans HF.out⟩
        have HO2 : Aside0 (Kd.R kTk 41 w2 (w.heap.size + 2) (fun _ => True) u2 (out.map tkS)) := ⟨own_far hB2 HO.out (fun k hk => by omega)⟩
        have HS2 : Aside0 (Sv w2 w.heap.size (w.heap.size + 1) A c p k1 j ne1) := ⟨HS.out.go hB2 hP2 HST.out.2.1⟩
        have HZ2 : Aside0 (w.heap.size + 2 ≤ w2.heap.size) := ⟨Nat.le_trans HZ.out hB2.size⟩
        clear hB2 hP2
        have hol : (out.map tkS).length ≤ 2000 := by rw [List.length_map]; have := HA.out; omega
        go_wp2_with (at_builtin; refine Kd.R_append kTk (w0 := w2) (w.heap.size + 2) rfl (.tmp 20) (.tmp 23) 35 41 (.agg #[.int .i64 0, .int .i64 0, .int .i64 0, .int .i64 0, .string ⟨#[]⟩, .bool false, .int .i64 0, .int .i64 0]) 72 rfl Tryz.underlying35 infoTk rfl (by decide) (by omega) u2 (out.map tkS) (tkS t1) [.int .i64 t1.kind, .int .i64 t1.mode, .int .i64 t1.a, .int .i64 t1.b, .string t1.name, .bool t1.neg, .int .i64 (t1.st : Int), .int .i64 (t1.en : Int)] (fun _ => True) (fun _ => False) rfl ?aX (k41_mkM _ _ _ (tkS t1)) (fun _ h => h.elim) (fun _ _ => trivial) HO2.out (Below.refl _ _) HZ2.out ?aL ?_)
        case aL => omega
        try (case aX => rfl)
        intro v3 w3 hO3 hB3 hG3 _
        rw [← List.map_singleton (f := tkS), ← List.map_append] at hO3
        have HO3 := Aside0.mk hO3
        have HB3 := Aside0.mk hB3
        clear hO3 hB3 hG3
        have hx3 : But (fun x => w.heap.size + 2 ≤ x) w2 w3 := ⟨HB3.out.os, HB3.out.tape, HB3.out.output, HB3.out.size, fun b _ hn => HB3.out.block b (by omega)⟩
        have HS3 : Aside0 (Sv w3 w.heap.size (w.heap.size + 1) A c p k1 j ne1) := ⟨HS2.out.move hx3 (fun k hk => by omega) ((HB3.out.block _ (by omega)).trans HS2.out.sc) HS2.out.le⟩
        have HF3 : Aside0 (w3.heap[w.heap.size]? = some (.cells #[.int .i64 0, .int .i64 0] 37 (0, 0))) := ⟨(HB3.out.block _ (by omega)).trans HF2.out⟩
        have HBB : Aside0 (Below w.heap.size w w3) := ⟨(HB.out.trans (HB2.out.below (by have := HZ.out; omega) (fun k hk e => by omega))).trans (HB3.out.mono (by omega))⟩
        have HZ3 : Aside0 (w.heap.size + 2 ≤ w3.heap.size) := ⟨Nat.le_trans HZ2.out HB3.out.size⟩
        clear hx3 hol
        go_wp2
        go_roundg f
        case measure => have := HA.out; omega
        case rel => exact ⟨k1, j, ne1, f, out ++ [t1], ⟨rfl, by have := HA.out; have := HST.out; omega, HST.out.2.1, by have := HA.out; have := HST.out; have := HNE.out; omega, by have := HA.out; have := HST.out; rw [List.length_append, List.length_singleton]; omega⟩, HR, HS3, HF3, HO3, HBB, HZ3⟩
    · have hj := HJ.out
      rw [scanR_end _ _ _ _ _ _ hjl] at hj
      have hjd : decide (j < p.length) = false := decide_eq_false hjl
      have f0 := rowc HF.out 0 _ rfl
      have f1 := rowc HF.out 1 _ rfl
      have g0 := blk_frozen HF.out 0
      have g1 := blk_frozen HF.out 1
      have HR : Aside0 (R = (out, 0, 0)) := ⟨hj.symm⟩
      clear hj hjl
      have hX : But (· = w.heap.size) wr (((wr.setCell ⟨w.heap.size, 0, none⟩ (.int .i64 0)).setCell ⟨w.heap.size, 1, none⟩ (.int .i64 0)).drew) := (But.set (ex := (· = w.heap.size)) (But.set (ex := (· = w.heap.size)) (But.refl _ _) w.heap.size 0 rfl _) w.heap.size 1 rfl _).trans (But.of_below (below_drew (Below.refl _ _)))
      have hF2 : (((wr.setCell ⟨w.heap.size, 0, none⟩ (.int .i64 0)).setCell ⟨w.heap.size, 1, none⟩ (.int .i64 0)).drew).heap[w.heap.size]? = some (.cells #[.int .i64 0, .int .i64 0] 37 (0, 0)) := ((below_drew (Below.refl wr.heap.size _)).block _ (by have := HZ.out; omega)).trans (blk_put (blk_put HF.out 0 _ rfl) 1 _ rfl)
      have HX := Aside0.mk hX
      have HF2 := Aside0.mk hF2
      clear hX hF2
      go_wp2
      go_region
      go_wp2
      refine leaves_cons (f := 34) (args := #[.pointer (some ⟨w.heap.size, 0, none⟩)]) (by simp) (by simp [go_sem]) ?_
      refine (catch_none w.heap.size _).mono ?_
      rintro e u' w3 ⟨rfl, rfl, hB3⟩
      have hf3 := (hB3.block w.heap.size (Array.getElem?_eq_some_iff.1 HF2.out).1).trans HF2.out
      refine ⟨_, results_tc rfl _ _ w.heap.size 37 _ (0, 0) _ rfl hf3 Tryz.underlying37 rfl (by kernel_rfl), ?_⟩
      rw [HR.out]
      refine ⟨u2, rfl, Kd.R_lower (own_far (ex := fun _ => False) (But.of_below hB3) (own_far HX.out HO.out (fun k hk => by omega)) (fun k hk => id)) (Nat.le_add_right _ _), ?_⟩
      exact (HB.out.trans (HX.out.below (by have := HZ.out; omega) (fun k hk e => by omega))).trans (hB3.mono (by have := HZ.out; have := HX.out.size; omega))

set_option maxHeartbeats 4000000 in
set_option maxRecDepth 100000 in
theorem scan_long (res : ByteArray → Int × ByteArray × Int) (w : World) (A : Option Addr) (c : Nat) (p : List Int) (hl : 2000 < p.length) (h63 : p.length ≤ 9223372036854775807) :
    Calls Tryz.prog 19 #[.slice A p.length c] w (RScan w (scanL res p)) := by
  have hL : scanL res p = ([], 4, 2000) := by unfold scanL; rw [if_pos hl]
  rw [hL]
  have hd0 : decide (2000 < (p.length : Int)) = true := decide_eq_true (by omega)
  clear hL hl
  go_enter_defers Tryz.func19, Tryz.ntmps19
  go_wp2
  exact ⟨_, results_tc rfl _ _ w.heap.size 37 _ (0, 0) _ rfl (heap_alloc_new _ _) Tryz.underlying37 rfl (by kernel_rfl), .slice none 0 0, rfl, Kd.R_nil _ _ _ _ _, below_alloc (Below.refl _ _) _⟩
theorem scan_any (b : ByteArray) (hal : AliasIs b) (w : World) (m : Int) (A : Option Addr) (c : Nat) (p : List Int) (hvr : Vars w.heap.size w m) (hC : Kd.C kB w A p.length p) (hrg : ∀ x ∈ p, 0 ≤ x ∧ x ≤ 255) (hcap : p.length ≤ c) :
    Calls Tryz.prog 19 #[.slice A p.length c] w (RScan w (scanL (resolveL (rowsB b)) p)) := by
  by_cases hl : p.length ≤ 2000
  · exact scan_short b hal w m A c p hvr hC hrg hcap hl
  · exact scan_long _ w A c p (by omega) (by have := hC.2.1; omega)

end Go.Proofs.YtkipjalfgdfaiaaGreatDoor
namespace Go.Proofs.YtkipjalfgdfaiaaGreatDoor
set_option linter.unusedVariables false
set_option linter.unusedSimpArgs false
open Go.RowKit Go.Proofs.YtkipjalfgdfaiaaGreatDoorW.PrintWords Go.Proofs.YtkipjalfgdfaiaaGreatDoorW.PrintLast Go.Proofs.YtkipjalfgdfaiaaGreatDoorW.PrintMore Go.Proofs.YtkipjalfgdfaiaaGreatDoor.PTk

theorem scan_awake (res : ByteArray → Int × ByteArray × Int) : scanL res [97, 123, 50, 44, 51, 125, 63] = ([{ kind := 1, a := 97, st := 0, en := 1 }, { kind := 6, mode := 1, a := 2, b := 3, st := 1, en := 7 }], 0, 0) := by kernel_rfl
/-- A slice of bytes out of a block that holds them, marked or not. -/
theorem rdB {W : World} {g : Nat} {l : List Int} {t : TypeId} {fr : Nat × Nat} (h : W.heap[g]? = some (.cells (l.map (Value.int .u8)).toArray t fr)) (hm : l.length ≤ 9223372036854775807) : Kd.C kB W (some ⟨g, 0, none⟩) l.length l := by
  refine ⟨rfl, hm, fun _ => ⟨_, rfl, fun j p hj => ⟨[.int .u8 p], rfl, rfl, fun i u hu => ?_⟩⟩⟩
  have hi : i = 0 := by
    have := (List.getElem?_eq_some_iff.1 hu).1
    simpa using this
  subst hi
  cases hu
  have hz : kB.sz = 1 := rfl
  rw [hz, Nat.mul_one, Nat.add_zero, add_plain]
  refine rowc h j _ ?_
  rw [List.getElem?_toArray, List.getElem?_map, hj]
  rfl
theorem rd_tk (l : List Tk) (j : Nat) (h : j < l.length) : rd_T41 (l.map tkS) (j : Int) = tkS l[j] := by
  unfold rd_T41
  rw [Int.toNat_natCast]
  simp [h]
/-- A list of tokens that a call made: each token's cells. -/
def TkRow (w : World) (A : Option Addr) (l : List Tk) : Prop := ∀ (j : Nat) (hj : j < l.length), ∃ g, A = some ⟨g, 0, none⟩ ∧ ∀ i v, (tkC l[j])[i]? = some v → w.cell? ⟨g, j * 8 + i, none⟩ = some v
theorem TkRow.below {w w' : World} {A : Option Addr} {l : List Tk} (h : TkRow w A l) (hb : Below w.heap.size w w') : TkRow w' A l := fun j hj => by
  obtain ⟨g, hA, hc⟩ := h j hj
  exact ⟨g, hA, fun i v hv => pw_cell_below hb (hc i v hv)⟩
theorem own_tk {w : World} {base : Nat} {v : Value} {l : List Tk} (h : Own kTk 41 w base v (l.map tkS)) : ∃ A c, v = .slice A l.length c ∧ l.length ≤ c ∧ l.length ≤ 9223372036854775807 ∧ TkRow w A l := by
  obtain ⟨A, c, rfl, hle, hC⟩ := Kd.R_reads h
  have h63 := hC.2.1
  rw [List.length_map] at hle h63 hC
  refine ⟨A, c, by rw [List.length_map], hle, h63, fun j hj => ?_⟩
  obtain ⟨g, cap, e, -, -, -⟩ := Kd.R_form h (by rw [List.length_map]; omega)
  rw [List.length_map] at e
  cases e
  obtain ⟨ad, e, h0, h1, h2, h3, h4, h5, h6, h7⟩ := at_T41 hC (j : Int) (by omega) (by omega)
  cases e
  rw [rd_tk l j hj, Int.toNat_natCast] at h0 h1 h2 h3 h4 h5 h6 h7
  refine ⟨g, rfl, fun i v hv => ?_⟩
  simp only [add_plain, Nat.zero_add] at h0 h1 h2 h3 h4 h5 h6 h7
  unfold tkC at hv
  match i, hv with
  | 0, hv => cases hv; exact h0
  | 1, hv => cases hv; exact h1
  | 2, hv => cases hv; exact h2
  | 3, hv => cases hv; exact h3
  | 4, hv => cases hv; exact h4
  | 5, hv => cases hv; exact h5
  | 6, hv => cases hv; exact h6
  | 7, hv => cases hv; exact h7
theorem scan_reads {w : World} {r : List Tk × Int × Nat} {e : Ending} {w' : World} (h : RScan w r e w') : ∃ (A : Option Addr) (c : Nat), e = .returned (.tuple #[.slice A r.1.length c, .agg #[.int .i64 r.2.1, .int .i64 (r.2.2 : Int)]]) ∧ r.1.length ≤ c ∧ Kd.C kTk w' A r.1.length (r.1.map tkS) ∧ Below w.heap.size w w' := by
  obtain ⟨v, rfl, ho, hb⟩ := h
  obtain ⟨A, c, rfl, hle, hC⟩ := Kd.R_reads ho
  rw [List.length_map] at hC hle
  exact ⟨A, c, by rw [List.length_map], hle, hC, hb⟩
set_option maxHeartbeats 4000000 in
set_option maxRecDepth 100000 in
theorem awake13_any (b : ByteArray) (hal : AliasIs b) (w : World) (m : Int) (hvr : Vars w.heap.size w m) : Calls Tryz.prog 20 #[] w fun e w' => e = .returned (.bool true) ∧ Below w.heap.size w w' := by
  have kc := fun (w : World) (C : Array Value) (n c : Nat) => Lib.run_convert_bytes_const (P := Tryz.prog) w 34 5 C n c Tryz.underlying34 Tryz.underlying5
  obtain ⟨w1, hw1⟩ : ∃ w1, w.alloc (.cells #[.int .u8 97, .int .u8 123, .int .u8 50, .int .u8 44, .int .u8 51, .int .u8 125, .int .u8 63] 5 (7, 8)) = w1 := ⟨_, rfl⟩
  have hb1 : Below w.heap.size w w1 := by rw [← hw1]; exact below_alloc (Below.refl _ _) _
  have hz1 : w1.heap.size = w.heap.size + 1 := by rw [← hw1]; simp
  have hC : Kd.C kB w1 (some ⟨w.heap.size, 0, none⟩) [97, 123, 50, 44, 51, 125, 63].length [97, 123, 50, 44, 51, 125, 63] := by rw [← hw1]; exact rdB (fr := (7, 8)) (heap_alloc_new _ _) (by decide)
  have hv1 := (hvr.move hb1)
  have hv2 : Vars w1.heap.size w1 m := hv1.up (by omega)
  have HT := Aside0.mk (scan_any b hal w1 m (some ⟨w.heap.size, 0, none⟩) 7 [97, 123, 50, 44, 51, 125, 63] hv2 hC (by decide) (by decide))
  rw [scan_awake] at HT
  have HT2 : Aside0 (Calls Tryz.prog 19 #[.slice (some ⟨w.heap.size, 0, none⟩) 7 7] w1 fun e w' => ∃ (ad : Addr) (c : Nat), e = .returned (.tuple #[.slice (some ad) 2 c, .agg #[.int .i64 0, .int .i64 0]]) ∧ w'.cell? ⟨ad.block, ad.off + 8 + 1, none⟩ = some (.int .i64 1) ∧ w'.cell? ⟨ad.block, ad.off + 8 + 3, none⟩ = some (.int .i64 3) ∧ Below w1.heap.size w1 w') := ⟨HT.out.mono fun e w' h => by
    obtain ⟨A, c, rfl, hle, hC, hb⟩ := scan_reads h
    obtain ⟨ad, e, -, h1, -, h3, -⟩ := at_T41 hC 1 (by decide) (by decide)
    subst e
    exact ⟨ad, c, rfl, h1, h3, hb⟩⟩
  have HB1 := Aside0.mk hb1
  clear hb1 hC hv1 hv2 hvr hal hz1 HT
  go_enter Tryz.func20, Tryz.ntmps20
  go_wp2_with fail
  refine HT2.out.mono ?_
  rintro e w2 ⟨ad, c, rfl, x1, x3, hb2⟩
  have HB2 : Aside0 (Below w.heap.size w w2) := ⟨below_to HB1.out hb2⟩
  have X1 := Aside0.mk x1
  have X3 := Aside0.mk x3
  clear kc hw1 hb2 x1 x3
  have y1 := pw_cell_below (below_alloc (Below.refl w2.heap.size w2) (.cells #[.int .i64 0, .int .i64 0] 37)) X1.out
  have y3 := pw_cell_below (below_alloc (Below.refl w2.heap.size w2) (.cells #[.int .i64 0, .int .i64 0] 37)) X3.out
  go_wp2
  go_ret
  exact ⟨rfl, below_alloc HB2.out _⟩

end Go.Proofs.YtkipjalfgdfaiaaGreatDoor
namespace Go.Proofs.YtkipjalfgdfaiaaGreatDoor
set_option linter.unusedVariables false
set_option linter.unusedSimpArgs false
open Go.RowKit Go.Proofs.YtkipjalfgdfaiaaGreatDoorW.PrintWords Go.Proofs.YtkipjalfgdfaiaaGreatDoorW.PrintLast Go.Proofs.YtkipjalfgdfaiaaGreatDoorW.PrintMore Go.Proofs.YtkipjalfgdfaiaaGreatDoor.PTk

theorem scan_stands (res : ByteArray → Int × ByteArray × Int) (p : List Int) : ∃ e, chainL (scanL res p).1 0 e ∧ ((scanL res p).2.1 = 0 → e = p.length) ∧ ((scanL res p).2.1 ≠ 0 → e ≤ (scanL res p).2.2 ∧ (scanL res p).2.2 ≤ p.length ∧ e ≤ p.length) := by
  unfold scanL
  split
  · rename_i h
    exact ⟨0, rfl, fun h => absurd h (by simp), fun _ => ⟨Nat.zero_le _, Nat.le_of_lt h, Nat.zero_le _⟩⟩
  · obtain ⟨new, e, c, a, h1, h2, h3, h4⟩ := scanR_chain res p p.length 0 0 [] (Nat.zero_le _) (Nat.le_refl _)
    rw [h1]
    simp only [List.nil_append]
    exact ⟨e, h2, h3, h4⟩
theorem chain_drop {l : List Tk} {j k e : Nat} (h : chainL (l.drop j) k e) (hj : j < l.length) : l[j].st = k ∧ k < l[j].en ∧ 1 ≤ l[j].kind ∧ l[j].kind ≤ 14 ∧ chainL (l.drop (j + 1)) l[j].en e := by
  rw [List.drop_eq_getElem_cons hj] at h
  exact h
set_option maxHeartbeats 8000000 in
set_option maxRecDepth 100000 in
theorem TokenStands_walk (w : World) (A : Option Addr) (c : Nat) (l : List Int) (hC : Kd.C kB w A l.length l) (hcap : l.length ≤ c) (m : Int) (hvr : Vars w.heap.size w m) (hrg : ∀ x ∈ l, 0 ≤ x ∧ x ≤ 255) :
    Calls Tryz.prog 6 #[.slice A l.length c] w fun e w' => e = .returned (.bool true) ∧ Below w.heap.size w w' := by
  obtain ⟨b, hal⟩ := alias_ex
  have HSC := Aside0.mk (scan_any b hal w m A c l hvr hC hrg hcap)
  obtain ⟨e0, hch, hz, hnz⟩ := scan_stands (resolveL (rowsB b)) l
  have HAW := Aside0.mk (fun W m' h => awake13_any b hal W m' h)
  obtain ⟨R, hR⟩ : ∃ R, scanL (resolveL (rowsB b)) l = R := ⟨_, rfl⟩
  rw [hR] at HSC hch hz hnz
  obtain ⟨toks, cd, at_⟩ := R
  simp only at hch hz hnz
  have HCH := Aside0.mk hch
  have HZ := Aside0.mk hz
  have HNZ := Aside0.mk hnz
  have HVR := Aside0.mk hvr
  have h63 : l.length ≤ 9223372036854775807 := hC.2.1
  have hel := chainL_le _ _ _ hch
  have HSC2 : Aside0 (Calls Tryz.prog 19 #[.slice A l.length c] w fun e w' => ∃ (A2 : Option Addr) (c2 : Nat), e = .returned (.tuple #[.slice A2 toks.length c2, .agg #[.int .i64 cd, .int .i64 (at_ : Int)]]) ∧ toks.length ≤ 9223372036854775807 ∧ TkRow w' A2 toks ∧ Below w.heap.size w w') := ⟨HSC.out.mono fun e w' h => by
    obtain ⟨v, he, ho, hb⟩ := h
    obtain ⟨A2, c2, rfl, -, h63, hr⟩ := own_tk ho
    exact ⟨A2, c2, he, h63, hr, hb⟩⟩
  clear hC hvr hrg hR hch hz hnz hal HSC
  go_enter Tryz.func6, Tryz.ntmps6
  go_wp2_with fail
  refine HSC2.out.mono ?_
  rintro e w2 ⟨A2, c2, rfl, hlt, hC2, hb2⟩
  have HC2 := Aside0.mk hC2
  have HB2 := Aside0.mk hb2
  obtain ⟨w3, hw3⟩ : ∃ w3, w2.alloc (.cells #[.int .i64 cd, .int .i64 (at_ : Int)] 37) = w3 := ⟨_, rfl⟩
  have hb3 : Below w2.heap.size w2 w3 := by rw [← hw3]; exact below_alloc (Below.refl _ _) _
  have hf3 : w3.heap[w2.heap.size]? = some (.cells #[.int .i64 cd, .int .i64 (at_ : Int)] 37 (0, 0)) := by rw [← hw3]; exact heap_alloc_new _ _
  have HB3 := Aside0.mk hb3
  have HF3 := Aside0.mk hf3
  clear hC2 hb2 hb3 hf3
  go_wp2
  go_loopg [5, 15] toks.length (fun gk va vi w' => ∃ (j a : Nat), va = .int .i64 (a : Int) ∧ vi = .int .i64 (j : Int) ∧ Aside0 (j ≤ toks.length ∧ gk = toks.length - j) ∧ Aside0 (chainL (toks.drop j) a e0) ∧ Aside0 (Below w3.heap.size w3 w'))
  case atStart => exact ⟨0, 0, rfl, rfl, ⟨Nat.zero_le _, rfl⟩, ⟨by rw [List.drop_zero]; exact HCH.out⟩, ⟨Below.refl _ _⟩⟩
  case round =>
    obtain ⟨j, a, rfl, rfl, HA, HC, HB⟩ := hrel
    by_cases hj : j < toks.length
    · obtain ⟨g, hA, hc⟩ := (HC2.out.below HB3.out).below HB.out j hj
      subst hA
      obtain ⟨h1, h2, h3, h4, h5⟩ := chain_drop HC.out hj
      have HC5 := Aside0.mk h5
      have x0 := hc 0 _ rfl
      have x1 := hc 1 _ rfl
      have x2 := hc 2 _ rfl
      have x3 := hc 3 _ rfl
      have x4 := hc 4 _ rfl
      have x5 := hc 5 _ rfl
      have x6 := hc 6 _ rfl
      have x7 := hc 7 _ rfl
      obtain ⟨t, ht⟩ : ∃ t, toks[j] = t := ⟨_, rfl⟩
      rw [ht] at x0 x1 x2 x3 x4 x5 x6 x7 h1 h2 h3 h4 HC5
      simp only [Nat.add_zero] at x0
      simp only [tkC, List.getElem_cons_zero, List.getElem_cons_succ] at x0 x1 x2 x3 x4 x5 x6 x7
      have hjd : decide (j < toks.length) = true := decide_eq_true hj
      have hg1 : (t.st != a) = false := by rw [h1]; simp
      have hg2 : decide (t.en ≤ a) = false := decide_eq_false (by omega)
      have hg3 : decide (t.kind < 1) = false := decide_eq_false (by omega)
      have hg4 : decide (14 < t.kind) = false := decide_eq_false (by omega)
      clear hc h5 ht
      go_wp2
      go_roundg (toks.length - (j + 1))
      case measure => have := HA.out; omega
      exact ⟨j + 1, t.en, by first | rfl | simp, rfl, ⟨by omega, rfl⟩, HC5, ⟨below_alloc HB.out _⟩⟩
    · have hjd : decide (j < toks.length) = false := decide_eq_false hj
      have hdr : toks.drop j = [] := List.drop_eq_nil_of_le (by omega)
      have he := HC.out
      rw [hdr] at he
      have hea : a = e0 := he
      subst hea
      have hf : wr.heap[w2.heap.size]? = some (.cells #[.int .i64 cd, .int .i64 (at_ : Int)] 37 (0, 0)) := (HB.out.block _ (by exact (List.getElem?_eq_some_iff.1 (by simpa using HF3.out)).1)).trans HF3.out
      have f0 : wr.cell? ⟨w2.heap.size, 0, none⟩ = some (.int .i64 cd) := rowc hf 0 _ rfl
      have f1 : wr.cell? ⟨w2.heap.size, 1, none⟩ = some (.int .i64 (at_ : Int)) := rowc hf 1 _ rfl
      have hbw : Below w.heap.size w wr := below_to (below_to HB2.out HB3.out) HB.out
      have HBW := Aside0.mk hbw
      have HA3 := HAW.out wr m ((HVR.out.move hbw).up hbw.size)
      clear hf hdr he hbw
      by_cases hcd : cd = 0
      · have hz : a = l.length := HZ.out hcd
        subst hcd
        subst hz
        go_wp2_with fail
        refine HA3.mono ?_
        rintro e w4 ⟨rfl, hb4⟩
        have HB4 : Aside0 (Below w.heap.size w w4) := ⟨below_to HBW.out hb4⟩
        clear hb4
        go_wp2
        go_ret
        exact ⟨rfl, HB4.out⟩
      · obtain ⟨h1, h2, h3⟩ := HNZ.out hcd
        have hcb : (cd == 0) = false := by simp [hcd]
        have d1 : decide (a ≤ at_) = true := decide_eq_true h1
        have d2 : decide (at_ ≤ l.length) = true := decide_eq_true h2
        have d3 : decide (a ≤ l.length) = true := decide_eq_true h3
        go_wp2_with fail
        refine HA3.mono ?_
        rintro e w4 ⟨rfl, hb4⟩
        have HB4 : Aside0 (Below w.heap.size w w4) := ⟨below_to HBW.out hb4⟩
        clear hb4
        go_wp2
        go_ret
        exact ⟨rfl, HB4.out⟩

end Go.Proofs.YtkipjalfgdfaiaaGreatDoor
namespace Go.Proofs.YtkipjalfgdfaiaaGreatDoor
set_option linter.unusedVariables false
set_option linter.unusedSimpArgs false
open Go.ChangeShapes Go.WideShapes Go.ChangeAt Go.RowKit

theorem maxIs_of {w : World} (h : w.ShapedOpen Tryz.prog) : ∃ m, MaxIs w m :=
  cell_of_shapedOpen_int (g := 2) (zero := #[.int .i64 0]) (t := 3) (k := .i64) h (of_decide_eq_true (by kernel_rfl)) (by kernel_rfl) rfl (by kernel_rfl) (by kernel_rfl) Tryz.underlying3

theorem witness_row_zip {H : Type} {enc : TypeId × Value → H} {C : Checked} {os : Os} {f : FuncId} {fn : Func} {s : OpenSpec} {conds : List PathCond} {apart : Bool} {laid : List (String × DataW Unit)} (w0 : World) (args : Array Value) (hos : w0.os = os)
    (hsh : (w0.forCall (fun _ _ => 0) ⟨#[], args, []⟩).Shaped C.prog)
    (hok : Input.okWideB C.prog (w0.forCall (fun _ _ => 0) ⟨#[], args, []⟩) f ⟨#[], args, []⟩ = true)
    (hrow : s.preRow enc C.prog fn conds apart laid (w0.forCall (fun _ _ => 0) ⟨#[], args, []⟩).memory args) :
    ∃ (w : World) (tape : Tape) (i : Input), w.os = os ∧ (w.forCall tape i).Shaped C.prog ∧ i.vars = [] ∧ Input.okWide C.prog (w.forCall tape i) .any w.heap.size f i ∧
      s.preRow enc C.prog fn conds apart laid (w.forCall tape i).memory i.args ∧ ({} : Assume).holds C.prog (lone (Frame.enter C.prog f i.args .normal) [] (w.forCall tape i)) :=
  ⟨w0, fun _ _ => 0, ⟨#[], args, []⟩, hos, hsh, rfl, (Input.okWide_of_okWideB (base := w0.heap.size) hok).2, hrow, by
    simp only [Assume.holds]
    exact ⟨by simp, by simp, fun _ => Modest.zero, by simp, by simp⟩⟩

theorem bulk_one {H : Type} (d : DataW H) : 1 ≤ Rows.uptoBulk d := by
  cases d with
  | lit l => cases l <;> simp [Rows.uptoBulk]
  | nil => exact Nat.le_refl _
  | held h => exact Nat.le_refl _
  | _ => simp only [Rows.uptoBulk]; omega
theorem bulk_len {H : Type} : ∀ l : List (DataW H), l.length ≤ Rows.uptoBulkAll l
  | [] => Nat.zero_le _
  | d :: r => by
    have h1 := bulk_one d
    have h2 := bulk_len r
    simp only [Rows.uptoBulkAll, List.length_cons]
    omega
end Go.Proofs.YtkipjalfgdfaiaaGreatDoor
namespace Go.Proofs.YtkipjalfgdfaiaaGreatDoor
set_option linter.unusedVariables false
set_option linter.unusedSimpArgs false
open Go.ChangeShapes Go.WideShapes Go.ChangeAt Go.RowKit

theorem iface_of_reads {P : Program} {w : World} {n : String} {d : DataW Unit} {g : Nat} {t : TypeId} (h : Lib.VarReads P w n d) (hg : P.globalNamed n = some g) (ht : (P.globals[g]?).map (·.type) = some t) (hu : ∃ i, P.underlying t = some (.interface i)) :
    ∃ ev, w.cell? ⟨g, 0, none⟩ = some ev ∧ (ev = .nilIface ∨ ∃ te pe, ev = .iface te pe) := by
  obtain ⟨g', t', cs, fuel, p, hg', ht', hv, htr⟩ := h
  obtain rfl := Option.some.inj (hg.symm.trans hg')
  obtain rfl := Option.some.inj (ht.symm.trans ht')
  have hc := World.var?_cell hg hv 0
  obtain ⟨i, hu⟩ := hu
  obtain ⟨l⟩ := cs
  cases fuel with
  | zero => simp [DataW.trod] at htr
  | succ fuel =>
    unfold DataW.trod at htr
    rw [hu] at htr
    match l, htr with
    | [.nilIface], _ => exact ⟨.nilIface, hc, .inl rfl⟩
    | [.iface u v], _ => exact ⟨.iface u v, hc, .inr ⟨u, v, rfl⟩⟩

theorem vars_of {w : World} {l : List (String × DataW Unit)} (hl : laidMet Tryz.prog l w) {d : DataW Unit} (hm : ("strconv.ErrSyntax", d) ∈ l) (hs : w.ShapedOpen Tryz.prog) : ∃ m, Vars w.heap.size w m := by
  obtain ⟨m, hmx⟩ := maxIs_of hs
  obtain ⟨ev, hev, he⟩ := iface_of_reads (Lib.laidMet.reads hl hm) (g := 7) (t := 90) (by kernel_rfl) (by kernel_rfl) ⟨_, Tryz.underlying90⟩
  exact ⟨m, hmx, ⟨ev, hev, he⟩, World.block_lt_of_cell? w _ hmx, World.block_lt_of_cell? w _ hev⟩

end Go.Proofs.YtkipjalfgdfaiaaGreatDoor
namespace Go.Proofs.YtkipjalfgdfaiaaGreatDoor
set_option linter.unusedVariables false
set_option linter.unusedSimpArgs false
open Go.RowKit Go.Proofs.YtkipjalfgdfaiaaGreatDoorW.PrintWords

theorem rd_cells {α : Type} {kd : Kd α} (enc : α → List Value) (hk : ∀ w x, kd.K w x (enc x)) {w : World} {a : Addr} {l : List α} {n c : Nat} (hn : l.length = n) (hl : n ≤ c) (hm : n ≤ 9223372036854775807)
    (hc : ∀ j (hj : j < l.length) i u, (enc l[j])[i]? = some u → w.cell? (a.add (j * kd.sz + i)) = some u) : RdS kd w (.slice (some a) n c) l := by
  subst hn
  refine ⟨some a, c, rfl, hl, rfl, hm, fun _ => ⟨a, rfl, fun j p hj => ⟨enc p, kd.K_len (hk w p), hk w p, fun i u hu => ?_⟩⟩⟩
  obtain ⟨hlt, rfl⟩ := List.getElem?_eq_some_iff.1 hj
  exact hc j hlt i u hu
end Go.Proofs.YtkipjalfgdfaiaaGreatDoor
namespace Go.Proofs.YtkipjalfgdfaiaaGreatDoor
set_option linter.unusedVariables false
set_option linter.unusedSimpArgs false
open Go.ChangeShapes Go.WideShapes Go.ChangeAt Go.RowKit Go.Proofs.YtkipjalfgdfaiaaGreatDoorW.PrintWords

variable {H : Type} {enc : TypeId × Value → H} {W : World}
theorem bulk_lt {H : Type} (elems spare : List (DataW H)) : elems.length < Rows.uptoBulk (.slice elems spare) := by
  have h := bulk_len elems
  simp only [Rows.uptoBulk]
  omega
set_option maxRecDepth 100000 in
theorem trod_bytes {fuel : Nat} {cs : List Value} {x : DataW H × List MemPlace} (h : DataW.trod enc Tryz.prog W 0 (fun _ => true) true fuel 34 cs = some x) :
    ∃ a len cap, ∃ l : List Int, cs = [.slice a len cap] ∧ l.length = len ∧ len ≤ cap ∧ Kd.C kB W a len l ∧ l.length < Rows.uptoBulk x.1 ∧ ∀ n ∈ l, 0 ≤ n ∧ n ≤ 255 := by
  rcases open_ints Tryz.underlying34 Tryz.underlying5 (by kernel_rfl) h with ⟨hcs, _⟩ | ⟨a, len, cap, ss, hcs, _, hl, hm, hss, hd, hc, hwf⟩
  · exact ⟨none, 0, 0, [], hcs, rfl, Nat.le_refl _, Kd.C_nil _ _, by have := bulk_one x.1; show 0 < _; omega, fun n hn => by cases hn⟩
  · have hsl : len ≤ ss.length := by rw [hss]; split <;> omega
    have hlen : (ss.take len).length = len := by rw [List.length_take]; omega
    have hr : RdS kB W (.slice (some a) len cap) (ss.take len) := by
      refine rd_cells (kd := kB) (fun s => [.int .u8 s]) (fun _ _ => rfl) hlen hl (Nat.le_trans hl (by simpa [maxLen] using hm)) (fun j hj i u hu => ?_)
      have hj2 : j < ss.length := by omega
      have hz : kB.sz = 1 := rfl
      rw [hz, Nat.mul_one]
      match i, hu with
      | 0, hu =>
        cases hu
        have h := hc j hj2
        simpa [hj2] using h
    obtain ⟨A, c', e, h1, h2⟩ := hr
    rw [hlen] at e h2
    cases e
    refine ⟨some a, len, cap, ss.take len, hcs, hlen, hl, h2, ?_, fun n hn => ?_⟩
    · rw [hd]
      have h := bulk_lt (H := H) (lits .u8 (ss.take len)) (lits .u8 (ss.drop len))
      have hl2 : (lits .u8 (ss.take len) : List (DataW H)).length = (ss.take len).length := by simp [lits]
      rw [← hl2]
      exact h
    · have := hwf n (List.mem_of_mem_take hn)
      have h2 : IntKind.u8.min ≤ n ∧ n ≤ IntKind.u8.max := by simpa [Lit.wf] using this
      exact h2
set_option maxRecDepth 100000 in
theorem open_By {a : Option Addr} {len cap : Nat} {d : DataW H} {ps : List MemPlace}
    (h : DataW.Trod enc Tryz.prog W 0 (fun _ => true) true 34 (.slice a len cap) d ps) : ∃ l : List Int, l.length = len ∧ len ≤ cap ∧ Kd.C kB W a len l ∧ l.length < Rows.uptoBulk d ∧ ∀ n ∈ l, 0 ≤ n ∧ n ≤ 255 := by
  obtain ⟨fuel, hf⟩ := h
  obtain ⟨a', len', cap', l, e, hl, hc, hC, hb⟩ := trod_bytes hf
  have e2 : a = a' ∧ len = len' ∧ cap = cap' := by simpa [Value.cells] using e
  obtain ⟨rfl, rfl, rfl⟩ := e2
  exact ⟨l, hl, hc, hC, hb⟩

end Go.Proofs.YtkipjalfgdfaiaaGreatDoor
namespace Go.Proofs.YtkipjalfgdfaiaaGreatDoor.tokenStands
open Go.ChangeShapes Go.WideShapes Go.ChangeAt Go.RowKit
open Go.ChangeMaps (open_string shut_string)
set_option linter.unusedVariables false
set_option linter.unusedSimpArgs false
theorem own : ownKnob Tryz.prog.godebug = none := by kernel_rfl
theorem laidOut_ : laidOutB Tryz.prog = true := by kernel_rfl
theorem laid_met (os : Os) : laidMet Tryz.prog Rows.tokenStandsRow.laid ((World.laidAll Tryz.prog os Rows.tokenStandsRow.laid).forCall (fun _ _ => 0) ⟨#[], #[.slice none 0 0], []⟩).memory :=
  laidMet_laidAll _ (by kernel_rfl) (by kernel_rfl)
theorem reads (os : Os) {H : Type} (enc : TypeId × Value → H) : ∃ places, DataW.whole enc Tryz.prog ((World.laidAll Tryz.prog os Rows.tokenStandsRow.laid).forCall (fun _ _ => 0) ⟨#[], #[.slice none 0 0], []⟩).memory Tryz.f6.params.toList Rows.tokenStandsSpec.vars false (#[.slice none 0 0] : Array Value).toList 8 = some ([.nil], [], places) :=
  ⟨[], by kernel_rfl⟩
set_option maxRecDepth 100000 in
theorem lifted (os : Os) (started : os.Started) (H : Type) (enc : TypeId × Value → H) (F : Stop.Interp) :
    ReturnsInHanded {} Tryz.checked os 6 .any ((OpenSpec.ofChange Rows.tokenStandsSpec).preRow enc Tryz.prog Tryz.f6 Rows.tokenStandsRow.domain false Rows.tokenStandsRow.laid) (((OpenSpec.ofChange Rows.tokenStandsSpec).at F).post enc Tryz.prog Tryz.f6 false true false false) := by
  obtain ⟨places, hx⟩ := reads os enc
  refine returnsInHanded_of_row (C := Tryz.checked) (s := OpenSpec.ofChange Rows.tokenStandsSpec) own started (by kernel_rfl) Tryz.func6
    (witness_row_zip (enc := enc) (C := Tryz.checked) (World.laidAll Tryz.prog os Rows.tokenStandsRow.laid) #[.slice none 0 0] (World.laidAll_os _ _ _) (World.shaped_of_ZipB (by kernel_rfl) (by kernel_rfl)) (by kernel_rfl)
      (OpenSpec.preRow_of_cond 8 hx (by kernel_rfl) (fun k hk => by cases hk) (by kernel_rfl) (laid_met os))) ?_
  intro W base args ds gs before hval0 hW _ hk0 hz0 hlaid hS _
  obtain ⟨m, hm⟩ := vars_of hlaid (by repeat (first | exact List.Mem.head _ | apply List.Mem.tail)) hS
  have hval : ∀ (j : Nat) t v, Tryz.f6.params[j]? = some t → args[j]? = some v → Value.okWide Tryz.prog W .any base t v := hval0
  have hW' := hW
  obtain ⟨p, q, hA0, hV, rfl, hfz, hnd⟩ := hW
  have hA : DataW.TrodAll enc Tryz.prog W 0 (fun _ => true) true Tryz.f6.params.toList args.toList ds p := hA0
  rw [Tryz.params6] at hA hval
  obtain ⟨v0, vs0, d0, ds0, p0, q0, hargs, rfl, rfl, h0, r0⟩ := trodAll_cons hA
  obtain ⟨rfl, rfl, rfl⟩ := trodAll_nil r0
  obtain rfl : args = #[v0] := by cases args; simp_all
  obtain ⟨rfl, rfl⟩ := trodVars_none hV
  obtain ⟨a0, len0, cap0, rfl⟩ := okWide_slice Tryz.underlying34 (hval 0 34 v0 rfl rfl)
  have k0 := h0
  have lt0 : ∀ x ∈ p0, x.block < W.heap.size := by obtain ⟨m, hm⟩ := k0; exact DataW.trod_lt m _ _ _ hm
  obtain ⟨l0, e0, c0, w0, b0, g0⟩ := open_By h0
  subst e0
  clear hA0 hval0 hz0
  refine (TokenStands_walk W a0 cap0 l0 w0 c0 m hm g0).mono fun e W' ⟨he, bel⟩ => ?_
  subst he
  exact ⟨_, rfl, _, _, _, [], _, [], hW', trodAll_mk1 (shut_bool Tryz.underlying4 _), (trodAll_cons_mk (Below.trod laidOut_ (by kernel_rfl) (of_decide_eq_true (by kernel_rfl)) k0 bel lt0) trodAll_mk0), rfl, bel.frame _, fun h => by cases h⟩
theorem said : Rows.TokenStandsSaid :=
  OpenClaim.holds_of_cond 6 Tryz.f6 rfl rfl rfl rfl rfl rfl rfl ⟨rfl, rfl, rfl, rfl, rfl⟩ rfl rfl rfl rfl rfl (by kernel_rfl) Tryz.func6 (by kernel_rfl)
    (of_decide_eq_true (by kernel_rfl)) (by unfold Func.isWrapper; first | (rw [if_pos (by decide +kernel)]; kernel_rfl) | (rw [if_neg (by decide +kernel)]; exact ⟨rfl, rfl⟩))
    (fun os started H enc _ F => by rw [OpenClaim.pre_eq_preRow]; exact lifted os started H enc F)
theorem plain (f : FuncId) (fn : Func) (hf : Tryz.pinned.checked.prog.funcNamed Rows.tokenStandsRow.func = some f) (hfn : Tryz.pinned.checked.prog.funcs[f]? = some fn) :
    true = Tryz.pinned.checked.prog.looks [] ∧ ∀ (j : Nat) t, fn.params[j]? = some t → Tryz.pinned.checked.prog.wantsStandIn t = false := by
  obtain rfl : f = 6 := Option.some.inj ((show Tryz.prog.funcNamed Rows.tokenStandsRow.func = some 6 by kernel_rfl).symm.trans hf) |>.symm
  obtain rfl : fn = Tryz.f6 := (Option.some.inj (Tryz.func6.symm.trans hfn)).symm
  refine ⟨by kernel_rfl, fun j t ht => ?_⟩
  rw [Tryz.params6] at ht
  have hm : t ∈ [34] := by simpa using Array.mem_of_getElem? ht
  have hall : ([34].all fun u => !Tryz.prog.wantsStandIn u) = true := by kernel_rfl
  exact (show Tryz.prog.wantsStandIn t = false by simpa using List.all_eq_true.1 hall t hm)
end Go.Proofs.YtkipjalfgdfaiaaGreatDoor.tokenStands
namespace Go.Proofs.YtkipjalfgdfaiaaGreatDoor
theorem tokenStands_holds : Rows.TokenStandsCardSaid :=
  Claim7.holds_tied_plain_at .later [] _ _ _ _ tokenStands.said (fun _ h => by cases h) (by kernel_rfl) (fun _ h => by cases h) tokenStands_row_tie rfl ⟨rfl, rfl⟩ (by kernel_rfl) rfl tokenStands.plain (by kernel_rfl)
end Go.Proofs.YtkipjalfgdfaiaaGreatDoor
namespace Go.Proofs.YtkipjalfgdfaiaaGreatDoor
#print axioms tokenStands_holds
end Go.Proofs.YtkipjalfgdfaiaaGreatDoor
