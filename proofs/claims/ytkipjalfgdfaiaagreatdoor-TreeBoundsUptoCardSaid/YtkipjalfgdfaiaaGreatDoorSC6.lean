/- ClD, ClF, ClE, ClG, PaL, PaT, PaU, ClH, TreeBoundsW, TkH2, TrH, TreeBounds. -/
import Derived.Lib.LaidU8
import Derived.Lib.LaidTab
import Derived.Lib.AppendIntMem
import Derived.Test.YtkipjalfgdfaiaaGreatDoorCards
import Derived.Test.YtkipjalfgdfaiaaGreatDoorTie
import Derived.WalkKit
import Derived.ProofKit
import Derived.OpenShut
import Derived.ShutString
import Derived.ChangeOld
import Derived.Below
import Derived.SizedLaws
import Derived.Deep.DeepHandedRow
import Derived.Lay
import Derived.SevenTiedAt
import Derived.Test.YtkipjalfgdfaiaaGreatDoorSC5
namespace Go.Proofs.YtkipjalfgdfaiaaGreatDoor
set_option linter.unusedVariables false
set_option linter.unusedSimpArgs false
open Go.RowKit Go.Proofs.YtkipjalfgdfaiaaGreatDoorW.PrintWords Go.Proofs.YtkipjalfgdfaiaaGreatDoorW.PrintLast Go.Proofs.YtkipjalfgdfaiaaGreatDoorW.PrintMore Go.Proofs.YtkipjalfgdfaiaaGreatDoor.PTk

attribute [local go_sem ↓] Go.wp_at_zero Go.wp_at_succ
set_option maxHeartbeats 4000000 in
set_option maxRecDepth 100000 in
theorem write_any2 {n : Nd} (m0 : Int) (hk : n.f0 = 2) (w0 w : World) (hv : WVars w0 m0) (B b : Nat) (acc : List Int) (v : Value) (h : RdN w0 n v) (E : Ew w0 w B b acc) (hl : acc.length + ([46]).length ≤ 100000000000000) :
    Calls Tryz.prog 28 #[.pointer (some ⟨b, 0, none⟩), v] w (RetU B b acc ([46]) w) := by
  obtain ⟨A6, c6, A7, c7, e, g1, g2, g3, hC⟩ := h
  subst e
  have hrd : RdN w0 n (ndV n A6 c6 A7 c7) := ⟨A6, c6, A7, c7, rfl, g1, g2, g3, hC⟩
  have HE := Aside0.mk E
  have hbn : b ≠ w.heap.size := Nat.ne_of_lt E.wr.lt
  have HBX := Aside0.mk (fun o => E.below (below_alloc (Below.refl w.heap.size w) o))
  have HL := Aside0.mk hl
  have t6 : (n.f0 == 6) = false := by rw [beq_eq_false_iff_ne, hk]; decide
  have t7 : (n.f0 == 7) = false := by rw [beq_eq_false_iff_ne, hk]; decide
  have t1 : (n.f0 == 1) = false := by rw [beq_eq_false_iff_ne, hk]; decide
  have t2 : (n.f0 == 2) = true := by rw [hk]; rfl
  clear hv E hl hk hC hrd g1 g2 g3 
  go_enter Tryz.func28, Tryz.ntmps28
  go_wp2_with fail
  refine (bwS B b (acc) ([46]) _ _ (HBX.out _).wr rfl (by have := HL.out; simp at this ⊢; omega)).mono ?_
  rintro e w9 ⟨⟨u9, rfl⟩, hw9⟩
  have HT := Aside0.mk (Wrote.after HE.out.wr.base (below_alloc (Below.refl _ _) _) hw9)
  clear hw9
  go_wp2_with fail
  go_end0
  exact ⟨rfl, HT.out⟩
set_option maxHeartbeats 4000000 in
set_option maxRecDepth 100000 in
theorem write_cluster {n : Nd} (m0 : Int) (hk : n.f0 = 14) (w0 w : World) (hv : WVars w0 m0) (B b : Nat) (acc : List Int) (v : Value) (h : RdN w0 n v) (E : Ew w0 w B b acc) (hl : acc.length + ([92, 88]).length ≤ 100000000000000) :
    Calls Tryz.prog 28 #[.pointer (some ⟨b, 0, none⟩), v] w (RetU B b acc ([92, 88]) w) := by
  obtain ⟨A6, c6, A7, c7, e, g1, g2, g3, hC⟩ := h
  subst e
  have hrd : RdN w0 n (ndV n A6 c6 A7 c7) := ⟨A6, c6, A7, c7, rfl, g1, g2, g3, hC⟩
  have HE := Aside0.mk E
  have hbn : b ≠ w.heap.size := Nat.ne_of_lt E.wr.lt
  have HBX := Aside0.mk (fun o => E.below (below_alloc (Below.refl w.heap.size w) o))
  have HL := Aside0.mk hl
  have t6 : (n.f0 == 6) = false := by rw [beq_eq_false_iff_ne, hk]; decide
  have t7 : (n.f0 == 7) = false := by rw [beq_eq_false_iff_ne, hk]; decide
  have t1 : (n.f0 == 1) = false := by rw [beq_eq_false_iff_ne, hk]; decide
  have t2 : (n.f0 == 2) = false := by rw [beq_eq_false_iff_ne, hk]; decide
  have t3 : (n.f0 == 3) = false := by rw [beq_eq_false_iff_ne, hk]; decide
  have t5 : (n.f0 == 5) = false := by rw [beq_eq_false_iff_ne, hk]; decide
  have t8 : (n.f0 == 8) = false := by rw [beq_eq_false_iff_ne, hk]; decide
  have t9 : (n.f0 == 9) = false := by rw [beq_eq_false_iff_ne, hk]; decide
  have t10 : (n.f0 == 10) = false := by rw [beq_eq_false_iff_ne, hk]; decide
  have t11 : (n.f0 == 11) = false := by rw [beq_eq_false_iff_ne, hk]; decide
  have t12 : (n.f0 == 12) = false := by rw [beq_eq_false_iff_ne, hk]; decide
  have t13 : (n.f0 == 13) = false := by rw [beq_eq_false_iff_ne, hk]; decide
  have t14 : (n.f0 == 14) = true := by rw [hk]; rfl
  clear hv E hl hk hC hrd g1 g2 g3 
  go_enter Tryz.func28, Tryz.ntmps28
  go_wp2_with fail
  refine (bwS B b (acc) ([92, 88]) _ _ (HBX.out _).wr rfl (by have := HL.out; simp at this ⊢; omega)).mono ?_
  rintro e w9 ⟨⟨u9, rfl⟩, hw9⟩
  have HT := Aside0.mk (Wrote.after HE.out.wr.base (below_alloc (Below.refl _ _) _) hw9)
  clear hw9
  go_wp2_with fail
  go_end0
  exact ⟨rfl, HT.out⟩
set_option maxHeartbeats 4000000 in
set_option maxRecDepth 100000 in
theorem write_char {n : Nd} (m0 : Int) (hk : n.f0 = 1) (w0 w : World) (hv : WVars w0 m0) (B b : Nat) (acc : List Int) (v : Value) (h : RdN w0 n v) (E : Ew w0 w B b acc) (hl : acc.length + (printL n.f2 false).length ≤ 100000000000000) :
    Calls Tryz.prog 28 #[.pointer (some ⟨b, 0, none⟩), v] w (RetU B b acc (printL n.f2 false) w) := by
  obtain ⟨A6, c6, A7, c7, e, g1, g2, g3, hC⟩ := h
  subst e
  have hrd : RdN w0 n (ndV n A6 c6 A7 c7) := ⟨A6, c6, A7, c7, rfl, g1, g2, g3, hC⟩
  have HE := Aside0.mk E
  have hbn : b ≠ w.heap.size := Nat.ne_of_lt E.wr.lt
  have HBX := Aside0.mk (fun o => E.below (below_alloc (Below.refl w.heap.size w) o))
  have HL := Aside0.mk hl
  have t6 : (n.f0 == 6) = false := by rw [beq_eq_false_iff_ne, hk]; decide
  have t7 : (n.f0 == 7) = false := by rw [beq_eq_false_iff_ne, hk]; decide
  have t1 : (n.f0 == 1) = true := by rw [hk]; rfl
  have HPR := Aside0.mk (fun r W (E' : Below w0.heap.size w0 W) => print_any r false W m0 (hv.tv.stay E').mx (hv.tv.stay E').tab)
  clear hv E hl hk hC hrd g1 g2 g3 
  go_enter Tryz.func28, Tryz.ntmps28
  go_wp2_with fail
  refine (HPR.out n.f2 _ (HBX.out _).bel).mono ?_
  rintro e v1 ⟨rfl, hb1⟩
  have HB1 := Aside0.mk (below_to (below_alloc (Below.refl w.heap.size w) _) hb1)
  clear hb1
  go_wp2_with fail
  refine (bwS B b (acc) (printL n.f2 false) _ _ ((HE.out.below HB1.out).wr) rfl (Nat.le_trans HL.out (by omega))).mono ?_
  rintro e w9 ⟨⟨u9, rfl⟩, hw9⟩
  have HT := Aside0.mk (Wrote.after HE.out.wr.base HB1.out hw9)
  clear hw9
  go_wp2_with fail
  go_end0
  exact ⟨rfl, HT.out⟩
set_option maxHeartbeats 4000000 in
set_option maxRecDepth 100000 in
theorem write_class {n : Nd} (m0 : Int) (hk : n.f0 = 3) (hS : SideC m0 n) (w0 w : World) (hv : WVars w0 m0) (B b : Nat) (acc : List Int) (v : Value) (h : RdN w0 n v) (E : Ew w0 w B b acc) (hl : acc.length + (classW n).length ≤ 100000000000000) :
    Calls Tryz.prog 28 #[.pointer (some ⟨b, 0, none⟩), v] w (RetU B b acc (classW n) w) := by
  obtain ⟨A6, c6, A7, c7, e, g1, g2, g3, hC⟩ := h
  subst e
  have hrd : RdN w0 n (ndV n A6 c6 A7 c7) := ⟨A6, c6, A7, c7, rfl, g1, g2, g3, hC⟩
  have HE := Aside0.mk E
  have hbn : b ≠ w.heap.size := Nat.ne_of_lt E.wr.lt
  have HBX := Aside0.mk (fun o => E.below (below_alloc (Below.refl w.heap.size w) o))
  have HL := Aside0.mk hl
  have t6 : (n.f0 == 6) = false := by rw [beq_eq_false_iff_ne, hk]; decide
  have t7 : (n.f0 == 7) = false := by rw [beq_eq_false_iff_ne, hk]; decide
  have t1 : (n.f0 == 1) = false := by rw [beq_eq_false_iff_ne, hk]; decide
  have t2 : (n.f0 == 2) = false := by rw [beq_eq_false_iff_ne, hk]; decide
  have t3 : (n.f0 == 3) = true := by rw [hk]; rfl
  have HX := Aside0.mk (fun W (E' : Ew w0 W B b acc) => writeClass_any m0 hS w0 W hv.tv B b acc _ hrd E' hl)
  clear hv E hl hk hC hrd g1 g2 g3 hS
  go_enter Tryz.func28, Tryz.ntmps28
  go_wp2_with fail
  refine (HX.out _ (HBX.out _)).mono ?_
  rintro e w9 ⟨rfl, hw9⟩
  have HT := Aside0.mk (Wrote.after HE.out.wr.base (below_alloc (Below.refl _ _) _) hw9)
  clear hw9
  go_wp2_with fail
  go_end0
  exact ⟨rfl, HT.out⟩
set_option maxHeartbeats 4000000 in
set_option maxRecDepth 100000 in
theorem write_prop {n : Nd} (m0 : Int) (hk : n.f0 = 5) (hS : PropC n) (w0 w : World) (hv : WVars w0 m0) (B b : Nat) (acc : List Int) (v : Value) (h : RdN w0 n v) (E : Ew w0 w B b acc) (hl : acc.length + (propW n).length ≤ 100000000000000) :
    Calls Tryz.prog 28 #[.pointer (some ⟨b, 0, none⟩), v] w (RetU B b acc (propW n) w) := by
  obtain ⟨A6, c6, A7, c7, e, g1, g2, g3, hC⟩ := h
  subst e
  have hrd : RdN w0 n (ndV n A6 c6 A7 c7) := ⟨A6, c6, A7, c7, rfl, g1, g2, g3, hC⟩
  have HE := Aside0.mk E
  have hbn : b ≠ w.heap.size := Nat.ne_of_lt E.wr.lt
  have HBX := Aside0.mk (fun o => E.below (below_alloc (Below.refl w.heap.size w) o))
  have HL := Aside0.mk hl
  have t6 : (n.f0 == 6) = false := by rw [beq_eq_false_iff_ne, hk]; decide
  have t7 : (n.f0 == 7) = false := by rw [beq_eq_false_iff_ne, hk]; decide
  have t1 : (n.f0 == 1) = false := by rw [beq_eq_false_iff_ne, hk]; decide
  have t2 : (n.f0 == 2) = false := by rw [beq_eq_false_iff_ne, hk]; decide
  have t3 : (n.f0 == 3) = false := by rw [beq_eq_false_iff_ne, hk]; decide
  have t5 : (n.f0 == 5) = true := by rw [hk]; rfl
  have HX := Aside0.mk (fun W (E' : Ew w0 W B b acc) => hS w0 W B b acc _ hrd E' hl)
  clear hv E hl hk hC hrd g1 g2 g3 hS
  go_enter Tryz.func28, Tryz.ntmps28
  go_wp2_with fail
  refine (HX.out _ (HBX.out _)).mono ?_
  rintro e w9 ⟨rfl, hw9⟩
  have HT := Aside0.mk (Wrote.after HE.out.wr.base (below_alloc (Below.refl _ _) _) hw9)
  clear hw9
  go_wp2_with fail
  go_end0
  exact ⟨rfl, HT.out⟩
set_option maxHeartbeats 4000000 in
set_option maxRecDepth 100000 in
theorem write_atomic {n : Nd} (m0 : Int) (hk : n.f0 = 11) (m : Nd) (h0 : 0 < n.f7.length) (hm : n.f7[0]'h0 = m) (hW : WriteC m0 m) (w0 w : World) (hv : WVars w0 m0) (B b : Nat) (acc : List Int) (v : Value) (h : RdN w0 n v) (E : Ew w0 w B b acc) (hl : acc.length + ([40, 63, 62] ++ writeN m ++ [41]).length ≤ 100000000000000) :
    Calls Tryz.prog 28 #[.pointer (some ⟨b, 0, none⟩), v] w (RetU B b acc ([40, 63, 62] ++ writeN m ++ [41]) w) := by
  obtain ⟨A6, c6, A7, c7, e, g1, g2, g3, hC⟩ := h
  subst e
  have hrd : RdN w0 n (ndV n A6 c6 A7 c7) := ⟨A6, c6, A7, c7, rfl, g1, g2, g3, hC⟩
  have HE := Aside0.mk E
  have hbn : b ≠ w.heap.size := Nat.ne_of_lt E.wr.lt
  have HBX := Aside0.mk (fun o => E.below (below_alloc (Below.refl w.heap.size w) o))
  have HL := Aside0.mk hl
  have t6 : (n.f0 == 6) = false := by rw [beq_eq_false_iff_ne, hk]; decide
  have t7 : (n.f0 == 7) = false := by rw [beq_eq_false_iff_ne, hk]; decide
  have t1 : (n.f0 == 1) = false := by rw [beq_eq_false_iff_ne, hk]; decide
  have t2 : (n.f0 == 2) = false := by rw [beq_eq_false_iff_ne, hk]; decide
  have t3 : (n.f0 == 3) = false := by rw [beq_eq_false_iff_ne, hk]; decide
  have t5 : (n.f0 == 5) = false := by rw [beq_eq_false_iff_ne, hk]; decide
  have t8 : (n.f0 == 8) = false := by rw [beq_eq_false_iff_ne, hk]; decide
  have t9 : (n.f0 == 9) = false := by rw [beq_eq_false_iff_ne, hk]; decide
  have t10 : (n.f0 == 10) = false := by rw [beq_eq_false_iff_ne, hk]; decide
  have t11 : (n.f0 == 11) = true := by rw [hk]; rfl
  obtain ⟨R, hR⟩ : ∃ R, ([40, 63, 62]) ++ writeN m ++ [41] = R := ⟨_, rfl⟩
  rw [hR]
  have HX := Aside0.mk (fun W (E' : Ew w0 W B b acc) so hso => wrap_any m0 h0 hm hW ([40, 63, 62]) so hso w0 W hv B b acc _ hrd E' hl)
  rw [hR] at HX
  clear hv E hl hk hC hrd g1 g2 g3 h0 hm hW hR
  go_enter Tryz.func28, Tryz.ntmps28
  go_wp2_with fail
  refine (HX.out _ (HBX.out _) _ rfl).mono ?_
  rintro e w9 ⟨rfl, hw9⟩
  have HT := Aside0.mk (Wrote.after HE.out.wr.base (below_alloc (Below.refl _ _) _) hw9)
  clear hw9
  go_wp2_with fail
  go_end0
  exact ⟨rfl, HT.out⟩
set_option maxHeartbeats 4000000 in
set_option maxRecDepth 100000 in
theorem write_group0 {n : Nd} (m0 : Int) (hk : n.f0 = 9) (m : Nd) (h0 : 0 < n.f7.length) (hm : n.f7[0]'h0 = m) (hW : WriteC m0 m) (ha : n.f2 = 0) (w0 w : World) (hv : WVars w0 m0) (B b : Nat) (acc : List Int) (v : Value) (h : RdN w0 n v) (E : Ew w0 w B b acc) (hl : acc.length + ([40, 63, 58] ++ writeN m ++ [41]).length ≤ 100000000000000) :
    Calls Tryz.prog 28 #[.pointer (some ⟨b, 0, none⟩), v] w (RetU B b acc ([40, 63, 58] ++ writeN m ++ [41]) w) := by
  obtain ⟨A6, c6, A7, c7, e, g1, g2, g3, hC⟩ := h
  subst e
  have hrd : RdN w0 n (ndV n A6 c6 A7 c7) := ⟨A6, c6, A7, c7, rfl, g1, g2, g3, hC⟩
  have HE := Aside0.mk E
  have hbn : b ≠ w.heap.size := Nat.ne_of_lt E.wr.lt
  have HBX := Aside0.mk (fun o => E.below (below_alloc (Below.refl w.heap.size w) o))
  have HL := Aside0.mk hl
  have t6 : (n.f0 == 6) = false := by rw [beq_eq_false_iff_ne, hk]; decide
  have t7 : (n.f0 == 7) = false := by rw [beq_eq_false_iff_ne, hk]; decide
  have t1 : (n.f0 == 1) = false := by rw [beq_eq_false_iff_ne, hk]; decide
  have t2 : (n.f0 == 2) = false := by rw [beq_eq_false_iff_ne, hk]; decide
  have t3 : (n.f0 == 3) = false := by rw [beq_eq_false_iff_ne, hk]; decide
  have t5 : (n.f0 == 5) = false := by rw [beq_eq_false_iff_ne, hk]; decide
  have t8 : (n.f0 == 8) = false := by rw [beq_eq_false_iff_ne, hk]; decide
  have t9 : (n.f0 == 9) = true := by rw [hk]; rfl
  obtain ⟨R, hR⟩ : ∃ R, ([40, 63, 58]) ++ writeN m ++ [41] = R := ⟨_, rfl⟩
  rw [hR]
  have HX := Aside0.mk (fun W (E' : Ew w0 W B b acc) so hso => wrap_any m0 h0 hm hW ([40, 63, 58]) so hso w0 W hv B b acc _ hrd E' hl)
  rw [hR] at HX
  have ta : (n.f2 == 0) = true := by rw [ha]; rfl
  clear hv E hl hk hC hrd g1 g2 g3 h0 hm hW hR ha
  go_enter Tryz.func28, Tryz.ntmps28
  go_wp2_with fail
  refine (HX.out _ (HBX.out _) _ rfl).mono ?_
  rintro e w9 ⟨rfl, hw9⟩
  have HT := Aside0.mk (Wrote.after HE.out.wr.base (below_alloc (Below.refl _ _) _) hw9)
  clear hw9
  go_wp2_with fail
  go_end0
  exact ⟨rfl, HT.out⟩
set_option maxHeartbeats 4000000 in
set_option maxRecDepth 100000 in
theorem write_group1 {n : Nd} (m0 : Int) (hk : n.f0 = 9) (m : Nd) (h0 : 0 < n.f7.length) (hm : n.f7[0]'h0 = m) (hW : WriteC m0 m) (ha : n.f2 ≠ 0) (hn : n.f5 = e0) (w0 w : World) (hv : WVars w0 m0) (B b : Nat) (acc : List Int) (v : Value) (h : RdN w0 n v) (E : Ew w0 w B b acc) (hl : acc.length + ([40] ++ writeN m ++ [41]).length ≤ 100000000000000) :
    Calls Tryz.prog 28 #[.pointer (some ⟨b, 0, none⟩), v] w (RetU B b acc ([40] ++ writeN m ++ [41]) w) := by
  obtain ⟨A6, c6, A7, c7, e, g1, g2, g3, hC⟩ := h
  subst e
  have hrd : RdN w0 n (ndV n A6 c6 A7 c7) := ⟨A6, c6, A7, c7, rfl, g1, g2, g3, hC⟩
  have HE := Aside0.mk E
  have hbn : b ≠ w.heap.size := Nat.ne_of_lt E.wr.lt
  have HBX := Aside0.mk (fun o => E.below (below_alloc (Below.refl w.heap.size w) o))
  have HL := Aside0.mk hl
  have t6 : (n.f0 == 6) = false := by rw [beq_eq_false_iff_ne, hk]; decide
  have t7 : (n.f0 == 7) = false := by rw [beq_eq_false_iff_ne, hk]; decide
  have t1 : (n.f0 == 1) = false := by rw [beq_eq_false_iff_ne, hk]; decide
  have t2 : (n.f0 == 2) = false := by rw [beq_eq_false_iff_ne, hk]; decide
  have t3 : (n.f0 == 3) = false := by rw [beq_eq_false_iff_ne, hk]; decide
  have t5 : (n.f0 == 5) = false := by rw [beq_eq_false_iff_ne, hk]; decide
  have t8 : (n.f0 == 8) = false := by rw [beq_eq_false_iff_ne, hk]; decide
  have t9 : (n.f0 == 9) = true := by rw [hk]; rfl
  obtain ⟨R, hR⟩ : ∃ R, ([40]) ++ writeN m ++ [41] = R := ⟨_, rfl⟩
  rw [hR]
  have HX := Aside0.mk (fun W (E' : Ew w0 W B b acc) so hso => wrap_any m0 h0 hm hW ([40]) so hso w0 W hv B b acc _ hrd E' hl)
  rw [hR] at HX
  have ta : (n.f2 == 0) = false := by rw [beq_eq_false_iff_ne]; exact ha
  have tn : n.f5.toList.isEmpty = true := by rw [size_empty, hn]; rfl
  clear hv E hl hk hC hrd g1 g2 g3 h0 hm hW hR ha hn
  go_enter Tryz.func28, Tryz.ntmps28
  go_wp2_with fail
  refine (HX.out _ (HBX.out _) _ rfl).mono ?_
  rintro e w9 ⟨rfl, hw9⟩
  have HT := Aside0.mk (Wrote.after HE.out.wr.base (below_alloc (Below.refl _ _) _) hw9)
  clear hw9
  go_wp2_with fail
  go_end0
  exact ⟨rfl, HT.out⟩
set_option maxHeartbeats 4000000 in
set_option maxRecDepth 100000 in
theorem write_group2 {n : Nd} (m0 : Int) (hk : n.f0 = 9) (m : Nd) (h0 : 0 < n.f7.length) (hm : n.f7[0]'h0 = m) (hW : WriteC m0 m) (ha : n.f2 ≠ 0) (hn : n.f5 ≠ e0) (w0 w : World) (hv : WVars w0 m0) (B b : Nat) (acc : List Int) (v : Value) (h : RdN w0 n v) (E : Ew w0 w B b acc) (hl : acc.length + (([40, 63, 60] ++ bytesOf n.f5 ++ [62]) ++ writeN m ++ [41]).length ≤ 100000000000000) :
    Calls Tryz.prog 28 #[.pointer (some ⟨b, 0, none⟩), v] w (RetU B b acc (([40, 63, 60] ++ bytesOf n.f5 ++ [62]) ++ writeN m ++ [41]) w) := by
  obtain ⟨A6, c6, A7, c7, e, g1, g2, g3, hC⟩ := h
  subst e
  have hrd : RdN w0 n (ndV n A6 c6 A7 c7) := ⟨A6, c6, A7, c7, rfl, g1, g2, g3, hC⟩
  have HE := Aside0.mk E
  have hbn : b ≠ w.heap.size := Nat.ne_of_lt E.wr.lt
  have HBX := Aside0.mk (fun o => E.below (below_alloc (Below.refl w.heap.size w) o))
  have HL := Aside0.mk hl
  have t6 : (n.f0 == 6) = false := by rw [beq_eq_false_iff_ne, hk]; decide
  have t7 : (n.f0 == 7) = false := by rw [beq_eq_false_iff_ne, hk]; decide
  have t1 : (n.f0 == 1) = false := by rw [beq_eq_false_iff_ne, hk]; decide
  have t2 : (n.f0 == 2) = false := by rw [beq_eq_false_iff_ne, hk]; decide
  have t3 : (n.f0 == 3) = false := by rw [beq_eq_false_iff_ne, hk]; decide
  have t5 : (n.f0 == 5) = false := by rw [beq_eq_false_iff_ne, hk]; decide
  have t8 : (n.f0 == 8) = false := by rw [beq_eq_false_iff_ne, hk]; decide
  have t9 : (n.f0 == 9) = true := by rw [hk]; rfl
  have hsz : n.f5.size ≤ 100000000000000 := by have h := hl; rw [← bytes_len]; simp at h ⊢; omega
  obtain ⟨R, hR⟩ : ∃ R, ([40, 63, 60] ++ bytesOf n.f5 ++ [62]) ++ writeN m ++ [41] = R := ⟨_, rfl⟩
  rw [hR]
  have HX := Aside0.mk (fun W (E' : Ew w0 W B b acc) so hso => wrap_any m0 h0 hm hW ([40, 63, 60] ++ bytesOf n.f5 ++ [62]) so hso w0 W hv B b acc _ hrd E' hl)
  rw [hR] at HX
  have ta : (n.f2 == 0) = false := by rw [beq_eq_false_iff_ne]; exact ha
  have tn : n.f5.toList.isEmpty = false := by rw [size_empty]; exact decide_eq_false hn
  have HS : Aside0 ((⟨#[40, 63, 60]⟩ ++ n.f5) ++ ⟨#[62]⟩ = strOfNums ([40, 63, 60] ++ bytesOf n.f5 ++ [62])) := ⟨by rw [str_app, str_app, str_bytes]; rfl⟩
  clear hv E hl hk hC hrd g1 g2 g3 h0 hm hW hR ha hn
  go_enter Tryz.func28, Tryz.ntmps28
  go_wp2_with fail
  refine (HX.out _ (HBX.out _) _ HS.out).mono ?_
  rintro e w9 ⟨rfl, hw9⟩
  have HT := Aside0.mk (Wrote.after HE.out.wr.base (below_alloc (Below.refl _ _) _) hw9)
  clear hw9
  go_wp2_with fail
  go_end0
  exact ⟨rfl, HT.out⟩
set_option maxHeartbeats 4000000 in
set_option maxRecDepth 100000 in
theorem of_look (i : Nat) (h0 : 0 ≤ i) (h1 : i < 4) (W' : World) (g : Nat) (hg : W'.heap[g]? = some (.cells #[.string ⟨#[40, 63, 61]⟩, .string ⟨#[40, 63, 33]⟩, .string ⟨#[40, 63, 60, 61]⟩, .string ⟨#[40, 63, 60, 33]⟩] 9 (0, 0))) : Calls Tryz.prog 46 #[.int .i64 (i : Int), .slice (some ⟨g, 0, none⟩) 4 4] W' fun e w2 => e = .returned (.string (strOfNums (ofT (i : Int) [[40, 63, 61], [40, 63, 33], [40, 63, 60, 61], [40, 63, 60, 33]]))) ∧ w2 = W' := by
  have h := of_texts [⟨#[40, 63, 61]⟩, ⟨#[40, 63, 33]⟩, ⟨#[40, 63, 60, 61]⟩, ⟨#[40, 63, 60, 33]⟩] i h1 W' W' g (0, 0) hg
  have e : ([⟨#[40, 63, 61]⟩, ⟨#[40, 63, 33]⟩, ⟨#[40, 63, 60, 61]⟩, ⟨#[40, 63, 60, 33]⟩] : List ByteArray)[i]'h1 = strOfNums (ofT (i : Int) [[40, 63, 61], [40, 63, 33], [40, 63, 60, 61], [40, 63, 60, 33]]) := by
    have k : ∀ i : Fin 4, ([⟨#[40, 63, 61]⟩, ⟨#[40, 63, 33]⟩, ⟨#[40, 63, 60, 61]⟩, ⟨#[40, 63, 60, 33]⟩] : List ByteArray)[i.val]'i.isLt = strOfNums (ofT (i.val : Int) [[40, 63, 61], [40, 63, 33], [40, 63, 60, 61], [40, 63, 60, 33]]) := by decide +kernel
    exact k ⟨i, h1⟩
  rw [← e]
  exact h
set_option maxHeartbeats 4000000 in
set_option maxRecDepth 100000 in
theorem of_assert (i : Nat) (h0 : 1 ≤ i) (h1 : i < 11) (W' : World) (g : Nat) (hg : W'.heap[g]? = some (.cells #[.string ⟨#[]⟩, .string ⟨#[94]⟩, .string ⟨#[36]⟩, .string ⟨#[92, 65]⟩, .string ⟨#[92, 122]⟩, .string ⟨#[92, 98]⟩, .string ⟨#[92, 66]⟩, .string ⟨#[92, 98, 123, 103, 125]⟩, .string ⟨#[92, 66, 123, 103, 125]⟩, .string ⟨#[92, 98, 123, 119, 125]⟩, .string ⟨#[92, 66, 123, 119, 125]⟩] 9 (0, 0))) : Calls Tryz.prog 46 #[.int .i64 (i : Int), .slice (some ⟨g, 0, none⟩) 11 11] W' fun e w2 => e = .returned (.string (strOfNums (ofT (i : Int) [[], [94], [36], [92, 65], [92, 122], [92, 98], [92, 66], [92, 98, 123, 103, 125], [92, 66, 123, 103, 125], [92, 98, 123, 119, 125], [92, 66, 123, 119, 125]]))) ∧ w2 = W' := by
  have h := of_texts [⟨#[]⟩, ⟨#[94]⟩, ⟨#[36]⟩, ⟨#[92, 65]⟩, ⟨#[92, 122]⟩, ⟨#[92, 98]⟩, ⟨#[92, 66]⟩, ⟨#[92, 98, 123, 103, 125]⟩, ⟨#[92, 66, 123, 103, 125]⟩, ⟨#[92, 98, 123, 119, 125]⟩, ⟨#[92, 66, 123, 119, 125]⟩] i h1 W' W' g (0, 0) hg
  have e : ([⟨#[]⟩, ⟨#[94]⟩, ⟨#[36]⟩, ⟨#[92, 65]⟩, ⟨#[92, 122]⟩, ⟨#[92, 98]⟩, ⟨#[92, 66]⟩, ⟨#[92, 98, 123, 103, 125]⟩, ⟨#[92, 66, 123, 103, 125]⟩, ⟨#[92, 98, 123, 119, 125]⟩, ⟨#[92, 66, 123, 119, 125]⟩] : List ByteArray)[i]'h1 = strOfNums (ofT (i : Int) [[], [94], [36], [92, 65], [92, 122], [92, 98], [92, 66], [92, 98, 123, 103, 125], [92, 66, 123, 103, 125], [92, 98, 123, 119, 125], [92, 66, 123, 119, 125]]) := by
    have k : ∀ i : Fin 11, ([⟨#[]⟩, ⟨#[94]⟩, ⟨#[36]⟩, ⟨#[92, 65]⟩, ⟨#[92, 122]⟩, ⟨#[92, 98]⟩, ⟨#[92, 66]⟩, ⟨#[92, 98, 123, 103, 125]⟩, ⟨#[92, 66, 123, 103, 125]⟩, ⟨#[92, 98, 123, 119, 125]⟩, ⟨#[92, 66, 123, 119, 125]⟩] : List ByteArray)[i.val]'i.isLt = strOfNums (ofT (i.val : Int) [[], [94], [36], [92, 65], [92, 122], [92, 98], [92, 66], [92, 98, 123, 103, 125], [92, 66, 123, 103, 125], [92, 98, 123, 119, 125], [92, 66, 123, 119, 125]]) := by decide +kernel
    exact k ⟨i, h1⟩
  rw [← e]
  exact h
set_option maxHeartbeats 4000000 in
set_option maxRecDepth 100000 in
theorem of_mode (i : Nat) (h0 : 0 ≤ i) (h1 : i < 3) (W' : World) (g : Nat) (hg : W'.heap[g]? = some (.cells #[.string ⟨#[]⟩, .string ⟨#[63]⟩, .string ⟨#[43]⟩] 9 (0, 0))) : Calls Tryz.prog 46 #[.int .i64 (i : Int), .slice (some ⟨g, 0, none⟩) 3 3] W' fun e w2 => e = .returned (.string (strOfNums (ofT (i : Int) [[], [63], [43]]))) ∧ w2 = W' := by
  have h := of_texts [⟨#[]⟩, ⟨#[63]⟩, ⟨#[43]⟩] i h1 W' W' g (0, 0) hg
  have e : ([⟨#[]⟩, ⟨#[63]⟩, ⟨#[43]⟩] : List ByteArray)[i]'h1 = strOfNums (ofT (i : Int) [[], [63], [43]]) := by
    have k : ∀ i : Fin 3, ([⟨#[]⟩, ⟨#[63]⟩, ⟨#[43]⟩] : List ByteArray)[i.val]'i.isLt = strOfNums (ofT (i.val : Int) [[], [63], [43]]) := by decide +kernel
    exact k ⟨i, h1⟩
  rw [← e]
  exact h
set_option maxHeartbeats 4000000 in
set_option maxRecDepth 100000 in
theorem write_look {n : Nd} (m0 : Int) (hk : n.f0 = 10) (m : Nd) (h0 : 0 < n.f7.length) (hm : n.f7[0]'h0 = m) (hW : WriteC m0 m) (ha : 0 ≤ n.f1) (hb : n.f1 ≤ 3) (w0 w : World) (hv : WVars w0 m0) (B b : Nat) (acc : List Int) (v : Value) (h : RdN w0 n v) (E : Ew w0 w B b acc) (hl : acc.length + ((ofT n.f1 [[40, 63, 61], [40, 63, 33], [40, 63, 60, 61], [40, 63, 60, 33]]) ++ writeN m ++ [41]).length ≤ 100000000000000) :
    Calls Tryz.prog 28 #[.pointer (some ⟨b, 0, none⟩), v] w (RetU B b acc ((ofT n.f1 [[40, 63, 61], [40, 63, 33], [40, 63, 60, 61], [40, 63, 60, 33]]) ++ writeN m ++ [41]) w) := by
  obtain ⟨A6, c6, A7, c7, e, g1, g2, g3, hC⟩ := h
  subst e
  have hrd : RdN w0 n (ndV n A6 c6 A7 c7) := ⟨A6, c6, A7, c7, rfl, g1, g2, g3, hC⟩
  have HE := Aside0.mk E
  have hbn : b ≠ w.heap.size := Nat.ne_of_lt E.wr.lt
  have HBX := Aside0.mk (fun o => E.below (below_alloc (Below.refl w.heap.size w) o))
  have HL := Aside0.mk hl
  have t6 : (n.f0 == 6) = false := by rw [beq_eq_false_iff_ne, hk]; decide
  have t7 : (n.f0 == 7) = false := by rw [beq_eq_false_iff_ne, hk]; decide
  have t1 : (n.f0 == 1) = false := by rw [beq_eq_false_iff_ne, hk]; decide
  have t2 : (n.f0 == 2) = false := by rw [beq_eq_false_iff_ne, hk]; decide
  have t3 : (n.f0 == 3) = false := by rw [beq_eq_false_iff_ne, hk]; decide
  have t5 : (n.f0 == 5) = false := by rw [beq_eq_false_iff_ne, hk]; decide
  have t8 : (n.f0 == 8) = false := by rw [beq_eq_false_iff_ne, hk]; decide
  have t9 : (n.f0 == 9) = false := by rw [beq_eq_false_iff_ne, hk]; decide
  have t10 : (n.f0 == 10) = true := by rw [hk]; rfl
  have hof : ∀ (W' : World) (g : Nat), W'.heap[g]? = some (.cells #[.string ⟨#[40, 63, 61]⟩, .string ⟨#[40, 63, 33]⟩, .string ⟨#[40, 63, 60, 61]⟩, .string ⟨#[40, 63, 60, 33]⟩] 9 (0, 0)) → Calls Tryz.prog 46 #[.int .i64 n.f1, .slice (some ⟨g, 0, none⟩) 4 4] W' fun e w2 => e = .returned (.string (strOfNums (ofT n.f1 [[40, 63, 61], [40, 63, 33], [40, 63, 60, 61], [40, 63, 60, 33]]))) ∧ w2 = W' := fun W' g hg => by
    obtain ⟨i, hi⟩ : ∃ i : Nat, n.f1 = (i : Int) := ⟨n.f1.toNat, by omega⟩
    rw [hi]
    exact of_look i (by omega) (by omega) W' g hg
  obtain ⟨OT, hOT⟩ : ∃ OT, ofT n.f1 [[40, 63, 61], [40, 63, 33], [40, 63, 60, 61], [40, 63, 60, 33]] = OT := ⟨_, rfl⟩
  rw [hOT] at hof hl HL ⊢
  have HOF := Aside0.mk hof
  obtain ⟨R, hR⟩ : ∃ R, (OT) ++ writeN m ++ [41] = R := ⟨_, rfl⟩
  rw [hR]
  have HX := Aside0.mk (fun W (E' : Ew w0 W B b acc) so hso => wrap_any m0 h0 hm hW (OT) so hso w0 W hv B b acc _ hrd E' hl)
  rw [hR] at HX
  clear hv E hl hk hC hrd g1 g2 g3 h0 hm hW hR ha hb hof hOT HBX
  go_enter Tryz.func28, Tryz.ntmps28
  go_wp2_with fail
  have hx4 := heap_alloc_new w (.cells #[.int .i64 n.f0, .int .i64 n.f1, .int .i64 n.f2, .int .i64 n.f3, .bool n.f4, .string n.f5, .slice A6 n.f6.length c6, .slice A7 n.f7.length c7] 25)
  have hb4 : Below w.heap.size w (w.alloc (.cells #[.int .i64 n.f0, .int .i64 n.f1, .int .i64 n.f2, .int .i64 n.f3, .bool n.f4, .string n.f5, .slice A6 n.f6.length c6, .slice A7 n.f7.length c7] 25)) := below_alloc (Below.refl _ _) _
  have hs4 : (w.alloc (.cells #[.int .i64 n.f0, .int .i64 n.f1, .int .i64 n.f2, .int .i64 n.f3, .bool n.f4, .string n.f5, .slice A6 n.f6.length c6, .slice A7 n.f7.length c7] 25)).heap.size = w.heap.size + 1 := by simp
  obtain ⟨W4, hW4⟩ : ∃ W4, w.alloc (.cells #[.int .i64 n.f0, .int .i64 n.f1, .int .i64 n.f2, .int .i64 n.f3, .bool n.f4, .string n.f5, .slice A6 n.f6.length c6, .slice A7 n.f7.length c7] 25) = W4 := ⟨_, rfl⟩
  rw [hW4] at hx4 hb4 hs4 ⊢
  clear hW4
  have HX4 := Aside0.mk hx4
  have HB4 := Aside0.mk hb4
  have HS4 := Aside0.mk hs4
  refine start_ (n := 7) (S := fun w' => w'.heap[w.heap.size]? = some (.cells #[.int .i64 n.f0, .int .i64 n.f1, .int .i64 n.f2, .int .i64 n.f3, .bool n.f4, .string n.f5, .slice A6 n.f6.length c6, .slice A7 n.f7.length c7] 25 (0, 0))) (ds := [6]) #[false, false, false, false, false, false, false] (by kernel_rfl) rfl rfl (by show W4.heap[w.heap.size]? = _; exact hx4) (fun hHeld => ?_)
  clear hx4 hb4 hs4
  refine pure_ (i := 0) (N := some 107) (v := ?_) (a' := ?_) #[true, false, false, false, false, false, false] rfl rfl (by kernel_rfl) (fun _ _ _ h => h) (Or.inl ⟨by rfl, ?_⟩) ?_ ?_
  rotate_left
  · intro w'
    go_simp
    with_reducible rfl
  rotate_left
  · simp only [Act.put, List.setIfInBounds_toArray, List.set_cons_zero, List.set_cons_succ, i64_w, i32_w]
    rfl
  refine pure_ (i := 1) (N := some 108) (v := ?_) (a' := ?_) #[true, true, false, false, false, false, false] rfl rfl (by kernel_rfl) (fun _ _ _ h => h) (Or.inl ⟨by rfl, ?_⟩) ?_ ?_
  rotate_left
  · intro w'
    go_simp
    with_reducible rfl
  rotate_left
  · simp only [Act.put, List.setIfInBounds_toArray, List.set_cons_zero, List.set_cons_succ, i64_w, i32_w]
    rfl
  refine take_ (i := 2) (N := some 109) (v := ?_) (a' := ?_) #[true, true, true, false, false, false, false] rfl rfl (by kernel_rfl) (fun _ _ _ h => h) (Or.inl ⟨by rfl, ?_⟩) hHeld ?_ ?_
  rotate_left
  · rintro w' hx
    have q0 := rowc hx 0 _ rfl
    have q1 := rowc hx 1 _ rfl
    have q2 := rowc hx 2 _ rfl
    have q3 := rowc hx 3 _ rfl
    have q4 := rowc hx 4 _ rfl
    have q5 := rowc hx 5 _ rfl
    have q6 := rowc hx 6 _ rfl
    have q7 := rowc hx 7 _ rfl
    go_simp
    with_reducible rfl
  rotate_left
  · simp only [Act.put, List.setIfInBounds_toArray, List.set_cons_zero, List.set_cons_succ, i64_w, i32_w]
    rfl
  refine take_ (i := 5) (N := some 112) (v := ?_) (a' := ?_) #[true, true, true, false, false, true, false] rfl rfl (by kernel_rfl) (fun _ _ _ h => h) (Or.inl ⟨by rfl, ?_⟩) hHeld ?_ ?_
  rotate_left
  · rintro w' hx
    have q0 := rowc hx 0 _ rfl
    have q1 := rowc hx 1 _ rfl
    have q2 := rowc hx 2 _ rfl
    have q3 := rowc hx 3 _ rfl
    have q4 := rowc hx 4 _ rfl
    have q5 := rowc hx 5 _ rfl
    have q6 := rowc hx 6 _ rfl
    have q7 := rowc hx 7 _ rfl
    go_simp
    with_reducible rfl
  rotate_left
  · simp only [Act.put, List.setIfInBounds_toArray, List.set_cons_zero, List.set_cons_succ, i64_w, i32_w]
    rfl
  refine one_ (i := 3) (N := some 110) #[true, true, true, true, false, true, false] rfl rfl (by kernel_rfl) (by decide) (fun K hK => ?_)
  refine value_ (v := .slice (some ⟨W4.drew.heap.size, 0, none⟩) 4 4) (w1 := W4.drew.alloc (.cells #[.string ⟨#[40, 63, 61]⟩, .string ⟨#[40, 63, 33]⟩, .string ⟨#[40, 63, 60, 61]⟩, .string ⟨#[40, 63, 60, 33]⟩] 9)) (by rfl) rfl ?_ ?_
  · go_simp
  have hbB : Below W4.heap.size W4 (W4.drew.alloc (.cells #[.string ⟨#[40, 63, 61]⟩, .string ⟨#[40, 63, 33]⟩, .string ⟨#[40, 63, 60, 61]⟩, .string ⟨#[40, 63, 60, 33]⟩] 9)) := below_alloc (below_drew (Below.refl _ _)) _
  have hnB := heap_alloc_new W4.drew (.cells #[.string ⟨#[40, 63, 61]⟩, .string ⟨#[40, 63, 33]⟩, .string ⟨#[40, 63, 60, 61]⟩, .string ⟨#[40, 63, 60, 33]⟩] 9)
  obtain ⟨W5, hW5⟩ : ∃ W5, W4.drew.alloc (.cells #[.string ⟨#[40, 63, 61]⟩, .string ⟨#[40, 63, 33]⟩, .string ⟨#[40, 63, 60, 61]⟩, .string ⟨#[40, 63, 60, 33]⟩] 9) = W5 := ⟨_, rfl⟩
  rw [hW5] at hbB hnB ⊢
  clear hW5
  have HB5 := Aside0.mk (below_to HB4.out hbB)
  have HN5 := Aside0.mk hnB
  have HX5 := Aside0.mk ((hbB.block w.heap.size (by have := HS4.out; omega)).trans HX4.out)
  clear hbB hnB
  refine hK.out _ _ HX5.out (fun hHeld => ?_)
  clear hK K
  refine norm_ (a' := ?_) ?_ ?_
  rotate_left
  · show Act.put _ (some 110) _ = _
    simp only [Act.put, List.setIfInBounds_toArray, List.set_cons_zero, List.set_cons_succ, i64_w, i32_w]
    rfl
  refine one_ (i := 4) (N := some 111) #[true, true, true, true, true, true, false] rfl rfl (by kernel_rfl) (by decide) (fun K hK => ?_)
  refine goes_ Tryz.func46 (by kernel_rfl) rfl #[.int .i64 n.f1, .slice (some ⟨W4.drew.heap.size, 0, none⟩) 4 4] (by rfl) rfl rfl (by simp only [List.map_toArray, List.map_cons, List.map_nil]; rfl) ?_
  refine (HOF.out _ _ HN5.out).mono ?_
  rintro e w2 ⟨rfl, rfl⟩
  refine ⟨_, rfl, ?_⟩
  refine hK.out _ _ HX5.out (fun hHeld => ?_)
  clear hK K
  refine norm_ (a' := ?_) ?_ ?_
  rotate_left
  · show Act.put _ (some 111) _ = _
    simp only [Act.put, List.setIfInBounds_toArray, List.set_cons_zero, List.set_cons_succ, i64_w, i32_w]
    rfl
  refine last_ (i := 6) (N := some 113) #[true, true, true, true, true, true, true] rfl rfl (by kernel_rfl) (by decide) (fun K hK => ?_)
  refine goes_ Tryz.func47 (by kernel_rfl) rfl #[.pointer (some ⟨b, 0, none⟩), .string (strOfNums OT), (.agg #[.int .i64 n.f0, .int .i64 n.f1, .int .i64 n.f2, .int .i64 n.f3, .bool n.f4, .string n.f5, .slice A6 n.f6.length c6, .slice A7 n.f7.length c7])] (by rfl) rfl rfl (by simp only [List.map_toArray, List.map_cons, List.map_nil]; rfl) ?_
  refine (HX.out _ (HE.out.below HB5.out) _ rfl).mono ?_
  rintro e w9 ⟨rfl, hw9⟩
  refine ⟨_, rfl, ?_⟩
  refine hK.out _ _ ?_
  clear hK K
  refine norm_ (a' := ?_) ?_ ?_
  rotate_left
  · show Act.put _ (some 113) _ = _
    simp only [Act.put, List.setIfInBounds_toArray, List.set_cons_zero, List.set_cons_succ, i64_w, i32_w]
    rfl
  refine done_ (by kernel_rfl) ?_
  have HT := Aside0.mk (Wrote.after HE.out.wr.base HB5.out hw9)
  clear hw9 hHeld
  go_wp2_with fail
  go_end0
  exact ⟨rfl, HT.out⟩
set_option maxHeartbeats 4000000 in
set_option maxRecDepth 100000 in
theorem write_assert {n : Nd} (m0 : Int) (hk : n.f0 = 12) (ha : 1 ≤ n.f1) (hb : n.f1 ≤ 10) (w0 w : World) (hv : WVars w0 m0) (B b : Nat) (acc : List Int) (v : Value) (h : RdN w0 n v) (E : Ew w0 w B b acc) (hl : acc.length + (ofT n.f1 [[], [94], [36], [92, 65], [92, 122], [92, 98], [92, 66], [92, 98, 123, 103, 125], [92, 66, 123, 103, 125], [92, 98, 123, 119, 125], [92, 66, 123, 119, 125]]).length ≤ 100000000000000) :
    Calls Tryz.prog 28 #[.pointer (some ⟨b, 0, none⟩), v] w (RetU B b acc (ofT n.f1 [[], [94], [36], [92, 65], [92, 122], [92, 98], [92, 66], [92, 98, 123, 103, 125], [92, 66, 123, 103, 125], [92, 98, 123, 119, 125], [92, 66, 123, 119, 125]]) w) := by
  obtain ⟨A6, c6, A7, c7, e, g1, g2, g3, hC⟩ := h
  subst e
  have hrd : RdN w0 n (ndV n A6 c6 A7 c7) := ⟨A6, c6, A7, c7, rfl, g1, g2, g3, hC⟩
  have HE := Aside0.mk E
  have hbn : b ≠ w.heap.size := Nat.ne_of_lt E.wr.lt
  have HBX := Aside0.mk (fun o => E.below (below_alloc (Below.refl w.heap.size w) o))
  have HL := Aside0.mk hl
  have t6 : (n.f0 == 6) = false := by rw [beq_eq_false_iff_ne, hk]; decide
  have t7 : (n.f0 == 7) = false := by rw [beq_eq_false_iff_ne, hk]; decide
  have t1 : (n.f0 == 1) = false := by rw [beq_eq_false_iff_ne, hk]; decide
  have t2 : (n.f0 == 2) = false := by rw [beq_eq_false_iff_ne, hk]; decide
  have t3 : (n.f0 == 3) = false := by rw [beq_eq_false_iff_ne, hk]; decide
  have t5 : (n.f0 == 5) = false := by rw [beq_eq_false_iff_ne, hk]; decide
  have t8 : (n.f0 == 8) = false := by rw [beq_eq_false_iff_ne, hk]; decide
  have t9 : (n.f0 == 9) = false := by rw [beq_eq_false_iff_ne, hk]; decide
  have t10 : (n.f0 == 10) = false := by rw [beq_eq_false_iff_ne, hk]; decide
  have t11 : (n.f0 == 11) = false := by rw [beq_eq_false_iff_ne, hk]; decide
  have t12 : (n.f0 == 12) = true := by rw [hk]; rfl
  have hof : ∀ (W' : World) (g : Nat), W'.heap[g]? = some (.cells #[.string ⟨#[]⟩, .string ⟨#[94]⟩, .string ⟨#[36]⟩, .string ⟨#[92, 65]⟩, .string ⟨#[92, 122]⟩, .string ⟨#[92, 98]⟩, .string ⟨#[92, 66]⟩, .string ⟨#[92, 98, 123, 103, 125]⟩, .string ⟨#[92, 66, 123, 103, 125]⟩, .string ⟨#[92, 98, 123, 119, 125]⟩, .string ⟨#[92, 66, 123, 119, 125]⟩] 9 (0, 0)) → Calls Tryz.prog 46 #[.int .i64 n.f1, .slice (some ⟨g, 0, none⟩) 11 11] W' fun e w2 => e = .returned (.string (strOfNums (ofT n.f1 [[], [94], [36], [92, 65], [92, 122], [92, 98], [92, 66], [92, 98, 123, 103, 125], [92, 66, 123, 103, 125], [92, 98, 123, 119, 125], [92, 66, 123, 119, 125]]))) ∧ w2 = W' := fun W' g hg => by
    obtain ⟨i, hi⟩ : ∃ i : Nat, n.f1 = (i : Int) := ⟨n.f1.toNat, by omega⟩
    rw [hi]
    exact of_assert i (by omega) (by omega) W' g hg
  obtain ⟨OT, hOT⟩ : ∃ OT, ofT n.f1 [[], [94], [36], [92, 65], [92, 122], [92, 98], [92, 66], [92, 98, 123, 103, 125], [92, 66, 123, 103, 125], [92, 98, 123, 119, 125], [92, 66, 123, 119, 125]] = OT := ⟨_, rfl⟩
  rw [hOT] at hof hl HL ⊢
  have HOF := Aside0.mk hof
  clear hv E hl hk hC hrd g1 g2 g3 ha hb hof hOT
  go_enter Tryz.func28, Tryz.ntmps28
  go_wp2_with fail
  have hn := heap_alloc_new (w.alloc (.cells #[.int .i64 n.f0, .int .i64 n.f1, .int .i64 n.f2, .int .i64 n.f3, .bool n.f4, .string n.f5, .slice A6 n.f6.length c6, .slice A7 n.f7.length c7] 25)) (.cells #[.string ⟨#[]⟩, .string ⟨#[94]⟩, .string ⟨#[36]⟩, .string ⟨#[92, 65]⟩, .string ⟨#[92, 122]⟩, .string ⟨#[92, 98]⟩, .string ⟨#[92, 66]⟩, .string ⟨#[92, 98, 123, 103, 125]⟩, .string ⟨#[92, 66, 123, 103, 125]⟩, .string ⟨#[92, 98, 123, 119, 125]⟩, .string ⟨#[92, 66, 123, 119, 125]⟩] 9)
  rw [show (w.alloc (.cells #[.int .i64 n.f0, .int .i64 n.f1, .int .i64 n.f2, .int .i64 n.f3, .bool n.f4, .string n.f5, .slice A6 n.f6.length c6, .slice A7 n.f7.length c7] 25)).heap.size = w.heap.size + 1 by simp] at hn
  refine (HOF.out _ _ hn).mono ?_
  clear hn
  rintro e w2 ⟨rfl, rfl⟩
  go_wp2_with fail
  refine (bwS B b (acc) (OT) _ _ ((HBX.out _).below (below_alloc (Below.refl _ _) _)).wr rfl (Nat.le_trans HL.out (by omega))).mono ?_
  rintro e w9 ⟨⟨u9, rfl⟩, hw9⟩
  have HT := Aside0.mk (Wrote.after HE.out.wr.base (below_to (below_alloc (Below.refl w.heap.size w) _) (below_alloc (Below.refl _ _) _)) hw9)
  clear hw9
  go_wp2_with fail
  go_end0
  exact ⟨rfl, HT.out⟩
set_option maxHeartbeats 4000000 in
set_option maxRecDepth 100000 in
theorem write_back {n : Nd} (m0 : Int) (hk : n.f0 = 13) (ha : 0 ≤ n.f2) (hb : n.f2 ≤ 100) (w0 w : World) (hv : WVars w0 m0) (B b : Nat) (acc : List Int) (v : Value) (h : RdN w0 n v) (E : Ew w0 w B b acc) (hl : acc.length + ([92, 107, 123] ++ decL n.f2 ++ [125]).length ≤ 100000000000000) :
    Calls Tryz.prog 28 #[.pointer (some ⟨b, 0, none⟩), v] w (RetU B b acc ([92, 107, 123] ++ decL n.f2 ++ [125]) w) := by
  obtain ⟨A6, c6, A7, c7, e, g1, g2, g3, hC⟩ := h
  subst e
  have hrd : RdN w0 n (ndV n A6 c6 A7 c7) := ⟨A6, c6, A7, c7, rfl, g1, g2, g3, hC⟩
  have HE := Aside0.mk E
  have hbn : b ≠ w.heap.size := Nat.ne_of_lt E.wr.lt
  have HBX := Aside0.mk (fun o => E.below (below_alloc (Below.refl w.heap.size w) o))
  have HL := Aside0.mk hl
  have t6 : (n.f0 == 6) = false := by rw [beq_eq_false_iff_ne, hk]; decide
  have t7 : (n.f0 == 7) = false := by rw [beq_eq_false_iff_ne, hk]; decide
  have t1 : (n.f0 == 1) = false := by rw [beq_eq_false_iff_ne, hk]; decide
  have t2 : (n.f0 == 2) = false := by rw [beq_eq_false_iff_ne, hk]; decide
  have t3 : (n.f0 == 3) = false := by rw [beq_eq_false_iff_ne, hk]; decide
  have t5 : (n.f0 == 5) = false := by rw [beq_eq_false_iff_ne, hk]; decide
  have t8 : (n.f0 == 8) = false := by rw [beq_eq_false_iff_ne, hk]; decide
  have t9 : (n.f0 == 9) = false := by rw [beq_eq_false_iff_ne, hk]; decide
  have t10 : (n.f0 == 10) = false := by rw [beq_eq_false_iff_ne, hk]; decide
  have t11 : (n.f0 == 11) = false := by rw [beq_eq_false_iff_ne, hk]; decide
  have t12 : (n.f0 == 12) = false := by rw [beq_eq_false_iff_ne, hk]; decide
  have t13 : (n.f0 == 13) = true := by rw [hk]; rfl
  have HI : Aside0 (∀ W, Below w0.heap.size w0 W → Calls Tryz.prog 48 #[.int .i64 n.f2] W fun e w' => e = .returned (.string (strOfNums (decL n.f2))) ∧ Below W.heap.size W w') := ⟨fun W hW => by
    have h := itoa_any n.f2 (by omega) (by omega) W (hv.tab W hW)
    rw [dec_itoa n.f2 ha hb] at h
    exact h⟩
  have hs : (strOfNums (decL n.f2)).size ≤ 1000 := by rw [Lib.size_eq, str_data, List.length_map]; unfold decL; split; simp; split <;> simp
  have HS : Aside0 ((⟨#[92, 107, 123]⟩ ++ strOfNums (decL n.f2)) ++ ⟨#[125]⟩ = strOfNums ([92, 107, 123] ++ decL n.f2 ++ [125])) := ⟨by rw [str_app, str_app]; rfl⟩
  obtain ⟨SA, hSA⟩ : ∃ SA, strOfNums (decL n.f2) = SA := ⟨_, rfl⟩
  rw [hSA] at HI hs HS
  clear hv E hl hk hC hrd g1 g2 g3 ha hb hSA
  go_enter Tryz.func28, Tryz.ntmps28
  go_wp2_with fail
  refine (HI.out _ (HBX.out _).bel).mono ?_
  rintro e v1 ⟨rfl, hb1⟩
  have HB1 := Aside0.mk (below_to (below_alloc (Below.refl w.heap.size w) _) hb1)
  clear hb1
  go_wp2_with fail
  refine (bwS B b (acc) ([92, 107, 123] ++ decL n.f2 ++ [125]) _ _ ((HE.out.below HB1.out).wr) HS.out (Nat.le_trans HL.out (by omega))).mono ?_
  rintro e w9 ⟨⟨u9, rfl⟩, hw9⟩
  have HT := Aside0.mk (Wrote.after HE.out.wr.base HB1.out hw9)
  clear hw9
  go_wp2_with fail
  go_end0
  exact ⟨rfl, HT.out⟩

end Go.Proofs.YtkipjalfgdfaiaaGreatDoor
namespace Go.Proofs.YtkipjalfgdfaiaaGreatDoor
set_option linter.unusedVariables false
set_option linter.unusedSimpArgs false
open Go.RowKit Go.Proofs.YtkipjalfgdfaiaaGreatDoorW.PrintWords Go.Proofs.YtkipjalfgdfaiaaGreatDoorW.PrintLast Go.Proofs.YtkipjalfgdfaiaaGreatDoorW.PrintMore Go.Proofs.YtkipjalfgdfaiaaGreatDoor.PTk

attribute [local go_sem ↓] Go.wp_at_zero Go.wp_at_succ
theorem wK_nil : writeK [] = [] := by rw [writeK]
theorem wK_cons (n : Nd) (ns : List Nd) : writeK (n :: ns) = writeN n ++ writeK ns := by rw [writeK]
set_option maxHeartbeats 4000000 in
set_option maxRecDepth 100000 in
theorem write_seq {n : Nd} (m0 : Int) (hk : n.f0 = 6) (hlen : n.f7.length ≤ 2147483648) (hW : ∀ m ∈ n.f7, WriteC m0 m) (w0 w : World) (hv : WVars w0 m0) (B b : Nat) (acc : List Int) (v : Value) (h : RdN w0 n v) (E : Ew w0 w B b acc) (hl : acc.length + (writeK n.f7).length ≤ 100000000000000) :
    Calls Tryz.prog 28 #[.pointer (some ⟨b, 0, none⟩), v] w (RetU B b acc (writeK n.f7) w) := by
  obtain ⟨A6, c6, A7, c7, e, g1, g2, g3, hC⟩ := h
  subst e
  have HE := Aside0.mk E
  have hbn : b ≠ w.heap.size := Nat.ne_of_lt E.wr.lt
  have t6 : (n.f0 == 6) = true := by rw [hk]; rfl
  have HKD := Aside0.mk (fun j hj => kids_at hC j hj)
  have HLEN := Aside0.mk hlen
  have HWC := Aside0.mk hW
  have HV := Aside0.mk hv
  have HES : Aside0 (∀ o, Wrote B b acc [] w (w.alloc o)) := ⟨fun o => Wrote.after E.wr.base (below_alloc (Below.refl _ _) o) (Wrote.none (E.wr.below (below_alloc (Below.refl _ _) o)))⟩
  obtain ⟨R, hR⟩ : ∃ R, writeK n.f7 = R := ⟨_, rfl⟩
  rw [hR] at hl ⊢
  have HR0 := Aside0.mk hR
  have HL := Aside0.mk hl
  clear hk hlen hW hv E hl hC g1 g2 g3 hR
  go_enter Tryz.func28, Tryz.ntmps28
  go_wp2_with fail
  go_loopg [15] n.f7.length (fun gk vj w' => ∃ (j : Nat) (done : List Int), vj = .int .i64 (j : Int) ∧ Aside0 (j ≤ n.f7.length ∧ gk = n.f7.length - j) ∧ Aside0 (done ++ writeK (n.f7.drop j) = R) ∧ Aside0 (Wrote B b acc done w w'))
  case atStart => exact ⟨0, [], by first | rfl | simp, ⟨Nat.zero_le _, rfl⟩, ⟨by rw [List.drop_zero]; exact HR0.out⟩, ⟨HES.out _⟩⟩
  case round =>
    obtain ⟨j, done, rfl, HA, HK, HT⟩ := hrel
    by_cases hj : j < n.f7.length
    rotate_left
    · have hjb : decide (j < n.f7.length) = false := decide_eq_false hj
      have HRN : Aside0 (R = done) := ⟨by rw [← HK.out, List.drop_eq_nil_of_le (by omega), wK_nil, List.append_nil]⟩
      clear hj
      go_wp2_with fail
      go_end0
      rw [HRN.out]
      exact ⟨rfl, HT.out⟩
    have hjd : decide (j < n.f7.length) = true := decide_eq_true hj
    obtain ⟨ad, P6, p6, P7, p7, rfl, hk, rk⟩ := HKD.out j hj
    have hmem := List.getElem_mem hj
    have hkc := HK.out
    rw [List.drop_eq_getElem_cons hj, wK_cons] at hkc
    have hw := HWC.out _ hmem
    have HEW := Aside0.mk (HE.out.step HT.out)
    obtain ⟨x0, x1, x2, x3, x4, x5, x6, x7⟩ := hk.up HEW.out.bel
    obtain ⟨m, hm⟩ : ∃ m, n.f7[j] = m := ⟨_, rfl⟩
    rw [hm] at x0 x1 x2 x3 x4 x5 x6 x7 hkc hw rk
    obtain ⟨WM, hWM⟩ : ∃ WM, writeN m = WM := ⟨_, rfl⟩
    rw [hWM] at hkc
    have HKC := Aside0.mk hkc
    have HJ := Aside0.mk hj
    have HBX := Aside0.mk (fun o => HEW.out.below (below_alloc (Below.refl wr.heap.size wr) o))
    have HLL : Aside0 (acc.length + done.length + WM.length ≤ 100000000000000) := ⟨by have h1 := HL.out; rw [← hkc] at h1; simp at h1; omega⟩
    have HPP := Aside0.mk (fun W (E' : Ew w0 W B b (acc ++ done)) => hw w0 W B b (acc ++ done) _ HV.out rk E' (by rw [hWM]; have := HLL.out; simp; omega))
    rw [hWM] at HPP
    clear hk hmem hkc hm rk hw hWM
    go_wp2_with fail
    refine (HPP.out _ (HBX.out _)).mono ?_
    rintro e v2 ⟨rfl, hw2⟩
    have hw := Wrote.after HEW.out.wr.base (below_alloc (Below.refl wr.heap.size wr) _) hw2
    clear hw2 x0 x1 x2 x3 x4 x5 x6 x7
    have HT2 := Aside0.mk (Wrote.trans HT.out hw)
    have HK2 : Aside0 ((done ++ WM) ++ writeK (n.f7.drop (j + 1)) = R) := ⟨by rw [List.append_assoc]; exact HKC.out⟩
    clear hw
    go_wp2_with fail
    go_roundg (n.f7.length - j - 1)
    case measure => have := HA.out; have := HJ.out; omega
    case rel => exact ⟨j + 1, done ++ WM, by have h1 := HLEN.out; have h2 := HJ.out; first | rfl | (rw [w64c (by omega) (by omega)]; rfl) | (exact congrArg _ (by omega)), ⟨by have := HJ.out; omega, by omega⟩, HK2, HT2⟩
theorem countW_len9 (a b : Int) : (countW a b).length ≤ 9 := by
  have hd : ∀ n : Int, (decL n).length ≤ 3 := fun n => by unfold decL; split; simp; split <;> simp
  unfold countW
  have ha := hd a
  have hb := hd b
  split
  · simp
  · split
    · simp
    · split
      · simp
      · split
        · simp; omega
        · split <;> (simp; omega)
/-- Alternatives from the j-th one on. -/
def barsW (j : Nat) (ns : List Nd) : List Int := if j = 0 then altW ns else barW ns
set_option maxHeartbeats 4000000 in
set_option maxRecDepth 100000 in
theorem write_alt {n : Nd} (m0 : Int) (hk : n.f0 = 7) (hlen : n.f7.length ≤ 2147483648) (hW : ∀ m ∈ n.f7, WriteC m0 m) (w0 w : World) (hv : WVars w0 m0) (B b : Nat) (acc : List Int) (v : Value) (h : RdN w0 n v) (E : Ew w0 w B b acc) (hl : acc.length + (altW n.f7).length ≤ 100000000000000) :
    Calls Tryz.prog 28 #[.pointer (some ⟨b, 0, none⟩), v] w (RetU B b acc (altW n.f7) w) := by
  obtain ⟨A6, c6, A7, c7, e, g1, g2, g3, hC⟩ := h
  subst e
  have HE := Aside0.mk E
  have hbn : b ≠ w.heap.size := Nat.ne_of_lt E.wr.lt
  have t6 : (n.f0 == 6) = false := by rw [beq_eq_false_iff_ne, hk]; decide
  have t7 : (n.f0 == 7) = true := by rw [hk]; rfl
  have HKD := Aside0.mk (fun j hj => kids_at hC j hj)
  have HLEN := Aside0.mk hlen
  have HWC := Aside0.mk hW
  have HV := Aside0.mk hv
  have HES : Aside0 (∀ o, Wrote B b acc [] w (w.alloc o)) := ⟨fun o => Wrote.after E.wr.base (below_alloc (Below.refl _ _) o) (Wrote.none (E.wr.below (below_alloc (Below.refl _ _) o)))⟩
  obtain ⟨R, hR⟩ : ∃ R, altW n.f7 = R := ⟨_, rfl⟩
  rw [hR] at hl ⊢
  have HR0 := Aside0.mk hR
  have HL := Aside0.mk hl
  clear hk hlen hW hv E hl hC g1 g2 g3 hR
  go_enter Tryz.func28, Tryz.ntmps28
  go_wp2_with fail
  go_loopg [28] n.f7.length (fun gk vj w' => ∃ (j : Nat) (done : List Int), vj = .int .i64 (j : Int) ∧ Aside0 (j ≤ n.f7.length ∧ gk = n.f7.length - j) ∧ Aside0 (done ++ barsW j (n.f7.drop j) = R) ∧ Aside0 (Wrote B b acc done w w'))
  case atStart => exact ⟨0, [], by first | rfl | simp, ⟨Nat.zero_le _, rfl⟩, ⟨by rw [List.drop_zero]; exact HR0.out⟩, ⟨HES.out _⟩⟩
  case round =>
    obtain ⟨j, done, rfl, HA, HK, HT⟩ := hrel
    by_cases hj : j < n.f7.length
    rotate_left
    · have hjb : decide (j < n.f7.length) = false := decide_eq_false hj
      have HRN : Aside0 (R = done) := ⟨by
        rw [← HK.out, List.drop_eq_nil_of_le (by omega)]
        unfold barsW
        split
        · rw [altW, List.append_nil]
        · rw [barW, List.append_nil]⟩
      clear hj
      go_wp2_with fail
      go_end0
      rw [HRN.out]
      exact ⟨rfl, HT.out⟩
    have hjd : decide (j < n.f7.length) = true := decide_eq_true hj
    obtain ⟨ad, P6, p6, P7, p7, rfl, hk, rk⟩ := HKD.out j hj
    have hmem := List.getElem_mem hj
    have hkc := HK.out
    rw [List.drop_eq_getElem_cons hj] at hkc
    have hw := HWC.out _ hmem
    have HEW := Aside0.mk (HE.out.step HT.out)
    obtain ⟨m, hm⟩ : ∃ m, n.f7[j] = m := ⟨_, rfl⟩
    obtain ⟨WM, hWM⟩ : ∃ WM, writeN m = WM := ⟨_, rfl⟩
    rw [hm] at hkc hw rk hk
    have HJ := Aside0.mk hj
    have HV2 := Aside0.mk rk
    have HKM := Aside0.mk hk
    by_cases hj0 : j = 0
    · have hjz : decide (0 < j) = false := decide_eq_false (by omega)
      have HKC : Aside0 (done ++ (WM ++ barsW (j + 1) (n.f7.drop (j + 1))) = R) := ⟨by rw [← hkc]; unfold barsW; rw [if_neg (by omega), if_pos hj0, altW, hWM]⟩
      obtain ⟨x0, x1, x2, x3, x4, x5, x6, x7⟩ := hk.up HEW.out.bel
      have HBX := Aside0.mk (fun o => HEW.out.below (below_alloc (Below.refl wr.heap.size wr) o))
      have HLL : Aside0 (acc.length + done.length + WM.length ≤ 100000000000000) := ⟨by have h1 := HL.out; rw [← HKC.out] at h1; simp at h1; omega⟩
      have HPP := Aside0.mk (fun W (E' : Ew w0 W B b (acc ++ done)) => hw w0 W B b (acc ++ done) _ HV.out rk E' (by rw [hWM]; have := HLL.out; simp; omega))
      rw [hWM] at HPP
      clear hk hmem hkc hm rk hw hWM hj0
      go_wp2_with fail
      refine (HPP.out _ (HBX.out _)).mono ?_
      rintro e v2 ⟨rfl, hw2⟩
      have hw := Wrote.after HEW.out.wr.base (below_alloc (Below.refl wr.heap.size wr) _) hw2
      clear hw2 x0 x1 x2 x3 x4 x5 x6 x7
      have HT2 := Aside0.mk (Wrote.trans HT.out hw)
      have HK2 : Aside0 ((done ++ WM) ++ barsW (j + 1) (n.f7.drop (j + 1)) = R) := ⟨by rw [List.append_assoc]; exact HKC.out⟩
      clear hw
      go_wp2_with fail
      go_roundg (n.f7.length - j - 1)
      case measure => have := HA.out; have := HJ.out; omega
      case rel => exact ⟨j + 1, done ++ WM, by have h1 := HLEN.out; have h2 := HJ.out; first | rfl | (rw [w64c (by omega) (by omega)]; rfl) | (exact congrArg _ (by omega)), ⟨by have := HJ.out; omega, by omega⟩, HK2, HT2⟩
    · have hjz : decide (0 < j) = true := decide_eq_true (by omega)
      have HKC : Aside0 (done ++ ([124] ++ WM ++ barsW (j + 1) (n.f7.drop (j + 1))) = R) := ⟨by rw [← hkc]; unfold barsW; rw [if_neg (by omega), if_neg hj0, barW, hWM]; simp⟩
      obtain ⟨x0, x1, x2, x3, x4, x5, x6, x7⟩ := hk.up HEW.out.bel
      have hbr : b ≠ wr.heap.size := Nat.ne_of_lt HEW.out.wr.lt
      have HBX := Aside0.mk (fun o => HEW.out.below (below_alloc (Below.refl wr.heap.size wr) o))
      have HXX : Aside0 (∀ (o : Obj) (W : World), Keep b (wr.alloc o) W → ∀ cs T, o = .cells cs T (0, 0) → T ≠ 5 → W.heap[wr.heap.size]? = some (.cells cs T (0, 0))) := ⟨fun o W hk cs T ho hT => hk wr.heap.size cs T (0, 0) hT (Ne.symm hbr) (by rw [← ho]; exact heap_alloc_new wr o)⟩
      have HLL : Aside0 (acc.length + done.length + 1 + WM.length ≤ 100000000000000) := ⟨by have h1 := HL.out; rw [← HKC.out] at h1; simp at h1; omega⟩
      have HPP := Aside0.mk (fun W (E' : Ew w0 W B b (acc ++ (done ++ [124]))) => hw w0 W B b (acc ++ (done ++ [124])) _ HV.out rk E' (by rw [hWM]; have := HLL.out; simp; omega))
      rw [hWM] at HPP
      clear hk hmem hkc hm rk hw hWM hj0 hbr
      go_wp2_with fail
      refine (bwS B b (acc ++ done) [124] _ _ ((HBX.out _).wr) rfl (by have := HLL.out; simp; omega)).mono ?_
      rintro e v1 ⟨⟨u1, rfl⟩, hw1⟩
      have hx1 := HXX.out _ v1 hw1.2.2.1 _ _ rfl (by decide)
      have HT1 := Aside0.mk (Wrote.trans HT.out (Wrote.after HEW.out.wr.base (below_alloc (Below.refl wr.heap.size wr) _) hw1))
      have HE1 := Aside0.mk (HE.out.step HT1.out)
      have q0 := rowc hx1 0 _ rfl
      have q1 := rowc hx1 1 _ rfl
      have q2 := rowc hx1 2 _ rfl
      have q3 := rowc hx1 3 _ rfl
      have q4 := rowc hx1 4 _ rfl
      have q5 := rowc hx1 5 _ rfl
      have q6 := rowc hx1 6 _ rfl
      have q7 := rowc hx1 7 _ rfl
      clear hw1 hx1 x0 x1 x2 x3 x4 x5 x6 x7
      go_wp2_with fail
      refine (HPP.out _ HE1.out).mono ?_
      rintro e v2 ⟨rfl, hw2⟩
      have HT2 := Aside0.mk (Wrote.trans HT1.out hw2)
      have HK2 : Aside0 ((done ++ [124] ++ WM) ++ barsW (j + 1) (n.f7.drop (j + 1)) = R) := ⟨by rw [← HKC.out]; simp⟩
      clear hw2 q0 q1 q2 q3 q4 q5 q6 q7
      go_wp2_with fail
      go_roundg (n.f7.length - j - 1)
      case measure => have := HA.out; have := HJ.out; omega
      case rel => exact ⟨j + 1, done ++ [124] ++ WM, by have h1 := HLEN.out; have h2 := HJ.out; first | rfl | (rw [w64c (by omega) (by omega)]; rfl) | (exact congrArg _ (by omega)), ⟨by have := HJ.out; omega, by omega⟩, HK2, HT2⟩
set_option maxHeartbeats 4000000 in
set_option maxRecDepth 100000 in
theorem write_repeat {n : Nd} (m0 : Int) (hk : n.f0 = 8) (m : Nd) (h0 : 0 < n.f7.length) (hm : n.f7[0]'h0 = m) (hW : WriteC m0 m) (hm0 : 0 ≤ n.f1) (hm2 : n.f1 ≤ 2) (ha : 0 ≤ n.f2) (ha2 : n.f2 ≤ 100) (hb : n.f3 = -1 ∨ (n.f2 ≤ n.f3 ∧ n.f3 ≤ 100)) (w0 w : World) (hv : WVars w0 m0) (B b : Nat) (acc : List Int) (v : Value) (h : RdN w0 n v) (E : Ew w0 w B b acc) (hl : acc.length + (writeN m ++ countW n.f2 n.f3 ++ ofT n.f1 [[], [63], [43]]).length ≤ 100000000000000) :
    Calls Tryz.prog 28 #[.pointer (some ⟨b, 0, none⟩), v] w (RetU B b acc (writeN m ++ countW n.f2 n.f3 ++ ofT n.f1 [[], [63], [43]]) w) := by
  obtain ⟨A6, c6, A7, c7, e, g1, g2, g3, hC⟩ := h
  subst e
  obtain ⟨ad, P6, p6, P7, p7, rfl, hkk, rk⟩ := kids_at hC 0 h0
  rw [hm] at hkk rk
  have HE := Aside0.mk E
  have hbn : b ≠ w.heap.size := Nat.ne_of_lt E.wr.lt
  have hi5 : (0 : Int) < (n.f7.length : Int) := by omega
  have t6 : (n.f0 == 6) = false := by rw [beq_eq_false_iff_ne, hk]; decide
  have t7 : (n.f0 == 7) = false := by rw [beq_eq_false_iff_ne, hk]; decide
  have t1 : (n.f0 == 1) = false := by rw [beq_eq_false_iff_ne, hk]; decide
  have t2 : (n.f0 == 2) = false := by rw [beq_eq_false_iff_ne, hk]; decide
  have t3 : (n.f0 == 3) = false := by rw [beq_eq_false_iff_ne, hk]; decide
  have t5 : (n.f0 == 5) = false := by rw [beq_eq_false_iff_ne, hk]; decide
  have t8 : (n.f0 == 8) = true := by rw [hk]; rfl
  have hof : ∀ (W' : World) (g : Nat), W'.heap[g]? = some (.cells #[.string ⟨#[]⟩, .string ⟨#[63]⟩, .string ⟨#[43]⟩] 9 (0, 0)) → Calls Tryz.prog 46 #[.int .i64 n.f1, .slice (some ⟨g, 0, none⟩) 3 3] W' fun e w2 => e = .returned (.string (strOfNums (ofT n.f1 [[], [63], [43]]))) ∧ w2 = W' := fun W' g hg => by
    obtain ⟨i, hi⟩ : ∃ i : Nat, n.f1 = (i : Int) := ⟨n.f1.toNat, by omega⟩
    rw [hi]
    exact of_mode i (by omega) (by omega) W' g hg
  have HCO := Aside0.mk (fun W (hW : Below w0.heap.size w0 W) => counts_any n.f2 n.f3 ha ha2 hb W (fun W' hW' => hv.tab W' (hW.trans (hW'.mono hW.size))))
  have HSA := Aside0.mk (fun W acc' (E' : Ew w0 W B b acc') hl => hW w0 W B b acc' _ hv rk E' hl)
  have HX : ∀ (o : Obj) (W : World), Keep b (w.alloc o) W → ∀ cs T, o = .cells cs T (0, 0) → T ≠ 5 → W.heap[w.heap.size]? = some (.cells cs T (0, 0)) := fun o W hk cs T ho hT => hk w.heap.size cs T (0, 0) hT (Ne.symm hbn) (by rw [← ho]; exact heap_alloc_new w o)
  have HXX := Aside0.mk HX
  have HBX := Aside0.mk (fun o => E.below (below_alloc (Below.refl w.heap.size w) o))
  have hlc : (strOfNums (countW n.f2 n.f3)).size ≤ 1000 := by
    rw [Lib.size_eq, str_data, List.length_map]
    have := countW_len9 n.f2 n.f3
    omega
  have hlo : (strOfNums (ofT n.f1 [[], [63], [43]])).size ≤ 1000 := by
    rw [Lib.size_eq, str_data, List.length_map]
    rcases (show n.f1 = 0 ∨ n.f1 = 1 ∨ n.f1 = 2 by omega) with e | e | e <;> rw [e] <;> decide
  have HSUM : Aside0 (strOfNums (countW n.f2 n.f3) ++ strOfNums (ofT n.f1 [[], [63], [43]]) = strOfNums (countW n.f2 n.f3 ++ ofT n.f1 [[], [63], [43]])) := ⟨by rw [str_app]⟩
  rw [List.append_assoc] at hl ⊢
  obtain ⟨CO, hCO⟩ : ∃ CO, countW n.f2 n.f3 ++ ofT n.f1 [[], [63], [43]] = CO := ⟨_, rfl⟩
  rw [hCO] at hl HSUM ⊢
  obtain ⟨S1, hS1⟩ : ∃ S1, strOfNums (countW n.f2 n.f3) = S1 := ⟨_, rfl⟩
  obtain ⟨S2, hS2⟩ : ∃ S2, strOfNums (ofT n.f1 [[], [63], [43]]) = S2 := ⟨_, rfl⟩
  obtain ⟨WM, hWM⟩ : ∃ WM, writeN m = WM := ⟨_, rfl⟩
  rw [hS1] at HCO hlc HSUM
  rw [hS2] at hof hlo HSUM
  rw [hWM] at HSA hl ⊢
  have HOF := Aside0.mk hof
  have HKA := Aside0.mk hkk
  have HL := Aside0.mk (show acc.length + WM.length + CO.length ≤ 100000000000000 by simp at hl; omega)
  have hbb := HBX.out
  have x0 := fun o => (hkk.up (hbb o).bel).1
  have x1 := fun o => (hkk.up (hbb o).bel).2.1
  have x2 := fun o => (hkk.up (hbb o).bel).2.2.1
  have x3 := fun o => (hkk.up (hbb o).bel).2.2.2.1
  have x4 := fun o => (hkk.up (hbb o).bel).2.2.2.2.1
  have x5 := fun o => (hkk.up (hbb o).bel).2.2.2.2.2.1
  have x6 := fun o => (hkk.up (hbb o).bel).2.2.2.2.2.2.1
  have x7 := fun o => (hkk.up (hbb o).bel).2.2.2.2.2.2.2
  simp only [Nat.zero_mul, Addr.add_zero'] at x0 x1 x2 x3 x4 x5 x6 x7
  clear hv E hl hk hC rk hkk hm hW g1 g2 g3 HX hof hbb hCO hS1 hS2 hWM ha ha2 hb hm0 hm2
  go_enter Tryz.func28, Tryz.ntmps28
  go_wp2_with fail
  refine (HSA.out _ acc (HBX.out _) (by have := HL.out; omega)).mono ?_
  rintro e w1 ⟨rfl, hw1⟩
  have hx1 := HXX.out _ w1 hw1.2.2.1 _ _ rfl (by decide)
  have HT1 := Aside0.mk (Wrote.after HE.out.wr.base (below_alloc (Below.refl _ _) _) hw1)
  have HX1 := Aside0.mk hx1
  have HE1 := Aside0.mk (HE.out.step HT1.out)
  clear hw1 x0 x1 x2 x3 x4 x5 x6 x7 hx1
  go_wp2_with fail
  -- tail PRINTED by tools/wrepgen.py
  have hlt1 : w.heap.size < w1.heap.size := (Array.getElem?_eq_some_iff.1 HX1.out).1
  have HLT := Aside0.mk hlt1
  clear hlt1
  refine start_ (n := 12) (S := fun w' => w'.heap[w.heap.size]? = some (.cells #[.int .i64 n.f0, .int .i64 n.f1, .int .i64 n.f2, .int .i64 n.f3, .bool n.f4, .string n.f5, .slice A6 n.f6.length c6, .slice (some ad) n.f7.length c7] 25 (0, 0))) (ds := [11]) #[false, false, false, false, false, false, false, false, false, false, false, false] (by kernel_rfl) rfl rfl (by show w1.heap[w.heap.size]? = _; exact HX1.out) (fun hHeld => ?_)
  refine pure_ (i := 0) (N := some 70) (v := ?_) (a' := ?_) #[true, false, false, false, false, false, false, false, false, false, false, false] rfl rfl (by kernel_rfl) (fun _ _ _ h => h) (Or.inl ⟨by rfl, ?_⟩) ?_ ?_
  rotate_left
  · intro w'
    go_simp
    with_reducible rfl
  rotate_left
  · simp only [Act.put, List.setIfInBounds_toArray, List.set_cons_zero, List.set_cons_succ, i64_w, i32_w]
    rfl
  refine pure_ (i := 1) (N := some 71) (v := ?_) (a' := ?_) #[true, true, false, false, false, false, false, false, false, false, false, false] rfl rfl (by kernel_rfl) (fun _ _ _ h => h) (Or.inl ⟨by rfl, ?_⟩) ?_ ?_
  rotate_left
  · intro w'
    go_simp
    with_reducible rfl
  rotate_left
  · simp only [Act.put, List.setIfInBounds_toArray, List.set_cons_zero, List.set_cons_succ, i64_w, i32_w]
    rfl
  refine take_ (i := 2) (N := some 72) (v := ?_) (a' := ?_) #[true, true, true, false, false, false, false, false, false, false, false, false] rfl rfl (by kernel_rfl) (fun _ _ _ h => h) (Or.inl ⟨by rfl, ?_⟩) hHeld ?_ ?_
  rotate_left
  · rintro w' hx
    have q := rowc hx 2 _ rfl
    go_simp
    with_reducible rfl
  rotate_left
  · simp only [Act.put, List.setIfInBounds_toArray, List.set_cons_zero, List.set_cons_succ, i64_w, i32_w]
    rfl
  refine pure_ (i := 3) (N := some 73) (v := ?_) (a' := ?_) #[true, true, true, true, false, false, false, false, false, false, false, false] rfl rfl (by kernel_rfl) (fun _ _ _ h => h) (Or.inl ⟨by rfl, ?_⟩) ?_ ?_
  rotate_left
  · intro w'
    go_simp
    with_reducible rfl
  rotate_left
  · simp only [Act.put, List.setIfInBounds_toArray, List.set_cons_zero, List.set_cons_succ, i64_w, i32_w]
    rfl
  refine take_ (i := 4) (N := some 74) (v := ?_) (a' := ?_) #[true, true, true, true, true, false, false, false, false, false, false, false] rfl rfl (by kernel_rfl) (fun _ _ _ h => h) (Or.inl ⟨by rfl, ?_⟩) hHeld ?_ ?_
  rotate_left
  · rintro w' hx
    have q := rowc hx 3 _ rfl
    go_simp
    with_reducible rfl
  rotate_left
  · simp only [Act.put, List.setIfInBounds_toArray, List.set_cons_zero, List.set_cons_succ, i64_w, i32_w]
    rfl
  refine pure_ (i := 6) (N := some 76) (v := ?_) (a' := ?_) #[true, true, true, true, true, false, true, false, false, false, false, false] rfl rfl (by kernel_rfl) (fun _ _ _ h => h) (Or.inl ⟨by rfl, ?_⟩) ?_ ?_
  rotate_left
  · intro w'
    go_simp
    with_reducible rfl
  rotate_left
  · simp only [Act.put, List.setIfInBounds_toArray, List.set_cons_zero, List.set_cons_succ, i64_w, i32_w]
    rfl
  refine take_ (i := 7) (N := some 77) (v := ?_) (a' := ?_) #[true, true, true, true, true, false, true, true, false, false, false, false] rfl rfl (by kernel_rfl) (fun _ _ _ h => h) (Or.inl ⟨by rfl, ?_⟩) hHeld ?_ ?_
  rotate_left
  · rintro w' hx
    have q := rowc hx 1 _ rfl
    go_simp
    with_reducible rfl
  rotate_left
  · simp only [Act.put, List.setIfInBounds_toArray, List.set_cons_zero, List.set_cons_succ, i64_w, i32_w]
    rfl
  refine two_ (i := 5) (j := 8) (Ni := some 75) (Nj := some 78) #[true, true, true, true, true, true, true, true, false, false, false, false] #[true, true, true, true, true, false, true, true, true, false, false, false] rfl rfl rfl rfl (by kernel_rfl) (by decide) (by decide) (fun K hK => ?_) (fun K hK => ?_)
  · refine goes_ Tryz.func45 (by kernel_rfl) rfl #[.int .i64 n.f2, .int .i64 n.f3] (by rfl) rfl rfl (by simp only [List.map_toArray, List.map_cons, List.map_nil]; rfl) ?_
    refine (HCO.out _ (HE1.out.below (below_drew (Below.refl _ _))).bel).mono ?_
    rintro e v1 ⟨rfl, hb1⟩
    refine ⟨_, rfl, ?_⟩
    have hb1 : Below w1.heap.size w1 v1 := below_to (below_drew (Below.refl _ _)) hb1
    have hx1 := (hb1.block w.heap.size HLT.out).trans HX1.out
    have HB1 := Aside0.mk hb1
    have HX2 := Aside0.mk hx1
    have HLT1 := Aside0.mk (Nat.lt_of_lt_of_le HLT.out hb1.size)
    clear hb1
    refine hK.out _ _ hx1 (fun hHeld => ?_)
    clear hK K hx1
    refine norm_ (a' := ?_) ?_ ?_
    rotate_left
    · show Act.put _ (some 75) _ = _
      simp only [Act.put, List.setIfInBounds_toArray, List.set_cons_zero, List.set_cons_succ, i64_w, i32_w]
      rfl
    refine one_ (i := 8) (N := some 78) #[true, true, true, true, true, true, true, true, true, false, false, false] rfl rfl (by kernel_rfl) (by decide) (fun K hK => ?_)
    refine value_ (v := .slice (some ⟨v1.heap.size, 0, none⟩) 3 3) (w1 := v1.alloc (.cells #[.string ⟨#[]⟩, .string ⟨#[63]⟩, .string ⟨#[43]⟩] 9)) (by rfl) rfl ?_ ?_
    · go_simp
    have hbB := below_alloc (Below.refl v1.heap.size v1) (.cells #[.string ⟨#[]⟩, .string ⟨#[63]⟩, .string ⟨#[43]⟩] 9)
    have hnB := heap_alloc_new v1 (.cells #[.string ⟨#[]⟩, .string ⟨#[63]⟩, .string ⟨#[43]⟩] 9)
    obtain ⟨W5, hW5⟩ : ∃ W5, v1.alloc (.cells #[.string ⟨#[]⟩, .string ⟨#[63]⟩, .string ⟨#[43]⟩] 9) = W5 := ⟨_, rfl⟩
    rw [hW5] at hbB hnB ⊢
    clear hW5
    have HX5 := Aside0.mk ((hbB.block w.heap.size HLT1.out).trans HX2.out)
    have HB5 := Aside0.mk (below_to HB1.out hbB)
    have HN5 := Aside0.mk hnB
    clear hbB hnB
    refine hK.out _ _ HX5.out (fun hHeld => ?_)
    clear hK K
    refine norm_ (a' := ?_) ?_ ?_
    rotate_left
    · show Act.put _ (some 78) _ = _
      simp only [Act.put, List.setIfInBounds_toArray, List.set_cons_zero, List.set_cons_succ, i64_w, i32_w]
      rfl
    refine one_ (i := 9) (N := some 79) #[true, true, true, true, true, true, true, true, true, true, false, false] rfl rfl (by kernel_rfl) (by decide) (fun K hK => ?_)
    refine goes_ Tryz.func46 (by kernel_rfl) rfl #[.int .i64 n.f1, .slice (some ⟨v1.heap.size, 0, none⟩) 3 3] (by rfl) rfl rfl (by simp only [List.map_toArray, List.map_cons, List.map_nil]; rfl) ?_
    refine (HOF.out _ _ HN5.out).mono ?_
    rintro e w2 ⟨rfl, rfl⟩
    refine ⟨_, rfl, ?_⟩
    refine hK.out _ _ HX5.out (fun hHeld => ?_)
    clear hK K
    refine norm_ (a' := ?_) ?_ ?_
    rotate_left
    · show Act.put _ (some 79) _ = _
      simp only [Act.put, List.setIfInBounds_toArray, List.set_cons_zero, List.set_cons_succ, i64_w, i32_w]
      rfl
    refine pure_ (i := 10) (N := some 80) (v := ?_) (a' := ?_) #[true, true, true, true, true, true, true, true, true, true, true, false] rfl rfl (by kernel_rfl) (fun _ _ _ h => h) (Or.inl ⟨by rfl, ?_⟩) ?_ ?_
    rotate_left
    · intro w'
      go_simp
      rw [if_neg (by omega)]
    rotate_left
    · simp only [Act.put, List.setIfInBounds_toArray, List.set_cons_zero, List.set_cons_succ, i64_w, i32_w]
      rfl
    refine last_ (i := 11) (N := some 81) #[true, true, true, true, true, true, true, true, true, true, true, true] rfl rfl (by kernel_rfl) (by decide) (fun K hK => ?_)
    refine goes_ Tryz.func42 (by kernel_rfl) rfl #[.pointer (some ⟨b, 0, none⟩), .string (S1 ++ S2)] (by rfl) rfl rfl (by simp only [List.map_toArray, List.map_cons, List.map_nil]; rfl) ?_
    refine (bwS B b (acc ++ WM) CO _ _ ((HE1.out.below HB5.out).wr) HSUM.out (by have := HL.out; simp; omega)).mono ?_
    rintro e v3 ⟨⟨u3, rfl⟩, hw2⟩
    refine ⟨_, rfl, ?_⟩
    refine hK.out _ _ ?_
    clear hK K
    refine norm_ (a' := ?_) ?_ ?_
    rotate_left
    · show Act.put _ (some 81) _ = _
      simp only [Act.put, List.setIfInBounds_toArray, List.set_cons_zero, List.set_cons_succ, i64_w, i32_w]
      rfl
    refine done_ (by kernel_rfl) ?_
    have HT := Aside0.mk (Wrote.trans HT1.out (Wrote.after HE1.out.wr.base HB5.out hw2))
    clear hw2 hHeld
    go_wp2_with fail
    go_end0
    exact ⟨rfl, HT.out⟩
  · refine value_ (v := .slice (some ⟨w1.drew.heap.size, 0, none⟩) 3 3) (w1 := w1.drew.alloc (.cells #[.string ⟨#[]⟩, .string ⟨#[63]⟩, .string ⟨#[43]⟩] 9)) (by rfl) rfl ?_ ?_
    · go_simp
    have hbB := below_alloc (Below.refl w1.drew.heap.size w1.drew) (.cells #[.string ⟨#[]⟩, .string ⟨#[63]⟩, .string ⟨#[43]⟩] 9)
    have hnB := heap_alloc_new w1.drew (.cells #[.string ⟨#[]⟩, .string ⟨#[63]⟩, .string ⟨#[43]⟩] 9)
    have hbB : Below w1.heap.size w1 _ := below_to (below_drew (Below.refl w1.heap.size w1)) hbB
    obtain ⟨g4, hg4⟩ : ∃ g4, w1.drew.heap.size = g4 := ⟨_, rfl⟩
    obtain ⟨W4, hW4⟩ : ∃ W4, w1.drew.alloc (.cells #[.string ⟨#[]⟩, .string ⟨#[63]⟩, .string ⟨#[43]⟩] 9) = W4 := ⟨_, rfl⟩
    rw [hW4, hg4] at hnB
    rw [hW4] at hbB
    rw [hW4, hg4]
    clear hW4 hg4
    have HX2 := Aside0.mk ((hbB.block w.heap.size HLT.out).trans HX1.out)
    have HB1 := Aside0.mk hbB
    have HN4 := Aside0.mk hnB
    clear hbB hnB
    refine hK.out _ _ HX2.out (fun hHeld => ?_)
    clear hK K
    refine norm_ (a' := ?_) ?_ ?_
    rotate_left
    · show Act.put _ (some 78) _ = _
      simp only [Act.put, List.setIfInBounds_toArray, List.set_cons_zero, List.set_cons_succ, i64_w, i32_w]
      rfl
    refine one_ (i := 5) (N := some 75) #[true, true, true, true, true, true, true, true, true, false, false, false] rfl rfl (by kernel_rfl) (by decide) (fun K hK => ?_)
    refine goes_ Tryz.func45 (by kernel_rfl) rfl #[.int .i64 n.f2, .int .i64 n.f3] (by rfl) rfl rfl (by simp only [List.map_toArray, List.map_cons, List.map_nil]; rfl) ?_
    refine (HCO.out _ (HE1.out.below HB1.out).bel).mono ?_
    rintro e v1 ⟨rfl, hb1⟩
    refine ⟨_, rfl, ?_⟩
    have HN5 := Aside0.mk ((hb1.block g4 (Array.getElem?_eq_some_iff.1 HN4.out).1).trans HN4.out)
    have HX5 := Aside0.mk ((hb1.block w.heap.size (Array.getElem?_eq_some_iff.1 HX2.out).1).trans HX2.out)
    have HB5 := Aside0.mk (below_to HB1.out hb1)
    clear hb1
    refine hK.out _ _ HX5.out (fun hHeld => ?_)
    clear hK K
    refine norm_ (a' := ?_) ?_ ?_
    rotate_left
    · show Act.put _ (some 75) _ = _
      simp only [Act.put, List.setIfInBounds_toArray, List.set_cons_zero, List.set_cons_succ, i64_w, i32_w]
      rfl
    refine one_ (i := 9) (N := some 79) #[true, true, true, true, true, true, true, true, true, true, false, false] rfl rfl (by kernel_rfl) (by decide) (fun K hK => ?_)
    refine goes_ Tryz.func46 (by kernel_rfl) rfl #[.int .i64 n.f1, .slice (some ⟨g4, 0, none⟩) 3 3] (by rfl) rfl rfl (by simp only [List.map_toArray, List.map_cons, List.map_nil]; rfl) ?_
    refine (HOF.out _ _ HN5.out).mono ?_
    rintro e w2 ⟨rfl, rfl⟩
    refine ⟨_, rfl, ?_⟩
    refine hK.out _ _ HX5.out (fun hHeld => ?_)
    clear hK K
    refine norm_ (a' := ?_) ?_ ?_
    rotate_left
    · show Act.put _ (some 79) _ = _
      simp only [Act.put, List.setIfInBounds_toArray, List.set_cons_zero, List.set_cons_succ, i64_w, i32_w]
      rfl
    refine pure_ (i := 10) (N := some 80) (v := ?_) (a' := ?_) #[true, true, true, true, true, true, true, true, true, true, true, false] rfl rfl (by kernel_rfl) (fun _ _ _ h => h) (Or.inl ⟨by rfl, ?_⟩) ?_ ?_
    rotate_left
    · intro w'
      go_simp
      rw [if_neg (by omega)]
    rotate_left
    · simp only [Act.put, List.setIfInBounds_toArray, List.set_cons_zero, List.set_cons_succ, i64_w, i32_w]
      rfl
    refine last_ (i := 11) (N := some 81) #[true, true, true, true, true, true, true, true, true, true, true, true] rfl rfl (by kernel_rfl) (by decide) (fun K hK => ?_)
    refine goes_ Tryz.func42 (by kernel_rfl) rfl #[.pointer (some ⟨b, 0, none⟩), .string (S1 ++ S2)] (by rfl) rfl rfl (by simp only [List.map_toArray, List.map_cons, List.map_nil]; rfl) ?_
    refine (bwS B b (acc ++ WM) CO _ _ ((HE1.out.below HB5.out).wr) HSUM.out (by have := HL.out; simp; omega)).mono ?_
    rintro e v3 ⟨⟨u3, rfl⟩, hw2⟩
    refine ⟨_, rfl, ?_⟩
    refine hK.out _ _ ?_
    clear hK K
    refine norm_ (a' := ?_) ?_ ?_
    rotate_left
    · show Act.put _ (some 81) _ = _
      simp only [Act.put, List.setIfInBounds_toArray, List.set_cons_zero, List.set_cons_succ, i64_w, i32_w]
      rfl
    refine done_ (by kernel_rfl) ?_
    have HT := Aside0.mk (Wrote.trans HT1.out (Wrote.after HE1.out.wr.base HB5.out hw2))
    clear hw2 hHeld
    go_wp2_with fail
    go_end0
    exact ⟨rfl, HT.out⟩

end Go.Proofs.YtkipjalfgdfaiaaGreatDoor
namespace Go.Proofs.YtkipjalfgdfaiaaGreatDoor
set_option linter.unusedVariables false
set_option linter.unusedSimpArgs false
open Go.RowKit Go.Proofs.YtkipjalfgdfaiaaGreatDoorW.PrintWords Go.Proofs.YtkipjalfgdfaiaaGreatDoorW.PrintLast Go.Proofs.YtkipjalfgdfaiaaGreatDoorW.PrintMore Go.Proofs.YtkipjalfgdfaiaaGreatDoor.PTk

theorem ofT_len {l : List (List Int)} {B : Nat} (h : ∀ x ∈ l, x.length ≤ B) (m : Int) : (ofT m l).length ≤ B := by
  unfold ofT
  rw [List.getD_eq_getElem?_getD]
  cases e : l[m.toNat]? with
  | none => simp
  | some x => exact h x (List.mem_of_getElem? e)
theorem propW_len (n : Nd) : (propW n).length ≤ n.f5.size + 4 := by
  unfold propW
  split
  · simp
  · split
    · simp [bytes_len]
    · split <;> simp [bytes_len]
theorem decL_len (n : Int) : (decL n).length ≤ 3 := by unfold decL; split; simp; split <;> simp
theorem countW_len (a b : Int) : (countW a b).length ≤ 9 := by
  unfold countW
  have ha := decL_len a
  have hb := decL_len b
  split
  · simp
  · split
    · simp
    · split
      · simp
      · split
        · simp; omega
        · split <;> (simp; omega)
theorem printL_len (r : Int) (cls : Bool) : (printL r cls).length ≤ 6 := by
  cases h : runeB r with
  | true => exact (printL_pos h).2
  | false => rw [printL_none h]; simp
theorem sideW_eq (n : Nd) : sideW n = if n.f1 = 0 then membW n.f7 else sidesW n.f7 n.f1 := by cases n; rw [sideW]
theorem writeN_eq (n : Nd) : writeN n =
    if n.f0 = 6 then writeK n.f7
    else if n.f0 = 7 then altW n.f7
    else if n.f0 = 1 then printL n.f2 false
    else if n.f0 = 2 then [46]
    else if n.f0 = 3 then classW n
    else if n.f0 = 5 then propW n
    else if n.f0 = 8 then headW n.f7 ++ countW n.f2 n.f3 ++ ofT n.f1 [[], [63], [43]]
    else if n.f0 = 9 then (if n.f2 = 0 then [40, 63, 58] else if n.f5 = e0 then [40] else [40, 63, 60] ++ bytesOf n.f5 ++ [62]) ++ headW n.f7 ++ [41]
    else if n.f0 = 10 then ofT n.f1 [[40, 63, 61], [40, 63, 33], [40, 63, 60, 61], [40, 63, 60, 33]] ++ headW n.f7 ++ [41]
    else if n.f0 = 11 then [40, 63, 62] ++ headW n.f7 ++ [41]
    else if n.f0 = 12 then ofT n.f1 [[], [94], [36], [92, 65], [92, 122], [92, 98], [92, 66], [92, 98, 123, 103, 125], [92, 66, 123, 103, 125], [92, 98, 123, 119, 125], [92, 66, 123, 119, 125]]
    else if n.f0 = 13 then [92, 107, 123] ++ decL n.f2 ++ [125]
    else if n.f0 = 14 then [92, 88]
    else [] := by cases n; rw [writeN]
theorem headW_cons (n : Nd) (ns : List Nd) : headW (n :: ns) = writeN n := by rw [headW]
theorem sidesW_two (a b : Nd) (m : Int) : sidesW [a, b] m = sideW a ++ ofT m [[], [38, 38], [45, 45], [126, 126]] ++ sideW b := by rw [sidesW]
theorem sidesW_nil (m : Int) : sidesW [] m = [] := by
  rw [sidesW]
  intro a b h; cases h
theorem sidesW_one (a : Nd) (m : Int) : sidesW [a] m = [] := by
  rw [sidesW]
  intro a b h; cases h
theorem sidesW_more (a b c : Nd) (l : List Nd) (m : Int) : sidesW (a :: b :: c :: l) m = [] := by
  rw [sidesW]
  intro a b h; cases h
theorem write_len : (∀ n, (writeN n).length + 1 ≤ 32 * weightN n ∧ (sideW n).length + 4 ≤ 32 * weightN n) ∧
    ∀ ns, (writeK ns).length ≤ 32 * weightK ns ∧ (altW ns).length ≤ 32 * weightK ns ∧ (barW ns).length ≤ 32 * weightK ns ∧ (headW ns).length ≤ 32 * weightK ns ∧ (membW ns).length ≤ 32 * weightK ns ∧
      (∀ m, (sidesW ns m).length ≤ 32 * weightK ns) ∧ (∀ a, ns = [a] → (sideW a).length + 4 ≤ 32 * weightN a) := by
  refine Nd.ind (fun n ih => ?_) ?_ (fun n ns hn hns => ?_)
  · rw [weightN_eq]
    constructor
    · rw [writeN_eq]
      have h3 : (classW n).length ≤ (sideW n).length + 3 := by unfold classW; split <;> simp
      have hs : (sideW n).length ≤ 32 * weightK n.f7 := by
        rw [sideW_eq]; split
        · exact ih.2.2.2.2.1
        · exact ih.2.2.2.2.2.1 _
      have h1 := printL_len n.f2 false
      have h5 := propW_len n
      have h8 := countW_len n.f2 n.f3
      have ho1 := ofT_len (l := [[], [63], [43]]) (B := 4) (by decide) n.f1
      have ho2 := ofT_len (l := [[40, 63, 61], [40, 63, 33], [40, 63, 60, 61], [40, 63, 60, 33]]) (B := 4) (by decide) n.f1
      have ho3 := ofT_len (l := [[], [94], [36], [92, 65], [92, 122], [92, 98], [92, 66], [92, 98, 123, 103, 125], [92, 66, 123, 103, 125], [92, 98, 123, 119, 125], [92, 66, 123, 119, 125]]) (B := 5) (by decide) n.f1
      have hd := decL_len n.f2
      have hh := ih.2.2.2.1
      have hb := bytes_len n.f5
      by_cases k6 : n.f0 = 6
      · rw [if_pos k6]; (first | omega | (simp only [List.length_append, List.length_cons, List.length_nil]; omega))
      rw [if_neg k6]
      by_cases k7 : n.f0 = 7
      · rw [if_pos k7]; (first | omega | (simp only [List.length_append, List.length_cons, List.length_nil]; omega))
      rw [if_neg k7]
      by_cases k1 : n.f0 = 1
      · rw [if_pos k1]; (first | omega | (simp only [List.length_append, List.length_cons, List.length_nil]; omega))
      rw [if_neg k1]
      by_cases k2 : n.f0 = 2
      · rw [if_pos k2]; (first | omega | (simp only [List.length_append, List.length_cons, List.length_nil]; omega))
      rw [if_neg k2]
      by_cases k3 : n.f0 = 3
      · rw [if_pos k3]; (first | omega | (simp only [List.length_append, List.length_cons, List.length_nil]; omega))
      rw [if_neg k3]
      by_cases k5 : n.f0 = 5
      · rw [if_pos k5]; (first | omega | (simp only [List.length_append, List.length_cons, List.length_nil]; omega))
      rw [if_neg k5]
      by_cases k8 : n.f0 = 8
      · rw [if_pos k8]; (first | omega | (simp only [List.length_append, List.length_cons, List.length_nil]; omega))
      rw [if_neg k8]
      by_cases k9 : n.f0 = 9
      · rw [if_pos k9]
        by_cases z1 : n.f2 = 0
        · rw [if_pos z1]; (first | omega | (simp only [List.length_append, List.length_cons, List.length_nil]; omega))
        rw [if_neg z1]
        by_cases z2 : n.f5 = e0
        · rw [if_pos z2]; (first | omega | (simp only [List.length_append, List.length_cons, List.length_nil]; omega))
        rw [if_neg z2]; (first | omega | (simp only [List.length_append, List.length_cons, List.length_nil]; omega))
      rw [if_neg k9]
      by_cases k10 : n.f0 = 10
      · rw [if_pos k10]; (first | omega | (simp only [List.length_append, List.length_cons, List.length_nil]; omega))
      rw [if_neg k10]
      by_cases k11 : n.f0 = 11
      · rw [if_pos k11]; (first | omega | (simp only [List.length_append, List.length_cons, List.length_nil]; omega))
      rw [if_neg k11]
      by_cases k12 : n.f0 = 12
      · rw [if_pos k12]; (first | omega | (simp only [List.length_append, List.length_cons, List.length_nil]; omega))
      rw [if_neg k12]
      by_cases k13 : n.f0 = 13
      · rw [if_pos k13]; (first | omega | (simp only [List.length_append, List.length_cons, List.length_nil]; omega))
      rw [if_neg k13]
      by_cases k14 : n.f0 = 14
      · rw [if_pos k14]; (first | omega | (simp only [List.length_append, List.length_cons, List.length_nil]; omega))
      rw [if_neg k14]
      (first | omega | (simp only [List.length_append, List.length_cons, List.length_nil]; omega))
    · rw [sideW_eq]
      split
      · have := ih.2.2.2.2.1; omega
      · have := ih.2.2.2.2.2.1 n.f1; omega
  · rw [weightK_nil]
    refine ⟨by rw [writeK]; simp, by rw [altW]; simp, by rw [barW]; simp, by rw [headW]; simp, by rw [membW]; simp, fun m => by rw [sidesW_nil]; exact Nat.zero_le _, fun a h => by cases h⟩
  · rw [weightK_cons]
    have hw : (writeK (n :: ns)).length = (writeN n).length + (writeK ns).length := by rw [writeK, List.length_append]
    have ha : (altW (n :: ns)).length = (writeN n).length + (barW ns).length := by rw [altW, List.length_append]
    have hb : (barW (n :: ns)).length = 1 + (writeN n).length + (barW ns).length := by rw [barW]; simp; omega
    have hh : (headW (n :: ns)).length = (writeN n).length := by rw [headW]
    have hm : (membW (n :: ns)).length = (memW n).length + (membW ns).length := by rw [membW_cons, List.length_append]
    have hmw : (memW n).length ≤ 32 * weightN n := by
      have h1 := printL_len n.f2 true
      have h2 := printL_len n.f3 true
      have h5 := propW_len n
      have he := weightN_eq n
      unfold memW
      repeat' split
      all_goals (first | (simp only [List.length_append, List.length_cons, List.length_nil]; omega) | omega)
    refine ⟨by omega, by omega, by omega, by omega, by omega, fun m => ?_, fun a h => ?_⟩
    · match ns, hns with
      | [b], hns =>
        rw [sidesW_two]
        have ho := ofT_len (l := [[], [38, 38], [45, 45], [126, 126]]) (B := 2) (by decide) m
        have hb := hns.2.2.2.2.2.2 b rfl
        rw [weightK_cons, weightK_nil]
        simp only [List.length_append]
        omega
      | [], _ => rw [sidesW_one]; exact Nat.zero_le _
      | _ :: _ :: _, _ => rw [sidesW_more]; exact Nat.zero_le _
    · cases h; exact hn.2
section
variable {res : ByteArray → Int × ByteArray × Int}
/-- A node that may be, as a part, a sequence or a body. -/
def Vld (res : ByteArray → Int × ByteArray × Int) (n : Nd) : Prop := ∃ d c c', d ≤ 50 ∧ c.1 ≤ 20 ∧ (partN res n d c = some c' ∨ seqN res n d c = some c' ∨ bodyN res n d c = some c')
theorem partK_mem {d : Nat} (hd : d ≤ 50) : ∀ {ns : List Nd} {c c' : Gs}, partK res ns d c = some c' → c.1 ≤ 20 → ∀ m ∈ ns, Vld res m
  | [], _, _, _, _, m, hm => by cases hm
  | n :: ns, c, c', h, hc, m, hm => by
    rw [partK_cons] at h
    cases h1 : partN res n d c with
    | none => rw [h1] at h; cases h
    | some c1 =>
      rw [h1] at h
      rcases List.mem_cons.1 hm with e | e
      · rw [e]; exact ⟨d, c, c1, hd, hc, .inl h1⟩
      · exact partK_mem hd h (((parts_bounds res).1 n).1 d c c1 h1 hd hc).2.1 m e
theorem seqK_mem {d : Nat} (hd : d ≤ 50) : ∀ {ns : List Nd} {c c' : Gs}, seqK res ns d c = some c' → c.1 ≤ 20 → ∀ m ∈ ns, Vld res m
  | [], _, _, _, _, m, hm => by cases hm
  | n :: ns, c, c', h, hc, m, hm => by
    rw [seqK_cons] at h
    cases h1 : seqN res n d c with
    | none => rw [h1] at h; cases h
    | some c1 =>
      rw [h1] at h
      rcases List.mem_cons.1 hm with e | e
      · rw [e]; exact ⟨d, c, c1, hd, hc, .inr (.inl h1)⟩
      · exact seqK_mem hd h (((parts_bounds res).1 n).2.1 d c c1 h1 hd hc).2.1 m e
theorem write_any (hsh : ShortOk res) (m0 : Int) : ∀ n : Nd, weightN n ≤ 2147483648 → Vld res n → WriteC m0 n := by
  refine Nd.all ?_
  intro n ih hw ⟨d, c, c', hd, hc, hv⟩
  have kid : ∀ m ∈ n.f7, Vld res m → WriteC m0 m := fun m hm hv => ih m hm (weight_kid hw hm) hv
  have hseq : n.f0 = 6 → partK res n.f7 d c = some c' → WriteC m0 n := fun k6 h => by
    intro w0 w B b acc v hV hR hE hl
    rw [writeN_eq, if_pos k6] at hl ⊢
    exact write_seq m0 k6 (weight_len hw) (fun m hm => kid m hm (partK_mem hd h hc m hm)) w0 w hV B b acc v hR hE hl
  rcases hv with h | h | h
  rotate_left
  · rw [seqN_eq] at h
    split at h
    · rename_i hk; exact hseq hk.1 h
    · cases h
  · rw [bodyN_eq] at h
    split at h
    · by_cases k7 : n.f0 = 7
      · rw [if_pos k7] at h
        split at h
        · intro w0 w B b acc v hV hR hE hl
          rw [writeN_eq, if_neg (by omega), if_pos k7] at hl ⊢
          exact write_alt m0 k7 (weight_len hw) (fun m hm => kid m hm (seqK_mem hd h hc m hm)) w0 w hV B b acc v hR hE hl
        · cases h
      · rw [if_neg k7] at h
        split at h
        · rename_i k6; exact hseq k6 h
        · cases h
    · cases h
  · intro w0 w B b acc v hV hR hE hl
    rw [partN_eq] at h
    rw [writeN_eq] at hl ⊢
    by_cases k1 : n.f0 = 1
    · rw [if_neg (by omega), if_neg (by omega), if_pos k1] at hl ⊢
      exact write_char m0 k1 w0 w hV B b acc v hR hE hl
    rw [if_neg k1] at h
    by_cases k2 : n.f0 = 2 ∨ n.f0 = 14
    · rcases k2 with k2 | k2
      · rw [if_neg (by omega), if_neg (by omega), if_neg k1, if_pos k2] at hl ⊢
        exact write_any2 m0 k2 w0 w hV B b acc v hR hE hl
      · rw [if_neg (by omega), if_neg (by omega), if_neg k1, if_neg (by omega), if_neg (by omega), if_neg (by omega), if_neg (by omega), if_neg (by omega), if_neg (by omega), if_neg (by omega), if_neg (by omega), if_neg (by omega), if_pos k2] at hl ⊢
        exact write_cluster m0 k2 w0 w hV B b acc v hR hE hl
    rw [if_neg k2] at h
    have k2' : n.f0 ≠ 2 := fun e => k2 (.inl e)
    by_cases k3 : n.f0 = 3
    · rw [if_pos k3] at h
      rw [if_neg (by omega), if_neg (by omega), if_neg k1, if_neg k2', if_pos k3] at hl ⊢
      split at h
      · rename_i hb
        exact write_class m0 k3 (side_any hsh m0 n hw ⟨_, hb⟩) w0 w hV B b acc v hR hE hl
      · cases h
    rw [if_neg k3] at h
    by_cases k5 : n.f0 = 5
    · rw [if_pos k5] at h
      rw [if_neg (by omega), if_neg (by omega), if_neg k1, if_neg k2', if_neg k3, if_pos k5] at hl ⊢
      split at h
      · rename_i hb
        exact write_prop m0 k5 (prop_writes hsh hb) w0 w hV B b acc v hR hE hl
      · cases h
    rw [if_neg k5] at h
    by_cases k12 : n.f0 = 12
    · rw [if_pos k12] at h
      rw [if_neg (by omega), if_neg (by omega), if_neg k1, if_neg k2', if_neg k3, if_neg k5, if_neg (by omega), if_neg (by omega), if_neg (by omega), if_neg (by omega), if_pos k12] at hl ⊢
      split at h
      · rename_i hb
        rw [Bool.and_eq_true, Bool.and_eq_true, decide_eq_true_eq, decide_eq_true_eq] at hb
        exact write_assert m0 k12 hb.1.2 hb.2 w0 w hV B b acc v hR hE hl
      · cases h
    rw [if_neg k12] at h
    by_cases k13 : n.f0 = 13
    · rw [if_pos k13] at h
      rw [if_neg (by omega), if_neg (by omega), if_neg k1, if_neg k2', if_neg k3, if_neg k5, if_neg (by omega), if_neg (by omega), if_neg (by omega), if_neg (by omega), if_neg k12, if_pos k13] at hl ⊢
      split at h
      · rename_i hb
        rw [Bool.and_eq_true, Bool.and_eq_true, decide_eq_true_eq, decide_eq_true_eq] at hb
        exact write_back m0 k13 (by omega) (by omega) w0 w hV B b acc v hR hE hl
      · cases h
    rw [if_neg k13] at h
    by_cases k8 : n.f0 = 8
    · rw [if_pos k8] at h
      rw [if_neg (by omega), if_neg (by omega), if_neg k1, if_neg k2', if_neg k3, if_neg k5, if_pos k8] at hl ⊢
      split at h
      · rename_i hb
        simp only [Bool.and_eq_true, Bool.or_eq_true, decide_eq_true_eq, beq_iff_eq] at hb
        obtain ⟨m, hm, -, -, -, hp⟩ := repK_ok res h
        have h0 : 0 < n.f7.length := by rw [hm]; simp
        have hm0 : n.f7[0]'h0 = m := by simp [hm]
        rw [show headW n.f7 = writeN m by rw [hm, headW_cons]] at hl ⊢
        exact write_repeat m0 k8 m h0 hm0 (kid m (by rw [hm]; simp) ⟨d, c, c', hd, hc, .inl hp⟩) hb.1.1.1.1.2 hb.1.1.1.2 hb.1.1.2 hb.1.2 hb.2 w0 w hV B b acc v hR hE hl
      · cases h
    rw [if_neg k8] at h
    by_cases k9 : n.f0 = 9
    · rw [if_pos k9] at h
      rw [if_neg (by omega), if_neg (by omega), if_neg k1, if_neg k2', if_neg k3, if_neg k5, if_neg k8, if_pos k9] at hl ⊢
      split at h
      · cases hgs : groupS n.f2 n.f5 c with
        | none => rw [hgs] at h; cases h
        | some c1 =>
          rw [hgs] at h
          obtain ⟨m, hm, hdl, hp⟩ := withK_ok res h
          have hc1 := (groupS_ok hgs hc).2
          have h0 : 0 < n.f7.length := by rw [hm]; simp
          have hm0 : n.f7[0]'h0 = m := by simp [hm]
          have hW := kid m (by rw [hm]; simp) ⟨d + 1, c1, c', by omega, hc1, .inr (.inr hp)⟩
          rw [show headW n.f7 = writeN m by rw [hm, headW_cons]] at hl ⊢
          by_cases ha : n.f2 = 0
          · rw [if_pos ha] at hl ⊢
            exact write_group0 m0 k9 m h0 hm0 hW ha w0 w hV B b acc v hR hE hl
          · rw [if_neg ha] at hl ⊢
            by_cases hnm : n.f5 = e0
            · rw [if_pos hnm] at hl ⊢
              exact write_group1 m0 k9 m h0 hm0 hW ha hnm w0 w hV B b acc v hR hE hl
            · rw [if_neg hnm] at hl ⊢
              exact write_group2 m0 k9 m h0 hm0 hW ha hnm w0 w hV B b acc v hR hE hl
      · cases h
    rw [if_neg k9] at h
    by_cases k10 : n.f0 = 10
    · rw [if_pos k10] at h
      rw [if_neg (by omega), if_neg (by omega), if_neg k1, if_neg k2', if_neg k3, if_neg k5, if_neg k8, if_neg k9, if_pos k10] at hl ⊢
      split at h
      · rename_i hb
        rw [Bool.and_eq_true, Bool.and_eq_true, decide_eq_true_eq, decide_eq_true_eq] at hb
        obtain ⟨m, hm, hdl, hp⟩ := withK_ok res h
        have h0 : 0 < n.f7.length := by rw [hm]; simp
        have hm0 : n.f7[0]'h0 = m := by simp [hm]
        rw [show headW n.f7 = writeN m by rw [hm, headW_cons]] at hl ⊢
        exact write_look m0 k10 m h0 hm0 (kid m (by rw [hm]; simp) ⟨d + 1, c, c', by omega, hc, .inr (.inr hp)⟩) hb.1.2 hb.2 w0 w hV B b acc v hR hE hl
      · cases h
    rw [if_neg k10] at h
    by_cases k11 : n.f0 = 11
    · rw [if_pos k11] at h
      rw [if_neg (by omega), if_neg (by omega), if_neg k1, if_neg k2', if_neg k3, if_neg k5, if_neg k8, if_neg k9, if_neg k10, if_pos k11] at hl ⊢
      split at h
      · obtain ⟨m, hm, hdl, hp⟩ := withK_ok res h
        have h0 : 0 < n.f7.length := by rw [hm]; simp
        have hm0 : n.f7[0]'h0 = m := by simp [hm]
        rw [show headW n.f7 = writeN m by rw [hm, headW_cons]] at hl ⊢
        exact write_atomic m0 k11 m h0 hm0 (kid m (by rw [hm]; simp) ⟨d + 1, c, c', by omega, hc, .inr (.inr hp)⟩) w0 w hV B b acc v hR hE hl
      · cases h
    rw [if_neg k11] at h
    cases h
end

end Go.Proofs.YtkipjalfgdfaiaaGreatDoor
namespace Go.Proofs.YtkipjalfgdfaiaaGreatDoor
set_option linter.unusedVariables false
set_option linter.unusedSimpArgs false
open Go.RowKit Go.Proofs.YtkipjalfgdfaiaaGreatDoorW.PrintWords Go.Proofs.YtkipjalfgdfaiaaGreatDoorW.PrintLast Go.Proofs.YtkipjalfgdfaiaaGreatDoorW.PrintMore Go.Proofs.YtkipjalfgdfaiaaGreatDoor.PTk

set_option maxHeartbeats 4000000 in
set_option maxRecDepth 100000 in
theorem canc_wrong (fb : Nat) (x : Bool) (older : List PanicEntry) (w : World) (hb : w.heap[fb]? = some (.cells #[.bool x] 4 (0, 0))) :
    CallsD Tryz.prog 30 #[.pointer (some ⟨fb, 0, none⟩)] (.panicking ({ v := .iface 65 (.agg #[]), recovered := false } :: older)) w fun e u' w' =>
      e = .returned (.tuple #[]) ∧ u' = .panicking ({ v := .iface 65 (.agg #[]), recovered := true } :: older) ∧ w'.heap[fb]? = some (.cells #[.bool false] 4 (0, 0)) ∧ But (· = fb) w w' := by
  have c0 := rowc hb 0 _ rfl
  have f0 := blk_frozen hb 0
  refine callsD_of_wpS Tryz.func30 rfl fun c₀ cs hu => ?_
  have hta : ∀ W : World, (Instr.typeAssert (.iface 65 (.agg #[])) 20 65 true).run Tryz.prog W = .ok (.tuple #[.agg #[], .bool true]) W := fun W => by kernel_rfl
  have HB : Aside0 (But (· = fb) w (w.setCell ⟨fb, 0, none⟩ (.bool false))) := ⟨But.set (ex := (· = fb)) (But.refl _ _) fb 0 rfl _⟩
  have HB2 : Aside0 ((w.setCell ⟨fb, 0, none⟩ (.bool false)).heap[fb]? = some (.cells #[.bool false] 4 (0, 0))) := ⟨blk_put hb 0 _ rfl⟩
  show Code.wpS _ _ _ { tmps := #[.pointer (some ⟨fb, 0, none⟩), undef, undef, undef, undef, undef, undef, undef, undef], defers := [] } _ _
  apply wpS_seq
  apply wpS_region
  simp [hta, wpOpsS, go_sem, recoverD, hu, Tryz.ntmps30, Exit.thenS, c0, f0]
  refine wpS_of_wp ?_
  have hb2 : (w.alloc (.cells #[] 65)).heap[fb]? = some (.cells #[.bool x] 4 (0, 0)) := ((below_alloc (Below.refl w.heap.size w) _).block fb (by exact (Array.getElem?_eq_some_iff.1 hb).1)).trans hb
  have hB : But (· = fb) w (w.alloc (.cells #[] 65)) := But.of_below (below_alloc (Below.refl _ _) _)
  obtain ⟨wx, hwx⟩ : ∃ wx, w.alloc (.cells #[] 65) = wx := ⟨_, rfl⟩
  rw [hwx] at hb2 hB
  rw [hwx]
  have HX := Aside0.mk hB
  have HX2 := Aside0.mk hb2
  have HU := Aside0.mk hu
  have e0 := rowc hb2 0 _ rfl
  have g0 := blk_frozen hb2 0
  clear hb2 hB hwx hta c0 f0 hb hu HB HB2
  go_wp2
  exact ⟨rfl, _, rfl, .tuple #[], by simp [results, Tryz.results30, go_sem], rfl, rfl, blk_put HX2.out 0 _ rfl, But.set (ex := (· = fb)) HX.out fb 0 rfl _⟩
set_option maxHeartbeats 4000000 in
set_option maxRecDepth 100000 in
theorem canc_none (fb : Nat) (w : World) :
    CallsD Tryz.prog 30 #[.pointer (some ⟨fb, 0, none⟩)] .returning w fun e u' w' =>
      e = .returned (.tuple #[]) ∧ u' = .returning ∧ Below w.heap.size w w' := by
  refine callsD_of_wpS Tryz.func30 rfl fun c₀ cs hu => ?_
  have hta : ∀ W : World, (Instr.typeAssert .nilIface 20 65 true).run Tryz.prog W = .ok (.tuple #[.agg #[], .bool false]) W := fun W => by kernel_rfl
  show Code.wpS _ _ _ { tmps := #[.pointer (some ⟨fb, 0, none⟩), undef, undef, undef, undef, undef, undef, undef, undef], defers := [] } _ _
  apply wpS_seq
  apply wpS_region
  simp [hta, wpOpsS, go_sem, recoverD, hu, Tryz.ntmps30, Exit.thenS]
  refine wpS_of_wp ?_
  have hB : Below w.heap.size w (w.alloc (.cells #[] 65)) := below_alloc (Below.refl _ _) _
  obtain ⟨wx, hwx⟩ : ∃ wx, w.alloc (.cells #[] 65) = wx := ⟨_, rfl⟩
  rw [hwx] at hB
  rw [hwx]
  have HB := Aside0.mk hB
  have HU := Aside0.mk hu
  clear hB hwx hta hu
  go_wp2
  refine ⟨rfl, .returning, ?_, .tuple #[], by simp [results, Tryz.results30, go_sem], rfl, rfl, HB.out⟩
  rw [← HU.out]
/-- A result that lies in a variable of one cell. -/
theorem results_c {fn : Func} {p : Tmp} (h : fn.results = #[.cell p 4]) (tmps : Array Value) (w : World) (g : Nat) (x : Bool) (hp : tmps.getD p undef = .pointer (some ⟨g, 0, none⟩)) (hc : w.cell? ⟨g, 0, none⟩ = some (.bool x)) :
    (results fn tmps).run Tryz.prog w = .ok (.bool x) w := by
  have hp' : tmps[p]?.getD undef = .pointer (some ⟨g, 0, none⟩) := by simpa using hp
  simp [results, h, hp', asAddr, go_sem, hc, Tryz.isAgg4]
set_option maxHeartbeats 16000000 in
set_option maxRecDepth 100000 in
theorem can_any (b : ByteArray) (hal : AliasIs b) (hsh : ShortOk (resolveL (rowsB b))) (m0 : Int) {n : Nd} (hw : weightN n ≤ 2147483648) (w : World) (v : Value) (h : RdN w n v) (hv : WVars w m0) :
    Calls Tryz.prog 16 #[v] w fun e w' => e = .returned (.bool (canN (resolveL (rowsB b)) n)) ∧ Below w.heap.size w w' := by
  have hmf : ∀ (fn : Fn) (first cap : Array Value) (w : World), (Instr.makeFunc fn first cap).run Tryz.prog w = .ok (.func fn first cap) w := fun _ _ _ _ => rfl
  have hmk : ∀ W : World, (Instr.makeMap 68 none).run Tryz.prog W = .ok (.map (some W.heap.size)) (W.alloc (.map #[] 0)) := fun W => by kernel_rfl
  have HBODY := Aside0.mk (fun W g mb (E : Env w W m0 g mb (0, [])) => (check_any b hal m0 n hw).2.1 0 (0, []) w W g mb v h E (by omega))
  have HWRITE := Aside0.mk (fun (hvl : Vld (resolveL (rowsB b)) n) W B b' (E : Ew w W B b' []) => write_any hsh m0 n hw hvl w W B b' [] v hv h E (by have := (write_len.1 n).1; simp; omega))
  have HV := Aside0.mk hv
  obtain ⟨A6, c6, A7, c7, e, -, -, -, -⟩ := h
  subst e
  have hx1 : ((((w.alloc (.cells #[.int .i64 n.f0, .int .i64 n.f1, .int .i64 n.f2, .int .i64 n.f3, .bool n.f4, .string n.f5, .slice A6 n.f6.length c6, .slice A7 n.f7.length c7] 25)).alloc (.cells #[.bool false] 4)).alloc (.map #[] 0)).alloc (.cells #[.int .i64 0, .map (some (w.heap.size + 1 + 1))] 70)).heap[w.heap.size + 1]? = some (.cells #[.bool false] 4 (0, 0)) := blk_alloc (blk_alloc (by have := heap_alloc_new (w.alloc (.cells #[.int .i64 n.f0, .int .i64 n.f1, .int .i64 n.f2, .int .i64 n.f3, .bool n.f4, .string n.f5, .slice A6 n.f6.length c6, .slice A7 n.f7.length c7] 25)) (.cells #[.bool false] 4); rw [show (w.alloc (.cells #[.int .i64 n.f0, .int .i64 n.f1, .int .i64 n.f2, .int .i64 n.f3, .bool n.f4, .string n.f5, .slice A6 n.f6.length c6, .slice A7 n.f7.length c7] 25)).heap.size = w.heap.size + 1 by simp] at this; exact this) _) _
  have hx0 : ((((w.alloc (.cells #[.int .i64 n.f0, .int .i64 n.f1, .int .i64 n.f2, .int .i64 n.f3, .bool n.f4, .string n.f5, .slice A6 n.f6.length c6, .slice A7 n.f7.length c7] 25)).alloc (.cells #[.bool false] 4)).alloc (.map #[] 0)).alloc (.cells #[.int .i64 0, .map (some (w.heap.size + 1 + 1))] 70)).heap[w.heap.size]? = some (.cells #[.int .i64 n.f0, .int .i64 n.f1, .int .i64 n.f2, .int .i64 n.f3, .bool n.f4, .string n.f5, .slice A6 n.f6.length c6, .slice A7 n.f7.length c7] 25 (0, 0)) := blk_alloc (blk_alloc (blk_alloc (heap_alloc_new w (.cells #[.int .i64 n.f0, .int .i64 n.f1, .int .i64 n.f2, .int .i64 n.f3, .bool n.f4, .string n.f5, .slice A6 n.f6.length c6, .slice A7 n.f7.length c7] 25)) _) _) _
  have hbl : Below w.heap.size w ((((w.alloc (.cells #[.int .i64 n.f0, .int .i64 n.f1, .int .i64 n.f2, .int .i64 n.f3, .bool n.f4, .string n.f5, .slice A6 n.f6.length c6, .slice A7 n.f7.length c7] 25)).alloc (.cells #[.bool false] 4)).alloc (.map #[] 0)).alloc (.cells #[.int .i64 0, .map (some (w.heap.size + 1 + 1))] 70)) := below_alloc (below_alloc (below_alloc (below_alloc (Below.refl _ _) _) _) _) _
  have hck : Chk ((((w.alloc (.cells #[.int .i64 n.f0, .int .i64 n.f1, .int .i64 n.f2, .int .i64 n.f3, .bool n.f4, .string n.f5, .slice A6 n.f6.length c6, .slice A7 n.f7.length c7] 25)).alloc (.cells #[.bool false] 4)).alloc (.map #[] 0)).alloc (.cells #[.int .i64 0, .map (some (w.heap.size + 1 + 1))] 70)) (w.heap.size + 1 + 1 + 1) (w.heap.size + 1 + 1) (0, []) := by
    refine ⟨?_, ?_, Nat.zero_le _⟩
    · have := heap_alloc_new (((w.alloc (.cells #[.int .i64 n.f0, .int .i64 n.f1, .int .i64 n.f2, .int .i64 n.f3, .bool n.f4, .string n.f5, .slice A6 n.f6.length c6, .slice A7 n.f7.length c7] 25)).alloc (.cells #[.bool false] 4)).alloc (.map #[] 0)) (.cells #[.int .i64 0, .map (some (w.heap.size + 1 + 1))] 70)
      rw [show (((w.alloc (.cells #[.int .i64 n.f0, .int .i64 n.f1, .int .i64 n.f2, .int .i64 n.f3, .bool n.f4, .string n.f5, .slice A6 n.f6.length c6, .slice A7 n.f7.length c7] 25)).alloc (.cells #[.bool false] 4)).alloc (.map #[] 0)).heap.size = w.heap.size + 1 + 1 + 1 by simp] at this
      exact this
    · have := SetF.made Tryz.prog 9 4 ((w.alloc (.cells #[.int .i64 n.f0, .int .i64 n.f1, .int .i64 n.f2, .int .i64 n.f3, .bool n.f4, .string n.f5, .slice A6 n.f6.length c6, .slice A7 n.f7.length c7] 25)).alloc (.cells #[.bool false] 4))
      rw [show ((w.alloc (.cells #[.int .i64 n.f0, .int .i64 n.f1, .int .i64 n.f2, .int .i64 n.f3, .bool n.f4, .string n.f5, .slice A6 n.f6.length c6, .slice A7 n.f7.length c7] 25)).alloc (.cells #[.bool false] 4)).heap.size = w.heap.size + 1 + 1 by simp] at this
      exact this.below (below_alloc (Below.refl _ _) _)
  have hzs : ((((w.alloc (.cells #[.int .i64 n.f0, .int .i64 n.f1, .int .i64 n.f2, .int .i64 n.f3, .bool n.f4, .string n.f5, .slice A6 n.f6.length c6, .slice A7 n.f7.length c7] 25)).alloc (.cells #[.bool false] 4)).alloc (.map #[] 0)).alloc (.cells #[.int .i64 0, .map (some (w.heap.size + 1 + 1))] 70)).heap.size = w.heap.size + 4 := by simp
  obtain ⟨WA, hWA⟩ : ∃ WA, (((w.alloc (.cells #[.int .i64 n.f0, .int .i64 n.f1, .int .i64 n.f2, .int .i64 n.f3, .bool n.f4, .string n.f5, .slice A6 n.f6.length c6, .slice A7 n.f7.length c7] 25)).alloc (.cells #[.bool false] 4)).alloc (.map #[] 0)).alloc (.cells #[.int .i64 0, .map (some (w.heap.size + 1 + 1))] 70) = WA := ⟨_, rfl⟩
  rw [hWA] at hx1 hx0 hbl hck hzs
  have hE : Env w WA m0 (w.heap.size + 1 + 1 + 1) (w.heap.size + 1 + 1) (0, []) := ⟨hbl, by omega, by omega, hv.tv, hck⟩
  have HB0 := Aside0.mk (HBODY.out WA _ _ hE)
  have HX1 := Aside0.mk hx1
  have HX0 := Aside0.mk hx0
  have HBL := Aside0.mk hbl
  have HZS := Aside0.mk hzs
  have HWA := Aside0.mk hWA
  obtain ⟨R, hR⟩ : ∃ R, bodyN (resolveL (rowsB b)) n 0 (0, []) = R := ⟨_, rfl⟩
  have HR := Aside0.mk hR
  rw [hR] at HB0
  have HCAN : Aside0 (canN (resolveL (rowsB b)) n = (R.isSome && decide ((writeN n).length ≤ 2000))) := ⟨by unfold canN; rw [hR]⟩
  clear hv hal hsh hx1 hx0 hbl hck hzs hE HBODY hR hWA hw
  go_enter_defers Tryz.func16, Tryz.ntmps16
  go_wp2_with fail
  rw [HWA.out]
  refine HB0.out.mono ?_
  intro e w1 hr
  cases R with
  | none =>
    obtain ⟨hb1, rfl⟩ := hr
    have HB1 := Aside0.mk hb1
    have HF1 : Aside0 (w1.heap[w.heap.size + 1]? = some (.cells #[.bool false] 4 (0, 0))) := ⟨(hb1.block _ (by have := HZS.out; omega) (by intro hh; rcases hh with hh | hh <;> omega)).trans HX1.out⟩
    clear hb1
    go_wp2_with fail
    refine leaves_cons (f := 30) (args := #[.pointer (some ⟨w.heap.size + 1, 0, none⟩)]) (by simp) (by simp [go_sem]) ?_
    refine (canc_wrong (w.heap.size + 1) false [] _ HF1.out).mono ?_
    rintro e u' w3 ⟨rfl, rfl, hf3, hB3⟩
    refine ⟨_, results_c rfl _ _ (w.heap.size + 1) false rfl (rowc hf3 0 _ rfl), ?_⟩
    rw [HCAN.out]
    exact ⟨rfl, (HBL.out.trans (HB1.out.below HBL.out.size (fun k hk e => by rcases e with e | e <;> omega))).trans (hB3.below (Nat.le_trans HBL.out.size HB1.out.size) (fun k hk e => by omega))⟩
  | some c' =>
    obtain ⟨hb1, rfl, -⟩ := hr
    have HB1 := Aside0.mk hb1
    have hf1 : w1.heap[w.heap.size + 1]? = some (.cells #[.bool false] 4 (0, 0)) := (hb1.block _ (by have := HZS.out; omega) (by intro hh; rcases hh with hh | hh <;> omega)).trans HX1.out
    have hf0 := (hb1.block w.heap.size (by have := HZS.out; omega) (by intro hh; rcases hh with hh | hh <;> omega)).trans HX0.out
    have HBB : Aside0 (Below w.heap.size w w1) := ⟨HBL.out.trans (HB1.out.below HBL.out.size (fun k hk e => by rcases e with e | e <;> omega))⟩
    have HF1 := Aside0.mk hf1
    have HF0 := Aside0.mk hf0
    have q0 := fun o => rowc (blk_alloc hf0 o) 0 _ rfl
    have q1 := fun o => rowc (blk_alloc hf0 o) 1 _ rfl
    have q2 := fun o => rowc (blk_alloc hf0 o) 2 _ rfl
    have q3 := fun o => rowc (blk_alloc hf0 o) 3 _ rfl
    have q4 := fun o => rowc (blk_alloc hf0 o) 4 _ rfl
    have q5 := fun o => rowc (blk_alloc hf0 o) 5 _ rfl
    have q6 := fun o => rowc (blk_alloc hf0 o) 6 _ rfl
    have q7 := fun o => rowc (blk_alloc hf0 o) 7 _ rfl
    clear hb1 hf1 hf0
    go_wp2_with fail
    have hvl : Vld (resolveL (rowsB b)) n := ⟨0, (0, []), c', by omega, by show 0 ≤ 20; omega, .inr (.inr HR.out)⟩
    have HWR : Aside0 (Wr w1.heap.size w1.heap.size [] (w1.alloc (.cells #[.pointer none, .slice none 0 0] 59))) := ⟨⟨Lib.fresh_isBuilder _ _ w1, by simp⟩⟩
    refine (HWRITE.out hvl _ w1.heap.size w1.heap.size ⟨below_to HBB.out (below_alloc (Below.refl _ _) _), HBB.out.size, HWR.out⟩).mono ?_
    rintro e w2 ⟨rfl, hw2⟩
    have HF2 : Aside0 (w2.heap[w.heap.size + 1]? = some (.cells #[.bool false] 4 (0, 0))) := ⟨(hw2.2.1.block (w.heap.size + 1) (Array.getElem?_eq_some_iff.1 HF1.out).1).trans (blk_alloc HF1.out _)⟩
    have HB2 : Aside0 (Below w.heap.size w w2) := ⟨(below_to HBB.out (below_alloc (Below.refl w1.heap.size w1) _)).trans (hw2.2.1.mono HBB.out.size)⟩
    have HW2 := Aside0.mk hw2.1
    have f0 := blk_frozen HF2.out 0
    have g0 := rowc HF2.out 0 _ rfl
    clear hw2 hvl q0 q1 q2 q3 q4 q5 q6 q7
    go_wp2_with fail
    refine (bld_len _ _ _ _ HW2.out.bld).mono ?_
    rintro e w3 ⟨rfl, rfl⟩
    go_wp2_with fail
    have hdl : decide (((u8L (writeN n)).length : Int) ≤ 2000) = decide ((writeN n).length ≤ 2000) := by
      rw [u8L_length]
      by_cases hh : (writeN n).length ≤ 2000
      · rw [decide_eq_true hh, decide_eq_true (by omega)]
      · rw [decide_eq_false hh, decide_eq_false (by omega)]
    rw [hdl]
    clear hdl
    obtain ⟨x, hx⟩ : ∃ x, decide ((writeN n).length ≤ 2000) = x := ⟨_, rfl⟩
    have HF3 : Aside0 ((w3.setCell ⟨w.heap.size + 1, 0, none⟩ (.bool x)).heap[w.heap.size + 1]? = some (.cells #[.bool x] 4 (0, 0))) := ⟨blk_put HF2.out 0 _ rfl⟩
    have HB3 : Aside0 (Below w.heap.size w (w3.setCell ⟨w.heap.size + 1, 0, none⟩ (.bool x))) := ⟨HB2.out.setCell (p := ⟨w.heap.size + 1, 0, none⟩) (Nat.le_succ _) _⟩
    rw [HCAN.out, hx]
    refine leaves_cons (f := 30) (args := #[.pointer (some ⟨w.heap.size + 1, 0, none⟩)]) (by simp) (by simp [go_sem]) ?_
    refine (canc_none (w.heap.size + 1) _).mono ?_
    rintro e u' w4 ⟨rfl, rfl, hb4⟩
    have hf4 := (hb4.block (w.heap.size + 1) (Array.getElem?_eq_some_iff.1 HF3.out).1).trans HF3.out
    refine ⟨_, results_c rfl _ _ (w.heap.size + 1) x rfl (rowc hf4 0 _ rfl), ?_⟩
    exact ⟨by simp, below_to HB3.out hb4⟩

end Go.Proofs.YtkipjalfgdfaiaaGreatDoor
namespace Go.Proofs.YtkipjalfgdfaiaaGreatDoor
set_option linter.unusedVariables false
set_option linter.unusedSimpArgs false
open Go.RowKit Go.Proofs.YtkipjalfgdfaiaaGreatDoorW.PrintWords Go.Proofs.YtkipjalfgdfaiaaGreatDoor.PTk

abbrev mkN (k m a b : Int) (ng : Bool) (nm : ByteArray) (ks : List Nd) : Nd := ⟨k, m, a, b, ng, nm, [], ks⟩
end Go.Proofs.YtkipjalfgdfaiaaGreatDoor
namespace Go.Proofs.YtkipjalfgdfaiaaGreatDoor
set_option linter.unusedVariables false
set_option linter.unusedSimpArgs false
open Go.RowKit Go.Proofs.YtkipjalfgdfaiaaGreatDoorW.PrintWords Go.Proofs.YtkipjalfgdfaiaaGreatDoor.PTk

section
variable (res : ByteArray → Int × ByteArray × Int)
/-- A text of plain bytes, none of which closes it. -/
def PlainL (l : List Int) : Prop := ∀ c ∈ l, 0 ≤ c ∧ c < 128 ∧ c ≠ 125
end

end Go.Proofs.YtkipjalfgdfaiaaGreatDoor
namespace Go.Proofs.YtkipjalfgdfaiaaGreatDoor
set_option linter.unusedVariables false
set_option linter.unusedSimpArgs false
open Go.RowKit Go.Proofs.YtkipjalfgdfaiaaGreatDoorW.PrintWords Go.Proofs.YtkipjalfgdfaiaaGreatDoor.PTk

section
variable (res : ByteArray → Int × ByteArray × Int)
/-- What names a property canonically is of plain bytes. -/
def PlainOk : Prop := ∀ x : ByteArray, (canonL res x).2 = 0 → (canonL res x).1 = x → PlainL (bytesOf x)
variable {res}
/-- Values of the alias file are of plain bytes. -/
def plainRows (R : List (List ByteArray)) : Bool := R.all fun f => (bytesOf (cellB f 1)).all fun c => decide (0 ≤ c) && decide (c < 128) && decide (c ≠ 125)
theorem plain_find {R : List (List ByteArray)} (h : plainRows R = true) {k want v : ByteArray} (hf : findL k want R = some v) : PlainL (bytesOf v) := by
  obtain ⟨f, hm, h0, rfl⟩ := findL_mem hf
  have := List.all_eq_true.1 h f hm
  intro c hc
  have g := List.all_eq_true.1 this c hc
  simp only [Bool.and_eq_true, decide_eq_true_eq] at g
  exact ⟨g.1.1, g.1.2, g.2⟩
theorem bare_plain {R : List (List ByteArray)} (h : plainRows R = true) (s : ByteArray) : ∀ ks, (bareL R s ks).2.2 = 0 → PlainL (bytesOf (bareL R s ks).2.1)
  | [], h0 => by unfold bareL at h0; cases h0
  | k :: r, h0 => by
    unfold bareL at h0 ⊢
    split at h0
    · rename_i hn
      exact bare_plain h s r h0
    · rename_i v hv
      exact plain_find h hv
theorem resolve_plain {R : List (List ByteArray)} (h : plainRows R = true) (s : ByteArray) (h0 : (resolveL R s).2.2 = 0) : PlainL (bytesOf (resolveL R s).2.1) := by
  unfold resolveL at h0 ⊢
  split at h0
  · rename_i i hi
    try simp only at h0 ⊢
    unfold keyL at h0 ⊢
    split at h0
    · cases h0
    · rename_i k hk
      try simp only at h0 ⊢
      unfold valL at h0 ⊢
      split at h0
      · cases h0
      · rename_i v hv
        exact plain_find h hv
  · exact bare_plain h s _ h0
theorem bytes_append (a b : ByteArray) : bytesOf (a ++ b) = bytesOf a ++ bytesOf b := by
  unfold bytesOf
  have h : (a ++ b).data.toList = a.data.toList ++ b.data.toList := by rw [ByteArray.data_append, Array.toList_append]
  rw [h, List.map_append]
theorem plain_ok {R : List (List ByteArray)} (h : plainRows R = true) : PlainOk (resolveL R) := by
  intro x h1 h2
  rw [← h2]
  have hr := resolve_plain h x
  obtain ⟨kd, v, e⟩ : ∃ kd v e, resolveL R x = (kd, v, e) := ⟨_, _, _, rfl⟩
  obtain ⟨e, he⟩ := e
  unfold canonL at h1 ⊢
  rw [he] at h1 hr ⊢
  simp only at h1 hr ⊢
  by_cases h0 : e ≠ 0
  · rw [if_pos h0] at h1; exact absurd h1 h0
  rw [if_neg h0] at h1 ⊢
  have hv := hr (by omega)
  split
  · rw [bytes_append]
    intro c hc
    rcases List.mem_append.1 hc with hc | hc
    · have : c ∈ ([103, 99, 61] : List Int) := hc
      simp only [List.mem_cons, List.not_mem_nil, or_false] at this
      omega
    · exact hv c hc
  · split
    · rw [bytes_append]
      intro c hc
      rcases List.mem_append.1 hc with hc | hc
      · have : c ∈ ([115, 99, 61] : List Int) := hc
        simp only [List.mem_cons, List.not_mem_nil, or_false] at this
        omega
      · exact hv c hc
    · exact hv
end

end Go.Proofs.YtkipjalfgdfaiaaGreatDoor
namespace Go.Proofs.YtkipjalfgdfaiaaGreatDoor
set_option linter.unusedVariables false
set_option linter.unusedSimpArgs false
open Go.RowKit Go.Proofs.YtkipjalfgdfaiaaGreatDoorW.PrintWords Go.Proofs.YtkipjalfgdfaiaaGreatDoorW.PrintLast Go.Proofs.YtkipjalfgdfaiaaGreatDoorW.PrintMore Go.Proofs.YtkipjalfgdfaiaaGreatDoor.PTk

/-- What the alias file's text must be. -/
structure Ali (b : ByteArray) : Prop where
  is : AliasIs b
  short : ShortOk (resolveL (rowsB b))
  plain : PlainOk (resolveL (rowsB b))
set_option maxHeartbeats 8000000 in
set_option maxRecDepth 100000 in
theorem ali_ex : ∃ b, Ali b := by
  have h : ∃ b, AliasIs b ∧ shortRows (rowsB b) = true ∧ plainRows (rowsB b) = true := by
    refine ⟨((Tryz.f172.body).bind textCode).getD ByteArray.empty, ⟨fun w => ?_, of_decide_eq_true (by kernel_rfl), by kernel_rfl, by kernel_rfl, by kernel_rfl⟩, by kernel_rfl, by kernel_rfl⟩
    go_enter Tryz.func172, Tryz.ntmps172
    go_wp2
    go_ret
    exact ⟨rfl, Below.refl _ _⟩
  obtain ⟨b, h1, h2, h3⟩ := h
  exact ⟨b, h1, short_ok h1.2.2.2.2 h2, plain_ok h3⟩
/-- What Print of package tree hands back. -/
def prN (b : ByteArray) (n : Nd) : ByteArray × Int := if canN (resolveL (rowsB b)) n = true then (strOfNums (writeN n), 0) else (⟨#[]⟩, 1)
theorem WVars.stay {w w' : World} {m0 : Int} (h : WVars w m0) (hb : Below w.heap.size w w') : WVars w' m0 := ⟨h.tv.stay hb, fun W hW => h.tab W (hb.trans (hW.mono hb.size))⟩
set_option maxHeartbeats 16000000 in
set_option maxRecDepth 100000 in
theorem tprint_any (b : ByteArray) (hal : Ali b) (m0 : Int) {n : Nd} (hw : weightN n ≤ 2147483648) (w : World) (v : Value) (h : RdN w n v) (hv : WVars w m0) :
    Calls Tryz.prog 14 #[v] w fun e w' => e = .returned (.tuple #[.string (prN b n).1, .int .i64 (prN b n).2]) ∧ Below w.heap.size w w' := by
  have hcan := fun W (hb : Below w.heap.size w W) => can_any b hal.is hal.short m0 hw W v (h.below hb) (hv.stay hb)
  have hwrite := fun (hvl : Vld (resolveL (rowsB b)) n) W B b' (E : Ew w W B b' []) => write_any hal.short m0 n hw hvl w W B b' [] v hv h E (by have := (write_len.1 n).1; simp; omega)
  obtain ⟨A6, c6, A7, c7, e, -, -, -, -⟩ := h
  subst e
  have HCAN := Aside0.mk hcan
  have HWRITE := Aside0.mk hwrite
  cases hc : canN (resolveL (rowsB b)) n with
  | false =>
    have HP : Aside0 (prN b n = (⟨#[]⟩, 1)) := ⟨by unfold prN; rw [if_neg (by rw [hc]; decide)]⟩
    rw [HP.out]
    rw [hc] at HCAN
    clear hcan hwrite hv hal hw hc
    go_enter Tryz.func14, Tryz.ntmps14
    go_wp2_with fail
    refine (HCAN.out _ (below_alloc (Below.refl _ _) _)).mono ?_
    rintro e w1 ⟨rfl, hb1⟩
    have HB1 := Aside0.mk (below_box hb1)
    clear hb1
    go_wp2_with fail
    go_ret2
    exact ⟨rfl, HB1.out⟩
  | true =>
    have HP : Aside0 (prN b n = (strOfNums (writeN n), 0)) := ⟨by unfold prN; rw [if_pos hc]⟩
    rw [HP.out]
    have hvl : Vld (resolveL (rowsB b)) n := by
      unfold canN at hc
      rw [Bool.and_eq_true, Option.isSome_iff_exists] at hc
      obtain ⟨⟨c', h⟩, -⟩ := hc
      exact ⟨0, (0, []), c', by omega, by show 0 ≤ 20; omega, .inr (.inr h)⟩
    have HW := Aside0.mk (hwrite hvl)
    rw [hc] at HCAN
    clear hcan hwrite HWRITE hv hal hw hc hvl
    go_enter Tryz.func14, Tryz.ntmps14
    go_wp2_with fail
    refine (HCAN.out _ (below_alloc (Below.refl _ _) _)).mono ?_
    rintro e w1 ⟨rfl, hb1⟩
    have hx1 := (hb1.block w.heap.size (by simp)).trans (heap_alloc_new w _)
    have HB1 := Aside0.mk (below_box hb1)
    have HX1 := Aside0.mk hx1
    have q0 := fun o => rowc (blk_alloc hx1 o) 0 _ rfl
    have q1 := fun o => rowc (blk_alloc hx1 o) 1 _ rfl
    have q2 := fun o => rowc (blk_alloc hx1 o) 2 _ rfl
    have q3 := fun o => rowc (blk_alloc hx1 o) 3 _ rfl
    have q4 := fun o => rowc (blk_alloc hx1 o) 4 _ rfl
    have q5 := fun o => rowc (blk_alloc hx1 o) 5 _ rfl
    have q6 := fun o => rowc (blk_alloc hx1 o) 6 _ rfl
    have q7 := fun o => rowc (blk_alloc hx1 o) 7 _ rfl
    clear hb1 hx1
    go_wp2_with fail
    have HWR : Aside0 (Wr w1.heap.size w1.heap.size [] (w1.alloc (.cells #[.pointer none, .slice none 0 0] 59))) := ⟨⟨Lib.fresh_isBuilder _ _ w1, by simp⟩⟩
    refine (HW.out _ w1.heap.size w1.heap.size ⟨below_to HB1.out (below_alloc (Below.refl _ _) _), HB1.out.size, HWR.out⟩).mono ?_
    rintro e w2 ⟨rfl, hw2⟩
    have HB2 : Aside0 (Below w.heap.size w w2) := ⟨(below_to HB1.out (below_alloc (Below.refl w1.heap.size w1) _)).trans (hw2.2.1.mono HB1.out.size)⟩
    have HW2 := Aside0.mk hw2.1
    have HZ2 := Aside0.mk HB1.out.size
    clear hw2 q0 q1 q2 q3 q4 q5 q6 q7
    go_wp2_with fail
    refine (bld_string _ _ _ _ HW2.out.bld HW2.out.base).mono ?_
    rintro e w3 ⟨rfl, hb3⟩
    have HB3 : Aside0 (Below w.heap.size w w3) := ⟨HB2.out.trans (hb3.mono HZ2.out)⟩
    clear hb3
    go_wp2_with fail
    go_ret2
    exact ⟨by show Ending.returned (.tuple #[.string ⟨(u8L (writeN n)).toArray⟩, .int .i64 0]) = _; rfl, HB3.out⟩
/-- The tree of a.+ -/
abbrev ndAny : Nd := mkN 2 0 0 0 false e0 []
abbrev ndRep : Nd := mkN 8 0 1 (-1) false e0 [ndAny]
abbrev ndChr : Nd := mkN 1 0 97 0 false e0 []
abbrev ndAw : Nd := mkN 6 0 0 0 false e0 [ndChr, ndRep]
theorem can_aw (res : ByteArray → Int × ByteArray × Int) : canN res ndAw = true ∧ writeN ndAw = [97, 46, 43] := by
  constructor
  · unfold canN
    rw [bodyN_eq, if_pos (by decide), if_neg (by decide), if_pos rfl, partK_cons, partN_eq, if_pos rfl, if_pos (by decide)]
    show (((partK res [ndRep] 0 (0, [])).isSome) && _) = true
    rw [partK_cons, partN_eq, if_neg (by decide), if_neg (by decide), if_neg (by decide), if_neg (by decide), if_neg (by decide), if_neg (by decide), if_pos rfl, if_pos (by decide), repK_one, if_neg (by decide), partN_eq, if_neg (by decide), if_pos (.inl rfl), if_pos (by decide)]
    show ((partK res [] 0 (0, [])).isSome && _) = true
    rw [partK_nil]
    decide
  · decide
theorem flat_get : ∀ (L : List (List Value)) (j i : Nat) (hj : j < L.length), (∀ c ∈ L, c.length = 8) → i < 8 → L.flatten[j * 8 + i]? = (L[j])[i]?
  | [], j, i, hj, _, _ => by simp at hj
  | c :: L, 0, i, _, h8, hi => by
    have hc := h8 c List.mem_cons_self
    rw [List.flatten_cons, Nat.zero_mul, Nat.zero_add, List.getElem?_append_left (by omega)]
    rfl
  | c :: L, j + 1, i, hj, h8, hi => by
    have hc := h8 c List.mem_cons_self
    rw [List.flatten_cons, List.getElem?_append_right (by omega), show (j + 1) * 8 + i - c.length = j * 8 + i by omega]
    rw [flat_get L j i (by simpa using hj) (fun d hd => h8 d (List.mem_cons_of_mem _ hd)) hi]
    rfl
/-- A block of nodes' cells reads as the nodes. -/
theorem C_blk {W : World} {g : Nat} {T : TypeId} {fr : Nat × Nat} (ns : List Nd) (L : List (List Value)) (hl : L.length = ns.length) (hg : W.heap[g]? = some (.cells L.flatten.toArray T fr)) (hm : ns.length ≤ 9223372036854775807)
    (hK : ∀ j (h1 : j < ns.length) (h2 : j < L.length), kN.K W ns[j] L[j]) : Kd.C kN W (some ⟨g, 0, none⟩) ns.length ns := by
  have hz : kN.sz = 8 := rfl
  have h8 : ∀ c ∈ L, c.length = 8 := by
    intro c hc
    obtain ⟨j, hj, rfl⟩ := List.getElem_of_mem hc
    have := kN.K_len (hK j (by omega) hj)
    rw [hz] at this
    exact this
  refine ⟨rfl, hm, fun _ => ⟨_, rfl, fun j p hj => ?_⟩⟩
  obtain ⟨hlt, rfl⟩ := List.getElem?_eq_some_iff.1 hj
  refine ⟨L[j]'(by omega), kN.K_len (hK j hlt (by omega)), hK j hlt (by omega), fun i u hu => ?_⟩
  have hi : i < 8 := by have := (List.getElem?_eq_some_iff.1 hu).1; rw [h8 _ (List.getElem_mem _)] at this; exact this
  rw [hz, add_plain]
  refine rowc hg _ u ?_
  rw [List.getElem?_toArray, flat_get L j i (by omega) h8 hi]
  exact hu
/-- A node's cells. -/
abbrev ndC (n : Nd) (A6 : Option Addr) (c6 : Nat) (A7 : Option Addr) (c7 : Nat) : List Value := [.int .i64 n.f0, .int .i64 n.f1, .int .i64 n.f2, .int .i64 n.f3, .bool n.f4, .string n.f5, .slice A6 n.f6.length c6, .slice A7 n.f7.length c7]
theorem K_of {W : World} {n : Nd} {A6 : Option Addr} {c6 : Nat} {A7 : Option Addr} {c7 : Nat} (h6 : n.f6.length ≤ c6) (g6 : Kd.C k63 W A6 n.f6.length n.f6) (h7 : n.f7.length ≤ c7) (g7 : Kd.C kN W A7 n.f7.length n.f7) : kN.K W n (ndC n A6 c6 A7 c7) := k25_mk W n h6 g6 h7 g7
theorem C_none {α : Type} (kd : Kd α) (W : World) : Kd.C kd W none 0 [] := ⟨rfl, by simp, fun h => absurd h (by simp)⟩
theorem K_leaf {W : World} (k m a b : Int) (ng : Bool) (nm : ByteArray) : kN.K W (mkN k m a b ng nm []) [.int .i64 k, .int .i64 m, .int .i64 a, .int .i64 b, .bool ng, .string nm, .slice none 0 0, .slice none 0 0] :=
  K_of (n := mkN k m a b ng nm []) (Nat.le_refl _) (C_none _ _) (Nat.le_refl _) (C_none _ _)
set_option maxHeartbeats 16000000 in
set_option maxRecDepth 100000 in
theorem awake14_any (b : ByteArray) (hal : Ali b) (m0 : Int) (w : World) (hv : WVars w m0) :
    Calls Tryz.prog 13 #[] w fun e w' => e = .returned (.bool true) ∧ Below w.heap.size w w' := by
  have HP := Aside0.mk (fun W v (hb : Below w.heap.size w W) (h : RdN W ndAw v) => tprint_any b hal m0 (n := ndAw) (by decide) W v h (hv.stay hb))
  have HR : Aside0 (prN b ndAw = (⟨#[97, 46, 43]⟩, 0)) := ⟨by unfold prN; rw [if_pos (can_aw _).1, (can_aw (resolveL (rowsB b))).2]; rfl⟩
  rw [HR.out] at HP
  clear hv hal
  go_enter Tryz.func13, Tryz.ntmps13
  go_wp2_with fail
  have h1 := heap_alloc_new w (.cells #[.int .i64 2, .int .i64 0, .int .i64 0, .int .i64 0, .bool false, .string ⟨#[]⟩, .slice none 0 0, .slice none 0 0] 25)
  have z1 : (w.alloc (.cells #[.int .i64 2, .int .i64 0, .int .i64 0, .int .i64 0, .bool false, .string ⟨#[]⟩, .slice none 0 0, .slice none 0 0] 25)).heap.size = w.heap.size + 1 := by simp
  have b1 : Below w.heap.size w (w.alloc (.cells #[.int .i64 2, .int .i64 0, .int .i64 0, .int .i64 0, .bool false, .string ⟨#[]⟩, .slice none 0 0, .slice none 0 0] 25)) := below_alloc (Below.refl _ _) _
  obtain ⟨w1, hw1⟩ : ∃ w1, w.alloc (.cells #[.int .i64 2, .int .i64 0, .int .i64 0, .int .i64 0, .bool false, .string ⟨#[]⟩, .slice none 0 0, .slice none 0 0] 25) = w1 := ⟨_, rfl⟩
  rw [hw1] at h1 z1 b1 ⊢
  have h2 := heap_alloc_new w1 (.cells #[.int .i64 1, .int .i64 0, .int .i64 97, .int .i64 0, .bool false, .string ⟨#[]⟩, .slice none 0 0, .slice none 0 0, .int .i64 8, .int .i64 0, .int .i64 1, .int .i64 (-1), .bool false, .string ⟨#[]⟩, .slice none 0 0, .slice (some ⟨w.heap.size, 0, none⟩) 1 1] 25)
  have b2 : Below w1.heap.size w1 (w1.alloc (.cells #[.int .i64 1, .int .i64 0, .int .i64 97, .int .i64 0, .bool false, .string ⟨#[]⟩, .slice none 0 0, .slice none 0 0, .int .i64 8, .int .i64 0, .int .i64 1, .int .i64 (-1), .bool false, .string ⟨#[]⟩, .slice none 0 0, .slice (some ⟨w.heap.size, 0, none⟩) 1 1] 25)) := below_alloc (Below.refl _ _) _
  obtain ⟨w2, hw2⟩ : ∃ w2, w1.alloc (.cells #[.int .i64 1, .int .i64 0, .int .i64 97, .int .i64 0, .bool false, .string ⟨#[]⟩, .slice none 0 0, .slice none 0 0, .int .i64 8, .int .i64 0, .int .i64 1, .int .i64 (-1), .bool false, .string ⟨#[]⟩, .slice none 0 0, .slice (some ⟨w.heap.size, 0, none⟩) 1 1] 25) = w2 := ⟨_, rfl⟩
  rw [hw2] at h2 b2 ⊢
  rw [z1] at h2
  have h1' := (b2.block w.heap.size (by omega)).trans h1
  have c1 : Kd.C kN w2 (some ⟨w.heap.size, 0, none⟩) 1 [ndAny] := C_blk [ndAny] [[.int .i64 2, .int .i64 0, .int .i64 0, .int .i64 0, .bool false, .string ⟨#[]⟩, .slice none 0 0, .slice none 0 0]] rfl h1' (by simp) (fun j g1 g2 => by
    have : j = 0 := by simp at g1; omega
    subst this
    exact K_leaf 2 0 0 0 false e0)
  have c2 : Kd.C kN w2 (some ⟨w.heap.size + 1, 0, none⟩) 2 [ndChr, ndRep] := C_blk [ndChr, ndRep] [[.int .i64 1, .int .i64 0, .int .i64 97, .int .i64 0, .bool false, .string ⟨#[]⟩, .slice none 0 0, .slice none 0 0], [.int .i64 8, .int .i64 0, .int .i64 1, .int .i64 (-1), .bool false, .string ⟨#[]⟩, .slice none 0 0, .slice (some ⟨w.heap.size, 0, none⟩) 1 1]] rfl h2 (by simp) (fun j g1 g2 => by
    simp at g1
    rcases (show j = 0 ∨ j = 1 by omega) with rfl | rfl
    · exact K_leaf 1 0 97 0 false e0
    · exact K_of (n := ndRep) (Nat.le_refl _) (C_none _ _) (Nat.le_refl _) c1)
  have hr : RdN w2 ndAw (.agg #[.int .i64 6, .int .i64 0, .int .i64 0, .int .i64 0, .bool false, .string ⟨#[]⟩, .slice none 0 0, .slice (some ⟨w.heap.size + 1, 0, none⟩) 2 2]) := ⟨none, 0, _, 2, rfl, Nat.le_refl _, C_none _ _, Nat.le_refl _, c2⟩
  refine (HP.out w2 _ (below_to b1 b2) hr).mono ?_
  rintro e w3 ⟨rfl, hb3⟩
  have HB3 := Aside0.mk (below_to (below_to b1 b2) hb3)
  clear hb3 hr c1 c2 h1 h1' h2 b1 b2 z1 hw1 hw2
  go_wp2_with fail
  go_ret
  exact ⟨rfl, HB3.out⟩

end Go.Proofs.YtkipjalfgdfaiaaGreatDoor
namespace Go.Proofs.YtkipjalfgdfaiaaGreatDoor
set_option linter.unusedVariables false
set_option linter.unusedSimpArgs false
open Go.RowKit Go.Proofs.YtkipjalfgdfaiaaGreatDoorW.PrintWords Go.Proofs.YtkipjalfgdfaiaaGreatDoorW.PrintLast Go.Proofs.YtkipjalfgdfaiaaGreatDoorW.PrintMore Go.Proofs.YtkipjalfgdfaiaaGreatDoor.PTk

theorem few_size {n : Nd} (h : (fewN n 3000 300).1 = true) : sizeN n ≤ 3000 ∧ highN n ≤ 300 := by
  have := (few_ok.1 n 3000 300 (by decide)).2 h
  omega
set_option maxHeartbeats 16000000 in
set_option maxRecDepth 100000 in
theorem TreeBounds_walk (w : World) (v : Value) (n : Nd) (h : RdN w n v) (m : Int) (htv : WVars w m) (hw : weightN n ≤ 2147483648) :
    Calls Tryz.prog 4 #[v] w fun e w' => e = .returned (.bool true) ∧ Below w.heap.size w w' := by
  obtain ⟨b, hal⟩ := ali_ex
  have HD := Aside0.mk (fun W (hb : Below w.heap.size w W) => deepN_any n W v (h.below hb) 3000 300 (by decide) (by decide) (by decide) (by decide))
  have HAW := Aside0.mk (fun W (hb : Below w.heap.size w W) => awake14_any b hal m W (htv.stay hb))
  have HPR := Aside0.mk (fun W (hb : Below w.heap.size w W) => tprint_any b hal m hw W v (h.below hb) (htv.stay hb))
  have HCN := Aside0.mk (fun W (hb : Below w.heap.size w W) => can_any b hal.is hal.short m hw W v (h.below hb) (htv.stay hb))
  have hgr := fun (hs : sizeN n ≤ 3000 ∧ highN n ≤ 300) W (hb : Below w.heap.size w W) => groups_any n W v (h.below hb) (by omega)
  have hdp := fun (hs : sizeN n ≤ 3000 ∧ highN n ≤ 300) W (hb : Below w.heap.size w W) => depth_any n W v (h.below hb) (by omega) (by omega)
  obtain ⟨A6, c6, A7, c7, rfl, -, -, -, -⟩ := h
  cases hf : (fewN n 3000 300).1 with
  | false =>
    rw [hf] at HD
    clear HPR HCN htv hf hgr hdp
    have hbl : Below w.heap.size w (w.alloc (.cells #[.int .i64 n.f0, .int .i64 n.f1, .int .i64 n.f2, .int .i64 n.f3, .bool n.f4, .string n.f5, .slice A6 n.f6.length c6, .slice A7 n.f7.length c7] 25)) := below_alloc (Below.refl _ _) _
    have hx0 : (w.alloc (.cells #[.int .i64 n.f0, .int .i64 n.f1, .int .i64 n.f2, .int .i64 n.f3, .bool n.f4, .string n.f5, .slice A6 n.f6.length c6, .slice A7 n.f7.length c7] 25)).heap[w.heap.size]? = some (.cells #[.int .i64 n.f0, .int .i64 n.f1, .int .i64 n.f2, .int .i64 n.f3, .bool n.f4, .string n.f5, .slice A6 n.f6.length c6, .slice A7 n.f7.length c7] 25 (0, 0)) := by
      have hh := heap_alloc_new w (.cells #[.int .i64 n.f0, .int .i64 n.f1, .int .i64 n.f2, .int .i64 n.f3, .bool n.f4, .string n.f5, .slice A6 n.f6.length c6, .slice A7 n.f7.length c7] 25)
      skip
      exact hh
    obtain ⟨W0, hW0⟩ : ∃ W0, (w.alloc (.cells #[.int .i64 n.f0, .int .i64 n.f1, .int .i64 n.f2, .int .i64 n.f3, .bool n.f4, .string n.f5, .slice A6 n.f6.length c6, .slice A7 n.f7.length c7] 25)) = W0 := ⟨_, rfl⟩
    rw [hW0] at hbl hx0
    have HB0 := Aside0.mk hbl
    have HX0_0 := Aside0.mk hx0
    have HW0 := Aside0.mk hW0
    have q0_0_0 := rowc HX0_0.out 0 _ rfl
    have q0_0_1 := rowc HX0_0.out 1 _ rfl
    have q0_0_2 := rowc HX0_0.out 2 _ rfl
    have q0_0_3 := rowc HX0_0.out 3 _ rfl
    have q0_0_4 := rowc HX0_0.out 4 _ rfl
    have q0_0_5 := rowc HX0_0.out 5 _ rfl
    have q0_0_6 := rowc HX0_0.out 6 _ rfl
    have q0_0_7 := rowc HX0_0.out 7 _ rfl
    clear hbl hW0 hx0
    rw [← HW0.out] at q0_0_0 q0_0_1 q0_0_2 q0_0_3 q0_0_4 q0_0_5 q0_0_6 q0_0_7
    go_enter Tryz.func4, Tryz.ntmps4
    go_wp2_with fail
    rw [HW0.out]
    rw [HW0.out] at q0_0_0 q0_0_1 q0_0_2 q0_0_3 q0_0_4 q0_0_5 q0_0_6 q0_0_7
    refine (HD.out _ HB0.out).mono ?_
    rintro e w1 ⟨rfl, hb1⟩
    have HB1 := Aside0.mk (below_to HB0.out hb1)
    have HX1_0 := Aside0.mk ((hb1.block _ (Array.getElem?_eq_some_iff.1 HX0_0.out).1).trans HX0_0.out)
    have q1_0_0 := rowc HX1_0.out 0 _ rfl
    have q1_0_1 := rowc HX1_0.out 1 _ rfl
    have q1_0_2 := rowc HX1_0.out 2 _ rfl
    have q1_0_3 := rowc HX1_0.out 3 _ rfl
    have q1_0_4 := rowc HX1_0.out 4 _ rfl
    have q1_0_5 := rowc HX1_0.out 5 _ rfl
    have q1_0_6 := rowc HX1_0.out 6 _ rfl
    have q1_0_7 := rowc HX1_0.out 7 _ rfl
    clear hb1 q0_0_0 q0_0_1 q0_0_2 q0_0_3 q0_0_4 q0_0_5 q0_0_6 q0_0_7
    go_wp2_with fail
    refine (HAW.out _ HB1.out).mono ?_
    rintro e w2 ⟨rfl, hb2⟩
    have HB2 := Aside0.mk (below_to HB1.out hb2)
    have HX2_0 := Aside0.mk ((hb2.block _ (Array.getElem?_eq_some_iff.1 HX1_0.out).1).trans HX1_0.out)
    have q2_0_0 := rowc HX2_0.out 0 _ rfl
    have q2_0_1 := rowc HX2_0.out 1 _ rfl
    have q2_0_2 := rowc HX2_0.out 2 _ rfl
    have q2_0_3 := rowc HX2_0.out 3 _ rfl
    have q2_0_4 := rowc HX2_0.out 4 _ rfl
    have q2_0_5 := rowc HX2_0.out 5 _ rfl
    have q2_0_6 := rowc HX2_0.out 6 _ rfl
    have q2_0_7 := rowc HX2_0.out 7 _ rfl
    clear hb2 q1_0_0 q1_0_1 q1_0_2 q1_0_3 q1_0_4 q1_0_5 q1_0_6 q1_0_7
    go_wp2_with fail
    go_ret
    exact ⟨rfl, HB2.out⟩
  | true =>
    rw [hf] at HD
    have HGR := Aside0.mk (hgr (few_size hf))
    have HDP := Aside0.mk (hdp (few_size hf))
    clear hgr hdp
    cases hc : canN (resolveL (rowsB b)) n with
    | false =>
      have hp : prN b n = (⟨#[]⟩, 1) := by unfold prN; rw [if_neg (by rw [hc]; decide)]
      rw [hp] at HPR
      rw [hc] at HCN
      clear htv hf hc hp HGR HDP
      have hbl : Below w.heap.size w (w.alloc (.cells #[.int .i64 n.f0, .int .i64 n.f1, .int .i64 n.f2, .int .i64 n.f3, .bool n.f4, .string n.f5, .slice A6 n.f6.length c6, .slice A7 n.f7.length c7] 25)) := below_alloc (Below.refl _ _) _
      have hx0 : (w.alloc (.cells #[.int .i64 n.f0, .int .i64 n.f1, .int .i64 n.f2, .int .i64 n.f3, .bool n.f4, .string n.f5, .slice A6 n.f6.length c6, .slice A7 n.f7.length c7] 25)).heap[w.heap.size]? = some (.cells #[.int .i64 n.f0, .int .i64 n.f1, .int .i64 n.f2, .int .i64 n.f3, .bool n.f4, .string n.f5, .slice A6 n.f6.length c6, .slice A7 n.f7.length c7] 25 (0, 0)) := by
        have hh := heap_alloc_new w (.cells #[.int .i64 n.f0, .int .i64 n.f1, .int .i64 n.f2, .int .i64 n.f3, .bool n.f4, .string n.f5, .slice A6 n.f6.length c6, .slice A7 n.f7.length c7] 25)
        skip
        exact hh
      obtain ⟨W0, hW0⟩ : ∃ W0, (w.alloc (.cells #[.int .i64 n.f0, .int .i64 n.f1, .int .i64 n.f2, .int .i64 n.f3, .bool n.f4, .string n.f5, .slice A6 n.f6.length c6, .slice A7 n.f7.length c7] 25)) = W0 := ⟨_, rfl⟩
      rw [hW0] at hbl hx0
      have HB0 := Aside0.mk hbl
      have HX0_0 := Aside0.mk hx0
      have HW0 := Aside0.mk hW0
      have q0_0_0 := rowc HX0_0.out 0 _ rfl
      have q0_0_1 := rowc HX0_0.out 1 _ rfl
      have q0_0_2 := rowc HX0_0.out 2 _ rfl
      have q0_0_3 := rowc HX0_0.out 3 _ rfl
      have q0_0_4 := rowc HX0_0.out 4 _ rfl
      have q0_0_5 := rowc HX0_0.out 5 _ rfl
      have q0_0_6 := rowc HX0_0.out 6 _ rfl
      have q0_0_7 := rowc HX0_0.out 7 _ rfl
      clear hbl hW0 hx0
      rw [← HW0.out] at q0_0_0 q0_0_1 q0_0_2 q0_0_3 q0_0_4 q0_0_5 q0_0_6 q0_0_7
      go_enter Tryz.func4, Tryz.ntmps4
      go_wp2_with fail
      rw [HW0.out]
      rw [HW0.out] at q0_0_0 q0_0_1 q0_0_2 q0_0_3 q0_0_4 q0_0_5 q0_0_6 q0_0_7
      refine (HD.out _ HB0.out).mono ?_
      rintro e w1 ⟨rfl, hb1⟩
      have HB1 := Aside0.mk (below_to HB0.out hb1)
      have HX1_0 := Aside0.mk ((hb1.block _ (Array.getElem?_eq_some_iff.1 HX0_0.out).1).trans HX0_0.out)
      have q1_0_0 := rowc HX1_0.out 0 _ rfl
      have q1_0_1 := rowc HX1_0.out 1 _ rfl
      have q1_0_2 := rowc HX1_0.out 2 _ rfl
      have q1_0_3 := rowc HX1_0.out 3 _ rfl
      have q1_0_4 := rowc HX1_0.out 4 _ rfl
      have q1_0_5 := rowc HX1_0.out 5 _ rfl
      have q1_0_6 := rowc HX1_0.out 6 _ rfl
      have q1_0_7 := rowc HX1_0.out 7 _ rfl
      clear hb1 q0_0_0 q0_0_1 q0_0_2 q0_0_3 q0_0_4 q0_0_5 q0_0_6 q0_0_7
      go_wp2_with fail
      refine (HPR.out _ HB1.out).mono ?_
      rintro e w2 ⟨rfl, hb2⟩
      have HB2 := Aside0.mk (below_to HB1.out hb2)
      have HX2_0 := Aside0.mk ((hb2.block _ (Array.getElem?_eq_some_iff.1 HX1_0.out).1).trans HX1_0.out)
      have q2_0_0 := rowc HX2_0.out 0 _ rfl
      have q2_0_1 := rowc HX2_0.out 1 _ rfl
      have q2_0_2 := rowc HX2_0.out 2 _ rfl
      have q2_0_3 := rowc HX2_0.out 3 _ rfl
      have q2_0_4 := rowc HX2_0.out 4 _ rfl
      have q2_0_5 := rowc HX2_0.out 5 _ rfl
      have q2_0_6 := rowc HX2_0.out 6 _ rfl
      have q2_0_7 := rowc HX2_0.out 7 _ rfl
      clear hb2 q1_0_0 q1_0_1 q1_0_2 q1_0_3 q1_0_4 q1_0_5 q1_0_6 q1_0_7
      go_wp2_with fail
      refine (HCN.out _ HB2.out).mono ?_
      rintro e w3 ⟨rfl, hb3⟩
      have HB3 := Aside0.mk (below_to HB2.out hb3)
      have HX3_0 := Aside0.mk ((hb3.block _ (Array.getElem?_eq_some_iff.1 HX2_0.out).1).trans HX2_0.out)
      have q3_0_0 := rowc HX3_0.out 0 _ rfl
      have q3_0_1 := rowc HX3_0.out 1 _ rfl
      have q3_0_2 := rowc HX3_0.out 2 _ rfl
      have q3_0_3 := rowc HX3_0.out 3 _ rfl
      have q3_0_4 := rowc HX3_0.out 4 _ rfl
      have q3_0_5 := rowc HX3_0.out 5 _ rfl
      have q3_0_6 := rowc HX3_0.out 6 _ rfl
      have q3_0_7 := rowc HX3_0.out 7 _ rfl
      clear hb3 q2_0_0 q2_0_1 q2_0_2 q2_0_3 q2_0_4 q2_0_5 q2_0_6 q2_0_7
      go_wp2_with fail
      refine (HAW.out _ HB3.out).mono ?_
      rintro e w4 ⟨rfl, hb4⟩
      have HB4 := Aside0.mk (below_to HB3.out hb4)
      have HX4_0 := Aside0.mk ((hb4.block _ (Array.getElem?_eq_some_iff.1 HX3_0.out).1).trans HX3_0.out)
      have q4_0_0 := rowc HX4_0.out 0 _ rfl
      have q4_0_1 := rowc HX4_0.out 1 _ rfl
      have q4_0_2 := rowc HX4_0.out 2 _ rfl
      have q4_0_3 := rowc HX4_0.out 3 _ rfl
      have q4_0_4 := rowc HX4_0.out 4 _ rfl
      have q4_0_5 := rowc HX4_0.out 5 _ rfl
      have q4_0_6 := rowc HX4_0.out 6 _ rfl
      have q4_0_7 := rowc HX4_0.out 7 _ rfl
      clear hb4 q3_0_0 q3_0_1 q3_0_2 q3_0_3 q3_0_4 q3_0_5 q3_0_6 q3_0_7
      go_wp2_with fail
      go_ret
      exact ⟨rfl, HB4.out⟩
    | true =>
      have hp : prN b n = (strOfNums (writeN n), 0) := by unfold prN; rw [if_pos hc]
      obtain ⟨k1, k2, k3⟩ := can_bounds _ hc
      have hls : (strOfNums (writeN n)).size ≤ 2000 := by rw [Lib.size_eq, str_data, List.length_map]; exact k3
      rw [hp] at HPR
      rw [hc] at HCN
      obtain ⟨S, hS⟩ : ∃ S, strOfNums (writeN n) = S := ⟨_, rfl⟩
      obtain ⟨G, hG⟩ : ∃ G, groupsN n = G := ⟨_, rfl⟩
      obtain ⟨D, hDD⟩ : ∃ D, depthN n true = D := ⟨_, rfl⟩
      rw [hS] at HPR hls
      rw [hG] at HGR k1
      rw [hDD] at HDP k2
      have d1 : decide (S.size ≤ 2000) = true := decide_eq_true hls
      have d2 : decide (G ≤ 20) = true := decide_eq_true k1
      have d3 : decide (D ≤ 50) = true := decide_eq_true k2
      have d1' : decide ((S.size : Int) ≤ 2000) = true := decide_eq_true (by omega)
      have d2' : decide ((G : Int) ≤ 20) = true := decide_eq_true (by omega)
      have d3' : decide ((D : Int) ≤ 50) = true := decide_eq_true (by omega)
      clear htv hf hc hp hS hG hDD
      have hbl : Below w.heap.size w (w.alloc (.cells #[.int .i64 n.f0, .int .i64 n.f1, .int .i64 n.f2, .int .i64 n.f3, .bool n.f4, .string n.f5, .slice A6 n.f6.length c6, .slice A7 n.f7.length c7] 25)) := below_alloc (Below.refl _ _) _
      have hx0 : (w.alloc (.cells #[.int .i64 n.f0, .int .i64 n.f1, .int .i64 n.f2, .int .i64 n.f3, .bool n.f4, .string n.f5, .slice A6 n.f6.length c6, .slice A7 n.f7.length c7] 25)).heap[w.heap.size]? = some (.cells #[.int .i64 n.f0, .int .i64 n.f1, .int .i64 n.f2, .int .i64 n.f3, .bool n.f4, .string n.f5, .slice A6 n.f6.length c6, .slice A7 n.f7.length c7] 25 (0, 0)) := by
        have hh := heap_alloc_new w (.cells #[.int .i64 n.f0, .int .i64 n.f1, .int .i64 n.f2, .int .i64 n.f3, .bool n.f4, .string n.f5, .slice A6 n.f6.length c6, .slice A7 n.f7.length c7] 25)
        skip
        exact hh
      obtain ⟨W0, hW0⟩ : ∃ W0, (w.alloc (.cells #[.int .i64 n.f0, .int .i64 n.f1, .int .i64 n.f2, .int .i64 n.f3, .bool n.f4, .string n.f5, .slice A6 n.f6.length c6, .slice A7 n.f7.length c7] 25)) = W0 := ⟨_, rfl⟩
      rw [hW0] at hbl hx0
      have HB0 := Aside0.mk hbl
      have HX0_0 := Aside0.mk hx0
      have HW0 := Aside0.mk hW0
      have q0_0_0 := rowc HX0_0.out 0 _ rfl
      have q0_0_1 := rowc HX0_0.out 1 _ rfl
      have q0_0_2 := rowc HX0_0.out 2 _ rfl
      have q0_0_3 := rowc HX0_0.out 3 _ rfl
      have q0_0_4 := rowc HX0_0.out 4 _ rfl
      have q0_0_5 := rowc HX0_0.out 5 _ rfl
      have q0_0_6 := rowc HX0_0.out 6 _ rfl
      have q0_0_7 := rowc HX0_0.out 7 _ rfl
      clear hbl hW0 hx0
      rw [← HW0.out] at q0_0_0 q0_0_1 q0_0_2 q0_0_3 q0_0_4 q0_0_5 q0_0_6 q0_0_7
      go_enter Tryz.func4, Tryz.ntmps4
      go_wp2_with fail
      rw [HW0.out]
      rw [HW0.out] at q0_0_0 q0_0_1 q0_0_2 q0_0_3 q0_0_4 q0_0_5 q0_0_6 q0_0_7
      refine (HD.out _ HB0.out).mono ?_
      rintro e w1 ⟨rfl, hb1⟩
      have HB1 := Aside0.mk (below_to HB0.out hb1)
      have HX1_0 := Aside0.mk ((hb1.block _ (Array.getElem?_eq_some_iff.1 HX0_0.out).1).trans HX0_0.out)
      have q1_0_0 := rowc HX1_0.out 0 _ rfl
      have q1_0_1 := rowc HX1_0.out 1 _ rfl
      have q1_0_2 := rowc HX1_0.out 2 _ rfl
      have q1_0_3 := rowc HX1_0.out 3 _ rfl
      have q1_0_4 := rowc HX1_0.out 4 _ rfl
      have q1_0_5 := rowc HX1_0.out 5 _ rfl
      have q1_0_6 := rowc HX1_0.out 6 _ rfl
      have q1_0_7 := rowc HX1_0.out 7 _ rfl
      clear hb1 q0_0_0 q0_0_1 q0_0_2 q0_0_3 q0_0_4 q0_0_5 q0_0_6 q0_0_7
      go_wp2_with fail
      refine (HPR.out _ HB1.out).mono ?_
      rintro e w2 ⟨rfl, hb2⟩
      have HB2 := Aside0.mk (below_to HB1.out hb2)
      have HX2_0 := Aside0.mk ((hb2.block _ (Array.getElem?_eq_some_iff.1 HX1_0.out).1).trans HX1_0.out)
      have q2_0_0 := rowc HX2_0.out 0 _ rfl
      have q2_0_1 := rowc HX2_0.out 1 _ rfl
      have q2_0_2 := rowc HX2_0.out 2 _ rfl
      have q2_0_3 := rowc HX2_0.out 3 _ rfl
      have q2_0_4 := rowc HX2_0.out 4 _ rfl
      have q2_0_5 := rowc HX2_0.out 5 _ rfl
      have q2_0_6 := rowc HX2_0.out 6 _ rfl
      have q2_0_7 := rowc HX2_0.out 7 _ rfl
      clear hb2 q1_0_0 q1_0_1 q1_0_2 q1_0_3 q1_0_4 q1_0_5 q1_0_6 q1_0_7
      go_wp2_with fail
      refine (HCN.out _ HB2.out).mono ?_
      rintro e w3 ⟨rfl, hb3⟩
      have HB3 := Aside0.mk (below_to HB2.out hb3)
      have HX3_0 := Aside0.mk ((hb3.block _ (Array.getElem?_eq_some_iff.1 HX2_0.out).1).trans HX2_0.out)
      have q3_0_0 := rowc HX3_0.out 0 _ rfl
      have q3_0_1 := rowc HX3_0.out 1 _ rfl
      have q3_0_2 := rowc HX3_0.out 2 _ rfl
      have q3_0_3 := rowc HX3_0.out 3 _ rfl
      have q3_0_4 := rowc HX3_0.out 4 _ rfl
      have q3_0_5 := rowc HX3_0.out 5 _ rfl
      have q3_0_6 := rowc HX3_0.out 6 _ rfl
      have q3_0_7 := rowc HX3_0.out 7 _ rfl
      clear hb3 q2_0_0 q2_0_1 q2_0_2 q2_0_3 q2_0_4 q2_0_5 q2_0_6 q2_0_7
      go_wp2_with fail
      refine (HGR.out _ HB3.out).mono ?_
      rintro e w4 ⟨rfl, hb4⟩
      have HB4 := Aside0.mk (below_to HB3.out hb4)
      have HX4_0 := Aside0.mk ((hb4.block _ (Array.getElem?_eq_some_iff.1 HX3_0.out).1).trans HX3_0.out)
      have q4_0_0 := rowc HX4_0.out 0 _ rfl
      have q4_0_1 := rowc HX4_0.out 1 _ rfl
      have q4_0_2 := rowc HX4_0.out 2 _ rfl
      have q4_0_3 := rowc HX4_0.out 3 _ rfl
      have q4_0_4 := rowc HX4_0.out 4 _ rfl
      have q4_0_5 := rowc HX4_0.out 5 _ rfl
      have q4_0_6 := rowc HX4_0.out 6 _ rfl
      have q4_0_7 := rowc HX4_0.out 7 _ rfl
      clear hb4 q3_0_0 q3_0_1 q3_0_2 q3_0_3 q3_0_4 q3_0_5 q3_0_6 q3_0_7
      go_wp2_with fail
      refine (HDP.out _ HB4.out).mono ?_
      rintro e w5 ⟨rfl, hb5⟩
      have HB5 := Aside0.mk (below_to HB4.out hb5)
      have HX5_0 := Aside0.mk ((hb5.block _ (Array.getElem?_eq_some_iff.1 HX4_0.out).1).trans HX4_0.out)
      have q5_0_0 := rowc HX5_0.out 0 _ rfl
      have q5_0_1 := rowc HX5_0.out 1 _ rfl
      have q5_0_2 := rowc HX5_0.out 2 _ rfl
      have q5_0_3 := rowc HX5_0.out 3 _ rfl
      have q5_0_4 := rowc HX5_0.out 4 _ rfl
      have q5_0_5 := rowc HX5_0.out 5 _ rfl
      have q5_0_6 := rowc HX5_0.out 6 _ rfl
      have q5_0_7 := rowc HX5_0.out 7 _ rfl
      clear hb5 q4_0_0 q4_0_1 q4_0_2 q4_0_3 q4_0_4 q4_0_5 q4_0_6 q4_0_7
      go_wp2_with fail
      refine (HAW.out _ HB5.out).mono ?_
      rintro e w6 ⟨rfl, hb6⟩
      have HB6 := Aside0.mk (below_to HB5.out hb6)
      have HX6_0 := Aside0.mk ((hb6.block _ (Array.getElem?_eq_some_iff.1 HX5_0.out).1).trans HX5_0.out)
      have q6_0_0 := rowc HX6_0.out 0 _ rfl
      have q6_0_1 := rowc HX6_0.out 1 _ rfl
      have q6_0_2 := rowc HX6_0.out 2 _ rfl
      have q6_0_3 := rowc HX6_0.out 3 _ rfl
      have q6_0_4 := rowc HX6_0.out 4 _ rfl
      have q6_0_5 := rowc HX6_0.out 5 _ rfl
      have q6_0_6 := rowc HX6_0.out 6 _ rfl
      have q6_0_7 := rowc HX6_0.out 7 _ rfl
      clear hb6 q5_0_0 q5_0_1 q5_0_2 q5_0_3 q5_0_4 q5_0_5 q5_0_6 q5_0_7
      go_wp2_with fail
      go_ret
      exact ⟨rfl, HB6.out⟩

end Go.Proofs.YtkipjalfgdfaiaaGreatDoor
namespace Go.Proofs.YtkipjalfgdfaiaaGreatDoor
set_option linter.unusedVariables false
set_option linter.unusedSimpArgs false
open Go.ChangeShapes Go.WideShapes Go.ChangeAt Go.RowKit

theorem tab_of {w : World} {l : List (String × DataW Unit)} (hl : laidMet Tryz.prog l w) (hm : ("math/bits.deBruijn64tab", Rows.laid_math_bits_deBruijn64tab) ∈ l) : w.cell? ⟨6, 15, none⟩ = some (.int .u8 4) := by
  obtain ⟨g', t', cs, fuel, p, hg', ht', hv, htr⟩ := Lib.laidMet.reads hl hm
  obtain rfl := Option.some.inj ((show Tryz.prog.globalNamed "math/bits.deBruijn64tab" = some 6 by kernel_rfl).symm.trans hg')
  obtain rfl := Option.some.inj ((show (Tryz.prog.globals[6]?).map (·.type) = some 202 by kernel_rfl).symm.trans ht')
  have hc := World.var?_cell hg' hv 15
  have h := Lib.cells_of_tab (zs := [0, 1, 56, 2, 57, 49, 28, 3, 61, 58, 42, 50, 38, 29, 17, 4, 62, 47, 59, 36, 45, 43, 51, 22, 53, 39, 33, 30, 24, 18, 12, 5, 63, 55, 48, 27, 60, 41, 37, 16, 46, 35, 44, 21, 52, 32, 23, 11, 54, 26, 40, 15, 34, 20, 31, 10, 25, 14, 19, 9, 13, 8, 7, 6]) (k := .u8) Tryz.underlying202 Tryz.underlying5 (by kernel_rfl) (by kernel_rfl) htr
  rw [hc]
  have h2 : cs[15]? = cs.toList[15]? := by simp
  rw [h2, h]
  rfl

end Go.Proofs.YtkipjalfgdfaiaaGreatDoor
namespace Go.Proofs.YtkipjalfgdfaiaaGreatDoor
set_option linter.unusedVariables false
set_option linter.unusedSimpArgs false
open Go.ChangeShapes Go.WideShapes Go.ChangeAt Go.RowKit

theorem wvars_of {w : World} {l : List (String × DataW Unit)} (hl : laidMet Tryz.prog l w) (h1 : ("math/bits.deBruijn64tab", Rows.laid_math_bits_deBruijn64tab) ∈ l) (h2 : ("internal/strconv.uint64pow10", Rows.laid_internal_strconv_uint64pow10) ∈ l) (hs : w.ShapedOpen Tryz.prog) : ∃ m, WVars w m := by
  obtain ⟨m, hmx⟩ := maxIs_of hs
  have ht := tab_of hl h1
  have hp : Lib.TabIs Tryz.prog w "internal/strconv.uint64pow10" .u64 Lib.pow10Tab := by
    obtain ⟨g', t', cs, fuel, p, hg', ht', hv, htr⟩ := Lib.laidMet.reads hl h2
    obtain rfl := Option.some.inj ((show Tryz.prog.globalNamed "internal/strconv.uint64pow10" = some 1 by kernel_rfl).symm.trans hg')
    obtain rfl := Option.some.inj ((show (Tryz.prog.globals[1]?).map (·.type) = some 159 by kernel_rfl).symm.trans ht')
    have h := Lib.cells_of_tab (zs := Lib.pow10Tab) (k := .u64) Tryz.underlying159 Tryz.underlying131 (by kernel_rfl) (by kernel_rfl) htr
    unfold Lib.TabIs
    rw [hv, ← h]
  exact ⟨m, ⟨hmx, ht⟩, fun W hW => Lib.tabBelow_of_tabIs hp W hW⟩

end Go.Proofs.YtkipjalfgdfaiaaGreatDoor
namespace Go.Proofs.YtkipjalfgdfaiaaGreatDoor.treeBounds
open Go.ChangeShapes Go.WideShapes Go.ChangeAt Go.RowKit
open Go.ChangeMaps (open_string shut_string)
set_option linter.unusedVariables false
set_option linter.unusedSimpArgs false
theorem own : ownKnob Tryz.prog.godebug = none := by kernel_rfl
theorem laidOut_ : laidOutB Tryz.prog = true := by kernel_rfl
theorem laid_met (os : Os) : laidMet Tryz.prog Rows.treeBoundsUptoRow.laid ((World.laidAll Tryz.prog os Rows.treeBoundsUptoRow.laid).forCall (fun _ _ => 0) ⟨#[], #[.agg #[.int .i64 0, .int .i64 0, .int .i64 0, .int .i64 0, .bool false, .string ⟨#[]⟩, .slice none 0 0, .slice none 0 0]], []⟩).memory :=
  laidMet_laidAll _ (by kernel_rfl) (by kernel_rfl)
theorem reads (os : Os) {H : Type} (enc : TypeId × Value → H) : ∃ places, DataW.whole enc Tryz.prog ((World.laidAll Tryz.prog os Rows.treeBoundsUptoRow.laid).forCall (fun _ _ => 0) ⟨#[], #[.agg #[.int .i64 0, .int .i64 0, .int .i64 0, .int .i64 0, .bool false, .string ⟨#[]⟩, .slice none 0 0, .slice none 0 0]], []⟩).memory Tryz.f4.params.toList Rows.treeBoundsSpec.vars false (#[.agg #[.int .i64 0, .int .i64 0, .int .i64 0, .int .i64 0, .bool false, .string ⟨#[]⟩, .slice none 0 0, .slice none 0 0]] : Array Value).toList 8 = some ([.agg [.lit (.int .i64 0), .lit (.int .i64 0), .lit (.int .i64 0), .lit (.int .i64 0), .lit (.bool false), .lit (.string []), .nil, .nil]], [], places) :=
  ⟨[], by kernel_rfl⟩
set_option maxRecDepth 100000 in
theorem lifted (os : Os) (started : os.Started) (H : Type) (enc : TypeId × Value → H) (F : Stop.Interp) :
    ReturnsInHanded {} Tryz.checked os 4 .any ((Rows.OpenSpec.upto Rows.treeBoundsSpec).preRow enc Tryz.prog Tryz.f4 Rows.treeBoundsUptoRow.domain false Rows.treeBoundsUptoRow.laid) (((Rows.OpenSpec.upto Rows.treeBoundsSpec).at F).post enc Tryz.prog Tryz.f4 false true false false) := by
  obtain ⟨places, hx⟩ := reads os enc
  refine returnsInHanded_of_row (C := Tryz.checked) (s := Rows.OpenSpec.upto Rows.treeBoundsSpec) own started (by kernel_rfl) Tryz.func4
    (witness_row_zip (enc := enc) (C := Tryz.checked) (World.laidAll Tryz.prog os Rows.treeBoundsUptoRow.laid) #[.agg #[.int .i64 0, .int .i64 0, .int .i64 0, .int .i64 0, .bool false, .string ⟨#[]⟩, .slice none 0 0, .slice none 0 0]] (World.laidAll_os _ _ _) (World.shaped_of_ZipB (by kernel_rfl) (by kernel_rfl)) (by kernel_rfl)
      (OpenSpec.preRow_of_cond 8 hx (by kernel_rfl) (fun k hk => by cases hk; kernel_rfl) (by kernel_rfl) (laid_met os))) ?_
  intro W base args ds gs before hval0 hW _ hk0 hz0 hlaid hS _
  obtain ⟨m, hm⟩ := wvars_of hlaid (by repeat (first | exact List.Mem.head _ | apply List.Mem.tail)) (by repeat (first | exact List.Mem.head _ | apply List.Mem.tail)) hS
  have hval : ∀ (j : Nat) t v, Tryz.f4.params[j]? = some t → args[j]? = some v → Value.okWide Tryz.prog W .any base t v := hval0
  have hW' := hW
  obtain ⟨p, q, hA0, hV, rfl, hfz, hnd⟩ := hW
  have hA : DataW.TrodAll enc Tryz.prog W 0 (fun _ => true) true Tryz.f4.params.toList args.toList ds p := hA0
  rw [Tryz.params4] at hA hval
  obtain ⟨v0, vs0, d0, ds0, p0, q0, hargs, rfl, rfl, h0, r0⟩ := trodAll_cons hA
  obtain ⟨rfl, rfl, rfl⟩ := trodAll_nil r0
  obtain rfl : args = #[v0] := by cases args; simp_all
  obtain ⟨rfl, rfl⟩ := trodVars_none hV
  have k0 := h0
  have lt0 : ∀ x ∈ p0, x.block < W.heap.size := by obtain ⟨m, hm⟩ := k0; exact DataW.trod_lt m _ _ _ hm
  obtain ⟨n0, w0, b0⟩ := open_Nd (hval 0 25 v0 rfl rfl) h0
  have hbk := bulk_all (hk0 _ rfl)
  simp only [List.cons_append, List.nil_append, List.append_nil, Rows.uptoBulkAll] at hbk
  clear hA0 hval0 hz0
  refine (TreeBounds_walk W _ n0 w0 m hm (by omega)).mono fun e W' ⟨he, bel⟩ => ?_
  subst he
  exact ⟨_, rfl, _, _, _, [], _, [], hW', trodAll_mk1 (shut_bool Tryz.underlying4 _), (trodAll_cons_mk (Below.trod laidOut_ (by kernel_rfl) (of_decide_eq_true (by kernel_rfl)) k0 bel lt0) trodAll_mk0), rfl, bel.frame _, fun h => by cases h⟩
theorem said : Rows.TreeBoundsUptoSaid :=
  OpenClaim.holds_of_cond 4 Tryz.f4 rfl rfl rfl rfl rfl rfl rfl ⟨rfl, rfl, rfl, rfl, rfl⟩ rfl rfl rfl rfl rfl (by kernel_rfl) Tryz.func4 (by kernel_rfl)
    (of_decide_eq_true (by kernel_rfl)) (by unfold Func.isWrapper; first | (rw [if_pos (by decide +kernel)]; kernel_rfl) | (rw [if_neg (by decide +kernel)]; exact ⟨rfl, rfl⟩))
    (fun os started H enc _ F => by rw [OpenClaim.pre_eq_preRow]; exact lifted os started H enc F)
theorem plain (f : FuncId) (fn : Func) (hf : Tryz.pinned.checked.prog.funcNamed Rows.treeBoundsUptoRow.func = some f) (hfn : Tryz.pinned.checked.prog.funcs[f]? = some fn) :
    true = Tryz.pinned.checked.prog.looks [] ∧ ∀ (j : Nat) t, fn.params[j]? = some t → Tryz.pinned.checked.prog.wantsStandIn t = false := by
  obtain rfl : f = 4 := Option.some.inj ((show Tryz.prog.funcNamed Rows.treeBoundsUptoRow.func = some 4 by kernel_rfl).symm.trans hf) |>.symm
  obtain rfl : fn = Tryz.f4 := (Option.some.inj (Tryz.func4.symm.trans hfn)).symm
  refine ⟨by kernel_rfl, fun j t ht => ?_⟩
  rw [Tryz.params4] at ht
  have hm : t ∈ [25] := by simpa using Array.mem_of_getElem? ht
  have hall : ([25].all fun u => !Tryz.prog.wantsStandIn u) = true := by kernel_rfl
  exact (show Tryz.prog.wantsStandIn t = false by simpa using List.all_eq_true.1 hall t hm)
end Go.Proofs.YtkipjalfgdfaiaaGreatDoor.treeBounds
namespace Go.Proofs.YtkipjalfgdfaiaaGreatDoor
theorem treeBounds_holds : Rows.TreeBoundsUptoCardSaid :=
  Claim7.holds_tied_plain_at .later [] _ _ _ _ treeBounds.said (fun _ h => by cases h) (by kernel_rfl) (fun _ h => by cases h) treeBoundsUpto_row_tie rfl ⟨rfl, rfl⟩ (by kernel_rfl) rfl treeBounds.plain (by kernel_rfl)
end Go.Proofs.YtkipjalfgdfaiaaGreatDoor
namespace Go.Proofs.YtkipjalfgdfaiaaGreatDoor
#print axioms treeBounds_holds
end Go.Proofs.YtkipjalfgdfaiaaGreatDoor
