/- ClD, ClF, ClE, ClG, PaL, PaB. -/
import Derived.Test.YtkipjalfgdfaiaaGreatDoorSD6
namespace Go.Proofs.YtkipjalfgdfaiaaGreatDoor
set_option linter.unusedVariables false
set_option linter.unusedSimpArgs false
open Go.RowKit Go.Proofs.YtkipjalfgdfaiaaGreatDoorW.PrintWords Go.Proofs.YtkipjalfgdfaiaaGreatDoorW.PrintLast Go.Proofs.YtkipjalfgdfaiaaGreatDoorW.PrintMore Go.Proofs.YtkipjalfgdfaiaaGreatDoor.PTk

attribute [local go_sem ↓] Go.wp_at_zero Go.wp_at_succ
set_option maxHeartbeats 4000000 in
set_option maxRecDepth 100000 in
theorem write_any2 {n : Nd} (m0 : Int) (hk : n.f0 = 2) (w0 w : World) (hv : WVars w0 m0) (B b : Nat) (acc : List Int) (v : Value) (h : RdN w0 n v) (E : Ew w0 w B b acc) (hl : acc.length + ([46]).length ≤ 100000000000000) :
    Calls Tryz.prog 28 #[.pointer (some ⟨b, 0, none⟩), v] w (RetU B b acc ([46]) w) := by
  obtain ⟨A6, c6, A7, c7, e, g1, g2, g3, hC⟩ := h
  subst e
  have hrd : RdN w0 n (ndV n A6 c6 A7 c7) := ⟨A6, c6, A7, c7, rfl, g1, g2, g3, hC⟩
  have HE := Aside0.mk E
  have hbn : b ≠ w.heap.size := Nat.ne_of_lt E.wr.lt
  have HBX := Aside0.mk (fun o => E.below (below_alloc (Below.refl w.heap.size w) o))
  have HL := Aside0.mk hl
  have t6 : (n.f0 == 6) = false := by rw [beq_eq_false_iff_ne, hk]; decide
  have t7 : (n.f0 == 7) = false := by rw [beq_eq_false_iff_ne, hk]; decide
  have t1 : (n.f0 == 1) = false := by rw [beq_eq_false_iff_ne, hk]; decide
  have t2 : (n.f0 == 2) = true := by rw [hk]; rfl
  clear hv E hl hk hC hrd g1 g2 g3 
  go_enter Tryz.func28, Tryz.ntmps28
  go_wp2_with fail
  refine (bwS B b (acc) ([46]) _ _ (HBX.out _).wr rfl (by have := HL.out; simp at this ⊢; omega)).mono ?_
  rintro e w9 ⟨⟨u9, rfl⟩, hw9⟩
  have HT := Aside0.mk (Wrote.after HE.out.wr.base (below_alloc (Below.refl _ _) _) hw9)
  clear hw9
  go_wp2_with fail
  go_end0
  exact ⟨rfl, HT.out⟩
set_option maxHeartbeats 4000000 in
set_option maxRecDepth 100000 in
theorem write_cluster {n : Nd} (m0 : Int) (hk : n.f0 = 14) (w0 w : World) (hv : WVars w0 m0) (B b : Nat) (acc : List Int) (v : Value) (h : RdN w0 n v) (E : Ew w0 w B b acc) (hl : acc.length + ([92, 88]).length ≤ 100000000000000) :
    Calls Tryz.prog 28 #[.pointer (some ⟨b, 0, none⟩), v] w (RetU B b acc ([92, 88]) w) := by
  obtain ⟨A6, c6, A7, c7, e, g1, g2, g3, hC⟩ := h
  subst e
  have hrd : RdN w0 n (ndV n A6 c6 A7 c7) := ⟨A6, c6, A7, c7, rfl, g1, g2, g3, hC⟩
  have HE := Aside0.mk E
  have hbn : b ≠ w.heap.size := Nat.ne_of_lt E.wr.lt
  have HBX := Aside0.mk (fun o => E.below (below_alloc (Below.refl w.heap.size w) o))
  have HL := Aside0.mk hl
  have t6 : (n.f0 == 6) = false := by rw [beq_eq_false_iff_ne, hk]; decide
  have t7 : (n.f0 == 7) = false := by rw [beq_eq_false_iff_ne, hk]; decide
  have t1 : (n.f0 == 1) = false := by rw [beq_eq_false_iff_ne, hk]; decide
  have t2 : (n.f0 == 2) = false := by rw [beq_eq_false_iff_ne, hk]; decide
  have t3 : (n.f0 == 3) = false := by rw [beq_eq_false_iff_ne, hk]; decide
  have t5 : (n.f0 == 5) = false := by rw [beq_eq_false_iff_ne, hk]; decide
  have t8 : (n.f0 == 8) = false := by rw [beq_eq_false_iff_ne, hk]; decide
  have t9 : (n.f0 == 9) = false := by rw [beq_eq_false_iff_ne, hk]; decide
  have t10 : (n.f0 == 10) = false := by rw [beq_eq_false_iff_ne, hk]; decide
  have t11 : (n.f0 == 11) = false := by rw [beq_eq_false_iff_ne, hk]; decide
  have t12 : (n.f0 == 12) = false := by rw [beq_eq_false_iff_ne, hk]; decide
  have t13 : (n.f0 == 13) = false := by rw [beq_eq_false_iff_ne, hk]; decide
  have t14 : (n.f0 == 14) = true := by rw [hk]; rfl
  clear hv E hl hk hC hrd g1 g2 g3 
  go_enter Tryz.func28, Tryz.ntmps28
  go_wp2_with fail
  refine (bwS B b (acc) ([92, 88]) _ _ (HBX.out _).wr rfl (by have := HL.out; simp at this ⊢; omega)).mono ?_
  rintro e w9 ⟨⟨u9, rfl⟩, hw9⟩
  have HT := Aside0.mk (Wrote.after HE.out.wr.base (below_alloc (Below.refl _ _) _) hw9)
  clear hw9
  go_wp2_with fail
  go_end0
  exact ⟨rfl, HT.out⟩
set_option maxHeartbeats 4000000 in
set_option maxRecDepth 100000 in
theorem write_char {n : Nd} (m0 : Int) (hk : n.f0 = 1) (w0 w : World) (hv : WVars w0 m0) (B b : Nat) (acc : List Int) (v : Value) (h : RdN w0 n v) (E : Ew w0 w B b acc) (hl : acc.length + (printL n.f2 false).length ≤ 100000000000000) :
    Calls Tryz.prog 28 #[.pointer (some ⟨b, 0, none⟩), v] w (RetU B b acc (printL n.f2 false) w) := by
  obtain ⟨A6, c6, A7, c7, e, g1, g2, g3, hC⟩ := h
  subst e
  have hrd : RdN w0 n (ndV n A6 c6 A7 c7) := ⟨A6, c6, A7, c7, rfl, g1, g2, g3, hC⟩
  have HE := Aside0.mk E
  have hbn : b ≠ w.heap.size := Nat.ne_of_lt E.wr.lt
  have HBX := Aside0.mk (fun o => E.below (below_alloc (Below.refl w.heap.size w) o))
  have HL := Aside0.mk hl
  have t6 : (n.f0 == 6) = false := by rw [beq_eq_false_iff_ne, hk]; decide
  have t7 : (n.f0 == 7) = false := by rw [beq_eq_false_iff_ne, hk]; decide
  have t1 : (n.f0 == 1) = true := by rw [hk]; rfl
  have HPR := Aside0.mk (fun r W (E' : Below w0.heap.size w0 W) => print_any r false W m0 (hv.tv.stay E').mx (hv.tv.stay E').tab)
  clear hv E hl hk hC hrd g1 g2 g3 
  go_enter Tryz.func28, Tryz.ntmps28
  go_wp2_with fail
  refine (HPR.out n.f2 _ (HBX.out _).bel).mono ?_
  rintro e v1 ⟨rfl, hb1⟩
  have HB1 := Aside0.mk (below_to (below_alloc (Below.refl w.heap.size w) _) hb1)
  clear hb1
  go_wp2_with fail
  refine (bwS B b (acc) (printL n.f2 false) _ _ ((HE.out.below HB1.out).wr) rfl (Nat.le_trans HL.out (by omega))).mono ?_
  rintro e w9 ⟨⟨u9, rfl⟩, hw9⟩
  have HT := Aside0.mk (Wrote.after HE.out.wr.base HB1.out hw9)
  clear hw9
  go_wp2_with fail
  go_end0
  exact ⟨rfl, HT.out⟩
set_option maxHeartbeats 4000000 in
set_option maxRecDepth 100000 in
theorem write_class {n : Nd} (m0 : Int) (hk : n.f0 = 3) (hS : SideC m0 n) (w0 w : World) (hv : WVars w0 m0) (B b : Nat) (acc : List Int) (v : Value) (h : RdN w0 n v) (E : Ew w0 w B b acc) (hl : acc.length + (classW n).length ≤ 100000000000000) :
    Calls Tryz.prog 28 #[.pointer (some ⟨b, 0, none⟩), v] w (RetU B b acc (classW n) w) := by
  obtain ⟨A6, c6, A7, c7, e, g1, g2, g3, hC⟩ := h
  subst e
  have hrd : RdN w0 n (ndV n A6 c6 A7 c7) := ⟨A6, c6, A7, c7, rfl, g1, g2, g3, hC⟩
  have HE := Aside0.mk E
  have hbn : b ≠ w.heap.size := Nat.ne_of_lt E.wr.lt
  have HBX := Aside0.mk (fun o => E.below (below_alloc (Below.refl w.heap.size w) o))
  have HL := Aside0.mk hl
  have t6 : (n.f0 == 6) = false := by rw [beq_eq_false_iff_ne, hk]; decide
  have t7 : (n.f0 == 7) = false := by rw [beq_eq_false_iff_ne, hk]; decide
  have t1 : (n.f0 == 1) = false := by rw [beq_eq_false_iff_ne, hk]; decide
  have t2 : (n.f0 == 2) = false := by rw [beq_eq_false_iff_ne, hk]; decide
  have t3 : (n.f0 == 3) = true := by rw [hk]; rfl
  have HX := Aside0.mk (fun W (E' : Ew w0 W B b acc) => writeClass_any m0 hS w0 W hv.tv B b acc _ hrd E' hl)
  clear hv E hl hk hC hrd g1 g2 g3 hS
  go_enter Tryz.func28, Tryz.ntmps28
  go_wp2_with fail
  refine (HX.out _ (HBX.out _)).mono ?_
  rintro e w9 ⟨rfl, hw9⟩
  have HT := Aside0.mk (Wrote.after HE.out.wr.base (below_alloc (Below.refl _ _) _) hw9)
  clear hw9
  go_wp2_with fail
  go_end0
  exact ⟨rfl, HT.out⟩
set_option maxHeartbeats 4000000 in
set_option maxRecDepth 100000 in
theorem write_prop {n : Nd} (m0 : Int) (hk : n.f0 = 5) (hS : PropC n) (w0 w : World) (hv : WVars w0 m0) (B b : Nat) (acc : List Int) (v : Value) (h : RdN w0 n v) (E : Ew w0 w B b acc) (hl : acc.length + (propW n).length ≤ 100000000000000) :
    Calls Tryz.prog 28 #[.pointer (some ⟨b, 0, none⟩), v] w (RetU B b acc (propW n) w) := by
  obtain ⟨A6, c6, A7, c7, e, g1, g2, g3, hC⟩ := h
  subst e
  have hrd : RdN w0 n (ndV n A6 c6 A7 c7) := ⟨A6, c6, A7, c7, rfl, g1, g2, g3, hC⟩
  have HE := Aside0.mk E
  have hbn : b ≠ w.heap.size := Nat.ne_of_lt E.wr.lt
  have HBX := Aside0.mk (fun o => E.below (below_alloc (Below.refl w.heap.size w) o))
  have HL := Aside0.mk hl
  have t6 : (n.f0 == 6) = false := by rw [beq_eq_false_iff_ne, hk]; decide
  have t7 : (n.f0 == 7) = false := by rw [beq_eq_false_iff_ne, hk]; decide
  have t1 : (n.f0 == 1) = false := by rw [beq_eq_false_iff_ne, hk]; decide
  have t2 : (n.f0 == 2) = false := by rw [beq_eq_false_iff_ne, hk]; decide
  have t3 : (n.f0 == 3) = false := by rw [beq_eq_false_iff_ne, hk]; decide
  have t5 : (n.f0 == 5) = true := by rw [hk]; rfl
  have HX := Aside0.mk (fun W (E' : Ew w0 W B b acc) => hS w0 W B b acc _ hrd E' hl)
  clear hv E hl hk hC hrd g1 g2 g3 hS
  go_enter Tryz.func28, Tryz.ntmps28
  go_wp2_with fail
  refine (HX.out _ (HBX.out _)).mono ?_
  rintro e w9 ⟨rfl, hw9⟩
  have HT := Aside0.mk (Wrote.after HE.out.wr.base (below_alloc (Below.refl _ _) _) hw9)
  clear hw9
  go_wp2_with fail
  go_end0
  exact ⟨rfl, HT.out⟩
set_option maxHeartbeats 4000000 in
set_option maxRecDepth 100000 in
theorem write_atomic {n : Nd} (m0 : Int) (hk : n.f0 = 11) (m : Nd) (h0 : 0 < n.f7.length) (hm : n.f7[0]'h0 = m) (hW : WriteC m0 m) (w0 w : World) (hv : WVars w0 m0) (B b : Nat) (acc : List Int) (v : Value) (h : RdN w0 n v) (E : Ew w0 w B b acc) (hl : acc.length + ([40, 63, 62] ++ writeN m ++ [41]).length ≤ 100000000000000) :
    Calls Tryz.prog 28 #[.pointer (some ⟨b, 0, none⟩), v] w (RetU B b acc ([40, 63, 62] ++ writeN m ++ [41]) w) := by
  obtain ⟨A6, c6, A7, c7, e, g1, g2, g3, hC⟩ := h
  subst e
  have hrd : RdN w0 n (ndV n A6 c6 A7 c7) := ⟨A6, c6, A7, c7, rfl, g1, g2, g3, hC⟩
  have HE := Aside0.mk E
  have hbn : b ≠ w.heap.size := Nat.ne_of_lt E.wr.lt
  have HBX := Aside0.mk (fun o => E.below (below_alloc (Below.refl w.heap.size w) o))
  have HL := Aside0.mk hl
  have t6 : (n.f0 == 6) = false := by rw [beq_eq_false_iff_ne, hk]; decide
  have t7 : (n.f0 == 7) = false := by rw [beq_eq_false_iff_ne, hk]; decide
  have t1 : (n.f0 == 1) = false := by rw [beq_eq_false_iff_ne, hk]; decide
  have t2 : (n.f0 == 2) = false := by rw [beq_eq_false_iff_ne, hk]; decide
  have t3 : (n.f0 == 3) = false := by rw [beq_eq_false_iff_ne, hk]; decide
  have t5 : (n.f0 == 5) = false := by rw [beq_eq_false_iff_ne, hk]; decide
  have t8 : (n.f0 == 8) = false := by rw [beq_eq_false_iff_ne, hk]; decide
  have t9 : (n.f0 == 9) = false := by rw [beq_eq_false_iff_ne, hk]; decide
  have t10 : (n.f0 == 10) = false := by rw [beq_eq_false_iff_ne, hk]; decide
  have t11 : (n.f0 == 11) = true := by rw [hk]; rfl
  obtain ⟨R, hR⟩ : ∃ R, ([40, 63, 62]) ++ writeN m ++ [41] = R := ⟨_, rfl⟩
  rw [hR]
  have HX := Aside0.mk (fun W (E' : Ew w0 W B b acc) so hso => wrap_any m0 h0 hm hW ([40, 63, 62]) so hso w0 W hv B b acc _ hrd E' hl)
  rw [hR] at HX
  clear hv E hl hk hC hrd g1 g2 g3 h0 hm hW hR
  go_enter Tryz.func28, Tryz.ntmps28
  go_wp2_with fail
  refine (HX.out _ (HBX.out _) _ rfl).mono ?_
  rintro e w9 ⟨rfl, hw9⟩
  have HT := Aside0.mk (Wrote.after HE.out.wr.base (below_alloc (Below.refl _ _) _) hw9)
  clear hw9
  go_wp2_with fail
  go_end0
  exact ⟨rfl, HT.out⟩
set_option maxHeartbeats 4000000 in
set_option maxRecDepth 100000 in
theorem write_group0 {n : Nd} (m0 : Int) (hk : n.f0 = 9) (m : Nd) (h0 : 0 < n.f7.length) (hm : n.f7[0]'h0 = m) (hW : WriteC m0 m) (ha : n.f2 = 0) (w0 w : World) (hv : WVars w0 m0) (B b : Nat) (acc : List Int) (v : Value) (h : RdN w0 n v) (E : Ew w0 w B b acc) (hl : acc.length + ([40, 63, 58] ++ writeN m ++ [41]).length ≤ 100000000000000) :
    Calls Tryz.prog 28 #[.pointer (some ⟨b, 0, none⟩), v] w (RetU B b acc ([40, 63, 58] ++ writeN m ++ [41]) w) := by
  obtain ⟨A6, c6, A7, c7, e, g1, g2, g3, hC⟩ := h
  subst e
  have hrd : RdN w0 n (ndV n A6 c6 A7 c7) := ⟨A6, c6, A7, c7, rfl, g1, g2, g3, hC⟩
  have HE := Aside0.mk E
  have hbn : b ≠ w.heap.size := Nat.ne_of_lt E.wr.lt
  have HBX := Aside0.mk (fun o => E.below (below_alloc (Below.refl w.heap.size w) o))
  have HL := Aside0.mk hl
  have t6 : (n.f0 == 6) = false := by rw [beq_eq_false_iff_ne, hk]; decide
  have t7 : (n.f0 == 7) = false := by rw [beq_eq_false_iff_ne, hk]; decide
  have t1 : (n.f0 == 1) = false := by rw [beq_eq_false_iff_ne, hk]; decide
  have t2 : (n.f0 == 2) = false := by rw [beq_eq_false_iff_ne, hk]; decide
  have t3 : (n.f0 == 3) = false := by rw [beq_eq_false_iff_ne, hk]; decide
  have t5 : (n.f0 == 5) = false := by rw [beq_eq_false_iff_ne, hk]; decide
  have t8 : (n.f0 == 8) = false := by rw [beq_eq_false_iff_ne, hk]; decide
  have t9 : (n.f0 == 9) = true := by rw [hk]; rfl
  obtain ⟨R, hR⟩ : ∃ R, ([40, 63, 58]) ++ writeN m ++ [41] = R := ⟨_, rfl⟩
  rw [hR]
  have HX := Aside0.mk (fun W (E' : Ew w0 W B b acc) so hso => wrap_any m0 h0 hm hW ([40, 63, 58]) so hso w0 W hv B b acc _ hrd E' hl)
  rw [hR] at HX
  have ta : (n.f2 == 0) = true := by rw [ha]; rfl
  clear hv E hl hk hC hrd g1 g2 g3 h0 hm hW hR ha
  go_enter Tryz.func28, Tryz.ntmps28
  go_wp2_with fail
  refine (HX.out _ (HBX.out _) _ rfl).mono ?_
  rintro e w9 ⟨rfl, hw9⟩
  have HT := Aside0.mk (Wrote.after HE.out.wr.base (below_alloc (Below.refl _ _) _) hw9)
  clear hw9
  go_wp2_with fail
  go_end0
  exact ⟨rfl, HT.out⟩
set_option maxHeartbeats 4000000 in
set_option maxRecDepth 100000 in
theorem write_group1 {n : Nd} (m0 : Int) (hk : n.f0 = 9) (m : Nd) (h0 : 0 < n.f7.length) (hm : n.f7[0]'h0 = m) (hW : WriteC m0 m) (ha : n.f2 ≠ 0) (hn : n.f5 = e0) (w0 w : World) (hv : WVars w0 m0) (B b : Nat) (acc : List Int) (v : Value) (h : RdN w0 n v) (E : Ew w0 w B b acc) (hl : acc.length + ([40] ++ writeN m ++ [41]).length ≤ 100000000000000) :
    Calls Tryz.prog 28 #[.pointer (some ⟨b, 0, none⟩), v] w (RetU B b acc ([40] ++ writeN m ++ [41]) w) := by
  obtain ⟨A6, c6, A7, c7, e, g1, g2, g3, hC⟩ := h
  subst e
  have hrd : RdN w0 n (ndV n A6 c6 A7 c7) := ⟨A6, c6, A7, c7, rfl, g1, g2, g3, hC⟩
  have HE := Aside0.mk E
  have hbn : b ≠ w.heap.size := Nat.ne_of_lt E.wr.lt
  have HBX := Aside0.mk (fun o => E.below (below_alloc (Below.refl w.heap.size w) o))
  have HL := Aside0.mk hl
  have t6 : (n.f0 == 6) = false := by rw [beq_eq_false_iff_ne, hk]; decide
  have t7 : (n.f0 == 7) = false := by rw [beq_eq_false_iff_ne, hk]; decide
  have t1 : (n.f0 == 1) = false := by rw [beq_eq_false_iff_ne, hk]; decide
  have t2 : (n.f0 == 2) = false := by rw [beq_eq_false_iff_ne, hk]; decide
  have t3 : (n.f0 == 3) = false := by rw [beq_eq_false_iff_ne, hk]; decide
  have t5 : (n.f0 == 5) = false := by rw [beq_eq_false_iff_ne, hk]; decide
  have t8 : (n.f0 == 8) = false := by rw [beq_eq_false_iff_ne, hk]; decide
  have t9 : (n.f0 == 9) = true := by rw [hk]; rfl
  obtain ⟨R, hR⟩ : ∃ R, ([40]) ++ writeN m ++ [41] = R := ⟨_, rfl⟩
  rw [hR]
  have HX := Aside0.mk (fun W (E' : Ew w0 W B b acc) so hso => wrap_any m0 h0 hm hW ([40]) so hso w0 W hv B b acc _ hrd E' hl)
  rw [hR] at HX
  have ta : (n.f2 == 0) = false := by rw [beq_eq_false_iff_ne]; exact ha
  have tn : n.f5.toList.isEmpty = true := by rw [size_empty, hn]; rfl
  clear hv E hl hk hC hrd g1 g2 g3 h0 hm hW hR ha hn
  go_enter Tryz.func28, Tryz.ntmps28
  go_wp2_with fail
  refine (HX.out _ (HBX.out _) _ rfl).mono ?_
  rintro e w9 ⟨rfl, hw9⟩
  have HT := Aside0.mk (Wrote.after HE.out.wr.base (below_alloc (Below.refl _ _) _) hw9)
  clear hw9
  go_wp2_with fail
  go_end0
  exact ⟨rfl, HT.out⟩
set_option maxHeartbeats 4000000 in
set_option maxRecDepth 100000 in
theorem write_group2 {n : Nd} (m0 : Int) (hk : n.f0 = 9) (m : Nd) (h0 : 0 < n.f7.length) (hm : n.f7[0]'h0 = m) (hW : WriteC m0 m) (ha : n.f2 ≠ 0) (hn : n.f5 ≠ e0) (w0 w : World) (hv : WVars w0 m0) (B b : Nat) (acc : List Int) (v : Value) (h : RdN w0 n v) (E : Ew w0 w B b acc) (hl : acc.length + (([40, 63, 60] ++ bytesOf n.f5 ++ [62]) ++ writeN m ++ [41]).length ≤ 100000000000000) :
    Calls Tryz.prog 28 #[.pointer (some ⟨b, 0, none⟩), v] w (RetU B b acc (([40, 63, 60] ++ bytesOf n.f5 ++ [62]) ++ writeN m ++ [41]) w) := by
  obtain ⟨A6, c6, A7, c7, e, g1, g2, g3, hC⟩ := h
  subst e
  have hrd : RdN w0 n (ndV n A6 c6 A7 c7) := ⟨A6, c6, A7, c7, rfl, g1, g2, g3, hC⟩
  have HE := Aside0.mk E
  have hbn : b ≠ w.heap.size := Nat.ne_of_lt E.wr.lt
  have HBX := Aside0.mk (fun o => E.below (below_alloc (Below.refl w.heap.size w) o))
  have HL := Aside0.mk hl
  have t6 : (n.f0 == 6) = false := by rw [beq_eq_false_iff_ne, hk]; decide
  have t7 : (n.f0 == 7) = false := by rw [beq_eq_false_iff_ne, hk]; decide
  have t1 : (n.f0 == 1) = false := by rw [beq_eq_false_iff_ne, hk]; decide
  have t2 : (n.f0 == 2) = false := by rw [beq_eq_false_iff_ne, hk]; decide
  have t3 : (n.f0 == 3) = false := by rw [beq_eq_false_iff_ne, hk]; decide
  have t5 : (n.f0 == 5) = false := by rw [beq_eq_false_iff_ne, hk]; decide
  have t8 : (n.f0 == 8) = false := by rw [beq_eq_false_iff_ne, hk]; decide
  have t9 : (n.f0 == 9) = true := by rw [hk]; rfl
  have hsz : n.f5.size ≤ 100000000000000 := by have h := hl; rw [← bytes_len]; simp at h ⊢; omega
  obtain ⟨R, hR⟩ : ∃ R, ([40, 63, 60] ++ bytesOf n.f5 ++ [62]) ++ writeN m ++ [41] = R := ⟨_, rfl⟩
  rw [hR]
  have HX := Aside0.mk (fun W (E' : Ew w0 W B b acc) so hso => wrap_any m0 h0 hm hW ([40, 63, 60] ++ bytesOf n.f5 ++ [62]) so hso w0 W hv B b acc _ hrd E' hl)
  rw [hR] at HX
  have ta : (n.f2 == 0) = false := by rw [beq_eq_false_iff_ne]; exact ha
  have tn : n.f5.toList.isEmpty = false := by rw [size_empty]; exact decide_eq_false hn
  have HS : Aside0 ((⟨#[40, 63, 60]⟩ ++ n.f5) ++ ⟨#[62]⟩ = strOfNums ([40, 63, 60] ++ bytesOf n.f5 ++ [62])) := ⟨by rw [str_app, str_app, str_bytes]; rfl⟩
  clear hv E hl hk hC hrd g1 g2 g3 h0 hm hW hR ha hn
  go_enter Tryz.func28, Tryz.ntmps28
  go_wp2_with fail
  refine (HX.out _ (HBX.out _) _ HS.out).mono ?_
  rintro e w9 ⟨rfl, hw9⟩
  have HT := Aside0.mk (Wrote.after HE.out.wr.base (below_alloc (Below.refl _ _) _) hw9)
  clear hw9
  go_wp2_with fail
  go_end0
  exact ⟨rfl, HT.out⟩
set_option maxHeartbeats 4000000 in
set_option maxRecDepth 100000 in
theorem of_look (i : Nat) (h0 : 0 ≤ i) (h1 : i < 4) (W' : World) (g : Nat) (hg : W'.heap[g]? = some (.cells #[.string ⟨#[40, 63, 61]⟩, .string ⟨#[40, 63, 33]⟩, .string ⟨#[40, 63, 60, 61]⟩, .string ⟨#[40, 63, 60, 33]⟩] 9 (0, 0))) : Calls Tryz.prog 46 #[.int .i64 (i : Int), .slice (some ⟨g, 0, none⟩) 4 4] W' fun e w2 => e = .returned (.string (strOfNums (ofT (i : Int) [[40, 63, 61], [40, 63, 33], [40, 63, 60, 61], [40, 63, 60, 33]]))) ∧ w2 = W' := by
  have h := of_texts [⟨#[40, 63, 61]⟩, ⟨#[40, 63, 33]⟩, ⟨#[40, 63, 60, 61]⟩, ⟨#[40, 63, 60, 33]⟩] i h1 W' W' g (0, 0) hg
  have e : ([⟨#[40, 63, 61]⟩, ⟨#[40, 63, 33]⟩, ⟨#[40, 63, 60, 61]⟩, ⟨#[40, 63, 60, 33]⟩] : List ByteArray)[i]'h1 = strOfNums (ofT (i : Int) [[40, 63, 61], [40, 63, 33], [40, 63, 60, 61], [40, 63, 60, 33]]) := by
    have k : ∀ i : Fin 4, ([⟨#[40, 63, 61]⟩, ⟨#[40, 63, 33]⟩, ⟨#[40, 63, 60, 61]⟩, ⟨#[40, 63, 60, 33]⟩] : List ByteArray)[i.val]'i.isLt = strOfNums (ofT (i.val : Int) [[40, 63, 61], [40, 63, 33], [40, 63, 60, 61], [40, 63, 60, 33]]) := by decide +kernel
    exact k ⟨i, h1⟩
  rw [← e]
  exact h
set_option maxHeartbeats 4000000 in
set_option maxRecDepth 100000 in
theorem of_assert (i : Nat) (h0 : 1 ≤ i) (h1 : i < 11) (W' : World) (g : Nat) (hg : W'.heap[g]? = some (.cells #[.string ⟨#[]⟩, .string ⟨#[94]⟩, .string ⟨#[36]⟩, .string ⟨#[92, 65]⟩, .string ⟨#[92, 122]⟩, .string ⟨#[92, 98]⟩, .string ⟨#[92, 66]⟩, .string ⟨#[92, 98, 123, 103, 125]⟩, .string ⟨#[92, 66, 123, 103, 125]⟩, .string ⟨#[92, 98, 123, 119, 125]⟩, .string ⟨#[92, 66, 123, 119, 125]⟩] 9 (0, 0))) : Calls Tryz.prog 46 #[.int .i64 (i : Int), .slice (some ⟨g, 0, none⟩) 11 11] W' fun e w2 => e = .returned (.string (strOfNums (ofT (i : Int) [[], [94], [36], [92, 65], [92, 122], [92, 98], [92, 66], [92, 98, 123, 103, 125], [92, 66, 123, 103, 125], [92, 98, 123, 119, 125], [92, 66, 123, 119, 125]]))) ∧ w2 = W' := by
  have h := of_texts [⟨#[]⟩, ⟨#[94]⟩, ⟨#[36]⟩, ⟨#[92, 65]⟩, ⟨#[92, 122]⟩, ⟨#[92, 98]⟩, ⟨#[92, 66]⟩, ⟨#[92, 98, 123, 103, 125]⟩, ⟨#[92, 66, 123, 103, 125]⟩, ⟨#[92, 98, 123, 119, 125]⟩, ⟨#[92, 66, 123, 119, 125]⟩] i h1 W' W' g (0, 0) hg
  have e : ([⟨#[]⟩, ⟨#[94]⟩, ⟨#[36]⟩, ⟨#[92, 65]⟩, ⟨#[92, 122]⟩, ⟨#[92, 98]⟩, ⟨#[92, 66]⟩, ⟨#[92, 98, 123, 103, 125]⟩, ⟨#[92, 66, 123, 103, 125]⟩, ⟨#[92, 98, 123, 119, 125]⟩, ⟨#[92, 66, 123, 119, 125]⟩] : List ByteArray)[i]'h1 = strOfNums (ofT (i : Int) [[], [94], [36], [92, 65], [92, 122], [92, 98], [92, 66], [92, 98, 123, 103, 125], [92, 66, 123, 103, 125], [92, 98, 123, 119, 125], [92, 66, 123, 119, 125]]) := by
    have k : ∀ i : Fin 11, ([⟨#[]⟩, ⟨#[94]⟩, ⟨#[36]⟩, ⟨#[92, 65]⟩, ⟨#[92, 122]⟩, ⟨#[92, 98]⟩, ⟨#[92, 66]⟩, ⟨#[92, 98, 123, 103, 125]⟩, ⟨#[92, 66, 123, 103, 125]⟩, ⟨#[92, 98, 123, 119, 125]⟩, ⟨#[92, 66, 123, 119, 125]⟩] : List ByteArray)[i.val]'i.isLt = strOfNums (ofT (i.val : Int) [[], [94], [36], [92, 65], [92, 122], [92, 98], [92, 66], [92, 98, 123, 103, 125], [92, 66, 123, 103, 125], [92, 98, 123, 119, 125], [92, 66, 123, 119, 125]]) := by decide +kernel
    exact k ⟨i, h1⟩
  rw [← e]
  exact h
set_option maxHeartbeats 4000000 in
set_option maxRecDepth 100000 in
theorem of_mode (i : Nat) (h0 : 0 ≤ i) (h1 : i < 3) (W' : World) (g : Nat) (hg : W'.heap[g]? = some (.cells #[.string ⟨#[]⟩, .string ⟨#[63]⟩, .string ⟨#[43]⟩] 9 (0, 0))) : Calls Tryz.prog 46 #[.int .i64 (i : Int), .slice (some ⟨g, 0, none⟩) 3 3] W' fun e w2 => e = .returned (.string (strOfNums (ofT (i : Int) [[], [63], [43]]))) ∧ w2 = W' := by
  have h := of_texts [⟨#[]⟩, ⟨#[63]⟩, ⟨#[43]⟩] i h1 W' W' g (0, 0) hg
  have e : ([⟨#[]⟩, ⟨#[63]⟩, ⟨#[43]⟩] : List ByteArray)[i]'h1 = strOfNums (ofT (i : Int) [[], [63], [43]]) := by
    have k : ∀ i : Fin 3, ([⟨#[]⟩, ⟨#[63]⟩, ⟨#[43]⟩] : List ByteArray)[i.val]'i.isLt = strOfNums (ofT (i.val : Int) [[], [63], [43]]) := by decide +kernel
    exact k ⟨i, h1⟩
  rw [← e]
  exact h
set_option maxHeartbeats 4000000 in
set_option maxRecDepth 100000 in
theorem write_look {n : Nd} (m0 : Int) (hk : n.f0 = 10) (m : Nd) (h0 : 0 < n.f7.length) (hm : n.f7[0]'h0 = m) (hW : WriteC m0 m) (ha : 0 ≤ n.f1) (hb : n.f1 ≤ 3) (w0 w : World) (hv : WVars w0 m0) (B b : Nat) (acc : List Int) (v : Value) (h : RdN w0 n v) (E : Ew w0 w B b acc) (hl : acc.length + ((ofT n.f1 [[40, 63, 61], [40, 63, 33], [40, 63, 60, 61], [40, 63, 60, 33]]) ++ writeN m ++ [41]).length ≤ 100000000000000) :
    Calls Tryz.prog 28 #[.pointer (some ⟨b, 0, none⟩), v] w (RetU B b acc ((ofT n.f1 [[40, 63, 61], [40, 63, 33], [40, 63, 60, 61], [40, 63, 60, 33]]) ++ writeN m ++ [41]) w) := by
  obtain ⟨A6, c6, A7, c7, e, g1, g2, g3, hC⟩ := h
  subst e
  have hrd : RdN w0 n (ndV n A6 c6 A7 c7) := ⟨A6, c6, A7, c7, rfl, g1, g2, g3, hC⟩
  have HE := Aside0.mk E
  have hbn : b ≠ w.heap.size := Nat.ne_of_lt E.wr.lt
  have HBX := Aside0.mk (fun o => E.below (below_alloc (Below.refl w.heap.size w) o))
  have HL := Aside0.mk hl
  have t6 : (n.f0 == 6) = false := by rw [beq_eq_false_iff_ne, hk]; decide
  have t7 : (n.f0 == 7) = false := by rw [beq_eq_false_iff_ne, hk]; decide
  have t1 : (n.f0 == 1) = false := by rw [beq_eq_false_iff_ne, hk]; decide
  have t2 : (n.f0 == 2) = false := by rw [beq_eq_false_iff_ne, hk]; decide
  have t3 : (n.f0 == 3) = false := by rw [beq_eq_false_iff_ne, hk]; decide
  have t5 : (n.f0 == 5) = false := by rw [beq_eq_false_iff_ne, hk]; decide
  have t8 : (n.f0 == 8) = false := by rw [beq_eq_false_iff_ne, hk]; decide
  have t9 : (n.f0 == 9) = false := by rw [beq_eq_false_iff_ne, hk]; decide
  have t10 : (n.f0 == 10) = true := by rw [hk]; rfl
  have hof : ∀ (W' : World) (g : Nat), W'.heap[g]? = some (.cells #[.string ⟨#[40, 63, 61]⟩, .string ⟨#[40, 63, 33]⟩, .string ⟨#[40, 63, 60, 61]⟩, .string ⟨#[40, 63, 60, 33]⟩] 9 (0, 0)) → Calls Tryz.prog 46 #[.int .i64 n.f1, .slice (some ⟨g, 0, none⟩) 4 4] W' fun e w2 => e = .returned (.string (strOfNums (ofT n.f1 [[40, 63, 61], [40, 63, 33], [40, 63, 60, 61], [40, 63, 60, 33]]))) ∧ w2 = W' := fun W' g hg => by
    obtain ⟨i, hi⟩ : ∃ i : Nat, n.f1 = (i : Int) := ⟨n.f1.toNat, by omega⟩
    rw [hi]
    exact of_look i (by omega) (by omega) W' g hg
  obtain ⟨OT, hOT⟩ : ∃ OT, ofT n.f1 [[40, 63, 61], [40, 63, 33], [40, 63, 60, 61], [40, 63, 60, 33]] = OT := ⟨_, rfl⟩
  rw [hOT] at hof hl HL ⊢
  have HOF := Aside0.mk hof
  obtain ⟨R, hR⟩ : ∃ R, (OT) ++ writeN m ++ [41] = R := ⟨_, rfl⟩
  rw [hR]
  have HX := Aside0.mk (fun W (E' : Ew w0 W B b acc) so hso => wrap_any m0 h0 hm hW (OT) so hso w0 W hv B b acc _ hrd E' hl)
  rw [hR] at HX
  clear hv E hl hk hC hrd g1 g2 g3 h0 hm hW hR ha hb hof hOT HBX
  go_enter Tryz.func28, Tryz.ntmps28
  go_wp2_with fail
  have hx4 := heap_alloc_new w (.cells #[.int .i64 n.f0, .int .i64 n.f1, .int .i64 n.f2, .int .i64 n.f3, .bool n.f4, .string n.f5, .slice A6 n.f6.length c6, .slice A7 n.f7.length c7] 25)
  have hb4 : Below w.heap.size w (w.alloc (.cells #[.int .i64 n.f0, .int .i64 n.f1, .int .i64 n.f2, .int .i64 n.f3, .bool n.f4, .string n.f5, .slice A6 n.f6.length c6, .slice A7 n.f7.length c7] 25)) := below_alloc (Below.refl _ _) _
  have hs4 : (w.alloc (.cells #[.int .i64 n.f0, .int .i64 n.f1, .int .i64 n.f2, .int .i64 n.f3, .bool n.f4, .string n.f5, .slice A6 n.f6.length c6, .slice A7 n.f7.length c7] 25)).heap.size = w.heap.size + 1 := by simp
  obtain ⟨W4, hW4⟩ : ∃ W4, w.alloc (.cells #[.int .i64 n.f0, .int .i64 n.f1, .int .i64 n.f2, .int .i64 n.f3, .bool n.f4, .string n.f5, .slice A6 n.f6.length c6, .slice A7 n.f7.length c7] 25) = W4 := ⟨_, rfl⟩
  rw [hW4] at hx4 hb4 hs4 ⊢
  clear hW4
  have HX4 := Aside0.mk hx4
  have HB4 := Aside0.mk hb4
  have HS4 := Aside0.mk hs4
  refine start_ (n := 7) (S := fun w' => w'.heap[w.heap.size]? = some (.cells #[.int .i64 n.f0, .int .i64 n.f1, .int .i64 n.f2, .int .i64 n.f3, .bool n.f4, .string n.f5, .slice A6 n.f6.length c6, .slice A7 n.f7.length c7] 25 (0, 0))) (ds := [6]) #[false, false, false, false, false, false, false] (by kernel_rfl) rfl rfl (by show W4.heap[w.heap.size]? = _; exact hx4) (fun hHeld => ?_)
  clear hx4 hb4 hs4
  refine pure_ (i := 0) (N := some 107) (v := ?_) (a' := ?_) #[true, false, false, false, false, false, false] rfl rfl (by kernel_rfl) (fun _ _ _ h => h) (Or.inl ⟨by rfl, ?_⟩) ?_ ?_
  rotate_left
  · intro w'
    go_simp
    with_reducible rfl
  rotate_left
  · simp only [Act.put, List.setIfInBounds_toArray, List.set_cons_zero, List.set_cons_succ, i64_w, i32_w]
    rfl
  refine pure_ (i := 1) (N := some 108) (v := ?_) (a' := ?_) #[true, true, false, false, false, false, false] rfl rfl (by kernel_rfl) (fun _ _ _ h => h) (Or.inl ⟨by rfl, ?_⟩) ?_ ?_
  rotate_left
  · intro w'
    go_simp
    with_reducible rfl
  rotate_left
  · simp only [Act.put, List.setIfInBounds_toArray, List.set_cons_zero, List.set_cons_succ, i64_w, i32_w]
    rfl
  refine take_ (i := 2) (N := some 109) (v := ?_) (a' := ?_) #[true, true, true, false, false, false, false] rfl rfl (by kernel_rfl) (fun _ _ _ h => h) (Or.inl ⟨by rfl, ?_⟩) hHeld ?_ ?_
  rotate_left
  · rintro w' hx
    have q0 := rowc hx 0 _ rfl
    have q1 := rowc hx 1 _ rfl
    have q2 := rowc hx 2 _ rfl
    have q3 := rowc hx 3 _ rfl
    have q4 := rowc hx 4 _ rfl
    have q5 := rowc hx 5 _ rfl
    have q6 := rowc hx 6 _ rfl
    have q7 := rowc hx 7 _ rfl
    go_simp
    with_reducible rfl
  rotate_left
  · simp only [Act.put, List.setIfInBounds_toArray, List.set_cons_zero, List.set_cons_succ, i64_w, i32_w]
    rfl
  refine take_ (i := 5) (N := some 112) (v := ?_) (a' := ?_) #[true, true, true, false, false, true, false] rfl rfl (by kernel_rfl) (fun _ _ _ h => h) (Or.inl ⟨by rfl, ?_⟩) hHeld ?_ ?_
  rotate_left
  · rintro w' hx
    have q0 := rowc hx 0 _ rfl
    have q1 := rowc hx 1 _ rfl
    have q2 := rowc hx 2 _ rfl
    have q3 := rowc hx 3 _ rfl
    have q4 := rowc hx 4 _ rfl
    have q5 := rowc hx 5 _ rfl
    have q6 := rowc hx 6 _ rfl
    have q7 := rowc hx 7 _ rfl
    go_simp
    with_reducible rfl
  rotate_left
  · simp only [Act.put, List.setIfInBounds_toArray, List.set_cons_zero, List.set_cons_succ, i64_w, i32_w]
    rfl
  refine one_ (i := 3) (N := some 110) #[true, true, true, true, false, true, false] rfl rfl (by kernel_rfl) (by decide) (fun K hK => ?_)
  refine value_ (v := .slice (some ⟨W4.drew.heap.size, 0, none⟩) 4 4) (w1 := W4.drew.alloc (.cells #[.string ⟨#[40, 63, 61]⟩, .string ⟨#[40, 63, 33]⟩, .string ⟨#[40, 63, 60, 61]⟩, .string ⟨#[40, 63, 60, 33]⟩] 9)) (by rfl) rfl ?_ ?_
  · go_simp
  have hbB : Below W4.heap.size W4 (W4.drew.alloc (.cells #[.string ⟨#[40, 63, 61]⟩, .string ⟨#[40, 63, 33]⟩, .string ⟨#[40, 63, 60, 61]⟩, .string ⟨#[40, 63, 60, 33]⟩] 9)) := below_alloc (below_drew (Below.refl _ _)) _
  have hnB := heap_alloc_new W4.drew (.cells #[.string ⟨#[40, 63, 61]⟩, .string ⟨#[40, 63, 33]⟩, .string ⟨#[40, 63, 60, 61]⟩, .string ⟨#[40, 63, 60, 33]⟩] 9)
  obtain ⟨W5, hW5⟩ : ∃ W5, W4.drew.alloc (.cells #[.string ⟨#[40, 63, 61]⟩, .string ⟨#[40, 63, 33]⟩, .string ⟨#[40, 63, 60, 61]⟩, .string ⟨#[40, 63, 60, 33]⟩] 9) = W5 := ⟨_, rfl⟩
  rw [hW5] at hbB hnB ⊢
  clear hW5
  have HB5 := Aside0.mk (below_to HB4.out hbB)
  have HN5 := Aside0.mk hnB
  have HX5 := Aside0.mk ((hbB.block w.heap.size (by have := HS4.out; omega)).trans HX4.out)
  clear hbB hnB
  refine hK.out _ _ HX5.out (fun hHeld => ?_)
  clear hK K
  refine norm_ (a' := ?_) ?_ ?_
  rotate_left
  · show Act.put _ (some 110) _ = _
    simp only [Act.put, List.setIfInBounds_toArray, List.set_cons_zero, List.set_cons_succ, i64_w, i32_w]
    rfl
  refine one_ (i := 4) (N := some 111) #[true, true, true, true, true, true, false] rfl rfl (by kernel_rfl) (by decide) (fun K hK => ?_)
  refine goes_ Tryz.func46 (by kernel_rfl) rfl #[.int .i64 n.f1, .slice (some ⟨W4.drew.heap.size, 0, none⟩) 4 4] (by rfl) rfl rfl (by simp only [List.map_toArray, List.map_cons, List.map_nil]; rfl) ?_
  refine (HOF.out _ _ HN5.out).mono ?_
  rintro e w2 ⟨rfl, rfl⟩
  refine ⟨_, rfl, ?_⟩
  refine hK.out _ _ HX5.out (fun hHeld => ?_)
  clear hK K
  refine norm_ (a' := ?_) ?_ ?_
  rotate_left
  · show Act.put _ (some 111) _ = _
    simp only [Act.put, List.setIfInBounds_toArray, List.set_cons_zero, List.set_cons_succ, i64_w, i32_w]
    rfl
  refine last_ (i := 6) (N := some 113) #[true, true, true, true, true, true, true] rfl rfl (by kernel_rfl) (by decide) (fun K hK => ?_)
  refine goes_ Tryz.func47 (by kernel_rfl) rfl #[.pointer (some ⟨b, 0, none⟩), .string (strOfNums OT), (.agg #[.int .i64 n.f0, .int .i64 n.f1, .int .i64 n.f2, .int .i64 n.f3, .bool n.f4, .string n.f5, .slice A6 n.f6.length c6, .slice A7 n.f7.length c7])] (by rfl) rfl rfl (by simp only [List.map_toArray, List.map_cons, List.map_nil]; rfl) ?_
  refine (HX.out _ (HE.out.below HB5.out) _ rfl).mono ?_
  rintro e w9 ⟨rfl, hw9⟩
  refine ⟨_, rfl, ?_⟩
  refine hK.out _ _ ?_
  clear hK K
  refine norm_ (a' := ?_) ?_ ?_
  rotate_left
  · show Act.put _ (some 113) _ = _
    simp only [Act.put, List.setIfInBounds_toArray, List.set_cons_zero, List.set_cons_succ, i64_w, i32_w]
    rfl
  refine done_ (by kernel_rfl) ?_
  have HT := Aside0.mk (Wrote.after HE.out.wr.base HB5.out hw9)
  clear hw9 hHeld
  go_wp2_with fail
  go_end0
  exact ⟨rfl, HT.out⟩
set_option maxHeartbeats 4000000 in
set_option maxRecDepth 100000 in
theorem write_assert {n : Nd} (m0 : Int) (hk : n.f0 = 12) (ha : 1 ≤ n.f1) (hb : n.f1 ≤ 10) (w0 w : World) (hv : WVars w0 m0) (B b : Nat) (acc : List Int) (v : Value) (h : RdN w0 n v) (E : Ew w0 w B b acc) (hl : acc.length + (ofT n.f1 [[], [94], [36], [92, 65], [92, 122], [92, 98], [92, 66], [92, 98, 123, 103, 125], [92, 66, 123, 103, 125], [92, 98, 123, 119, 125], [92, 66, 123, 119, 125]]).length ≤ 100000000000000) :
    Calls Tryz.prog 28 #[.pointer (some ⟨b, 0, none⟩), v] w (RetU B b acc (ofT n.f1 [[], [94], [36], [92, 65], [92, 122], [92, 98], [92, 66], [92, 98, 123, 103, 125], [92, 66, 123, 103, 125], [92, 98, 123, 119, 125], [92, 66, 123, 119, 125]]) w) := by
  obtain ⟨A6, c6, A7, c7, e, g1, g2, g3, hC⟩ := h
  subst e
  have hrd : RdN w0 n (ndV n A6 c6 A7 c7) := ⟨A6, c6, A7, c7, rfl, g1, g2, g3, hC⟩
  have HE := Aside0.mk E
  have hbn : b ≠ w.heap.size := Nat.ne_of_lt E.wr.lt
  have HBX := Aside0.mk (fun o => E.below (below_alloc (Below.refl w.heap.size w) o))
  have HL := Aside0.mk hl
  have t6 : (n.f0 == 6) = false := by rw [beq_eq_false_iff_ne, hk]; decide
  have t7 : (n.f0 == 7) = false := by rw [beq_eq_false_iff_ne, hk]; decide
  have t1 : (n.f0 == 1) = false := by rw [beq_eq_false_iff_ne, hk]; decide
  have t2 : (n.f0 == 2) = false := by rw [beq_eq_false_iff_ne, hk]; decide
  have t3 : (n.f0 == 3) = false := by rw [beq_eq_false_iff_ne, hk]; decide
  have t5 : (n.f0 == 5) = false := by rw [beq_eq_false_iff_ne, hk]; decide
  have t8 : (n.f0 == 8) = false := by rw [beq_eq_false_iff_ne, hk]; decide
  have t9 : (n.f0 == 9) = false := by rw [beq_eq_false_iff_ne, hk]; decide
  have t10 : (n.f0 == 10) = false := by rw [beq_eq_false_iff_ne, hk]; decide
  have t11 : (n.f0 == 11) = false := by rw [beq_eq_false_iff_ne, hk]; decide
  have t12 : (n.f0 == 12) = true := by rw [hk]; rfl
  have hof : ∀ (W' : World) (g : Nat), W'.heap[g]? = some (.cells #[.string ⟨#[]⟩, .string ⟨#[94]⟩, .string ⟨#[36]⟩, .string ⟨#[92, 65]⟩, .string ⟨#[92, 122]⟩, .string ⟨#[92, 98]⟩, .string ⟨#[92, 66]⟩, .string ⟨#[92, 98, 123, 103, 125]⟩, .string ⟨#[92, 66, 123, 103, 125]⟩, .string ⟨#[92, 98, 123, 119, 125]⟩, .string ⟨#[92, 66, 123, 119, 125]⟩] 9 (0, 0)) → Calls Tryz.prog 46 #[.int .i64 n.f1, .slice (some ⟨g, 0, none⟩) 11 11] W' fun e w2 => e = .returned (.string (strOfNums (ofT n.f1 [[], [94], [36], [92, 65], [92, 122], [92, 98], [92, 66], [92, 98, 123, 103, 125], [92, 66, 123, 103, 125], [92, 98, 123, 119, 125], [92, 66, 123, 119, 125]]))) ∧ w2 = W' := fun W' g hg => by
    obtain ⟨i, hi⟩ : ∃ i : Nat, n.f1 = (i : Int) := ⟨n.f1.toNat, by omega⟩
    rw [hi]
    exact of_assert i (by omega) (by omega) W' g hg
  obtain ⟨OT, hOT⟩ : ∃ OT, ofT n.f1 [[], [94], [36], [92, 65], [92, 122], [92, 98], [92, 66], [92, 98, 123, 103, 125], [92, 66, 123, 103, 125], [92, 98, 123, 119, 125], [92, 66, 123, 119, 125]] = OT := ⟨_, rfl⟩
  rw [hOT] at hof hl HL ⊢
  have HOF := Aside0.mk hof
  clear hv E hl hk hC hrd g1 g2 g3 ha hb hof hOT
  go_enter Tryz.func28, Tryz.ntmps28
  go_wp2_with fail
  have hn := heap_alloc_new (w.alloc (.cells #[.int .i64 n.f0, .int .i64 n.f1, .int .i64 n.f2, .int .i64 n.f3, .bool n.f4, .string n.f5, .slice A6 n.f6.length c6, .slice A7 n.f7.length c7] 25)) (.cells #[.string ⟨#[]⟩, .string ⟨#[94]⟩, .string ⟨#[36]⟩, .string ⟨#[92, 65]⟩, .string ⟨#[92, 122]⟩, .string ⟨#[92, 98]⟩, .string ⟨#[92, 66]⟩, .string ⟨#[92, 98, 123, 103, 125]⟩, .string ⟨#[92, 66, 123, 103, 125]⟩, .string ⟨#[92, 98, 123, 119, 125]⟩, .string ⟨#[92, 66, 123, 119, 125]⟩] 9)
  rw [show (w.alloc (.cells #[.int .i64 n.f0, .int .i64 n.f1, .int .i64 n.f2, .int .i64 n.f3, .bool n.f4, .string n.f5, .slice A6 n.f6.length c6, .slice A7 n.f7.length c7] 25)).heap.size = w.heap.size + 1 by simp] at hn
  refine (HOF.out _ _ hn).mono ?_
  clear hn
  rintro e w2 ⟨rfl, rfl⟩
  go_wp2_with fail
  refine (bwS B b (acc) (OT) _ _ ((HBX.out _).below (below_alloc (Below.refl _ _) _)).wr rfl (Nat.le_trans HL.out (by omega))).mono ?_
  rintro e w9 ⟨⟨u9, rfl⟩, hw9⟩
  have HT := Aside0.mk (Wrote.after HE.out.wr.base (below_to (below_alloc (Below.refl w.heap.size w) _) (below_alloc (Below.refl _ _) _)) hw9)
  clear hw9
  go_wp2_with fail
  go_end0
  exact ⟨rfl, HT.out⟩
set_option maxHeartbeats 4000000 in
set_option maxRecDepth 100000 in
theorem write_back {n : Nd} (m0 : Int) (hk : n.f0 = 13) (ha : 0 ≤ n.f2) (hb : n.f2 ≤ 100) (w0 w : World) (hv : WVars w0 m0) (B b : Nat) (acc : List Int) (v : Value) (h : RdN w0 n v) (E : Ew w0 w B b acc) (hl : acc.length + ([92, 107, 123] ++ decL n.f2 ++ [125]).length ≤ 100000000000000) :
    Calls Tryz.prog 28 #[.pointer (some ⟨b, 0, none⟩), v] w (RetU B b acc ([92, 107, 123] ++ decL n.f2 ++ [125]) w) := by
  obtain ⟨A6, c6, A7, c7, e, g1, g2, g3, hC⟩ := h
  subst e
  have hrd : RdN w0 n (ndV n A6 c6 A7 c7) := ⟨A6, c6, A7, c7, rfl, g1, g2, g3, hC⟩
  have HE := Aside0.mk E
  have hbn : b ≠ w.heap.size := Nat.ne_of_lt E.wr.lt
  have HBX := Aside0.mk (fun o => E.below (below_alloc (Below.refl w.heap.size w) o))
  have HL := Aside0.mk hl
  have t6 : (n.f0 == 6) = false := by rw [beq_eq_false_iff_ne, hk]; decide
  have t7 : (n.f0 == 7) = false := by rw [beq_eq_false_iff_ne, hk]; decide
  have t1 : (n.f0 == 1) = false := by rw [beq_eq_false_iff_ne, hk]; decide
  have t2 : (n.f0 == 2) = false := by rw [beq_eq_false_iff_ne, hk]; decide
  have t3 : (n.f0 == 3) = false := by rw [beq_eq_false_iff_ne, hk]; decide
  have t5 : (n.f0 == 5) = false := by rw [beq_eq_false_iff_ne, hk]; decide
  have t8 : (n.f0 == 8) = false := by rw [beq_eq_false_iff_ne, hk]; decide
  have t9 : (n.f0 == 9) = false := by rw [beq_eq_false_iff_ne, hk]; decide
  have t10 : (n.f0 == 10) = false := by rw [beq_eq_false_iff_ne, hk]; decide
  have t11 : (n.f0 == 11) = false := by rw [beq_eq_false_iff_ne, hk]; decide
  have t12 : (n.f0 == 12) = false := by rw [beq_eq_false_iff_ne, hk]; decide
  have t13 : (n.f0 == 13) = true := by rw [hk]; rfl
  have HI : Aside0 (∀ W, Below w0.heap.size w0 W → Calls Tryz.prog 48 #[.int .i64 n.f2] W fun e w' => e = .returned (.string (strOfNums (decL n.f2))) ∧ Below W.heap.size W w') := ⟨fun W hW => by
    have h := itoa_any n.f2 (by omega) (by omega) W (hv.tab W hW)
    rw [dec_itoa n.f2 ha hb] at h
    exact h⟩
  have hs : (strOfNums (decL n.f2)).size ≤ 1000 := by rw [Lib.size_eq, str_data, List.length_map]; unfold decL; split; simp; split <;> simp
  have HS : Aside0 ((⟨#[92, 107, 123]⟩ ++ strOfNums (decL n.f2)) ++ ⟨#[125]⟩ = strOfNums ([92, 107, 123] ++ decL n.f2 ++ [125])) := ⟨by rw [str_app, str_app]; rfl⟩
  obtain ⟨SA, hSA⟩ : ∃ SA, strOfNums (decL n.f2) = SA := ⟨_, rfl⟩
  rw [hSA] at HI hs HS
  clear hv E hl hk hC hrd g1 g2 g3 ha hb hSA
  go_enter Tryz.func28, Tryz.ntmps28
  go_wp2_with fail
  refine (HI.out _ (HBX.out _).bel).mono ?_
  rintro e v1 ⟨rfl, hb1⟩
  have HB1 := Aside0.mk (below_to (below_alloc (Below.refl w.heap.size w) _) hb1)
  clear hb1
  go_wp2_with fail
  refine (bwS B b (acc) ([92, 107, 123] ++ decL n.f2 ++ [125]) _ _ ((HE.out.below HB1.out).wr) HS.out (Nat.le_trans HL.out (by omega))).mono ?_
  rintro e w9 ⟨⟨u9, rfl⟩, hw9⟩
  have HT := Aside0.mk (Wrote.after HE.out.wr.base HB1.out hw9)
  clear hw9
  go_wp2_with fail
  go_end0
  exact ⟨rfl, HT.out⟩

end Go.Proofs.YtkipjalfgdfaiaaGreatDoor
namespace Go.Proofs.YtkipjalfgdfaiaaGreatDoor
set_option linter.unusedVariables false
set_option linter.unusedSimpArgs false
open Go.RowKit Go.Proofs.YtkipjalfgdfaiaaGreatDoorW.PrintWords Go.Proofs.YtkipjalfgdfaiaaGreatDoorW.PrintLast Go.Proofs.YtkipjalfgdfaiaaGreatDoorW.PrintMore Go.Proofs.YtkipjalfgdfaiaaGreatDoor.PTk

attribute [local go_sem ↓] Go.wp_at_zero Go.wp_at_succ
theorem wK_nil : writeK [] = [] := by rw [writeK]
theorem wK_cons (n : Nd) (ns : List Nd) : writeK (n :: ns) = writeN n ++ writeK ns := by rw [writeK]
set_option maxHeartbeats 4000000 in
set_option maxRecDepth 100000 in
theorem write_seq {n : Nd} (m0 : Int) (hk : n.f0 = 6) (hlen : n.f7.length ≤ 2147483648) (hW : ∀ m ∈ n.f7, WriteC m0 m) (w0 w : World) (hv : WVars w0 m0) (B b : Nat) (acc : List Int) (v : Value) (h : RdN w0 n v) (E : Ew w0 w B b acc) (hl : acc.length + (writeK n.f7).length ≤ 100000000000000) :
    Calls Tryz.prog 28 #[.pointer (some ⟨b, 0, none⟩), v] w (RetU B b acc (writeK n.f7) w) := by
  obtain ⟨A6, c6, A7, c7, e, g1, g2, g3, hC⟩ := h
  subst e
  have HE := Aside0.mk E
  have hbn : b ≠ w.heap.size := Nat.ne_of_lt E.wr.lt
  have t6 : (n.f0 == 6) = true := by rw [hk]; rfl
  have HKD := Aside0.mk (fun j hj => kids_at hC j hj)
  have HLEN := Aside0.mk hlen
  have HWC := Aside0.mk hW
  have HV := Aside0.mk hv
  have HES : Aside0 (∀ o, Wrote B b acc [] w (w.alloc o)) := ⟨fun o => Wrote.after E.wr.base (below_alloc (Below.refl _ _) o) (Wrote.none (E.wr.below (below_alloc (Below.refl _ _) o)))⟩
  obtain ⟨R, hR⟩ : ∃ R, writeK n.f7 = R := ⟨_, rfl⟩
  rw [hR] at hl ⊢
  have HR0 := Aside0.mk hR
  have HL := Aside0.mk hl
  clear hk hlen hW hv E hl hC g1 g2 g3 hR
  go_enter Tryz.func28, Tryz.ntmps28
  go_wp2_with fail
  go_loopg [15] n.f7.length (fun gk vj w' => ∃ (j : Nat) (done : List Int), vj = .int .i64 (j : Int) ∧ Aside0 (j ≤ n.f7.length ∧ gk = n.f7.length - j) ∧ Aside0 (done ++ writeK (n.f7.drop j) = R) ∧ Aside0 (Wrote B b acc done w w'))
  case atStart => exact ⟨0, [], by first | rfl | simp, ⟨Nat.zero_le _, rfl⟩, ⟨by rw [List.drop_zero]; exact HR0.out⟩, ⟨HES.out _⟩⟩
  case round =>
    obtain ⟨j, done, rfl, HA, HK, HT⟩ := hrel
    by_cases hj : j < n.f7.length
    rotate_left
    · have hjb : decide (j < n.f7.length) = false := decide_eq_false hj
      have HRN : Aside0 (R = done) := ⟨by rw [← HK.out, List.drop_eq_nil_of_le (by omega), wK_nil, List.append_nil]⟩
      clear hj
      go_wp2_with fail
      go_end0
      rw [HRN.out]
      exact ⟨rfl, HT.out⟩
    have hjd : decide (j < n.f7.length) = true := decide_eq_true hj
    obtain ⟨ad, P6, p6, P7, p7, rfl, hk, rk⟩ := HKD.out j hj
    have hmem := List.getElem_mem hj
    have hkc := HK.out
    rw [List.drop_eq_getElem_cons hj, wK_cons] at hkc
    have hw := HWC.out _ hmem
    have HEW := Aside0.mk (HE.out.step HT.out)
    obtain ⟨x0, x1, x2, x3, x4, x5, x6, x7⟩ := hk.up HEW.out.bel
    obtain ⟨m, hm⟩ : ∃ m, n.f7[j] = m := ⟨_, rfl⟩
    rw [hm] at x0 x1 x2 x3 x4 x5 x6 x7 hkc hw rk
    obtain ⟨WM, hWM⟩ : ∃ WM, writeN m = WM := ⟨_, rfl⟩
    rw [hWM] at hkc
    have HKC := Aside0.mk hkc
    have HJ := Aside0.mk hj
    have HBX := Aside0.mk (fun o => HEW.out.below (below_alloc (Below.refl wr.heap.size wr) o))
    have HLL : Aside0 (acc.length + done.length + WM.length ≤ 100000000000000) := ⟨by have h1 := HL.out; rw [← hkc] at h1; simp at h1; omega⟩
    have HPP := Aside0.mk (fun W (E' : Ew w0 W B b (acc ++ done)) => hw w0 W B b (acc ++ done) _ HV.out rk E' (by rw [hWM]; have := HLL.out; simp; omega))
    rw [hWM] at HPP
    clear hk hmem hkc hm rk hw hWM
    go_wp2_with fail
    refine (HPP.out _ (HBX.out _)).mono ?_
    rintro e v2 ⟨rfl, hw2⟩
    have hw := Wrote.after HEW.out.wr.base (below_alloc (Below.refl wr.heap.size wr) _) hw2
    clear hw2 x0 x1 x2 x3 x4 x5 x6 x7
    have HT2 := Aside0.mk (Wrote.trans HT.out hw)
    have HK2 : Aside0 ((done ++ WM) ++ writeK (n.f7.drop (j + 1)) = R) := ⟨by rw [List.append_assoc]; exact HKC.out⟩
    clear hw
    go_wp2_with fail
    go_roundg (n.f7.length - j - 1)
    case measure => have := HA.out; have := HJ.out; omega
    case rel => exact ⟨j + 1, done ++ WM, by have h1 := HLEN.out; have h2 := HJ.out; first | rfl | (rw [w64c (by omega) (by omega)]; rfl) | (exact congrArg _ (by omega)), ⟨by have := HJ.out; omega, by omega⟩, HK2, HT2⟩
theorem countW_len9 (a b : Int) : (countW a b).length ≤ 9 := by
  have hd : ∀ n : Int, (decL n).length ≤ 3 := fun n => by unfold decL; split; simp; split <;> simp
  unfold countW
  have ha := hd a
  have hb := hd b
  split
  · simp
  · split
    · simp
    · split
      · simp
      · split
        · simp; omega
        · split <;> (simp; omega)
/-- Alternatives from the j-th one on. -/
def barsW (j : Nat) (ns : List Nd) : List Int := if j = 0 then altW ns else barW ns
set_option maxHeartbeats 4000000 in
set_option maxRecDepth 100000 in
theorem write_alt {n : Nd} (m0 : Int) (hk : n.f0 = 7) (hlen : n.f7.length ≤ 2147483648) (hW : ∀ m ∈ n.f7, WriteC m0 m) (w0 w : World) (hv : WVars w0 m0) (B b : Nat) (acc : List Int) (v : Value) (h : RdN w0 n v) (E : Ew w0 w B b acc) (hl : acc.length + (altW n.f7).length ≤ 100000000000000) :
    Calls Tryz.prog 28 #[.pointer (some ⟨b, 0, none⟩), v] w (RetU B b acc (altW n.f7) w) := by
  obtain ⟨A6, c6, A7, c7, e, g1, g2, g3, hC⟩ := h
  subst e
  have HE := Aside0.mk E
  have hbn : b ≠ w.heap.size := Nat.ne_of_lt E.wr.lt
  have t6 : (n.f0 == 6) = false := by rw [beq_eq_false_iff_ne, hk]; decide
  have t7 : (n.f0 == 7) = true := by rw [hk]; rfl
  have HKD := Aside0.mk (fun j hj => kids_at hC j hj)
  have HLEN := Aside0.mk hlen
  have HWC := Aside0.mk hW
  have HV := Aside0.mk hv
  have HES : Aside0 (∀ o, Wrote B b acc [] w (w.alloc o)) := ⟨fun o => Wrote.after E.wr.base (below_alloc (Below.refl _ _) o) (Wrote.none (E.wr.below (below_alloc (Below.refl _ _) o)))⟩
  obtain ⟨R, hR⟩ : ∃ R, altW n.f7 = R := ⟨_, rfl⟩
  rw [hR] at hl ⊢
  have HR0 := Aside0.mk hR
  have HL := Aside0.mk hl
  clear hk hlen hW hv E hl hC g1 g2 g3 hR
  go_enter Tryz.func28, Tryz.ntmps28
  go_wp2_with fail
  go_loopg [28] n.f7.length (fun gk vj w' => ∃ (j : Nat) (done : List Int), vj = .int .i64 (j : Int) ∧ Aside0 (j ≤ n.f7.length ∧ gk = n.f7.length - j) ∧ Aside0 (done ++ barsW j (n.f7.drop j) = R) ∧ Aside0 (Wrote B b acc done w w'))
  case atStart => exact ⟨0, [], by first | rfl | simp, ⟨Nat.zero_le _, rfl⟩, ⟨by rw [List.drop_zero]; exact HR0.out⟩, ⟨HES.out _⟩⟩
  case round =>
    obtain ⟨j, done, rfl, HA, HK, HT⟩ := hrel
    by_cases hj : j < n.f7.length
    rotate_left
    · have hjb : decide (j < n.f7.length) = false := decide_eq_false hj
      have HRN : Aside0 (R = done) := ⟨by
        rw [← HK.out, List.drop_eq_nil_of_le (by omega)]
        unfold barsW
        split
        · rw [altW, List.append_nil]
        · rw [barW, List.append_nil]⟩
      clear hj
      go_wp2_with fail
      go_end0
      rw [HRN.out]
      exact ⟨rfl, HT.out⟩
    have hjd : decide (j < n.f7.length) = true := decide_eq_true hj
    obtain ⟨ad, P6, p6, P7, p7, rfl, hk, rk⟩ := HKD.out j hj
    have hmem := List.getElem_mem hj
    have hkc := HK.out
    rw [List.drop_eq_getElem_cons hj] at hkc
    have hw := HWC.out _ hmem
    have HEW := Aside0.mk (HE.out.step HT.out)
    obtain ⟨m, hm⟩ : ∃ m, n.f7[j] = m := ⟨_, rfl⟩
    obtain ⟨WM, hWM⟩ : ∃ WM, writeN m = WM := ⟨_, rfl⟩
    rw [hm] at hkc hw rk hk
    have HJ := Aside0.mk hj
    have HV2 := Aside0.mk rk
    have HKM := Aside0.mk hk
    by_cases hj0 : j = 0
    · have hjz : decide (0 < j) = false := decide_eq_false (by omega)
      have HKC : Aside0 (done ++ (WM ++ barsW (j + 1) (n.f7.drop (j + 1))) = R) := ⟨by rw [← hkc]; unfold barsW; rw [if_neg (by omega), if_pos hj0, altW, hWM]⟩
      obtain ⟨x0, x1, x2, x3, x4, x5, x6, x7⟩ := hk.up HEW.out.bel
      have HBX := Aside0.mk (fun o => HEW.out.below (below_alloc (Below.refl wr.heap.size wr) o))
      have HLL : Aside0 (acc.length + done.length + WM.length ≤ 100000000000000) := ⟨by have h1 := HL.out; rw [← HKC.out] at h1; simp at h1; omega⟩
      have HPP := Aside0.mk (fun W (E' : Ew w0 W B b (acc ++ done)) => hw w0 W B b (acc ++ done) _ HV.out rk E' (by rw [hWM]; have := HLL.out; simp; omega))
      rw [hWM] at HPP
      clear hk hmem hkc hm rk hw hWM hj0
      go_wp2_with fail
      refine (HPP.out _ (HBX.out _)).mono ?_
      rintro e v2 ⟨rfl, hw2⟩
      have hw := Wrote.after HEW.out.wr.base (below_alloc (Below.refl wr.heap.size wr) _) hw2
      clear hw2 x0 x1 x2 x3 x4 x5 x6 x7
      have HT2 := Aside0.mk (Wrote.trans HT.out hw)
      have HK2 : Aside0 ((done ++ WM) ++ barsW (j + 1) (n.f7.drop (j + 1)) = R) := ⟨by rw [List.append_assoc]; exact HKC.out⟩
      clear hw
      go_wp2_with fail
      go_roundg (n.f7.length - j - 1)
      case measure => have := HA.out; have := HJ.out; omega
      case rel => exact ⟨j + 1, done ++ WM, by have h1 := HLEN.out; have h2 := HJ.out; first | rfl | (rw [w64c (by omega) (by omega)]; rfl) | (exact congrArg _ (by omega)), ⟨by have := HJ.out; omega, by omega⟩, HK2, HT2⟩
    · have hjz : decide (0 < j) = true := decide_eq_true (by omega)
      have HKC : Aside0 (done ++ ([124] ++ WM ++ barsW (j + 1) (n.f7.drop (j + 1))) = R) := ⟨by rw [← hkc]; unfold barsW; rw [if_neg (by omega), if_neg hj0, barW, hWM]; simp⟩
      obtain ⟨x0, x1, x2, x3, x4, x5, x6, x7⟩ := hk.up HEW.out.bel
      have hbr : b ≠ wr.heap.size := Nat.ne_of_lt HEW.out.wr.lt
      have HBX := Aside0.mk (fun o => HEW.out.below (below_alloc (Below.refl wr.heap.size wr) o))
      have HXX : Aside0 (∀ (o : Obj) (W : World), Keep b (wr.alloc o) W → ∀ cs T, o = .cells cs T (0, 0) → T ≠ 5 → W.heap[wr.heap.size]? = some (.cells cs T (0, 0))) := ⟨fun o W hk cs T ho hT => hk wr.heap.size cs T (0, 0) hT (Ne.symm hbr) (by rw [← ho]; exact heap_alloc_new wr o)⟩
      have HLL : Aside0 (acc.length + done.length + 1 + WM.length ≤ 100000000000000) := ⟨by have h1 := HL.out; rw [← HKC.out] at h1; simp at h1; omega⟩
      have HPP := Aside0.mk (fun W (E' : Ew w0 W B b (acc ++ (done ++ [124]))) => hw w0 W B b (acc ++ (done ++ [124])) _ HV.out rk E' (by rw [hWM]; have := HLL.out; simp; omega))
      rw [hWM] at HPP
      clear hk hmem hkc hm rk hw hWM hj0 hbr
      go_wp2_with fail
      refine (bwS B b (acc ++ done) [124] _ _ ((HBX.out _).wr) rfl (by have := HLL.out; simp; omega)).mono ?_
      rintro e v1 ⟨⟨u1, rfl⟩, hw1⟩
      have hx1 := HXX.out _ v1 hw1.2.2.1 _ _ rfl (by decide)
      have HT1 := Aside0.mk (Wrote.trans HT.out (Wrote.after HEW.out.wr.base (below_alloc (Below.refl wr.heap.size wr) _) hw1))
      have HE1 := Aside0.mk (HE.out.step HT1.out)
      have q0 := rowc hx1 0 _ rfl
      have q1 := rowc hx1 1 _ rfl
      have q2 := rowc hx1 2 _ rfl
      have q3 := rowc hx1 3 _ rfl
      have q4 := rowc hx1 4 _ rfl
      have q5 := rowc hx1 5 _ rfl
      have q6 := rowc hx1 6 _ rfl
      have q7 := rowc hx1 7 _ rfl
      clear hw1 hx1 x0 x1 x2 x3 x4 x5 x6 x7
      go_wp2_with fail
      refine (HPP.out _ HE1.out).mono ?_
      rintro e v2 ⟨rfl, hw2⟩
      have HT2 := Aside0.mk (Wrote.trans HT1.out hw2)
      have HK2 : Aside0 ((done ++ [124] ++ WM) ++ barsW (j + 1) (n.f7.drop (j + 1)) = R) := ⟨by rw [← HKC.out]; simp⟩
      clear hw2 q0 q1 q2 q3 q4 q5 q6 q7
      go_wp2_with fail
      go_roundg (n.f7.length - j - 1)
      case measure => have := HA.out; have := HJ.out; omega
      case rel => exact ⟨j + 1, done ++ [124] ++ WM, by have h1 := HLEN.out; have h2 := HJ.out; first | rfl | (rw [w64c (by omega) (by omega)]; rfl) | (exact congrArg _ (by omega)), ⟨by have := HJ.out; omega, by omega⟩, HK2, HT2⟩
set_option maxHeartbeats 4000000 in
set_option maxRecDepth 100000 in
theorem write_repeat {n : Nd} (m0 : Int) (hk : n.f0 = 8) (m : Nd) (h0 : 0 < n.f7.length) (hm : n.f7[0]'h0 = m) (hW : WriteC m0 m) (hm0 : 0 ≤ n.f1) (hm2 : n.f1 ≤ 2) (ha : 0 ≤ n.f2) (ha2 : n.f2 ≤ 100) (hb : n.f3 = -1 ∨ (n.f2 ≤ n.f3 ∧ n.f3 ≤ 100)) (w0 w : World) (hv : WVars w0 m0) (B b : Nat) (acc : List Int) (v : Value) (h : RdN w0 n v) (E : Ew w0 w B b acc) (hl : acc.length + (writeN m ++ countW n.f2 n.f3 ++ ofT n.f1 [[], [63], [43]]).length ≤ 100000000000000) :
    Calls Tryz.prog 28 #[.pointer (some ⟨b, 0, none⟩), v] w (RetU B b acc (writeN m ++ countW n.f2 n.f3 ++ ofT n.f1 [[], [63], [43]]) w) := by
  obtain ⟨A6, c6, A7, c7, e, g1, g2, g3, hC⟩ := h
  subst e
  obtain ⟨ad, P6, p6, P7, p7, rfl, hkk, rk⟩ := kids_at hC 0 h0
  rw [hm] at hkk rk
  have HE := Aside0.mk E
  have hbn : b ≠ w.heap.size := Nat.ne_of_lt E.wr.lt
  have hi5 : (0 : Int) < (n.f7.length : Int) := by omega
  have t6 : (n.f0 == 6) = false := by rw [beq_eq_false_iff_ne, hk]; decide
  have t7 : (n.f0 == 7) = false := by rw [beq_eq_false_iff_ne, hk]; decide
  have t1 : (n.f0 == 1) = false := by rw [beq_eq_false_iff_ne, hk]; decide
  have t2 : (n.f0 == 2) = false := by rw [beq_eq_false_iff_ne, hk]; decide
  have t3 : (n.f0 == 3) = false := by rw [beq_eq_false_iff_ne, hk]; decide
  have t5 : (n.f0 == 5) = false := by rw [beq_eq_false_iff_ne, hk]; decide
  have t8 : (n.f0 == 8) = true := by rw [hk]; rfl
  have hof : ∀ (W' : World) (g : Nat), W'.heap[g]? = some (.cells #[.string ⟨#[]⟩, .string ⟨#[63]⟩, .string ⟨#[43]⟩] 9 (0, 0)) → Calls Tryz.prog 46 #[.int .i64 n.f1, .slice (some ⟨g, 0, none⟩) 3 3] W' fun e w2 => e = .returned (.string (strOfNums (ofT n.f1 [[], [63], [43]]))) ∧ w2 = W' := fun W' g hg => by
    obtain ⟨i, hi⟩ : ∃ i : Nat, n.f1 = (i : Int) := ⟨n.f1.toNat, by omega⟩
    rw [hi]
    exact of_mode i (by omega) (by omega) W' g hg
  have HCO := Aside0.mk (fun W (hW : Below w0.heap.size w0 W) => counts_any n.f2 n.f3 ha ha2 hb W (fun W' hW' => hv.tab W' (hW.trans (hW'.mono hW.size))))
  have HSA := Aside0.mk (fun W acc' (E' : Ew w0 W B b acc') hl => hW w0 W B b acc' _ hv rk E' hl)
  have HX : ∀ (o : Obj) (W : World), Keep b (w.alloc o) W → ∀ cs T, o = .cells cs T (0, 0) → T ≠ 5 → W.heap[w.heap.size]? = some (.cells cs T (0, 0)) := fun o W hk cs T ho hT => hk w.heap.size cs T (0, 0) hT (Ne.symm hbn) (by rw [← ho]; exact heap_alloc_new w o)
  have HXX := Aside0.mk HX
  have HBX := Aside0.mk (fun o => E.below (below_alloc (Below.refl w.heap.size w) o))
  have hlc : (strOfNums (countW n.f2 n.f3)).size ≤ 1000 := by
    rw [Lib.size_eq, str_data, List.length_map]
    have := countW_len9 n.f2 n.f3
    omega
  have hlo : (strOfNums (ofT n.f1 [[], [63], [43]])).size ≤ 1000 := by
    rw [Lib.size_eq, str_data, List.length_map]
    rcases (show n.f1 = 0 ∨ n.f1 = 1 ∨ n.f1 = 2 by omega) with e | e | e <;> rw [e] <;> decide
  have HSUM : Aside0 (strOfNums (countW n.f2 n.f3) ++ strOfNums (ofT n.f1 [[], [63], [43]]) = strOfNums (countW n.f2 n.f3 ++ ofT n.f1 [[], [63], [43]])) := ⟨by rw [str_app]⟩
  rw [List.append_assoc] at hl ⊢
  obtain ⟨CO, hCO⟩ : ∃ CO, countW n.f2 n.f3 ++ ofT n.f1 [[], [63], [43]] = CO := ⟨_, rfl⟩
  rw [hCO] at hl HSUM ⊢
  obtain ⟨S1, hS1⟩ : ∃ S1, strOfNums (countW n.f2 n.f3) = S1 := ⟨_, rfl⟩
  obtain ⟨S2, hS2⟩ : ∃ S2, strOfNums (ofT n.f1 [[], [63], [43]]) = S2 := ⟨_, rfl⟩
  obtain ⟨WM, hWM⟩ : ∃ WM, writeN m = WM := ⟨_, rfl⟩
  rw [hS1] at HCO hlc HSUM
  rw [hS2] at hof hlo HSUM
  rw [hWM] at HSA hl ⊢
  have HOF := Aside0.mk hof
  have HKA := Aside0.mk hkk
  have HL := Aside0.mk (show acc.length + WM.length + CO.length ≤ 100000000000000 by simp at hl; omega)
  have hbb := HBX.out
  have x0 := fun o => (hkk.up (hbb o).bel).1
  have x1 := fun o => (hkk.up (hbb o).bel).2.1
  have x2 := fun o => (hkk.up (hbb o).bel).2.2.1
  have x3 := fun o => (hkk.up (hbb o).bel).2.2.2.1
  have x4 := fun o => (hkk.up (hbb o).bel).2.2.2.2.1
  have x5 := fun o => (hkk.up (hbb o).bel).2.2.2.2.2.1
  have x6 := fun o => (hkk.up (hbb o).bel).2.2.2.2.2.2.1
  have x7 := fun o => (hkk.up (hbb o).bel).2.2.2.2.2.2.2
  simp only [Nat.zero_mul, Addr.add_zero'] at x0 x1 x2 x3 x4 x5 x6 x7
  clear hv E hl hk hC rk hkk hm hW g1 g2 g3 HX hof hbb hCO hS1 hS2 hWM ha ha2 hb hm0 hm2
  go_enter Tryz.func28, Tryz.ntmps28
  go_wp2_with fail
  refine (HSA.out _ acc (HBX.out _) (by have := HL.out; omega)).mono ?_
  rintro e w1 ⟨rfl, hw1⟩
  have hx1 := HXX.out _ w1 hw1.2.2.1 _ _ rfl (by decide)
  have HT1 := Aside0.mk (Wrote.after HE.out.wr.base (below_alloc (Below.refl _ _) _) hw1)
  have HX1 := Aside0.mk hx1
  have HE1 := Aside0.mk (HE.out.step HT1.out)
  clear hw1 x0 x1 x2 x3 x4 x5 x6 x7 hx1
  go_wp2_with fail
  -- tail PRINTED by tools/wrepgen.py
  have hlt1 : w.heap.size < w1.heap.size := (Array.getElem?_eq_some_iff.1 HX1.out).1
  have HLT := Aside0.mk hlt1
  clear hlt1
  refine start_ (n := 12) (S := fun w' => w'.heap[w.heap.size]? = some (.cells #[.int .i64 n.f0, .int .i64 n.f1, .int .i64 n.f2, .int .i64 n.f3, .bool n.f4, .string n.f5, .slice A6 n.f6.length c6, .slice (some ad) n.f7.length c7] 25 (0, 0))) (ds := [11]) #[false, false, false, false, false, false, false, false, false, false, false, false] (by kernel_rfl) rfl rfl (by show w1.heap[w.heap.size]? = _; exact HX1.out) (fun hHeld => ?_)
  refine pure_ (i := 0) (N := some 70) (v := ?_) (a' := ?_) #[true, false, false, false, false, false, false, false, false, false, false, false] rfl rfl (by kernel_rfl) (fun _ _ _ h => h) (Or.inl ⟨by rfl, ?_⟩) ?_ ?_
  rotate_left
  · intro w'
    go_simp
    with_reducible rfl
  rotate_left
  · simp only [Act.put, List.setIfInBounds_toArray, List.set_cons_zero, List.set_cons_succ, i64_w, i32_w]
    rfl
  refine pure_ (i := 1) (N := some 71) (v := ?_) (a' := ?_) #[true, true, false, false, false, false, false, false, false, false, false, false] rfl rfl (by kernel_rfl) (fun _ _ _ h => h) (Or.inl ⟨by rfl, ?_⟩) ?_ ?_
  rotate_left
  · intro w'
    go_simp
    with_reducible rfl
  rotate_left
  · simp only [Act.put, List.setIfInBounds_toArray, List.set_cons_zero, List.set_cons_succ, i64_w, i32_w]
    rfl
  refine take_ (i := 2) (N := some 72) (v := ?_) (a' := ?_) #[true, true, true, false, false, false, false, false, false, false, false, false] rfl rfl (by kernel_rfl) (fun _ _ _ h => h) (Or.inl ⟨by rfl, ?_⟩) hHeld ?_ ?_
  rotate_left
  · rintro w' hx
    have q := rowc hx 2 _ rfl
    go_simp
    with_reducible rfl
  rotate_left
  · simp only [Act.put, List.setIfInBounds_toArray, List.set_cons_zero, List.set_cons_succ, i64_w, i32_w]
    rfl
  refine pure_ (i := 3) (N := some 73) (v := ?_) (a' := ?_) #[true, true, true, true, false, false, false, false, false, false, false, false] rfl rfl (by kernel_rfl) (fun _ _ _ h => h) (Or.inl ⟨by rfl, ?_⟩) ?_ ?_
  rotate_left
  · intro w'
    go_simp
    with_reducible rfl
  rotate_left
  · simp only [Act.put, List.setIfInBounds_toArray, List.set_cons_zero, List.set_cons_succ, i64_w, i32_w]
    rfl
  refine take_ (i := 4) (N := some 74) (v := ?_) (a' := ?_) #[true, true, true, true, true, false, false, false, false, false, false, false] rfl rfl (by kernel_rfl) (fun _ _ _ h => h) (Or.inl ⟨by rfl, ?_⟩) hHeld ?_ ?_
  rotate_left
  · rintro w' hx
    have q := rowc hx 3 _ rfl
    go_simp
    with_reducible rfl
  rotate_left
  · simp only [Act.put, List.setIfInBounds_toArray, List.set_cons_zero, List.set_cons_succ, i64_w, i32_w]
    rfl
  refine pure_ (i := 6) (N := some 76) (v := ?_) (a' := ?_) #[true, true, true, true, true, false, true, false, false, false, false, false] rfl rfl (by kernel_rfl) (fun _ _ _ h => h) (Or.inl ⟨by rfl, ?_⟩) ?_ ?_
  rotate_left
  · intro w'
    go_simp
    with_reducible rfl
  rotate_left
  · simp only [Act.put, List.setIfInBounds_toArray, List.set_cons_zero, List.set_cons_succ, i64_w, i32_w]
    rfl
  refine take_ (i := 7) (N := some 77) (v := ?_) (a' := ?_) #[true, true, true, true, true, false, true, true, false, false, false, false] rfl rfl (by kernel_rfl) (fun _ _ _ h => h) (Or.inl ⟨by rfl, ?_⟩) hHeld ?_ ?_
  rotate_left
  · rintro w' hx
    have q := rowc hx 1 _ rfl
    go_simp
    with_reducible rfl
  rotate_left
  · simp only [Act.put, List.setIfInBounds_toArray, List.set_cons_zero, List.set_cons_succ, i64_w, i32_w]
    rfl
  refine two_ (i := 5) (j := 8) (Ni := some 75) (Nj := some 78) #[true, true, true, true, true, true, true, true, false, false, false, false] #[true, true, true, true, true, false, true, true, true, false, false, false] rfl rfl rfl rfl (by kernel_rfl) (by decide) (by decide) (fun K hK => ?_) (fun K hK => ?_)
  · refine goes_ Tryz.func45 (by kernel_rfl) rfl #[.int .i64 n.f2, .int .i64 n.f3] (by rfl) rfl rfl (by simp only [List.map_toArray, List.map_cons, List.map_nil]; rfl) ?_
    refine (HCO.out _ (HE1.out.below (below_drew (Below.refl _ _))).bel).mono ?_
    rintro e v1 ⟨rfl, hb1⟩
    refine ⟨_, rfl, ?_⟩
    have hb1 : Below w1.heap.size w1 v1 := below_to (below_drew (Below.refl _ _)) hb1
    have hx1 := (hb1.block w.heap.size HLT.out).trans HX1.out
    have HB1 := Aside0.mk hb1
    have HX2 := Aside0.mk hx1
    have HLT1 := Aside0.mk (Nat.lt_of_lt_of_le HLT.out hb1.size)
    clear hb1
    refine hK.out _ _ hx1 (fun hHeld => ?_)
    clear hK K hx1
    refine norm_ (a' := ?_) ?_ ?_
    rotate_left
    · show Act.put _ (some 75) _ = _
      simp only [Act.put, List.setIfInBounds_toArray, List.set_cons_zero, List.set_cons_succ, i64_w, i32_w]
      rfl
    refine one_ (i := 8) (N := some 78) #[true, true, true, true, true, true, true, true, true, false, false, false] rfl rfl (by kernel_rfl) (by decide) (fun K hK => ?_)
    refine value_ (v := .slice (some ⟨v1.heap.size, 0, none⟩) 3 3) (w1 := v1.alloc (.cells #[.string ⟨#[]⟩, .string ⟨#[63]⟩, .string ⟨#[43]⟩] 9)) (by rfl) rfl ?_ ?_
    · go_simp
    have hbB := below_alloc (Below.refl v1.heap.size v1) (.cells #[.string ⟨#[]⟩, .string ⟨#[63]⟩, .string ⟨#[43]⟩] 9)
    have hnB := heap_alloc_new v1 (.cells #[.string ⟨#[]⟩, .string ⟨#[63]⟩, .string ⟨#[43]⟩] 9)
    obtain ⟨W5, hW5⟩ : ∃ W5, v1.alloc (.cells #[.string ⟨#[]⟩, .string ⟨#[63]⟩, .string ⟨#[43]⟩] 9) = W5 := ⟨_, rfl⟩
    rw [hW5] at hbB hnB ⊢
    clear hW5
    have HX5 := Aside0.mk ((hbB.block w.heap.size HLT1.out).trans HX2.out)
    have HB5 := Aside0.mk (below_to HB1.out hbB)
    have HN5 := Aside0.mk hnB
    clear hbB hnB
    refine hK.out _ _ HX5.out (fun hHeld => ?_)
    clear hK K
    refine norm_ (a' := ?_) ?_ ?_
    rotate_left
    · show Act.put _ (some 78) _ = _
      simp only [Act.put, List.setIfInBounds_toArray, List.set_cons_zero, List.set_cons_succ, i64_w, i32_w]
      rfl
    refine one_ (i := 9) (N := some 79) #[true, true, true, true, true, true, true, true, true, true, false, false] rfl rfl (by kernel_rfl) (by decide) (fun K hK => ?_)
    refine goes_ Tryz.func46 (by kernel_rfl) rfl #[.int .i64 n.f1, .slice (some ⟨v1.heap.size, 0, none⟩) 3 3] (by rfl) rfl rfl (by simp only [List.map_toArray, List.map_cons, List.map_nil]; rfl) ?_
    refine (HOF.out _ _ HN5.out).mono ?_
    rintro e w2 ⟨rfl, rfl⟩
    refine ⟨_, rfl, ?_⟩
    refine hK.out _ _ HX5.out (fun hHeld => ?_)
    clear hK K
    refine norm_ (a' := ?_) ?_ ?_
    rotate_left
    · show Act.put _ (some 79) _ = _
      simp only [Act.put, List.setIfInBounds_toArray, List.set_cons_zero, List.set_cons_succ, i64_w, i32_w]
      rfl
    refine pure_ (i := 10) (N := some 80) (v := ?_) (a' := ?_) #[true, true, true, true, true, true, true, true, true, true, true, false] rfl rfl (by kernel_rfl) (fun _ _ _ h => h) (Or.inl ⟨by rfl, ?_⟩) ?_ ?_
    rotate_left
    · intro w'
      go_simp
      rw [if_neg (by omega)]
    rotate_left
    · simp only [Act.put, List.setIfInBounds_toArray, List.set_cons_zero, List.set_cons_succ, i64_w, i32_w]
      rfl
    refine last_ (i := 11) (N := some 81) #[true, true, true, true, true, true, true, true, true, true, true, true] rfl rfl (by kernel_rfl) (by decide) (fun K hK => ?_)
    refine goes_ Tryz.func42 (by kernel_rfl) rfl #[.pointer (some ⟨b, 0, none⟩), .string (S1 ++ S2)] (by rfl) rfl rfl (by simp only [List.map_toArray, List.map_cons, List.map_nil]; rfl) ?_
    refine (bwS B b (acc ++ WM) CO _ _ ((HE1.out.below HB5.out).wr) HSUM.out (by have := HL.out; simp; omega)).mono ?_
    rintro e v3 ⟨⟨u3, rfl⟩, hw2⟩
    refine ⟨_, rfl, ?_⟩
    refine hK.out _ _ ?_
    clear hK K
    refine norm_ (a' := ?_) ?_ ?_
    rotate_left
    · show Act.put _ (some 81) _ = _
      simp only [Act.put, List.setIfInBounds_toArray, List.set_cons_zero, List.set_cons_succ, i64_w, i32_w]
      rfl
    refine done_ (by kernel_rfl) ?_
    have HT := Aside0.mk (Wrote.trans HT1.out (Wrote.after HE1.out.wr.base HB5.out hw2))
    clear hw2 hHeld
    go_wp2_with fail
    go_end0
    exact ⟨rfl, HT.out⟩
  · refine value_ (v := .slice (some ⟨w1.drew.heap.size, 0, none⟩) 3 3) (w1 := w1.drew.alloc (.cells #[.string ⟨#[]⟩, .string ⟨#[63]⟩, .string ⟨#[43]⟩] 9)) (by rfl) rfl ?_ ?_
    · go_simp
    have hbB := below_alloc (Below.refl w1.drew.heap.size w1.drew) (.cells #[.string ⟨#[]⟩, .string ⟨#[63]⟩, .string ⟨#[43]⟩] 9)
    have hnB := heap_alloc_new w1.drew (.cells #[.string ⟨#[]⟩, .string ⟨#[63]⟩, .string ⟨#[43]⟩] 9)
    have hbB : Below w1.heap.size w1 _ := below_to (below_drew (Below.refl w1.heap.size w1)) hbB
    obtain ⟨g4, hg4⟩ : ∃ g4, w1.drew.heap.size = g4 := ⟨_, rfl⟩
    obtain ⟨W4, hW4⟩ : ∃ W4, w1.drew.alloc (.cells #[.string ⟨#[]⟩, .string ⟨#[63]⟩, .string ⟨#[43]⟩] 9) = W4 := ⟨_, rfl⟩
    rw [hW4, hg4] at hnB
    rw [hW4] at hbB
    rw [hW4, hg4]
    clear hW4 hg4
    have HX2 := Aside0.mk ((hbB.block w.heap.size HLT.out).trans HX1.out)
    have HB1 := Aside0.mk hbB
    have HN4 := Aside0.mk hnB
    clear hbB hnB
    refine hK.out _ _ HX2.out (fun hHeld => ?_)
    clear hK K
    refine norm_ (a' := ?_) ?_ ?_
    rotate_left
    · show Act.put _ (some 78) _ = _
      simp only [Act.put, List.setIfInBounds_toArray, List.set_cons_zero, List.set_cons_succ, i64_w, i32_w]
      rfl
    refine one_ (i := 5) (N := some 75) #[true, true, true, true, true, true, true, true, true, false, false, false] rfl rfl (by kernel_rfl) (by decide) (fun K hK => ?_)
    refine goes_ Tryz.func45 (by kernel_rfl) rfl #[.int .i64 n.f2, .int .i64 n.f3] (by rfl) rfl rfl (by simp only [List.map_toArray, List.map_cons, List.map_nil]; rfl) ?_
    refine (HCO.out _ (HE1.out.below HB1.out).bel).mono ?_
    rintro e v1 ⟨rfl, hb1⟩
    refine ⟨_, rfl, ?_⟩
    have HN5 := Aside0.mk ((hb1.block g4 (Array.getElem?_eq_some_iff.1 HN4.out).1).trans HN4.out)
    have HX5 := Aside0.mk ((hb1.block w.heap.size (Array.getElem?_eq_some_iff.1 HX2.out).1).trans HX2.out)
    have HB5 := Aside0.mk (below_to HB1.out hb1)
    clear hb1
    refine hK.out _ _ HX5.out (fun hHeld => ?_)
    clear hK K
    refine norm_ (a' := ?_) ?_ ?_
    rotate_left
    · show Act.put _ (some 75) _ = _
      simp only [Act.put, List.setIfInBounds_toArray, List.set_cons_zero, List.set_cons_succ, i64_w, i32_w]
      rfl
    refine one_ (i := 9) (N := some 79) #[true, true, true, true, true, true, true, true, true, true, false, false] rfl rfl (by kernel_rfl) (by decide) (fun K hK => ?_)
    refine goes_ Tryz.func46 (by kernel_rfl) rfl #[.int .i64 n.f1, .slice (some ⟨g4, 0, none⟩) 3 3] (by rfl) rfl rfl (by simp only [List.map_toArray, List.map_cons, List.map_nil]; rfl) ?_
    refine (HOF.out _ _ HN5.out).mono ?_
    rintro e w2 ⟨rfl, rfl⟩
    refine ⟨_, rfl, ?_⟩
    refine hK.out _ _ HX5.out (fun hHeld => ?_)
    clear hK K
    refine norm_ (a' := ?_) ?_ ?_
    rotate_left
    · show Act.put _ (some 79) _ = _
      simp only [Act.put, List.setIfInBounds_toArray, List.set_cons_zero, List.set_cons_succ, i64_w, i32_w]
      rfl
    refine pure_ (i := 10) (N := some 80) (v := ?_) (a' := ?_) #[true, true, true, true, true, true, true, true, true, true, true, false] rfl rfl (by kernel_rfl) (fun _ _ _ h => h) (Or.inl ⟨by rfl, ?_⟩) ?_ ?_
    rotate_left
    · intro w'
      go_simp
      rw [if_neg (by omega)]
    rotate_left
    · simp only [Act.put, List.setIfInBounds_toArray, List.set_cons_zero, List.set_cons_succ, i64_w, i32_w]
      rfl
    refine last_ (i := 11) (N := some 81) #[true, true, true, true, true, true, true, true, true, true, true, true] rfl rfl (by kernel_rfl) (by decide) (fun K hK => ?_)
    refine goes_ Tryz.func42 (by kernel_rfl) rfl #[.pointer (some ⟨b, 0, none⟩), .string (S1 ++ S2)] (by rfl) rfl rfl (by simp only [List.map_toArray, List.map_cons, List.map_nil]; rfl) ?_
    refine (bwS B b (acc ++ WM) CO _ _ ((HE1.out.below HB5.out).wr) HSUM.out (by have := HL.out; simp; omega)).mono ?_
    rintro e v3 ⟨⟨u3, rfl⟩, hw2⟩
    refine ⟨_, rfl, ?_⟩
    refine hK.out _ _ ?_
    clear hK K
    refine norm_ (a' := ?_) ?_ ?_
    rotate_left
    · show Act.put _ (some 81) _ = _
      simp only [Act.put, List.setIfInBounds_toArray, List.set_cons_zero, List.set_cons_succ, i64_w, i32_w]
      rfl
    refine done_ (by kernel_rfl) ?_
    have HT := Aside0.mk (Wrote.trans HT1.out (Wrote.after HE1.out.wr.base HB5.out hw2))
    clear hw2 hHeld
    go_wp2_with fail
    go_end0
    exact ⟨rfl, HT.out⟩

end Go.Proofs.YtkipjalfgdfaiaaGreatDoor
namespace Go.Proofs.YtkipjalfgdfaiaaGreatDoor
set_option linter.unusedVariables false
set_option linter.unusedSimpArgs false
open Go.RowKit Go.Proofs.YtkipjalfgdfaiaaGreatDoorW.PrintWords Go.Proofs.YtkipjalfgdfaiaaGreatDoorW.PrintLast Go.Proofs.YtkipjalfgdfaiaaGreatDoorW.PrintMore Go.Proofs.YtkipjalfgdfaiaaGreatDoor.PTk

theorem ofT_len {l : List (List Int)} {B : Nat} (h : ∀ x ∈ l, x.length ≤ B) (m : Int) : (ofT m l).length ≤ B := by
  unfold ofT
  rw [List.getD_eq_getElem?_getD]
  cases e : l[m.toNat]? with
  | none => simp
  | some x => exact h x (List.mem_of_getElem? e)
theorem propW_len (n : Nd) : (propW n).length ≤ n.f5.size + 4 := by
  unfold propW
  split
  · simp
  · split
    · simp [bytes_len]
    · split <;> simp [bytes_len]
theorem decL_len (n : Int) : (decL n).length ≤ 3 := by unfold decL; split; simp; split <;> simp
theorem countW_len (a b : Int) : (countW a b).length ≤ 9 := by
  unfold countW
  have ha := decL_len a
  have hb := decL_len b
  split
  · simp
  · split
    · simp
    · split
      · simp
      · split
        · simp; omega
        · split <;> (simp; omega)
theorem printL_len (r : Int) (cls : Bool) : (printL r cls).length ≤ 6 := by
  cases h : runeB r with
  | true => exact (printL_pos h).2
  | false => rw [printL_none h]; simp
theorem sideW_eq (n : Nd) : sideW n = if n.f1 = 0 then membW n.f7 else sidesW n.f7 n.f1 := by cases n; rw [sideW]
theorem writeN_eq (n : Nd) : writeN n =
    if n.f0 = 6 then writeK n.f7
    else if n.f0 = 7 then altW n.f7
    else if n.f0 = 1 then printL n.f2 false
    else if n.f0 = 2 then [46]
    else if n.f0 = 3 then classW n
    else if n.f0 = 5 then propW n
    else if n.f0 = 8 then headW n.f7 ++ countW n.f2 n.f3 ++ ofT n.f1 [[], [63], [43]]
    else if n.f0 = 9 then (if n.f2 = 0 then [40, 63, 58] else if n.f5 = e0 then [40] else [40, 63, 60] ++ bytesOf n.f5 ++ [62]) ++ headW n.f7 ++ [41]
    else if n.f0 = 10 then ofT n.f1 [[40, 63, 61], [40, 63, 33], [40, 63, 60, 61], [40, 63, 60, 33]] ++ headW n.f7 ++ [41]
    else if n.f0 = 11 then [40, 63, 62] ++ headW n.f7 ++ [41]
    else if n.f0 = 12 then ofT n.f1 [[], [94], [36], [92, 65], [92, 122], [92, 98], [92, 66], [92, 98, 123, 103, 125], [92, 66, 123, 103, 125], [92, 98, 123, 119, 125], [92, 66, 123, 119, 125]]
    else if n.f0 = 13 then [92, 107, 123] ++ decL n.f2 ++ [125]
    else if n.f0 = 14 then [92, 88]
    else [] := by cases n; rw [writeN]
theorem headW_cons (n : Nd) (ns : List Nd) : headW (n :: ns) = writeN n := by rw [headW]
theorem altW_nil : altW [] = [] := by rw [altW]
theorem sidesW_two (a b : Nd) (m : Int) : sidesW [a, b] m = sideW a ++ ofT m [[], [38, 38], [45, 45], [126, 126]] ++ sideW b := by rw [sidesW]
theorem sidesW_nil (m : Int) : sidesW [] m = [] := by
  rw [sidesW]
  intro a b h; cases h
theorem sidesW_one (a : Nd) (m : Int) : sidesW [a] m = [] := by
  rw [sidesW]
  intro a b h; cases h
theorem sidesW_more (a b c : Nd) (l : List Nd) (m : Int) : sidesW (a :: b :: c :: l) m = [] := by
  rw [sidesW]
  intro a b h; cases h
theorem write_len : (∀ n, (writeN n).length + 1 ≤ 32 * weightN n ∧ (sideW n).length + 4 ≤ 32 * weightN n) ∧
    ∀ ns, (writeK ns).length ≤ 32 * weightK ns ∧ (altW ns).length ≤ 32 * weightK ns ∧ (barW ns).length ≤ 32 * weightK ns ∧ (headW ns).length ≤ 32 * weightK ns ∧ (membW ns).length ≤ 32 * weightK ns ∧
      (∀ m, (sidesW ns m).length ≤ 32 * weightK ns) ∧ (∀ a, ns = [a] → (sideW a).length + 4 ≤ 32 * weightN a) := by
  refine Nd.ind (fun n ih => ?_) ?_ (fun n ns hn hns => ?_)
  · rw [weightN_eq]
    constructor
    · rw [writeN_eq]
      have h3 : (classW n).length ≤ (sideW n).length + 3 := by unfold classW; split <;> simp
      have hs : (sideW n).length ≤ 32 * weightK n.f7 := by
        rw [sideW_eq]; split
        · exact ih.2.2.2.2.1
        · exact ih.2.2.2.2.2.1 _
      have h1 := printL_len n.f2 false
      have h5 := propW_len n
      have h8 := countW_len n.f2 n.f3
      have ho1 := ofT_len (l := [[], [63], [43]]) (B := 4) (by decide) n.f1
      have ho2 := ofT_len (l := [[40, 63, 61], [40, 63, 33], [40, 63, 60, 61], [40, 63, 60, 33]]) (B := 4) (by decide) n.f1
      have ho3 := ofT_len (l := [[], [94], [36], [92, 65], [92, 122], [92, 98], [92, 66], [92, 98, 123, 103, 125], [92, 66, 123, 103, 125], [92, 98, 123, 119, 125], [92, 66, 123, 119, 125]]) (B := 5) (by decide) n.f1
      have hd := decL_len n.f2
      have hh := ih.2.2.2.1
      have hb := bytes_len n.f5
      by_cases k6 : n.f0 = 6
      · rw [if_pos k6]; (first | omega | (simp only [List.length_append, List.length_cons, List.length_nil]; omega))
      rw [if_neg k6]
      by_cases k7 : n.f0 = 7
      · rw [if_pos k7]; (first | omega | (simp only [List.length_append, List.length_cons, List.length_nil]; omega))
      rw [if_neg k7]
      by_cases k1 : n.f0 = 1
      · rw [if_pos k1]; (first | omega | (simp only [List.length_append, List.length_cons, List.length_nil]; omega))
      rw [if_neg k1]
      by_cases k2 : n.f0 = 2
      · rw [if_pos k2]; (first | omega | (simp only [List.length_append, List.length_cons, List.length_nil]; omega))
      rw [if_neg k2]
      by_cases k3 : n.f0 = 3
      · rw [if_pos k3]; (first | omega | (simp only [List.length_append, List.length_cons, List.length_nil]; omega))
      rw [if_neg k3]
      by_cases k5 : n.f0 = 5
      · rw [if_pos k5]; (first | omega | (simp only [List.length_append, List.length_cons, List.length_nil]; omega))
      rw [if_neg k5]
      by_cases k8 : n.f0 = 8
      · rw [if_pos k8]; (first | omega | (simp only [List.length_append, List.length_cons, List.length_nil]; omega))
      rw [if_neg k8]
      by_cases k9 : n.f0 = 9
      · rw [if_pos k9]
        by_cases z1 : n.f2 = 0
        · rw [if_pos z1]; (first | omega | (simp only [List.length_append, List.length_cons, List.length_nil]; omega))
        rw [if_neg z1]
        by_cases z2 : n.f5 = e0
        · rw [if_pos z2]; (first | omega | (simp only [List.length_append, List.length_cons, List.length_nil]; omega))
        rw [if_neg z2]; (first | omega | (simp only [List.length_append, List.length_cons, List.length_nil]; omega))
      rw [if_neg k9]
      by_cases k10 : n.f0 = 10
      · rw [if_pos k10]; (first | omega | (simp only [List.length_append, List.length_cons, List.length_nil]; omega))
      rw [if_neg k10]
      by_cases k11 : n.f0 = 11
      · rw [if_pos k11]; (first | omega | (simp only [List.length_append, List.length_cons, List.length_nil]; omega))
      rw [if_neg k11]
      by_cases k12 : n.f0 = 12
      · rw [if_pos k12]; (first | omega | (simp only [List.length_append, List.length_cons, List.length_nil]; omega))
      rw [if_neg k12]
      by_cases k13 : n.f0 = 13
      · rw [if_pos k13]; (first | omega | (simp only [List.length_append, List.length_cons, List.length_nil]; omega))
      rw [if_neg k13]
      by_cases k14 : n.f0 = 14
      · rw [if_pos k14]; (first | omega | (simp only [List.length_append, List.length_cons, List.length_nil]; omega))
      rw [if_neg k14]
      (first | omega | (simp only [List.length_append, List.length_cons, List.length_nil]; omega))
    · rw [sideW_eq]
      split
      · have := ih.2.2.2.2.1; omega
      · have := ih.2.2.2.2.2.1 n.f1; omega
  · rw [weightK_nil]
    refine ⟨by rw [writeK]; simp, by rw [altW]; simp, by rw [barW]; simp, by rw [headW]; simp, by rw [membW]; simp, fun m => by rw [sidesW_nil]; exact Nat.zero_le _, fun a h => by cases h⟩
  · rw [weightK_cons]
    have hw : (writeK (n :: ns)).length = (writeN n).length + (writeK ns).length := by rw [writeK, List.length_append]
    have ha : (altW (n :: ns)).length = (writeN n).length + (barW ns).length := by rw [altW, List.length_append]
    have hb : (barW (n :: ns)).length = 1 + (writeN n).length + (barW ns).length := by rw [barW]; simp; omega
    have hh : (headW (n :: ns)).length = (writeN n).length := by rw [headW]
    have hm : (membW (n :: ns)).length = (memW n).length + (membW ns).length := by rw [membW_cons, List.length_append]
    have hmw : (memW n).length ≤ 32 * weightN n := by
      have h1 := printL_len n.f2 true
      have h2 := printL_len n.f3 true
      have h5 := propW_len n
      have he := weightN_eq n
      unfold memW
      repeat' split
      all_goals (first | (simp only [List.length_append, List.length_cons, List.length_nil]; omega) | omega)
    refine ⟨by omega, by omega, by omega, by omega, by omega, fun m => ?_, fun a h => ?_⟩
    · match ns, hns with
      | [b], hns =>
        rw [sidesW_two]
        have ho := ofT_len (l := [[], [38, 38], [45, 45], [126, 126]]) (B := 2) (by decide) m
        have hb := hns.2.2.2.2.2.2 b rfl
        rw [weightK_cons, weightK_nil]
        simp only [List.length_append]
        omega
      | [], _ => rw [sidesW_one]; exact Nat.zero_le _
      | _ :: _ :: _, _ => rw [sidesW_more]; exact Nat.zero_le _
    · cases h; exact hn.2
section
variable {res : ByteArray → Int × ByteArray × Int}
/-- A node that may be, as a part, a sequence or a body. -/
def Vld (res : ByteArray → Int × ByteArray × Int) (n : Nd) : Prop := ∃ d c c', d ≤ 50 ∧ c.1 ≤ 20 ∧ (partN res n d c = some c' ∨ seqN res n d c = some c' ∨ bodyN res n d c = some c')
theorem partK_mem {d : Nat} (hd : d ≤ 50) : ∀ {ns : List Nd} {c c' : Gs}, partK res ns d c = some c' → c.1 ≤ 20 → ∀ m ∈ ns, Vld res m
  | [], _, _, _, _, m, hm => by cases hm
  | n :: ns, c, c', h, hc, m, hm => by
    rw [partK_cons] at h
    cases h1 : partN res n d c with
    | none => rw [h1] at h; cases h
    | some c1 =>
      rw [h1] at h
      rcases List.mem_cons.1 hm with e | e
      · rw [e]; exact ⟨d, c, c1, hd, hc, .inl h1⟩
      · exact partK_mem hd h (((parts_bounds res).1 n).1 d c c1 h1 hd hc).2.1 m e
theorem seqK_mem {d : Nat} (hd : d ≤ 50) : ∀ {ns : List Nd} {c c' : Gs}, seqK res ns d c = some c' → c.1 ≤ 20 → ∀ m ∈ ns, Vld res m
  | [], _, _, _, _, m, hm => by cases hm
  | n :: ns, c, c', h, hc, m, hm => by
    rw [seqK_cons] at h
    cases h1 : seqN res n d c with
    | none => rw [h1] at h; cases h
    | some c1 =>
      rw [h1] at h
      rcases List.mem_cons.1 hm with e | e
      · rw [e]; exact ⟨d, c, c1, hd, hc, .inr (.inl h1)⟩
      · exact seqK_mem hd h (((parts_bounds res).1 n).2.1 d c c1 h1 hd hc).2.1 m e
theorem write_any (hsh : ShortOk res) (m0 : Int) : ∀ n : Nd, weightN n ≤ 2147483648 → Vld res n → WriteC m0 n := by
  refine Nd.all ?_
  intro n ih hw ⟨d, c, c', hd, hc, hv⟩
  have kid : ∀ m ∈ n.f7, Vld res m → WriteC m0 m := fun m hm hv => ih m hm (weight_kid hw hm) hv
  have hseq : n.f0 = 6 → partK res n.f7 d c = some c' → WriteC m0 n := fun k6 h => by
    intro w0 w B b acc v hV hR hE hl
    rw [writeN_eq, if_pos k6] at hl ⊢
    exact write_seq m0 k6 (weight_len hw) (fun m hm => kid m hm (partK_mem hd h hc m hm)) w0 w hV B b acc v hR hE hl
  rcases hv with h | h | h
  rotate_left
  · rw [seqN_eq] at h
    split at h
    · rename_i hk; exact hseq hk.1 h
    · cases h
  · rw [bodyN_eq] at h
    split at h
    · by_cases k7 : n.f0 = 7
      · rw [if_pos k7] at h
        split at h
        · intro w0 w B b acc v hV hR hE hl
          rw [writeN_eq, if_neg (by omega), if_pos k7] at hl ⊢
          exact write_alt m0 k7 (weight_len hw) (fun m hm => kid m hm (seqK_mem hd h hc m hm)) w0 w hV B b acc v hR hE hl
        · cases h
      · rw [if_neg k7] at h
        split at h
        · rename_i k6; exact hseq k6 h
        · cases h
    · cases h
  · intro w0 w B b acc v hV hR hE hl
    rw [partN_eq] at h
    rw [writeN_eq] at hl ⊢
    by_cases k1 : n.f0 = 1
    · rw [if_neg (by omega), if_neg (by omega), if_pos k1] at hl ⊢
      exact write_char m0 k1 w0 w hV B b acc v hR hE hl
    rw [if_neg k1] at h
    by_cases k2 : n.f0 = 2 ∨ n.f0 = 14
    · rcases k2 with k2 | k2
      · rw [if_neg (by omega), if_neg (by omega), if_neg k1, if_pos k2] at hl ⊢
        exact write_any2 m0 k2 w0 w hV B b acc v hR hE hl
      · rw [if_neg (by omega), if_neg (by omega), if_neg k1, if_neg (by omega), if_neg (by omega), if_neg (by omega), if_neg (by omega), if_neg (by omega), if_neg (by omega), if_neg (by omega), if_neg (by omega), if_neg (by omega), if_pos k2] at hl ⊢
        exact write_cluster m0 k2 w0 w hV B b acc v hR hE hl
    rw [if_neg k2] at h
    have k2' : n.f0 ≠ 2 := fun e => k2 (.inl e)
    by_cases k3 : n.f0 = 3
    · rw [if_pos k3] at h
      rw [if_neg (by omega), if_neg (by omega), if_neg k1, if_neg k2', if_pos k3] at hl ⊢
      split at h
      · rename_i hb
        exact write_class m0 k3 (side_any hsh m0 n hw ⟨_, hb⟩) w0 w hV B b acc v hR hE hl
      · cases h
    rw [if_neg k3] at h
    by_cases k5 : n.f0 = 5
    · rw [if_pos k5] at h
      rw [if_neg (by omega), if_neg (by omega), if_neg k1, if_neg k2', if_neg k3, if_pos k5] at hl ⊢
      split at h
      · rename_i hb
        exact write_prop m0 k5 (prop_writes hsh hb) w0 w hV B b acc v hR hE hl
      · cases h
    rw [if_neg k5] at h
    by_cases k12 : n.f0 = 12
    · rw [if_pos k12] at h
      rw [if_neg (by omega), if_neg (by omega), if_neg k1, if_neg k2', if_neg k3, if_neg k5, if_neg (by omega), if_neg (by omega), if_neg (by omega), if_neg (by omega), if_pos k12] at hl ⊢
      split at h
      · rename_i hb
        rw [Bool.and_eq_true, Bool.and_eq_true, decide_eq_true_eq, decide_eq_true_eq] at hb
        exact write_assert m0 k12 hb.1.2 hb.2 w0 w hV B b acc v hR hE hl
      · cases h
    rw [if_neg k12] at h
    by_cases k13 : n.f0 = 13
    · rw [if_pos k13] at h
      rw [if_neg (by omega), if_neg (by omega), if_neg k1, if_neg k2', if_neg k3, if_neg k5, if_neg (by omega), if_neg (by omega), if_neg (by omega), if_neg (by omega), if_neg k12, if_pos k13] at hl ⊢
      split at h
      · rename_i hb
        rw [Bool.and_eq_true, Bool.and_eq_true, decide_eq_true_eq, decide_eq_true_eq] at hb
        exact write_back m0 k13 (by omega) (by omega) w0 w hV B b acc v hR hE hl
      · cases h
    rw [if_neg k13] at h
    by_cases k8 : n.f0 = 8
    · rw [if_pos k8] at h
      rw [if_neg (by omega), if_neg (by omega), if_neg k1, if_neg k2', if_neg k3, if_neg k5, if_pos k8] at hl ⊢
      split at h
      · rename_i hb
        simp only [Bool.and_eq_true, Bool.or_eq_true, decide_eq_true_eq, beq_iff_eq] at hb
        obtain ⟨m, hm, -, -, -, hp⟩ := repK_ok res h
        have h0 : 0 < n.f7.length := by rw [hm]; simp
        have hm0 : n.f7[0]'h0 = m := by simp [hm]
        rw [show headW n.f7 = writeN m by rw [hm, headW_cons]] at hl ⊢
        exact write_repeat m0 k8 m h0 hm0 (kid m (by rw [hm]; simp) ⟨d, c, c', hd, hc, .inl hp⟩) hb.1.1.1.1.2 hb.1.1.1.2 hb.1.1.2 hb.1.2 hb.2 w0 w hV B b acc v hR hE hl
      · cases h
    rw [if_neg k8] at h
    by_cases k9 : n.f0 = 9
    · rw [if_pos k9] at h
      rw [if_neg (by omega), if_neg (by omega), if_neg k1, if_neg k2', if_neg k3, if_neg k5, if_neg k8, if_pos k9] at hl ⊢
      split at h
      · cases hgs : groupS n.f2 n.f5 c with
        | none => rw [hgs] at h; cases h
        | some c1 =>
          rw [hgs] at h
          obtain ⟨m, hm, hdl, hp⟩ := withK_ok res h
          have hc1 := (groupS_ok hgs hc).2
          have h0 : 0 < n.f7.length := by rw [hm]; simp
          have hm0 : n.f7[0]'h0 = m := by simp [hm]
          have hW := kid m (by rw [hm]; simp) ⟨d + 1, c1, c', by omega, hc1, .inr (.inr hp)⟩
          rw [show headW n.f7 = writeN m by rw [hm, headW_cons]] at hl ⊢
          by_cases ha : n.f2 = 0
          · rw [if_pos ha] at hl ⊢
            exact write_group0 m0 k9 m h0 hm0 hW ha w0 w hV B b acc v hR hE hl
          · rw [if_neg ha] at hl ⊢
            by_cases hnm : n.f5 = e0
            · rw [if_pos hnm] at hl ⊢
              exact write_group1 m0 k9 m h0 hm0 hW ha hnm w0 w hV B b acc v hR hE hl
            · rw [if_neg hnm] at hl ⊢
              exact write_group2 m0 k9 m h0 hm0 hW ha hnm w0 w hV B b acc v hR hE hl
      · cases h
    rw [if_neg k9] at h
    by_cases k10 : n.f0 = 10
    · rw [if_pos k10] at h
      rw [if_neg (by omega), if_neg (by omega), if_neg k1, if_neg k2', if_neg k3, if_neg k5, if_neg k8, if_neg k9, if_pos k10] at hl ⊢
      split at h
      · rename_i hb
        rw [Bool.and_eq_true, Bool.and_eq_true, decide_eq_true_eq, decide_eq_true_eq] at hb
        obtain ⟨m, hm, hdl, hp⟩ := withK_ok res h
        have h0 : 0 < n.f7.length := by rw [hm]; simp
        have hm0 : n.f7[0]'h0 = m := by simp [hm]
        rw [show headW n.f7 = writeN m by rw [hm, headW_cons]] at hl ⊢
        exact write_look m0 k10 m h0 hm0 (kid m (by rw [hm]; simp) ⟨d + 1, c, c', by omega, hc, .inr (.inr hp)⟩) hb.1.2 hb.2 w0 w hV B b acc v hR hE hl
      · cases h
    rw [if_neg k10] at h
    by_cases k11 : n.f0 = 11
    · rw [if_pos k11] at h
      rw [if_neg (by omega), if_neg (by omega), if_neg k1, if_neg k2', if_neg k3, if_neg k5, if_neg k8, if_neg k9, if_neg k10, if_pos k11] at hl ⊢
      split at h
      · obtain ⟨m, hm, hdl, hp⟩ := withK_ok res h
        have h0 : 0 < n.f7.length := by rw [hm]; simp
        have hm0 : n.f7[0]'h0 = m := by simp [hm]
        rw [show headW n.f7 = writeN m by rw [hm, headW_cons]] at hl ⊢
        exact write_atomic m0 k11 m h0 hm0 (kid m (by rw [hm]; simp) ⟨d + 1, c, c', by omega, hc, .inr (.inr hp)⟩) w0 w hV B b acc v hR hE hl
      · cases h
    rw [if_neg k11] at h
    cases h
end

end Go.Proofs.YtkipjalfgdfaiaaGreatDoor
namespace Go.Proofs.YtkipjalfgdfaiaaGreatDoor
set_option linter.unusedVariables false
set_option linter.unusedSimpArgs false
open Go.RowKit Go.Proofs.YtkipjalfgdfaiaaGreatDoorW.PrintWords Go.Proofs.YtkipjalfgdfaiaaGreatDoorW.PrintLast Go.Proofs.YtkipjalfgdfaiaaGreatDoorW.PrintMore Go.Proofs.YtkipjalfgdfaiaaGreatDoor.PTk

set_option maxHeartbeats 4000000 in
set_option maxRecDepth 100000 in
theorem canc_wrong (fb : Nat) (x : Bool) (older : List PanicEntry) (w : World) (hb : w.heap[fb]? = some (.cells #[.bool x] 4 (0, 0))) :
    CallsD Tryz.prog 30 #[.pointer (some ⟨fb, 0, none⟩)] (.panicking ({ v := .iface 65 (.agg #[]), recovered := false } :: older)) w fun e u' w' =>
      e = .returned (.tuple #[]) ∧ u' = .panicking ({ v := .iface 65 (.agg #[]), recovered := true } :: older) ∧ w'.heap[fb]? = some (.cells #[.bool false] 4 (0, 0)) ∧ But (· = fb) w w' := by
  have c0 := rowc hb 0 _ rfl
  have f0 := blk_frozen hb 0
  refine callsD_of_wpS Tryz.func30 rfl fun c₀ cs hu => ?_
  have hta : ∀ W : World, (Instr.typeAssert (.iface 65 (.agg #[])) 20 65 true).run Tryz.prog W = .ok (.tuple #[.agg #[], .bool true]) W := fun W => by kernel_rfl
  have HB : Aside0 (But (· = fb) w (w.setCell ⟨fb, 0, none⟩ (.bool false))) := ⟨But.set (ex := (· = fb)) (But.refl _ _) fb 0 rfl _⟩
  have HB2 : Aside0 ((w.setCell ⟨fb, 0, none⟩ (.bool false)).heap[fb]? = some (.cells #[.bool false] 4 (0, 0))) := ⟨blk_put hb 0 _ rfl⟩
  show Code.wpS _ _ _ { tmps := #[.pointer (some ⟨fb, 0, none⟩), undef, undef, undef, undef, undef, undef, undef, undef], defers := [] } _ _
  apply wpS_seq
  apply wpS_region
  simp [hta, wpOpsS, go_sem, recoverD, hu, Tryz.ntmps30, Exit.thenS, c0, f0]
  refine wpS_of_wp ?_
  have hb2 : (w.alloc (.cells #[] 65)).heap[fb]? = some (.cells #[.bool x] 4 (0, 0)) := ((below_alloc (Below.refl w.heap.size w) _).block fb (by exact (Array.getElem?_eq_some_iff.1 hb).1)).trans hb
  have hB : But (· = fb) w (w.alloc (.cells #[] 65)) := But.of_below (below_alloc (Below.refl _ _) _)
  obtain ⟨wx, hwx⟩ : ∃ wx, w.alloc (.cells #[] 65) = wx := ⟨_, rfl⟩
  rw [hwx] at hb2 hB
  rw [hwx]
  have HX := Aside0.mk hB
  have HX2 := Aside0.mk hb2
  have HU := Aside0.mk hu
  have e0 := rowc hb2 0 _ rfl
  have g0 := blk_frozen hb2 0
  clear hb2 hB hwx hta c0 f0 hb hu HB HB2
  go_wp2
  exact ⟨rfl, _, rfl, .tuple #[], by simp [results, Tryz.results30, go_sem], rfl, rfl, blk_put HX2.out 0 _ rfl, But.set (ex := (· = fb)) HX.out fb 0 rfl _⟩
set_option maxHeartbeats 4000000 in
set_option maxRecDepth 100000 in
theorem canc_none (fb : Nat) (w : World) :
    CallsD Tryz.prog 30 #[.pointer (some ⟨fb, 0, none⟩)] .returning w fun e u' w' =>
      e = .returned (.tuple #[]) ∧ u' = .returning ∧ Below w.heap.size w w' := by
  refine callsD_of_wpS Tryz.func30 rfl fun c₀ cs hu => ?_
  have hta : ∀ W : World, (Instr.typeAssert .nilIface 20 65 true).run Tryz.prog W = .ok (.tuple #[.agg #[], .bool false]) W := fun W => by kernel_rfl
  show Code.wpS _ _ _ { tmps := #[.pointer (some ⟨fb, 0, none⟩), undef, undef, undef, undef, undef, undef, undef, undef], defers := [] } _ _
  apply wpS_seq
  apply wpS_region
  simp [hta, wpOpsS, go_sem, recoverD, hu, Tryz.ntmps30, Exit.thenS]
  refine wpS_of_wp ?_
  have hB : Below w.heap.size w (w.alloc (.cells #[] 65)) := below_alloc (Below.refl _ _) _
  obtain ⟨wx, hwx⟩ : ∃ wx, w.alloc (.cells #[] 65) = wx := ⟨_, rfl⟩
  rw [hwx] at hB
  rw [hwx]
  have HB := Aside0.mk hB
  have HU := Aside0.mk hu
  clear hB hwx hta hu
  go_wp2
  refine ⟨rfl, .returning, ?_, .tuple #[], by simp [results, Tryz.results30, go_sem], rfl, rfl, HB.out⟩
  rw [← HU.out]
/-- A result that lies in a variable of one cell. -/
theorem results_c {fn : Func} {p : Tmp} (h : fn.results = #[.cell p 4]) (tmps : Array Value) (w : World) (g : Nat) (x : Bool) (hp : tmps.getD p undef = .pointer (some ⟨g, 0, none⟩)) (hc : w.cell? ⟨g, 0, none⟩ = some (.bool x)) :
    (results fn tmps).run Tryz.prog w = .ok (.bool x) w := by
  have hp' : tmps[p]?.getD undef = .pointer (some ⟨g, 0, none⟩) := by simpa using hp
  simp [results, h, hp', asAddr, go_sem, hc, Tryz.isAgg4]
set_option maxHeartbeats 16000000 in
set_option maxRecDepth 100000 in
theorem can_any (b : ByteArray) (hal : AliasIs b) (hsh : ShortOk (resolveL (rowsB b))) (m0 : Int) {n : Nd} (hw : weightN n ≤ 2147483648) (w : World) (v : Value) (h : RdN w n v) (hv : WVars w m0) :
    Calls Tryz.prog 16 #[v] w fun e w' => e = .returned (.bool (canN (resolveL (rowsB b)) n)) ∧ Below w.heap.size w w' := by
  have hmf : ∀ (fn : Fn) (first cap : Array Value) (w : World), (Instr.makeFunc fn first cap).run Tryz.prog w = .ok (.func fn first cap) w := fun _ _ _ _ => rfl
  have hmk : ∀ W : World, (Instr.makeMap 68 none).run Tryz.prog W = .ok (.map (some W.heap.size)) (W.alloc (.map #[] 0)) := fun W => by kernel_rfl
  have HBODY := Aside0.mk (fun W g mb (E : Env w W m0 g mb (0, [])) => (check_any b hal m0 n hw).2.1 0 (0, []) w W g mb v h E (by omega))
  have HWRITE := Aside0.mk (fun (hvl : Vld (resolveL (rowsB b)) n) W B b' (E : Ew w W B b' []) => write_any hsh m0 n hw hvl w W B b' [] v hv h E (by have := (write_len.1 n).1; simp; omega))
  have HV := Aside0.mk hv
  obtain ⟨A6, c6, A7, c7, e, -, -, -, -⟩ := h
  subst e
  have hx1 : ((((w.alloc (.cells #[.int .i64 n.f0, .int .i64 n.f1, .int .i64 n.f2, .int .i64 n.f3, .bool n.f4, .string n.f5, .slice A6 n.f6.length c6, .slice A7 n.f7.length c7] 25)).alloc (.cells #[.bool false] 4)).alloc (.map #[] 0)).alloc (.cells #[.int .i64 0, .map (some (w.heap.size + 1 + 1))] 70)).heap[w.heap.size + 1]? = some (.cells #[.bool false] 4 (0, 0)) := blk_alloc (blk_alloc (by have := heap_alloc_new (w.alloc (.cells #[.int .i64 n.f0, .int .i64 n.f1, .int .i64 n.f2, .int .i64 n.f3, .bool n.f4, .string n.f5, .slice A6 n.f6.length c6, .slice A7 n.f7.length c7] 25)) (.cells #[.bool false] 4); rw [show (w.alloc (.cells #[.int .i64 n.f0, .int .i64 n.f1, .int .i64 n.f2, .int .i64 n.f3, .bool n.f4, .string n.f5, .slice A6 n.f6.length c6, .slice A7 n.f7.length c7] 25)).heap.size = w.heap.size + 1 by simp] at this; exact this) _) _
  have hx0 : ((((w.alloc (.cells #[.int .i64 n.f0, .int .i64 n.f1, .int .i64 n.f2, .int .i64 n.f3, .bool n.f4, .string n.f5, .slice A6 n.f6.length c6, .slice A7 n.f7.length c7] 25)).alloc (.cells #[.bool false] 4)).alloc (.map #[] 0)).alloc (.cells #[.int .i64 0, .map (some (w.heap.size + 1 + 1))] 70)).heap[w.heap.size]? = some (.cells #[.int .i64 n.f0, .int .i64 n.f1, .int .i64 n.f2, .int .i64 n.f3, .bool n.f4, .string n.f5, .slice A6 n.f6.length c6, .slice A7 n.f7.length c7] 25 (0, 0)) := blk_alloc (blk_alloc (blk_alloc (heap_alloc_new w (.cells #[.int .i64 n.f0, .int .i64 n.f1, .int .i64 n.f2, .int .i64 n.f3, .bool n.f4, .string n.f5, .slice A6 n.f6.length c6, .slice A7 n.f7.length c7] 25)) _) _) _
  have hbl : Below w.heap.size w ((((w.alloc (.cells #[.int .i64 n.f0, .int .i64 n.f1, .int .i64 n.f2, .int .i64 n.f3, .bool n.f4, .string n.f5, .slice A6 n.f6.length c6, .slice A7 n.f7.length c7] 25)).alloc (.cells #[.bool false] 4)).alloc (.map #[] 0)).alloc (.cells #[.int .i64 0, .map (some (w.heap.size + 1 + 1))] 70)) := below_alloc (below_alloc (below_alloc (below_alloc (Below.refl _ _) _) _) _) _
  have hck : Chk ((((w.alloc (.cells #[.int .i64 n.f0, .int .i64 n.f1, .int .i64 n.f2, .int .i64 n.f3, .bool n.f4, .string n.f5, .slice A6 n.f6.length c6, .slice A7 n.f7.length c7] 25)).alloc (.cells #[.bool false] 4)).alloc (.map #[] 0)).alloc (.cells #[.int .i64 0, .map (some (w.heap.size + 1 + 1))] 70)) (w.heap.size + 1 + 1 + 1) (w.heap.size + 1 + 1) (0, []) := by
    refine ⟨?_, ?_, Nat.zero_le _⟩
    · have := heap_alloc_new (((w.alloc (.cells #[.int .i64 n.f0, .int .i64 n.f1, .int .i64 n.f2, .int .i64 n.f3, .bool n.f4, .string n.f5, .slice A6 n.f6.length c6, .slice A7 n.f7.length c7] 25)).alloc (.cells #[.bool false] 4)).alloc (.map #[] 0)) (.cells #[.int .i64 0, .map (some (w.heap.size + 1 + 1))] 70)
      rw [show (((w.alloc (.cells #[.int .i64 n.f0, .int .i64 n.f1, .int .i64 n.f2, .int .i64 n.f3, .bool n.f4, .string n.f5, .slice A6 n.f6.length c6, .slice A7 n.f7.length c7] 25)).alloc (.cells #[.bool false] 4)).alloc (.map #[] 0)).heap.size = w.heap.size + 1 + 1 + 1 by simp] at this
      exact this
    · have := SetF.made Tryz.prog 9 4 ((w.alloc (.cells #[.int .i64 n.f0, .int .i64 n.f1, .int .i64 n.f2, .int .i64 n.f3, .bool n.f4, .string n.f5, .slice A6 n.f6.length c6, .slice A7 n.f7.length c7] 25)).alloc (.cells #[.bool false] 4))
      rw [show ((w.alloc (.cells #[.int .i64 n.f0, .int .i64 n.f1, .int .i64 n.f2, .int .i64 n.f3, .bool n.f4, .string n.f5, .slice A6 n.f6.length c6, .slice A7 n.f7.length c7] 25)).alloc (.cells #[.bool false] 4)).heap.size = w.heap.size + 1 + 1 by simp] at this
      exact this.below (below_alloc (Below.refl _ _) _)
  have hzs : ((((w.alloc (.cells #[.int .i64 n.f0, .int .i64 n.f1, .int .i64 n.f2, .int .i64 n.f3, .bool n.f4, .string n.f5, .slice A6 n.f6.length c6, .slice A7 n.f7.length c7] 25)).alloc (.cells #[.bool false] 4)).alloc (.map #[] 0)).alloc (.cells #[.int .i64 0, .map (some (w.heap.size + 1 + 1))] 70)).heap.size = w.heap.size + 4 := by simp
  obtain ⟨WA, hWA⟩ : ∃ WA, (((w.alloc (.cells #[.int .i64 n.f0, .int .i64 n.f1, .int .i64 n.f2, .int .i64 n.f3, .bool n.f4, .string n.f5, .slice A6 n.f6.length c6, .slice A7 n.f7.length c7] 25)).alloc (.cells #[.bool false] 4)).alloc (.map #[] 0)).alloc (.cells #[.int .i64 0, .map (some (w.heap.size + 1 + 1))] 70) = WA := ⟨_, rfl⟩
  rw [hWA] at hx1 hx0 hbl hck hzs
  have hE : Env w WA m0 (w.heap.size + 1 + 1 + 1) (w.heap.size + 1 + 1) (0, []) := ⟨hbl, by omega, by omega, hv.tv, hck⟩
  have HB0 := Aside0.mk (HBODY.out WA _ _ hE)
  have HX1 := Aside0.mk hx1
  have HX0 := Aside0.mk hx0
  have HBL := Aside0.mk hbl
  have HZS := Aside0.mk hzs
  have HWA := Aside0.mk hWA
  obtain ⟨R, hR⟩ : ∃ R, bodyN (resolveL (rowsB b)) n 0 (0, []) = R := ⟨_, rfl⟩
  have HR := Aside0.mk hR
  rw [hR] at HB0
  have HCAN : Aside0 (canN (resolveL (rowsB b)) n = (R.isSome && decide ((writeN n).length ≤ 2000))) := ⟨by unfold canN; rw [hR]⟩
  clear hv hal hsh hx1 hx0 hbl hck hzs hE HBODY hR hWA hw
  go_enter_defers Tryz.func16, Tryz.ntmps16
  go_wp2_with fail
  rw [HWA.out]
  refine HB0.out.mono ?_
  intro e w1 hr
  cases R with
  | none =>
    obtain ⟨hb1, rfl⟩ := hr
    have HB1 := Aside0.mk hb1
    have HF1 : Aside0 (w1.heap[w.heap.size + 1]? = some (.cells #[.bool false] 4 (0, 0))) := ⟨(hb1.block _ (by have := HZS.out; omega) (by intro hh; rcases hh with hh | hh <;> omega)).trans HX1.out⟩
    clear hb1
    go_wp2_with fail
    refine leaves_cons (f := 30) (args := #[.pointer (some ⟨w.heap.size + 1, 0, none⟩)]) (by simp) (by simp [go_sem]) ?_
    refine (canc_wrong (w.heap.size + 1) false [] _ HF1.out).mono ?_
    rintro e u' w3 ⟨rfl, rfl, hf3, hB3⟩
    refine ⟨_, results_c rfl _ _ (w.heap.size + 1) false rfl (rowc hf3 0 _ rfl), ?_⟩
    rw [HCAN.out]
    exact ⟨rfl, (HBL.out.trans (HB1.out.below HBL.out.size (fun k hk e => by rcases e with e | e <;> omega))).trans (hB3.below (Nat.le_trans HBL.out.size HB1.out.size) (fun k hk e => by omega))⟩
  | some c' =>
    obtain ⟨hb1, rfl, -⟩ := hr
    have HB1 := Aside0.mk hb1
    have hf1 : w1.heap[w.heap.size + 1]? = some (.cells #[.bool false] 4 (0, 0)) := (hb1.block _ (by have := HZS.out; omega) (by intro hh; rcases hh with hh | hh <;> omega)).trans HX1.out
    have hf0 := (hb1.block w.heap.size (by have := HZS.out; omega) (by intro hh; rcases hh with hh | hh <;> omega)).trans HX0.out
    have HBB : Aside0 (Below w.heap.size w w1) := ⟨HBL.out.trans (HB1.out.below HBL.out.size (fun k hk e => by rcases e with e | e <;> omega))⟩
    have HF1 := Aside0.mk hf1
    have HF0 := Aside0.mk hf0
    have q0 := fun o => rowc (blk_alloc hf0 o) 0 _ rfl
    have q1 := fun o => rowc (blk_alloc hf0 o) 1 _ rfl
    have q2 := fun o => rowc (blk_alloc hf0 o) 2 _ rfl
    have q3 := fun o => rowc (blk_alloc hf0 o) 3 _ rfl
    have q4 := fun o => rowc (blk_alloc hf0 o) 4 _ rfl
    have q5 := fun o => rowc (blk_alloc hf0 o) 5 _ rfl
    have q6 := fun o => rowc (blk_alloc hf0 o) 6 _ rfl
    have q7 := fun o => rowc (blk_alloc hf0 o) 7 _ rfl
    clear hb1 hf1 hf0
    go_wp2_with fail
    have hvl : Vld (resolveL (rowsB b)) n := ⟨0, (0, []), c', by omega, by show 0 ≤ 20; omega, .inr (.inr HR.out)⟩
    have HWR : Aside0 (Wr w1.heap.size w1.heap.size [] (w1.alloc (.cells #[.pointer none, .slice none 0 0] 59))) := ⟨⟨Lib.fresh_isBuilder _ _ w1, by simp⟩⟩
    refine (HWRITE.out hvl _ w1.heap.size w1.heap.size ⟨below_to HBB.out (below_alloc (Below.refl _ _) _), HBB.out.size, HWR.out⟩).mono ?_
    rintro e w2 ⟨rfl, hw2⟩
    have HF2 : Aside0 (w2.heap[w.heap.size + 1]? = some (.cells #[.bool false] 4 (0, 0))) := ⟨(hw2.2.1.block (w.heap.size + 1) (Array.getElem?_eq_some_iff.1 HF1.out).1).trans (blk_alloc HF1.out _)⟩
    have HB2 : Aside0 (Below w.heap.size w w2) := ⟨(below_to HBB.out (below_alloc (Below.refl w1.heap.size w1) _)).trans (hw2.2.1.mono HBB.out.size)⟩
    have HW2 := Aside0.mk hw2.1
    have f0 := blk_frozen HF2.out 0
    have g0 := rowc HF2.out 0 _ rfl
    clear hw2 hvl q0 q1 q2 q3 q4 q5 q6 q7
    go_wp2_with fail
    refine (bld_len _ _ _ _ HW2.out.bld).mono ?_
    rintro e w3 ⟨rfl, rfl⟩
    go_wp2_with fail
    have hdl : decide (((u8L (writeN n)).length : Int) ≤ 2000) = decide ((writeN n).length ≤ 2000) := by
      rw [u8L_length]
      by_cases hh : (writeN n).length ≤ 2000
      · rw [decide_eq_true hh, decide_eq_true (by omega)]
      · rw [decide_eq_false hh, decide_eq_false (by omega)]
    rw [hdl]
    clear hdl
    obtain ⟨x, hx⟩ : ∃ x, decide ((writeN n).length ≤ 2000) = x := ⟨_, rfl⟩
    have HF3 : Aside0 ((w3.setCell ⟨w.heap.size + 1, 0, none⟩ (.bool x)).heap[w.heap.size + 1]? = some (.cells #[.bool x] 4 (0, 0))) := ⟨blk_put HF2.out 0 _ rfl⟩
    have HB3 : Aside0 (Below w.heap.size w (w3.setCell ⟨w.heap.size + 1, 0, none⟩ (.bool x))) := ⟨HB2.out.setCell (p := ⟨w.heap.size + 1, 0, none⟩) (Nat.le_succ _) _⟩
    rw [HCAN.out, hx]
    refine leaves_cons (f := 30) (args := #[.pointer (some ⟨w.heap.size + 1, 0, none⟩)]) (by simp) (by simp [go_sem]) ?_
    refine (canc_none (w.heap.size + 1) _).mono ?_
    rintro e u' w4 ⟨rfl, rfl, hb4⟩
    have hf4 := (hb4.block (w.heap.size + 1) (Array.getElem?_eq_some_iff.1 HF3.out).1).trans HF3.out
    refine ⟨_, results_c rfl _ _ (w.heap.size + 1) x rfl (rowc hf4 0 _ rfl), ?_⟩
    exact ⟨by simp, below_to HB3.out hb4⟩

end Go.Proofs.YtkipjalfgdfaiaaGreatDoor
namespace Go.Proofs.YtkipjalfgdfaiaaGreatDoor
set_option linter.unusedVariables false
set_option linter.unusedSimpArgs false
open Go.RowKit Go.Proofs.YtkipjalfgdfaiaaGreatDoorW.PrintWords Go.Proofs.YtkipjalfgdfaiaaGreatDoor.PTk

/-- Tokens that are left, and names of groups that have begun. -/
abbrev Ps := List Tk × List ByteArray
/-- What comes; or nothing: the tokens end too early, or there is a fault. -/
abbrev Pr (α : Type) := Except (Option (Int × Nat)) α
def thenP {α β : Type} (x : Pr α) (f : α → Pr β) : Pr β := match x with
  | .error e => .error e
  | .ok a => f a
theorem thenP_ok {α β : Type} (a : α) (f : α → Pr β) : thenP (.ok a) f = f a := rfl
def kindP (s : Ps) : Int := match s.1 with
  | [] => 0
  | t :: _ => t.kind
def takeP (s : Ps) : Pr (Tk × Ps) := match s.1 with
  | [] => .error none
  | t :: l => .ok (t, (l, s.2))
abbrev mkN (k m a b : Int) (ng : Bool) (nm : ByteArray) (ks : List Nd) : Nd := ⟨k, m, a, b, ng, nm, [], ks⟩
/-- Where a name stands first; -1: nowhere. -/
def idxP : List ByteArray → ByteArray → Int
  | [], _ => -1
  | x :: l, y => if x = y then 0 else if idxP l y = -1 then -1 else idxP l y + 1
/-- The number of a group that has begun. -/
def backNo (t : Tk) (gs : List ByteArray) : Int := if t.name = e0 then t.a else idxP gs t.name + 1
def backP (t : Tk) (gs : List ByteArray) : Pr Int := if backNo t gs < 1 ∨ (gs.length : Int) < backNo t gs then .error (some (151, t.st)) else .ok (backNo t gs)
/-- The last part, repeated. -/
def repP (t : Tk) (acc : List Nd) : Pr (List Nd) := match acc.getLast? with
  | none => .error (some (133, t.st))
  | some k => if k.f0 = 8 ∨ k.f0 = 10 ∨ k.f0 = 12 then .error (some (150, t.st)) else .ok (acc.dropLast ++ [mkN 8 t.mode t.a t.b false e0 [k]])
def hasNm (gs : List ByteArray) (x : ByteArray) : Bool := gs.any fun y => decide (y = x)
/-- The node that a bracket begins, and the groups behind it. -/
def headP (t : Tk) (gs : List ByteArray) : Pr (Nd × List ByteArray) :=
  if t.mode = 0 ∨ t.mode = 2 then
    if t.name ≠ e0 ∧ hasNm gs t.name = true then .error (some (151, t.st))
    else if 20 ≤ gs.length then .error (some (4, t.st))
    else .ok (mkN 9 0 ((gs.length + 1 : Nat) : Int) 0 false t.name [], gs ++ [t.name])
  else if t.mode = 7 then .ok (mkN 11 0 0 0 false e0 [], gs)
  else if t.mode = 3 ∨ t.mode = 4 ∨ t.mode = 5 ∨ t.mode = 6 then .ok (mkN 10 (t.mode - 3) 0 0 false e0 [], gs)
  else .ok (mkN 9 0 0 0 false e0 [], gs)
def kidsN (n : Nd) (ks : List Nd) : Nd := ⟨n.f0, n.f1, n.f2, n.f3, n.f4, n.f5, n.f6, ks⟩
def negN (n : Nd) (ng : Bool) : Nd := ⟨n.f0, n.f1, n.f2, n.f3, ng, n.f5, n.f6, n.f7⟩
def altP (n : Nd) (l : List Nd) : Nd := match l with
  | [] => n
  | _ => mkN 7 0 0 0 false e0 (n :: l)
mutual
def bodyP : Nat → Nat → Ps → Pr (Nd × Ps)
  | 0, _, _ => .error none
  | f + 1, d, s => thenP (seqP f d s) fun a => thenP (barsP f d a.2) fun b => .ok (altP a.1 b.1, b.2)
def barsP : Nat → Nat → Ps → Pr (List Nd × Ps)
  | 0, _, _ => .error none
  | f + 1, d, s => if kindP s = 5 then thenP (takeP s) fun t => thenP (seqP f d t.2) fun a => thenP (barsP f d a.2) fun b => .ok (a.1 :: b.1, b.2) else .ok ([], s)
def seqP : Nat → Nat → Ps → Pr (Nd × Ps)
  | 0, _, _ => .error none
  | f + 1, d, s => thenP (partsP f d s []) fun b => if d = 0 ∧ kindP b.2 = 4 then thenP (takeP b.2) fun t => .error (some (133, t.1.st)) else .ok (mkN 6 0 0 0 false e0 b.1, b.2)
def partsP : Nat → Nat → Ps → List Nd → Pr (List Nd × Ps)
  | 0, _, _, _ => .error none
  | f + 1, d, s, acc => if kindP s = 0 ∨ kindP s = 5 ∨ kindP s = 4 then .ok (acc, s) else thenP (takeP s) fun t =>
      if t.1.kind = 6 then thenP (repP t.1 acc) fun acc' => partsP f d t.2 acc' else thenP (partP f d t.1 t.2) fun a => partsP f d a.2 (acc ++ [a.1])
def partP : Nat → Nat → Tk → Ps → Pr (Nd × Ps)
  | 0, _, _, _ => .error none
  | f + 1, d, t, s =>
    if t.kind = 1 then .ok (mkN 1 0 t.a 0 false e0 [], s)
    else if t.kind = 2 then .ok (mkN 2 0 0 0 false e0 [], s)
    else if t.kind = 10 then .ok (mkN 14 0 0 0 false e0 [], s)
    else if t.kind = 8 then .ok (mkN 5 0 0 0 t.neg t.name [], s)
    else if t.kind = 7 then .ok (mkN 12 t.mode 0 0 false e0 [], s)
    else if t.kind = 9 then thenP (backP t s.2) fun a => .ok (mkN 13 0 a 0 false e0 [], s)
    else if 50 ≤ d then .error (some (153, t.st))
    else if t.kind = 3 then openP f (d + 1) t s else classP f (d + 1) t s
def openP : Nat → Nat → Tk → Ps → Pr (Nd × Ps)
  | 0, _, _, _ => .error none
  | f + 1, d, t, s => thenP (headP t s.2) fun h => thenP (bodyP f d (s.1, h.2)) fun a => thenP (takeP a.2) fun b => .ok (kidsN h.1 [a.1], b.2)
def classP : Nat → Nat → Tk → Ps → Pr (Nd × Ps)
  | 0, _, _, _ => .error none
  | f + 1, d, t, s => thenP (unionP f d s []) fun a => thenP (setsP f d a.2 a.1) fun b => thenP (takeP b.2) fun c => .ok (negN b.1 t.neg, c.2)
def setsP : Nat → Nat → Ps → Nd → Pr (Nd × Ps)
  | 0, _, _, _ => .error none
  | f + 1, d, s, n => if kindP s = 14 then thenP (takeP s) fun t => thenP (unionP f d t.2 []) fun a => setsP f d a.2 (mkN 3 t.1.mode 0 0 false e0 [n, a.1]) else .ok (n, s)
def unionP : Nat → Nat → Ps → List Nd → Pr (Nd × Ps)
  | 0, _, _, _ => .error none
  | f + 1, d, s, acc => if kindP s = 12 ∨ kindP s = 14 then (match acc with
      | [] => thenP (takeP s) fun t => .error (some (133, t.1.st))
      | _ => .ok (mkN 3 0 0 0 false e0 acc, s))
    else thenP (takeP s) fun t => thenP (memberP f d t.1 t.2) fun a => unionP f d a.2 (acc ++ [a.1])
def memberP : Nat → Nat → Tk → Ps → Pr (Nd × Ps)
  | 0, _, _, _ => .error none
  | f + 1, d, t, s =>
    if t.kind = 8 ∨ t.kind = 11 then partP f d t s
    else if t.kind = 13 then .error (some (133, t.st))
    else if kindP s ≠ 13 then .ok (mkN 1 0 t.a 0 false e0 [], s)
    else thenP (takeP s) fun x => thenP (takeP x.2) fun e =>
      if e.1.kind ≠ 1 then .error (some (133, e.1.st)) else if e.1.a < t.a then .error (some (152, e.1.st)) else .ok (mkN 4 0 t.a e.1.a false e0 [], e.2)
end
/-- A token without its places. -/
def bareT (t : Tk) : Tk := { t with st := 0, en := 0 }
abbrev tk0 (kind mode a b : Int) (name : ByteArray) (neg : Bool) : Tk := { kind := kind, mode := mode, a := a, b := b, name := name, neg := neg, st := 0, en := 0 }
def propT (n : Nd) : List Tk := [tk0 8 0 0 0 n.f5 n.f4]
mutual
def sideT : Nd → List Tk
  | ⟨_, m, _, _, _, _, _, ks⟩ => if m = 0 then membT ks else sidesT ks m
def membT : List Nd → List Tk
  | [] => []
  | n :: ns => (if n.f0 = 1 then [tk0 1 0 n.f2 0 e0 false] else if n.f0 = 4 then [tk0 1 0 n.f2 0 e0 false, tk0 13 0 0 0 e0 false, tk0 1 0 n.f3 0 e0 false] else if n.f0 = 5 then propT n else [tk0 11 0 0 0 e0 n.f4] ++ sideT n ++ [tk0 12 0 0 0 e0 false]) ++ membT ns
def sidesT : List Nd → Int → List Tk
  | [a, b], m => sideT a ++ [tk0 14 m 0 0 e0 false] ++ sideT b
  | _, _ => []
end
def classT (n : Nd) : List Tk := [tk0 11 0 0 0 e0 n.f4] ++ sideT n ++ [tk0 12 0 0 0 e0 false]
mutual
def toksN : Nd → List Tk
  | ⟨k, m, a, b, ng, nm, st, ks⟩ =>
    if k = 6 then toksK ks
    else if k = 7 then altT ks
    else if k = 1 then [tk0 1 0 a 0 e0 false]
    else if k = 2 then [tk0 2 0 0 0 e0 false]
    else if k = 3 then classT ⟨k, m, a, b, ng, nm, st, ks⟩
    else if k = 5 then propT ⟨k, m, a, b, ng, nm, st, ks⟩
    else if k = 8 then headT ks ++ [tk0 6 m a b e0 false]
    else if k = 9 then [if a = 0 then tk0 3 1 0 0 e0 false else if nm = e0 then tk0 3 0 0 0 e0 false else tk0 3 2 0 0 nm false] ++ headT ks ++ [tk0 4 0 0 0 e0 false]
    else if k = 10 then [tk0 3 (m + 3) 0 0 e0 false] ++ headT ks ++ [tk0 4 0 0 0 e0 false]
    else if k = 11 then [tk0 3 7 0 0 e0 false] ++ headT ks ++ [tk0 4 0 0 0 e0 false]
    else if k = 12 then [tk0 7 m 0 0 e0 false]
    else if k = 13 then [tk0 9 0 a 0 e0 false]
    else if k = 14 then [tk0 10 0 0 0 e0 false]
    else []
def toksK : List Nd → List Tk
  | [] => []
  | n :: ns => toksN n ++ toksK ns
def altT : List Nd → List Tk
  | [] => []
  | n :: ns => toksN n ++ barT ns
def barT : List Nd → List Tk
  | [] => []
  | n :: ns => tk0 5 0 0 0 e0 false :: toksN n ++ barT ns
def headT : List Nd → List Tk
  | [] => []
  | n :: _ => toksN n
end
/-- So it comes to with any fuel that is enough. -/
def Evt {α : Type} (F : Nat → Pr α) (r : Pr α) : Prop := ∃ f0, ∀ f, f0 ≤ f → F f = r
theorem Evt.succ {α : Type} {F G : Nat → Pr α} {r : Pr α} (h : Evt G r) (he : ∀ f, F (f + 1) = G f) : Evt F r := by
  obtain ⟨f0, h⟩ := h
  refine ⟨f0 + 1, fun f hf => ?_⟩
  obtain ⟨g, rfl⟩ : ∃ g, f = g + 1 := ⟨f - 1, by omega⟩
  rw [he]
  exact h g (by omega)
theorem Evt.bind {α β : Type} {F : Nat → Pr α} {G : Nat → α → Pr β} {a : α} {r : Pr β} (h : Evt F (.ok a)) (k : Evt (fun f => G f a) r) : Evt (fun f => thenP (F f) (G f)) r := by
  obtain ⟨f0, h⟩ := h
  obtain ⟨f1, k⟩ := k
  refine ⟨max f0 f1, fun f hf => ?_⟩
  simp only
  rw [h f (by omega), thenP_ok]
  exact k f (by omega)
theorem Evt.now {α : Type} (r : Pr α) : Evt (fun _ => r) r := ⟨0, fun _ _ => rfl⟩
theorem Evt.uniq {α : Type} {F : Nat → Pr α} {r r' : Pr α} (h : Evt F r) (k : Evt F r') : r = r' := by
  obtain ⟨f0, h⟩ := h
  obtain ⟨f1, k⟩ := k
  rw [← h (max f0 f1) (by omega), k (max f0 f1) (by omega)]

end Go.Proofs.YtkipjalfgdfaiaaGreatDoor
namespace Go.Proofs.YtkipjalfgdfaiaaGreatDoor
set_option linter.unusedVariables false
set_option linter.unusedSimpArgs false
open Go.RowKit Go.Proofs.YtkipjalfgdfaiaaGreatDoorW.PrintWords Go.Proofs.YtkipjalfgdfaiaaGreatDoor.PTk

section
variable (res : ByteArray → Int × ByteArray × Int)
theorem only_all {n : Nd} {m a b : Int} {ng : Bool} {nm : ByteArray} {k : Nat} (h : onlyB n m a b ng nm k = true) : n.f1 = m ∧ n.f2 = a ∧ n.f3 = b ∧ n.f4 = ng ∧ n.f5 = nm ∧ n.f6 = [] ∧ n.f7.length = k := by
  unfold onlyB at h
  simp only [Bool.and_eq_true, beq_iff_eq, decide_eq_true_eq] at h
  exact ⟨h.1.1.1.1.1.1, h.1.1.1.1.1.2, h.1.1.1.1.2, h.1.1.1.2, h.1.1.2, List.length_eq_zero_iff.1 h.1.2, h.2⟩
theorem node_ext {n m : Nd} (h0 : n.f0 = m.f0) (h1 : n.f1 = m.f1) (h2 : n.f2 = m.f2) (h3 : n.f3 = m.f3) (h4 : n.f4 = m.f4) (h5 : n.f5 = m.f5) (h6 : n.f6 = m.f6) (h7 : n.f7 = m.f7) : n = m := by
  cases n; cases m; simp only at h0 h1 h2 h3 h4 h5 h6 h7; subst h0 h1 h2 h3 h4 h5 h6 h7; rfl
theorem only_mk {n : Nd} {k m a b : Int} {ng : Bool} {nm : ByteArray} (hk : n.f0 = k) (h : onlyB n m a b ng nm n.f7.length = true) : mkN k m a b ng nm n.f7 = n := by
  have := only_all h
  exact node_ext hk.symm this.1.symm this.2.1.symm this.2.2.1.symm this.2.2.2.1.symm this.2.2.2.2.1.symm this.2.2.2.2.2.1.symm rfl
theorem only_leaf {n : Nd} {k m a b : Int} {ng : Bool} {nm : ByteArray} (hk : n.f0 = k) (h : onlyB n m a b ng nm 0 = true) : mkN k m a b ng nm [] = n := by
  have := only_all h
  exact node_ext hk.symm this.1.symm this.2.1.symm this.2.2.1.symm this.2.2.2.1.symm this.2.2.2.2.1.symm this.2.2.2.2.2.1.symm (List.length_eq_zero_iff.1 this.2.2.2.2.2.2).symm
theorem bare_cons {L : List Tk} {t : Tk} {r : List Tk} (h : L.map bareT = t :: r) : ∃ x l, L = x :: l ∧ bareT x = t ∧ l.map bareT = r := by
  cases L with
  | nil => cases h
  | cons x l => exact ⟨x, l, rfl, (List.cons.inj h).1, (List.cons.inj h).2⟩
theorem bare_kind {x : Tk} {k m a b : Int} {nm : ByteArray} {ng : Bool} (h : bareT x = tk0 k m a b nm ng) : x.kind = k ∧ x.mode = m ∧ x.a = a ∧ x.b = b ∧ x.name = nm ∧ x.neg = ng := by
  unfold bareT at h
  cases x
  simp only [Tk.mk.injEq] at h
  exact ⟨h.1, h.2.1, h.2.2.1, h.2.2.2.1, h.2.2.2.2.1, h.2.2.2.2.2.1⟩
def headK (l : List Tk) : Int := match l with
  | [] => 0
  | t :: _ => t.kind
theorem kind_bare {L : List Tk} {gs : List ByteArray} {r : List Tk} (h : L.map bareT = r) : kindP (L, gs) = headK r := by
  subst h
  cases L <;> rfl
theorem take_cons (x : Tk) (l : List Tk) (gs : List ByteArray) : takeP (x :: l, gs) = .ok (x, (l, gs)) := rfl
theorem sideT_eq (n : Nd) : sideT n = if n.f1 = 0 then membT n.f7 else sidesT n.f7 n.f1 := by cases n; rw [sideT]
theorem membT_nil : membT [] = [] := by rw [membT]
def memT (n : Nd) : List Tk := if n.f0 = 1 then [tk0 1 0 n.f2 0 e0 false] else if n.f0 = 4 then [tk0 1 0 n.f2 0 e0 false, tk0 13 0 0 0 e0 false, tk0 1 0 n.f3 0 e0 false] else if n.f0 = 5 then propT n else classT n
theorem membT_cons (n : Nd) (ns : List Nd) : membT (n :: ns) = memT n ++ membT ns := by rw [membT]; rfl
theorem memT_head (n : Nd) (r : List Tk) : ∃ t l, memT n ++ r = t :: l ∧ t.kind ≠ 12 ∧ t.kind ≠ 13 ∧ t.kind ≠ 14 := by
  unfold memT propT classT
  by_cases h1 : n.f0 = 1
  · rw [if_pos h1]; exact ⟨_, _, rfl, by simp⟩
  rw [if_neg h1]
  by_cases h4 : n.f0 = 4
  · rw [if_pos h4]; exact ⟨_, _, rfl, by simp⟩
  rw [if_neg h4]
  by_cases h5 : n.f0 = 5
  · rw [if_pos h5]; exact ⟨_, _, rfl, by simp⟩
  rw [if_neg h5]
  exact ⟨_, _, rfl, by simp⟩
theorem membT_head (ns : List Nd) (r : List Tk) (hr : headK r ≠ 13) : headK (membT ns ++ r) ≠ 13 := by
  cases ns with
  | nil => rw [membT_nil]; exact hr
  | cons n ns =>
    rw [membT_cons, List.append_assoc]
    obtain ⟨t, l, e, h⟩ := memT_head n (membT ns ++ r)
    rw [e]
    exact h.2.1
theorem parseClass_tok {f d : Nat} {t : Tk} {s : Ps} (h11 : t.kind = 11) (hd : d < 50) : partP (f + 1) d t s = classP f (d + 1) t s := by
  rw [partP, if_neg (by omega), if_neg (by omega), if_neg (by omega), if_neg (by omega), if_neg (by omega), if_neg (by omega), if_neg (by omega), if_neg (by omega)]
/-- What a class's tokens come to. -/
abbrev SideB (n : Nd) : Prop := ∀ d L gs rest, classN res n d = true → L.map bareT = sideT n ++ rest → headK rest = 12 ∨ headK rest = 14 →
  ∃ l', l'.map bareT = rest ∧ ∀ r, Evt (fun f => setsP f d (l', gs) (negN n false)) r → Evt (fun f => thenP (unionP f d (L, gs) []) fun a => setsP f d a.2 a.1) r
theorem evt_le {α : Type} {F : Nat → Pr α} {r : Pr α} (h : Evt (fun f => F (f + 1)) r) : Evt F r := by
  obtain ⟨f0, h⟩ := h
  refine ⟨f0 + 1, fun f hf => ?_⟩
  obtain ⟨g, rfl⟩ : ∃ g, f = g + 1 := ⟨f - 1, by omega⟩
  exact h g (by omega)
theorem negN_back {n : Nd} : negN (negN n false) n.f4 = n := by cases n; rfl
theorem class_of_side {n : Nd} (hS : SideB res n) {d : Nat} {x : Tk} {L : List Tk} {gs : List ByteArray} {rest : List Tk} (hc : classN res n d = true) (hx : x.neg = n.f4) (h : L.map bareT = sideT n ++ tk0 12 0 0 0 e0 false :: rest) :
    ∃ l', l'.map bareT = rest ∧ Evt (fun f => classP f d x (L, gs)) (.ok (n, (l', gs))) := by
  obtain ⟨l1, h1, k1⟩ := hS d L gs (tk0 12 0 0 0 e0 false :: rest) hc h (.inl rfl)
  obtain ⟨y, l2, rfl, hy, h2⟩ := bare_cons h1
  refine ⟨l2, h2, ?_⟩
  have hy' := bare_kind hy
  have e1 : Evt (fun f => setsP f d (y :: l2, gs) (negN n false)) (.ok (negN n false, (y :: l2, gs))) := by
    refine Evt.succ (G := fun _ => .ok (negN n false, (y :: l2, gs))) (Evt.now _) (fun f => ?_)
    rw [setsP, if_neg (by show ¬ y.kind = 14; omega)]
  have e2 := k1 _ e1
  refine Evt.succ (G := fun f => thenP (thenP (unionP f d (L, gs) []) fun a => setsP f d a.2 a.1) fun b => thenP (takeP b.2) fun c => .ok (negN b.1 x.neg, c.2)) (Evt.bind e2 ?_) (fun f => ?_)
  · rw [take_cons]
    simp only [thenP_ok]
    rw [hx, negN_back]
    exact Evt.now _
  · rw [classP]
    cases unionP f d (L, gs) [] with
    | error e => rfl
    | ok a => simp only [thenP_ok]
theorem member_back {n : Nd} (hS : SideB res n) {d : Nat} {L : List Tk} {gs : List ByteArray} {rest : List Tk} (hd : d ≤ 50) (hm : (if n.f0 = 1 then onlyB n 0 n.f2 0 false e0 0 && runeB n.f2
      else if n.f0 = 4 then onlyB n 0 n.f2 n.f3 false e0 0 && runeB n.f2 && runeB n.f3 && decide (n.f2 ≤ n.f3)
      else if n.f0 = 5 then propN res n
      else classN res n (d + 1)) = true) (h : L.map bareT = memT n ++ rest) (hr : headK rest ≠ 13) :
    ∃ x l l', L = x :: l ∧ x.kind ≠ 12 ∧ x.kind ≠ 14 ∧ l'.map bareT = rest ∧ Evt (fun f => memberP f d x (l, gs)) (.ok (n, (l', gs))) := by
  unfold memT at h
  by_cases h1 : n.f0 = 1
  · rw [if_pos h1] at hm h
    simp only [Bool.and_eq_true] at hm
    obtain ⟨x, l, rfl, hx, hl⟩ := bare_cons h
    have hx' := bare_kind hx
    refine ⟨x, l, l, rfl, by omega, by omega, hl, Evt.succ (G := fun _ => .ok (n, (l, gs))) (Evt.now _) (fun f => ?_)⟩
    rw [memberP, if_neg (by omega), if_neg (by omega), if_pos (by rw [kind_bare hl]; exact hr), hx'.2.2.1, only_leaf h1 hm.1]
  rw [if_neg h1] at hm h
  by_cases h4 : n.f0 = 4
  · rw [if_pos h4] at hm h
    simp only [Bool.and_eq_true, decide_eq_true_eq] at hm
    obtain ⟨x, l, rfl, hx, hl⟩ := bare_cons h
    obtain ⟨y, l2, rfl, hy, hl2⟩ := bare_cons hl
    obtain ⟨z, l3, rfl, hz, hl3⟩ := bare_cons hl2
    have hx' := bare_kind hx
    have hy' := bare_kind hy
    have hz' := bare_kind hz
    refine ⟨x, _, l3, rfl, by omega, by omega, hl3, Evt.succ (G := fun _ => .ok (n, (l3, gs))) (Evt.now _) (fun f => ?_)⟩
    rw [memberP, if_neg (by omega), if_neg (by omega), if_neg (by show ¬ y.kind ≠ 13; omega), take_cons, thenP_ok]
    simp only
    rw [take_cons, thenP_ok]
    simp only
    rw [if_neg (by omega), if_neg (by omega), hx'.2.2.1, hz'.2.2.1, only_leaf h4 hm.1.1.1]
  rw [if_neg h4] at hm h
  by_cases h5 : n.f0 = 5
  · rw [if_pos h5] at hm h
    unfold propN at hm
    simp only [Bool.and_eq_true] at hm
    unfold propT at h
    obtain ⟨x, l, rfl, hx, hl⟩ := bare_cons h
    have hx' := bare_kind hx
    refine ⟨x, l, l, rfl, by omega, by omega, hl, evt_le (Evt.succ (G := fun _ => .ok (n, (l, gs))) (Evt.now _) (fun f => ?_))⟩
    rw [memberP, if_pos (by omega), partP, if_neg (by omega), if_neg (by omega), if_neg (by omega), if_pos (by omega), hx'.2.2.2.2.1, hx'.2.2.2.2.2, only_leaf h5 hm.1]
  rw [if_neg h5] at hm h
  unfold classT at h
  simp only [List.cons_append, List.nil_append, List.append_assoc] at h
  obtain ⟨x, l, rfl, hx, hl⟩ := bare_cons h
  have hx' := bare_kind hx
  have hcd : d + 1 ≤ 50 := by
    rw [classN_eq] at hm
    simp only [Bool.and_eq_true, decide_eq_true_eq] at hm
    exact hm.1.1.2
  obtain ⟨l', hl', k⟩ := class_of_side res hS (gs := gs) hm hx'.2.2.2.2.2 hl
  refine ⟨x, l, l', rfl, by omega, by omega, hl', Evt.succ (G := fun f => partP f d x (l, gs)) (Evt.succ (G := fun f => classP f (d + 1) x (l, gs)) k (fun f => parseClass_tok (by omega) (by omega))) (fun f => ?_)⟩
  rw [memberP, if_pos (by omega)]
theorem union_back {d : Nat} {gs : List ByteArray} {rest : List Tk} (hd : d ≤ 50) (hr : headK rest = 12 ∨ headK rest = 14) : ∀ (ns : List Nd), (∀ m ∈ ns, SideB res m) → membK res ns d = true → ∀ (L : List Tk) (acc : List Nd), L.map bareT = membT ns ++ rest → acc ++ ns ≠ [] →
    ∃ l', l'.map bareT = rest ∧ Evt (fun f => unionP f d (L, gs) acc) (.ok (mkN 3 0 0 0 false e0 (acc ++ ns), (l', gs)))
  | [], _, _, L, acc, h, ha => by
    rw [membT_nil, List.nil_append] at h
    refine ⟨L, h, ?_⟩
    rw [List.append_nil] at ha ⊢
    cases acc with
    | nil => exact absurd rfl ha
    | cons a l2 =>
      refine Evt.succ (G := fun _ => .ok (mkN 3 0 0 0 false e0 (a :: l2), (L, gs))) (Evt.now _) (fun f => ?_)
      rw [unionP, if_pos (by rw [kind_bare h]; exact hr)]
      intro hh; cases hh
  | m :: ms, hS, hk, L, acc, h, ha => by
    rw [membK_cons, Bool.and_eq_true] at hk
    rw [membT_cons, List.append_assoc] at h
    obtain ⟨x, l, l1, rfl, g1, g2, hl1, k1⟩ := member_back res (hS m List.mem_cons_self) (gs := gs) hd hk.1 h (membT_head ms rest (by omega))
    obtain ⟨l', hl', k2⟩ := union_back hd hr ms (fun y hy => hS y (List.mem_cons_of_mem _ hy)) hk.2 l1 (acc ++ [m]) hl1 (by simp)
    refine ⟨l', hl', ?_⟩
    rw [List.append_assoc] at k2
    refine Evt.succ (G := fun f => thenP (memberP f d x (l, gs)) fun a => unionP f d a.2 (acc ++ [a.1])) (Evt.bind k1 k2) (fun f => ?_)
    rw [unionP.eq_def]
    simp only
    rw [if_neg (by show ¬ (x.kind = 12 ∨ x.kind = 14); omega), take_cons, thenP_ok]
theorem side_step {n : Nd} (ih : ∀ m ∈ n.f7, SideB res m) (ih2 : ∀ m ∈ n.f7, ∀ k ∈ m.f7, SideB res k) : SideB res n := by
  intro d L gs rest hc h hr
  have hc' := hc
  rw [classN_eq, Bool.and_eq_true, Bool.and_eq_true, Bool.and_eq_true, beq_iff_eq, decide_eq_true_eq] at hc
  obtain ⟨⟨⟨hk, hd⟩, ho⟩, hc⟩ := hc
  have hoa := only_all ho
  rw [sideT_eq] at h
  by_cases hm : n.f1 = 0
  · rw [if_pos hm] at hc h
    rw [Bool.and_eq_true] at hc
    obtain ⟨l', hl', k⟩ := union_back res (gs := gs) hd hr n.f7 ih hc.2 L [] h (by intro e; rw [List.nil_append] at e; rw [e] at hc; simp at hc)
    refine ⟨l', hl', fun r hR => Evt.bind k ?_⟩
    have e : negN n false = mkN 3 0 0 0 false e0 ([] ++ n.f7) := node_ext hk hm hoa.2.1 hoa.2.2.1 rfl hoa.2.2.2.2.1 hoa.2.2.2.2.2.1 rfl
    rw [← e]
    exact hR
  · rw [if_neg hm] at hc h
    rw [Bool.and_eq_true, Bool.and_eq_true, decide_eq_true_eq, decide_eq_true_eq] at hc
    obtain ⟨a, b, hab, ha4, hb4, hb1, hca, hcb⟩ := sidesK_ok res hc.2
    rw [hab] at h ih ih2
    rw [sidesT, List.append_assoc, List.append_assoc] at h
    obtain ⟨l1, hl1, k1⟩ := ih a (by simp) d L gs _ hca h (.inr rfl)
    obtain ⟨x, l2, rfl, hx, hl2⟩ := bare_cons hl1
    have hx' := bare_kind hx
    have hcb' := hcb
    rw [classN_eq, Bool.and_eq_true, Bool.and_eq_true, Bool.and_eq_true, beq_iff_eq, decide_eq_true_eq, if_pos hb1, Bool.and_eq_true] at hcb'
    obtain ⟨⟨⟨hbk, -⟩, hbo⟩, hbm⟩ := hcb'
    have hboa := only_all hbo
    rw [sideT_eq, if_pos hb1] at hl2
    have ihb := ih2 b (by simp)
    obtain ⟨l', hl', k2⟩ := union_back res (gs := gs) hd hr b.f7 ihb hbm.2 l2 [] hl2 (by intro e; rw [List.nil_append] at e; rw [e] at hbm; simp at hbm)
    refine ⟨l', hl', fun r hR => k1 r ?_⟩
    have ea : negN a false = a := by cases a; simp only at ha4; subst ha4; rfl
    have eb : mkN 3 0 0 0 false e0 ([] ++ b.f7) = b := (node_ext (n := b) (m := mkN 3 0 0 0 false e0 ([] ++ b.f7)) hbk hb1 hboa.2.1 hboa.2.2.1 hb4 hboa.2.2.2.2.1 hboa.2.2.2.2.2.1 rfl).symm
    rw [eb] at k2
    rw [ea]
    refine Evt.succ (G := fun f => thenP (unionP f d (l2, gs) []) fun c => setsP f d c.2 (mkN 3 x.mode 0 0 false e0 [a, c.1])) (Evt.bind k2 ?_) (fun f => ?_)
    · have e : mkN 3 x.mode 0 0 false e0 [a, b] = negN n false := (node_ext (n := negN n false) (m := mkN 3 x.mode 0 0 false e0 [a, b]) hk (by rw [hx'.2.1]; rfl) hoa.2.1 hoa.2.2.1 rfl hoa.2.2.2.2.1 hoa.2.2.2.2.2.1 hab).symm
      simp only
      rw [e]
      exact hR
    · rw [setsP, if_pos (by show x.kind = 14; omega), take_cons, thenP_ok]
theorem side_all : ∀ n : Nd, SideB res n ∧ ∀ m ∈ n.f7, SideB res m := by
  refine (Nd.ind (Q := fun ns => ∀ m ∈ ns, SideB res m ∧ ∀ k ∈ m.f7, SideB res k) ?_ (fun _ hm => by cases hm) (fun n ns hn hns m hm => by rcases List.mem_cons.1 hm with e | e; rw [e]; exact hn; exact hns m e)).1
  intro n ih
  exact ⟨side_step res (fun m hm => (ih m hm).1) (fun m hm => (ih m hm).2), fun m hm => (ih m hm).1⟩

/-- The groups that the check has met are those that the parser has. -/
def GRel (c : Gs) (gs : List ByteArray) : Prop := gs.length = c.1 ∧ ∀ x, x ≠ e0 → x ∈ gs → x ∈ c.2
theorem has_mem {gs : List ByteArray} {x : ByteArray} (h : hasNm gs x = true) : x ∈ gs := by
  unfold hasNm at h
  rw [List.any_eq_true] at h
  obtain ⟨y, hy, e⟩ := h
  rw [decide_eq_true_eq] at e
  rw [← e]; exact hy
/-- What comes of a part's tokens. -/
abbrev PartB (n : Nd) : Prop := ∀ d c c' gs L rest, partN res n d c = some c' → d ≤ 50 → GRel c gs → L.map bareT = toksN n ++ rest →
  ∃ l' gs', GRel c' gs' ∧ l'.map bareT = rest ∧ ∀ acc r, Evt (fun f => partsP f d (l', gs') (acc ++ [n])) r → Evt (fun f => partsP f d (L, gs) acc) r
def Stop (d : Nat) (rest : List Tk) : Prop := rest = [] ∨ (headK rest = 4 ∧ 0 < d)
abbrev BodyB (n : Nd) : Prop := ∀ d c c' gs L rest, bodyN res n d c = some c' → d ≤ 50 → GRel c gs → L.map bareT = toksN n ++ rest → Stop d rest →
  ∃ l' gs', GRel c' gs' ∧ l'.map bareT = rest ∧ Evt (fun f => bodyP f d (L, gs)) (.ok (n, (l', gs')))
theorem toksN_eq (n : Nd) : toksN n =
    if n.f0 = 6 then toksK n.f7
    else if n.f0 = 7 then altT n.f7
    else if n.f0 = 1 then [tk0 1 0 n.f2 0 e0 false]
    else if n.f0 = 2 then [tk0 2 0 0 0 e0 false]
    else if n.f0 = 3 then classT n
    else if n.f0 = 5 then propT n
    else if n.f0 = 8 then headT n.f7 ++ [tk0 6 n.f1 n.f2 n.f3 e0 false]
    else if n.f0 = 9 then [if n.f2 = 0 then tk0 3 1 0 0 e0 false else if n.f5 = e0 then tk0 3 0 0 0 e0 false else tk0 3 2 0 0 n.f5 false] ++ headT n.f7 ++ [tk0 4 0 0 0 e0 false]
    else if n.f0 = 10 then [tk0 3 (n.f1 + 3) 0 0 e0 false] ++ headT n.f7 ++ [tk0 4 0 0 0 e0 false]
    else if n.f0 = 11 then [tk0 3 7 0 0 e0 false] ++ headT n.f7 ++ [tk0 4 0 0 0 e0 false]
    else if n.f0 = 12 then [tk0 7 n.f1 0 0 e0 false]
    else if n.f0 = 13 then [tk0 9 0 n.f2 0 e0 false]
    else if n.f0 = 14 then [tk0 10 0 0 0 e0 false]
    else [] := by cases n; rw [toksN]
theorem toksK_nil : toksK [] = [] := by rw [toksK]
theorem toksK_cons (n : Nd) (ns : List Nd) : toksK (n :: ns) = toksN n ++ toksK ns := by rw [toksK]
theorem altT_cons (n : Nd) (ns : List Nd) : altT (n :: ns) = toksN n ++ barT ns := by rw [altT]
theorem barT_nil : barT [] = [] := by rw [barT]
theorem barT_cons (n : Nd) (ns : List Nd) : barT (n :: ns) = tk0 5 0 0 0 e0 false :: (toksN n ++ barT ns) := by rw [barT]; rfl
theorem headT_one (m : Nd) : headT [m] = toksN m := by rw [headT]
/-- A token that is taken, and a part that it begins. -/
theorem part_go {d : Nat} {x : Tk} {l : List Tk} {gs : List ByteArray} {n : Nd} {s' : Ps} (hk : x.kind ≠ 0 ∧ x.kind ≠ 5 ∧ x.kind ≠ 4 ∧ x.kind ≠ 6) (h : Evt (fun f => partP f d x (l, gs)) (.ok (n, s'))) (acc : List Nd) (r : Pr (List Nd × Ps)) (hr : Evt (fun f => partsP f d s' (acc ++ [n])) r) : Evt (fun f => partsP f d (x :: l, gs) acc) r := by
  refine Evt.succ (G := fun f => thenP (partP f d x (l, gs)) fun a => partsP f d a.2 (acc ++ [a.1])) (Evt.bind h hr) (fun f => ?_)
  rw [partsP, if_neg (by show ¬ (x.kind = 0 ∨ x.kind = 5 ∨ x.kind = 4); omega), take_cons, thenP_ok]
  simp only
  rw [if_neg hk.2.2.2]
theorem part_one {n : Nd} {d : Nat} {c : Gs} {gs : List ByteArray} {L rest : List Tk} {t : Tk} (hg : GRel c gs) (hL : L.map bareT = t :: rest) (hk : t.kind ≠ 0 ∧ t.kind ≠ 5 ∧ t.kind ≠ 4 ∧ t.kind ≠ 6)
    (h : ∀ x l, bareT x = t → ∀ f, partP (f + 1) d x (l, gs) = .ok (n, (l, gs))) :
    ∃ l' gs', GRel c gs' ∧ l'.map bareT = rest ∧ ∀ acc r, Evt (fun f => partsP f d (l', gs') (acc ++ [n])) r → Evt (fun f => partsP f d (L, gs) acc) r := by
  obtain ⟨x, l, rfl, hx, hl⟩ := bare_cons hL
  have hkx : x.kind = t.kind := by rw [← hx]; rfl
  exact ⟨l, gs, hg, hl, fun acc r hr => part_go (by rw [hkx]; exact hk) (Evt.succ (G := fun _ => .ok (n, (l, gs))) (Evt.now _) (h x l hx)) acc r hr⟩
/-- What stands between brackets. -/
theorem open_back {m : Nd} (hB : BodyB res m) {d : Nat} {c c' : Gs} {gs gs1 : List ByteArray} {x : Tk} {l rest : List Tk} {n h0 : Nd} (hb : bodyN res m (d + 1) c = some c') (hd : d < 50) (hg : GRel c gs1) (hx : x.kind = 3) (hh : headP x gs = .ok (h0, gs1)) (hn : kidsN h0 [m] = n)
    (hl : l.map bareT = toksN m ++ tk0 4 0 0 0 e0 false :: rest) :
    ∃ l' gs', GRel c' gs' ∧ l'.map bareT = rest ∧ ∀ acc r, Evt (fun f => partsP f d (l', gs') (acc ++ [n])) r → Evt (fun f => partsP f d (x :: l, gs) acc) r := by
  obtain ⟨l1, gs', hg', hl1, k⟩ := hB (d + 1) c c' gs1 l (tk0 4 0 0 0 e0 false :: rest) hb (by omega) hg hl (.inr ⟨rfl, by omega⟩)
  obtain ⟨y, l2, rfl, hy, hl2⟩ := bare_cons hl1
  refine ⟨l2, gs', hg', hl2, fun acc r hr => part_go (by omega) (Evt.succ (G := fun f => openP f (d + 1) x (l, gs)) (Evt.succ (G := fun f => thenP (bodyP f (d + 1) (l, gs1)) fun a => thenP (takeP a.2) fun b => .ok (kidsN h0 [a.1], b.2)) (Evt.bind k ?_) (fun f => ?_)) (fun f => ?_)) acc r hr⟩
  · simp only [take_cons, thenP_ok, hn]
    exact Evt.now _
  · rw [openP]
    simp only
    rw [hh, thenP_ok]
  · rw [partP, if_neg (by omega), if_neg (by omega), if_neg (by omega), if_neg (by omega), if_neg (by omega), if_neg (by omega), if_neg (by omega), if_pos hx]
theorem part_step_back {n : Nd} (hP : ∀ m ∈ n.f7, PartB res m) (hB : ∀ m ∈ n.f7, BodyB res m) : PartB res n := by
  intro d c c' gs L rest h hd hg hL
  rw [partN_eq] at h
  rw [toksN_eq] at hL
  by_cases k1 : n.f0 = 1
  · rw [if_pos k1] at h
    rw [if_neg (by omega), if_neg (by omega), if_pos k1] at hL
    split at h
    · rename_i hc
      rw [Bool.and_eq_true] at hc
      cases h
      exact part_one hg hL (by simp) (fun x l hx f => by have := bare_kind hx; rw [partP, if_pos this.1, this.2.2.1, only_leaf k1 hc.1])
    · cases h
  rw [if_neg k1] at h
  by_cases k2 : n.f0 = 2 ∨ n.f0 = 14
  · rw [if_pos k2] at h
    split at h
    · rename_i hc
      cases h
      rcases k2 with k2 | k2
      · rw [if_neg (by omega), if_neg (by omega), if_neg k1, if_pos k2] at hL
        exact part_one hg hL (by decide) (fun x l hx f => by have := bare_kind hx; rw [partP, if_neg (by omega), if_pos this.1, only_leaf k2 hc])
      · rw [if_neg (by omega), if_neg (by omega), if_neg k1, if_neg (by omega), if_neg (by omega), if_neg (by omega), if_neg (by omega), if_neg (by omega), if_neg (by omega), if_neg (by omega), if_neg (by omega), if_neg (by omega), if_pos k2] at hL
        exact part_one hg hL (by decide) (fun x l hx f => by have := bare_kind hx; rw [partP, if_neg (by omega), if_neg (by omega), if_pos this.1, only_leaf k2 hc])
    · cases h
  rw [if_neg k2] at h
  by_cases k3 : n.f0 = 3
  · rw [if_pos k3] at h
    rw [if_neg (by omega), if_neg (by omega), if_neg k1, if_neg (by omega), if_pos k3] at hL
    split at h
    · rename_i hc
      cases h
      unfold classT at hL
      simp only [List.cons_append, List.nil_append, List.append_assoc] at hL
      obtain ⟨x, l, rfl, hx, hl⟩ := bare_cons hL
      have hx' := bare_kind hx
      have hcd : d + 1 ≤ 50 := by
        have hc2 := hc
        rw [classN_eq] at hc2
        simp only [Bool.and_eq_true, decide_eq_true_eq] at hc2
        exact hc2.1.1.2
      obtain ⟨l', hl', k⟩ := class_of_side res (side_all res n).1 (gs := gs) hc hx'.2.2.2.2.2 hl
      exact ⟨l', gs, hg, hl', fun acc r hr => part_go (by omega) (Evt.succ (G := fun f => classP f (d + 1) x (l, gs)) k (fun f => parseClass_tok (by omega) (by omega))) acc r hr⟩
    · cases h
  rw [if_neg k3] at h
  by_cases k5 : n.f0 = 5
  · rw [if_pos k5] at h
    rw [if_neg (by omega), if_neg (by omega), if_neg k1, if_neg (by omega), if_neg k3, if_pos k5] at hL
    split at h
    · rename_i hc
      cases h
      unfold propN at hc
      rw [Bool.and_eq_true] at hc
      exact part_one hg hL (by simp) (fun x l hx f => by have := bare_kind hx; rw [partP, if_neg (by omega), if_neg (by omega), if_neg (by omega), if_pos this.1, this.2.2.2.2.1, this.2.2.2.2.2, only_leaf k5 hc.1])
    · cases h
  rw [if_neg k5] at h
  by_cases k12 : n.f0 = 12
  · rw [if_pos k12] at h
    rw [if_neg (by omega), if_neg (by omega), if_neg k1, if_neg (by omega), if_neg k3, if_neg k5, if_neg (by omega), if_neg (by omega), if_neg (by omega), if_neg (by omega), if_pos k12] at hL
    split at h
    · rename_i hc
      rw [Bool.and_eq_true, Bool.and_eq_true] at hc
      cases h
      exact part_one hg hL (by simp) (fun x l hx f => by have := bare_kind hx; rw [partP, if_neg (by omega), if_neg (by omega), if_neg (by omega), if_neg (by omega), if_pos this.1, this.2.1, only_leaf k12 hc.1.1])
    · cases h
  rw [if_neg k12] at h
  by_cases k13 : n.f0 = 13
  · rw [if_pos k13] at h
    rw [if_neg (by omega), if_neg (by omega), if_neg k1, if_neg (by omega), if_neg k3, if_neg k5, if_neg (by omega), if_neg (by omega), if_neg (by omega), if_neg (by omega), if_neg k12, if_pos k13] at hL
    split at h
    · rename_i hc
      rw [Bool.and_eq_true, Bool.and_eq_true, decide_eq_true_eq, decide_eq_true_eq] at hc
      cases h
      exact part_one hg hL (by simp) (fun x l hx f => by
        have hx' := bare_kind hx
        have hb : backNo x gs = n.f2 := by unfold backNo; rw [if_pos hx'.2.2.2.2.1, hx'.2.2.1]
        have hg1 := hg.1
        rw [partP, if_neg (by omega), if_neg (by omega), if_neg (by omega), if_neg (by omega), if_neg (by omega), if_pos hx'.1]
        unfold backP
        simp only
        rw [hb, if_neg (by omega), thenP_ok, only_leaf k13 hc.1.1])
    · cases h
  rw [if_neg k13] at h
  by_cases k8 : n.f0 = 8
  · rw [if_pos k8] at h
    rw [if_neg (by omega), if_neg (by omega), if_neg k1, if_neg (by omega), if_neg k3, if_neg k5, if_pos k8] at hL
    split at h
    · rename_i hc
      simp only [Bool.and_eq_true] at hc
      obtain ⟨m, hm, m8, m10, m12, hp⟩ := repK_ok res h
      rw [hm, headT_one, List.append_assoc] at hL
      obtain ⟨l1, gs', hg', hl1, k⟩ := hP m (by rw [hm]; simp) d c c' gs L _ hp hd hg hL
      obtain ⟨x, l2, rfl, hx, hl2⟩ := bare_cons hl1
      have hx' := bare_kind hx
      refine ⟨l2, gs', hg', hl2, fun acc r hr => k acc r ?_⟩
      have hn : mkN 8 x.mode x.a x.b false e0 [m] = n := by
        have := only_mk k8 hc.1.1.1.1.1
        rw [← this, hx'.2.1, hx'.2.2.1, hx'.2.2.2.1, hm]
      refine Evt.succ (G := fun f => partsP f d (l2, gs') (acc ++ [n])) hr (fun f => ?_)
      rw [partsP, if_neg (by show ¬ (x.kind = 0 ∨ x.kind = 5 ∨ x.kind = 4); omega), take_cons, thenP_ok]
      simp only
      rw [if_pos hx'.1]
      unfold repP
      rw [List.getLast?_concat]
      simp only
      rw [if_neg (by omega), thenP_ok, List.dropLast_concat, hn]
    · cases h
  rw [if_neg k8] at h
  by_cases k9 : n.f0 = 9
  · rw [if_pos k9] at h
    rw [if_neg (by omega), if_neg (by omega), if_neg k1, if_neg (by omega), if_neg k3, if_neg k5, if_neg k8, if_pos k9] at hL
    split at h
    · rename_i hc
      cases hgs : groupS n.f2 n.f5 c with
      | none => rw [hgs] at h; cases h
      | some c1 =>
        rw [hgs] at h
        obtain ⟨m, hm, hdl, hp⟩ := withK_ok res h
        rw [hm, headT_one] at hL
        simp only [List.cons_append, List.nil_append, List.append_assoc] at hL
        obtain ⟨x, l, rfl, hx, hl⟩ := bare_cons hL
        have hBm := hB m (by rw [hm]; simp)
        have hn := only_mk k9 hc
        rw [hm] at hn
        unfold groupS at hgs
        by_cases ha : n.f2 = 0
        · rw [if_pos ha] at hgs hx
          have hx' := bare_kind hx
          split at hgs
          · rename_i hnm
            cases hgs
            refine open_back res hBm hp hdl hg hx'.1 (h0 := mkN 9 0 0 0 false e0 []) ?_ ?_ hl
            · unfold headP
              rw [if_neg (by omega), if_neg (by omega), if_neg (by omega)]
            · rw [← hn, ha, hnm]; rfl
          · cases hgs
        · rw [if_neg ha] at hgs hx
          split at hgs
          · rename_i hca
            by_cases hnm : n.f5 = e0
            · rw [if_pos hnm] at hgs hx
              cases hgs
              have hx' := bare_kind hx
              have hgl := hg.1
              refine open_back res hBm hp hdl (gs1 := gs ++ [x.name]) ⟨by simp [hgl], fun y hy hmem => ?_⟩ hx'.1 (h0 := mkN 9 0 ((gs.length + 1 : Nat) : Int) 0 false x.name []) ?_ ?_ hl
              · rcases List.mem_append.1 hmem with e | e
                · exact hg.2 y hy e
                · simp only [List.mem_cons, List.not_mem_nil, or_false] at e
                  exact absurd (e.trans hx'.2.2.2.2.1) hy
              · unfold headP
                rw [if_pos (.inl hx'.2.1), if_neg (fun hh => hh.1 hx'.2.2.2.2.1), if_neg (by omega)]
              · rw [← hn, hnm, hx'.2.2.2.2.1]
                have : ((gs.length + 1 : Nat) : Int) = n.f2 := by omega
                rw [this]; rfl
            · rw [if_neg hnm] at hgs hx
              split at hgs
              · rename_i hcn
                cases hgs
                have hx' := bare_kind hx
                have hgl := hg.1
                refine open_back res hBm hp hdl (gs1 := gs ++ [x.name]) ⟨by simp [hgl], fun y hy hmem => ?_⟩ hx'.1 (h0 := mkN 9 0 ((gs.length + 1 : Nat) : Int) 0 false x.name []) ?_ ?_ hl
                · rcases List.mem_append.1 hmem with e | e
                  · exact List.mem_cons_of_mem _ (hg.2 y hy e)
                  · simp only [List.mem_cons, List.not_mem_nil, or_false] at e
                    rw [e, hx'.2.2.2.2.1]; exact List.mem_cons_self
                · unfold headP
                  rw [if_pos (.inr hx'.2.1), if_neg (fun hh => ?_), if_neg (by omega)]
                  have hmm := hg.2 x.name hh.1 (has_mem hh.2)
                  have := List.all_eq_true.1 hcn.2 x.name hmm
                  rw [decide_eq_true_eq] at this
                  exact this hx'.2.2.2.2.1
                · rw [← hn, hx'.2.2.2.2.1]
                  have : ((gs.length + 1 : Nat) : Int) = n.f2 := by omega
                  rw [this]; rfl
              · cases hgs
          · cases hgs
    · cases h
  rw [if_neg k9] at h
  by_cases k10 : n.f0 = 10
  · rw [if_pos k10] at h
    rw [if_neg (by omega), if_neg (by omega), if_neg k1, if_neg (by omega), if_neg k3, if_neg k5, if_neg k8, if_neg k9, if_pos k10] at hL
    split at h
    · rename_i hc
      rw [Bool.and_eq_true, Bool.and_eq_true, decide_eq_true_eq, decide_eq_true_eq] at hc
      obtain ⟨m, hm, hdl, hp⟩ := withK_ok res h
      rw [hm, headT_one] at hL
      simp only [List.cons_append, List.nil_append, List.append_assoc] at hL
      obtain ⟨x, l, rfl, hx, hl⟩ := bare_cons hL
      have hx' := bare_kind hx
      have hn := only_mk k10 hc.1.1
      rw [hm] at hn
      refine open_back res (hB m (by rw [hm]; simp)) hp hdl hg hx'.1 (h0 := mkN 10 (x.mode - 3) 0 0 false e0 []) ?_ ?_ hl
      · unfold headP
        rw [if_neg (by omega), if_neg (by omega), if_pos (by omega)]
      · rw [← hn, hx'.2.1, show n.f1 + 3 - 3 = n.f1 by omega]; rfl
    · cases h
  rw [if_neg k10] at h
  by_cases k11 : n.f0 = 11
  · rw [if_pos k11] at h
    rw [if_neg (by omega), if_neg (by omega), if_neg k1, if_neg (by omega), if_neg k3, if_neg k5, if_neg k8, if_neg k9, if_neg k10, if_pos k11] at hL
    split at h
    · rename_i hc
      obtain ⟨m, hm, hdl, hp⟩ := withK_ok res h
      rw [hm, headT_one] at hL
      simp only [List.cons_append, List.nil_append, List.append_assoc] at hL
      obtain ⟨x, l, rfl, hx, hl⟩ := bare_cons hL
      have hx' := bare_kind hx
      have hn := only_mk k11 hc
      rw [hm] at hn
      refine open_back res (hB m (by rw [hm]; simp)) hp hdl hg hx'.1 (h0 := mkN 11 0 0 0 false e0 []) ?_ ?_ hl
      · unfold headP
        rw [if_neg (by omega), if_pos (by omega)]
      · rw [← hn]; rfl
    · cases h
  rw [if_neg k11] at h
  cases h
theorem parts_back {d : Nat} {rest : List Tk} (hd : d ≤ 50) (hr : rest = [] ∨ headK rest = 5 ∨ headK rest = 4) : ∀ (ns : List Nd) (c c' : Gs) (gs : List ByteArray) (L : List Tk) (acc : List Nd), (∀ m ∈ ns, PartB res m) → partK res ns d c = some c' → GRel c gs → L.map bareT = toksK ns ++ rest →
    ∃ l' gs', GRel c' gs' ∧ l'.map bareT = rest ∧ Evt (fun f => partsP f d (L, gs) acc) (.ok (acc ++ ns, (l', gs')))
  | [], c, c', gs, L, acc, _, h, hg, hL => by
    rw [partK_nil] at h
    cases h
    rw [toksK_nil, List.nil_append] at hL
    refine ⟨L, gs, hg, hL, ?_⟩
    rw [List.append_nil]
    refine Evt.succ (G := fun _ => .ok (acc, (L, gs))) (Evt.now _) (fun f => ?_)
    rw [partsP, if_pos]
    rw [kind_bare hL]
    rcases hr with hr | hr | hr
    · rw [hr]; exact .inl rfl
    · exact .inr (.inl hr)
    · exact .inr (.inr hr)
  | m :: ms, c, c', gs, L, acc, hP, h, hg, hL => by
    rw [partK_cons] at h
    cases h1 : partN res m d c with
    | none => rw [h1] at h; cases h
    | some c1 =>
      rw [h1] at h
      rw [toksK_cons, List.append_assoc] at hL
      obtain ⟨l1, gs1, hg1, hl1, k⟩ := hP m List.mem_cons_self d c c1 gs L _ h1 hd hg hL
      obtain ⟨l', gs', hg', hl', k2⟩ := parts_back hd hr ms c1 c' gs1 l1 (acc ++ [m]) (fun y hy => hP y (List.mem_cons_of_mem _ hy)) h hg1 hl1
      rw [List.append_assoc] at k2
      exact ⟨l', gs', hg', hl', k acc _ k2⟩
theorem seq_back {n : Nd} (hP : ∀ m ∈ n.f7, PartB res m) {d : Nat} {c c' : Gs} {gs : List ByteArray} {L rest : List Tk} (hs : seqN res n d c = some c') (hd : d ≤ 50) (hg : GRel c gs) (hL : L.map bareT = toksN n ++ rest) (hr : Stop d rest ∨ headK rest = 5) :
    ∃ l' gs', GRel c' gs' ∧ l'.map bareT = rest ∧ Evt (fun f => seqP f d (L, gs)) (.ok (n, (l', gs'))) := by
  rw [seqN_eq] at hs
  split at hs
  · rename_i hc
    rw [toksN_eq, if_pos hc.1] at hL
    obtain ⟨l', gs', hg', hl', k⟩ := parts_back res hd (by rcases hr with (hr | hr) | hr; exact .inl hr; exact .inr (.inr hr.1); exact .inr (.inl hr)) n.f7 c c' gs L [] hP hs hg hL
    refine ⟨l', gs', hg', hl', Evt.succ (G := fun f => thenP (partsP f d (L, gs) []) fun b => if d = 0 ∧ kindP b.2 = 4 then (thenP (takeP b.2) fun t => .error (some (133, t.1.st))) else .ok (mkN 6 0 0 0 false e0 b.1, b.2)) (Evt.bind k ?_) (fun f => by rw [seqP])⟩
    have hn := only_mk hc.1 hc.2
    simp only [List.nil_append]
    rw [if_neg, hn]
    · exact Evt.now _
    · rw [kind_bare hl']
      rcases hr with (hr | hr) | hr
      · rw [hr]; intro hh; exact absurd hh.2 (by decide)
      · omega
      · omega
  · cases hs
theorem bars_back {d : Nat} {rest : List Tk} (hd : d ≤ 50) (hr : Stop d rest) : ∀ (ns : List Nd) (c c' : Gs) (gs : List ByteArray) (L : List Tk), (∀ m ∈ ns, ∀ k ∈ m.f7, PartB res k) → seqK res ns d c = some c' → GRel c gs → L.map bareT = barT ns ++ rest →
    ∃ l' gs', GRel c' gs' ∧ l'.map bareT = rest ∧ Evt (fun f => barsP f d (L, gs)) (.ok (ns, (l', gs')))
  | [], c, c', gs, L, _, h, hg, hL => by
    rw [seqK_nil] at h
    cases h
    rw [barT_nil, List.nil_append] at hL
    refine ⟨L, gs, hg, hL, Evt.succ (G := fun _ => .ok ([], (L, gs))) (Evt.now _) (fun f => ?_)⟩
    rw [barsP, if_neg]
    rw [kind_bare hL]
    rcases hr with hr | hr
    · rw [hr]; decide
    · omega
  | m :: ms, c, c', gs, L, hP, h, hg, hL => by
    rw [seqK_cons] at h
    cases h1 : seqN res m d c with
    | none => rw [h1] at h; cases h
    | some c1 =>
      rw [h1] at h
      rw [barT_cons, List.cons_append, List.append_assoc] at hL
      obtain ⟨x, l, rfl, hx, hl⟩ := bare_cons hL
      have hx' := bare_kind hx
      have hr2 : Stop d (barT ms ++ rest) ∨ headK (barT ms ++ rest) = 5 := by
        cases ms with
        | nil => rw [barT_nil]; exact .inl hr
        | cons y ys => rw [barT_cons]; exact .inr rfl
      obtain ⟨l1, gs1, hg1, hl1, k⟩ := seq_back res (hP m List.mem_cons_self) h1 hd hg hl hr2
      obtain ⟨l', gs', hg', hl', k2⟩ := bars_back hd hr ms c1 c' gs1 l1 (fun y hy => hP y (List.mem_cons_of_mem _ hy)) h hg1 hl1
      refine ⟨l', gs', hg', hl', Evt.succ (G := fun f => thenP (seqP f d (l, gs)) fun a => thenP (barsP f d a.2) fun b => .ok (a.1 :: b.1, b.2)) (Evt.bind k (Evt.bind k2 (Evt.now _))) (fun f => ?_)⟩
      rw [barsP, if_pos (by exact hx'.1), take_cons, thenP_ok]
theorem body_step_back {n : Nd} (hP : ∀ m ∈ n.f7, PartB res m) (hPP : ∀ m ∈ n.f7, ∀ k ∈ m.f7, PartB res k) : BodyB res n := by
  intro d c c' gs L rest h hd hg hL hr
  rw [bodyN_eq] at h
  split at h
  · rename_i ho
    by_cases k7 : n.f0 = 7
    · rw [if_pos k7] at h
      split at h
      · rename_i hlen
        rw [toksN_eq, if_neg (by omega), if_pos k7] at hL
        have hn := only_mk k7 ho
        match hf : n.f7, hlen with
        | m :: y :: ys, _ =>
          rw [hf] at h hL hn hPP
          rw [seqK_cons] at h
          cases h1 : seqN res m d c with
          | none => rw [h1] at h; cases h
          | some c1 =>
            rw [h1] at h
            rw [altT_cons, List.append_assoc] at hL
            obtain ⟨l1, gs1, hg1, hl1, k⟩ := seq_back res (hPP m List.mem_cons_self) h1 hd hg hL (by rw [barT_cons]; exact .inr rfl)
            obtain ⟨l', gs', hg', hl', k2⟩ := bars_back res hd hr (y :: ys) c1 c' gs1 l1 (fun z hz => hPP z (List.mem_cons_of_mem _ hz)) h hg1 hl1
            refine ⟨l', gs', hg', hl', Evt.succ (G := fun f => thenP (seqP f d (L, gs)) fun a => thenP (barsP f d a.2) fun b => .ok (altP a.1 b.1, b.2)) (Evt.bind k (Evt.bind k2 ?_)) (fun f => by rw [bodyP])⟩
            have : altP m (y :: ys) = n := hn
            simp only [this]
            exact Evt.now _
        | [_], hl => exact absurd hl (by simp)
        | [], hl => exact absurd hl (by simp)
      · cases h
    · rw [if_neg k7] at h
      split at h
      · rename_i k6
        obtain ⟨l1, gs1, hg1, hl1, k⟩ := seq_back res hP (c' := c') (by rw [seqN_eq, if_pos ⟨k6, ho⟩]; exact h) hd hg hL (.inl hr)
        obtain ⟨l', gs', hg', hl', k2⟩ := bars_back res hd hr [] c' c' gs1 l1 (fun z hz => by cases hz) (seqK_nil res d c') hg1 (by rw [barT_nil]; exact hl1)
        refine ⟨l', gs', hg', hl', Evt.succ (G := fun f => thenP (seqP f d (L, gs)) fun a => thenP (barsP f d a.2) fun b => .ok (altP a.1 b.1, b.2)) (Evt.bind k (Evt.bind k2 (Evt.now _))) (fun f => by rw [bodyP])⟩
      · cases h
  · cases h
theorem back_all : ∀ n : Nd, PartB res n ∧ BodyB res n ∧ ∀ m ∈ n.f7, PartB res m := by
  refine (Nd.ind (Q := fun ns => ∀ n ∈ ns, PartB res n ∧ BodyB res n ∧ ∀ m ∈ n.f7, PartB res m) ?_ (fun _ hm => by cases hm) (fun n ns hn hns m hm => by rcases List.mem_cons.1 hm with e | e; rw [e]; exact hn; exact hns m e)).1
  intro n ih
  have hP : ∀ m ∈ n.f7, PartB res m := fun m hm => (ih m hm).1
  exact ⟨part_step_back res hP (fun m hm => (ih m hm).2.1), body_step_back res hP (fun m hm => (ih m hm).2.2), hP⟩
/-- The tokens of a tree that may be come to the tree. -/
theorem parse_toks {n : Nd} {c : Gs} {L : List Tk} (h : bodyN res n 0 (0, []) = some c) (hL : L.map bareT = toksN n) : ∃ gs, Evt (fun f => bodyP f 0 (L, [])) (.ok (n, ([], gs))) := by
  obtain ⟨l', gs', -, hl', k⟩ := (back_all res n).2.1 0 (0, []) c [] L [] h (by omega) ⟨rfl, fun x _ hx => by cases hx⟩ (by rw [List.append_nil]; exact hL) (.inl rfl)
  have : l' = [] := List.map_eq_nil_iff.1 hl'
  subst this
  exact ⟨gs', k⟩
end

end Go.Proofs.YtkipjalfgdfaiaaGreatDoor
