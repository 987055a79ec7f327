/- CkN, CkO, CkQ, CkR, CkW, ShelfV, CkX, CkY, CkZ, CkV, CkT, ClA, ClB, ClC. -/
import Derived.Laws.IdiomStrings
import Derived.Lib.Builder
import Derived.Shelf.LaysM
import Derived.Shelf.Strings.OnBuilder
import Derived.Shelf.Strings.Builder1
import Derived.Shelf.Strconv.Itoa3
import Derived.Test.YtkipjalfgdfaiaaGreatDoorProg
import Derived.Test.YtkipjalfgdfaiaaGreatDoorSD5
namespace Go.Proofs.YtkipjalfgdfaiaaGreatDoor
set_option linter.unusedVariables false
set_option linter.unusedSimpArgs false
open Go.RowKit Go.Proofs.YtkipjalfgdfaiaaGreatDoorW.PrintWords Go.Proofs.YtkipjalfgdfaiaaGreatDoorW.PrintLast Go.Proofs.YtkipjalfgdfaiaaGreatDoorW.PrintMore Go.Proofs.YtkipjalfgdfaiaaGreatDoor.PTk

attribute [local go_sem ↓] Go.wp_at_zero Go.wp_at_succ
set_option maxHeartbeats 4000000 in
set_option maxRecDepth 100000 in
theorem part_group (res : ByteArray → Int × ByteArray × Int) (m0 : Int) {n : Nd} (deep : Nat) (c : Gs) (w0 w : World) (g mb : Nat) (v : Value) (h : RdN w0 n v) (E : Env w0 w m0 g mb c) (hd : deep ≤ 50) (h0 : n.f0 = 9) (hs : n.f5.size ≤ 2147483648) (hX : ∀ c' v W', RdN w0 n v → Env w0 W' m0 g mb c' → Calls Tryz.prog 73 #[.pointer (some ⟨g, 0, none⟩), v, .int .i64 (deep : Int)] W' (RetCk (withK res n.f7 deep c') W' g mb)) :
    Calls Tryz.prog 51 #[.pointer (some ⟨g, 0, none⟩), v, .int .i64 (deep : Int)] w (RetCk (if onlyB n 0 n.f2 0 false n.f5 n.f7.length = true then ((groupS n.f2 n.f5 c).bind fun c' => withK res n.f7 deep c') else none) w g mb) := by
  have HM := Aside0.mk must_any
  have HQ := Aside0.mk must_eq
  have hO := fun A6 c6 A7 c7 (hv : v = ndV n A6 c6 A7 c7) W => only_any h 0 0 n.f2 0 false n.f5 none A7 0 0 n.f7.length c7 W
  have hx := fun c' W' hb => hX c' v W' h hb
  have HX := Aside0.mk hx
  have HGP := Aside0.mk (fun W' hk => group_any h g mb c hk hs (w := W'))
  clear hX hx
  obtain ⟨A6, c6, A7, c7, rfl, -, -, l7, hC⟩ := h
  have HE := Aside0.mk E
  have HO := Aside0.mk (hO A6 c6 A7 c7 rfl)
  clear hO
  have t1 : (n.f0 == 1) = false := by rw [beq_eq_false_iff_ne, h0]; decide
  have t2 : (n.f0 == 2) = false := by rw [beq_eq_false_iff_ne, h0]; decide
  have t14 : (n.f0 == 14) = false := by rw [beq_eq_false_iff_ne, h0]; decide
  have t3 : (n.f0 == 3) = false := by rw [beq_eq_false_iff_ne, h0]; decide
  have t5 : (n.f0 == 5) = false := by rw [beq_eq_false_iff_ne, h0]; decide
  have t12 : (n.f0 == 12) = false := by rw [beq_eq_false_iff_ne, h0]; decide
  have t13 : (n.f0 == 13) = false := by rw [beq_eq_false_iff_ne, h0]; decide
  have t8 : (n.f0 == 8) = false := by rw [beq_eq_false_iff_ne, h0]; decide
  have t9 : (n.f0 == 9) = true := by rw [h0]; rfl
  obtain ⟨r, hr⟩ : ∃ r, (if onlyB n 0 n.f2 0 false n.f5 n.f7.length = true then ((groupS n.f2 n.f5 c).bind fun c' => withK res n.f7 deep c') else none) = r := ⟨_, rfl⟩
  rw [hr]
  have HRR := Aside0.mk hr
  clear hr hC h0
  go_enter Tryz.func51, Tryz.ntmps51
  go_wp2_with fail
  have hc0 := fun W' => HO.out W'
  cases hq0 : onlyB n 0 n.f2 0 false n.f5 n.f7.length with
  | false =>
    rw [hq0] at hc0
    have HRN : Aside0 (r = none) := ⟨by rw [← HRR.out, hq0]; simp⟩
    refine (hc0 _).mono ?_
    rintro e w1 ⟨rfl, hb1⟩
    have HB1 := Aside0.mk (below_box hb1)
    clear hb1 hc0 
    clear hq0
    go_wp2_with fail
    exact ⟨rfl, by rw [HRN.out]; exact RetCk.dead (But.of_below HB1.out)⟩
  | true =>
    rw [hq0] at hc0
    refine (hc0 _).mono ?_
    rintro e w1 ⟨rfl, hb1⟩
    have HB1 := Aside0.mk (below_box hb1)
    obtain ⟨hbx1, hlt1⟩ := box_after hb1
    have HX1 := Aside0.mk hbx1
    have q1_0 := rowc hbx1 0 _ rfl
    have q1_1 := rowc hbx1 1 _ rfl
    have q1_2 := rowc hbx1 2 _ rfl
    have q1_3 := rowc hbx1 3 _ rfl
    have q1_4 := rowc hbx1 4 _ rfl
    have q1_5 := rowc hbx1 5 _ rfl
    have q1_6 := rowc hbx1 6 _ rfl
    have q1_7 := rowc hbx1 7 _ rfl
    clear hb1 hbx1
    clear hc0
    go_wp2_with fail
    have HRS : Aside0 (r = (groupS n.f2 n.f5 c).bind fun c' => withK res n.f7 deep c') := ⟨by rw [← HRR.out, hq0]; simp⟩
    clear hq0
    obtain ⟨q, hq'⟩ : ∃ q, groupS n.f2 n.f5 c = q := ⟨_, rfl⟩
    have hg := HGP.out w1 (HE.out.step HB1.out).chk
    have hrs := HRS.out
    rw [hq'] at hg hrs
    have HRT := Aside0.mk hrs
    clear hq' hrs HRS
    refine hg.mono ?_
    clear hg
    intro e w2 hr
    cases q with
    | none =>
      obtain ⟨hb, rfl⟩ := RetCk.up (But.of_below HB1.out) hr
      have HBT := Aside0.mk hb
      clear hb hr q1_0 q1_1 q1_2 q1_3 q1_4 q1_5 q1_6 q1_7
      go_wp2_with fail
      exact ⟨rfl, by rw [HRT.out]; exact RetCk.dead HBT.out⟩
    | some c1 =>
      obtain ⟨hb2, rfl, hk2⟩ := hr
      have HB2 := Aside0.mk (But.trans (But.of_below HB1.out) hb2)
      have HE2 := Aside0.mk ((HE.out.step HB1.out).next hb2 hk2)
      have hx2 := (hb2.block w.heap.size hlt1 (fun e => by have h1 := HE.out.chk.glt; have h2 := HE.out.chk.mlt; rcases e with e | e <;> omega)).trans HX1.out
      have q2_0 := rowc hx2 0 _ rfl
      have q2_1 := rowc hx2 1 _ rfl
      have q2_2 := rowc hx2 2 _ rfl
      have q2_3 := rowc hx2 3 _ rfl
      have q2_4 := rowc hx2 4 _ rfl
      have q2_5 := rowc hx2 5 _ rfl
      have q2_6 := rowc hx2 6 _ rfl
      have q2_7 := rowc hx2 7 _ rfl
      clear hb2 hk2 hx2 q1_0 q1_1 q1_2 q1_3 q1_4 q1_5 q1_6 q1_7
      go_wp2_with fail
      obtain ⟨r', hr'⟩ : ∃ r', withK res n.f7 deep c1 = r' := ⟨_, rfl⟩
      have hx := HX.out c1 w2 HE2.out
      have hrs2 := HRT.out
      rw [Option.bind_some] at hrs2
      rw [hr'] at hx hrs2
      have HRS2 := Aside0.mk hrs2
      clear hr' hrs2
      refine hx.mono ?_
      clear hx
      intro e w3 hr
      cases r' with
      | none =>
        obtain ⟨hb, rfl⟩ := RetCk.up HB2.out hr
        have HBT := Aside0.mk hb
        clear hb hr q2_0 q2_1 q2_2 q2_3 q2_4 q2_5 q2_6 q2_7
        go_wp2_with fail
        exact ⟨rfl, by rw [HRS2.out]; exact RetCk.dead HBT.out⟩
      | some c' =>
        obtain ⟨hb, rfl, hk⟩ := RetCk.up HB2.out hr
        have HBT := Aside0.mk hb
        have HKT := Aside0.mk hk
        clear hb hk hr q2_0 q2_1 q2_2 q2_3 q2_4 q2_5 q2_6 q2_7
        go_wp2_with fail
        go_end0
        rw [HRS2.out]
        exact RetCk.fine HBT.out HKT.out
set_option maxHeartbeats 4000000 in
set_option maxRecDepth 100000 in
theorem part_back (res : ByteArray → Int × ByteArray × Int) (m0 : Int) {n : Nd} (deep : Nat) (c : Gs) (w0 w : World) (g mb : Nat) (v : Value) (h : RdN w0 n v) (E : Env w0 w m0 g mb c) (hd : deep ≤ 50) (h0 : n.f0 = 13)  :
    Calls Tryz.prog 51 #[.pointer (some ⟨g, 0, none⟩), v, .int .i64 (deep : Int)] w (RetCk (if (onlyB n 0 n.f2 0 false e0 0 && decide (0 < n.f2) && decide (n.f2 ≤ (c.1 : Int))) = true then some c else none) w g mb) := by
  have HM := Aside0.mk must_any
  have HQ := Aside0.mk must_eq
  have hO := fun A6 c6 A7 c7 (hv : v = ndV n A6 c6 A7 c7) W => only_any h 0 0 n.f2 0 false e0 none none 0 0 0 0 W
  obtain ⟨A6, c6, A7, c7, rfl, -, -, l7, hC⟩ := h
  have HE := Aside0.mk E
  have HO := Aside0.mk (hO A6 c6 A7 c7 rfl)
  clear hO
  have t1 : (n.f0 == 1) = false := by rw [beq_eq_false_iff_ne, h0]; decide
  have t2 : (n.f0 == 2) = false := by rw [beq_eq_false_iff_ne, h0]; decide
  have t14 : (n.f0 == 14) = false := by rw [beq_eq_false_iff_ne, h0]; decide
  have t3 : (n.f0 == 3) = false := by rw [beq_eq_false_iff_ne, h0]; decide
  have t5 : (n.f0 == 5) = false := by rw [beq_eq_false_iff_ne, h0]; decide
  have t12 : (n.f0 == 12) = false := by rw [beq_eq_false_iff_ne, h0]; decide
  have t13 : (n.f0 == 13) = true := by rw [h0]; rfl
  obtain ⟨r, hr⟩ : ∃ r, (if (onlyB n 0 n.f2 0 false e0 0 && decide (0 < n.f2) && decide (n.f2 ≤ (c.1 : Int))) = true then some c else none) = r := ⟨_, rfl⟩
  rw [hr]
  have HRR := Aside0.mk hr
  clear hr hC h0
  go_enter Tryz.func51, Tryz.ntmps51
  go_wp2_with fail
  have hc0 := fun W' => HO.out W'
  cases hq0 : onlyB n 0 n.f2 0 false e0 0 with
  | false =>
    rw [hq0] at hc0
    have HRN : Aside0 (r = none) := ⟨by rw [← HRR.out, hq0]; simp⟩
    refine (hc0 _).mono ?_
    rintro e w1 ⟨rfl, hb1⟩
    have HB1 := Aside0.mk (below_box hb1)
    clear hb1 hc0 
    clear hq0
    go_wp2_with fail
    exact ⟨rfl, by rw [HRN.out]; exact RetCk.dead (But.of_below HB1.out)⟩
  | true =>
    rw [hq0] at hc0
    refine (hc0 _).mono ?_
    rintro e w1 ⟨rfl, hb1⟩
    have HB1 := Aside0.mk (below_box hb1)
    obtain ⟨hbx1, hlt1⟩ := box_after hb1
    have HX1 := Aside0.mk hbx1
    have q1_2 := rowc hbx1 2 _ rfl
    clear hb1 hbx1
    clear hc0
    go_wp2_with fail
    have k0 := rowc (HE.out.chk.below HB1.out).blk 0 _ rfl
    have HBD : Aside0 (But (Ex g mb) w w1.drew) := ⟨But.of_below (below_drew HB1.out)⟩
    by_cases g1 : 0 < n.f2
    rotate_left
    · have HRN : Aside0 (r = none) := ⟨by rw [← HRR.out, hq0]; simp [g1]⟩
      have d1 : decide (0 < n.f2) = false := decide_eq_false g1
      clear g1 hq0
      refine start_ (n := 13) (S := fun w' => w'.cell? ⟨w.heap.size, 2, none⟩ = some (.int .i64 n.f2) ∧ w'.cell? ⟨g, 0, none⟩ = some (.int .i64 (c.1 : Int))) (ds := [12]) #[false, false, false, false, false, false, false, false, false, false, false, false, false] (by kernel_rfl) rfl rfl ⟨q1_2, k0⟩ (fun hHeld => ?_)
      refine pure_ (i := 0) (N := some 59) (v := ?_) (a' := ?_) #[true, false, false, false, false, false, false, false, false, false, false, false, false] rfl rfl (by kernel_rfl) (fun _ _ _ h => h) (Or.inl ⟨by rfl, ?_⟩) ?_ ?_
      rotate_left
      · intro w'
        go_simp
        with_reducible rfl
      rotate_left
      · simp only [Act.put, List.setIfInBounds_toArray, List.set_cons_zero, List.set_cons_succ, i64_w, i32_w]
        rfl
      refine take_ (i := 1) (N := some 60) (v := ?_) (a' := ?_) #[true, true, false, false, false, false, false, false, false, false, false, false, false] rfl rfl (by kernel_rfl) (fun _ _ _ h => h) (Or.inl ⟨by rfl, ?_⟩) hHeld ?_ ?_
      rotate_left
      · rintro w' ⟨s0, s1⟩
        go_simp
        with_reducible rfl
      rotate_left
      · simp only [Act.put, List.setIfInBounds_toArray, List.set_cons_zero, List.set_cons_succ, i64_w, i32_w]
        rfl
      refine pure_ (i := 2) (N := some 61) (v := ?_) (a' := ?_) #[true, true, true, false, false, false, false, false, false, false, false, false, false] rfl rfl (by kernel_rfl) (fun _ _ _ h => h) (Or.inl ⟨by rfl, ?_⟩) ?_ ?_
      rotate_left
      · intro w'
        go_simp
        with_reducible rfl
      rotate_left
      · simp only [Act.put, List.setIfInBounds_toArray, List.set_cons_zero, List.set_cons_succ, i64_w, i32_w]
        rfl
      refine pure_ (i := 3) (N := some 62) (v := ?_) (a' := ?_) #[true, true, true, true, false, false, false, false, false, false, false, false, false] rfl rfl (by kernel_rfl) (fun _ _ _ h => h) (Or.inl ⟨by rfl, ?_⟩) ?_ ?_
      rotate_left
      · intro w'
        go_simp
        with_reducible rfl
      rotate_left
      · simp only [Act.put, List.setIfInBounds_toArray, List.set_cons_zero, List.set_cons_succ, i64_w, i32_w]
        rfl
      refine pure_ (i := 4) (N := some 63) (v := undef) (a' := ?_) #[true, true, true, true, true, false, false, false, false, false, false, false, false] rfl rfl (by kernel_rfl) (fun _ _ _ h => h) (Or.inr ⟨by rfl, rfl⟩) ?_ ?_
      rotate_left
      · simp only [Act.put, List.setIfInBounds_toArray, List.set_cons_zero, List.set_cons_succ, i64_w, i32_w]
        rfl
      refine pure_ (i := 5) (N := some 64) (v := undef) (a' := ?_) #[true, true, true, true, true, true, false, false, false, false, false, false, false] rfl rfl (by kernel_rfl) (fun _ _ _ h => h) (Or.inr ⟨by rfl, rfl⟩) ?_ ?_
      rotate_left
      · simp only [Act.put, List.setIfInBounds_toArray, List.set_cons_zero, List.set_cons_succ, i64_w, i32_w]
        rfl
      refine pure_ (i := 6) (N := some 65) (v := undef) (a' := ?_) #[true, true, true, true, true, true, true, false, false, false, false, false, false] rfl rfl (by kernel_rfl) (fun _ _ _ h => h) (Or.inr ⟨by rfl, rfl⟩) ?_ ?_
      rotate_left
      · simp only [Act.put, List.setIfInBounds_toArray, List.set_cons_zero, List.set_cons_succ, i64_w, i32_w]
        rfl
      refine pure_ (i := 7) (N := some 66) (v := undef) (a' := ?_) #[true, true, true, true, true, true, true, true, false, false, false, false, false] rfl rfl (by kernel_rfl) (fun _ _ _ h => h) (Or.inr ⟨by rfl, rfl⟩) ?_ ?_
      rotate_left
      · simp only [Act.put, List.setIfInBounds_toArray, List.set_cons_zero, List.set_cons_succ, i64_w, i32_w]
        rfl
      refine pure_ (i := 8) (N := some 67) (v := undef) (a' := ?_) #[true, true, true, true, true, true, true, true, true, false, false, false, false] rfl rfl (by kernel_rfl) (fun _ _ _ h => h) (Or.inr ⟨by rfl, rfl⟩) ?_ ?_
      rotate_left
      · simp only [Act.put, List.setIfInBounds_toArray, List.set_cons_zero, List.set_cons_succ, i64_w, i32_w]
        rfl
      refine pure_ (i := 9) (N := some 68) (v := undef) (a' := ?_) #[true, true, true, true, true, true, true, true, true, true, false, false, false] rfl rfl (by kernel_rfl) (fun _ _ _ h => h) (Or.inr ⟨by rfl, rfl⟩) ?_ ?_
      rotate_left
      · simp only [Act.put, List.setIfInBounds_toArray, List.set_cons_zero, List.set_cons_succ, i64_w, i32_w]
        rfl
      refine pure_ (i := 10) (N := some 69) (v := undef) (a' := ?_) #[true, true, true, true, true, true, true, true, true, true, true, false, false] rfl rfl (by kernel_rfl) (fun _ _ _ h => h) (Or.inr ⟨by rfl, rfl⟩) ?_ ?_
      rotate_left
      · simp only [Act.put, List.setIfInBounds_toArray, List.set_cons_zero, List.set_cons_succ, i64_w, i32_w]
        rfl
      refine pure_ (i := 11) (N := some 70) (v := ?_) (a' := ?_) #[true, true, true, true, true, true, true, true, true, true, true, true, false] rfl rfl (by kernel_rfl) (fun _ _ _ h => h) (Or.inl ⟨by rfl, ?_⟩) ?_ ?_
      rotate_left
      · intro w'
        go_simp
        with_reducible rfl
      rotate_left
      · simp only [Act.put, List.setIfInBounds_toArray, List.set_cons_zero, List.set_cons_succ, i64_w, i32_w]
        rfl
      refine last_ (i := 12) (N := some 71) #[true, true, true, true, true, true, true, true, true, true, true, true, true] rfl rfl (by kernel_rfl) (by decide) (fun K hK => ?_)
      refine dies_ Tryz.func50 (by kernel_rfl) rfl #[.bool false] (by rfl) rfl rfl (by simp only [List.map_toArray, List.map_cons, List.map_nil]; rfl) ?_
      refine (HQ.out false _).mono ?_
      rintro e w' ⟨rfl, rfl⟩
      exact ⟨_, rfl, rfl, by rw [HRN.out]; exact RetCk.dead HBD.out⟩
    by_cases g2 : n.f2 ≤ (c.1 : Int)
    rotate_left
    · have HRN : Aside0 (r = none) := ⟨by rw [← HRR.out, hq0]; simp [g1, g2]⟩
      have d1 : decide (0 < n.f2) = true := decide_eq_true g1
      have d2 : decide (n.f2 ≤ (c.1 : Int)) = false := decide_eq_false g2
      clear g1 g2 hq0
      refine start_ (n := 13) (S := fun w' => w'.cell? ⟨w.heap.size, 2, none⟩ = some (.int .i64 n.f2) ∧ w'.cell? ⟨g, 0, none⟩ = some (.int .i64 (c.1 : Int))) (ds := [12]) #[false, false, false, false, false, false, false, false, false, false, false, false, false] (by kernel_rfl) rfl rfl ⟨q1_2, k0⟩ (fun hHeld => ?_)
      refine pure_ (i := 0) (N := some 59) (v := ?_) (a' := ?_) #[true, false, false, false, false, false, false, false, false, false, false, false, false] rfl rfl (by kernel_rfl) (fun _ _ _ h => h) (Or.inl ⟨by rfl, ?_⟩) ?_ ?_
      rotate_left
      · intro w'
        go_simp
        with_reducible rfl
      rotate_left
      · simp only [Act.put, List.setIfInBounds_toArray, List.set_cons_zero, List.set_cons_succ, i64_w, i32_w]
        rfl
      refine take_ (i := 1) (N := some 60) (v := ?_) (a' := ?_) #[true, true, false, false, false, false, false, false, false, false, false, false, false] rfl rfl (by kernel_rfl) (fun _ _ _ h => h) (Or.inl ⟨by rfl, ?_⟩) hHeld ?_ ?_
      rotate_left
      · rintro w' ⟨s0, s1⟩
        go_simp
        with_reducible rfl
      rotate_left
      · simp only [Act.put, List.setIfInBounds_toArray, List.set_cons_zero, List.set_cons_succ, i64_w, i32_w]
        rfl
      refine pure_ (i := 2) (N := some 61) (v := ?_) (a' := ?_) #[true, true, true, false, false, false, false, false, false, false, false, false, false] rfl rfl (by kernel_rfl) (fun _ _ _ h => h) (Or.inl ⟨by rfl, ?_⟩) ?_ ?_
      rotate_left
      · intro w'
        go_simp
        with_reducible rfl
      rotate_left
      · simp only [Act.put, List.setIfInBounds_toArray, List.set_cons_zero, List.set_cons_succ, i64_w, i32_w]
        rfl
      refine pure_ (i := 3) (N := some 62) (v := ?_) (a' := ?_) #[true, true, true, true, false, false, false, false, false, false, false, false, false] rfl rfl (by kernel_rfl) (fun _ _ _ h => h) (Or.inl ⟨by rfl, ?_⟩) ?_ ?_
      rotate_left
      · intro w'
        go_simp
        with_reducible rfl
      rotate_left
      · simp only [Act.put, List.setIfInBounds_toArray, List.set_cons_zero, List.set_cons_succ, i64_w, i32_w]
        rfl
      refine pure_ (i := 4) (N := some 63) (v := ?_) (a' := ?_) #[true, true, true, true, true, false, false, false, false, false, false, false, false] rfl rfl (by kernel_rfl) (fun _ _ _ h => h) (Or.inl ⟨by rfl, ?_⟩) ?_ ?_
      rotate_left
      · intro w'
        go_simp
        with_reducible rfl
      rotate_left
      · simp only [Act.put, List.setIfInBounds_toArray, List.set_cons_zero, List.set_cons_succ, i64_w, i32_w]
        rfl
      refine take_ (i := 5) (N := some 64) (v := ?_) (a' := ?_) #[true, true, true, true, true, true, false, false, false, false, false, false, false] rfl rfl (by kernel_rfl) (fun _ _ _ h => h) (Or.inl ⟨by rfl, ?_⟩) hHeld ?_ ?_
      rotate_left
      · rintro w' ⟨s0, s1⟩
        go_simp
        with_reducible rfl
      rotate_left
      · simp only [Act.put, List.setIfInBounds_toArray, List.set_cons_zero, List.set_cons_succ, i64_w, i32_w]
        rfl
      refine pure_ (i := 6) (N := some 65) (v := ?_) (a' := ?_) #[true, true, true, true, true, true, true, false, false, false, false, false, false] rfl rfl (by kernel_rfl) (fun _ _ _ h => h) (Or.inl ⟨by rfl, ?_⟩) ?_ ?_
      rotate_left
      · intro w'
        go_simp
        with_reducible rfl
      rotate_left
      · simp only [Act.put, List.setIfInBounds_toArray, List.set_cons_zero, List.set_cons_succ, i64_w, i32_w]
        rfl
      refine pure_ (i := 7) (N := some 66) (v := ?_) (a' := ?_) #[true, true, true, true, true, true, true, true, false, false, false, false, false] rfl rfl (by kernel_rfl) (fun _ _ _ h => h) (Or.inl ⟨by rfl, ?_⟩) ?_ ?_
      rotate_left
      · intro w'
        go_simp
        with_reducible rfl
      rotate_left
      · simp only [Act.put, List.setIfInBounds_toArray, List.set_cons_zero, List.set_cons_succ, i64_w, i32_w]
        rfl
      refine pure_ (i := 8) (N := some 67) (v := ?_) (a' := ?_) #[true, true, true, true, true, true, true, true, true, false, false, false, false] rfl rfl (by kernel_rfl) (fun _ _ _ h => h) (Or.inl ⟨by rfl, ?_⟩) ?_ ?_
      rotate_left
      · intro w'
        go_simp
        with_reducible rfl
      rotate_left
      · simp only [Act.put, List.setIfInBounds_toArray, List.set_cons_zero, List.set_cons_succ, i64_w, i32_w]
        rfl
      refine take_ (i := 9) (N := some 68) (v := ?_) (a' := ?_) #[true, true, true, true, true, true, true, true, true, true, false, false, false] rfl rfl (by kernel_rfl) (fun _ _ _ h => h) (Or.inl ⟨by rfl, ?_⟩) hHeld ?_ ?_
      rotate_left
      · rintro w' ⟨s0, s1⟩
        go_simp
        with_reducible rfl
      rotate_left
      · simp only [Act.put, List.setIfInBounds_toArray, List.set_cons_zero, List.set_cons_succ, i64_w, i32_w]
        rfl
      refine pure_ (i := 10) (N := some 69) (v := ?_) (a' := ?_) #[true, true, true, true, true, true, true, true, true, true, true, false, false] rfl rfl (by kernel_rfl) (fun _ _ _ h => h) (Or.inl ⟨by rfl, ?_⟩) ?_ ?_
      rotate_left
      · intro w'
        go_simp
        with_reducible rfl
      rotate_left
      · simp only [Act.put, List.setIfInBounds_toArray, List.set_cons_zero, List.set_cons_succ, i64_w, i32_w]
        rfl
      refine pure_ (i := 11) (N := some 70) (v := ?_) (a' := ?_) #[true, true, true, true, true, true, true, true, true, true, true, true, false] rfl rfl (by kernel_rfl) (fun _ _ _ h => h) (Or.inl ⟨by rfl, ?_⟩) ?_ ?_
      rotate_left
      · intro w'
        go_simp
        with_reducible rfl
      rotate_left
      · simp only [Act.put, List.setIfInBounds_toArray, List.set_cons_zero, List.set_cons_succ, i64_w, i32_w]
        rfl
      refine last_ (i := 12) (N := some 71) #[true, true, true, true, true, true, true, true, true, true, true, true, true] rfl rfl (by kernel_rfl) (by decide) (fun K hK => ?_)
      refine dies_ Tryz.func50 (by kernel_rfl) rfl #[.bool false] (by rfl) rfl rfl (by simp only [List.map_toArray, List.map_cons, List.map_nil]; rfl) ?_
      refine (HQ.out false _).mono ?_
      rintro e w' ⟨rfl, rfl⟩
      exact ⟨_, rfl, rfl, by rw [HRN.out]; exact RetCk.dead HBD.out⟩
    have HRS : Aside0 (r = some c) := ⟨by rw [← HRR.out, hq0]; simp [g1, g2]⟩
    have d1 : decide (0 < n.f2) = true := decide_eq_true g1
    have d2 : decide (n.f2 ≤ (c.1 : Int)) = true := decide_eq_true g2
    clear g1 g2 hq0
    refine start_ (n := 13) (S := fun w' => w'.cell? ⟨w.heap.size, 2, none⟩ = some (.int .i64 n.f2) ∧ w'.cell? ⟨g, 0, none⟩ = some (.int .i64 (c.1 : Int))) (ds := [12]) #[false, false, false, false, false, false, false, false, false, false, false, false, false] (by kernel_rfl) rfl rfl ⟨q1_2, k0⟩ (fun hHeld => ?_)
    refine pure_ (i := 0) (N := some 59) (v := ?_) (a' := ?_) #[true, false, false, false, false, false, false, false, false, false, false, false, false] rfl rfl (by kernel_rfl) (fun _ _ _ h => h) (Or.inl ⟨by rfl, ?_⟩) ?_ ?_
    rotate_left
    · intro w'
      go_simp
      with_reducible rfl
    rotate_left
    · simp only [Act.put, List.setIfInBounds_toArray, List.set_cons_zero, List.set_cons_succ, i64_w, i32_w]
      rfl
    refine take_ (i := 1) (N := some 60) (v := ?_) (a' := ?_) #[true, true, false, false, false, false, false, false, false, false, false, false, false] rfl rfl (by kernel_rfl) (fun _ _ _ h => h) (Or.inl ⟨by rfl, ?_⟩) hHeld ?_ ?_
    rotate_left
    · rintro w' ⟨s0, s1⟩
      go_simp
      with_reducible rfl
    rotate_left
    · simp only [Act.put, List.setIfInBounds_toArray, List.set_cons_zero, List.set_cons_succ, i64_w, i32_w]
      rfl
    refine pure_ (i := 2) (N := some 61) (v := ?_) (a' := ?_) #[true, true, true, false, false, false, false, false, false, false, false, false, false] rfl rfl (by kernel_rfl) (fun _ _ _ h => h) (Or.inl ⟨by rfl, ?_⟩) ?_ ?_
    rotate_left
    · intro w'
      go_simp
      with_reducible rfl
    rotate_left
    · simp only [Act.put, List.setIfInBounds_toArray, List.set_cons_zero, List.set_cons_succ, i64_w, i32_w]
      rfl
    refine pure_ (i := 3) (N := some 62) (v := ?_) (a' := ?_) #[true, true, true, true, false, false, false, false, false, false, false, false, false] rfl rfl (by kernel_rfl) (fun _ _ _ h => h) (Or.inl ⟨by rfl, ?_⟩) ?_ ?_
    rotate_left
    · intro w'
      go_simp
      with_reducible rfl
    rotate_left
    · simp only [Act.put, List.setIfInBounds_toArray, List.set_cons_zero, List.set_cons_succ, i64_w, i32_w]
      rfl
    refine pure_ (i := 4) (N := some 63) (v := ?_) (a' := ?_) #[true, true, true, true, true, false, false, false, false, false, false, false, false] rfl rfl (by kernel_rfl) (fun _ _ _ h => h) (Or.inl ⟨by rfl, ?_⟩) ?_ ?_
    rotate_left
    · intro w'
      go_simp
      with_reducible rfl
    rotate_left
    · simp only [Act.put, List.setIfInBounds_toArray, List.set_cons_zero, List.set_cons_succ, i64_w, i32_w]
      rfl
    refine take_ (i := 5) (N := some 64) (v := ?_) (a' := ?_) #[true, true, true, true, true, true, false, false, false, false, false, false, false] rfl rfl (by kernel_rfl) (fun _ _ _ h => h) (Or.inl ⟨by rfl, ?_⟩) hHeld ?_ ?_
    rotate_left
    · rintro w' ⟨s0, s1⟩
      go_simp
      with_reducible rfl
    rotate_left
    · simp only [Act.put, List.setIfInBounds_toArray, List.set_cons_zero, List.set_cons_succ, i64_w, i32_w]
      rfl
    refine pure_ (i := 6) (N := some 65) (v := ?_) (a' := ?_) #[true, true, true, true, true, true, true, false, false, false, false, false, false] rfl rfl (by kernel_rfl) (fun _ _ _ h => h) (Or.inl ⟨by rfl, ?_⟩) ?_ ?_
    rotate_left
    · intro w'
      go_simp
      with_reducible rfl
    rotate_left
    · simp only [Act.put, List.setIfInBounds_toArray, List.set_cons_zero, List.set_cons_succ, i64_w, i32_w]
      rfl
    refine pure_ (i := 7) (N := some 66) (v := ?_) (a' := ?_) #[true, true, true, true, true, true, true, true, false, false, false, false, false] rfl rfl (by kernel_rfl) (fun _ _ _ h => h) (Or.inl ⟨by rfl, ?_⟩) ?_ ?_
    rotate_left
    · intro w'
      go_simp
      with_reducible rfl
    rotate_left
    · simp only [Act.put, List.setIfInBounds_toArray, List.set_cons_zero, List.set_cons_succ, i64_w, i32_w]
      rfl
    refine pure_ (i := 8) (N := some 67) (v := ?_) (a' := ?_) #[true, true, true, true, true, true, true, true, true, false, false, false, false] rfl rfl (by kernel_rfl) (fun _ _ _ h => h) (Or.inl ⟨by rfl, ?_⟩) ?_ ?_
    rotate_left
    · intro w'
      go_simp
      with_reducible rfl
    rotate_left
    · simp only [Act.put, List.setIfInBounds_toArray, List.set_cons_zero, List.set_cons_succ, i64_w, i32_w]
      rfl
    refine take_ (i := 9) (N := some 68) (v := ?_) (a' := ?_) #[true, true, true, true, true, true, true, true, true, true, false, false, false] rfl rfl (by kernel_rfl) (fun _ _ _ h => h) (Or.inl ⟨by rfl, ?_⟩) hHeld ?_ ?_
    rotate_left
    · rintro w' ⟨s0, s1⟩
      go_simp
      with_reducible rfl
    rotate_left
    · simp only [Act.put, List.setIfInBounds_toArray, List.set_cons_zero, List.set_cons_succ, i64_w, i32_w]
      rfl
    refine pure_ (i := 10) (N := some 69) (v := ?_) (a' := ?_) #[true, true, true, true, true, true, true, true, true, true, true, false, false] rfl rfl (by kernel_rfl) (fun _ _ _ h => h) (Or.inl ⟨by rfl, ?_⟩) ?_ ?_
    rotate_left
    · intro w'
      go_simp
      with_reducible rfl
    rotate_left
    · simp only [Act.put, List.setIfInBounds_toArray, List.set_cons_zero, List.set_cons_succ, i64_w, i32_w]
      rfl
    refine pure_ (i := 11) (N := some 70) (v := ?_) (a' := ?_) #[true, true, true, true, true, true, true, true, true, true, true, true, false] rfl rfl (by kernel_rfl) (fun _ _ _ h => h) (Or.inl ⟨by rfl, ?_⟩) ?_ ?_
    rotate_left
    · intro w'
      go_simp
      with_reducible rfl
    rotate_left
    · simp only [Act.put, List.setIfInBounds_toArray, List.set_cons_zero, List.set_cons_succ, i64_w, i32_w]
      rfl
    refine last_ (i := 12) (N := some 71) #[true, true, true, true, true, true, true, true, true, true, true, true, true] rfl rfl (by kernel_rfl) (by decide) (fun K hK => ?_)
    refine goes_ Tryz.func50 (by kernel_rfl) rfl #[.bool true] (by rfl) rfl rfl (by simp only [List.map_toArray, List.map_cons, List.map_nil]; rfl) ?_
    refine (HQ.out true _).mono ?_
    rintro e w' ⟨rfl, hw'⟩
    rw [hw']
    clear hw' w'
    refine ⟨_, rfl, ?_⟩
    refine hK.out _ _ ?_
    clear hK K
    refine norm_ (a' := ?_) ?_ ?_
    rotate_left
    · show Act.put _ (some 71) _ = _
      simp only [Act.put, List.setIfInBounds_toArray, List.set_cons_zero, List.set_cons_succ, i64_w, i32_w]
      rfl
    refine done_ (by kernel_rfl) ?_
    clear hHeld q1_2 k0
    go_wp2_with fail
    go_end0
    rw [HRS.out]
    exact RetCk.fine HBD.out (HE.out.chk.below (below_drew HB1.out))

end Go.Proofs.YtkipjalfgdfaiaaGreatDoor
namespace Go.Proofs.YtkipjalfgdfaiaaGreatDoor
set_option linter.unusedVariables false
set_option linter.unusedSimpArgs false
open Go.RowKit Go.Proofs.YtkipjalfgdfaiaaGreatDoorW.PrintWords Go.Proofs.YtkipjalfgdfaiaaGreatDoorW.PrintLast Go.Proofs.YtkipjalfgdfaiaaGreatDoorW.PrintMore Go.Proofs.YtkipjalfgdfaiaaGreatDoor.PTk

theorem repK_one (res : ByteArray → Int × ByteArray × Int) (m : Nd) (deep : Nat) (c : Gs) : repK res [m] deep c = if m.f0 = 8 ∨ m.f0 = 10 ∨ m.f0 = 12 then none else partN res m deep c := by rw [repK]
theorem repK_dead (res : ByteArray → Int × ByteArray × Int) {ks : List Nd} (deep : Nat) (c : Gs) (h : ks.length ≠ 1) : repK res ks deep c = none := by
  match ks with
  | [] => rw [repK]; simp
  | [m] => exact absurd rfl h
  | a :: b :: t => rw [repK]; simp
theorem repeatC_any (res : ByteArray → Int × ByteArray × Int) (m0 : Int) {n : Nd} (hP : ∀ k ∈ n.f7, PartC res m0 k) (deep : Nat) (c : Gs) (w0 w : World) (g mb : Nat) (v : Value) (h : RdN w0 n v) (E : Env w0 w m0 g mb c) (hd : deep ≤ 50) :
    Calls Tryz.prog 71 #[.pointer (some ⟨g, 0, none⟩), v, .int .i64 (deep : Int)] w (RetCk (if (onlyB n n.f1 n.f2 n.f3 false e0 n.f7.length && decide (0 ≤ n.f1) && decide (n.f1 ≤ 2) && decide (0 ≤ n.f2) && decide (n.f2 ≤ 100) && (n.f3 == -1 || (decide (n.f2 ≤ n.f3) && decide (n.f3 ≤ 100)))) = true then repK res n.f7 deep c else none) w g mb) := by
  cases ho : onlyB n n.f1 n.f2 n.f3 false e0 n.f7.length with
  | false => simp only [Bool.false_and, Bool.false_eq_true, if_false]; exact rep_only res m0 deep c w0 w g mb v h E hd ho
  | true =>
  by_cases h1 : n.f7.length = 1
  rotate_left
  · rw [repK_dead res deep c h1, ite_self]; exact rep_m0 res m0 deep c w0 w g mb v h E hd ho h1
  by_cases h2 : 0 ≤ n.f1
  rotate_left
  · simp only [decide_eq_false h2, Bool.and_false, Bool.false_and, Bool.false_eq_true, if_false]; exact rep_m1 res m0 deep c w0 w g mb v h E hd ho h1 h2
  by_cases h3 : n.f1 ≤ 2
  rotate_left
  · simp only [decide_eq_false h3, Bool.and_false, Bool.false_and, Bool.false_eq_true, if_false]; exact rep_m2 res m0 deep c w0 w g mb v h E hd ho h1 h2 h3
  by_cases h4 : 0 ≤ n.f2
  rotate_left
  · simp only [decide_eq_false h4, Bool.and_false, Bool.false_and, Bool.false_eq_true, if_false]; exact rep_a0 res m0 deep c w0 w g mb v h E hd ho h1 h2 h3 h4
  by_cases h5 : n.f2 ≤ 100
  rotate_left
  · simp only [decide_eq_false h5, Bool.and_false, Bool.false_and, Bool.false_eq_true, if_false]; exact rep_a1 res m0 deep c w0 w g mb v h E hd ho h1 h2 h3 h4 h5
  have h0 : 0 < n.f7.length := by omega
  obtain ⟨m, hm⟩ : ∃ m, n.f7[0]'h0 = m := ⟨_, rfl⟩
  have hmem : m ∈ n.f7 := hm ▸ List.getElem_mem h0
  have hks : n.f7 = [m] := by
    match hf : n.f7, h1 with
    | [x], _ => have : m = x := by rw [← hm]; simp [hf]
                rw [this]
  by_cases h6 : n.f3 = -1
  · rw [show (n.f3 == -1) = true by rw [h6]; rfl]
    simp only [decide_eq_true h2, decide_eq_true h3, decide_eq_true h4, decide_eq_true h5, Bool.and_true, Bool.true_or, if_true]
    rw [show repK res n.f7 deep c = repK res [m] deep c by rw [hks], repK_one]
    by_cases g8 : m.f0 = 8
    · rw [if_pos (.inl g8)]; exact rep_k8u res m0 deep c w0 w g mb v h E hd ho h1 h2 h3 h4 h5 h6 m h0 hm g8
    by_cases g10 : m.f0 = 10
    · rw [if_pos (.inr (.inl g10))]; exact rep_k10u res m0 deep c w0 w g mb v h E hd ho h1 h2 h3 h4 h5 h6 m h0 hm g10
    by_cases g12 : m.f0 = 12
    · rw [if_pos (.inr (.inr g12))]; exact rep_k12u res m0 deep c w0 w g mb v h E hd ho h1 h2 h3 h4 h5 h6 m h0 hm g12
    rw [if_neg (fun hh => by rcases hh with hh | hh | hh; exact g8 hh; exact g10 hh; exact g12 hh)]
    exact rep_liveu res m0 deep c w0 w g mb v h E hd ho h1 h2 h3 h4 h5 h6 m h0 hm g8 g10 g12 (hP m hmem)
  · rw [show (n.f3 == -1) = false by rw [beq_eq_false_iff_ne]; exact h6]
    by_cases h7 : n.f2 ≤ n.f3
    rotate_left
    · simp only [decide_eq_false h7, Bool.and_false, Bool.false_and, Bool.false_or, Bool.false_eq_true, if_false]; exact rep_b0 res m0 deep c w0 w g mb v h E hd ho h1 h2 h3 h4 h5 h6 h7
    by_cases h8 : n.f3 ≤ 100
    rotate_left
    · simp only [decide_eq_false h8, Bool.and_false, Bool.false_and, Bool.false_or, Bool.false_eq_true, if_false]; exact rep_b1 res m0 deep c w0 w g mb v h E hd ho h1 h2 h3 h4 h5 h6 h7 h8
    simp only [decide_eq_true h2, decide_eq_true h3, decide_eq_true h4, decide_eq_true h5, decide_eq_true h7, decide_eq_true h8, Bool.and_true, Bool.or_true, if_true]
    rw [show repK res n.f7 deep c = repK res [m] deep c by rw [hks], repK_one]
    by_cases g8 : m.f0 = 8
    · rw [if_pos (.inl g8)]; exact rep_k8v res m0 deep c w0 w g mb v h E hd ho h1 h2 h3 h4 h5 h6 h7 h8 m h0 hm g8
    by_cases g10 : m.f0 = 10
    · rw [if_pos (.inr (.inl g10))]; exact rep_k10v res m0 deep c w0 w g mb v h E hd ho h1 h2 h3 h4 h5 h6 h7 h8 m h0 hm g10
    by_cases g12 : m.f0 = 12
    · rw [if_pos (.inr (.inr g12))]; exact rep_k12v res m0 deep c w0 w g mb v h E hd ho h1 h2 h3 h4 h5 h6 h7 h8 m h0 hm g12
    rw [if_neg (fun hh => by rcases hh with hh | hh | hh; exact g8 hh; exact g10 hh; exact g12 hh)]
    exact rep_livev res m0 deep c w0 w g mb v h E hd ho h1 h2 h3 h4 h5 h6 h7 h8 m h0 hm g8 g10 g12 (hP m hmem)
theorem part_step (b : ByteArray) (hal : AliasIs b) (m0 : Int) {n : Nd} (hP : ∀ k ∈ n.f7, PartC (resolveL (rowsB b)) m0 k) (hB : ∀ k ∈ n.f7, BodyC (resolveL (rowsB b)) m0 k) (hw : weightN n ≤ 2147483648) : PartC (resolveL (rowsB b)) m0 n := by
  intro deep c w0 w g mb v h E hd
  have hwith : ∀ c' v W', RdN w0 n v → Env w0 W' m0 g mb c' → Calls Tryz.prog 73 #[.pointer (some ⟨g, 0, none⟩), v, .int .i64 (deep : Int)] W' (RetCk (withK (resolveL (rowsB b)) n.f7 deep c') W' g mb) :=
    fun c' v W' hr hE => withC_any _ m0 hB deep c' w0 W' g mb v hr hE hd
  rw [partN_eq]
  by_cases k1 : n.f0 = 1
  · rw [if_pos k1]; exact part_char (resolveL (rowsB b)) m0 deep c w0 w g mb v h E hd k1
  rw [if_neg k1]
  by_cases k2 : n.f0 = 2
  · rw [if_pos (.inl k2)]; exact part_any (resolveL (rowsB b)) m0 deep c w0 w g mb v h E hd k2
  by_cases k14 : n.f0 = 14
  · rw [if_pos (.inr k14)]; exact part_cluster (resolveL (rowsB b)) m0 deep c w0 w g mb v h E hd k14
  rw [if_neg (fun hh => hh.elim k2 k14)]
  by_cases k3 : n.f0 = 3
  · rw [if_pos k3]; exact part_class (resolveL (rowsB b)) m0 deep c w0 w g mb v h E hd k3 (fun v W' hr hb => class_any b hal m0 n (deep + 1) w0 W' v hr (E.bel.trans (hb.mono E.bel.size)) E.tv hw)
  rw [if_neg k3]
  by_cases k5 : n.f0 = 5
  · rw [if_pos k5]; exact part_prop (resolveL (rowsB b)) m0 deep c w0 w g mb v h E hd k5 (fun v W' hr hb => propT_any b hal hr m0 W' ((E.tv.stay E.bel).stay hb).max (by have := weight_name hw; omega))
  rw [if_neg k5]
  by_cases k12 : n.f0 = 12
  · rw [if_pos k12]; exact part_assert (resolveL (rowsB b)) m0 deep c w0 w g mb v h E hd k12
  rw [if_neg k12]
  by_cases k13 : n.f0 = 13
  · rw [if_pos k13]; exact part_back (resolveL (rowsB b)) m0 deep c w0 w g mb v h E hd k13
  rw [if_neg k13]
  by_cases k8 : n.f0 = 8
  · rw [if_pos k8]; exact part_repeat (resolveL (rowsB b)) m0 deep c w0 w g mb v h E hd k8 _ (fun v W' hr hE => repeatC_any _ m0 hP deep c w0 W' g mb v hr hE hd)
  rw [if_neg k8]
  by_cases k9 : n.f0 = 9
  · rw [if_pos k9]; exact part_group (resolveL (rowsB b)) m0 deep c w0 w g mb v h E hd k9 (by have := weight_name hw; omega) hwith
  rw [if_neg k9]
  by_cases k10 : n.f0 = 10
  · rw [if_pos k10]; exact part_look (resolveL (rowsB b)) m0 deep c w0 w g mb v h E hd k10 (fun v W' hr hE => hwith c v W' hr hE)
  rw [if_neg k10]
  by_cases k11 : n.f0 = 11
  · rw [if_pos k11]; exact part_atomic (resolveL (rowsB b)) m0 deep c w0 w g mb v h E hd k11 (fun v W' hr hE => hwith c v W' hr hE)
  rw [if_neg k11]
  refine part_default (resolveL (rowsB b)) m0 deep c w0 w g mb v h E hd ?_
  intro k hk
  simp only [List.mem_cons, List.not_mem_nil, or_false] at hk
  rcases hk with rfl | rfl | rfl | rfl | rfl | rfl | rfl | rfl | rfl | rfl | rfl <;> assumption

end Go.Proofs.YtkipjalfgdfaiaaGreatDoor
namespace Go.Proofs.YtkipjalfgdfaiaaGreatDoor
set_option linter.unusedVariables false
set_option linter.unusedSimpArgs false
open Go.RowKit Go.Proofs.YtkipjalfgdfaiaaGreatDoorW.PrintWords Go.Proofs.YtkipjalfgdfaiaaGreatDoorW.PrintLast Go.Proofs.YtkipjalfgdfaiaaGreatDoorW.PrintMore Go.Proofs.YtkipjalfgdfaiaaGreatDoor.PTk

attribute [local go_sem ↓] Go.wp_at_zero Go.wp_at_succ
set_option maxHeartbeats 4000000 in
set_option maxRecDepth 100000 in
theorem body_only (res : ByteArray → Int × ByteArray × Int) (m0 : Int) {n : Nd} (deep : Nat) (c : Gs) (w0 w : World) (g mb : Nat) (v : Value) (h : RdN w0 n v) (E : Env w0 w m0 g mb c) (hd : deep ≤ 50) (ho : onlyB n 0 0 0 false e0 n.f7.length = false) :
    Calls Tryz.prog 31 #[.pointer (some ⟨g, 0, none⟩), v, .int .i64 (deep : Int)] w (RetCk (none) w g mb) := by
  have HM := Aside0.mk must_any
  have hO := fun A6 c6 A7 c7 (hv : v = ndV n A6 c6 A7 c7) W => only_any h 0 0 0 0 false e0 none A7 0 0 n.f7.length c7 W
  rw [ho] at hO
  obtain ⟨A6, c6, A7, c7, rfl, -, -, l7, hC⟩ := h
  have HO := Aside0.mk (hO A6 c6 A7 c7 rfl)
  have HE := Aside0.mk E
  clear hO ho
  clear hC
  go_enter Tryz.func31, Tryz.ntmps31
  go_wp2_with fail
  refine (HO.out _).mono ?_
  rintro e w1 ⟨rfl, hb1⟩
  have HB1 := Aside0.mk (below_box hb1)
  clear hb1
  go_wp2_with fail
  exact ⟨rfl, RetCk.dead (But.of_below HB1.out)⟩
set_option maxHeartbeats 4000000 in
set_option maxRecDepth 100000 in
theorem body_few (res : ByteArray → Int × ByteArray × Int) (m0 : Int) {n : Nd} (deep : Nat) (c : Gs) (w0 w : World) (g mb : Nat) (v : Value) (h : RdN w0 n v) (E : Env w0 w m0 g mb c) (hd : deep ≤ 50) (ho : onlyB n 0 0 0 false e0 n.f7.length = true) (h7 : n.f0 = 7) (h1 : ¬ 1 < n.f7.length) :
    Calls Tryz.prog 31 #[.pointer (some ⟨g, 0, none⟩), v, .int .i64 (deep : Int)] w (RetCk (none) w g mb) := by
  have HM := Aside0.mk must_any
  have hO := fun A6 c6 A7 c7 (hv : v = ndV n A6 c6 A7 c7) W => only_any h 0 0 0 0 false e0 none A7 0 0 n.f7.length c7 W
  rw [ho] at hO
  obtain ⟨A6, c6, A7, c7, rfl, -, -, l7, hC⟩ := h
  have HO := Aside0.mk (hO A6 c6 A7 c7 rfl)
  have HE := Aside0.mk E
  clear hO ho
  have t7 : (n.f0 == 7) = true := by rw [h7]; rfl
  have hz : decide ((1 : Int) < (n.f7.length : Int)) = false := decide_eq_false (by omega)
  clear hC h7 h1
  go_enter Tryz.func31, Tryz.ntmps31
  go_wp2_with fail
  refine (HO.out _).mono ?_
  rintro e w1 ⟨rfl, hb1⟩
  have HB1 := Aside0.mk (below_box hb1)
  obtain ⟨hbx1, hlt1⟩ := box_after hb1
  have HX1 := Aside0.mk hbx1
  have q1_0 := rowc hbx1 0 _ rfl
  have q1_1 := rowc hbx1 1 _ rfl
  have q1_2 := rowc hbx1 2 _ rfl
  have q1_3 := rowc hbx1 3 _ rfl
  have q1_4 := rowc hbx1 4 _ rfl
  have q1_5 := rowc hbx1 5 _ rfl
  have q1_6 := rowc hbx1 6 _ rfl
  have q1_7 := rowc hbx1 7 _ rfl
  clear hb1 hbx1
  go_wp2_with fail
  refine (HM.out false _).mono ?_
  rintro e w2 ⟨rfl, hb2⟩
  have HB2 := Aside0.mk (below_to HB1.out (below_to (below_alloc (Below.refl _ _) _) hb2))
  clear hb2
  go_wp2_with fail
  exact ⟨rfl, RetCk.dead (But.of_below HB2.out)⟩
set_option maxHeartbeats 4000000 in
set_option maxRecDepth 100000 in
theorem body_alt (res : ByteArray → Int × ByteArray × Int) (m0 : Int) {n : Nd} (deep : Nat) (c : Gs) (w0 w : World) (g mb : Nat) (v : Value) (h : RdN w0 n v) (E : Env w0 w m0 g mb c) (hd : deep ≤ 50) (ho : onlyB n 0 0 0 false e0 n.f7.length = true) (h7 : n.f0 = 7) (h1 : 1 < n.f7.length) (hlen : n.f7.length ≤ 2147483648) (hlk : ∀ s ∈ n.f7, s.f7.length ≤ 2147483648) (hP : ∀ s ∈ n.f7, ∀ k ∈ s.f7, PartC res m0 k) :
    Calls Tryz.prog 31 #[.pointer (some ⟨g, 0, none⟩), v, .int .i64 (deep : Int)] w (RetCk (seqK res n.f7 deep c) w g mb) := by
  have HM := Aside0.mk must_any
  have hO := fun A6 c6 A7 c7 (hv : v = ndV n A6 c6 A7 c7) W => only_any h 0 0 0 0 false e0 none A7 0 0 n.f7.length c7 W
  rw [ho] at hO
  obtain ⟨A6, c6, A7, c7, rfl, -, -, l7, hC⟩ := h
  have HO := Aside0.mk (hO A6 c6 A7 c7 rfl)
  have HE := Aside0.mk E
  clear hO ho
  have t7 : (n.f0 == 7) = true := by rw [h7]; rfl
  obtain ⟨ad, hA7⟩ : ∃ ad, A7 = some ad := by obtain ⟨ad, _, _, _, _, h, _⟩ := kids_at hC 0 (by omega); exact ⟨ad, h⟩
  subst hA7
  have HKID : Aside0 (∀ j (hj : j < n.f7.length) (W' : World), But (Ex g mb) W' W' → True) := ⟨fun _ _ _ _ => trivial⟩
  have HKID2 := Aside0.mk (fun j hj => kids_at hC j hj)
  have HPP := Aside0.mk hP
  have HLEN := Aside0.mk hlen
  have HLK := Aside0.mk hlk
  obtain ⟨R, hR⟩ : ∃ R, seqK res n.f7 deep c = R := ⟨_, rfl⟩
  rw [hR]
  have HR0 := Aside0.mk hR
  have hd1 : (1 : Int) < (n.f7.length : Int) := by omega
  have hd2 : decide ((1 : Int) < (n.f7.length : Int)) = true := decide_eq_true hd1
  clear hC h7 h1 hP hlen hlk hR HKID hd1
  have HKID : Aside0 (∀ j (hj : j < n.f7.length) (W1 W' : World), But (Ex g mb) W1 W' → Below w0.heap.size w0 W' → ∃ P6 p6 P7 p7, KidAt W' (ad.add (j * 8)) n.f7[j] P6 p6 P7 p7 ∧ RdN w0 n.f7[j] (ndV n.f7[j] P6 p6 P7 p7) ∧ (∀ k ∈ n.f7[j].f7, PartC res m0 k) ∧ n.f7[j].f7.length ≤ 2147483648) := ⟨fun j hj W1 W' _ hb => by obtain ⟨ad', P6, p6, P7, p7, e, hk, hr⟩ := HKID2.out j hj; cases e; exact ⟨P6, p6, P7, p7, hk.up hb, hr, HPP.out _ (List.getElem_mem hj), HLK.out _ (List.getElem_mem hj)⟩⟩
  go_enter Tryz.func31, Tryz.ntmps31
  go_wp2_with fail
  refine (HO.out _).mono ?_
  rintro e w1 ⟨rfl, hb1⟩
  have HB1 := Aside0.mk (below_box hb1)
  obtain ⟨hbx1, hlt1⟩ := box_after hb1
  have HX1 := Aside0.mk hbx1
  have q1_0 := rowc hbx1 0 _ rfl
  have q1_1 := rowc hbx1 1 _ rfl
  have q1_2 := rowc hbx1 2 _ rfl
  have q1_3 := rowc hbx1 3 _ rfl
  have q1_4 := rowc hbx1 4 _ rfl
  have q1_5 := rowc hbx1 5 _ rfl
  have q1_6 := rowc hbx1 6 _ rfl
  have q1_7 := rowc hbx1 7 _ rfl
  clear hb1 hbx1
  go_wp2_with fail
  refine (HM.out true _).mono ?_
  rintro e wS ⟨rfl, hbS⟩
  have hbS := below_to (below_alloc (Below.refl _ _) _) hbS
  have HBW := Aside0.mk (below_to HB1.out hbS)
  have hx2 := (hbS.block _ hlt1).trans HX1.out
  have q7 := rowc hx2 7 _ rfl
  have HBS : Aside0 (But (Ex g mb) w wS) := ⟨But.of_below HBW.out⟩
  have HES := Aside0.mk (HE.out.step HBW.out)
  clear hbS hx2 hlt1 q1_0 q1_1 q1_2 q1_3 q1_4 q1_5 q1_6 q1_7
  go_wp2_with fail
  clear q7
  go_loopg [30] (n.f7).length (fun gk v30 w' => ∃ (j : Nat) (c' : Gs), v30 = .int .i64 (j : Int) ∧ Aside0 (j ≤ (n.f7).length ∧ gk = (n.f7).length - j) ∧ Aside0 (seqK res ((n.f7).drop j) deep c' = R) ∧ Aside0 (Env w0 w' m0 g mb c') ∧ Aside0 (But (Ex g mb) wS w'))
  case atStart => exact ⟨0, c, by first | rfl | simp, ⟨Nat.zero_le _, rfl⟩, ⟨by rw [List.drop_zero]; exact HR0.out⟩, HES, ⟨But.refl _ _⟩⟩
  case round =>
    obtain ⟨j, c', rfl, HA, HK, HE1, HB1⟩ := hrel
    by_cases hj : j < (n.f7).length
    rotate_left
    · have hjb : decide (j < (n.f7).length) = false := decide_eq_false hj
      have HRN : Aside0 (R = some c') := ⟨by rw [← HK.out, List.drop_eq_nil_of_le (by omega), seqK_nil]⟩
      clear hj
      go_wp2_with fail
      go_end0
      rw [HRN.out]
      exact RetCk.fine (HBS.out.trans HB1.out) HE1.out.chk
    have hjd : decide (j < (n.f7).length) = true := decide_eq_true hj
    obtain ⟨P6, p6, P7, p7, hk, rk, hpk, hml⟩ := HKID.out j hj _ wr HB1.out HE1.out.bel
    obtain ⟨x0, x1, x2, x3, x4, x5, x6, x7⟩ := hk
    have hkc := HK.out
    rw [List.drop_eq_getElem_cons hj, seqK_cons] at hkc
    obtain ⟨m, hm⟩ : ∃ m, (n.f7)[j] = m := ⟨_, rfl⟩
    rw [hm] at x0 x1 x2 x3 x4 x5 x6 x7 hkc hpk rk hml
    obtain ⟨REST, hrest⟩ : ∃ REST : Gs → Option Gs, (fun c2 => seqK res ((n.f7).drop (j + 1)) deep c2) = REST := ⟨_, rfl⟩
    have HREST := Aside0.mk hrest
    rw [hrest] at hkc
    rw [seqN_eq] at hkc
    have hO := fun W => only_any rk 0 0 0 0 false e0 none P7 0 0 m.f7.length p7 W
    have hCm : Kd.C kN w0 P7 m.f7.length m.f7 := by obtain ⟨_, _, _, _, e, _, _, _, hh⟩ := rk; cases e; exact hh
    have HCM := Aside0.mk hCm
    have HML := Aside0.mk hml
    have HDP := Aside0.mk hd
    clear hCm hml
    have HKC := Aside0.mk hkc
    have HPK := Aside0.mk hpk
    have HRK := Aside0.mk rk
    have HJ := Aside0.mk hj
    clear hm hkc hpk rk hrest
    by_cases t6 : m.f0 = 6
    rotate_left
    · have HRN : Aside0 (R = none) := ⟨by rw [← HKC.out, if_neg (fun h => t6 h.1)]; rfl⟩
      have s6 : (m.f0 == 6) = false := by rw [beq_eq_false_iff_ne]; exact t6
      clear t6
      go_wp2_with fail
      refine (HM.out false _).mono ?_
      rintro e v1 ⟨rfl, hb1⟩
      have HV1 := Aside0.mk (below_box hb1)
      clear hb1 x0 x1 x2 x3 x4 x5 x6 x7
      go_wp2_with fail
      exact ⟨rfl, by rw [HRN.out]; exact RetCk.dead (HBS.out.trans (HB1.out.trans (But.of_below HV1.out)))⟩
    have s6 : (m.f0 == 6) = true := by rw [t6]; rfl
    cases ho : onlyB m 0 0 0 false e0 m.f7.length with
    | false =>
      have HRN : Aside0 (R = none) := ⟨by rw [← HKC.out, if_neg (fun h => by rw [ho] at h; cases h.2)]; rfl⟩
      rw [ho] at hO
      have HO1 := Aside0.mk hO
      clear t6 ho hO
      go_wp2_with fail
      refine (HM.out true _).mono ?_
      rintro e v1 ⟨rfl, hb1⟩
      have HV1 := Aside0.mk (below_box hb1)
      obtain ⟨hx1, hl1⟩ := box_after hb1
      have HX1b := Aside0.mk hx1
      have y0 := rowc hx1 0 _ rfl
      have y1 := rowc hx1 1 _ rfl
      have y2 := rowc hx1 2 _ rfl
      have y3 := rowc hx1 3 _ rfl
      have y4 := rowc hx1 4 _ rfl
      have y5 := rowc hx1 5 _ rfl
      have y6 := rowc hx1 6 _ rfl
      have y7 := rowc hx1 7 _ rfl
      clear hb1 hx1 x0 x1 x2 x3 x4 x5 x6 x7
      go_wp2_with fail
      refine (HO1.out _).mono ?_
      rintro e v2 ⟨rfl, hb2⟩
      have HV2 := Aside0.mk (below_to HV1.out hb2)
      clear hb2 y0 y1 y2 y3 y4 y5 y6 y7
      go_wp2_with fail
      exact ⟨rfl, by rw [HRN.out]; exact RetCk.dead (HBS.out.trans (HB1.out.trans (But.of_below HV2.out)))⟩
    | true =>
      have hkc2 := HKC.out
      rw [if_pos ⟨t6, ho⟩] at hkc2
      have HK0 := Aside0.mk hkc2
      rw [ho] at hO
      have HO1 := Aside0.mk hO
      clear t6 ho hO hkc2
      go_wp2_with fail
      refine (HM.out true _).mono ?_
      rintro e v1 ⟨rfl, hb1⟩
      have HV1 := Aside0.mk (below_box hb1)
      obtain ⟨hx1, hl1⟩ := box_after hb1
      have HX1b := Aside0.mk hx1
      have y0 := rowc hx1 0 _ rfl
      have y1 := rowc hx1 1 _ rfl
      have y2 := rowc hx1 2 _ rfl
      have y3 := rowc hx1 3 _ rfl
      have y4 := rowc hx1 4 _ rfl
      have y5 := rowc hx1 5 _ rfl
      have y6 := rowc hx1 6 _ rfl
      have y7 := rowc hx1 7 _ rfl
      clear hb1 hx1 x0 x1 x2 x3 x4 x5 x6 x7
      go_wp2_with fail
      refine (HO1.out _).mono ?_
      rintro e v2 ⟨rfl, hb2⟩
      have HV2 := Aside0.mk (below_to HV1.out hb2)
      have hx2 := (hb2.block _ hl1).trans HX1b.out
      have z7 := rowc hx2 7 _ rfl
      have z0 := rowc hx2 0 _ rfl
      have hl2 := Nat.lt_of_lt_of_le hl1 hb2.size
      clear hb2 hx2 hl1 y0 y1 y2 y3 y4 y5 y6 y7
      have HE2 := Aside0.mk (HE1.out.step HV2.out)
      have HB2 := Aside0.mk (HB1.out.trans (But.of_below HV2.out))
      go_wp2_with fail
      clear z7 z0 hl2
      go_loopg [46] m.f7.length (fun gk vi w' => ∃ (i : Nat) (c2 : Gs), vi = .int .i64 (i : Int) ∧ Aside0 (i ≤ m.f7.length ∧ gk = m.f7.length - i) ∧ Aside0 ((partK res (m.f7.drop i) deep c2).bind REST = R) ∧ Aside0 (Env w0 w' m0 g mb c2) ∧ Aside0 (But (Ex g mb) wS w'))
      case atStart => exact ⟨0, c', by first | rfl | simp, ⟨Nat.zero_le _, rfl⟩, ⟨by rw [List.drop_zero]; exact HK0.out⟩, HE2, HB2⟩
      case round =>
        obtain ⟨i, c2, rfl, HA2, HK2, HE3, HB3⟩ := hrel
        by_cases hi : i < m.f7.length
        rotate_left
        · have hib : decide (i < m.f7.length) = false := decide_eq_false hi
          have HKN : Aside0 (seqK res ((n.f7).drop (j + 1)) deep c2 = R) := ⟨by have h := HK2.out; rw [List.drop_eq_nil_of_le (by omega), partK_nil, Option.bind_some, ← HREST.out] at h; exact h⟩
          clear hi
          go_wp2_with fail
          go_roundg ((n.f7).length - j - 1)
          case measure => have := HA.out; have := HJ.out; omega
          case rel => exact ⟨j + 1, c2, by have h1 := HLEN.out; have h2 := HJ.out; first | rfl | (rw [w64c (by omega) (by omega)]; rfl) | (exact congrArg _ (by omega)), ⟨by have := HJ.out; omega, by omega⟩, HKN, HE3, HB3⟩
        have hid : decide (i < m.f7.length) = true := decide_eq_true hi
        obtain ⟨ad2, Q6, q6, Q7, q7, rfl, hk2, rk2⟩ := kids_at HCM.out i hi
        have hmem := List.getElem_mem hi
        obtain ⟨y0, y1, y2, y3, y4, y5, y6, y7⟩ := hk2.up HE3.out.bel
        have hkc := HK2.out
        rw [List.drop_eq_getElem_cons hi, partK_cons] at hkc
        have hpc := fun o => HPK.out _ hmem deep c2 w0 (wr.alloc o) g mb _ rk2 (HE3.out.step (below_alloc (Below.refl _ _) o)) HDP.out
        obtain ⟨kk, hkk⟩ : ∃ kk, m.f7[i] = kk := ⟨_, rfl⟩
        rw [hkk] at y0 y1 y2 y3 y4 y5 y6 y7 hkc hpc
        obtain ⟨r, hr⟩ : ∃ r, partN res kk deep c2 = r := ⟨_, rfl⟩
        rw [hr] at hpc hkc
        have HPC := Aside0.mk hpc
        have HKC2 := Aside0.mk hkc
        have HI := Aside0.mk hi
        have HBA : Aside0 (∀ o, But (Ex g mb) wS (wr.alloc o)) := ⟨fun o => HB3.out.trans (But.of_below (below_alloc (Below.refl _ _) o))⟩
        have HEA : Aside0 (∀ o, Env w0 (wr.alloc o) m0 g mb c2) := ⟨fun o => HE3.out.step (below_alloc (Below.refl _ _) o)⟩
        clear hk2 rk2 hmem hkc hpc hkk hr
        go_wp2_with fail
        refine (HPC.out _).mono ?_
        intro e v3 hr3
        clear y0 y1 y2 y3 y4 y5 y6 y7
        cases r with
        | none =>
          obtain ⟨hb, rfl⟩ := hr3
          have HBT := Aside0.mk ((HBA.out _).trans hb)
          have HRN : Aside0 (R = none) := ⟨by rw [← HKC2.out]; rfl⟩
          clear hb
          go_wp2_with fail
          exact ⟨rfl, by rw [HRN.out]; exact RetCk.dead (HBS.out.trans HBT.out)⟩
        | some c3 =>
          obtain ⟨hb, rfl, hk3⟩ := hr3
          have HBT := Aside0.mk ((HBA.out _).trans hb)
          have HET := Aside0.mk ((HEA.out _).next hb hk3)
          have HK3 : Aside0 ((partK res (m.f7.drop (i + 1)) deep c3).bind REST = R) := ⟨by have h := HKC2.out; rw [Option.bind_some] at h; exact h⟩
          clear hb hk3
          go_wp2_with fail
          go_roundg (m.f7.length - i - 1)
          case measure => have := HA2.out; have := HI.out; omega
          case rel => exact ⟨i + 1, c3, by have h1 := HML.out; have h2 := HI.out; first | rfl | (rw [w64c (by omega) (by omega)]; rfl) | (exact congrArg _ (by omega)), ⟨by have := HI.out; omega, by omega⟩, HK3, HET, HBT⟩
set_option maxHeartbeats 4000000 in
set_option maxRecDepth 100000 in
theorem body_seq (res : ByteArray → Int × ByteArray × Int) (m0 : Int) {n : Nd} (deep : Nat) (c : Gs) (w0 w : World) (g mb : Nat) (v : Value) (h : RdN w0 n v) (E : Env w0 w m0 g mb c) (hd : deep ≤ 50) (ho : onlyB n 0 0 0 false e0 n.f7.length = true) (h7 : n.f0 ≠ 7) (hlk : n.f7.length ≤ 2147483648) (hP : ∀ k ∈ n.f7, PartC res m0 k) :
    Calls Tryz.prog 31 #[.pointer (some ⟨g, 0, none⟩), v, .int .i64 (deep : Int)] w (RetCk (seqK res [n] deep c) w g mb) := by
  have HM := Aside0.mk must_any
  have hO := fun A6 c6 A7 c7 (hv : v = ndV n A6 c6 A7 c7) W => only_any h 0 0 0 0 false e0 none A7 0 0 n.f7.length c7 W
  rw [ho] at hO
  have hrd0 := h
  obtain ⟨A6, c6, A7, c7, rfl, -, -, l7, hC⟩ := h
  have hrd := hrd0
  clear hrd0
  have HO := Aside0.mk (hO A6 c6 A7 c7 rfl)
  have HE := Aside0.mk E
  clear hO ho
  have t7 : (n.f0 == 7) = false := by rw [beq_eq_false_iff_ne]; exact h7
  have HRD := Aside0.mk hrd
  have HPP := Aside0.mk hP
  have HLK := Aside0.mk hlk
  obtain ⟨R, hR⟩ : ∃ R, seqK res [n] deep c = R := ⟨_, rfl⟩
  rw [hR]
  have HR0 := Aside0.mk hR
  clear hC h7 hP hlk hR hrd
  go_enter Tryz.func31, Tryz.ntmps31
  go_wp2_with fail
  refine (HO.out _).mono ?_
  rintro e w1 ⟨rfl, hb1⟩
  have HB1 := Aside0.mk (below_box hb1)
  obtain ⟨hbx1, hlt1⟩ := box_after hb1
  have HX1 := Aside0.mk hbx1
  have q1_0 := rowc hbx1 0 _ rfl
  have q1_1 := rowc hbx1 1 _ rfl
  have q1_2 := rowc hbx1 2 _ rfl
  have q1_3 := rowc hbx1 3 _ rfl
  have q1_4 := rowc hbx1 4 _ rfl
  have q1_5 := rowc hbx1 5 _ rfl
  have q1_6 := rowc hbx1 6 _ rfl
  have q1_7 := rowc hbx1 7 _ rfl
  clear hb1 hbx1
  go_wp2_with fail
  have hnS := heap_alloc_new w1 (.cells #[.int .i64 n.f0, .int .i64 n.f1, .int .i64 n.f2, .int .i64 n.f3, .bool n.f4, .string n.f5, .slice A6 n.f6.length c6, .slice A7 n.f7.length c7] 25)
  have hsS : (w1.alloc (.cells #[.int .i64 n.f0, .int .i64 n.f1, .int .i64 n.f2, .int .i64 n.f3, .bool n.f4, .string n.f5, .slice A6 n.f6.length c6, .slice A7 n.f7.length c7] 25)).heap.size = w1.heap.size + 1 := by simp
  have hbS : Below w1.heap.size w1 (w1.alloc (.cells #[.int .i64 n.f0, .int .i64 n.f1, .int .i64 n.f2, .int .i64 n.f3, .bool n.f4, .string n.f5, .slice A6 n.f6.length c6, .slice A7 n.f7.length c7] 25)) := below_alloc (Below.refl _ _) _
  obtain ⟨wS, hwS⟩ : ∃ wS, w1.alloc (.cells #[.int .i64 n.f0, .int .i64 n.f1, .int .i64 n.f2, .int .i64 n.f3, .bool n.f4, .string n.f5, .slice A6 n.f6.length c6, .slice A7 n.f7.length c7] 25) = wS := ⟨_, rfl⟩
  rw [hwS] at hnS hsS hbS ⊢
  clear hwS
  have HBW := Aside0.mk (below_to HB1.out hbS)
  have HBS : Aside0 (But (Ex g mb) w wS) := ⟨But.of_below HBW.out⟩
  have HES := Aside0.mk (HE.out.step HBW.out)
  have HKID : Aside0 (∀ W' : World, But (Ex g mb) wS W' → ∃ P6 p6 P7 p7, KidAt W' ⟨w1.heap.size, 0, none⟩ n P6 p6 P7 p7 ∧ RdN w0 n (ndV n P6 p6 P7 p7) ∧ (∀ k ∈ n.f7, PartC res m0 k) ∧ n.f7.length ≤ 2147483648) := ⟨fun W' hb => by
    have hB := (hb.block w1.heap.size (by omega) (fun e => by have h1 := HE.out.chk.glt; have h2 := HE.out.chk.mlt; rcases e with e | e <;> omega)).trans hnS
    exact ⟨A6, c6, A7, c7, ⟨rowc hB 0 _ rfl, rowc hB 1 _ rfl, rowc hB 2 _ rfl, rowc hB 3 _ rfl, rowc hB 4 _ rfl, rowc hB 5 _ rfl, rowc hB 6 _ rfl, rowc hB 7 _ rfl⟩, HRD.out, HPP.out, HLK.out⟩⟩
  have HLEN : Aside0 (([n] : List Nd).length ≤ 2147483648) := ⟨by simp⟩
  clear hnS hsS hbS hlt1 q1_0 q1_1 q1_2 q1_3 q1_4 q1_5 q1_6 q1_7
  go_wp2_with fail
  go_loopg [30] ([n]).length (fun gk v30 w' => ∃ (j : Nat) (c' : Gs), v30 = .int .i64 (j : Int) ∧ Aside0 (j ≤ ([n]).length ∧ gk = ([n]).length - j) ∧ Aside0 (seqK res (([n]).drop j) deep c' = R) ∧ Aside0 (Env w0 w' m0 g mb c') ∧ Aside0 (But (Ex g mb) wS w'))
  case atStart => exact ⟨0, c, by first | rfl | simp, ⟨Nat.zero_le _, rfl⟩, ⟨by rw [List.drop_zero]; exact HR0.out⟩, HES, ⟨But.refl _ _⟩⟩
  case round =>
    obtain ⟨j, c', rfl, HA, HK, HE1, HB1⟩ := hrel
    by_cases hj : j < ([n]).length
    rotate_left
    · have hjb : decide (j < ([n]).length) = false := decide_eq_false hj
      have HRN : Aside0 (R = some c') := ⟨by rw [← HK.out, List.drop_eq_nil_of_le (by omega), seqK_nil]⟩
      have hj1 : j = 1 := by have := HA.out.1; simp at this hj; omega
      subst hj1
      go_wp2_with fail
      go_end0
      rw [HRN.out]
      exact RetCk.fine (HBS.out.trans HB1.out) HE1.out.chk
    have hj0 : j = 0 := by simp at hj; omega
    subst hj0
    obtain ⟨P6, p6, P7, p7, hk, rk, hpk, hml⟩ := HKID.out wr HB1.out
    obtain ⟨x0, x1, x2, x3, x4, x5, x6, x7⟩ := hk
    have hkc : (seqN res n deep c').bind (fun c2 => seqK res (([n]).drop (0 + 1)) deep c2) = R := by have h := HK.out; rw [List.drop_zero, seqK_cons] at h; exact h
    obtain ⟨REST, hrest⟩ : ∃ REST : Gs → Option Gs, (fun c2 => seqK res (([n]).drop (0 + 1)) deep c2) = REST := ⟨_, rfl⟩
    rw [hrest] at hkc
    obtain ⟨m, hm⟩ : ∃ m, n = m := ⟨_, rfl⟩
    rw [hm] at x0 x1 x2 x3 x4 x5 x6 x7 hkc hpk rk hml
    simp only [Nat.zero_add] at x1 x2 x3 x4 x5 x6 x7
    have HREST := Aside0.mk hrest
    rw [seqN_eq] at hkc
    have hO := fun W => only_any rk 0 0 0 0 false e0 none P7 0 0 m.f7.length p7 W
    have hCm : Kd.C kN w0 P7 m.f7.length m.f7 := by obtain ⟨_, _, _, _, e, _, _, _, hh⟩ := rk; cases e; exact hh
    have HCM := Aside0.mk hCm
    have HML := Aside0.mk hml
    have HDP := Aside0.mk hd
    clear hCm hml
    have HKC := Aside0.mk hkc
    have HPK := Aside0.mk hpk
    have HRK := Aside0.mk rk
    have HJ := Aside0.mk hj
    clear hm hkc hpk rk hrest
    by_cases t6 : m.f0 = 6
    rotate_left
    · have HRN : Aside0 (R = none) := ⟨by rw [← HKC.out, if_neg (fun h => t6 h.1)]; rfl⟩
      have s6 : (m.f0 == 6) = false := by rw [beq_eq_false_iff_ne]; exact t6
      clear t6
      go_wp2_with fail
      refine (HM.out false _).mono ?_
      rintro e v1 ⟨rfl, hb1⟩
      have HV1 := Aside0.mk (below_box hb1)
      clear hb1 x0 x1 x2 x3 x4 x5 x6 x7
      go_wp2_with fail
      exact ⟨rfl, by rw [HRN.out]; exact RetCk.dead (HBS.out.trans (HB1.out.trans (But.of_below HV1.out)))⟩
    have s6 : (m.f0 == 6) = true := by rw [t6]; rfl
    cases ho : onlyB m 0 0 0 false e0 m.f7.length with
    | false =>
      have HRN : Aside0 (R = none) := ⟨by rw [← HKC.out, if_neg (fun h => by rw [ho] at h; cases h.2)]; rfl⟩
      rw [ho] at hO
      have HO1 := Aside0.mk hO
      clear t6 ho hO
      go_wp2_with fail
      refine (HM.out true _).mono ?_
      rintro e v1 ⟨rfl, hb1⟩
      have HV1 := Aside0.mk (below_box hb1)
      obtain ⟨hx1, hl1⟩ := box_after hb1
      have HX1b := Aside0.mk hx1
      have y0 := rowc hx1 0 _ rfl
      have y1 := rowc hx1 1 _ rfl
      have y2 := rowc hx1 2 _ rfl
      have y3 := rowc hx1 3 _ rfl
      have y4 := rowc hx1 4 _ rfl
      have y5 := rowc hx1 5 _ rfl
      have y6 := rowc hx1 6 _ rfl
      have y7 := rowc hx1 7 _ rfl
      clear hb1 hx1 x0 x1 x2 x3 x4 x5 x6 x7
      go_wp2_with fail
      refine (HO1.out _).mono ?_
      rintro e v2 ⟨rfl, hb2⟩
      have HV2 := Aside0.mk (below_to HV1.out hb2)
      clear hb2 y0 y1 y2 y3 y4 y5 y6 y7
      go_wp2_with fail
      exact ⟨rfl, by rw [HRN.out]; exact RetCk.dead (HBS.out.trans (HB1.out.trans (But.of_below HV2.out)))⟩
    | true =>
      have hkc2 := HKC.out
      rw [if_pos ⟨t6, ho⟩] at hkc2
      have HK0 := Aside0.mk hkc2
      rw [ho] at hO
      have HO1 := Aside0.mk hO
      clear t6 ho hO hkc2
      go_wp2_with fail
      refine (HM.out true _).mono ?_
      rintro e v1 ⟨rfl, hb1⟩
      have HV1 := Aside0.mk (below_box hb1)
      obtain ⟨hx1, hl1⟩ := box_after hb1
      have HX1b := Aside0.mk hx1
      have y0 := rowc hx1 0 _ rfl
      have y1 := rowc hx1 1 _ rfl
      have y2 := rowc hx1 2 _ rfl
      have y3 := rowc hx1 3 _ rfl
      have y4 := rowc hx1 4 _ rfl
      have y5 := rowc hx1 5 _ rfl
      have y6 := rowc hx1 6 _ rfl
      have y7 := rowc hx1 7 _ rfl
      clear hb1 hx1 x0 x1 x2 x3 x4 x5 x6 x7
      go_wp2_with fail
      refine (HO1.out _).mono ?_
      rintro e v2 ⟨rfl, hb2⟩
      have HV2 := Aside0.mk (below_to HV1.out hb2)
      have hx2 := (hb2.block _ hl1).trans HX1b.out
      have z7 := rowc hx2 7 _ rfl
      have z0 := rowc hx2 0 _ rfl
      have hl2 := Nat.lt_of_lt_of_le hl1 hb2.size
      clear hb2 hx2 hl1 y0 y1 y2 y3 y4 y5 y6 y7
      have HE2 := Aside0.mk (HE1.out.step HV2.out)
      have HB2 := Aside0.mk (HB1.out.trans (But.of_below HV2.out))
      go_wp2_with fail
      clear z7 z0 hl2
      go_loopg [46] m.f7.length (fun gk vi w' => ∃ (i : Nat) (c2 : Gs), vi = .int .i64 (i : Int) ∧ Aside0 (i ≤ m.f7.length ∧ gk = m.f7.length - i) ∧ Aside0 ((partK res (m.f7.drop i) deep c2).bind REST = R) ∧ Aside0 (Env w0 w' m0 g mb c2) ∧ Aside0 (But (Ex g mb) wS w'))
      case atStart => exact ⟨0, c', by first | rfl | simp, ⟨Nat.zero_le _, rfl⟩, ⟨by rw [List.drop_zero]; exact HK0.out⟩, HE2, HB2⟩
      case round =>
        obtain ⟨i, c2, rfl, HA2, HK2, HE3, HB3⟩ := hrel
        by_cases hi : i < m.f7.length
        rotate_left
        · have hib : decide (i < m.f7.length) = false := decide_eq_false hi
          have HKN : Aside0 (seqK res (([n]).drop (0 + 1)) deep c2 = R) := ⟨by have h := HK2.out; rw [List.drop_eq_nil_of_le (by omega), partK_nil, Option.bind_some, ← HREST.out] at h; exact h⟩
          clear hi
          go_wp2_with fail
          go_roundg (([n]).length - 0 - 1)
          case measure => have := HA.out; have := HJ.out; omega
          case rel => exact ⟨0 + 1, c2, by have h1 := HLEN.out; have h2 := HJ.out; first | rfl | (rw [w64c (by omega) (by omega)]; rfl) | (exact congrArg _ (by omega)), ⟨by have := HJ.out; omega, by omega⟩, HKN, HE3, HB3⟩
        have hid : decide (i < m.f7.length) = true := decide_eq_true hi
        obtain ⟨ad2, Q6, q6, Q7, q7, rfl, hk2, rk2⟩ := kids_at HCM.out i hi
        have hmem := List.getElem_mem hi
        obtain ⟨y0, y1, y2, y3, y4, y5, y6, y7⟩ := hk2.up HE3.out.bel
        have hkc := HK2.out
        rw [List.drop_eq_getElem_cons hi, partK_cons] at hkc
        have hpc := fun o => HPK.out _ hmem deep c2 w0 (wr.alloc o) g mb _ rk2 (HE3.out.step (below_alloc (Below.refl _ _) o)) HDP.out
        obtain ⟨kk, hkk⟩ : ∃ kk, m.f7[i] = kk := ⟨_, rfl⟩
        rw [hkk] at y0 y1 y2 y3 y4 y5 y6 y7 hkc hpc
        obtain ⟨r, hr⟩ : ∃ r, partN res kk deep c2 = r := ⟨_, rfl⟩
        rw [hr] at hpc hkc
        have HPC := Aside0.mk hpc
        have HKC2 := Aside0.mk hkc
        have HI := Aside0.mk hi
        have HBA : Aside0 (∀ o, But (Ex g mb) wS (wr.alloc o)) := ⟨fun o => HB3.out.trans (But.of_below (below_alloc (Below.refl _ _) o))⟩
        have HEA : Aside0 (∀ o, Env w0 (wr.alloc o) m0 g mb c2) := ⟨fun o => HE3.out.step (below_alloc (Below.refl _ _) o)⟩
        clear hk2 rk2 hmem hkc hpc hkk hr
        go_wp2_with fail
        refine (HPC.out _).mono ?_
        intro e v3 hr3
        clear y0 y1 y2 y3 y4 y5 y6 y7
        cases r with
        | none =>
          obtain ⟨hb, rfl⟩ := hr3
          have HBT := Aside0.mk ((HBA.out _).trans hb)
          have HRN : Aside0 (R = none) := ⟨by rw [← HKC2.out]; rfl⟩
          clear hb
          go_wp2_with fail
          exact ⟨rfl, by rw [HRN.out]; exact RetCk.dead (HBS.out.trans HBT.out)⟩
        | some c3 =>
          obtain ⟨hb, rfl, hk3⟩ := hr3
          have HBT := Aside0.mk ((HBA.out _).trans hb)
          have HET := Aside0.mk ((HEA.out _).next hb hk3)
          have HK3 : Aside0 ((partK res (m.f7.drop (i + 1)) deep c3).bind REST = R) := ⟨by have h := HKC2.out; rw [Option.bind_some] at h; exact h⟩
          clear hb hk3
          go_wp2_with fail
          go_roundg (m.f7.length - i - 1)
          case measure => have := HA2.out; have := HI.out; omega
          case rel => exact ⟨i + 1, c3, by have h1 := HML.out; have h2 := HI.out; first | rfl | (rw [w64c (by omega) (by omega)]; rfl) | (exact congrArg _ (by omega)), ⟨by have := HI.out; omega, by omega⟩, HK3, HET, HBT⟩

end Go.Proofs.YtkipjalfgdfaiaaGreatDoor
namespace Go.Proofs.YtkipjalfgdfaiaaGreatDoor
set_option linter.unusedVariables false
set_option linter.unusedSimpArgs false
open Go.RowKit Go.Proofs.YtkipjalfgdfaiaaGreatDoorW.PrintWords Go.Proofs.YtkipjalfgdfaiaaGreatDoorW.PrintLast Go.Proofs.YtkipjalfgdfaiaaGreatDoorW.PrintMore Go.Proofs.YtkipjalfgdfaiaaGreatDoor.PTk

theorem body_step (res : ByteArray → Int × ByteArray × Int) (m0 : Int) {n : Nd} (hP : ∀ k ∈ n.f7, PartC res m0 k) (hPP : ∀ s ∈ n.f7, ∀ k ∈ s.f7, PartC res m0 k) (hw : weightN n ≤ 2147483648) : BodyC res m0 n := by
  intro deep c w0 w g mb v h E hd
  rw [bodyN_eq]
  cases ho : onlyB n 0 0 0 false e0 n.f7.length with
  | false => simp only [Bool.false_eq_true, if_false]; exact body_only res m0 deep c w0 w g mb v h E hd ho
  | true =>
    rw [if_pos rfl]
    by_cases h7 : n.f0 = 7
    · rw [if_pos h7]
      by_cases h1 : 1 < n.f7.length
      · rw [if_pos h1]
        exact body_alt res m0 deep c w0 w g mb v h E hd ho h7 h1 (weight_len hw) (fun s hs => weight_len (weight_kid hw hs)) hPP
      · rw [if_neg h1]
        exact body_few res m0 deep c w0 w g mb v h E hd ho h7 h1
    · rw [if_neg h7]
      have e : (if n.f0 = 6 then partK res n.f7 deep c else none) = seqK res [n] deep c := by
        rw [seqK_cons, seqN_eq]
        have hb : ∀ o : Option Gs, (o.bind fun c' => seqK res [] deep c') = o := fun o => by
          cases o with
          | none => rfl
          | some x => exact seqK_nil res deep x
        rw [hb]
        by_cases h6 : n.f0 = 6
        · rw [if_pos h6, if_pos ⟨h6, ho⟩]
        · rw [if_neg h6, if_neg (fun hh => h6 hh.1)]
      rw [e]
      exact body_seq res m0 deep c w0 w g mb v h E hd ho h7 (weight_len hw) hP
theorem check_any (b : ByteArray) (hal : AliasIs b) (m0 : Int) : ∀ n : Nd, weightN n ≤ 2147483648 → PartC (resolveL (rowsB b)) m0 n ∧ BodyC (resolveL (rowsB b)) m0 n ∧ ∀ k ∈ n.f7, PartC (resolveL (rowsB b)) m0 k := by
  refine Nd.all ?_
  intro n ih hw
  have hk := fun k hk => ih k hk (weight_kid hw hk)
  have hP : ∀ k ∈ n.f7, PartC (resolveL (rowsB b)) m0 k := fun k hm => (hk k hm).1
  have hB : ∀ k ∈ n.f7, BodyC (resolveL (rowsB b)) m0 k := fun k hm => (hk k hm).2.1
  exact ⟨part_step b hal m0 hP hB hw, body_step _ m0 hP (fun s hs => (hk s hs).2.2) hw, hP⟩

end Go.Proofs.YtkipjalfgdfaiaaGreatDoor
namespace Go.Proofs.YtkipjalfgdfaiaaGreatDoor
set_option linter.unusedVariables false
set_option linter.unusedSimpArgs false
open Go.RowKit Go.Proofs.YtkipjalfgdfaiaaGreatDoorW.PrintWords Go.Proofs.YtkipjalfgdfaiaaGreatDoorW.PrintLast Go.Proofs.YtkipjalfgdfaiaaGreatDoorW.PrintMore Go.Proofs.YtkipjalfgdfaiaaGreatDoor.PTk

/-- What is no row of bytes, and not the builder's variable, stays. -/
def Keep (b : Nat) (w w' : World) : Prop := ∀ (g : Nat) (cs : Array Value) (T : TypeId) (fr : Nat × Nat), T ≠ 5 → g ≠ b → w.heap[g]? = some (.cells cs T fr) → w'.heap[g]? = some (.cells cs T fr)
theorem Keep.refl (b : Nat) (w : World) : Keep b w w := fun _ _ _ _ _ _ h => h
theorem Keep.trans {b : Nat} {w w1 w2 : World} (h : Keep b w w1) (k : Keep b w1 w2) : Keep b w w2 := fun g cs T fr hT hg e => k g cs T fr hT hg (h g cs T fr hT hg e)
theorem Keep.below {b : Nat} {w w' : World} (h : Below w.heap.size w w') : Keep b w w' := fun g cs T fr _ _ e => (h.block g (Array.getElem?_eq_some_iff.1 e).1).trans e
abbrev Bld (B b : Nat) (l : List UInt8) (w : World) : Prop := Lib.IsBuilder 59 5 B b (Lib.byteCells l) w
theorem ownsRow_under {B : Nat} {e : TypeId} {k : Nat} {v : Value} {n : Nat} {xs : List Value} {w w' : World} (h : w.ownsRow B e k v n xs) (hb : Below w.heap.size w w') : w'.ownsRow B e k v n xs :=
  h.kept (row := none) ⟨hb.os, hb.tape, hb.output, hb.size, fun j hj _ => hb.block j hj⟩ (by cases hv : v.ownBlock <;> simp)
theorem bldAt_below {T e : TypeId} {B b : Nat} {p : Value} {bs : List Value} {w w' : World} (h : Lib.BuilderAt T e B b p bs w) (hb : Below w.heap.size w w') : Lib.BuilderAt T e B b p bs w' := by
  have hlt := h.lt
  obtain ⟨hB, v, hv, ho, hne⟩ := h
  refine ⟨hB, v, ?_, ownsRow_under ho hb, hne⟩
  rw [← hv]
  exact hb.block _ hlt
theorem Bld.below {B b : Nat} {l : List UInt8} {w w' : World} (h : Bld B b l w) (hb : Below w.heap.size w w') : Bld B b l w' :=
  h.elim (fun h => Or.inl (bldAt_below h hb)) (fun h => Or.inr (bldAt_below h hb))

theorem bld_check (B b : Nat) (l : List UInt8) (w : World) (h : Bld B b l w) :
    Calls Tryz.prog 65 #[.pointer (some ⟨b, 0, none⟩)] w fun e w' => e = .returned (.tuple #[]) ∧ Lib.BuilderAt 59 5 B b (.pointer (some ⟨b, 0, none⟩)) (Lib.byteCells l) w' ∧ Below B w w' ∧ (∀ k, k ≠ b → w'.heap[k]? = w.heap[k]?) ∧ w'.cell? ⟨b, 1, none⟩ = w.cell? ⟨b, 1, none⟩ := by
  rcases h with h | h
  · refine (Any.Builder_copyCheck_fresh { Tryz.lays158 with } Tryz.Builder_Extra_158.toX72 b w h.cell0 h.shape h.frozen0).mono ?_
    rintro e w' ⟨rfl, rfl⟩
    exact ⟨rfl, h.used _, (Below.refl B w).setCell (p := ⟨b, 0, none⟩) h.1 _, fun k hk => Below.heap_setCell _ _ _ _ hk, World.cell?_setCell_other _ _ _ _ (by simp)⟩
  · refine (Any.Builder_copyCheck_used { Tryz.lays158 with } Tryz.Builder_Extra_158.toX72 b w h.cell0).mono ?_
    rintro e w' ⟨rfl, rfl⟩
    exact ⟨rfl, h, Below.refl B _, fun _ _ => rfl, rfl⟩

set_option maxHeartbeats 2000000 in
set_option maxRecDepth 100000 in
theorem bld_write_all (B b : Nat) (l : List UInt8) (s : ByteArray) (w : World) (h : Bld B b l w) (hl : l.length + s.size ≤ 140737488355328) (hB : B ≤ w.heap.size) :
    Calls Tryz.prog 42 #[.pointer (some ⟨b, 0, none⟩), .string s] w fun e w' => (∃ v, e = .returned v) ∧ Bld B b (l ++ s.data.toList) w' ∧ Below B w w' ∧ Keep b w w' := by
  obtain ⟨i0, hi, hz0, hz1, hz2⟩ := info_parts Tryz.Builder_Extra_158.infoByte
  go_enter Tryz.func42, Tryz.ntmps42
  go_wp2_with fail
  refine (bld_check B b l w h).mono ?_
  rintro e w1 ⟨rfl, h1, hb1, hk1, hc1⟩
  obtain ⟨hBb, v, hbk, hown, hne⟩ := h1
  have hsz1 := hb1.size
  have c1 : w1.cell? ⟨b, 1, none⟩ = some v := by rw [Lib.cell_of_heap hbk]; rfl
  have HK1 := Aside0.mk hk1
  have HB := Aside0.mk hb1
  have HW := Aside0.mk hown
  clear hb1 hk1 hc1 hown
  go_wp2_with (at_builtin; refine Lib.wpList_append_own_string _ rfl _ _ 34 9 rfl B 5 i0 Tryz.underlying34 Tryz.underlying9 hi hz0 hz1 hz2 _ _ _ rfl HW.out s rfl ?c3 ?c4 ?c5 ?_)
  case c3 => rw [Lib.byteCells_length]; unfold maxLen; omega
  case c4 => rw [Lib.byteCells_length]; omega
  case c5 => omega
  intro v' w2 hown' hgrow _
  have hlt : b < w1.heap.size := (show Lib.BuilderAt _ _ _ _ _ _ _ from ⟨hBb, v, hbk, HW.out, hne⟩).lt
  have hb2 : w2.heap[b]? = some (.cells #[.pointer (some ⟨b, 0, none⟩), v] 59 (0, 0)) := by
    rw [hgrow.block b hlt (fun e => hne e.symm)]
    exact hbk
  have d0 : w2.cell? ⟨b, 0, none⟩ = some (.pointer (some ⟨b, 0, none⟩)) := by rw [Lib.cell_of_heap hb2]; rfl
  have d1 : w2.cell? ⟨b, 1, none⟩ = some v := by rw [Lib.cell_of_heap hb2]; rfl
  have f1 : w2.frozen? ⟨b, 1, none⟩ = false := Lib.frozen_of_heap hb2 1
  obtain ⟨ao, n', cap, rfl⟩ : ∃ ao n' cap, v' = .slice ao n' cap := by
    rcases hown'.2 with ⟨hv, _⟩ | ⟨_, _, _, hv, _⟩
    · exact ⟨_, _, _, hv⟩
    · exact ⟨_, _, _, hv⟩
  have HO := Aside0.mk hown'
  have HR := Aside0.mk hgrow
  clear hown' hgrow
  go_wp2
  go_ret2
  have hown' := HO.out
  have hgrow := HR.out
  have hput := Lib.BuilderAt.put (T := 59) (e := 5) hBb hb2 (bs' := Lib.byteCells l ++ Lib.strCells s) (by simpa [Lib.strCells_length] using hown') (by decide)
  refine ⟨⟨_, rfl⟩, Or.inr ?_, (HB.out.grown hgrow (by omega) (fun k hk => (HW.out.lt k hk).1)).setCell (p := ⟨b, 1, none⟩) hBb _, ?_⟩
  · rw [Lib.strCells_eq] at hput
    have e2 : Lib.byteCells (l ++ s.data.toList) = Lib.byteCells l ++ Lib.byteCells s.data.toList := by simp [Lib.byteCells]
    rw [e2]
    exact hput
  · intro g cs T fr hT hgb hg
    have hg1 := (HK1.out g hgb).trans hg
    have hvg : v.ownBlock ≠ some g := Lib.ownBlock_ne HW.out hg1 hT
    have hlt1 : g < w1.heap.size := (Array.getElem?_eq_some_iff.1 hg1).1
    rw [Below.heap_setCell _ _ _ _ (by exact hgb), hgrow.block g hlt1 (fun e => hvg e.symm)]
    exact hg1

def u8L (l : List Int) : List UInt8 := (strOfNums l).data.toList
theorem u8L_append (a b : List Int) : u8L (a ++ b) = u8L a ++ u8L b := by unfold u8L; rw [str_data, str_data, str_data, List.map_append]
theorem u8L_length (a : List Int) : (u8L a).length = a.length := by unfold u8L; rw [str_data, List.length_map]
/-- The builder holds the text acc, and came later than B. -/
structure Wr (B b : Nat) (acc : List Int) (w : World) : Prop where
  bld : Bld B b (u8L acc) w
  base : B ≤ w.heap.size
/-- What a call that writes l hands back. -/
def RetW (B b : Nat) (acc l : List Int) (w : World) (e : Ending) (w' : World) : Prop := (∃ v, e = .returned v) ∧ Wr B b (acc ++ l) w' ∧ Below B w w' ∧ Keep b w w' ∧ w.heap.size ≤ w'.heap.size
theorem bw (B b : Nat) (acc l : List Int) (w : World) (h : Wr B b acc w) (hl : acc.length + l.length ≤ 140737488355328) :
    Calls Tryz.prog 42 #[.pointer (some ⟨b, 0, none⟩), .string (strOfNums l)] w (RetW B b acc l w) := by
  refine (bld_write_all B b (u8L acc) (strOfNums l) w h.bld (by rw [u8L_length, ← u8L_length l] at *; unfold u8L at *; rw [Lib.size_eq]; omega) h.base).mono ?_
  rintro e w' ⟨he, hb, hB, hk⟩
  exact ⟨he, ⟨by rw [u8L_append]; exact hb, Nat.le_trans h.base hB.size⟩, hB, hk, hB.size⟩

end Go.Proofs.YtkipjalfgdfaiaaGreatDoor
namespace Go.Proofs
open Go.Shelf
def Tryz.laysM171_ren : Go.Shelf.Ren := ⟨fun | 171 => 48 | 243 => 67 | 246 => 63 | 283 => 95 | 284 => 96 | 285 => 97 | 286 => 98 | 129 => 133 | 317 => 132 | 318 => 134 | 319 => 135 | 320 => 136 | 337 => 162 | 338 => 163 | n => n, fun | 3 => 3 | 9 => 9 | 2 => 2 | 4 => 4 | 171 => 130 | 0 => 0 | 53 => 131 | 37 => 34 | 5 => 5 | 173 => 134 | 212 => 159 | 51 => 160 | 20 => 20 | 213 => 161 | 46 => 43 | 232 => 201 | 233 => 202 | n => n, fun | 17 => 1 | 18 => 5 | 19 => 6 | n => n⟩
theorem Tryz.laysM171 : Go.Proofs.LaysM.n171 Tryz.prog Tryz.laysM171_ren := {
  mixed := by kernel_rfl
  f129 := Tryz.func133.trans (congrArg some (by kernel_rfl))
  f171 := Tryz.func48.trans (congrArg some (by kernel_rfl))
  f243 := Tryz.func67.trans (congrArg some (by kernel_rfl))
  f246 := Tryz.func63.trans (congrArg some (by kernel_rfl))
  f283 := Tryz.func95.trans (congrArg some (by kernel_rfl))
  f284 := Tryz.func96.trans (congrArg some (by kernel_rfl))
  f285 := Tryz.func97.trans (congrArg some (by kernel_rfl))
  f286 := Tryz.func98.trans (congrArg some (by kernel_rfl))
  f317 := Tryz.func132.trans (congrArg some (by kernel_rfl))
  f318 := Tryz.func134.trans (congrArg some (by kernel_rfl))
  f319 := Tryz.func135.trans (congrArg some (by kernel_rfl))
  f320 := Tryz.func136.trans (congrArg some (by kernel_rfl))
  f337 := Tryz.func162.trans (congrArg some (by kernel_rfl))
  f338 := Tryz.func163.trans (congrArg some (by kernel_rfl))
  t0 := Tryz.underlying0
  a0 := Tryz.isAgg0
  z0 := Tryz.sizeOf0
  v0 := Tryz.zeroValue0
  t2 := Tryz.underlying2
  a2 := Tryz.isAgg2
  z2 := Tryz.sizeOf2
  v2 := Tryz.zeroValue2
  t3 := Tryz.underlying3
  a3 := Tryz.isAgg3
  z3 := Tryz.sizeOf3
  v3 := Tryz.zeroValue3
  t4 := Tryz.underlying4
  a4 := Tryz.isAgg4
  z4 := Tryz.sizeOf4
  v4 := Tryz.zeroValue4
  t5 := Tryz.underlying5
  a5 := Tryz.isAgg5
  z5 := Tryz.sizeOf5
  v5 := Tryz.zeroValue5
  t9 := Tryz.underlying9
  a9 := Tryz.isAgg9
  z9 := Tryz.sizeOf9
  v9 := Tryz.zeroValue9
  t20 := Tryz.underlying20
  a20 := Tryz.isAgg20
  z20 := Tryz.sizeOf20
  v20 := Tryz.zeroValue20
  t37 := Tryz.underlying34
  a37 := Tryz.isAgg34
  z37 := Tryz.sizeOf34
  v37 := Tryz.zeroValue34
  t46 := Tryz.underlying43
  a46 := Tryz.isAgg43
  z46 := Tryz.sizeOf43
  v46 := Tryz.zeroValue43
  t51 := Tryz.underlying160
  a51 := Tryz.isAgg160
  z51 := Tryz.sizeOf160
  v51 := Tryz.zeroValue160
  t53 := Tryz.underlying131
  a53 := Tryz.isAgg131
  z53 := Tryz.sizeOf131
  v53 := Tryz.zeroValue131
  t171 := Tryz.underlying130
  a171 := Tryz.isAgg130
  z171 := Tryz.sizeOf130
  v171 := Tryz.zeroValue130
  t173 := Tryz.underlying134
  a173 := Tryz.isAgg134
  z173 := Tryz.sizeOf134
  v173 := Tryz.zeroValue134
  t212 := Tryz.underlying159
  a212 := Tryz.isAgg159
  z212 := Tryz.sizeOf159
  v212 := Tryz.zeroValue159
  t213 := Tryz.underlying161
  a213 := Tryz.isAgg161
  z213 := Tryz.sizeOf161
  t232 := Tryz.underlying201
  a232 := Tryz.isAgg201
  z232 := Tryz.sizeOf201
  v232 := Tryz.zeroValue201
  t233 := Tryz.underlying202
  a233 := Tryz.isAgg202
  z233 := Tryz.sizeOf202
  v233 := Tryz.zeroValue202
  g17 := by kernel_rfl
  g18 := by kernel_rfl
  g19 := by kernel_rfl
  i0 := by kernel_rfl
  i2 := by kernel_rfl
  i3 := by kernel_rfl
  i4 := by kernel_rfl
  i5 := by kernel_rfl
  i9 := by kernel_rfl
  i20 := by kernel_rfl
  i37 := by kernel_rfl
  i46 := by kernel_rfl
  i51 := by kernel_rfl
  i53 := by kernel_rfl
  i171 := by kernel_rfl
  i173 := by kernel_rfl
  i212 := by kernel_rfl
  i232 := by kernel_rfl
  i233 := by kernel_rfl
  m17 := by kernel_rfl
  m18 := by kernel_rfl
  m19 := by kernel_rfl }
def Tryz.lays170_ren : Go.Shelf.Ren := ⟨fun | 170 => 32 | n => n, fun | 70 => 57 | 3 => 3 | 0 => 0 | 72 => 59 | 37 => 34 | 5 => 5 | n => n, fun | n => n⟩
theorem Tryz.lays170 : Go.Proofs.Lays.n170 Tryz.prog Tryz.lays170_ren := {
  mixed := by kernel_rfl
  f170 := Tryz.func32.trans (congrArg some (by kernel_rfl))
  t0 := Tryz.underlying0
  a0 := Tryz.isAgg0
  z0 := Tryz.sizeOf0
  v0 := Tryz.zeroValue0
  t3 := Tryz.underlying3
  a3 := Tryz.isAgg3
  z3 := Tryz.sizeOf3
  v3 := Tryz.zeroValue3
  t37 := Tryz.underlying34
  a37 := Tryz.isAgg34
  z37 := Tryz.sizeOf34
  v37 := Tryz.zeroValue34
  t70 := Tryz.underlying57
  a70 := Tryz.isAgg57
  z70 := Tryz.sizeOf57
  v70 := Tryz.zeroValue57
  t72 := Tryz.underlying59
  a72 := Tryz.isAgg59
  z72 := Tryz.sizeOf59
  v72 := Tryz.zeroValue59 }
def Tryz.lays169_ren : Go.Shelf.Ren := ⟨fun | 169 => 29 | n => n, fun | 70 => 57 | 9 => 9 | 0 => 0 | 72 => 59 | 37 => 34 | 127 => 97 | 3 => 3 | 5 => 5 | n => n, fun | n => n⟩
theorem Tryz.lays169 : Go.Proofs.Lays.n169 Tryz.prog Tryz.lays169_ren := {
  mixed := by kernel_rfl
  f169 := Tryz.func29.trans (congrArg some (by kernel_rfl))
  t0 := Tryz.underlying0
  a0 := Tryz.isAgg0
  z0 := Tryz.sizeOf0
  v0 := Tryz.zeroValue0
  t3 := Tryz.underlying3
  a3 := Tryz.isAgg3
  z3 := Tryz.sizeOf3
  v3 := Tryz.zeroValue3
  t9 := Tryz.underlying9
  a9 := Tryz.isAgg9
  z9 := Tryz.sizeOf9
  v9 := Tryz.zeroValue9
  t37 := Tryz.underlying34
  a37 := Tryz.isAgg34
  z37 := Tryz.sizeOf34
  v37 := Tryz.zeroValue34
  t70 := Tryz.underlying57
  a70 := Tryz.isAgg57
  z70 := Tryz.sizeOf57
  v70 := Tryz.zeroValue57
  t72 := Tryz.underlying59
  a72 := Tryz.isAgg59
  z72 := Tryz.sizeOf59
  v72 := Tryz.zeroValue59
  t127 := Tryz.underlying97
  a127 := Tryz.isAgg97
  z127 := Tryz.sizeOf97
  v127 := Tryz.zeroValue97 }
theorem Tryz.Builder_Extra_169 : Builder.Extra Tryz.prog Tryz.lays169_ren := {
  sizeBuilder := by kernel_rfl
  liesBuilder := by kernel_rfl
  t5 := Tryz.underlying5
  a5 := Tryz.isAgg5
  z5 := Tryz.sizeOf5
  v5 := Tryz.zeroValue5
  infoByte := by kernel_rfl
  cellsByte := by kernel_rfl
  sizeByte := by kernel_rfl
  neB5 := by decide }
end Go.Proofs
namespace Go.Proofs.YtkipjalfgdfaiaaGreatDoor
set_option linter.unusedVariables false
set_option linter.unusedSimpArgs false
open Go.RowKit Go.Proofs.YtkipjalfgdfaiaaGreatDoorW.PrintWords Go.Proofs.YtkipjalfgdfaiaaGreatDoorW.PrintLast Go.Proofs.YtkipjalfgdfaiaaGreatDoorW.PrintMore Go.Proofs.YtkipjalfgdfaiaaGreatDoor.PTk

theorem bld_string (B b : Nat) (l : List UInt8) (w : World) (h : Bld B b l w) (hB : B ≤ w.heap.size) :
    Calls Tryz.prog 29 #[.pointer (some ⟨b, 0, none⟩)] w fun e w' => e = .returned (.string ⟨l.toArray⟩) ∧ Below B w w' := Any.Builder_String_any Tryz.lays169 Tryz.Builder_Extra_169 B b l w h hB
theorem bld_len (B b : Nat) (l : List UInt8) (w : World) (h : Bld B b l w) :
    Calls Tryz.prog 32 #[.pointer (some ⟨b, 0, none⟩)] w fun e w' => e = .returned (.int .i64 l.length) ∧ w' = w := by
  have := Any.Builder_Len Tryz.lays170 B b (Lib.byteCells l) w h
  rw [Lib.byteCells_length] at this
  exact this
theorem itoa_any (n : Int) (h0 : -9223372036854775808 ≤ n) (h1 : n ≤ 9223372036854775807) (w : World) (htab : Lib.TabIs Tryz.prog w "internal/strconv.uint64pow10" .u64 Lib.pow10Tab) :
    Calls Tryz.prog 48 #[.int .i64 n] w fun e w' => e = .returned (.string ⟨(Lib.itoa n).toArray⟩) ∧ Below w.heap.size w w' := by
  refine (Any.strconv_Itoa Tryz.laysM171 n h0 h1 w htab).mono ?_
  rintro e w' ⟨rfl, k, os, rfl⟩
  exact ⟨rfl, rfl, rfl, rfl, by simp, fun j hj => by rw [Go.Sort.heap_grow_old _ _ (by simpa using hj)]; rfl⟩
theorem dec_itoa (n : Int) (h0 : 0 ≤ n) (h1 : n ≤ 100) : (⟨(Lib.itoa n).toArray⟩ : ByteArray) = strOfNums (decL n) := by
  have k : ∀ n : Fin 101, (Lib.itoa (n.val : Int)) = (decL (n.val : Int)).map (fun x => UInt8.ofNat x.toNat) := by decide +kernel
  have h := k ⟨n.toNat, by omega⟩
  simp only at h
  rw [Int.toNat_of_nonneg h0] at h
  rw [h]
  rfl
set_option maxRecDepth 100000 in
theorem of_any (i : Nat) (ad : Addr) (L c : Nat) (s : ByteArray) (w : World) (hi : i < L) (hx : w.cell? (ad.add i) = some (.string s)) :
    Calls Tryz.prog 46 #[.int .i64 (i : Int), .slice (some ad) L c] w fun e w' => e = .returned (.string s) ∧ w' = w := by
  have hi2 : (i : Int) < (L : Int) := by omega
  go_enter Tryz.func46, Tryz.ntmps46
  go_wp2
  go_ret
  exact ⟨rfl, rfl⟩

theorem eqI (d : Nat) (a b : Int) (w : World) : (Op.equalIn (d + 1) 3 (.int .i64 a) (.int .i64 b)).run Tryz.prog w = .ok (a == b) w := by
  simp [Op.equalIn, run_underlying Tryz.underlying3]
theorem eq2 (a b x y : Int) (w : World) : (Op.equalIn 10000 113 (.agg #[.int .i64 a, .int .i64 b]) (.agg #[.int .i64 x, .int .i64 y])).run Tryz.prog w = .ok (a == x && b == y) w := by
  have hi : ∃ i, Tryz.prog.info? 3 = some i := Option.isSome_iff_exists.1 (by kernel_rfl)
  obtain ⟨i0, hi0⟩ := hi
  have hc : Tryz.prog.cellsOf 3 = 1 := by kernel_rfl
  have h := run_equalIn_array (P := Tryz.prog) (w := w) 9999 #[.int .i64 a, .int .i64 b] #[.int .i64 x, .int .i64 y] Tryz.underlying113 hi0
  rw [show (10000 : Nat) = 9999 + 1 from rfl, h, hc]
  have p0 : ∀ u v : Int, (part 3 #[.int .i64 u, .int .i64 v] (0 * 1)).run Tryz.prog w = .ok (.int .i64 u) w := fun u v => by simp [part, go_sem, Tryz.sizeOf3, Tryz.isAgg3]
  have p1 : ∀ u v : Int, (part 3 #[.int .i64 u, .int .i64 v] (1 * 1)).run Tryz.prog w = .ok (.int .i64 v) w := fun u v => by simp [part, go_sem, Tryz.sizeOf3, Tryz.isAgg3]
  show (Op.eqItems 9999 3 1 _ _ [0, 1]).run Tryz.prog w = _
  simp only [Op.eqItems, Sem.run_bind, p0, p1, Result.andThen_ok, show (9999 : Nat) = 9998 + 1 from rfl, eqI]
  cases h1 : (a == x) <;> cases h2 : (b == y) <;> simp [h1, h2, Op.eqItems, Sem.run_bind, p1, eqI]
/-- The texts that tree.write holds ready. -/
theorem of_texts (l : List ByteArray) (i : Nat) (hi : i < l.length) (w w' : World) (g : Nat) (fr : Nat × Nat) (hg : w'.heap[g]? = some (.cells (l.map Value.string).toArray 9 fr)) :
    Calls Tryz.prog 46 #[.int .i64 (i : Int), .slice (some ⟨g, 0, none⟩) l.length l.length] w' fun e w2 => e = .returned (.string l[i]) ∧ w2 = w' := by
  refine of_any i ⟨g, 0, none⟩ l.length l.length l[i] w' hi ?_
  have h := rowc hg i (.string l[i]) (by simp [hi])
  have e : (⟨g, 0, none⟩ : Addr).add i = ⟨g, i, none⟩ := by
    cases i with
    | zero => rfl
    | succ i => simp [Addr.add]
  rw [e]
  exact h
set_option maxHeartbeats 4000000 in
set_option maxRecDepth 100000 in
theorem counts_any (a b : Int) (h0 : 0 ≤ a) (h1 : a ≤ 100) (h2 : b = -1 ∨ (a ≤ b ∧ b ≤ 100)) (w : World) (htab : ∀ W, Below w.heap.size w W → Lib.TabIs Tryz.prog W "internal/strconv.uint64pow10" .u64 Lib.pow10Tab) :
    Calls Tryz.prog 45 #[.int .i64 a, .int .i64 b] w fun e w' => e = .returned (.string (strOfNums (countW a b))) ∧ Below w.heap.size w w' := by
  have HA : Aside0 (∀ W, Below w.heap.size w W → Calls Tryz.prog 48 #[.int .i64 a] W fun e w' => e = .returned (.string (strOfNums (decL a))) ∧ Below W.heap.size W w') := ⟨fun W hW => by
    have h := itoa_any a (by omega) (by omega) W (htab W hW)
    rw [dec_itoa a h0 h1] at h
    exact h⟩
  have HB : Aside0 (0 ≤ b → b ≤ 100 → ∀ W, Below w.heap.size w W → Calls Tryz.prog 48 #[.int .i64 b] W fun e w' => e = .returned (.string (strOfNums (decL b))) ∧ Below W.heap.size W w') := ⟨fun g0 g1 W hW => by
    have h := itoa_any b (by omega) (by omega) W (htab W hW)
    rw [dec_itoa b g0 g1] at h
    exact h⟩
  have f1 := fun W => eq2 a b 0 (-1) W
  have f2 := fun W => eq2 a b 1 (-1) W
  have f3 := fun W => eq2 a b 0 1 W
  clear htab
  by_cases c1 : a = 0 ∧ b = -1
  · have HC : Aside0 (countW a b = [42]) := ⟨by unfold countW; rw [if_pos c1]⟩
    rw [show (a == 0 && b == -1) = true by rw [c1.1, c1.2]; rfl] at f1
    rw [HC.out]
    clear c1 h0 h1 h2 f2 f3
    go_enter Tryz.func45, Tryz.ntmps45
    go_wp2_with fail
    go_ret
    exact ⟨rfl, Below.refl _ _⟩
  rw [show (a == 0 && b == -1) = false by rw [← Bool.not_eq_true, Bool.and_eq_true, beq_iff_eq, beq_iff_eq]; exact c1] at f1
  by_cases c2 : a = 1 ∧ b = -1
  · have HC : Aside0 (countW a b = [43]) := ⟨by unfold countW; rw [if_neg c1, if_pos c2]⟩
    rw [show (a == 1 && b == -1) = true by rw [c2.1, c2.2]; rfl] at f2
    rw [HC.out]
    clear c1 c2 h0 h1 h2 f3
    go_enter Tryz.func45, Tryz.ntmps45
    go_wp2_with fail
    go_ret
    exact ⟨rfl, Below.refl _ _⟩
  rw [show (a == 1 && b == -1) = false by rw [← Bool.not_eq_true, Bool.and_eq_true, beq_iff_eq, beq_iff_eq]; exact c2] at f2
  by_cases c3 : a = 0 ∧ b = 1
  · have HC : Aside0 (countW a b = [63]) := ⟨by unfold countW; rw [if_neg c1, if_neg c2, if_pos c3]⟩
    rw [show (a == 0 && b == 1) = true by rw [c3.1, c3.2]; rfl] at f3
    rw [HC.out]
    clear c1 c2 c3 h0 h1 h2
    go_enter Tryz.func45, Tryz.ntmps45
    go_wp2_with fail
    go_ret
    exact ⟨rfl, Below.refl _ _⟩
  rw [show (a == 0 && b == 1) = false by rw [← Bool.not_eq_true, Bool.and_eq_true, beq_iff_eq, beq_iff_eq]; exact c3] at f3
  have HC : Aside0 (countW a b = 123 :: decL a ++ (if b = a then [] else 44 :: (if 0 ≤ b then decL b else [])) ++ [125]) := ⟨by unfold countW; rw [if_neg c1, if_neg c2, if_neg c3]⟩
  have hdl : ∀ n : Int, (strOfNums (decL n)).size ≤ 3 := fun n => by
    have : (strOfNums (decL n)).size = (decL n).length := by rw [Lib.size_eq, str_data, List.length_map]
    rw [this]; unfold decL; split
    · simp
    · split <;> simp
  clear c1 c2 c3
  by_cases d1 : b = a
  · have HC2 : Aside0 (strOfNums (countW a b) = (⟨#[123]⟩ ++ strOfNums (decL a)) ++ ⟨#[125]⟩) := ⟨by rw [HC.out, if_pos d1, List.append_nil, show 123 :: decL a ++ [125] = [123] ++ decL a ++ [125] from rfl, str_app, str_app]; rfl⟩
    have e1 : (b != a) = false := by rw [d1]; simp
    have g0 : 0 ≤ b := by omega
    have hs := hdl a
    rw [HC2.out]
    obtain ⟨SA, hSA⟩ : ∃ SA, strOfNums (decL a) = SA := ⟨_, rfl⟩
    rw [hSA] at hs HA ⊢
    clear hSA d1 hdl h0 h1 h2 HC HC2
    go_enter Tryz.func45, Tryz.ntmps45
    go_wp2_with fail
    refine (HA.out _ (Below.refl _ _)).mono ?_
    rintro e w1 ⟨rfl, hb1⟩
    have HB1 := Aside0.mk hb1
    clear hb1
    go_wp2_with fail
    go_ret
    exact ⟨rfl, HB1.out⟩
  · by_cases g0 : 0 ≤ b
    rotate_left
    · have HC2 : Aside0 (strOfNums (countW a b) = ((⟨#[123]⟩ ++ strOfNums (decL a)) ++ ⟨#[44]⟩) ++ ⟨#[125]⟩) := ⟨by rw [HC.out, if_neg d1, if_neg g0, show 123 :: decL a ++ [44] ++ [125] = [123] ++ decL a ++ [44] ++ [125] from rfl, str_app, str_app, str_app]; rfl⟩
      have e1 : (b != a) = true := by rw [bne_iff_ne]; exact d1
      have hs := hdl a
      rw [HC2.out]
      obtain ⟨SA, hSA⟩ : ∃ SA, strOfNums (decL a) = SA := ⟨_, rfl⟩
      rw [hSA] at hs HA ⊢
      clear hSA d1 hdl h0 h1 h2 HC HC2
      go_enter Tryz.func45, Tryz.ntmps45
      go_wp2_with fail
      refine (HA.out _ (Below.refl _ _)).mono ?_
      rintro e w1 ⟨rfl, hb1⟩
      have HB1 := Aside0.mk hb1
      clear hb1
      go_wp2_with fail
      go_ret
      exact ⟨rfl, HB1.out⟩
    · have HC2 : Aside0 (strOfNums (countW a b) = (((⟨#[123]⟩ ++ strOfNums (decL a)) ++ ⟨#[44]⟩) ++ strOfNums (decL b)) ++ ⟨#[125]⟩) := ⟨by rw [HC.out, if_neg d1, if_pos g0, show 123 :: decL a ++ (44 :: decL b) ++ [125] = [123] ++ decL a ++ [44] ++ decL b ++ [125] by simp, str_app, str_app, str_app, str_app]; rfl⟩
      have e1 : (b != a) = true := by rw [bne_iff_ne]; exact d1
      have hs := hdl a
      have hs2 := hdl b
      rw [HC2.out]
      have hbb := HB.out g0 (by omega)
      obtain ⟨SA, hSA⟩ : ∃ SA, strOfNums (decL a) = SA := ⟨_, rfl⟩
      obtain ⟨SB, hSB⟩ : ∃ SB, strOfNums (decL b) = SB := ⟨_, rfl⟩
      rw [hSA] at hs HA ⊢
      rw [hSB] at hs2 hbb ⊢
      have HB0 := Aside0.mk hbb
      clear hSA hSB d1 hdl h0 h1 h2 HC HC2 hbb
      go_enter Tryz.func45, Tryz.ntmps45
      go_wp2_with fail
      refine (HA.out _ (Below.refl _ _)).mono ?_
      rintro e w1 ⟨rfl, hb1⟩
      have HB1 := Aside0.mk hb1
      clear hb1
      go_wp2_with fail
      refine (HB0.out _ HB1.out).mono ?_
      rintro e w2 ⟨rfl, hb2⟩
      have HB2 := Aside0.mk (below_to HB1.out hb2)
      clear hb2
      go_wp2_with fail
      go_ret
      exact ⟨rfl, HB2.out⟩

end Go.Proofs.YtkipjalfgdfaiaaGreatDoor
namespace Go.Proofs.YtkipjalfgdfaiaaGreatDoor
set_option linter.unusedVariables false
set_option linter.unusedSimpArgs false
open Go.RowKit Go.Proofs.YtkipjalfgdfaiaaGreatDoorW.PrintWords Go.Proofs.YtkipjalfgdfaiaaGreatDoorW.PrintLast Go.Proofs.YtkipjalfgdfaiaaGreatDoorW.PrintMore Go.Proofs.YtkipjalfgdfaiaaGreatDoor.PTk

theorem bwS (B b : Nat) (acc l : List Int) (s : ByteArray) (w : World) (h : Wr B b acc w) (hs : s = strOfNums l) (hl : acc.length + l.length ≤ 140737488355328) :
    Calls Tryz.prog 42 #[.pointer (some ⟨b, 0, none⟩), .string s] w (RetW B b acc l w) := by subst hs; exact bw B b acc l w h hl
/-- From w to w' the text l was written behind acc; all else stays. -/
def Wrote (B b : Nat) (acc l : List Int) (w w' : World) : Prop := Wr B b (acc ++ l) w' ∧ Below B w w' ∧ Keep b w w' ∧ w.heap.size ≤ w'.heap.size
/-- What a function that writes l and has no result hands back. -/
def RetU (B b : Nat) (acc l : List Int) (w : World) (e : Ending) (w' : World) : Prop := e = .returned (.tuple #[]) ∧ Wrote B b acc l w w'
theorem Wrote.after {B b : Nat} {acc l : List Int} {w w1 w' : World} (hB : B ≤ w.heap.size) (hb : Below w.heap.size w w1) (h : Wrote B b acc l w1 w') : Wrote B b acc l w w' :=
  ⟨h.1, (hb.mono hB).trans h.2.1, (Keep.below hb).trans h.2.2.1, Nat.le_trans hb.size h.2.2.2⟩
theorem Wrote.trans {B b : Nat} {acc l l2 : List Int} {w w1 w2 : World} (h : Wrote B b acc l w w1) (k : Wrote B b (acc ++ l) l2 w1 w2) : Wrote B b acc (l ++ l2) w w2 :=
  ⟨by rw [← List.append_assoc]; exact k.1, h.2.1.trans k.2.1, h.2.2.1.trans k.2.2.1, Nat.le_trans h.2.2.2 k.2.2.2⟩
theorem Wrote.none {B b : Nat} {acc : List Int} {w : World} (h : Wr B b acc w) : Wrote B b acc [] w w := ⟨by rw [List.append_nil]; exact h, Below.refl _ _, Keep.refl _ _, Nat.le_refl _⟩
theorem Wr.below {B b : Nat} {acc : List Int} {w w' : World} (h : Wr B b acc w) (hb : Below w.heap.size w w') : Wr B b acc w' := ⟨h.bld.below hb, Nat.le_trans h.base hb.size⟩
theorem str_bytes (s : ByteArray) : strOfNums (bytesOf s) = s := by
  refine ba_inj ?_
  rw [Lib.toList_data, Lib.toList_data, str_data]
  unfold bytesOf
  rw [List.map_map]
  conv => rhs; rw [← List.map_id s.data.toList]
  apply List.map_congr_left
  intro x hx
  show UInt8.ofNat ((x.toNat : Int).toNat) = x
  simp
theorem bytes_len (s : ByteArray) : (bytesOf s).length = s.size := by unfold bytesOf; rw [List.length_map]; exact (Lib.size_eq s).symm
set_option maxHeartbeats 4000000 in
set_option maxRecDepth 100000 in
theorem writeProp_long {n : Nd} {w0 : World} {v : Value} (h : RdN w0 n v) (B b : Nat) (acc : List Int) (w : World) (hW : Wr B b acc w) (hl : acc.length + n.f5.size ≤ 140000000000000) (h1 : n.f5.size ≠ 1) :
    Calls Tryz.prog 44 #[.pointer (some ⟨b, 0, none⟩), v] w (RetU B b acc (propW n) w) := by
  obtain ⟨A6, c6, A7, c7, rfl, -, -, -, -⟩ := h
  have hsz : n.f5.size ≤ 140000000000000 := by omega
  have e1 : ((n.f5.size : Int) == 1) = false := by rw [beq_eq_false_iff_ne]; omega
  have HW := Aside0.mk hW
  have HBT := Aside0.mk (str_bytes n.f5)
  have HBL := Aside0.mk (bytes_len n.f5)
  have HL := Aside0.mk hl
  have HBX : Aside0 (∀ o, Wr B b acc (w.alloc o)) := ⟨fun o => hW.below (below_alloc (Below.refl _ _) o)⟩
  cases hn : n.f4 with
  | true =>
    have HP : Aside0 (propW n = [92, 80, 123] ++ bytesOf n.f5 ++ [125]) := ⟨by unfold propW; rw [if_neg (fun hh => h1 hh.1), if_neg h1, if_pos hn]⟩
    rw [HP.out]
    have HS : Aside0 ((⟨#[92, 80, 123]⟩ ++ n.f5) ++ ⟨#[125]⟩ = strOfNums ([92, 80, 123] ++ bytesOf n.f5 ++ [125])) := ⟨by rw [str_app, str_app, HBT.out]; rfl⟩
    clear hW h1 hl
    go_enter Tryz.func44, Tryz.ntmps44
    go_wp2_with fail
    refine (bwS B b acc ([92, 80, 123] ++ bytesOf n.f5 ++ [125]) _ _ (HBX.out _) HS.out (by have := HL.out; have := HBL.out; simp; omega)).mono ?_
    rintro e w1 ⟨⟨u, rfl⟩, hw1⟩
    have HW1 := Aside0.mk (Wrote.after HW.out.base (below_alloc (Below.refl _ _) _) hw1)
    clear hw1
    go_wp2_with fail
    go_end0
    exact ⟨rfl, HW1.out⟩
  | false =>
    have HP : Aside0 (propW n = [92, 112, 123] ++ bytesOf n.f5 ++ [125]) := ⟨by unfold propW; rw [if_neg (fun hh => h1 hh.1), if_neg h1, if_neg (by rw [hn]; decide)]⟩
    rw [HP.out]
    have HS : Aside0 ((⟨#[92, 112, 123]⟩ ++ n.f5) ++ ⟨#[125]⟩ = strOfNums ([92, 112, 123] ++ bytesOf n.f5 ++ [125])) := ⟨by rw [str_app, str_app, HBT.out]; rfl⟩
    clear hW h1 hl
    go_enter Tryz.func44, Tryz.ntmps44
    go_wp2_with fail
    refine (bwS B b acc ([92, 112, 123] ++ bytesOf n.f5 ++ [125]) _ _ (HBX.out _) HS.out (by have := HL.out; have := HBL.out; simp; omega)).mono ?_
    rintro e w1 ⟨⟨u, rfl⟩, hw1⟩
    have HW1 := Aside0.mk (Wrote.after HW.out.base (below_alloc (Below.refl _ _) _) hw1)
    clear hw1
    go_wp2_with fail
    go_end0
    exact ⟨rfl, HW1.out⟩
set_option maxHeartbeats 4000000 in
set_option maxRecDepth 100000 in
theorem writeProp_short {n : Nd} {w0 : World} {v : Value} (h : RdN w0 n v) (B b : Nat) (acc : List Int) (w : World) (hW : Wr B b acc w) (hl : acc.length ≤ 140000000000000) (x : Int) (hx : bytesOf n.f5 = [x]) (hx0 : 64 ≤ x) (hx1 : x < 128) :
    Calls Tryz.prog 44 #[.pointer (some ⟨b, 0, none⟩), v] w (RetU B b acc (propW n) w) := by
  obtain ⟨A6, c6, A7, c7, rfl, -, -, -, -⟩ := h
  have h1 : n.f5.size = 1 := by rw [← bytes_len, hx]; rfl
  have hg0 : ((n.f5[0]'(by omega)).toNat : Int) = x := by
    have h := bytes_get n.f5 0 (by omega) (by rw [hx]; simp)
    rw [← h]
    simp [hx]
  have henc : Utf8.encode ((((n.f5[0]'(by omega)).toNat : Int) - 32) % 256) = strOfNums [x - 32] := by
    rw [hg0]
    have k : ∀ x : Fin 128, 64 ≤ x.val → (Utf8.encode (((x.val : Int) - 32) % 256)).data.toList = (strOfNums [(x.val : Int) - 32]).data.toList := by decide +kernel
    have h := k ⟨x.toNat, by omega⟩ (by show 64 ≤ x.toNat; omega)
    simp only at h
    rw [Int.toNat_of_nonneg (by omega)] at h
    exact ba_inj (by rw [Lib.toList_data, Lib.toList_data]; exact h)
  have hes : (strOfNums [x - 32]).size = 1 := rfl
  have hsz : n.f5.size ≤ 140000000000000 := by omega
  have e1 : ((n.f5.size : Int) == 1) = true := by rw [h1]; rfl
  have HW := Aside0.mk hW
  have HL := Aside0.mk hl
  have HBX : Aside0 (∀ o, Wr B b acc (w.alloc o)) := ⟨fun o => hW.below (below_alloc (Below.refl _ _) o)⟩
  cases hn : n.f4 with
  | true =>
    have HP : Aside0 (propW n = [92, x - 32]) := ⟨by unfold propW; rw [if_pos ⟨h1, hn⟩, hx]; rfl⟩
    rw [HP.out]
    have HS : Aside0 (⟨#[92]⟩ ++ strOfNums [x - 32] = strOfNums [92, x - 32]) := ⟨by rw [show [92, x - 32] = [92] ++ [x - 32] from rfl, str_app]; rfl⟩
    obtain ⟨SX, hSX⟩ : ∃ SX, strOfNums [x - 32] = SX := ⟨_, rfl⟩
    rw [hSX] at henc hes HS
    have h10 : 0 < n.f5.size := by omega
    clear hW hl hx hg0 hSX
    go_enter Tryz.func44, Tryz.ntmps44
    go_wp2_with fail
    refine (bwS B b acc [92, x - 32] _ _ (HBX.out _) HS.out (by have := HL.out; simp; omega)).mono ?_
    rintro e w1 ⟨⟨u, rfl⟩, hw1⟩
    have HW1 := Aside0.mk (Wrote.after HW.out.base (below_alloc (Below.refl _ _) _) hw1)
    clear hw1
    go_wp2_with fail
    go_end0
    exact ⟨rfl, HW1.out⟩
  | false =>
    have HP : Aside0 (propW n = 92 :: bytesOf n.f5) := ⟨by unfold propW; rw [if_neg (fun hh => by rw [hn] at hh; cases hh.2), if_pos h1]⟩
    rw [HP.out]
    have HBT := Aside0.mk (str_bytes n.f5)
    have HS : Aside0 (⟨#[92]⟩ ++ n.f5 = strOfNums (92 :: bytesOf n.f5)) := ⟨by rw [show 92 :: bytesOf n.f5 = [92] ++ bytesOf n.f5 from rfl, str_app, HBT.out]; rfl⟩
    have HLL : Aside0 ((92 :: bytesOf n.f5).length = 2) := ⟨by rw [hx]; rfl⟩
    clear hW hl hx h1 hg0 henc hes
    go_enter Tryz.func44, Tryz.ntmps44
    go_wp2_with fail
    refine (bwS B b acc (92 :: bytesOf n.f5) _ _ (HBX.out _) HS.out (by have := HL.out; have := HLL.out; omega)).mono ?_
    rintro e w1 ⟨⟨u, rfl⟩, hw1⟩
    have HW1 := Aside0.mk (Wrote.after HW.out.base (below_alloc (Below.refl _ _) _) hw1)
    clear hw1
    go_wp2_with fail
    go_end0
    exact ⟨rfl, HW1.out⟩

end Go.Proofs.YtkipjalfgdfaiaaGreatDoor
namespace Go.Proofs.YtkipjalfgdfaiaaGreatDoor
set_option linter.unusedVariables false
set_option linter.unusedSimpArgs false
open Go.RowKit Go.Proofs.YtkipjalfgdfaiaaGreatDoorW.PrintWords Go.Proofs.YtkipjalfgdfaiaaGreatDoorW.PrintLast Go.Proofs.YtkipjalfgdfaiaaGreatDoorW.PrintMore Go.Proofs.YtkipjalfgdfaiaaGreatDoor.PTk

theorem Wr.lt {B b : Nat} {acc : List Int} {w : World} (h : Wr B b acc w) : b < w.heap.size := by
  rcases h.bld with h | h
  · exact h.lt
  · exact h.lt
/-- What a walk of a writer starts from: the nodes lie in w0, the builder came later. -/
structure Ew (w0 w : World) (B b : Nat) (acc : List Int) : Prop where
  bel : Below w0.heap.size w0 w
  bge : w0.heap.size ≤ B
  wr : Wr B b acc w
theorem Ew.step {w0 w w' : World} {B b : Nat} {acc l : List Int} (E : Ew w0 w B b acc) (h : Wrote B b acc l w w') : Ew w0 w' B b (acc ++ l) := ⟨E.bel.trans (h.2.1.mono E.bge), E.bge, h.1⟩
theorem Ew.below {w0 w w' : World} {B b : Nat} {acc : List Int} (E : Ew w0 w B b acc) (hb : Below w.heap.size w w') : Ew w0 w' B b acc := ⟨E.bel.trans (hb.mono E.bel.size), E.bge, E.wr.below hb⟩
abbrev SideC (m0 : Int) (n : Nd) : Prop := ∀ (w0 w : World) (B b : Nat) (acc : List Int) (v : Value), TVars w0 m0 → RdN w0 n v → Ew w0 w B b acc → acc.length + (sideW n).length ≤ 100000000000000 →
  Calls Tryz.prog 66 #[.pointer (some ⟨b, 0, none⟩), v] w (RetU B b acc (sideW n) w)
set_option maxHeartbeats 4000000 in
set_option maxRecDepth 100000 in
theorem writeClass_any {n : Nd} (m0 : Int) (hS : SideC m0 n) (w0 w : World) (hv : TVars w0 m0) (B b : Nat) (acc : List Int) (v : Value) (h : RdN w0 n v) (E : Ew w0 w B b acc) (hl : acc.length + (classW n).length ≤ 100000000000000) :
    Calls Tryz.prog 43 #[.pointer (some ⟨b, 0, none⟩), v] w (RetU B b acc (classW n) w) := by
  have hlc : (classW n).length = 2 + (if n.f4 = true then 1 else 0) + (sideW n).length := by unfold classW; split <;> simp <;> omega
  obtain ⟨A6, c6, A7, c7, e, g1, g2, g3, g4⟩ := h
  subst e
  have hrd : RdN w0 n (ndV n A6 c6 A7 c7) := ⟨A6, c6, A7, c7, rfl, g1, g2, g3, g4⟩
  have HS := Aside0.mk (fun W acc' (E' : Ew w0 W B b acc') hl => hS w0 W B b acc' _ hv hrd E' hl)
  have HE := Aside0.mk E
  have hbn : b ≠ w.heap.size := Nat.ne_of_lt E.wr.lt
  have HL := Aside0.mk hl
  have HLC := Aside0.mk hlc
  have HX : ∀ (o : Obj) (W : World), Keep b (w.alloc o) W → ∀ cs T, o = .cells cs T (0, 0) → T ≠ 5 → W.heap[w.heap.size]? = some (.cells cs T (0, 0)) := fun o W hk cs T ho hT => hk w.heap.size cs T (0, 0) hT (Ne.symm hbn) (by rw [← ho]; exact heap_alloc_new w o)
  have HXX := Aside0.mk HX
  clear g1 g2 g3 g4 hrd hl hlc HX
  cases hn : n.f4 with
  | true =>
    have HP : Aside0 (classW n = [91] ++ [94] ++ sideW n ++ [93]) := ⟨by unfold classW; rw [if_pos hn]⟩
    have HS2 : Aside0 (∀ W acc' (E' : Ew w0 W B b acc') (hl : acc'.length + (sideW n).length ≤ 100000000000000), Calls Tryz.prog 66 #[.pointer (some ⟨b, 0, none⟩), .agg #[.int .i64 n.f0, .int .i64 n.f1, .int .i64 n.f2, .int .i64 n.f3, .bool true, .string n.f5, .slice A6 n.f6.length c6, .slice A7 n.f7.length c7]] W (RetU B b acc' (sideW n) W)) := ⟨by rw [← hn]; exact HS.out⟩
    have HLN : Aside0 (acc.length + 3 + (sideW n).length ≤ 100000000000000) := ⟨by have := HL.out; have h2 := HLC.out; rw [hn] at h2; simp at h2; omega⟩
    obtain ⟨SW, hSW⟩ : ∃ SW, sideW n = SW := ⟨_, rfl⟩
    rw [hSW] at HP HS2 HLN
    clear HS HL HLC hSW hS
    obtain ⟨R, hR⟩ : ∃ R, classW n = R := ⟨_, rfl⟩
    rw [hR] at HP ⊢
    clear hR
    go_enter Tryz.func43, Tryz.ntmps43
    go_wp2_with fail
    refine (bwS B b (acc) [91] _ _ (HE.out.wr.below (below_alloc (Below.refl _ _) _)) rfl (by have := HLN.out; simp; omega)).mono ?_
    rintro e w1 ⟨⟨u1, rfl⟩, hw1⟩
    have hx1 := HXX.out _ w1 hw1.2.2.1 _ _ rfl (by decide)
    have HT1 := Aside0.mk (Wrote.after HE.out.wr.base (below_alloc (Below.refl _ _) _) hw1)
    have HX1 := Aside0.mk hx1
    have HE1 := Aside0.mk (HE.out.step HT1.out)
    have q1_0 := rowc hx1 0 _ rfl
    have q1_1 := rowc hx1 1 _ rfl
    have q1_2 := rowc hx1 2 _ rfl
    have q1_3 := rowc hx1 3 _ rfl
    have q1_4 := rowc hx1 4 _ rfl
    have q1_5 := rowc hx1 5 _ rfl
    have q1_6 := rowc hx1 6 _ rfl
    have q1_7 := rowc hx1 7 _ rfl
    clear hw1 hx1 
    go_wp2_with fail
    refine (bwS B b (acc ++ ([91])) [94] _ _ HE1.out.wr rfl (by have := HLN.out; simp; omega)).mono ?_
    rintro e w2 ⟨⟨u2, rfl⟩, hw2⟩
    have hx2 := hw2.2.2.1 _ _ _ _ (by decide) (Ne.symm hbn) HX1.out
    have HT2 := Aside0.mk (Wrote.trans HT1.out hw2)
    have HX2 := Aside0.mk hx2
    have HE2 := Aside0.mk (HE.out.step HT2.out)
    have q2_0 := rowc hx2 0 _ rfl
    have q2_1 := rowc hx2 1 _ rfl
    have q2_2 := rowc hx2 2 _ rfl
    have q2_3 := rowc hx2 3 _ rfl
    have q2_4 := rowc hx2 4 _ rfl
    have q2_5 := rowc hx2 5 _ rfl
    have q2_6 := rowc hx2 6 _ rfl
    have q2_7 := rowc hx2 7 _ rfl
    clear hw2 hx2 q1_0 q1_1 q1_2 q1_3 q1_4 q1_5 q1_6 q1_7
    go_wp2_with fail
    refine (HS2.out _ _ HE2.out (by have := HLN.out; simp; omega)).mono ?_
    rintro e w3 ⟨rfl, hw3⟩
    have hx3 := hw3.2.2.1 _ _ _ _ (by decide) (Ne.symm hbn) HX2.out
    have HT3 := Aside0.mk (Wrote.trans HT2.out hw3)
    have HX3 := Aside0.mk hx3
    have HE3 := Aside0.mk (HE.out.step HT3.out)
    have q3_0 := rowc hx3 0 _ rfl
    have q3_1 := rowc hx3 1 _ rfl
    have q3_2 := rowc hx3 2 _ rfl
    have q3_3 := rowc hx3 3 _ rfl
    have q3_4 := rowc hx3 4 _ rfl
    have q3_5 := rowc hx3 5 _ rfl
    have q3_6 := rowc hx3 6 _ rfl
    have q3_7 := rowc hx3 7 _ rfl
    clear hw3 hx3 q2_0 q2_1 q2_2 q2_3 q2_4 q2_5 q2_6 q2_7
    go_wp2_with fail
    refine (bwS B b (acc ++ ([91] ++ [94] ++ SW)) [93] _ _ HE3.out.wr rfl (by have := HLN.out; simp; omega)).mono ?_
    rintro e w4 ⟨⟨u4, rfl⟩, hw4⟩
    have hx4 := hw4.2.2.1 _ _ _ _ (by decide) (Ne.symm hbn) HX3.out
    have HT4 := Aside0.mk (Wrote.trans HT3.out hw4)
    have HX4 := Aside0.mk hx4
    have HE4 := Aside0.mk (HE.out.step HT4.out)
    have q4_0 := rowc hx4 0 _ rfl
    have q4_1 := rowc hx4 1 _ rfl
    have q4_2 := rowc hx4 2 _ rfl
    have q4_3 := rowc hx4 3 _ rfl
    have q4_4 := rowc hx4 4 _ rfl
    have q4_5 := rowc hx4 5 _ rfl
    have q4_6 := rowc hx4 6 _ rfl
    have q4_7 := rowc hx4 7 _ rfl
    clear hw4 hx4 q3_0 q3_1 q3_2 q3_3 q3_4 q3_5 q3_6 q3_7
    go_wp2_with fail
    go_end0
    rw [HP.out]
    exact ⟨rfl, HT4.out⟩
  | false =>
    have HP : Aside0 (classW n = [91] ++ sideW n ++ [93]) := ⟨by unfold classW; rw [if_neg (by rw [hn]; decide)]; rfl⟩
    have HS2 : Aside0 (∀ W acc' (E' : Ew w0 W B b acc') (hl : acc'.length + (sideW n).length ≤ 100000000000000), Calls Tryz.prog 66 #[.pointer (some ⟨b, 0, none⟩), .agg #[.int .i64 n.f0, .int .i64 n.f1, .int .i64 n.f2, .int .i64 n.f3, .bool false, .string n.f5, .slice A6 n.f6.length c6, .slice A7 n.f7.length c7]] W (RetU B b acc' (sideW n) W)) := ⟨by rw [← hn]; exact HS.out⟩
    have HLN : Aside0 (acc.length + 2 + (sideW n).length ≤ 100000000000000) := ⟨by have := HL.out; have h2 := HLC.out; rw [hn] at h2; simp at h2; omega⟩
    obtain ⟨SW, hSW⟩ : ∃ SW, sideW n = SW := ⟨_, rfl⟩
    rw [hSW] at HP HS2 HLN
    clear HS HL HLC hSW hS
    obtain ⟨R, hR⟩ : ∃ R, classW n = R := ⟨_, rfl⟩
    rw [hR] at HP ⊢
    clear hR
    go_enter Tryz.func43, Tryz.ntmps43
    go_wp2_with fail
    refine (bwS B b (acc) [91] _ _ (HE.out.wr.below (below_alloc (Below.refl _ _) _)) rfl (by have := HLN.out; simp; omega)).mono ?_
    rintro e w1 ⟨⟨u1, rfl⟩, hw1⟩
    have hx1 := HXX.out _ w1 hw1.2.2.1 _ _ rfl (by decide)
    have HT1 := Aside0.mk (Wrote.after HE.out.wr.base (below_alloc (Below.refl _ _) _) hw1)
    have HX1 := Aside0.mk hx1
    have HE1 := Aside0.mk (HE.out.step HT1.out)
    have q1_0 := rowc hx1 0 _ rfl
    have q1_1 := rowc hx1 1 _ rfl
    have q1_2 := rowc hx1 2 _ rfl
    have q1_3 := rowc hx1 3 _ rfl
    have q1_4 := rowc hx1 4 _ rfl
    have q1_5 := rowc hx1 5 _ rfl
    have q1_6 := rowc hx1 6 _ rfl
    have q1_7 := rowc hx1 7 _ rfl
    clear hw1 hx1 
    go_wp2_with fail
    refine (HS2.out _ _ HE1.out (by have := HLN.out; simp; omega)).mono ?_
    rintro e w2 ⟨rfl, hw2⟩
    have hx2 := hw2.2.2.1 _ _ _ _ (by decide) (Ne.symm hbn) HX1.out
    have HT2 := Aside0.mk (Wrote.trans HT1.out hw2)
    have HX2 := Aside0.mk hx2
    have HE2 := Aside0.mk (HE.out.step HT2.out)
    have q2_0 := rowc hx2 0 _ rfl
    have q2_1 := rowc hx2 1 _ rfl
    have q2_2 := rowc hx2 2 _ rfl
    have q2_3 := rowc hx2 3 _ rfl
    have q2_4 := rowc hx2 4 _ rfl
    have q2_5 := rowc hx2 5 _ rfl
    have q2_6 := rowc hx2 6 _ rfl
    have q2_7 := rowc hx2 7 _ rfl
    clear hw2 hx2 q1_0 q1_1 q1_2 q1_3 q1_4 q1_5 q1_6 q1_7
    go_wp2_with fail
    refine (bwS B b (acc ++ ([91] ++ SW)) [93] _ _ HE2.out.wr rfl (by have := HLN.out; simp; omega)).mono ?_
    rintro e w3 ⟨⟨u3, rfl⟩, hw3⟩
    have hx3 := hw3.2.2.1 _ _ _ _ (by decide) (Ne.symm hbn) HX2.out
    have HT3 := Aside0.mk (Wrote.trans HT2.out hw3)
    have HX3 := Aside0.mk hx3
    have HE3 := Aside0.mk (HE.out.step HT3.out)
    have q3_0 := rowc hx3 0 _ rfl
    have q3_1 := rowc hx3 1 _ rfl
    have q3_2 := rowc hx3 2 _ rfl
    have q3_3 := rowc hx3 3 _ rfl
    have q3_4 := rowc hx3 4 _ rfl
    have q3_5 := rowc hx3 5 _ rfl
    have q3_6 := rowc hx3 6 _ rfl
    have q3_7 := rowc hx3 7 _ rfl
    clear hw3 hx3 q2_0 q2_1 q2_2 q2_3 q2_4 q2_5 q2_6 q2_7
    go_wp2_with fail
    go_end0
    rw [HP.out]
    exact ⟨rfl, HT3.out⟩

end Go.Proofs.YtkipjalfgdfaiaaGreatDoor
namespace Go.Proofs.YtkipjalfgdfaiaaGreatDoor
set_option linter.unusedVariables false
set_option linter.unusedSimpArgs false
open Go.RowKit Go.Proofs.YtkipjalfgdfaiaaGreatDoorW.PrintWords Go.Proofs.YtkipjalfgdfaiaaGreatDoorW.PrintLast Go.Proofs.YtkipjalfgdfaiaaGreatDoorW.PrintMore Go.Proofs.YtkipjalfgdfaiaaGreatDoor.PTk

set_option maxHeartbeats 4000000 in
set_option maxRecDepth 100000 in
theorem writeSide_two {n a c : Nd} (m0 : Int) (hab : n.f7 = [a, c]) (hSa : SideC m0 a) (hSc : SideC m0 c) (i : Nat) (hi0 : 1 ≤ i) (hi3 : i ≤ 3) (hm : n.f1 = (i : Int)) (w0 w : World) (hv : TVars w0 m0) (B b : Nat) (acc : List Int) (v : Value) (h : RdN w0 n v) (E : Ew w0 w B b acc) (hl : acc.length + (sideW n).length ≤ 100000000000000) :
    Calls Tryz.prog 66 #[.pointer (some ⟨b, 0, none⟩), v] w (RetU B b acc (sideW n) w) := by
  have hsw : sideW n = sideW a ++ ofT n.f1 [[], [38, 38], [45, 45], [126, 126]] ++ sideW c := by
    obtain ⟨k, m, aa, bb, ng, nm, st, ks⟩ := n
    simp only at hab hm
    subst hab
    rw [sideW, if_neg (by omega), sidesW]
  obtain ⟨A6, c6, A7, c7, e, g1, g2, g3, hC⟩ := h
  subst e
  obtain ⟨ad, P6, p6, P7, p7, Q6, q6, Q7, q7, rfl, ha, ra, hb, rb⟩ := two_at hC hab
  have HE := Aside0.mk E
  have hbn : b ≠ w.heap.size := Nat.ne_of_lt E.wr.lt
  have e0 : (n.f1 != 0) = true := by rw [bne_iff_ne, hm]; omega
  have hi1 : 0 < n.f7.length := by rw [hab]; simp
  have hi2 : 1 < n.f7.length := by rw [hab]; simp
  have hi4 : (1 : Int) < (n.f7.length : Int) := by omega
  have hi5 : (0 : Int) < (n.f7.length : Int) := by omega
  have HKA := Aside0.mk ha
  have HKC := Aside0.mk hb
  have HSA := Aside0.mk (fun W acc' (E' : Ew w0 W B b acc') hl => hSa w0 W B b acc' _ hv ra E' hl)
  have HSC := Aside0.mk (fun W acc' (E' : Ew w0 W B b acc') hl => hSc w0 W B b acc' _ hv rb E' hl)
  have HM := Aside0.mk hm
  have HX : ∀ (o : Obj) (W : World), Keep b (w.alloc o) W → ∀ cs T, o = .cells cs T (0, 0) → T ≠ 5 → W.heap[w.heap.size]? = some (.cells cs T (0, 0)) := fun o W hk cs T ho hT => hk w.heap.size cs T (0, 0) hT (Ne.symm hbn) (by rw [← ho]; exact heap_alloc_new w o)
  have HXX := Aside0.mk HX
  have HBX := Aside0.mk (fun o => E.below (below_alloc (Below.refl w.heap.size w) o))
  have hls : (sideW n).length = (sideW a).length + (ofT n.f1 [[], [38, 38], [45, 45], [126, 126]]).length + (sideW c).length := by rw [hsw]; simp; omega
  have HLN := Aside0.mk (show acc.length + ((sideW a).length + (ofT n.f1 [[], [38, 38], [45, 45], [126, 126]]).length + (sideW c).length) ≤ 100000000000000 by rw [← hls]; exact hl)
  obtain ⟨SA, hSA⟩ : ∃ SA, sideW a = SA := ⟨_, rfl⟩
  obtain ⟨SC, hSC⟩ : ∃ SC, sideW c = SC := ⟨_, rfl⟩
  obtain ⟨R, hR⟩ : ∃ R, sideW n = R := ⟨_, rfl⟩
  rw [hSA] at HSA hsw HLN
  rw [hSC] at HSC hsw HLN
  rw [hR] at hsw ⊢
  have HSW := Aside0.mk hsw
  have hof : ∀ (W' : World) (g : Nat), W'.heap[g]? = some (.cells #[.string ⟨#[]⟩, .string ⟨#[38, 38]⟩, .string ⟨#[45, 45]⟩, .string ⟨#[126, 126]⟩] 9 (0, 0)) → Calls Tryz.prog 46 #[.int .i64 n.f1, .slice (some ⟨g, 0, none⟩) 4 4] W' fun e w2 => e = .returned (.string (strOfNums (ofT n.f1 [[], [38, 38], [45, 45], [126, 126]]))) ∧ w2 = W' := fun W' g hg => by
    rw [hm]
    rcases (show i = 1 ∨ i = 2 ∨ i = 3 by omega) with rfl | rfl | rfl
    · exact of_texts [⟨#[]⟩, ⟨#[38, 38]⟩, ⟨#[45, 45]⟩, ⟨#[126, 126]⟩] 1 (by decide) W' W' g (0, 0) hg
    · exact of_texts [⟨#[]⟩, ⟨#[38, 38]⟩, ⟨#[45, 45]⟩, ⟨#[126, 126]⟩] 2 (by decide) W' W' g (0, 0) hg
    · exact of_texts [⟨#[]⟩, ⟨#[38, 38]⟩, ⟨#[45, 45]⟩, ⟨#[126, 126]⟩] 3 (by decide) W' W' g (0, 0) hg
  obtain ⟨OT, hOT⟩ : ∃ OT, ofT n.f1 [[], [38, 38], [45, 45], [126, 126]] = OT := ⟨_, rfl⟩
  rw [hOT] at HSW HLN hof
  have HOF := Aside0.mk hof
  clear hof hOT
  clear hv hab hSa hSc hC ha ra hb rb g1 g2 g3 HX hls hl hSA hSC hR hsw E hm
  go_enter Tryz.func66, Tryz.ntmps66
  have x0 := fun o => (HKA.out.up (HBX.out o).bel).1
  have x1 := fun o => (HKA.out.up (HBX.out o).bel).2.1
  have x2 := fun o => (HKA.out.up (HBX.out o).bel).2.2.1
  have x3 := fun o => (HKA.out.up (HBX.out o).bel).2.2.2.1
  have x4 := fun o => (HKA.out.up (HBX.out o).bel).2.2.2.2.1
  have x5 := fun o => (HKA.out.up (HBX.out o).bel).2.2.2.2.2.1
  have x6 := fun o => (HKA.out.up (HBX.out o).bel).2.2.2.2.2.2.1
  have x7 := fun o => (HKA.out.up (HBX.out o).bel).2.2.2.2.2.2.2
  go_wp2_with fail
  refine (HSA.out _ acc (HBX.out _) (by have := HLN.out; omega)).mono ?_
  rintro e w1 ⟨rfl, hw1⟩
  have hx1 := HXX.out _ w1 hw1.2.2.1 _ _ rfl (by decide)
  have HT1 := Aside0.mk (Wrote.after HE.out.wr.base (below_alloc (Below.refl _ _) _) hw1)
  have HX1 := Aside0.mk hx1
  have HE1 := Aside0.mk (HE.out.step HT1.out)
  have q1_1 := rowc hx1 1 _ rfl
  have q1_7 := rowc hx1 7 _ rfl
  have hlt1 : w.heap.size < w1.heap.size := (Array.getElem?_eq_some_iff.1 hx1).1
  clear hw1 hx1 x0 x1 x2 x3 x4 x5 x6 x7
  go_wp2_with fail
  refine (HOF.out _ _ (heap_alloc_new w1 _)).mono ?_
  rintro e w2 ⟨rfl, rfl⟩
  clear q1_1 q1_7
  go_wp2_with fail
  refine (bwS B b (acc ++ SA) OT _ _ (HE1.out.below (below_alloc (Below.refl _ _) _)).wr rfl (by have := HLN.out; simp; omega)).mono ?_
  rintro e w2 ⟨⟨u2, rfl⟩, hw2⟩
  have hx2 := hw2.2.2.1 _ _ _ _ (by decide) (Ne.symm hbn) ((heap_alloc_old w1 _ hlt1).trans HX1.out)
  have HT2 := Aside0.mk (Wrote.trans HT1.out (Wrote.after HE1.out.wr.base (below_alloc (Below.refl _ _) _) hw2))
  have HX2 := Aside0.mk hx2
  have HE2 := Aside0.mk (HE.out.step HT2.out)
  have q2_7 := rowc hx2 7 _ rfl
  obtain ⟨y0, y1, y2, y3, y4, y5, y6, y7⟩ := HKC.out.up HE2.out.bel
  clear hw2 hx2 hlt1
  go_wp2_with fail
  refine (HSC.out _ _ HE2.out (by have := HLN.out; simp; omega)).mono ?_
  rintro e w3 ⟨rfl, hw3⟩
  have HT3 := Aside0.mk (Wrote.trans HT2.out hw3)
  clear hw3 q2_7 y0 y1 y2 y3 y4 y5 y6 y7
  go_wp2_with fail
  go_end0
  rw [HSW.out]
  exact ⟨rfl, HT3.out⟩

end Go.Proofs.YtkipjalfgdfaiaaGreatDoor
namespace Go.Proofs.YtkipjalfgdfaiaaGreatDoor
set_option linter.unusedVariables false
set_option linter.unusedSimpArgs false
open Go.RowKit Go.Proofs.YtkipjalfgdfaiaaGreatDoorW.PrintWords Go.Proofs.YtkipjalfgdfaiaaGreatDoorW.PrintLast Go.Proofs.YtkipjalfgdfaiaaGreatDoorW.PrintMore Go.Proofs.YtkipjalfgdfaiaaGreatDoor.PTk

attribute [local go_sem ↓] Go.wp_at_zero Go.wp_at_succ
abbrev PropC (n : Nd) : Prop := ∀ (w0 w : World) (B b : Nat) (acc : List Int) (v : Value), RdN w0 n v → Ew w0 w B b acc → acc.length + (propW n).length ≤ 100000000000000 →
  Calls Tryz.prog 44 #[.pointer (some ⟨b, 0, none⟩), v] w (RetU B b acc (propW n) w)
def memW (n : Nd) : List Int := if n.f0 = 1 then printL n.f2 true else if n.f0 = 4 then printL n.f2 true ++ 45 :: printL n.f3 true else if n.f0 = 5 then propW n else [91] ++ (if n.f4 = true then [94] else []) ++ sideW n ++ [93]
theorem membW_cons (n : Nd) (ns : List Nd) : membW (n :: ns) = memW n ++ membW ns := by rw [membW]; rfl
theorem printL_le (r : Int) : (printL r true).length ≤ 1000 := by
  cases h : runeB r with
  | true => have := (printL_pos (cls := true) h).2; omega
  | false => rw [printL_none h]; simp
theorem membW_nil : membW [] = [] := by rw [membW]
theorem sideW_union {n : Nd} (h : n.f1 = 0) : sideW n = membW n.f7 := by cases n; simp only at h; rw [sideW, if_pos h]
set_option maxHeartbeats 4000000 in
set_option maxRecDepth 100000 in
theorem writeSide_union {n : Nd} (m0 : Int) (hm : n.f1 = 0) (hlen : n.f7.length ≤ 2147483648) (h5 : ∀ k ∈ n.f7, k.f0 = 5 → PropC k) (h0 : ∀ k ∈ n.f7, k.f0 ≠ 1 → k.f0 ≠ 4 → k.f0 ≠ 5 → SideC m0 k) (w0 w : World) (hv : TVars w0 m0) (B b : Nat) (acc : List Int) (v : Value) (h : RdN w0 n v) (E : Ew w0 w B b acc) (hl : acc.length + (sideW n).length ≤ 100000000000000) :
    Calls Tryz.prog 66 #[.pointer (some ⟨b, 0, none⟩), v] w (RetU B b acc (sideW n) w) := by
  rw [sideW_union hm] at hl ⊢
  obtain ⟨A6, c6, A7, c7, e, g1, g2, g3, hC⟩ := h
  subst e
  have HE := Aside0.mk E
  have hbn : b ≠ w.heap.size := Nat.ne_of_lt E.wr.lt
  have e0 : (n.f1 != 0) = false := by rw [hm]; rfl
  have HKD := Aside0.mk (fun j hj => kids_at hC j hj)
  have HLEN := Aside0.mk hlen
  have H5 := Aside0.mk h5
  have H0 := Aside0.mk h0
  have HV := Aside0.mk hv
  have HPR := Aside0.mk (fun r W (E' : Below w0.heap.size w0 W) => print_any r true W m0 (hv.stay E').mx (hv.stay E').tab)
  have HES : Aside0 (∀ o, Wrote B b acc [] w (w.alloc o)) := ⟨fun o => Wrote.after E.wr.base (below_alloc (Below.refl _ _) o) (Wrote.none (E.wr.below (below_alloc (Below.refl _ _) o)))⟩
  obtain ⟨R, hR⟩ : ∃ R, membW n.f7 = R := ⟨_, rfl⟩
  rw [hR] at hl ⊢
  have HR0 := Aside0.mk hR
  have HL := Aside0.mk hl
  clear hm hlen h5 h0 hv E hl hC g1 g2 g3 hR
  go_enter Tryz.func66, Tryz.ntmps66
  go_wp2_with fail
  go_loopg [30] n.f7.length (fun gk v30 w' => ∃ (j : Nat) (done : List Int), v30 = .int .i64 (j : Int) ∧ Aside0 (j ≤ n.f7.length ∧ gk = n.f7.length - j) ∧ Aside0 (done ++ membW (n.f7.drop j) = R) ∧ Aside0 (Wrote B b acc done w w'))
  case atStart => exact ⟨0, [], by first | rfl | simp, ⟨Nat.zero_le _, rfl⟩, ⟨by rw [List.drop_zero]; exact HR0.out⟩, ⟨HES.out _⟩⟩
  case round =>
    obtain ⟨j, done, rfl, HA, HK, HT⟩ := hrel
    by_cases hj : j < n.f7.length
    rotate_left
    · have hjb : decide (j < n.f7.length) = false := decide_eq_false hj
      have HRN : Aside0 (R = done) := ⟨by rw [← HK.out, List.drop_eq_nil_of_le (by omega), membW_nil, List.append_nil]⟩
      clear hj
      go_wp2_with fail
      go_end0
      rw [HRN.out]
      exact ⟨rfl, HT.out⟩
    have hjd : decide (j < n.f7.length) = true := decide_eq_true hj
    obtain ⟨ad, P6, p6, P7, p7, rfl, hk, rk⟩ := HKD.out j hj
    have hmem := List.getElem_mem hj
    have hkc := HK.out
    rw [List.drop_eq_getElem_cons hj, membW_cons] at hkc
    have h5 := H5.out _ hmem
    have h0 := H0.out _ hmem
    have HEW := Aside0.mk (HE.out.step HT.out)
    obtain ⟨x0, x1, x2, x3, x4, x5, x6, x7⟩ := hk.up HEW.out.bel
    obtain ⟨m, hm⟩ : ∃ m, n.f7[j] = m := ⟨_, rfl⟩
    rw [hm] at x0 x1 x2 x3 x4 x5 x6 x7 hkc h5 h0 rk
    have HKC := Aside0.mk hkc
    have HRK := Aside0.mk rk
    have HJ := Aside0.mk hj
    have HBX := Aside0.mk (fun o => HEW.out.below (below_alloc (Below.refl wr.heap.size wr) o))
    have hbr : b ≠ wr.heap.size := Nat.ne_of_lt HEW.out.wr.lt
    have HLL : Aside0 (acc.length + done.length + (memW m).length ≤ 100000000000000) := ⟨by have h1 := HL.out; rw [← hkc] at h1; simp at h1; omega⟩
    clear hk hmem hkc hm rk
    by_cases k1 : m.f0 = 1
    · have e1 : (m.f0 == 1) = true := by rw [k1]; rfl
      have HM : Aside0 (memW m = printL m.f2 true) := ⟨by unfold memW; rw [if_pos k1]⟩
      clear k1 h5 h0
      go_wp2_with fail
      refine (HPR.out m.f2 _ (HBX.out _).bel).mono ?_
      rintro e v1 ⟨rfl, hb1⟩
      have HB1 := Aside0.mk (below_to (below_alloc (Below.refl wr.heap.size wr) _) hb1)
      clear hb1 x0 x1 x2 x3 x4 x5 x6 x7
      go_wp2_with fail
      refine (bwS B b (acc ++ done) (memW m) _ _ ((HEW.out.below HB1.out).wr) (by rw [HM.out]) (by have := HLL.out; simp; omega)).mono ?_
      rintro e v2 ⟨⟨u2, rfl⟩, hw2⟩
      have hw := Wrote.after HEW.out.wr.base HB1.out hw2
      clear hw2
      have HT2 := Aside0.mk (Wrote.trans HT.out hw)
      have HK2 : Aside0 ((done ++ memW m) ++ membW (n.f7.drop (j + 1)) = R) := ⟨by rw [List.append_assoc]; exact HKC.out⟩
      clear hw
      go_wp2_with fail
      go_roundg (n.f7.length - j - 1)
      case measure => have := HA.out; have := HJ.out; omega
      case rel => exact ⟨j + 1, done ++ memW m, by have h1 := HLEN.out; have h2 := HJ.out; first | rfl | (rw [w64c (by omega) (by omega)]; rfl) | (exact congrArg _ (by omega)), ⟨by have := HJ.out; omega, by omega⟩, HK2, HT2⟩
    have e1 : (m.f0 == 1) = false := by rw [beq_eq_false_iff_ne]; exact k1
    by_cases k4 : m.f0 = 4
    · have e4 : (m.f0 == 4) = true := by rw [k4]; rfl
      have HM : Aside0 (memW m = printL m.f2 true ++ 45 :: printL m.f3 true) := ⟨by unfold memW; rw [if_neg k1, if_pos k4]⟩
      clear k1 k4 h5 h0
      go_wp2_with fail
      have hx4 := heap_alloc_new wr (.cells #[.int .i64 m.f0, .int .i64 m.f1, .int .i64 m.f2, .int .i64 m.f3, .bool m.f4, .string m.f5, .slice P6 m.f6.length p6, .slice P7 m.f7.length p7] 25)
      have hs4 : (wr.alloc (.cells #[.int .i64 m.f0, .int .i64 m.f1, .int .i64 m.f2, .int .i64 m.f3, .bool m.f4, .string m.f5, .slice P6 m.f6.length p6, .slice P7 m.f7.length p7] 25)).heap.size = wr.heap.size + 1 := by simp
      have hb4 : Below wr.heap.size wr (wr.alloc (.cells #[.int .i64 m.f0, .int .i64 m.f1, .int .i64 m.f2, .int .i64 m.f3, .bool m.f4, .string m.f5, .slice P6 m.f6.length p6, .slice P7 m.f7.length p7] 25)) := below_alloc (Below.refl _ _) _
      obtain ⟨W4, hW4⟩ : ∃ W4, wr.alloc (.cells #[.int .i64 m.f0, .int .i64 m.f1, .int .i64 m.f2, .int .i64 m.f3, .bool m.f4, .string m.f5, .slice P6 m.f6.length p6, .slice P7 m.f7.length p7] 25) = W4 := ⟨_, rfl⟩
      rw [hW4] at hx4 hs4 hb4 ⊢
      clear hW4 x0 x1 x2 x3 x4 x5 x6 x7
      have z2 := rowc hx4 2 _ rfl
      have z3 := rowc hx4 3 _ rfl
      have HX4 := Aside0.mk hx4
      have HB4 := Aside0.mk hb4
      have HS4 := Aside0.mk hs4
      have hpl : ∀ r : Int, (strOfNums (printL r true)).size ≤ 1000 := fun r => by rw [Lib.size_eq, str_data, List.length_map]; exact printL_le r
      have hz2 := hpl m.f2
      have hz3 := hpl m.f3
      obtain ⟨SA, hSA⟩ : ∃ SA, strOfNums (printL m.f2 true) = SA := ⟨_, rfl⟩
      obtain ⟨SB, hSB⟩ : ∃ SB, strOfNums (printL m.f3 true) = SB := ⟨_, rfl⟩
      have HPA := Aside0.mk (HPR.out m.f2)
      have HPB := Aside0.mk (HPR.out m.f3)
      have HSUM : Aside0 ((SA ++ ⟨#[45]⟩) ++ SB = strOfNums (memW m)) := ⟨by rw [HM.out, ← hSA, ← hSB, show printL m.f2 true ++ 45 :: printL m.f3 true = (printL m.f2 true ++ [45]) ++ printL m.f3 true by simp, str_app, str_app]; rfl⟩
      rw [hSA] at hz2 HPA
      rw [hSB] at hz3 HPB
      clear hx4 hb4 hs4 hpl hSA hSB
      refine start_ (n := 10) (S := fun w' => w'.cell? ⟨wr.heap.size, 2, none⟩ = some (.int .i64 m.f2) ∧ w'.cell? ⟨wr.heap.size, 3, none⟩ = some (.int .i64 m.f3)) (ds := [9]) #[false, false, false, false, false, false, false, false, false, false] (by kernel_rfl) rfl rfl ⟨z2, z3⟩ (fun hHeld => ?_)
      refine pure_ (i := 0) (N := some 48) (v := ?_) (a' := ?_) #[true, false, false, false, false, false, false, false, false, false] rfl rfl (by kernel_rfl) (fun _ _ _ h => h) (Or.inl ⟨by rfl, ?_⟩) ?_ ?_
      rotate_left
      · intro w'
        go_simp
        with_reducible rfl
      rotate_left
      · simp only [Act.put, List.setIfInBounds_toArray, List.set_cons_zero, List.set_cons_succ, i64_w, i32_w]
        rfl
      refine pure_ (i := 1) (N := some 49) (v := ?_) (a' := ?_) #[true, true, false, false, false, false, false, false, false, false] rfl rfl (by kernel_rfl) (fun _ _ _ h => h) (Or.inl ⟨by rfl, ?_⟩) ?_ ?_
      rotate_left
      · intro w'
        go_simp
        with_reducible rfl
      rotate_left
      · simp only [Act.put, List.setIfInBounds_toArray, List.set_cons_zero, List.set_cons_succ, i64_w, i32_w]
        rfl
      refine take_ (i := 2) (N := some 50) (v := ?_) (a' := ?_) #[true, true, true, false, false, false, false, false, false, false] rfl rfl (by kernel_rfl) (fun _ _ _ h => h) (Or.inl ⟨by rfl, ?_⟩) hHeld ?_ ?_
      rotate_left
      · rintro w' ⟨s0, s1⟩
        go_simp
        with_reducible rfl
      rotate_left
      · simp only [Act.put, List.setIfInBounds_toArray, List.set_cons_zero, List.set_cons_succ, i64_w, i32_w]
        rfl
      refine pure_ (i := 5) (N := some 53) (v := ?_) (a' := ?_) #[true, true, true, false, false, true, false, false, false, false] rfl rfl (by kernel_rfl) (fun _ _ _ h => h) (Or.inl ⟨by rfl, ?_⟩) ?_ ?_
      rotate_left
      · intro w'
        go_simp
        with_reducible rfl
      rotate_left
      · simp only [Act.put, List.setIfInBounds_toArray, List.set_cons_zero, List.set_cons_succ, i64_w, i32_w]
        rfl
      refine take_ (i := 6) (N := some 54) (v := ?_) (a' := ?_) #[true, true, true, false, false, true, true, false, false, false] rfl rfl (by kernel_rfl) (fun _ _ _ h => h) (Or.inl ⟨by rfl, ?_⟩) hHeld ?_ ?_
      rotate_left
      · rintro w' ⟨s0, s1⟩
        go_simp
        with_reducible rfl
      rotate_left
      · simp only [Act.put, List.setIfInBounds_toArray, List.set_cons_zero, List.set_cons_succ, i64_w, i32_w]
        rfl
      refine one_ (i := 3) (N := some 51) #[true, true, true, true, false, true, true, false, false, false] rfl rfl (by kernel_rfl) (by decide) (fun K hK => ?_)
      refine goes_ Tryz.func23 (by kernel_rfl) rfl #[.int .i64 m.f2, .bool true] (by rfl) rfl rfl (by simp only [List.map_toArray, List.map_cons, List.map_nil]; rfl) ?_
      refine (HPA.out _ ((HEW.out.below HB4.out).below (below_drew (Below.refl _ _))).bel).mono ?_
      rintro e v1 ⟨rfl, hb1⟩
      refine ⟨_, rfl, ?_⟩
      have hb1 : Below W4.heap.size W4 v1 := below_to (below_drew (Below.refl _ _)) hb1
      have hx1 := (hb1.block wr.heap.size (by have := HS4.out; omega)).trans HX4.out
      have HB1 := Aside0.mk (below_to HB4.out hb1)
      have HX1 := Aside0.mk hx1
      have hz1 := hb1.size
      have HZ1 := Aside0.mk hz1
      clear hb1 hz1
      refine hK.out _ _ ⟨rowc hx1 2 _ rfl, rowc hx1 3 _ rfl⟩ (fun hHeld => ?_)
      clear hK K hx1
      refine norm_ (a' := ?_) ?_ ?_
      rotate_left
      · show Act.put _ (some 51) _ = _
        simp only [Act.put, List.setIfInBounds_toArray, List.set_cons_zero, List.set_cons_succ, i64_w, i32_w]
        rfl
      refine pure_ (i := 4) (N := some 52) (v := ?_) (a' := ?_) #[true, true, true, true, true, true, true, false, false, false] rfl rfl (by kernel_rfl) (fun _ _ _ h => h) (Or.inl ⟨by rfl, ?_⟩) ?_ ?_
      rotate_left
      · intro w'
        go_simp
        rw [if_neg (by omega)]
      rotate_left
      · simp only [Act.put, List.setIfInBounds_toArray, List.set_cons_zero, List.set_cons_succ, i64_w, i32_w]
        rfl
      refine one_ (i := 7) (N := some 55) #[true, true, true, true, true, true, true, true, false, false] rfl rfl (by kernel_rfl) (by decide) (fun K hK => ?_)
      refine goes_ Tryz.func23 (by kernel_rfl) rfl #[.int .i64 m.f3, .bool true] (by rfl) rfl rfl (by simp only [List.map_toArray, List.map_cons, List.map_nil]; rfl) ?_
      refine (HPB.out _ (HEW.out.below HB1.out).bel).mono ?_
      rintro e v2 ⟨rfl, hb2⟩
      refine ⟨_, rfl, ?_⟩
      have hx2 := (hb2.block wr.heap.size (by have := HS4.out; have := HZ1.out; omega)).trans HX1.out
      have HB2 := Aside0.mk (below_to HB1.out hb2)
      clear hb2
      refine hK.out _ _ ⟨rowc hx2 2 _ rfl, rowc hx2 3 _ rfl⟩ (fun hHeld => ?_)
      clear hK K hx2
      refine norm_ (a' := ?_) ?_ ?_
      rotate_left
      · show Act.put _ (some 55) _ = _
        simp only [Act.put, List.setIfInBounds_toArray, List.set_cons_zero, List.set_cons_succ, i64_w, i32_w]
        rfl
      refine pure_ (i := 8) (N := some 56) (v := ?_) (a' := ?_) #[true, true, true, true, true, true, true, true, true, false] rfl rfl (by kernel_rfl) (fun _ _ _ h => h) (Or.inl ⟨by rfl, ?_⟩) ?_ ?_
      rotate_left
      · intro w'
        go_simp
        rw [if_neg (by omega)]
      rotate_left
      · simp only [Act.put, List.setIfInBounds_toArray, List.set_cons_zero, List.set_cons_succ, i64_w, i32_w]
        rfl
      refine last_ (i := 9) (N := some 57) #[true, true, true, true, true, true, true, true, true, true] rfl rfl (by kernel_rfl) (by decide) (fun K hK => ?_)
      refine goes_ Tryz.func42 (by kernel_rfl) rfl #[.pointer (some ⟨b, 0, none⟩), .string ((SA ++ ⟨#[45]⟩) ++ SB)] (by rfl) rfl rfl (by simp only [List.map_toArray, List.map_cons, List.map_nil]; rfl) ?_
      refine (bwS B b (acc ++ done) (memW m) _ _ ((HEW.out.below HB2.out).wr) HSUM.out (by have := HLL.out; simp; omega)).mono ?_
      rintro e v3 ⟨⟨u3, rfl⟩, hw2⟩
      refine ⟨_, rfl, ?_⟩
      refine hK.out _ _ ?_
      clear hK K
      refine norm_ (a' := ?_) ?_ ?_
      rotate_left
      · show Act.put _ (some 57) _ = _
        simp only [Act.put, List.setIfInBounds_toArray, List.set_cons_zero, List.set_cons_succ, i64_w, i32_w]
        rfl
      refine done_ (by kernel_rfl) ?_
      have hw := Wrote.after HEW.out.wr.base HB2.out hw2
      clear hw2 hHeld
      have HT2 := Aside0.mk (Wrote.trans HT.out hw)
      have HK2 : Aside0 ((done ++ memW m) ++ membW (n.f7.drop (j + 1)) = R) := ⟨by rw [List.append_assoc]; exact HKC.out⟩
      clear hw
      go_wp2_with fail
      go_roundg (n.f7.length - j - 1)
      case measure => have := HA.out; have := HJ.out; omega
      case rel => exact ⟨j + 1, done ++ memW m, by have h1 := HLEN.out; have h2 := HJ.out; first | rfl | (rw [w64c (by omega) (by omega)]; rfl) | (exact congrArg _ (by omega)), ⟨by have := HJ.out; omega, by omega⟩, HK2, HT2⟩
    have e4 : (m.f0 == 4) = false := by rw [beq_eq_false_iff_ne]; exact k4
    by_cases k5 : m.f0 = 5
    · have e5 : (m.f0 == 5) = true := by rw [k5]; rfl
      have HM : Aside0 (memW m = propW m) := ⟨by unfold memW; rw [if_neg k1, if_neg k4, if_pos k5]⟩
      have HPP := Aside0.mk (fun o => h5 k5 w0 (wr.alloc o) B b (acc ++ done) _ HRK.out (HBX.out o) (by have := HLL.out; rw [HM.out] at this; simp; omega))
      clear k1 k4 k5 h5 h0
      go_wp2_with fail
      refine (HPP.out _).mono ?_
      rintro e v2 ⟨rfl, hw2⟩
      have hw := Wrote.after HEW.out.wr.base (below_alloc (Below.refl wr.heap.size wr) _) hw2
      clear hw2 x0 x1 x2 x3 x4 x5 x6 x7
      rw [← HM.out] at hw
      have HT2 := Aside0.mk (Wrote.trans HT.out hw)
      have HK2 : Aside0 ((done ++ memW m) ++ membW (n.f7.drop (j + 1)) = R) := ⟨by rw [List.append_assoc]; exact HKC.out⟩
      clear hw
      go_wp2_with fail
      go_roundg (n.f7.length - j - 1)
      case measure => have := HA.out; have := HJ.out; omega
      case rel => exact ⟨j + 1, done ++ memW m, by have h1 := HLEN.out; have h2 := HJ.out; first | rfl | (rw [w64c (by omega) (by omega)]; rfl) | (exact congrArg _ (by omega)), ⟨by have := HJ.out; omega, by omega⟩, HK2, HT2⟩
    have e5 : (m.f0 == 5) = false := by rw [beq_eq_false_iff_ne]; exact k5
    have HM : Aside0 (memW m = classW m) := ⟨by unfold memW classW; rw [if_neg k1, if_neg k4, if_neg k5]⟩
    have HPP := Aside0.mk (fun o => writeClass_any m0 (h0 k1 k4 k5) w0 (wr.alloc o) HV.out B b (acc ++ done) _ HRK.out (HBX.out o) (by have := HLL.out; rw [HM.out] at this; simp; omega))
    clear k1 k4 k5 h5 h0
    go_wp2_with fail
    refine (HPP.out _).mono ?_
    rintro e v2 ⟨rfl, hw2⟩
    have hw := Wrote.after HEW.out.wr.base (below_alloc (Below.refl wr.heap.size wr) _) hw2
    clear hw2 x0 x1 x2 x3 x4 x5 x6 x7
    rw [← HM.out] at hw
    have HT2 := Aside0.mk (Wrote.trans HT.out hw)
    have HK2 : Aside0 ((done ++ memW m) ++ membW (n.f7.drop (j + 1)) = R) := ⟨by rw [List.append_assoc]; exact HKC.out⟩
    clear hw
    go_wp2_with fail
    go_roundg (n.f7.length - j - 1)
    case measure => have := HA.out; have := HJ.out; omega
    case rel => exact ⟨j + 1, done ++ memW m, by have h1 := HLEN.out; have h2 := HJ.out; first | rfl | (rw [w64c (by omega) (by omega)]; rfl) | (exact congrArg _ (by omega)), ⟨by have := HJ.out; omega, by omega⟩, HK2, HT2⟩

end Go.Proofs.YtkipjalfgdfaiaaGreatDoor
namespace Go.Proofs.YtkipjalfgdfaiaaGreatDoor
set_option linter.unusedVariables false
set_option linter.unusedSimpArgs false
open Go.RowKit Go.Proofs.YtkipjalfgdfaiaaGreatDoorW.PrintWords Go.Proofs.YtkipjalfgdfaiaaGreatDoorW.PrintLast Go.Proofs.YtkipjalfgdfaiaaGreatDoorW.PrintMore Go.Proofs.YtkipjalfgdfaiaaGreatDoor.PTk

/-- A property that is named by one byte is d, w or s. -/
def ShortOk (res : ByteArray → Int × ByteArray × Int) : Prop := ∀ x : ByteArray, x.size = 1 → (canonL res x).2 = 0 → (canonL res x).1 = x → x = ⟨#[100]⟩ ∨ x = ⟨#[119]⟩ ∨ x = ⟨#[115]⟩
theorem prop_writes {res : ByteArray → Int × ByteArray × Int} (hsh : ShortOk res) {k : Nd} (hp : propN res k = true) : PropC k := by
  intro w0 w B b acc v h E hl
  have hsz : k.f5.size ≤ (propW k).length + 0 ∨ k.f5.size = 1 := by
    by_cases h1 : k.f5.size = 1
    · exact .inr h1
    · refine .inl ?_
      unfold propW
      rw [if_neg (fun hh => h1 hh.1), if_neg h1]
      split <;> simp [bytes_len] <;> omega
  by_cases h1 : k.f5.size = 1
  · have hd : k.f5 = ⟨#[100]⟩ ∨ k.f5 = ⟨#[119]⟩ ∨ k.f5 = ⟨#[115]⟩ := by
      unfold propN at hp
      simp only [Bool.and_eq_true, Bool.or_eq_true, decide_eq_true_eq, beq_iff_eq] at hp
      rcases hp.2 with ((h | h) | h) | h
      · exact .inl h
      · exact .inr (.inl h)
      · exact .inr (.inr h)
      · exact hsh k.f5 h1 h.1 h.2
    rcases hd with hd | hd | hd
    · exact writeProp_short h B b acc w E.wr (by omega) 100 (by rw [hd]; rfl) (by decide) (by decide)
    · exact writeProp_short h B b acc w E.wr (by omega) 119 (by rw [hd]; rfl) (by decide) (by decide)
    · exact writeProp_short h B b acc w E.wr (by omega) 115 (by rw [hd]; rfl) (by decide) (by decide)
  · exact writeProp_long h B b acc w E.wr (by rcases hsz with h | h <;> omega) h1
theorem memb_at {res : ByteArray → Int × ByteArray × Int} {deep : Nat} : ∀ {ks : List Nd}, membK res ks deep = true → ∀ k ∈ ks, memB res k deep = true
  | x :: xs, h, k, hk => by
    rw [membK_at, Bool.and_eq_true] at h
    rcases List.mem_cons.1 hk with rfl | hk
    · exact h.1
    · exact memb_at h.2 k hk
theorem side_any {res : ByteArray → Int × ByteArray × Int} (hsh : ShortOk res) (m0 : Int) : ∀ n : Nd, weightN n ≤ 2147483648 → (∃ deep, classN res n deep = true) → SideC m0 n := by
  refine Nd.all ?_
  intro n ih hw ⟨deep, hc⟩ w0 w B b acc v hv h E hl
  rw [classN_eq, Bool.and_eq_true, Bool.and_eq_true, Bool.and_eq_true] at hc
  obtain ⟨-, hc⟩ := hc
  by_cases h0 : n.f1 = 0
  · rw [if_pos h0, Bool.and_eq_true] at hc
    refine writeSide_union m0 h0 (weight_len hw) ?_ ?_ w0 w hv B b acc v h E hl
    · intro k hk k5
      have hm := memb_at hc.2 k hk
      unfold memB at hm
      rw [if_neg (by omega), if_neg (by omega), if_pos k5] at hm
      exact prop_writes hsh hm
    · intro k hk k1 k4 k5
      have hm := memb_at hc.2 k hk
      unfold memB at hm
      rw [if_neg k1, if_neg k4, if_neg k5] at hm
      exact ih k hk (weight_kid hw hk) ⟨_, hm⟩
  · rw [if_neg h0, Bool.and_eq_true, Bool.and_eq_true, decide_eq_true_eq, decide_eq_true_eq] at hc
    obtain ⟨⟨h1, h3⟩, hs⟩ := hc
    obtain ⟨a, c, hab, -, -, -, ha, hcc⟩ := sidesK_ok res hs
    exact writeSide_two m0 hab (ih a (by rw [hab]; simp) (weight_kid hw (by rw [hab]; simp)) ⟨_, ha⟩) (ih c (by rw [hab]; simp) (weight_kid hw (by rw [hab]; simp)) ⟨_, hcc⟩) n.f1.toNat (by omega) (by omega) (by omega) w0 w hv B b acc v h E hl

end Go.Proofs.YtkipjalfgdfaiaaGreatDoor
namespace Go.Proofs.YtkipjalfgdfaiaaGreatDoor
set_option linter.unusedVariables false
set_option linter.unusedSimpArgs false
open Go.RowKit Go.Proofs.YtkipjalfgdfaiaaGreatDoorW.PrintWords Go.Proofs.YtkipjalfgdfaiaaGreatDoorW.PrintLast Go.Proofs.YtkipjalfgdfaiaaGreatDoorW.PrintMore Go.Proofs.YtkipjalfgdfaiaaGreatDoor.PTk

/-- What the library's variables hold that write reaches, as long as nothing below is turned. -/
structure WVars (w0 : World) (m0 : Int) : Prop where
  tv : TVars w0 m0
  tab : ∀ W, Below w0.heap.size w0 W → Lib.TabIs Tryz.prog W "internal/strconv.uint64pow10" .u64 Lib.pow10Tab
abbrev WriteC (m0 : Int) (n : Nd) : Prop := ∀ (w0 w : World) (B b : Nat) (acc : List Int) (v : Value), WVars w0 m0 → RdN w0 n v → Ew w0 w B b acc → acc.length + (writeN n).length ≤ 100000000000000 →
  Calls Tryz.prog 28 #[.pointer (some ⟨b, 0, none⟩), v] w (RetU B b acc (writeN n) w)
set_option maxHeartbeats 4000000 in
set_option maxRecDepth 100000 in
theorem wrap_any {n m : Nd} (m0 : Int) (h0 : 0 < n.f7.length) (hm : n.f7[0]'h0 = m) (hWm : WriteC m0 m) (op : List Int) (so : ByteArray) (hso : so = strOfNums op) (w0 w : World) (hv : WVars w0 m0) (B b : Nat) (acc : List Int) (v : Value) (h : RdN w0 n v) (E : Ew w0 w B b acc) (hl : acc.length + (op ++ writeN m ++ [41]).length ≤ 100000000000000) :
    Calls Tryz.prog 47 #[.pointer (some ⟨b, 0, none⟩), .string so, v] w (RetU B b acc (op ++ writeN m ++ [41]) w) := by
  obtain ⟨A6, c6, A7, c7, e, g1, g2, g3, hC⟩ := h
  subst e
  obtain ⟨ad, P6, p6, P7, p7, rfl, hk, rk⟩ := kids_at hC 0 h0
  rw [hm] at hk rk
  have HE := Aside0.mk E
  have hbn : b ≠ w.heap.size := Nat.ne_of_lt E.wr.lt
  have hi5 : (0 : Int) < (n.f7.length : Int) := by omega
  have HKA := Aside0.mk hk
  have HSA := Aside0.mk (fun W acc' (E' : Ew w0 W B b acc') hl => hWm w0 W B b acc' _ hv rk E' hl)
  have HX : ∀ (o : Obj) (W : World), Keep b (w.alloc o) W → ∀ cs T, o = .cells cs T (0, 0) → T ≠ 5 → W.heap[w.heap.size]? = some (.cells cs T (0, 0)) := fun o W hk cs T ho hT => hk w.heap.size cs T (0, 0) hT (Ne.symm hbn) (by rw [← ho]; exact heap_alloc_new w o)
  have HXX := Aside0.mk HX
  have HSO := Aside0.mk hso
  obtain ⟨SA, hSA⟩ : ∃ SA, writeN m = SA := ⟨_, rfl⟩
  rw [hSA] at HSA hl ⊢
  have HL := Aside0.mk (show acc.length + op.length + SA.length + 1 ≤ 100000000000000 by simp at hl; omega)
  obtain ⟨R, hR⟩ : ∃ R, op ++ SA ++ [41] = R := ⟨_, rfl⟩
  rw [hR]
  have HR := Aside0.mk hR
  clear g1 g2 g3 hC hk rk hm hWm hv E HX hso hl hSA hR
  go_enter Tryz.func47, Tryz.ntmps47
  go_wp2_with fail
  refine (bwS B b acc op _ _ ((HE.out.below (below_alloc (Below.refl _ _) _)).wr) HSO.out (by have := HL.out; omega)).mono ?_
  rintro e w1 ⟨⟨u1, rfl⟩, hw1⟩
  have hx1 := HXX.out _ w1 hw1.2.2.1 _ _ rfl (by decide)
  have HT1 := Aside0.mk (Wrote.after HE.out.wr.base (below_alloc (Below.refl _ _) _) hw1)
  have HE1 := Aside0.mk (HE.out.step HT1.out)
  have q7 := rowc hx1 7 _ rfl
  obtain ⟨x0, x1, x2, x3, x4, x5, x6, x7⟩ := HKA.out.up HE1.out.bel
  simp only [Nat.zero_mul, Addr.add_zero'] at x0 x1 x2 x3 x4 x5 x6 x7
  clear hw1 hx1
  go_wp2_with fail
  refine (HSA.out _ _ HE1.out (by have := HL.out; simp; omega)).mono ?_
  rintro e w2 ⟨rfl, hw2⟩
  have HT2 := Aside0.mk (Wrote.trans HT1.out hw2)
  have HE2 := Aside0.mk (HE.out.step HT2.out)
  clear hw2 q7 x0 x1 x2 x3 x4 x5 x6 x7
  go_wp2_with fail
  refine (bwS B b (acc ++ (op ++ SA)) [41] _ _ HE2.out.wr rfl (by have := HL.out; simp; omega)).mono ?_
  rintro e w3 ⟨⟨u3, rfl⟩, hw3⟩
  have HT3 := Aside0.mk (Wrote.trans HT2.out hw3)
  clear hw3
  go_wp2_with fail
  go_end0
  rw [← HR.out]
  exact ⟨rfl, HT3.out⟩

end Go.Proofs.YtkipjalfgdfaiaaGreatDoor
namespace Go.Proofs.YtkipjalfgdfaiaaGreatDoor
set_option linter.unusedVariables false
set_option linter.unusedSimpArgs false
open Go.RowKit Go.Proofs.YtkipjalfgdfaiaaGreatDoorW.PrintWords Go.Proofs.YtkipjalfgdfaiaaGreatDoorW.PrintLast Go.Proofs.YtkipjalfgdfaiaaGreatDoorW.PrintMore Go.Proofs.YtkipjalfgdfaiaaGreatDoor.PTk

def shortRows (R : List (List ByteArray)) : Bool := R.all fun f => decide (numB (cellB f 0) ≠ 3) || decide ((cellB f 1).size ≠ 1)
theorem short_find {R : List (List ByteArray)} (h : shortRows R = true) {k want v : ByteArray} (hf : findL k want R = some v) (hk : numB k = 3) : v.size ≠ 1 := by
  obtain ⟨f, hm, h0, rfl⟩ := findL_mem hf
  have := List.all_eq_true.1 h f hm
  rw [Bool.or_eq_true, decide_eq_true_eq, decide_eq_true_eq] at this
  rcases this with h1 | h1
  · exact absurd (by rw [h0]; exact hk) h1
  · exact h1
theorem bare_short {R : List (List ByteArray)} (h : shortRows R = true) (s : ByteArray) : ∀ ks, (bareL R s ks).2.2 = 0 → (bareL R s ks).1 = 3 → (bareL R s ks).2.1.size ≠ 1
  | [], h0, _ => by unfold bareL at h0; cases h0
  | k :: r, h0, h3 => by
    unfold bareL at h0 h3 ⊢
    split at h0
    · rename_i hn
      rw [hn] at h3
      exact bare_short h s r h0 h3
    · rename_i v hv
      rw [hv] at h3
      exact short_find h hv h3
theorem resolve_short {R : List (List ByteArray)} (h : shortRows R = true) (s : ByteArray) (h0 : (resolveL R s).2.2 = 0) (h3 : (resolveL R s).1 = 3) : (resolveL R s).2.1.size ≠ 1 := by
  unfold resolveL at h0 h3 ⊢
  split at h0
  · rename_i i hi
    rw [hi] at h3
    simp only at h3 ⊢
    unfold keyL at h0 h3 ⊢
    split at h0
    · cases h0
    · rename_i k hk
      rw [hk] at h3
      simp only at h3 ⊢
      unfold valL at h0 h3 ⊢
      split at h0
      · cases h0
      · rename_i v hv
        rw [hv] at h3
        exact short_find h hv h3
  · rename_i hi
    rw [hi] at h3
    exact bare_short h s _ h0 h3
theorem short_ok {R : List (List ByteArray)} (hb : backOk R = true) (h : shortRows R = true) : ShortOk (resolveL R) := by
  intro x h1 h2 h3
  exfalso
  rcases resolve_found hb x with he | he | ⟨n, v, l, he, hn, -, -⟩
  · unfold canonL at h2; rw [he] at h2; exact absurd h2 (by decide)
  · unfold canonL at h2; rw [he] at h2; exact absurd h2 (by decide)
  · unfold canonL at h3
    rw [he] at h3
    rcases hn with rfl | rfl | rfl
    · have : ((⟨#[103, 99, 61]⟩ : ByteArray) ++ v).size = 3 + v.size := by rw [ByteArray.size_append]; rfl
      have h4 : (⟨#[103, 99, 61]⟩ : ByteArray) ++ v = x := h3
      rw [h4] at this; omega
    · have : ((⟨#[115, 99, 61]⟩ : ByteArray) ++ v).size = 3 + v.size := by rw [ByteArray.size_append]; rfl
      have h4 : (⟨#[115, 99, 61]⟩ : ByteArray) ++ v = x := h3
      rw [h4] at this; omega
    · have h4 : v = x := h3
      have h5 := resolve_short h x (by rw [he]) (by rw [he])
      rw [he] at h5
      exact h5 (by rw [h4]; exact h1)
end Go.Proofs.YtkipjalfgdfaiaaGreatDoor
