/- Walk: lines.record. -/
import Derived.Test.YtooehjbbphokbaaDoorLnC
import Derived.Test.YtooehjbbphokbaaDoorLnA
namespace Go.Proofs.YtooehjbbphokbaaDoor
set_option linter.unusedVariables false
set_option linter.unusedSimpArgs false
open Go.RowKit Go.Proofs.YtooehjbbphokbaaDoorW.PrintWords Go.Proofs.YtooehjbbphokbaaDoorW.PrintLast Go.Proofs.YtooehjbbphokbaaDoorW.PrintMore

theorem cutD_any (s : ByteArray) (m : Int) (w : World) (hs : s.size < 4294967281) (hm : MaxIs w m) :
    Calls Tryd.prog 64 #[.string s, .string ⟨#[46, 46]⟩] w fun e w' => (∃ y, e = .returned (.tuple #[.string (dotsB s).1, .string y, .bool (Lib.cut s.data.toList [46, 46]).2.2]) ∧ (dotsB s).2 = (if (Lib.cut s.data.toList [46, 46]).2.2 = true then y else (dotsB s).1)) ∧ Below w.heap.size w w' := by
  refine (Tryd.strings_Cut s ⟨#[46, 46]⟩ m w hs hm).mono ?_
  rintro e w1 ⟨rfl, n, rfl⟩
  have h1 : (⟨(Lib.cut s.data.toList (⟨#[46, 46]⟩ : ByteArray).data.toList).1.toArray⟩ : ByteArray) = (dotsB s).1 := by
    unfold dotsB bsL
    split <;> rfl
  rw [h1]
  refine ⟨⟨_, rfl, ?_⟩, drewN_below _ _⟩
  unfold dotsB bsL
  split <;> rfl
theorem R_empty (d : Kd ByteArray) (e : Nat) (w W : World) (hb : Below w.heap.size w W) : Own d e (W.alloc (.cells #[] e)) w.heap.size (.slice (some ⟨W.heap.size, 0, none⟩) 0 0) [] := R_lit0 d e w.heap.size W hb.size

theorem heap_alloc_newD (w : World) (o : Obj) : (w.alloc o).heap[w.heap.size]? = some o := heap_alloc_new w o
theorem blk3 {w : World} {g t : Nat} {a b c : Value} (h : w.heap[g]? = some (.cells #[a, b, c] t (0, 0))) : (w.cell? ⟨g, 0, none⟩ = some a ∧ w.cell? ⟨g, 1, none⟩ = some b ∧ w.cell? ⟨g, 2, none⟩ = some c) ∧ w.frozen? ⟨g, 0, none⟩ = false ∧ w.frozen? ⟨g, 1, none⟩ = false ∧ w.frozen? ⟨g, 2, none⟩ = false :=
  ⟨⟨blk_cell h 0, blk_cell h 1, blk_cell h 2⟩, blk_frozen h 0, blk_frozen h 1, blk_frozen h 2⟩
theorem blk_keep {w w1 : World} {g : Nat} {o : Obj} (h : w.heap[g]? = some o) (hb : Below w.heap.size w w1) : w1.heap[g]? = some o := (hb.block g (blk_lt h)).trans h

def RecRet (f : List ByteArray) (w : World) (e : Ending) (w' : World) : Prop :=
  ((recB f = none ∧ e = .returned (.tuple #[.agg #[.int .i64 0, .int .i64 0, .slice none 0 0], .bool false])) ∨ ∃ q v2, recB f = some q ∧ e = .returned (.tuple #[.agg #[.int .i64 q.f0, .int .i64 q.f1, v2], .bool true]) ∧ Own Kd.string 9 w' w.heap.size v2 q.f2) ∧ Below w.heap.size w w'

set_option maxHeartbeats 4000000 in
set_option maxRecDepth 100000 in
theorem record_any (f : List ByteArray) (v : Value) (m : Int) (w : World) (hm : MaxIs w m) (hf : RdS Kd.string w v f) (hp : ∀ x ∈ f, x.size < 4294967281) (hl : f.length < 8796093022208) :
    Calls Tryd.prog 40 #[v] w (RecRet f w) := by
  unfold RecRet
  have hu48 := Tryd.underlying48
  obtain ⟨A, c, rfl, hc, hr⟩ := hf
  by_cases h2 : f.length < 2
  · have HN : Aside0 (recB f = none) := ⟨recB_short h2⟩
    clear hm hp hr hl
    go_enter Tryd.func40, Tryd.ntmps40
    go_wp2
    refine bodyPost_ret (results_ct rfl _ _ w.heap.size 48 #[.int .i64 0, .int .i64 0, .slice none 0 0] (0, 0) _ rfl ?_ hu48 rfl (by kernel_rfl)) rfl ?_
    · exact heap_alloc_newD _ _
    · exact ⟨.inl ⟨HN.out, rfl⟩, below_alloc (Below.refl _ _) _⟩
  · have hR := recB_long (f := f) (by omega)
    obtain ⟨ad, rfl, h0⟩ := at_S hr 0 (by omega)
    rw [add_zero] at h0
    have hx := hp _ (List.getElem_mem (show 0 < f.length by omega))
    obtain ⟨x, hxx⟩ : ∃ x, f[0]'(by omega) = x := ⟨_, rfl⟩
    rw [hxx] at hR h0 hx
    obtain ⟨i0, hi0, -, hsz, -⟩ := info_parts Go.Proofs.YtooehjbbphokbaaDoor.PLinesRead.info9
    obtain ⟨A', hcut, hA, hC⟩ := print_drop_of (P := Tryd.prog) Value.string (⟨#[]⟩ : ByteArray) 34 9 .i64 Tryd.underlying34 hi0 hsz (some ad) c f 1 (by omega) (by omega) hc
    have hCR := fun W (h : Kd.C Kd.string W (some ad) f.length f) => (Kd.C_of_reads (h1 := fun _ => rfl) (hA W (Kd.reads_of_C h)) : Kd.C Kd.string W A' _ _)
    rw [show (1 : Int).toNat = 1 from rfl] at hcut hC hCR
    have hrl : (f.drop 1).length = f.length - 1 := List.length_drop
    obtain ⟨r, hrr⟩ : ∃ r, f.drop 1 = r := ⟨_, rfl⟩
    rw [hrr] at hcut hC hCR hrl hR
    have HCR := Aside0.mk hCR
    have HR := Aside0.mk hr
    have HRC := Aside0.mk hR
    have HM := Aside0.mk hm
    have HLC := Aside0.mk hC
    have HLR : Aside0 (r.length < 8796093022208) := ⟨by omega⟩
    have HX := Aside0.mk hx
    have hn2 : ¬ ((f.length : Int) < 2) := by omega
    have HBA : Aside0 (Below w.heap.size w (w.alloc (.cells #[.int .i64 0, .int .i64 0, .slice none 0 0] 48))) := ⟨below_alloc (Below.refl _ _) _⟩
    have hc0 := pw_cell_below HBA.out h0
    have HBK : Aside0 ((w.alloc (.cells #[.int .i64 0, .int .i64 0, .slice none 0 0] 48)).heap[w.heap.size]? = some (.cells #[.int .i64 0, .int .i64 0, .slice none 0 0] 48 (0, 0))) := ⟨heap_alloc_newD _ _⟩
    clear hR hr hCR hm hC hxx hrr hA h0 hp hx hi0 hsz hrl h2
    go_enter Tryd.func40, Tryd.ntmps40
    go_wp2_with fail
    refine (cutD_any x m _ HX.out (HM.out.below HBA.out)).mono ?_
    rintro e w1 ⟨⟨y, rfl, hy⟩, hb1⟩
    have HB1 : Aside0 (Below w.heap.size w w1) := ⟨below_to HBA.out hb1⟩
    have HBK1 := Aside0.mk (blk_keep HBK.out hb1)
    obtain ⟨two, ht⟩ : ∃ two, (Lib.cut x.data.toList [46, 46]).2.2 = two := ⟨_, rfl⟩
    obtain ⟨lo, hlo⟩ : ∃ lo, (dotsB x).1 = lo := ⟨_, rfl⟩
    obtain ⟨hi, hhi⟩ : ∃ hi, (dotsB x).2 = hi := ⟨_, rfl⟩
    rw [ht, hlo, hhi] at hy
    rw [ht, hlo]
    rw [hlo, hhi] at HRC
    clear hb1 HBA HBK ht hlo hhi
    obtain ⟨a1, ha1⟩ : ∃ a1, hexAns lo = a1 := ⟨_, rfl⟩
    obtain ⟨a2, ha2⟩ : ∃ a2, hexAns hi = a2 := ⟨_, rfl⟩
    rw [ha1, ha2] at HRC
    have hx1 := fun W => hex_any lo W
    have hx2 := fun W => hex_any hi W
    rw [ha1] at hx1
    rw [ha2] at hx2
    obtain ⟨n1, b1⟩ := a1
    obtain ⟨n2, b2⟩ := a2
    simp only at hx1 hx2 HRC
    clear ha1 ha2
    cases two with
    | true =>
      obtain rfl : hi = y := by simpa using hy
      clear hy
      go_wp2_with fail
      refine (hx1 _).mono ?_
      rintro e w2 ⟨rfl, hb2⟩
      have HB2 : Aside0 (Below w.heap.size w w2) := ⟨below_to HB1.out hb2⟩
      have HBK2 := Aside0.mk (blk_keep HBK1.out hb2)
      clear hb2
      go_wp2_with fail
      refine (hx2 _).mono ?_
      rintro e w3 ⟨rfl, hb3⟩
      have HB3 : Aside0 (Below w.heap.size w w3) := ⟨below_to HB2.out hb3⟩
      have HBK3 := Aside0.mk (blk_keep HBK2.out hb3)
      clear hb3 hx1 hx2 HBK1 HBK2
      obtain ⟨⟨hk0, hk1, hk2⟩, hz0, hz1, hz2⟩ := blk3 HBK3.out
      have hg3 := blk_lt HBK3.out
      cases b1 with
      | false =>
        have HN : Aside0 (recB f = none) := ⟨by rw [HRC.out, if_neg (by simp)]⟩
        go_wp2
        refine bodyPost_ret (results_ct rfl _ _ w.heap.size 48 #[.int .i64 0, .int .i64 0, .slice none 0 0] (0, 0) _ rfl (blk_put (blk_put (blk_put HBK3.out 0 _ rfl) 1 _ rfl) 2 _ rfl) hu48 rfl (by kernel_rfl)) rfl ?_
        exact ⟨.inl ⟨HN.out, rfl⟩, below_set (below_set (below_set HB3.out (Nat.le_refl _)) (Nat.le_refl _)) (Nat.le_refl _)⟩
      | true =>
        cases b2 with
        | false =>
          have HN : Aside0 (recB f = none) := ⟨by rw [HRC.out, if_neg (by simp)]⟩
          go_wp2
          refine bodyPost_ret (results_ct rfl _ _ w.heap.size 48 #[.int .i64 0, .int .i64 0, .slice none 0 0] (0, 0) _ rfl (blk_put (blk_put (blk_put HBK3.out 0 _ rfl) 1 _ rfl) 2 _ rfl) hu48 rfl (by kernel_rfl)) rfl ?_
          exact ⟨.inl ⟨HN.out, rfl⟩, below_set (below_set (below_set HB3.out (Nat.le_refl _)) (Nat.le_refl _)) (Nat.le_refl _)⟩
        | true =>
          by_cases hlt : n2 < n1
          · skip
            have HN : Aside0 (recB f = none) := ⟨by rw [HRC.out, if_neg (by simp; omega)]⟩
            go_wp2
            refine bodyPost_ret (results_ct rfl _ _ w.heap.size 48 #[.int .i64 0, .int .i64 0, .slice none 0 0] (0, 0) _ rfl (blk_put (blk_put (blk_put HBK3.out 0 _ rfl) 1 _ rfl) 2 _ rfl) hu48 rfl (by kernel_rfl)) rfl ?_
            exact ⟨.inl ⟨HN.out, rfl⟩, below_set (below_set (below_set HB3.out (Nat.le_refl _)) (Nat.le_refl _)) (Nat.le_refl _)⟩
          · have HN : Aside0 (recB f = some ⟨n1, n2, r⟩) := ⟨by rw [HRC.out, if_pos ⟨rfl, rfl, by omega⟩]⟩
            have HE : Aside0 (Own Kd.string 9 (w3.alloc (.cells #[] 9)) w.heap.size (.slice (some ⟨w3.heap.size, 0, none⟩) 0 0) []) := ⟨R_lit0 _ _ _ _ HB3.out.size⟩
            have HB4 : Aside0 (Below w.heap.size w (w3.alloc (.cells #[] 9))) := ⟨below_alloc HB3.out _⟩
            have HCA := Aside0.mk (HCR.out _ (Kd.C_below HR.out HB4.out))
            go_wp2_with (at_builtin; refine Kd.R_append_rows Kd.string (w0 := w) w.heap.size rfl (.tmp 50) (.tmp 52) 34 9 (.string ⟨#[]⟩) 16 rfl Tryd.underlying34 Go.Proofs.YtooehjbbphokbaaDoor.PLinesRead.info9 rfl (by decide) (by omega) (.slice (some ⟨w3.heap.size, 0, none⟩) 0 0) [] r A' r.length (c - 1) (fun _ => True) (fun _ => False) rfl rfl HE.out HCA.out (fun _ _ h => h) (fun _ h => h.elim) (fun _ _ => trivial) HB4.out ?aS ?aL ?_)
            case aS => have := HB3.out.size; simp; omega
            case aL => have := HLR.out; simp; omega
            intro v1 w5 ho hb hg hv
            try rw [List.nil_append] at ho
            have HBK5 : Aside0 (w5.heap[w.heap.size]? = some (.cells #[.int .i64 0, .int .i64 0, .slice none 0 0] 48 (0, 0))) := ⟨blk_grown (blk_alloc HBK3.out _) hg (by simp [Value.ownBlock]; omega)⟩
            have HO5 := Aside0.mk ho
            have HB5 := Aside0.mk hb
            clear ho hb hg hv hk0 hk1 hk2 hz0 hz1 hz2 HE HCA HBK3
            obtain ⟨⟨hk0, hk1, hk2⟩, hz0, hz1, hz2⟩ := blk3 HBK5.out
            obtain ⟨Av, cv, rfl, -, -⟩ := Kd.R_reads HO5.out
            go_wp2
            refine bodyPost_ret (results_ct rfl _ _ w.heap.size 48 #[.int .i64 n1, .int .i64 n2, .slice Av r.length cv] (0, 0) _ rfl (blk_put (blk_put (blk_put HBK5.out 0 _ rfl) 1 _ rfl) 2 _ rfl) hu48 rfl (by kernel_rfl)) rfl ?_
            exact ⟨.inr ⟨_, _, HN.out, rfl, Kd.R_set (Kd.R_set (Kd.R_set HO5.out HBK5.out (by decide) 0 _) (blk_put HBK5.out 0 _ rfl) (by decide) 1 _) (blk_put (blk_put HBK5.out 0 _ rfl) 1 _ rfl) (by decide) 2 _⟩, below_set (below_set (below_set HB5.out (Nat.le_refl _)) (Nat.le_refl _)) (Nat.le_refl _)⟩
    | false =>
      obtain rfl : hi = lo := by simpa using hy
      clear hy
      go_wp2_with fail
      refine (hx1 _).mono ?_
      rintro e w2 ⟨rfl, hb2⟩
      have HB2 : Aside0 (Below w.heap.size w w2) := ⟨below_to HB1.out hb2⟩
      have HBK2 := Aside0.mk (blk_keep HBK1.out hb2)
      clear hb2
      go_wp2_with fail
      refine (hx2 _).mono ?_
      rintro e w3 ⟨rfl, hb3⟩
      have HB3 : Aside0 (Below w.heap.size w w3) := ⟨below_to HB2.out hb3⟩
      have HBK3 := Aside0.mk (blk_keep HBK2.out hb3)
      clear hb3 hx1 hx2 HBK1 HBK2
      obtain ⟨⟨hk0, hk1, hk2⟩, hz0, hz1, hz2⟩ := blk3 HBK3.out
      have hg3 := blk_lt HBK3.out
      cases b1 with
      | false =>
        have HN : Aside0 (recB f = none) := ⟨by rw [HRC.out, if_neg (by simp)]⟩
        go_wp2
        refine bodyPost_ret (results_ct rfl _ _ w.heap.size 48 #[.int .i64 0, .int .i64 0, .slice none 0 0] (0, 0) _ rfl (blk_put (blk_put (blk_put HBK3.out 0 _ rfl) 1 _ rfl) 2 _ rfl) hu48 rfl (by kernel_rfl)) rfl ?_
        exact ⟨.inl ⟨HN.out, rfl⟩, below_set (below_set (below_set HB3.out (Nat.le_refl _)) (Nat.le_refl _)) (Nat.le_refl _)⟩
      | true =>
        cases b2 with
        | false =>
          have HN : Aside0 (recB f = none) := ⟨by rw [HRC.out, if_neg (by simp)]⟩
          go_wp2
          refine bodyPost_ret (results_ct rfl _ _ w.heap.size 48 #[.int .i64 0, .int .i64 0, .slice none 0 0] (0, 0) _ rfl (blk_put (blk_put (blk_put HBK3.out 0 _ rfl) 1 _ rfl) 2 _ rfl) hu48 rfl (by kernel_rfl)) rfl ?_
          exact ⟨.inl ⟨HN.out, rfl⟩, below_set (below_set (below_set HB3.out (Nat.le_refl _)) (Nat.le_refl _)) (Nat.le_refl _)⟩
        | true =>
          by_cases hlt : n2 < n1
          · skip
            have HN : Aside0 (recB f = none) := ⟨by rw [HRC.out, if_neg (by simp; omega)]⟩
            go_wp2
            refine bodyPost_ret (results_ct rfl _ _ w.heap.size 48 #[.int .i64 0, .int .i64 0, .slice none 0 0] (0, 0) _ rfl (blk_put (blk_put (blk_put HBK3.out 0 _ rfl) 1 _ rfl) 2 _ rfl) hu48 rfl (by kernel_rfl)) rfl ?_
            exact ⟨.inl ⟨HN.out, rfl⟩, below_set (below_set (below_set HB3.out (Nat.le_refl _)) (Nat.le_refl _)) (Nat.le_refl _)⟩
          · have HN : Aside0 (recB f = some ⟨n1, n2, r⟩) := ⟨by rw [HRC.out, if_pos ⟨rfl, rfl, by omega⟩]⟩
            have HE : Aside0 (Own Kd.string 9 (w3.alloc (.cells #[] 9)) w.heap.size (.slice (some ⟨w3.heap.size, 0, none⟩) 0 0) []) := ⟨R_lit0 _ _ _ _ HB3.out.size⟩
            have HB4 : Aside0 (Below w.heap.size w (w3.alloc (.cells #[] 9))) := ⟨below_alloc HB3.out _⟩
            have HCA := Aside0.mk (HCR.out _ (Kd.C_below HR.out HB4.out))
            go_wp2_with (at_builtin; refine Kd.R_append_rows Kd.string (w0 := w) w.heap.size rfl (.tmp 50) (.tmp 52) 34 9 (.string ⟨#[]⟩) 16 rfl Tryd.underlying34 Go.Proofs.YtooehjbbphokbaaDoor.PLinesRead.info9 rfl (by decide) (by omega) (.slice (some ⟨w3.heap.size, 0, none⟩) 0 0) [] r A' r.length (c - 1) (fun _ => True) (fun _ => False) rfl rfl HE.out HCA.out (fun _ _ h => h) (fun _ h => h.elim) (fun _ _ => trivial) HB4.out ?aS ?aL ?_)
            case aS => have := HB3.out.size; simp; omega
            case aL => have := HLR.out; simp; omega
            intro v1 w5 ho hb hg hv
            try rw [List.nil_append] at ho
            have HBK5 : Aside0 (w5.heap[w.heap.size]? = some (.cells #[.int .i64 0, .int .i64 0, .slice none 0 0] 48 (0, 0))) := ⟨blk_grown (blk_alloc HBK3.out _) hg (by simp [Value.ownBlock]; omega)⟩
            have HO5 := Aside0.mk ho
            have HB5 := Aside0.mk hb
            clear ho hb hg hv hk0 hk1 hk2 hz0 hz1 hz2 HE HCA HBK3
            obtain ⟨⟨hk0, hk1, hk2⟩, hz0, hz1, hz2⟩ := blk3 HBK5.out
            obtain ⟨Av, cv, rfl, -, -⟩ := Kd.R_reads HO5.out
            go_wp2
            refine bodyPost_ret (results_ct rfl _ _ w.heap.size 48 #[.int .i64 n1, .int .i64 n2, .slice Av r.length cv] (0, 0) _ rfl (blk_put (blk_put (blk_put HBK5.out 0 _ rfl) 1 _ rfl) 2 _ rfl) hu48 rfl (by kernel_rfl)) rfl ?_
            exact ⟨.inr ⟨_, _, HN.out, rfl, Kd.R_set (Kd.R_set (Kd.R_set HO5.out HBK5.out (by decide) 0 _) (blk_put HBK5.out 0 _ rfl) (by decide) 1 _) (blk_put (blk_put HBK5.out 0 _ rfl) 1 _ rfl) (by decide) 2 _⟩, below_set (below_set (below_set HB5.out (Nat.le_refl _)) (Nat.le_refl _)) (Nat.le_refl _)⟩

end Go.Proofs.YtooehjbbphokbaaDoor
