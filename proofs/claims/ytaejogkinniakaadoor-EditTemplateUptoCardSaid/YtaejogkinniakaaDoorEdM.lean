/- The maker of templates: what its cells say; flush. -/
import Derived.Test.YtaejogkinniakaaDoorEdE
import Derived.Test.YtaejogkinniakaaDoorEdTp
import Derived.Deep.QuietTactic
import Derived.BigQuiet
namespace Go.Proofs.YtaejogkinniakaaDoor
set_option linter.unusedVariables false
set_option linter.unusedSimpArgs false
open Go.RowKit Go.Proofs.YtaejogkinniakaaDoorW.PrintWords Go.Proofs.YtaejogkinniakaaDoorW.PrintLast Go.Proofs.YtaejogkinniakaaDoorW.PrintMore Go.Proofs.YtaejogkinniakaaDoor.PEd

theorem infoPart : (Tryd.prog.info? 37).map (fun i => (i.zero, i.size, i.bytes)) = some (some (.agg #[(.slice none 0 0), (.int .i64 0)]), 2, 32) := by kernel_rfl
def toP (p : Pt) : S37 := ⟨p.1, p.2⟩
theorem map_toP (L : List Pt) : (L.map toP).map pt = L := by
  rw [List.map_map]
  exact List.map_id L
theorem row_cell {w : World} {g : Nat} {cs : Array Value} {t : TypeId} {fr : Nat × Nat} (h : w.heap[g]? = some (.cells cs t fr)) (j : Nat) (v : Value) (hj : cs[j]? = some v) : w.cell? ⟨g, j, none⟩ = some v := row_cellE h j v hj
theorem row_free {w : World} {g : Nat} {cs : Array Value} {t : TypeId} (h : w.heap[g]? = some (.cells cs t (0, 0))) (j : Nat) : w.frozen? ⟨g, j, none⟩ = false := blk_frozen h j
/-- The maker's block, its parts, its text. -/
structure MkR (W : World) (base g : Nat) (L : List Pt) (text : List Int) (G : Int) (vn vl vt : Value) : Prop where
  blk : W.heap[g]? = some (.cells #[vl, vt, .int .i64 G, vn] 61 (0, 0))
  own : Kd.R k37 37 W base (fun k => True ∧ some k ≠ vt.ownBlock) vl (L.map toP)
  txt : Own kB 5 W base vt text
  hg : base ≤ g
section
variable {W W1 : World} {base g : Nat} {L L' : List Pt} {text text' : List Int} {G : Int} {vn vl vt v1 : Value}
theorem MkR.lt (h : MkR W base g L text G vn vl vt) : g < W.heap.size := blk_lt h.blk
theorem MkR.to (h : MkR W base g L text G vn vl vt) (hb : Below W.heap.size W W1) : MkR W1 base g L text G vn vl vt :=
  ⟨blk_below h.blk hb, Kd.R_below h.own hb, Kd.R_below h.txt hb, h.hg⟩
theorem MkR.ne_t (h : MkR W base g L text G vn vl vt) : some g ≠ vt.ownBlock := Kd.R_ne h.txt h.blk (by decide)
theorem MkR.ne_l (h : MkR W base g L text G vn vl vt) : some g ≠ vl.ownBlock := Kd.R_ne h.own h.blk (by decide)
theorem typed_ne {k : Nat} {cs cs' : Array Value} {t t' : TypeId} {fr fr' : Nat × Nat} (h : W.heap[k]? = some (.cells cs t fr)) (h' : W.heap[k]? = some (.cells cs' t' fr')) (hne : t ≠ t') : False := by
  rw [h] at h'
  injection h' with h'
  injection h' with _ h'
  exact hne h'
/-- The text's row is none of the parts' own row. -/
theorem MkR.txt_apart (h : MkR W base g L text G vn vl vt) : Kd.R kB 5 W base (fun k => True ∧ some k ≠ vl.ownBlock) vt text := by
  refine Kd.R_mono (Kd.R_bound h.txt) (fun k hk => ⟨trivial, fun e => ?_⟩)
  obtain ⟨_, _, _, q, hq, cells, hc⟩ := hk
  obtain ⟨inner, hin⟩ := Kd.R_own h.own
  obtain ⟨cells', hc'⟩ := own_typed hin k e.symm
  have hq2 : q = 5 := by simpa [kB, Kd.int, Kd.scalar] using hq
  subst hq2
  exact typed_ne hc hc' (by decide)
/-- The text has grown by an append and was put back. -/
theorem MkR.put_text (h : MkR W base g L text G vn vl vt) (ho : Own kB 5 W1 base v1 text') (hg : W.grownBy W1 vt.ownBlock) (hat : v1.ownBlock = vt.ownBlock ∨ ∃ b, v1.ownBlock = some b ∧ W.heap.size ≤ b) :
    MkR (W1.setCell ⟨g, 1, none⟩ v1) base g L text' G vn vl v1 := by
  have hb1 := blk_grown h.blk hg h.ne_t
  have ho1 : Kd.R k37 37 W1 base (fun k => True ∧ some k ≠ v1.ownBlock) vl (L.map toP) := by
    have h1 := Kd.R_grown (Kd.R_bound h.own) hg (fun k hk => hk.1.2)
    refine Kd.R_mono h1 (fun k hk => ⟨trivial, ?_⟩)
    rcases hat with e | ⟨b, e, hle⟩
    · rw [e]; exact hk.1.2
    · rw [e]
      intro e2
      injection e2 with e2
      have := hk.2.2.1
      omega
  exact ⟨blk_set hb1 1 v1, Kd.R_set ho1 hb1 (fun q hq => by
    have hq2 : q ∈ [37, 5] := hq
    simp at hq2
    rcases hq2 with rfl | rfl <;> decide) 1 v1, Kd.R_set ho hb1 (fun q hq => by
    have hq2 : q ∈ [5] := hq
    simp at hq2
    subst hq2
    decide) 1 v1, h.hg⟩
/-- The parts have grown by an append, were put back, and the text was struck. -/
theorem MkR.put_part (h : MkR W base g L text G vn vl vt) (ho : Own k37 37 W1 base v1 (L'.map toP)) (hg : W.grownBy W1 vl.ownBlock) :
    MkR ((W1.setCell ⟨g, 0, none⟩ v1).setCell ⟨g, 1, none⟩ (.slice none 0 0)) base g L' [] G vn v1 (.slice none 0 0) := by
  have hb1 := blk_grown h.blk hg h.ne_l
  have hk : ∀ q, q ∈ 37 :: k37.E → q ≠ 61 := fun q hq => by
    have hq2 : q ∈ [37, 5] := hq
    simp at hq2
    rcases hq2 with rfl | rfl <;> decide
  have hb2 := blk_set hb1 0 v1
  exact ⟨blk_set hb2 1 _, Kd.R_mono (Kd.R_set (Kd.R_set ho hb1 hk 0 v1) hb2 hk 1 _) (fun k _ => ⟨trivial, by simp [Value.ownBlock]⟩), Kd.R_nil _ _ _ _ _, h.hg⟩
/-- The parts have grown by an append and were put back; the text stays. -/
theorem MkR.put_part0 (h : MkR W base g L text G vn vl vt) (ho : Kd.R k37 37 W1 base (fun k => True ∧ some k ≠ vt.ownBlock) v1 (L'.map toP)) (hg : W.grownBy W1 vl.ownBlock) :
    MkR (W1.setCell ⟨g, 0, none⟩ v1) base g L' text G vn v1 vt := by
  have hb1 := blk_grown h.blk hg h.ne_l
  have hk : ∀ q, q ∈ 37 :: k37.E → q ≠ 61 := fun q hq => by
    have hq2 : q ∈ [37, 5] := hq
    simp at hq2
    rcases hq2 with rfl | rfl <;> decide
  exact ⟨blk_set hb1 0 _, Kd.R_set ho hb1 hk 0 v1, Kd.R_mono (Kd.R_set (Kd.R_grown h.txt_apart hg (fun k hk => hk.2)) hb1 (fun q hq => by
    have hq2 : q ∈ [5] := hq
    simp at hq2
    subst hq2
    decide) 0 v1) (fun _ _ => trivial), h.hg⟩
end
/-- A maker stands there, with these parts and this text. -/
def MkE (w0 W : World) (base g : Nat) (L : List Pt) (text : List Int) (G : Int) (vn : Value) : Prop := (∃ vl vt, MkR W base g L text G vn vl vt) ∧ Below base w0 W
theorem MkE.to {w0 W W1 : World} {base g : Nat} {L : List Pt} {text : List Int} {G : Int} {vn : Value} (h : MkE w0 W base g L text G vn) (hb : Below W.heap.size W W1) : MkE w0 W1 base g L text G vn := by
  obtain ⟨⟨vl, vt, hm⟩, hw⟩ := h
  exact ⟨⟨vl, vt, hm.to hb⟩, below_then hw (Nat.le_of_lt (Nat.lt_of_le_of_lt hm.hg hm.lt)) hb⟩
def RetM (w0 : World) (base g : Nat) (L : List Pt) (text : List Int) (G : Int) (vn : Value) (r : Value) (e : Ending) (w' : World) : Prop := e = .returned r ∧ MkE w0 w' base g L text G vn

set_option maxHeartbeats 4000000 in
set_option maxRecDepth 100000 in
theorem flush_any (w0 w : World) (base g : Nat) (L : List Pt) (text : List Int) (G : Int) (vn : Value) (h : MkE w0 w base g L text G vn) (hl : L.length ≤ 4194304) (hbw : base ≤ w.heap.size) :
    Calls Tryd.prog 23 #[.pointer (some ⟨g, 0, none⟩)] w (RetM w0 base g (flL L text) [] G vn (.tuple #[])) := by
  obtain ⟨⟨vl, vt, hm⟩, hw⟩ := h
  have HMK := Aside0.mk hm
  have HW := Aside0.mk hw
  have HLEN := Aside0.mk hl
  obtain ⟨At, ct, rfl⟩ := Kd.R_slice hm.txt
  have hbnd := (Kd.R_reads' hm.txt).2.1
  have c0 := row_cell hm.blk 0 _ rfl
  have c1 := row_cell hm.blk 1 _ rfl
  have f1 := row_free hm.blk 1
  by_cases ht : text = []
  · subst ht
    have HF : Aside0 (flL L [] = L) := ⟨rfl⟩
    clear hm hw hl
    go_enter Tryd.func23, Tryd.ntmps23
    go_wp2
    go_end0
    exact ⟨rfl, by rw [HF.out]; exact ⟨⟨_, _, HMK.out⟩, HW.out⟩⟩
  · have hpos : 0 < text.length := List.length_pos_iff.2 ht
    have HF : Aside0 (flL L text = L ++ [(text, -1)]) := ⟨if_neg ht⟩
    have hd : decide (0 < (text.length : Int)) = true := decide_eq_true (by omega)
    have HBELOW : Aside0 (Below w.heap.size w w.drew) := ⟨below_drew (Below.refl _ _)⟩
    have HC0 : Aside0 (w.drew.cell? ⟨g, 0, none⟩ = some vl) := ⟨c0⟩
    have HC1 : Aside0 (w.drew.cell? ⟨g, 1, none⟩ = some (.slice At text.length ct)) := ⟨c1⟩
    have HK0 : Aside0 (w.drew.heap[g]? = some (.cells #[vl, .slice At text.length ct, .int .i64 G, vn] 61 (0, 0))) := ⟨hm.blk⟩
    have HNE := Aside0.mk hm.ne_l
    have HMD := Aside0.mk (hm.to HBELOW.out)
    have HBW : Aside0 (Below base w0 w.drew) := ⟨below_then hw hbw HBELOW.out⟩
    have HSZ : Aside0 (base ≤ w.drew.heap.size) := ⟨hbw⟩
    have HOW : Aside0 (Own k37 37 w.drew base vl (L.map toP)) := ⟨Kd.R_mono HMD.out.own (fun _ _ => trivial)⟩
    have HM : Aside0 (k37.M w.drew base (fun k => True ∧ some k ≠ vl.ownBlock) (toP (text, -1)) [.slice At text.length ct, .int .i64 (-1)]) := ⟨k37_mkM _ _ _ (toP (text, -1)) HMD.out.txt_apart⟩
    clear hm hw hl
    go_enter Tryd.func23, Tryd.ntmps23
    go_wp2
    refine start_ (n := 15) (S := fun w' => w'.cell? ⟨g, 0, none⟩ = some vl ∧ w'.cell? ⟨g, 1, none⟩ = some (.slice At text.length ct)) (ds := [11, 14]) #[false, false, false, false, false, false, false, false, false, false, false, false, false, false, false] (by kernel_rfl) rfl rfl ⟨HC0.out, HC1.out⟩ (fun hHeld => ?_)
    refine pure_ (i := 0) (N := some 8) (v := ?_) (a' := ?_) #[true, false, false, false, false, false, false, false, false, false, false, false, false, false, false] rfl rfl (by kernel_rfl) (fun _ _ _ h => h) (Or.inl ⟨by rfl, ?_⟩) ?_ ?_
    rotate_left
    · intro w'
      go_simp
      with_reducible rfl
    rotate_left
    · simp only [Act.put, List.setIfInBounds_toArray, List.set_cons_zero, List.set_cons_succ, i64_w, i32_w]
      rfl
    refine pure_ (i := 1) (N := some 9) (v := ?_) (a' := ?_) #[true, true, false, false, false, false, false, false, false, false, false, false, false, false, false] rfl rfl (by kernel_rfl) (fun _ _ _ h => h) (Or.inl ⟨by rfl, ?_⟩) ?_ ?_
    rotate_left
    · intro w'
      go_simp
      with_reducible rfl
    rotate_left
    · simp only [Act.put, List.setIfInBounds_toArray, List.set_cons_zero, List.set_cons_succ, i64_w, i32_w]
      rfl
    refine pure_ (i := 2) (N := some 10) (v := ?_) (a' := ?_) #[true, true, true, false, false, false, false, false, false, false, false, false, false, false, false] rfl rfl (by kernel_rfl) (fun _ _ _ h => h) (Or.inl ⟨by rfl, ?_⟩) ?_ ?_
    rotate_left
    · intro w'
      go_simp
      with_reducible rfl
    rotate_left
    · simp only [Act.put, List.setIfInBounds_toArray, List.set_cons_zero, List.set_cons_succ, i64_w, i32_w]
      rfl
    refine pure_ (i := 3) (N := some 11) (v := ?_) (a' := ?_) #[true, true, true, true, false, false, false, false, false, false, false, false, false, false, false] rfl rfl (by kernel_rfl) (fun _ _ _ h => h) (Or.inl ⟨by rfl, ?_⟩) ?_ ?_
    rotate_left
    · intro w'
      go_simp
      with_reducible rfl
    rotate_left
    · simp only [Act.put, List.setIfInBounds_toArray, List.set_cons_zero, List.set_cons_succ, i64_w, i32_w]
      rfl
    refine pure_ (i := 5) (N := some 13) (v := ?_) (a' := ?_) #[true, true, true, true, false, true, false, false, false, false, false, false, false, false, false] rfl rfl (by kernel_rfl) (fun _ _ _ h => h) (Or.inl ⟨by rfl, ?_⟩) ?_ ?_
    rotate_left
    · intro w'
      go_simp
      with_reducible rfl
    rotate_left
    · simp only [Act.put, List.setIfInBounds_toArray, List.set_cons_zero, List.set_cons_succ, i64_w, i32_w]
      rfl
    refine pure_ (i := 6) (N := some 14) (v := ?_) (a' := ?_) #[true, true, true, true, false, true, true, false, false, false, false, false, false, false, false] rfl rfl (by kernel_rfl) (fun _ _ _ h => h) (Or.inl ⟨by rfl, ?_⟩) ?_ ?_
    rotate_left
    · intro w'
      go_simp
      with_reducible rfl
    rotate_left
    · simp only [Act.put, List.setIfInBounds_toArray, List.set_cons_zero, List.set_cons_succ, i64_w, i32_w]
      rfl
    refine pure_ (i := 7) (N := some 15) (v := ?_) (a' := ?_) #[true, true, true, true, false, true, true, true, false, false, false, false, false, false, false] rfl rfl (by kernel_rfl) (fun _ _ _ h => h) (Or.inl ⟨by rfl, ?_⟩) ?_ ?_
    rotate_left
    · intro w'
      go_simp
      with_reducible rfl
    rotate_left
    · simp only [Act.put, List.setIfInBounds_toArray, List.set_cons_zero, List.set_cons_succ, i64_w, i32_w]
      rfl
    refine take_ (i := 4) (N := some 12) (v := ?_) (a' := ?_) #[true, true, true, true, true, true, true, true, false, false, false, false, false, false, false] rfl rfl (by kernel_rfl) (fun _ _ _ h => h) (Or.inl ⟨by rfl, ?_⟩) hHeld ?_ ?_
    rotate_left
    · rintro w' ⟨s0, s1⟩
      go_simp
      with_reducible rfl
    rotate_left
    · simp only [Act.put, List.setIfInBounds_toArray, List.set_cons_zero, List.set_cons_succ, i64_w, i32_w]
      rfl
    refine take_ (i := 8) (N := some 16) (v := ?_) (a' := ?_) #[true, true, true, true, true, true, true, true, true, false, false, false, false, false, false] rfl rfl (by kernel_rfl) (fun _ _ _ h => h) (Or.inl ⟨by rfl, ?_⟩) hHeld ?_ ?_
    rotate_left
    · rintro w' ⟨s0, s1⟩
      go_simp
      with_reducible rfl
    rotate_left
    · simp only [Act.put, List.setIfInBounds_toArray, List.set_cons_zero, List.set_cons_succ, i64_w, i32_w]
      rfl
    refine pure_ (i := 9) (N := some 17) (v := ?_) (a' := ?_) #[true, true, true, true, true, true, true, true, true, true, false, false, false, false, false] rfl rfl (by kernel_rfl) (fun _ _ _ h => h) (Or.inl ⟨by rfl, ?_⟩) ?_ ?_
    rotate_left
    · intro w'
      go_simp
      with_reducible rfl
    rotate_left
    · simp only [Act.put, List.setIfInBounds_toArray, List.set_cons_zero, List.set_cons_succ, i64_w, i32_w]
      rfl
    refine one_ (i := 10) (N := some 18) #[true, true, true, true, true, true, true, true, true, true, true, false, false, false, false] rfl rfl (by kernel_rfl) (by decide) (fun K hK => ?_)
    refine value_ (v := .slice (some ⟨w.drew.heap.size, 0, none⟩) 1 1) (w1 := w.drew.alloc (.cells #[.slice At text.length ct, .int .i64 (-1)] 37)) (by rfl) rfl ?_ ?_
    · go_simp
    refine hK.out _ _ ⟨pw_cell_below (below_alloc (Below.refl _ _) _) HC0.out, pw_cell_below (below_alloc (Below.refl _ _) _) HC1.out⟩ (fun hHeld => ?_)
    clear hK K
    refine norm_ (a' := ?_) ?_ ?_
    rotate_left
    · show Act.put _ (some 18) _ = _
      simp only [Act.put, List.setIfInBounds_toArray, List.set_cons_zero, List.set_cons_succ, i64_w, i32_w]
      rfl
    refine last_ (i := 11) (N := some 19) #[true, true, true, true, true, true, true, true, true, true, true, true, false, false, false] rfl rfl (by kernel_rfl) (by decide) (fun K hK => ?_)
    refine Kd.R_append_step k37 (w0 := w0) base (by rfl) (.tmp 12) (.tmp 18) 25 37 (.agg #[(.slice none 0 0), (.int .i64 0)]) 32 rfl Tryd.underlying25 infoPart (by rfl) (by decide) (by omega) vl (L.map toP) (toP (text, -1)) [.slice At text.length ct, .int .i64 (-1)] (fun _ => True) (fun k => True ∧ some k ≠ vl.ownBlock) rfl rfl HM.out (fun _ h => h) (fun _ _ => trivial) HOW.out HBW.out HSZ.out ?aL ?_
    case aL => have := HLEN.out; rw [List.length_map]; omega
    intro v1 w1 ho hb2 hg hat
    obtain ⟨A1, c1, rfl⟩ := Kd.R_slice ho
    rw [List.length_append, List.length_map, List.length_singleton] at ho hat ⊢
    have hT1 := blk_grown HK0.out hg HNE.out
    have d0 := row_cell hT1 0 _ rfl
    have e0 := row_free hT1 0
    have HG1 := Aside0.mk hg
    have HO1 := Aside0.mk ho
    have HB1 := Aside0.mk hb2
    clear ho hb2 hg hat hT1
    refine hK.out _ _ ?_
    clear hK K
    refine norm_ (a' := ?_) ?_ ?_
    rotate_left
    · show Act.put _ (some 19) _ = _
      simp only [Act.put, List.setIfInBounds_toArray, List.set_cons_zero, List.set_cons_succ, i64_w, i32_w]
      rfl
    refine pure_ (i := 12) (N := some 20) (v := ?_) (a' := ?_) #[true, true, true, true, true, true, true, true, true, true, true, true, true, false, false] rfl rfl (by kernel_rfl) (fun _ _ _ h => h) (Or.inl ⟨by rfl, ?_⟩) ?_ ?_
    rotate_left
    · intro w'
      go_simp
      with_reducible rfl
    rotate_left
    · simp only [Act.put, List.setIfInBounds_toArray, List.set_cons_zero, List.set_cons_succ, i64_w, i32_w]
      rfl
    refine pure_ (i := 13) (N := some 21) (v := ?_) (a' := ?_) #[true, true, true, true, true, true, true, true, true, true, true, true, true, true, false] rfl rfl (by kernel_rfl) (fun _ _ _ h => h) (Or.inl ⟨by rfl, ?_⟩) ?_ ?_
    rotate_left
    · intro w'
      go_simp
      with_reducible rfl
    rotate_left
    · simp only [Act.put, List.setIfInBounds_toArray, List.set_cons_zero, List.set_cons_succ, i64_w, i32_w]
      rfl
    refine last_ (i := 14) (N := none) #[true, true, true, true, true, true, true, true, true, true, true, true, true, true, true] rfl rfl (by kernel_rfl) (by decide) (fun K hK => ?_)
    refine skip_ (w1 := w1.setCell ⟨g, 0, none⟩ (.slice A1 (L.length + 1) c1)) (by rfl) rfl ?_ ?_
    · go_simp
    refine hK.out _ _ ?_
    clear hK K
    refine done_ (by kernel_rfl) ?_
    obtain ⟨W, hW⟩ : ∃ W, w1.setCell ⟨g, 0, none⟩ (.slice A1 (L.length + 1) c1) = W := ⟨_, rfl⟩
    have HK1 := blk_grown HK0.out HG1.out HNE.out
    have HK2 : Aside0 (W.heap[g]? = some (.cells #[.slice A1 (L.length + 1) c1, .slice At text.length ct, .int .i64 G, vn] 61 (0, 0))) := ⟨by rw [← hW]; exact blk_set HK1 0 _⟩
    have HMP : Aside0 (MkR (W.setCell ⟨g, 1, none⟩ (.slice none 0 0)) base g (flL L text) [] G vn (.slice A1 (L.length + 1) c1) (.slice none 0 0)) := ⟨by
      rw [← hW, HF.out]
      refine MkR.put_part HMD.out ?_ HG1.out
      rw [List.map_append]
      exact HO1.out⟩
    have HBP : Aside0 (Below base w0 (W.setCell ⟨g, 1, none⟩ (.slice none 0 0))) := ⟨by
      rw [← hW]
      exact (HB1.out.setCell HMD.out.hg _).setCell HMD.out.hg _⟩
    have d1 := row_cell HK2.out 1 _ rfl
    have e1 := row_free HK2.out 1
    rw [hW]
    clear hW HK1 d0 e0 c0 f1 HC0 HC1 HK0
    go_wp2
    go_end0
    exact ⟨rfl, ⟨_, _, HMP.out⟩, HBP.out⟩

end Go.Proofs.YtaejogkinniakaaDoor
