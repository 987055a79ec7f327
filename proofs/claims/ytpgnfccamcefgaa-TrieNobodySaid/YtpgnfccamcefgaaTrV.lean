/- The trie in the making: what the walks of fill need. -/
import Derived.Test.YtpgnfccamcefgaaTrFS
import Derived.Deep.RegionLaw
import Derived.Deep.DeepCutAuto
namespace Go.Proofs.Ytpgnfccamcefgaa
set_option linter.unusedVariables false
set_option linter.unusedSimpArgs false
open Go.RowKit Go.Proofs.YtpgnfccamcefgaaW.PrintWords Go.Proofs.YtpgnfccamcefgaaW.PrintLast Go.Proofs.YtpgnfccamcefgaaW.PrintMore

theorem cell_later {w : World} {o : Obj} {a : Addr} {v : Value} (h : w.cell? a = some v) : (w.alloc o).cell? a = some v := pw_cell_below (below_alloc (Below.refl _ _) o) h
theorem getD_mem {B : List (List Int)} {k : Nat} (h : k < B.length) : B.getD k [] ∈ B := by
  have : B.getD k [] = B[k] := by simp [h]
  rw [this]
  exact List.getElem_mem h
/-- All that a block's cells hold are places, or -1. -/
def VInv (nv : Nat) (B : List (List Int)) : Prop := ∀ c ∈ B, ∀ x ∈ c, -1 ≤ x ∧ x < nv
theorem VInv.at_ {nv : Nat} {B : List (List Int)} (h : VInv nv B) {k j : Nat} (hk : k < B.length) (hl : (B.getD k []).length = 256) (hj : j < 256) : -1 ≤ (B.getD k []).getD j 0 ∧ (B.getD k []).getD j 0 < nv := by
  have hj2 : j < (B.getD k []).length := by omega
  have : (B.getD k []).getD j 0 = (B.getD k [])[j] := by
    rw [List.getD_eq_getElem?_getD, List.getElem?_eq_getElem hj2]
    rfl
  rw [this]
  exact h _ (getD_mem hk) _ (List.getElem_mem hj2)
theorem VInv.snoc {nv : Nat} {B : List (List Int)} (h : VInv nv B) {c : List Int} (hc : ∀ x ∈ c, -1 ≤ x ∧ x < nv) : VInv nv (B ++ [c]) := fun d hd => by
  rcases List.mem_append.1 hd with hd | hd
  · exact h d hd
  · rw [List.mem_singleton.1 hd]; exact hc
theorem VInv.paint {nv : Nat} {B : List (List Int)} (h : VInv nv B) {k f c : Nat} {v : Int} (hk : k < B.length) (hl : (B.getD k []).length = 256) (h0 : 0 ≤ v) (h1 : v < nv) : VInv nv (B.set k (paint (B.getD k []) f c v)) := fun d hd x hx => by
  rcases List.mem_or_eq_of_mem_set hd with hd | rfl
  · exact h d hd x hx
  · unfold Go.Proofs.Ytpgnfccamcefgaa.paint at hx
    obtain ⟨j, hj, rfl⟩ := List.mem_map.1 hx
    split
    · exact ⟨by omega, h1⟩
    · exact h.at_ hk hl (List.mem_range.1 hj)
section
variable {α : Type} {kd : Kd α} {eT tT : TypeId} {wk w0 w w1 : World} {base T m hb : Nat} {V bl : Value} {vals : List α} {nf nh : Nat} {F H : Int → Option Int} {B : List (List Int)}
theorem FS.read (h : FS kd eT tT wk w0 base w T m hb V bl vals nf nh F H B) : TrieR kd tT w T vals F B := ⟨⟨V, m, nf, bl, h.hT, RdS.of_R h.hV, h.hF, RdS.of_R h.hB⟩⟩
theorem FS.form (h : FS kd eT tT wk w0 base w T m hb V bl vals nf nh F H B) (hp : 0 < B.length) : ∃ g cap, bl = .slice (some ⟨g, 0, none⟩) B.length cap := by
  obtain ⟨g, cap, e, _⟩ := Kd.R_form h.hB hp
  exact ⟨g, cap, e⟩
theorem FS.more (h : FS kd eT tT wk w0 base w T m hb V bl vals nf nh F H B) {a b : Nat} (ha : nf ≤ a) (hb2 : nh ≤ b) : FS kd eT tT wk w0 base w T m hb V bl vals a b F H B := ⟨h.hT, h.hF.mono ha, h.hH.mono hb2, h.hB, h.hV, h.bT, h.bm, h.bh, h.ne, h.below, h.size, h.keep, h.keys⟩
theorem FS.keepT (h : FS kd eT tT wk w0 base w T m hb V bl vals nf nh F H B) (ht : tT ≠ 88) (hg : w.grownBy w1 bl.ownBlock) : w1.heap[T]? = some (.cells #[V, .map (some m), bl] tT (0, 0)) := by
  refine (hg.block T (Array.getElem?_eq_some_iff.1 h.hT).1 (fun e => ?_)).trans h.hT
  obtain ⟨cs', hcs⟩ := Kd.R_typed h.hB T e.symm
  have := h.hT
  rw [hcs] at this
  cases this
  exact ht rfl
theorem FS.part {g cap n : Nat} (h : FS kd eT tT wk w0 base w T m hb V (.slice (some ⟨g, 0, none⟩) n cap) vals nf nh F H B) {k : Nat} (hk : k < B.length) : ∀ j u, (nums .i32 (B.getD k []))[j]? = some u → w.cell? ((⟨g, k * 256, none⟩ : Addr).add j) = some u := by
  have hn := (Kd.R_reads' h.hB).1
  obtain ⟨c, hcl, hM, hcc, hf⟩ := Kd.R_elem h.hB [] (k : Int) (by omega) (by omega)
  obtain ⟨hl, rfl⟩ := kC_open (kC.K_of_M hM)
  have hs : kC.sz = 256 := rfl
  rw [hs] at hcc
  simp only [Int.toNat_natCast] at hcc
  intro j u hu
  rw [add_at]
  exact hcc j u hu
theorem FS.free {g cap n : Nat} (h : FS kd eT tT wk w0 base w T m hb V (.slice (some ⟨g, 0, none⟩) n cap) vals nf nh F H B) (i : Nat) : w.frozen? ⟨g, i, none⟩ = false := by
  obtain ⟨cs', hcs⟩ := Kd.R_typed h.hB g rfl
  exact row_free hcs i
end
/-- What fill leaves. -/
def FillRet {α : Type} (kd : Kd α) (eT tT : TypeId) (wk w0 : World) (base : Nat) (T m hb : Nat) (V : Value) (vals : List α) (n nv : Nat) (len : Nat) (Q : (Int → Option Int) → List (List Int) → Prop) (e : Ending) (w' : World) : Prop :=
  e = .returned (.tuple #[]) ∧ ∃ bl' F' H' B', FS kd eT tT wk w0 base w' T m hb V bl' vals (n + 1) (n + 1) F' H' B' ∧ TInv F' H' B' ∧ VInv nv B' ∧ B'.length ≤ len + 1 ∧ Q F' B'

theorem TInv.own_blk {F H : Int → Option Int} {B : List (List Int)} {b : Int} {k : Nat} (h : TInv F H B) (hk : (F b).getD 0 = (k : Int)) (hkl : k < B.length) (hq : decide (H ((B.getD k []).getD 0 0) = some (k : Int)) = false) : F b = some (k : Int) ∧ ∀ y, H y ≠ some (k : Int) := by
  have hno : ∀ y, H y ≠ some (k : Int) := fun y e => by
    have h1 := (h.shared (k := (k : Int)) (by omega) (by simpa using hkl)).2 ⟨y, e⟩
    rw [Int.toNat_natCast] at h1
    exact of_decide_eq_false hq h1
  refine ⟨?_, hno⟩
  cases e : F b with
  | none =>
    rw [e] at hk
    have h2 : (k : Int) = 0 := hk.symm
    exact (hno (-1) (by rw [h.zero.2, h2])).elim
  | some y =>
    rw [e] at hk
    have h2 : y = (k : Int) := hk
    rw [h2]
theorem set_self {B : List (List Int)} {k : Nat} {x : List Int} (hk : k < B.length) (h : x = B.getD k []) : B.set k x = B := by
  subst h
  have : B.getD k [] = B[k] := by simp [hk]
  rw [this]
  exact List.set_getElem_self hk
theorem set_twice {B : List (List Int)} {k : Nat} {x : List Int} {j : Nat} {v : Int} (hk : k < B.length) : (B.set k x).set k (((B.set k x).getD k []).set j v) = B.set k (x.set j v) := by
  have : (B.set k x).getD k [] = x := by simp [hk]
  rw [this, List.set_set]


theorem nums_at {k : IntKind} {x : List Int} {j : Nat} (h : j < x.length) : (nums k x)[j]? = some (.int k (x.getD j 0)) := by simp [nums, h]
theorem set_at {B : List (List Int)} {k : Nat} {x : List Int} (hk : k < B.length) : (B.set k x).getD k [] = x := by simp [hk]


/-- The cells of a block under way: the first i hold v. -/
def part256 (v : Int) (i : Nat) : List Int := paint (List.replicate 256 0) 0 i v
theorem part256_len {v : Int} {i : Nat} : (part256 v i).length = 256 := paint_len _ _ _ _
theorem paint_all (old : List Int) (v : Int) : paint old 0 256 v = List.replicate 256 v := by
  have h0 : ∀ n, ∀ x ∈ List.range n, (if 0 ≤ x ∧ x < n then v else old.getD x 0) = v := fun n x hx => if_pos ⟨Nat.zero_le _, List.mem_range.1 hx⟩
  have h1 : ∀ n, (List.range n).map (fun _ => v) = List.replicate n v := fun n => by simp [List.map_const']
  unfold paint
  rw [List.map_congr_left (g := fun _ => v) (h0 256)]
  exact h1 256
theorem part256_all (v : Int) : part256 v 256 = List.replicate 256 v := paint_all _ _
theorem zeros_nums : Try.zeroCells88 = (nums .i32 (List.replicate 256 0)).toArray := by kernel_rfl
theorem zeros256 (v : Int) : Try.zeroCells88 = (nums .i32 (part256 v 0)).toArray := by
  unfold part256
  rw [paint_none _ _ _ (by rw [List.length_replicate]), zeros_nums]
theorem part256_step {v : Int} {i : Nat} (h : i < 256) : (nums .i32 (part256 v i)).toArray.setIfInBounds i (.int .i32 v) = (nums .i32 (part256 v (i + 1))).toArray := by
  unfold part256
  rw [← paint_step _ _ _ _ (Nat.zero_le _) h]
  obtain ⟨x, hx⟩ : ∃ x, paint (List.replicate 256 0) 0 i v = x := ⟨_, rfl⟩
  rw [hx]
  simp [nums, List.map_set]

theorem VInv.start (nv : Nat) : VInv nv [List.replicate 256 (-1)] := fun c hc x hx => by
  rw [List.mem_singleton.1 hc] at hx
  rw [List.eq_of_mem_replicate hx]
  omega


end Go.Proofs.Ytpgnfccamcefgaa
