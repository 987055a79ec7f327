/- api.Entry as three numbers; what entries say of a code point. -/
import Derived.Test.YtpgnfccamcefgaaTrV
namespace Go.Proofs.Ytpgnfccamcefgaa
set_option linter.unusedVariables false
set_option linter.unusedSimpArgs false
open Go.RowKit Go.Proofs.YtpgnfccamcefgaaW.PrintWords

/-- From, to, value. -/
abbrev En := Int × Int × Int
def kE : Kd En := Kd.pair (Kd.int .i64) (Kd.pair (Kd.int .i64) (Kd.int .i64))
theorem kE_open {w : World} {x : En} {cs : List Value} (h : kE.K w x cs) : cs = [.int .i64 x.1, .int .i64 x.2.1, .int .i64 x.2.2] := by
  obtain ⟨_, _, rfl, rfl, _, _, rfl, rfl, rfl⟩ := h
  exact rfl
theorem kE_mkM (w : World) (base : Nat) (ok : Nat → Prop) (x : En) : kE.M w base ok x [.int .i64 x.1, .int .i64 x.2.1, .int .i64 x.2.2] := ⟨[.int .i64 x.1], [.int .i64 x.2.1, .int .i64 x.2.2], rfl, rfl, [.int .i64 x.2.1], [.int .i64 x.2.2], rfl, rfl, rfl⟩
theorem kE_mk (w : World) (x : En) : kE.K w x [.int .i64 x.1, .int .i64 x.2.1, .int .i64 x.2.2] := ⟨[.int .i64 x.1], [.int .i64 x.2.1, .int .i64 x.2.2], rfl, rfl, [.int .i64 x.2.1], [.int .i64 x.2.2], rfl, rfl, rfl⟩
theorem Try.infoE : (Try.prog.info? 40).map (fun i => (i.zero, i.size, i.bytes)) = some (some (.agg #[(.int .i64 0), (.int .i64 0), (.int .i64 0)]), 3, 24) := by kernel_rfl
theorem at_En {w : World} {A : Option Addr} {xs : List En} (h : Kd.C kE w A xs.length xs) (k : Nat) (hk : k < xs.length) :
    ∃ ad, A = some ad ∧ w.cell? (ad.add (k * 3)) = some (.int .i64 xs[k].1) ∧ w.cell? ⟨(ad.add (k * 3)).block, (ad.add (k * 3)).off + 1, none⟩ = some (.int .i64 xs[k].2.1) ∧ w.cell? ⟨(ad.add (k * 3)).block, (ad.add (k * 3)).off + 2, none⟩ = some (.int .i64 xs[k].2.2) := by
  obtain ⟨ad, c, e, _, hK, hc0⟩ := Kd.C_get h (0, 0, 0) (k : Int) (by omega) (by omega)
  obtain rfl := kE_open hK
  have e1 : xs.getD ((k : Int).toNat) (0, 0, 0) = xs[k] := by simp [hk]
  rw [e1] at hc0
  have hs : kE.sz = 3 := rfl
  rw [hs, Int.toNat_natCast] at hc0
  exact ⟨ad, e, hc0 0 _ rfl, by rw [← add_field _ _ 1 (by omega)]; exact hc0 1 _ rfl, by rw [← add_field _ _ 2 (by omega)]; exact hc0 2 _ rfl⟩

/-- Whether an entry speaks of a code point, for so many values. -/
def onE (nv : Nat) (e : En) (r : Int) : Prop := 0 ≤ e.2.2 ∧ e.2.2 < nv ∧ e.1 ≤ r ∧ r ≤ e.2.1
instance (nv : Nat) (e : En) (r : Int) : Decidable (onE nv e r) := by unfold onE; exact inferInstance
/-- The place of a code point's value, -1: it has none. -/
def valE (nv : Nat) (l : List En) (r : Int) : Int := l.foldl (fun v e => if onE nv e r then e.2.2 else v) (-1)
theorem valE_snoc (nv : Nat) (l : List En) (e : En) (r : Int) : valE nv (l ++ [e]) r = if onE nv e r then e.2.2 else valE nv l r := by
  unfold valE
  rw [List.foldl_append]
  rfl
theorem valE_in (nv : Nat) (l : List En) (r : Int) : -1 ≤ valE nv l r ∧ valE nv l r < nv := by
  rcases List.eq_nil_or_concat l with rfl | ⟨s, e, rfl⟩
  · exact ⟨Int.le_refl _, by show (-1 : Int) < nv; omega⟩
  · rw [List.concat_eq_append, valE_snoc]
    split
    · rename_i h
      exact ⟨by have := h.1; omega, h.2.1⟩
    · exact valE_in nv s r
termination_by l.length
decreasing_by subst_vars; simp
/-- A trie of one's own: all its blocks are base's or younger. -/
structure TrieO {α : Type} (kd : Kd α) (tT : TypeId) (base : Nat) (w : World) (T : Nat) (vals : List α) (F : Int → Option Int) (B : List (List Int)) : Prop where mk ::
  out : ∃ V m n bl eT, w.heap[T]? = some (.cells #[V, .map (some m), bl] tT (0, 0)) ∧ base ≤ T ∧ Own kd eT w base V vals ∧ FMap w m n F ∧ base ≤ m ∧ Own kC 88 w base bl B ∧ n ≤ 100000 ∧ ∀ b, F b ≠ none → 0 ≤ b ∧ b ≤ 4351
section
variable {α : Type} {kd : Kd α} {tT : TypeId} {base : Nat} {w w1 : World} {T : Nat} {vals : List α} {F : Int → Option Int} {B : List (List Int)}
theorem TrieO.read (h : TrieO kd tT base w T vals F B) : TrieR kd tT w T vals F B := by
  obtain ⟨V, m, n, bl, eT, h1, h2, h3, h4, h5, h6, h7⟩ := h.out
  exact ⟨V, m, n, bl, h1, RdS.of_R h3, h4, RdS.of_R h6⟩
theorem own_move_base {d : Kd α} {e : Nat} {v : Value} {xs : List α} (h : Own d e w base v xs) (hm : ∀ k, base ≤ k → k < w.heap.size → w1.heap[k]? = w.heap[k]?) : Own d e w1 base v xs :=
  Kd.R_mono (Kd.R_move (Kd.R_bound h) (fun k hk => hm k hk.2.1 hk.2.2.1)) (fun _ _ => trivial)
theorem TrieO.move (h : TrieO kd tT base w T vals F B) (hm : ∀ k, base ≤ k → k < w.heap.size → w1.heap[k]? = w.heap[k]?) : TrieO kd tT base w1 T vals F B := by
  obtain ⟨V, m, n, bl, eT, h1, h2, h3, h4, h5, h6, h7⟩ := h.out
  exact ⟨V, m, n, bl, eT, (hm T h2 (Array.getElem?_eq_some_iff.1 h1).1).trans h1, h2, own_move_base h3 hm, h4.move (hm m h5 h4.lt), h5, own_move_base h6 hm, h7⟩
theorem TrieO.below (h : TrieO kd tT base w T vals F B) (hb : Below w.heap.size w w1) : TrieO kd tT base w1 T vals F B := h.move (fun k _ hk => hb.block k hk)
theorem FS.own {eT : TypeId} {wk w0 : World} {m hb : Nat} {V bl : Value} {nf nh : Nat} {H : Int → Option Int} (h : FS kd eT tT wk w0 base w T m hb V bl vals nf nh F H B) (hn : nf ≤ 100000) : TrieO kd tT base w T vals F B := ⟨⟨V, m, nf, bl, eT, h.hT, h.bT, h.hV, h.hF, h.bm, h.hB, hn, h.keys⟩⟩
end
/-- What Build leaves: a trie of its own. -/
def BuildRet {α : Type} (kd : Kd α) (tT : TypeId) (w : World) (l : List En) (vals : List α) (e : Ending) (w' : World) : Prop :=
  ∃ T F H B, e = .returned (.pointer (some ⟨T, 0, none⟩)) ∧ TrieO kd tT w.heap.size w' T vals F B ∧ TInv F H B ∧ VInv vals.length B ∧ (∀ r, 0 ≤ r → r ≤ 1114111 → cellOf F B r = valE vals.length l r) ∧ Below w.heap.size w w'
theorem onE_cut {nv : Nat} {a b v lo hi r : Int} (hlo : (if a < 0 then 0 else a) = lo) (hhi : (if 1114111 < b then 1114111 else b) = hi) (h0 : 0 ≤ r) (h1 : r ≤ 1114111) : onE nv (a, b, v) r ↔ 0 ≤ v ∧ v < nv ∧ lo ≤ r ∧ r ≤ hi := by
  unfold onE
  show (0 ≤ v ∧ v < nv ∧ a ≤ r ∧ r ≤ b) ↔ _
  rw [← hlo, ← hhi]
  constructor
  · rintro ⟨p, q, s, t⟩
    refine ⟨p, q, ?_, ?_⟩ <;> split <;> omega
  · rintro ⟨p, q, s, t⟩
    refine ⟨p, q, ?_, ?_⟩
    · split at s <;> omega
    · split at t <;> omega


end Go.Proofs.Ytpgnfccamcefgaa
