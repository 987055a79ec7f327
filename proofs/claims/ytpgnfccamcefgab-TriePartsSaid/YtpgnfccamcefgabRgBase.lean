/- api.Range as a pair: its kind, its table rows. -/
import Derived.Test.YtpgnfccamcefgabBase
import Derived.Test.YtpgnfccamcefgabRgPure
import Derived.Test.YtpgnfccamcefgabProg
import Derived.Test.YtpgnfccamcefgabWEqStruct
namespace Go.Proofs.Ytpgnfccamcefgab
set_option linter.unusedVariables false
set_option linter.unusedSimpArgs false
open Go.RowKit Go.Proofs.YtpgnfccamcefgabW.PrintWords

def kR : Kd Rg := Kd.pair (Kd.int .i64) (Kd.int .i64)
theorem kR_open {w : World} {x : Rg} {cs : List Value} (h : kR.K w x cs) : cs = [.int .i64 x.1, .int .i64 x.2] := by
  obtain ⟨_, _, rfl, rfl, rfl⟩ := h
  exact rfl
theorem kR_mkM (w : World) (base : Nat) (ok : Nat → Prop) (x : Rg) : kR.M w base ok x [.int .i64 x.1, .int .i64 x.2] := ⟨[.int .i64 x.1], [.int .i64 x.2], rfl, rfl, rfl⟩
theorem kR_mk (w : World) (x : Rg) : kR.K w x [.int .i64 x.1, .int .i64 x.2] := ⟨[.int .i64 x.1], [.int .i64 x.2], rfl, rfl, rfl⟩
def rdR (xs : List Rg) (i : Int) : Rg := xs.getD i.toNat (0, 0)
theorem at_R {w : World} {A : Option Addr} {n : Nat} {xs : List Rg} (h : Kd.C kR w A n xs) (i : Int) (h0 : 0 ≤ i) (h1 : i < n) :
    ∃ ad, A = some ad ∧ w.cell? (ad.add (i.toNat * 2)) = some (.int .i64 (rdR xs i).1) ∧ w.cell? ⟨(ad.add (i.toNat * 2)).block, (ad.add (i.toNat * 2)).off + 1, none⟩ = some (.int .i64 (rdR xs i).2) := by
  obtain ⟨ad, c, e, _, hK, hc0⟩ := Kd.C_get h (0, 0) i h0 h1
  have hc : ∀ j u, c[j]? = some u → w.cell? (ad.add (i.toNat * 2 + j)) = some u := hc0
  obtain rfl := kR_open hK
  exact ⟨ad, e, hc 0 _ rfl, by rw [← add_field _ _ 1 (by omega)]; exact hc 1 _ rfl⟩
theorem Try.infoInt : (Try.prog.info? 3).map (fun i => (i.zero, i.size, i.bytes)) = some (some (.int .i64 0), 1, 8) := by kernel_rfl
theorem Try.infoR : (Try.prog.info? 49).map (fun i => (i.zero, i.size, i.bytes)) = some (some (.agg #[(.int .i64 0), (.int .i64 0)]), 2, 16) := by kernel_rfl

theorem rdR_at {l : List Rg} {k : Nat} (h : k < l.length) : rdR l (k : Int) = l[k] := by simp [rdR, h]
theorem Try.eqR (d : Nat) (w : World) (x0 y0 : Int) (x1 y1 : Int) :
    (Op.equalIn (d + 2) 49 (.agg #[.int .i64 x0, .int .i64 x1]) (.agg #[.int .i64 y0, .int .i64 y1])).run Try.prog w = .ok (x0 == y0 && (x1 == y1)) w := by
  refine eqA_of Try.underlying49 (by kernel_rfl) ?_
  refine eqf_cons (by rfl) (by go_simp; rfl) (by go_simp; rfl) (by go_simp) ?_
  exact eqf_last (by rfl) (by go_simp; rfl) (by go_simp; rfl) (by go_simp)

theorem at_Rn {w : World} {A : Option Addr} {xs : List Rg} (h : Kd.C kR w A xs.length xs) (k : Nat) (hk : k < xs.length) :
    ∃ ad, A = some ad ∧ w.cell? (ad.add (k * 2)) = some (.int .i64 xs[k].1) ∧ w.cell? ⟨(ad.add (k * 2)).block, (ad.add (k * 2)).off + 1, none⟩ = some (.int .i64 xs[k].2) := by
  obtain ⟨ad, e, h0, h1⟩ := at_R h (k : Int) (by omega) (by omega)
  rw [rdR_at hk] at h0 h1
  exact ⟨ad, e, by simpa using h0, by simpa using h1⟩

theorem own_atR {e : Nat} {w : World} {base g n cap : Nat} {xs : List Rg} (h : Own kR e w base (.slice (some ⟨g, 0, none⟩) n cap) xs) (k : Nat) (hk : k < xs.length) :
    w.cell? ⟨g, k * 2, none⟩ = some (.int .i64 xs[k].1) ∧ w.cell? ⟨g, k * 2 + 1, none⟩ = some (.int .i64 xs[k].2) ∧ w.frozen? ⟨g, k * 2, none⟩ = false ∧ w.frozen? ⟨g, k * 2 + 1, none⟩ = false := by
  have hn := (Kd.R_reads' h).1
  obtain ⟨c, hcl, hM, hcc, hf⟩ := Kd.R_elem h (0, 0) (k : Int) (by omega) (by omega)
  obtain rfl := kR_open (kR.K_of_M hM)
  have e1 : xs.getD ((k : Int).toNat) (0, 0) = xs[k] := by simp [hk]
  rw [e1] at hcc
  have hs : kR.sz = 2 := rfl
  simp only [hs, Int.toNat_natCast] at hcc hf
  exact ⟨hcc 0 _ rfl, hcc 1 _ rfl, hf 0, hf 1⟩
/-- The second number of element k is written. -/
theorem own_setR {e : Nat} {w : World} {base g n cap : Nat} {xs : List Rg} (h : Own kR e w base (.slice (some ⟨g, 0, none⟩) n cap) xs) (k : Nat) (hk : k < xs.length) (u : Int) :
    Own kR e (w.setCell ⟨g, k * 2 + 1, none⟩ (.int .i64 u)) base (.slice (some ⟨g, 0, none⟩) n cap) (xs.set k (xs[k].1, u)) := by
  have hn := (Kd.R_reads' h).1
  obtain ⟨c, hcl, hM, hcc, hf⟩ := Kd.R_elem h (0, 0) (k : Int) (by omega) (by omega)
  obtain rfl := kR_open (kR.K_of_M hM)
  have e1 : xs.getD ((k : Int).toNat) (0, 0) = xs[k] := by simp [hk]
  rw [e1] at hcc
  have hcl2 : ([.int .i64 (xs[k]'hk).1, .int .i64 (xs[k]'hk).2] : List Value).length = kR.sz := rfl
  have h2 := Kd.R_seg (seg := [.int .i64 u]) (j := 1) h (k : Int) (by omega) (by omega) (x' := ((xs[k]'hk).1, u)) hcl2 hcc (by show 1 + 1 ≤ 2; omega) (okp := fun _ => False) (kR_mkM _ _ _ ((xs[k]'hk).1, u)) (fun _ hh => hh.elim)
  have hs : kR.sz = 2 := rfl
  simp only [hs, Int.toNat_natCast] at h2
  exact h2.1

/-- The first element, its address as the walk has it. -/
theorem at_R0 {w : World} {A : Option Addr} {n : Nat} {x : Rg} {xs : List Rg} (h : Kd.C kR w A n (x :: xs)) :
    ∃ ad, A = some ad ∧ w.cell? ad = some (.int .i64 x.1) ∧ w.cell? ⟨ad.block, ad.off + 1, none⟩ = some (.int .i64 x.2) := by
  have hn : n = (x :: xs).length := h.1.symm
  subst hn
  obtain ⟨ad, e, h0, h1⟩ := at_Rn h 0 (by simp)
  have e0 : ad.add (0 * 2) = ad := by simp [Addr.add]
  rw [e0] at h0 h1
  exact ⟨ad, e, by simpa using h0, by simpa using h1⟩

/-- All but the first element. -/
theorem cutR1 {w : World} {A : Option Addr} {c : Nat} {p : Rg} {s : List Rg} (h : Kd.C kR w A (p :: s).length (p :: s)) (hc : (p :: s).length ≤ c) :
    ∃ A' c', (∀ W : World, (Instr.slice 29 (.slice A (s.length + 1) c) (some (.int .i64 1)) none none).run Try.prog W = .ok (.slice A' s.length c') W) ∧ Kd.C kR w A' s.length s ∧ s.length ≤ c' := by
  obtain ⟨i0, hi0, _, hsz, _⟩ := info_parts Try.infoR
  have h1 := cut_from (P := Try.prog) 29 49 .i64 Try.underlying29 hi0 2 hsz A (s.length + 1) c 1 (by omega) (by omega)
  have h2 := Kd.C_drop (c := c) (m := 1) h (by simp) hc
  have e : (s.length + 1) - (1 : Int).toNat = s.length := by simp
  rw [e] at h1
  refine ⟨_, _, h1, ?_, ?_⟩
  · have hz : kR.sz = 2 := rfl
    simpa [hz] using h2
  · simp at hc; simp; omega

end Go.Proofs.Ytpgnfccamcefgab
