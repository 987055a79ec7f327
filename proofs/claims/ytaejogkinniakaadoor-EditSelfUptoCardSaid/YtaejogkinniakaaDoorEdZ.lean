/- bytes.Join at slices that read as lists; matches replaced by themselves, and by a text. -/
import Derived.Test.YtaejogkinniakaaDoorEdY
import Derived.Test.YtaejogkinniakaaDoorEdO
import Derived.Test.YtaejogkinniakaaDoorRd
namespace Go.Proofs.YtaejogkinniakaaDoor
set_option linter.unusedVariables false
set_option linter.unusedSimpArgs false
open Go.RowKit Go.Proofs.YtaejogkinniakaaDoorW.PrintWords Go.Proofs.YtaejogkinniakaaDoorW.PrintLast Go.Proofs.YtaejogkinniakaaDoorW.PrintMore Go.Proofs.YtaejogkinniakaaDoor.PEd

def rng (l : List Int) : Prop := ∀ c ∈ l, 0 ≤ c ∧ c ≤ 255
theorem rng_append {a b : List Int} (ha : rng a) (hb : rng b) : rng (a ++ b) := fun c hc => (List.mem_append.1 hc).elim (ha c) (hb c)
theorem bytes_inj : ∀ {xs ys : List Int}, rng xs → rng ys → Lib.bytesOf xs = Lib.bytesOf ys → xs = ys
  | [], [], _, _, _ => rfl
  | [], y :: ys, _, _, h => by cases h
  | x :: xs, [], _, _, h => by cases h
  | x :: xs, y :: ys, hx, hy, h => by
    have h' : UInt8.ofNat x.toNat :: Lib.bytesOf xs = UInt8.ofNat y.toNat :: Lib.bytesOf ys := h
    injection h' with h1 h2
    have h3 := of_byte (hy y (by simp)) (hx x (by simp))
    rw [h1, beq_self_eq_true] at h3
    have h4 : y = x := eq_of_beq h3.symm
    rw [h4, bytes_inj (fun c hc => hx c (List.mem_cons_of_mem _ hc)) (fun c hc => hy c (List.mem_cons_of_mem _ hc)) h2]
theorem holds_of {w : World} {v : Value} {xs : List Int} (h : RdS kB w v xs) (hr : rng xs) : Lib.HoldsBytes w v (Lib.bytesOf xs) := by
  obtain ⟨A, c, rfl, hc, hC⟩ := h
  refine ⟨A, c, by rw [Lib.bytesOf_length], fun hn => ?_, fun a ha i x hx => ?_⟩
  · rcases Nat.eq_zero_or_pos xs.length with h0 | h0
    · rw [List.length_eq_zero_iff.1 h0]
      rfl
    · obtain ⟨ad, e, _⟩ := hC.2.2 h0
      rw [hn] at e
      cases e
  · have hi : i < xs.length := by
      have := (List.getElem?_eq_some_iff.1 hx).1
      rwa [Lib.bytesOf_length] at this
    obtain ⟨ad, e, hcell⟩ := Kd.at_int hC (i : Int) (by omega) (by omega)
    rw [ha] at e
    cases e
    rw [Int.toNat_natCast] at hcell
    rw [hcell]
    have hrd : rd xs (i : Int) = xs[i] := by simp [rd, hi]
    have hx2 : x = UInt8.ofNat xs[i].toNat := by
      have h2 : (Lib.bytesOf xs)[i]? = some (UInt8.ofNat xs[i].toNat) := by
        unfold Lib.bytesOf
        rw [List.getElem?_map, List.getElem?_eq_getElem hi]
        rfl
      rw [h2] at hx
      exact (Option.some.inj hx).symm
    have hrg := hr _ (List.getElem_mem hi)
    rw [hrd, hx2]
    congr 2
    rw [UInt8.toNat_ofNat']
    omega
theorem rds_fresh {B : Nat} {w : World} {v : Value} {X : List Int} (h : Lib.FreshBytes B w v (Lib.bytesOf X)) (hr : rng X) : RdS kB w v X := by
  obtain ⟨g, cap, zs, rfl, -, hle, hcap, hz, hrz, hb, hc, -⟩ := h
  rw [Lib.bytesOf_length] at hle hb
  have hX : zs.take X.length = X := bytes_inj (fun c hc => by have := hrz c (List.mem_of_mem_take hc); omega) hr hb
  rw [Lib.bytesOf_length]
  refine rd_cells (kd := kB) (fun s => [.int .u8 s]) (fun _ _ => rfl) rfl hle (by have : cap ≤ 9223372036854775807 := by simpa [maxLen] using hcap
                                                                                  omega) (fun j hj i u hu => ?_)
  have hz1 : kB.sz = 1 := rfl
  rw [hz1, Nat.mul_one]
  match i, hu with
  | 0, hu =>
    cases hu
    rw [Nat.add_zero, add_plain, hc j (by omega)]
    have e : X[j] = zs[j]'(by omega) := by
      have h2 : (zs.take X.length)[j]? = some X[j] := by rw [hX]; exact List.getElem?_eq_getElem hj
      rw [List.getElem?_take, if_pos hj, List.getElem?_eq_getElem (by omega)] at h2
      exact (Option.some.inj h2).symm
    rw [e]
    simp [show j < zs.length by omega]
/-- Parts with a text between them. -/
def joinS (G : List (List Int)) (sep : List Int) : List Int := joinL G (List.replicate (G.length - 1) sep)
theorem tail_sep (sep : List Int) : ∀ gs : List (List Int), Lib.joinTail (Lib.bytesOf sep) (gs.map Lib.bytesOf) = Lib.bytesOf (tailJ gs (List.replicate gs.length sep))
  | [] => rfl
  | g :: gs => by
    have ih := tail_sep sep gs
    show ((Lib.bytesOf sep ++ Lib.bytesOf g) :: (gs.map Lib.bytesOf).map (Lib.bytesOf sep ++ ·)).flatten = Lib.bytesOf (sep ++ g ++ tailJ gs (List.replicate gs.length sep))
    rw [List.flatten_cons]
    have ih' : ((gs.map Lib.bytesOf).map (Lib.bytesOf sep ++ ·)).flatten = Lib.bytesOf (tailJ gs (List.replicate gs.length sep)) := ih
    rw [ih']
    unfold Lib.bytesOf
    simp only [List.map_append]
theorem join_sep {G : List (List Int)} (h : 0 < G.length) (sep : List Int) : Lib.join (G.map Lib.bytesOf) (Lib.bytesOf sep) = Lib.bytesOf (joinS G sep) := by
  cases G with
  | nil => simp at h
  | cons g gs =>
    have e : joinS (g :: gs) sep = g ++ tailJ gs (List.replicate gs.length sep) := by
      show joinL (g :: gs) (List.replicate ((gs.length + 1) - 1) sep) = _
      rw [Nat.add_sub_cancel]
      exact joinL_tail _ _ _ (by simp)
    rw [e]
    show Lib.join (Lib.bytesOf g :: gs.map Lib.bytesOf) _ = _
    rw [Lib.join_cons, tail_sep]
    unfold Lib.bytesOf
    simp only [List.map_append]
theorem rng_tail {sep : List Int} (hs : rng sep) : ∀ gs : List (List Int), (∀ g ∈ gs, rng g) → rng (tailJ gs (List.replicate gs.length sep))
  | [], _ => fun c hc => by cases hc
  | g :: gs, h => by
    show rng (sep ++ g ++ tailJ gs (List.replicate gs.length sep))
    exact rng_append (rng_append hs (h g (by simp))) (rng_tail hs gs (fun x hx => h x (List.mem_cons_of_mem _ hx)))
theorem rng_join {G : List (List Int)} {sep : List Int} (hs : rng sep) (hG : ∀ g ∈ G, rng g) : rng (joinS G sep) := by
  cases G with
  | nil => exact fun c hc => by cases hc
  | cons g gs =>
    have e : joinS (g :: gs) sep = g ++ tailJ gs (List.replicate gs.length sep) := by
      show joinL (g :: gs) (List.replicate ((gs.length + 1) - 1) sep) = _
      rw [Nat.add_sub_cancel]
      exact joinL_tail _ _ _ (by simp)
    rw [e]
    exact rng_append (hG g (by simp)) (rng_tail hs gs (fun x hx => hG x (List.mem_cons_of_mem _ hx)))
theorem lens_map (G : List (List Int)) : Lib.lens (G.map Lib.bytesOf) = (G.map List.length).sum := by
  unfold Lib.lens
  rw [List.map_map]
  congr 1
  apply List.map_congr_left
  intro x _
  exact Lib.bytesOf_length x
set_option maxHeartbeats 1000000 in
theorem joinB_any (w : World) (v u : Value) (G : List (List Int)) (sep : List Int) (hv : RdS kBs w v G) (hu : RdS kB w u sep) (h0 : 0 < G.length) (hG : ∀ g ∈ G, rng g) (hs : rng sep) (hgl : G.length ≤ 140737488355328)
    (hlen : (G.map List.length).sum + sep.length * (G.length - 1) ≤ 140737488355328) :
    Calls Tryd.prog 21 #[v, u] w fun e w' => ∃ v', e = .returned v' ∧ RdS kB w' v' (joinS G sep) ∧ Below w.heap.size w w' := by
  obtain ⟨A, c, rfl, hc, hC⟩ := hv
  obtain ⟨ad, rfl, -⟩ := hC.2.2 h0
  obtain ⟨b, o, path⟩ := ad
  have hat : ∀ i (hi : i < G.length), ∃ Ai ci, w.cell? ((⟨b, o, path⟩ : Addr).add i) = some (.slice Ai (G[i]).length ci) ∧ (G[i]).length ≤ ci ∧ Kd.C kB w Ai (G[i]).length G[i] := fun i hi => by
    obtain ⟨ad', A0, c0, e, h1, h2, h3⟩ := at_L2 hC (i : Int) (by omega) (by omega)
    cases e
    have hrd : rd_L2 G (i : Int) = G[i] := by
      unfold rd_L2
      rw [Int.toNat_natCast]
      simp [hi]
    rw [hrd, Int.toNat_natCast] at h1
    rw [hrd] at h2 h3
    exact ⟨A0, c0, h1, h2, h3⟩
  obtain rfl : path = none := by
    obtain ⟨A0, c0, h1, _⟩ := hat 0 h0
    simpa [Addr.add] using World.cell?_spot h1
  have hrj := rng_join hs hG
  rcases Nat.lt_or_ge 1 G.length with h2 | h2
  · have hch : ∃ vs : List Value, vs.length = G.length ∧ ∀ i (hi : i < G.length) (hi' : i < vs.length), w.cell? ((⟨b, o, none⟩ : Addr).add i) = some vs[i] ∧ RdS kB w vs[i] G[i] := by
      classical
      let f : Nat → Value := fun i => if h : i < G.length then .slice (hat i h).choose (G[i]).length (hat i h).choose_spec.choose else .slice none 0 0
      refine ⟨(List.range G.length).map f, by simp, fun i hi hi' => ?_⟩
      have e : ((List.range G.length).map f)[i] = .slice (hat i hi).choose (G[i]).length (hat i hi).choose_spec.choose := by simp [f, hi]
      rw [e]
      obtain ⟨h1, h2, h3⟩ := (hat i hi).choose_spec.choose_spec
      exact ⟨h1, _, _, rfl, h2, h3⟩
    obtain ⟨vs, hvl, hvs⟩ := hch
    have hP : Lib.PartsAt w ⟨b, o, none⟩ vs (G.map Lib.bytesOf) := by
      refine ⟨by rw [hvl, List.length_map], fun i x hx => ?_, fun i x l hx hl => ?_⟩
      · obtain ⟨hlt, rfl⟩ := List.getElem?_eq_some_iff.1 hx
        exact (hvs i (by omega) hlt).1
      · obtain ⟨hlt, rfl⟩ := List.getElem?_eq_some_iff.1 hx
        have hi : i < G.length := by omega
        rw [List.getElem?_map, List.getElem?_eq_getElem hi] at hl
        cases hl
        exact holds_of (hvs i hi hlt).2 (hG _ (List.getElem_mem hi))
    have h := Tryd.bytes_Join_many b o G.length c vs (G.map Lib.bytesOf) u (Lib.bytesOf sep) w (by rw [List.length_map]) h2 hP hc (holds_of hu hs) hgl (by rw [lens_map, Lib.bytesOf_length]; exact hlen)
    rw [join_sep h0] at h
    exact h.mono fun e w' ⟨v', e1, hf, hb⟩ => ⟨v', e1, rds_fresh hf hrj, hb⟩
  · have h1 : G.length = 1 := by omega
    obtain ⟨g, rfl⟩ := List.length_eq_one_iff.1 h1
    have hj : joinS [g] sep = g := rfl
    rw [hj] at hrj ⊢
    obtain ⟨A0, c0, hx, hle, hC0⟩ := hat 0 (by simp)
    have hx' : w.cell? ⟨b, o, none⟩ = some (.slice A0 g.length c0) := by
      rw [Addr.add_zero'] at hx
      exact hx
    have hC0' : Kd.C kB w A0 g.length g := hC0
    cases g with
    | nil =>
      exact (Tryd.bytes_Join_one_empty b o c A0 c0 u w hx').mono fun e w' ⟨e1, hw⟩ => ⟨_, e1, by rw [hw]; exact RdS.nil _ _, by rw [hw]; exact Below.refl _ _⟩
    | cons x r =>
      obtain ⟨ad0, rfl, -⟩ := hC0'.2.2 (by simp)
      have hh := holds_of ⟨some ad0, c0, rfl, hle, hC0'⟩ (hG _ (by simp))
      obtain ⟨p, cap, e, -, hcell⟩ := hh
      have hl : (Lib.bytesOf (x :: r)).length = (x :: r).length := Lib.bytesOf_length _
      have h := Tryd.bytes_Join_one b o c ad0 c0 (Lib.bytesOf (x :: r)) u w (by rw [hl]; exact hx') (fun i y hy => by
        have hp : some ad0 = p := by injection e
        exact hcell ad0 hp.symm i y hy) (by rw [hl]; simp) (by
        rw [hl]
        simp only [List.map_cons, List.map_nil, List.sum_cons, List.sum_nil] at hlen
        omega)
      exact h.mono fun e w' ⟨v', e1, hf, hb⟩ => ⟨v', e1, rds_fresh hf hrj, hb⟩

end Go.Proofs.YtaejogkinniakaaDoor
