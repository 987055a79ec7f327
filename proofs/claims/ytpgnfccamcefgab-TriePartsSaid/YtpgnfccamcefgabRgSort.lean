/- The sort of a row of ranges, by the shelf's contract, in the words of these texts. -/
import Derived.Test.YtpgnfccamcefgabRgB
import Derived.Test.YtpgnfccamcefgabShelf
import Derived.Shelf.SlSortCmp.NoneTotal
namespace Go.Proofs.Ytpgnfccamcefgab
set_option linter.unusedVariables false
set_option linter.unusedSimpArgs false
open Go.RowKit Go.Proofs.YtpgnfccamcefgabW.PrintWords Go.Sort Go.Shelf Go.Lib

theorem own_mkR {e : Nat} {w : World} {base g n cap : Nat} {cur : Array Value} {xs : List Rg} (hn : n = xs.length) (hb : base ≤ g) (hg : w.heap[g]? = some (.cells cur e (0, 0))) (hc : n ≤ cap) (hm : cap ≤ maxLen) (hs : cur.size = cap * 2)
    (hcell : ∀ k (hk : k < xs.length), cur[k * 2]? = some (.int .i64 xs[k].1) ∧ cur[k * 2 + 1]? = some (.int .i64 xs[k].2)) : Own kR e w base (.slice (some ⟨g, 0, none⟩) n cap) xs := by
  subst hn
  have hl : (cur.toList.take (xs.length * 2)).length = xs.length * 2 := by
    have hz : cur.toList.length = cap * 2 := by rw [← hs]; exact Array.length_toList
    rw [List.length_take]
    omega
  refine ⟨fun _ _ => trivial, cur.toList.take (xs.length * 2), ⟨hl, .inr ⟨g, cap, cur, rfl, hb, hg, hc, hm, hs, rfl⟩⟩, hl, fun j p hj => ?_⟩
  obtain ⟨hjl, rfl⟩ := List.getElem?_eq_some_iff.1 hj
  obtain ⟨h0, h1⟩ := hcell j hjl
  have e : ((cur.toList.take (xs.length * 2)).drop (j * 2)).take 2 = [.int .i64 xs[j].1, .int .i64 xs[j].2] := by
    refine List.ext_getElem? fun i => ?_
    rw [List.getElem?_take]
    by_cases hi : i < 2
    · rw [if_pos hi, List.getElem?_drop, List.getElem?_take, if_pos (by omega), Array.getElem?_toList]
      match i, hi with
      | 0, _ => exact h0
      | 1, _ => exact h1
    · rw [if_neg hi]
      exact (List.getElem?_eq_none (by simp; omega)).symm
  have hz : kR.sz = 2 := rfl
  rw [hz, e]
  exact kR_mkM _ _ _ _

def encR (x : Rg) : List Value := [.int .i64 x.1, .int .i64 x.2]

theorem holds_of_own {e : Nat} {w : World} {base g n cap : Nat} {xs : List Rg} (h : Own kR e w base (.slice (some ⟨g, 0, none⟩) n cap) xs) : HoldsK encR 2 w g 0 xs.toArray := by
  intro j hj
  have hj2 : j < xs.length * 2 := by simpa using hj
  obtain ⟨h0, h1, h2, h3⟩ := own_atR h (j / 2) (by omega)
  have e1 : (flatK encR 2 xs.toArray)[j]! = (encR (xs.toArray[j / 2]!))[j % 2]! := get_flatK encR 2 xs.toArray j (by simpa using hj2)
  rw [e1]
  have hk : j / 2 < xs.length := by omega
  have e2 : xs.toArray[j / 2]! = xs[j / 2] := by simp [hk]
  rw [e2]
  rcases Nat.mod_two_eq_zero_or_one j with hm | hm
  · have hd : j / 2 * 2 = j := by omega
    rw [hd] at h0 h2
    rw [hm, Nat.zero_add]
    exact ⟨h0, h2⟩
  · have hd : j / 2 * 2 + 1 = j := by omega
    rw [hd] at h1 h3
    rw [hm, Nat.zero_add]
    exact ⟨h1, h3⟩

theorem sortWorld_block {w : World} {g m : Nat} {d : Array Rg} {os : Array Obj} {cur : Array Value} {e : Nat} (hg : w.heap[g]? = some (.cells cur e (0, 0))) :
    (sortWorldK encR 2 w g 0 m d os).heap[g]? = some (.cells (putCells id 0 (flatK encR 2 d) cur) e (0, 0)) := by
  have hlt := (Array.getElem?_eq_some_iff.1 hg).1
  unfold sortWorldK
  have h1 : g < (putRowK encR 2 (Sort.ahead w m) g 0 d).heap.size := by
    show g < (w.heap.modify g _).size
    simpa using hlt
  rw [heap_grow_old _ _ h1]
  show (w.heap.modify g (onCells (putCells id 0 (flatK encR 2 d))))[g]? = _
  rw [Array.getElem?_modify, if_pos rfl, hg]
  rfl
theorem sortWorld_grown {w : World} {g m : Nat} {d : Array Rg} {os : Array Obj} : w.grownBy (sortWorldK encR 2 w g 0 m d os) (some g) := by
  have hs : (putRowK encR 2 (Sort.ahead w m) g 0 d).heap.size = w.heap.size := by
    show (w.heap.modify g _).size = _
    simp
  refine ⟨rfl, rfl, rfl, ?_, fun k hk hne => ?_⟩
  · unfold sortWorldK
    rw [size_grow, hs]
    omega
  · unfold sortWorldK
    rw [heap_grow_old _ _ (by rw [hs]; exact hk)]
    show (w.heap.modify g (onCells (putCells id 0 (flatK encR 2 d))))[k]? = _
    rw [Array.getElem?_modify, if_neg (fun h => hne (by rw [h]))]

theorem ltLo (x y : Rg) : ltOf (fun x y : Rg => Lib.compareInt x.1 y.1) x y = decide (x.1 < y.1) := by
  unfold ltOf Lib.compareInt
  by_cases h1 : x.1 < y.1
  · simp [h1]
  · by_cases h2 : y.1 < x.1 <;> simp [h1, h2]
theorem swoLo : SWO (ltOf fun x y : Rg => Lib.compareInt x.1 y.1) where
  irrefl x := by rw [ltLo]; simp
  trans x y z h1 h2 := by rw [ltLo] at *; simp at *; omega
  ntrans x y z h1 h2 := by rw [ltLo] at *; simp at *; omega

set_option maxHeartbeats 1000000 in
theorem cmpClosure (x y : Rg) (W : World) : Calls Try.prog 21 #[.agg #[.int .i64 x.1, .int .i64 x.2], .agg #[.int .i64 y.1, .int .i64 y.2]] W fun e w' => e = .returned (.int .i64 (Lib.compareInt x.1 y.1)) ∧ ∃ q os', w' = grow (W.drewN q) os' := by
  have hcon := fun W' => AnyG.cmp_Compare_int Try.cmpInt x.1 y.1 W'
  change ∀ W', Calls Try.prog 22 _ _ _ at hcon
  generalize Lib.compareInt x.1 y.1 = r at hcon ⊢
  go_enter Try.func21, Try.ntmps21
  go_wp2_with (go_at_call 22; refine (hcon _).mono ?_; rintro e w' ⟨rfl, rfl⟩)
  go_ret
  exact ⟨rfl, 0, _, by rw [alloc_eq_grow, alloc_eq_grow, grow_grow]; rfl⟩

set_option maxHeartbeats 1000000 in
theorem sort_said : SortSaid := by
  intro w base v l ho hl
  rcases Nat.eq_zero_or_pos l.length with h0 | h0
  · obtain rfl := List.length_eq_zero_iff.1 h0
    obtain ⟨A, c, rfl⟩ := Kd.R_slice ho
    have hcon := AnyF.slices_SortFunc_none Try.sortR A c (.func (.func 21) #[] #[]) w
    change Calls Try.prog 20 _ _ _ at hcon
    refine hcon.mono ?_
    rintro e w' ⟨rfl, rfl⟩
    exact ⟨rfl, [], ⟨.refl _, List.Pairwise.nil⟩, ho, rfl, rfl, rfl, Nat.le_refl _, fun _ _ _ => rfl⟩
  · obtain ⟨g, cap, rfl, hb, hlt, cur, hg⟩ := Kd.R_form ho h0
    have hcur : cur.size = cap * 2 ∧ l.length ≤ cap ∧ cap ≤ maxLen := by
      obtain ⟨_, inner, ⟨_, hi⟩, _⟩ := ho
      rcases hi with ⟨he, _⟩ | ⟨g', cap', cur', he, _, hg', h1, h2, h3, _⟩
      · cases he
      · injection he with h4 _ h5
        injection h4 with h4
        injection h4 with h4
        subst h4 h5
        rw [hg] at hg'
        injection hg' with hg'
        injection hg' with hg'
        subst hg'
        exact ⟨h3, h1, h2⟩
    have eg : ∀ args w, (callFunc 21 args).run Try.prog w = .ok (.enter 21 args) w := enters_of Try.func21 (by kernel_rfl) rfl
    have hcon := AnyQ.slices_SortFunc Try.sortR 2 Try.isAgg49 Try.sizeOf49 encR (fun _ => rfl) (fun x v hv => by simp [encR] at hv; rcases hv with rfl | rfl <;> rfl) (fun x y => Lib.compareInt x.1 y.1) swoLo 21 #[] g 0 cap l.toArray w eg (fun _ _ _ _ x y => cmpClosure x y _) (holds_of_own ho) hlt (by simp; omega)
    have hsz : l.toArray.size = l.length := by simp
    rw [hsz] at hcon
    change Calls Try.prog 20 _ _ _ at hcon
    refine hcon.mono ?_
    rintro e w' ⟨rfl, d, m, os, hp, hs, rfl⟩
    obtain ⟨hp1, _, hp3⟩ := hp
    rw [hsz] at hp1
    have hdl : d.toList.length = l.length := by rw [← hp1]; exact Array.length_toList
    have he1 : d.extract 0 l.length = d := by rw [← hp1]; simp
    have he2 : l.toArray.extract 0 l.length = l.toArray := by simp
    rw [he1, he2] at hp3
    have hgrown : w.grownBy (sortWorldK encR 2 w g 0 m d os) (Value.slice (some ⟨g, 0, none⟩) l.length cap).ownBlock := sortWorld_grown
    refine ⟨rfl, d.toList, ⟨hp3.symm, ?_⟩, ?_, hgrown⟩
    · refine List.pairwise_iff_getElem.2 fun i j hi hj hij => ?_
      have h1 := hs i j (Nat.zero_le _) hij (by omega)
      rw [ltLo] at h1
      have h2 := of_decide_eq_false h1
      have g1 : d[i]! = d.toList[i] := by rw [getElem!_pos d i (by omega)]; rfl
      have g2 : d[j]! = d.toList[j] := by rw [getElem!_pos d j (by omega)]; rfl
      rw [g1, g2] at h2
      omega
    · refine own_mkR hdl.symm hb (sortWorld_block hg) hcur.2.1 hcur.2.2 ?_ ?_
      · rw [← hcur.1]; simp [putCells]
      · intro k hk
        have hk2 : k < d.size := by rw [← Array.length_toList]; exact hk
        have hf : ∀ j, j < d.size * 2 → (flatK encR 2 d)[j]! = (encR (d[j / 2]!))[j % 2]! := fun j hj => get_flatK encR 2 d j hj
        have hfs : (flatK encR 2 d).size = d.size * 2 := size_flatK _ _ _
        have g1 : d[k]! = d.toList[k] := by rw [getElem!_pos d k hk2]; rfl
        have hput : ∀ j, j < d.size * 2 → (putCells id 0 (flatK encR 2 d) cur)[j]? = some ((flatK encR 2 d)[j]!) := fun j hj => by
          have hjc : j < cur.size := by rw [hcur.1]; omega
          unfold putCells
          rw [Array.getElem?_mapIdx, Array.getElem?_eq_getElem hjc]
          simp only [Option.map_some]
          rw [if_pos ⟨Nat.zero_le _, by rw [hfs]; omega⟩]
          rfl
        have e0 : k * 2 / 2 = k := by omega
        have e1 : (k * 2 + 1) / 2 = k := by omega
        have m0 : k * 2 % 2 = 0 := by omega
        have m1 : (k * 2 + 1) % 2 = 1 := by omega
        rw [hput _ (by omega), hput _ (by omega), hf _ (by omega), hf _ (by omega), e0, e1, m0, m1, g1]
        exact ⟨rfl, rfl⟩

end Go.Proofs.Ytpgnfccamcefgab
