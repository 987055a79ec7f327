/- NdA, Base, TkPure, TkB, TkE, TkL, TkC, TkD, TkS, NdB, TkJ, CkP, CkB, ShelfT, LrP, LnP, LnQ, Shelf, LnC, NmP, NmA, TkP2, TkPa, ShelfU. -/
import Derived.Test.YtkipjalfgdfaiaaGreatDoorWWords
import Derived.Test.YtkipjalfgdfaiaaGreatDoorProg
import Derived.Below
import Derived.Deep.Draws
import Derived.Deep.AppendLies
import Derived.Maps.AppendAt
import Derived.OwnWalk
import Derived.Laws.BytesArg
import Derived.Laws.MakeOwn
import Derived.Laws.OwnMore
import Derived.Deep.OwnRows
import Derived.Tactics
import Derived.Lib.ConvBytes
import Derived.Laws.Slices
import Derived.WalkKit
import Derived.KernelRfl
import Derived.RowKit3
import Derived.Deep.LoopGhost
import Derived.Deep.QuietTactic
import Derived.BigQuiet
import Derived.WideLaws
import Derived.Deep.DeepCutAuto
import Derived.Deep.CutBlock
import Derived.Deep.RegionHeld3
import Derived.Laws.Rows
import Derived.Lib.AppendStr
import Derived.ArgAppend
import Derived.Laws.IdiomCopy
import Derived.OrdersHeld
import Derived.Laws.BitsLemmas
import Derived.RowKit
import Derived.Test.YtkipjalfgdfaiaaGreatDoorWLast
import Derived.Test.YtkipjalfgdfaiaaGreatDoorWRepsOne
import Derived.WalkLawsBesides
import Derived.Lib.Bytes
import Derived.Shelf.Strings.OnBuilder
import Derived.Shelf.Strings.IndexAnyAll
import Derived.Shelf.Strings.Runes
import Derived.Shelf.Small.Utf8
import Derived.Shelf.Small.Strs
import Derived.Shelf.Strconv.ErrVar
import Derived.Shelf.Strconv.ParseIntEmpty
import Derived.Shelf.Strconv.Atoi
import Derived.Shelf.Strings.Search3
import Derived.Lib.SplitLaws
import Derived.Lib.CutLaws
import Derived.Lib.SlTrimSet
import Derived.Shelf.Strings.Cut
import Derived.Shelf.Strings.Split
import Derived.Shelf.Strings.SlTrimAscii
import Derived.Laws.RangeAny
import Derived.Laws.RangeString
import Derived.LoopTactic
import Derived.Test.YtkipjalfgdfaiaaGreatDoorSD2
namespace Go.Proofs.YtkipjalfgdfaiaaGreatDoor
set_option linter.unusedVariables false
set_option linter.unusedSimpArgs false
open Go.RowKit Go.Proofs.YtkipjalfgdfaiaaGreatDoorW.PrintWords Go.Proofs.YtkipjalfgdfaiaaGreatDoor.PTk

abbrev Nd := S25
/-- What holds of a node if it does of its kids holds of all. -/
theorem Nd.ind {P : Nd → Prop} {Q : List Nd → Prop} (hP : ∀ n : Nd, Q n.f7 → P n) (h0 : Q []) (h1 : ∀ n ns, P n → Q ns → Q (n :: ns)) : (∀ n, P n) ∧ ∀ ns, Q ns :=
  ⟨fun n => S25.rec (motive_1 := P) (motive_2 := Q) (fun f0 f1 f2 f3 f4 f5 f6 f7 h => hP ⟨f0, f1, f2, f3, f4, f5, f6, f7⟩ h) h0 (fun n ns hn hns => h1 n ns hn hns) n,
   fun ns => S25.rec_1 (motive_1 := P) (motive_2 := Q) (fun f0 f1 f2 f3 f4 f5 f6 f7 h => hP ⟨f0, f1, f2, f3, f4, f5, f6, f7⟩ h) h0 (fun n ns hn hns => h1 n ns hn hns) ns⟩
mutual
def sizeN : Nd → Nat
  | ⟨_, _, _, _, _, _, _, ks⟩ => 1 + sizeK ks
def sizeK : List Nd → Nat
  | [] => 0
  | n :: ns => sizeN n + sizeK ns
end
theorem sizeN_eq (n : Nd) : sizeN n = 1 + sizeK n.f7 := by cases n; rw [sizeN]
theorem sizeK_nil : sizeK [] = 0 := by rw [sizeK]
theorem sizeK_cons (n : Nd) (ns : List Nd) : sizeK (n :: ns) = sizeN n + sizeK ns := by rw [sizeK]
mutual
def fewN : Nd → Int → Int → Bool × Int
  | ⟨_, _, _, _, _, _, _, ks⟩, l, d => if l - 1 < 0 ∨ d < 0 then (false, l - 1) else fewK ks (l - 1) (d - 1)
def fewK : List Nd → Int → Int → Bool × Int
  | [], l, _ => (true, l)
  | n :: ns, l, d => if (fewN n l d).1 = true then fewK ns (fewN n l d).2 d else (false, (fewN n l d).2)
end
theorem fewN_eq (n : Nd) (l d : Int) : fewN n l d = if l - 1 < 0 ∨ d < 0 then (false, l - 1) else fewK n.f7 (l - 1) (d - 1) := by cases n; rw [fewN]
theorem fewK_nil (l d : Int) : fewK [] l d = (true, l) := by rw [fewK]
theorem fewK_cons (n : Nd) (ns : List Nd) (l d : Int) : fewK (n :: ns) l d = if (fewN n l d).1 = true then fewK ns (fewN n l d).2 d else (false, (fewN n l d).2) := by rw [fewK]
mutual
def highN : Nd → Nat
  | ⟨_, _, _, _, _, _, _, ks⟩ => highK ks
def highK : List Nd → Nat
  | [] => 0
  | n :: ns => max (highN n + 1) (highK ns)
end
theorem highN_eq (n : Nd) : highN n = highK n.f7 := by cases n; rw [highN]
theorem highK_cons (n : Nd) (ns : List Nd) : highK (n :: ns) = max (highN n + 1) (highK ns) := by rw [highK]
theorem few_ok : (∀ n l d, 0 ≤ l → (-1 ≤ (fewN n l d).2 ∧ (fewN n l d).2 ≤ l) ∧ ((fewN n l d).1 = true → 0 ≤ (fewN n l d).2 ∧ (fewN n l d).2 = l - sizeN n ∧ (highN n : Int) ≤ d)) ∧
    (∀ ns l d, 0 ≤ l → (-1 ≤ (fewK ns l d).2 ∧ (fewK ns l d).2 ≤ l) ∧ ((fewK ns l d).1 = true → 0 ≤ (fewK ns l d).2 ∧ (fewK ns l d).2 = l - sizeK ns ∧ (highK ns : Int) ≤ max 0 (d + 1))) := by
  refine Nd.ind (fun n ih l d hl => ?_) (fun l d hl => ?_) (fun n ns hn hns l d hl => ?_)
  · rw [fewN_eq, sizeN_eq, highN_eq]
    by_cases h : l - 1 < 0 ∨ d < 0
    · rw [if_pos h]; exact ⟨⟨by simp only; omega, by simp only; omega⟩, fun h => by simp at h⟩
    · rw [if_neg h]
      have := ih (l - 1) (d - 1) (by omega)
      refine ⟨⟨this.1.1, by have := this.1.2; omega⟩, fun h2 => ?_⟩
      have h3 := this.2 h2
      exact ⟨h3.1, by omega, by omega⟩
  · rw [fewK_nil, sizeK_nil]
    exact ⟨⟨by simp only; omega, by simp only; omega⟩, fun _ => ⟨hl, by simp, by rw [highK]; omega⟩⟩
  · rw [fewK_cons, sizeK_cons, highK_cons]
    have h1 := hn l d hl
    by_cases h : (fewN n l d).1 = true
    · rw [if_pos h]
      have h2 := h1.2 h
      have h3 := hns (fewN n l d).2 d h2.1
      refine ⟨⟨h3.1.1, by omega⟩, fun h4 => ?_⟩
      have h5 := h3.2 h4
      exact ⟨h5.1, by omega, by omega⟩
    · rw [if_neg h]
      exact ⟨h1.1, fun h => by simp at h⟩
mutual
def groupsN : Nd → Nat
  | ⟨k, _, a, _, _, _, _, ks⟩ => groupsK ks + (if k = 9 ∧ 0 < a then 1 else 0)
def groupsK : List Nd → Nat
  | [] => 0
  | n :: ns => groupsN n + groupsK ns
end
theorem groupsN_eq (n : Nd) : groupsN n = groupsK n.f7 + (if n.f0 = 9 ∧ 0 < n.f2 then 1 else 0) := by cases n; rw [groupsN]
theorem groupsK_nil : groupsK [] = 0 := by rw [groupsK]
theorem groupsK_cons (n : Nd) (ns : List Nd) : groupsK (n :: ns) = groupsN n + groupsK ns := by rw [groupsK]
mutual
def depthN : Nd → Bool → Nat
  | ⟨k, m, _, _, _, _, _, ks⟩, br => depthK ks (if k = 3 then (m == 0) else true) 0 + (if k = 3 then (if br = true then 1 else 0) else if k = 9 ∨ k = 10 ∨ k = 11 then 1 else 0)
def depthK : List Nd → Bool → Nat → Nat
  | [], _, acc => acc
  | n :: ns, b, acc => depthK ns b (max acc (depthN n b))
end
theorem depthN_eq (n : Nd) (br : Bool) : depthN n br = depthK n.f7 (if n.f0 = 3 then (n.f1 == 0) else true) 0 + (if n.f0 = 3 then (if br = true then 1 else 0) else if n.f0 = 9 ∨ n.f0 = 10 ∨ n.f0 = 11 then 1 else 0) := by cases n; rw [depthN]
theorem depthK_nil (b : Bool) (acc : Nat) : depthK [] b acc = acc := by rw [depthK]
theorem depthK_cons (n : Nd) (ns : List Nd) (b : Bool) (acc : Nat) : depthK (n :: ns) b acc = depthK ns b (max acc (depthN n b)) := by rw [depthK]
theorem rdN (xs : List Nd) (j : Nat) (h : j < xs.length) : rd_T25 xs (j : Int) = xs[j] := by unfold rd_T25; simp [h]
theorem w64c {x : Int} (h0 : -9223372036854775808 ≤ x) (h1 : x ≤ 9223372036854775807) : wrap64 x = x := by unfold wrap64; omega
end Go.Proofs.YtkipjalfgdfaiaaGreatDoor
namespace Go.Proofs.YtkipjalfgdfaiaaGreatDoor
set_option linter.unusedVariables false
set_option linter.unusedSimpArgs false
open Go.RowKit Go.Proofs.YtkipjalfgdfaiaaGreatDoorW.PrintWords

/-- A row of one's own since 'base', of whatever blocks. -/
abbrev Own {α : Type} (d : Kd α) (e : Nat) (w : World) (base : Nat) (v : Value) (l : List α) : Prop := d.R e w base (fun _ => True) v l

theorem below_to {w w1 w2 : World} (h : Below w.heap.size w w1) (k : Below w1.heap.size w1 w2) : Below w.heap.size w w2 := h.trans (k.mono h.size)

theorem int_mkM (k : IntKind) (w : World) (base : Nat) (ok : Nat → Prop) (x : Int) : (Kd.int k).M w base ok x [.int k x] := rfl
end Go.Proofs.YtkipjalfgdfaiaaGreatDoor
namespace Go.Proofs.YtkipjalfgdfaiaaGreatDoor
set_option linter.unusedVariables false
set_option linter.unusedSimpArgs false

/-- What may stand behind a first byte, and how many bytes. -/
def tailL (f : Int) : Int × Int × Nat :=
  if f < 194 ∨ 244 < f then (0, 0, 0)
  else if f < 224 then (128, 191, 1)
  else if f = 224 then (160, 191, 2)
  else if f = 237 then (128, 159, 2)
  else if f = 240 then (144, 191, 3)
  else if f = 241 ∨ f = 242 ∨ f = 243 then (128, 191, 3)
  else if f = 244 then (128, 143, 3)
  else (128, 191, 2)
/-- The bytes behind the first one: so many are wanted. -/
def moreL (lo hi : Int) : Nat → List Int → Int → Nat → Int × Nat
  | 0, _, r, at_ => (r, at_)
  | _ + 1, [], r, at_ => (r, at_)
  | m + 1, c :: t, r, at_ => if c < lo ∨ hi < c then (r, at_) else moreL 128 191 m t (r * 64 + c % 64) (at_ + 1)
/-- The first item of bytes. -/
def readL : List Int → Int × Nat × Bool
  | [] => (0, 0, false)
  | f :: t =>
    if f < 128 then (f, 1, true)
    else match tailL f with
      | (lo, hi, n) =>
        if n = 0 then (65533, 1, false)
        else match moreL lo hi n t (f % (2 ^ (6 - n) : Nat)) 1 with
          | (r, at_) => if at_ ≤ n then (65533, at_, false) else (r, at_, true)
end Go.Proofs.YtkipjalfgdfaiaaGreatDoor
namespace Go.Proofs.YtkipjalfgdfaiaaGreatDoor
set_option linter.unusedVariables false
set_option linter.unusedSimpArgs false
open Go.RowKit Go.Proofs.YtkipjalfgdfaiaaGreatDoorW.PrintWords

/-- Whatever stood in w stands in w', but for some blocks. -/
structure But (ex : Nat → Prop) (w w' : World) : Prop where
  os : w'.os = w.os
  tape : w'.tape = w.tape
  output : w'.output = w.output
  size : w.heap.size ≤ w'.heap.size
  block : ∀ k, k < w.heap.size → ¬ ex k → w'.heap[k]? = w.heap[k]?
section
variable {ex ex' : Nat → Prop} {w w1 w2 : World}
theorem But.refl (ex : Nat → Prop) (w : World) : But ex w w := ⟨rfl, rfl, rfl, Nat.le_refl _, fun _ _ _ => rfl⟩
theorem But.trans (h : But ex w w1) (k : But ex w1 w2) : But ex w w2 :=
  ⟨k.os.trans h.os, k.tape.trans h.tape, k.output.trans h.output, Nat.le_trans h.size k.size, fun b hb hn => (k.block b (Nat.lt_of_lt_of_le hb h.size) hn).trans (h.block b hb hn)⟩
theorem But.mono (h : But ex w w1) (he : ∀ k, ex k → ex' k) : But ex' w w1 := ⟨h.os, h.tape, h.output, h.size, fun b hb hn => h.block b hb (fun e => hn (he b e))⟩
theorem But.of_below (h : Below w.heap.size w w1) : But ex w w1 := ⟨h.os, h.tape, h.output, h.size, fun b hb _ => h.block b hb⟩
theorem But.below (h : But ex w w1) {B : Nat} (hB : B ≤ w.heap.size) (he : ∀ k, k < B → ¬ ex k) : Below B w w1 := ⟨h.os, h.tape, h.output, h.size, fun b hb => h.block b (Nat.lt_of_lt_of_le hb hB) (he b hb)⟩
theorem But.set (h : But ex w w1) (g j : Nat) (hg : ex g) (u : Value) : But ex w (w1.setCell ⟨g, j, none⟩ u) := by
  have hb := Below.setCell (Below.refl 0 w1) (p := ⟨g, j, none⟩) (Nat.zero_le _) u
  refine ⟨hb.os.trans h.os, hb.tape.trans h.tape, hb.output.trans h.output, Nat.le_trans h.size hb.size, fun b hbl hn => ?_⟩
  rw [Below.heap_setCell w1 ⟨g, j, none⟩ u b (fun e => hn (by rw [e]; exact hg))]
  exact h.block b hbl hn
theorem But.alloc (h : But ex w w1) (o : Obj) : But ex w (w1.alloc o) := h.trans (But.of_below (below_alloc (Below.refl _ _) o))
end
/-- A token. -/
structure Tk where
  kind : Int
  mode : Int := 0
  a : Int := 0
  b : Int := 0
  name : ByteArray := ⟨#[]⟩
  neg : Bool := false
  st : Nat
  en : Nat := 0
theorem rowc {w : World} {g : Nat} {cs : Array Value} {t : TypeId} {fr : Nat × Nat} (h : w.heap[g]? = some (.cells cs t fr)) (j : Nat) (v : Value) (hj : cs[j]? = some v) : w.cell? ⟨g, j, none⟩ = some v := by
  simp [World.cell?, h, hj]

end Go.Proofs.YtkipjalfgdfaiaaGreatDoor
namespace Go.Proofs.YtkipjalfgdfaiaaGreatDoor
set_option linter.unusedVariables false
set_option linter.unusedSimpArgs false

/-- A code point's bytes. -/
def encL (r : Int) : List Int :=
  if r < 128 then [r]
  else if r < 2048 then [192 + r / 64, 128 + r % 64]
  else if r < 65536 then [224 + r / 4096, 128 + r / 64 % 64, 128 + r % 64]
  else [240 + r / 262144, 128 + r / 4096 % 64, 128 + r / 64 % 64, 128 + r % 64]
def runeB (r : Int) : Bool := decide (0 ≤ r) && decide (r ≤ 1114111) && !(decide (55296 ≤ r) && decide (r ≤ 57343))
theorem runeB_iff (r : Int) : runeB r = true ↔ 0 ≤ r ∧ r ≤ 1114111 ∧ ¬ (55296 ≤ r ∧ r ≤ 57343) := by
  unfold runeB
  simp only [Bool.and_eq_true, Bool.not_eq_true', decide_eq_true_eq, Bool.and_eq_false_iff, decide_eq_false_iff_not]
  omega
theorem tailL_2 {f : Int} (h1 : 194 ≤ f) (h2 : f < 224) : tailL f = (128, 191, 1) := by
  unfold tailL
  rw [if_neg (by omega), if_pos h2]
theorem tailL_3 {f : Int} (h1 : 224 ≤ f) (h2 : f < 240) : tailL f = (if f = 224 then 160 else 128, if f = 237 then 159 else 191, 2) := by
  unfold tailL
  rw [if_neg (by omega), if_neg (by omega)]
  by_cases a : f = 224
  · subst a; rfl
  · rw [if_neg a, if_neg a]
    by_cases b : f = 237
    · subst b; rfl
    · rw [if_neg b, if_neg b, if_neg (by omega), if_neg (by omega), if_neg (by omega)]
theorem tailL_4 {f : Int} (h1 : 240 ≤ f) (h2 : f ≤ 244) : tailL f = (if f = 240 then 144 else 128, if f = 244 then 143 else 191, 3) := by
  unfold tailL
  rw [if_neg (by omega), if_neg (by omega), if_neg (by omega), if_neg (by omega)]
  by_cases a : f = 240
  · subst a; rfl
  · rw [if_neg a, if_neg a]
    by_cases b : f = 244
    · subst b; rfl
    · rw [if_neg b, if_neg b, if_pos (by omega)]
theorem readL_hi {f : Int} {t : List Int} (h : ¬ f < 128) {lo hi : Int} {n : Nat} (ht : tailL f = (lo, hi, n)) (hn : n ≠ 0) {r : Int} {a : Nat} (hm : moreL lo hi n t (f % (2 ^ (6 - n) : Nat)) 1 = (r, a)) : readL (f :: t) = if a ≤ n then (65533, a, false) else (r, a, true) := by
  simp only [readL]
  rw [if_neg h, ht]
  simp only
  rw [if_neg hn, hm]
theorem moreL_ok {lo hi c : Int} (h1 : lo ≤ c) (h2 : c ≤ hi) (m : Nat) (t : List Int) (r : Int) (a : Nat) : moreL lo hi (m + 1) (c :: t) r a = moreL 128 191 m t (r * 64 + c % 64) (a + 1) := by
  rw [moreL, if_neg (by omega)]
theorem readL_enc (r : Int) (hr : runeB r = true) (t : List Int) : readL (encL r ++ t) = (r, (encL r).length, true) := by
  rw [runeB_iff] at hr
  obtain ⟨h0, h1, h2⟩ := hr
  unfold encL
  by_cases a : r < 128
  · rw [if_pos a]
    simp only [List.cons_append, List.nil_append, readL]
    rw [if_pos a]
    rfl
  · rw [if_neg a]
    by_cases b : r < 2048
    · rw [if_pos b]
      simp only [List.cons_append, List.nil_append]
      rw [readL_hi (by omega) (tailL_2 (by omega) (by omega)) (by decide) (moreL_ok (by omega) (by omega) _ _ _ _)]
      rw [if_neg (by decide)]
      refine Prod.ext ?_ rfl
      show (192 + r / 64) % ((2 ^ (6 - 1) : Nat) : Int) * 64 + (128 + r % 64) % 64 = r
      omega
    · rw [if_neg b]
      by_cases c : r < 65536
      · rw [if_pos c]
        simp only [List.cons_append, List.nil_append]
        rw [readL_hi (by omega) (tailL_3 (by omega) (by omega)) (by decide) ((moreL_ok (by split <;> omega) (by split <;> omega) _ _ _ _).trans (moreL_ok (by omega) (by omega) _ _ _ _))]
        rw [if_neg (by decide)]
        refine Prod.ext ?_ rfl
        show ((224 + r / 4096) % ((2 ^ (6 - 2) : Nat) : Int) * 64 + (128 + r / 64 % 64) % 64) * 64 + (128 + r % 64) % 64 = r
        omega
      · rw [if_neg c]
        simp only [List.cons_append, List.nil_append]
        rw [readL_hi (by omega) (tailL_4 (by omega) (by omega)) (by decide) ((moreL_ok (by split <;> omega) (by split <;> omega) _ _ _ _).trans ((moreL_ok (by omega) (by omega) _ _ _ _).trans (moreL_ok (by omega) (by omega) _ _ _ _)))]
        rw [if_neg (by decide)]
        refine Prod.ext ?_ rfl
        show (((240 + r / 262144) % ((2 ^ (6 - 3) : Nat) : Int) * 64 + (128 + r / 4096 % 64) % 64) * 64 + (128 + r / 64 % 64) % 64) * 64 + (128 + r % 64) % 64 = r
        omega
theorem encL_pos (r : Int) : 1 ≤ (encL r).length ∧ (encL r).length ≤ 4 := by
  unfold encL
  repeat' split
  all_goals simp
theorem encL_rng {r : Int} (hr : runeB r = true) : ∀ x ∈ encL r, 0 ≤ x ∧ x ≤ 255 := by
  rw [runeB_iff] at hr
  unfold encL
  intro x hx
  split at hx
  · simp at hx; omega
  · split at hx
    · simp at hx; omega
    · split at hx
      · simp at hx; omega
      · simp at hx; omega
theorem encL_ascii {r : Int} (h : r < 128) : encL r = [r] := if_pos h
theorem encL_high {r : Int} (hr : runeB r = true) (h : 128 ≤ r) : ∀ x ∈ encL r, 128 ≤ x := by
  rw [runeB_iff] at hr
  unfold encL
  intro x hx
  rw [if_neg (by omega)] at hx
  split at hx
  · simp at hx; omega
  · split at hx
    · simp at hx; omega
    · simp at hx; omega

end Go.Proofs.YtkipjalfgdfaiaaGreatDoor
namespace Go.Proofs.YtkipjalfgdfaiaaGreatDoor
set_option linter.unusedVariables false
set_option linter.unusedSimpArgs false
open Go.RowKit Go.Proofs.YtkipjalfgdfaiaaGreatDoorW.PrintWords

/-- What comes, or the fault: its code, its place. -/
abbrev Fl (α : Type) := Except (Int × Nat) α
def digB (c : Int) : Bool := decide (48 ≤ c) && decide (c ≤ 57)
def letB (c : Int) : Bool := (decide (97 ≤ c) && decide (c ≤ 122)) || (decide (65 ≤ c) && decide (c ≤ 90))
def hexB (c : Int) : Bool := digB c || (decide (97 ≤ c) && decide (c ≤ 102)) || (decide (65 ≤ c) && decide (c ≤ 70))
def namB (c : Int) : Bool := digB c || letB c || c == 95
def peekL (p : List Int) (k : Nat) : Fl Int := match p[k]? with
  | some b => .ok b
  | none => .error (130, k)
/-- Whether a text stands there. -/
def hasL (p : List Int) (k : Nat) (t : List Int) : Bool := t.isPrefixOf (p.drop k)
def eatL (p : List Int) (k : Nat) (t : List Int) : Nat := if hasL p k t then k + t.length else k
def needL (p : List Int) (st k : Nat) (c e : Int) : Fl Nat := match peekL p k with
  | .ok b => if b = c then .ok (k + 1) else .error (e, st)
  | .error x => .error x
def charL (p : List Int) (k : Nat) : Fl (Int × Nat) := match readL (p.drop k) with
  | (r, n, true) => .ok (r, k + n)
  | (_, _, false) => .error (131, k)
/-- How many bytes of a kind stand ahead, so many at most. -/
def runN (of_ : Int → Bool) : Nat → List Int → Nat
  | 0, _ => 0
  | _ + 1, [] => 0
  | m + 1, c :: t => if of_ c then runN of_ m t + 1 else 0
/-- One step behind the other. -/
def thenF {α β : Type} (x : Fl α) (f : α → Fl β) : Fl β := match x with
  | .error e => .error e
  | .ok a => f a
theorem thenF_ok {α β : Type} (a : α) (f : α → Fl β) : thenF (.ok a) f = f a := rfl
def nameL (p : List Int) (st k : Nat) (e : Int) : Fl (List Int × Nat) :=
  thenF (peekL p k) fun c =>
    if digB c then .error (e, st)
    else thenF (peekL p (k + runN namB 20 (p.drop k))) fun _ =>
      if runN namB 20 (p.drop k) = 0 then .error (e, st)
      else thenF (needL p st (k + runN namB 20 (p.drop k)) 62 e) fun k' => .ok ((p.drop k).take (runN namB 20 (p.drop k)), k')
def numD (l : List Int) : Int := l.foldl (fun n c => 10 * n + (c - 48)) 0
def numberL (p : List Int) (k most : Nat) : Int × Nat :=
  (if runN digB most (p.drop k) = 0 then -1 else numD ((p.drop k).take (runN digB most (p.drop k))), k + runN digB most (p.drop k))
/-- Behind a (?<. -/
def openN (p : List Int) (k : Nat) (t : Tk) : Fl (Tk × Nat) :=
  thenF (peekL p k) fun d =>
    if d = 61 then .ok ({ t with kind := 3, mode := 5 }, k + 1)
    else if d = 33 then .ok ({ t with kind := 3, mode := 6 }, k + 1)
    else thenF (nameL p t.st k 133) fun a => .ok ({ t with kind := 3, mode := 2, name := strOfNums a.1 }, a.2)
/-- Behind a (. -/
def openL (p : List Int) (k : Nat) (t : Tk) : Fl (Tk × Nat) :=
  if hasL p k [63] = false then .ok ({ t with kind := 3 }, k)
  else thenF (peekL p (k + 1)) fun c =>
      if c = 58 then .ok ({ t with kind := 3, mode := 1 }, k + 2)
      else if c = 61 then .ok ({ t with kind := 3, mode := 3 }, k + 2)
      else if c = 33 then .ok ({ t with kind := 3, mode := 4 }, k + 2)
      else if c = 62 then .ok ({ t with kind := 3, mode := 7 }, k + 2)
      else if c = 60 then openN p (k + 2) t
      else .error (133, t.st)
/-- The second number of a repetition. -/
def countS (p : List Int) (a : Int) (k1 : Nat) : Int × Nat := if 0 ≤ a ∧ hasL p k1 [44] = true then numberL p (k1 + 1) 3 else (a, k1)
/-- The brace behind the numbers of a repetition. -/
def countE (p : List Int) (t : Tk) (a b : Int) (k2 : Nat) : Fl (Tk × Nat) :=
  thenF (peekL p k2) fun _ =>
    if a < 0 ∨ 100 < a ∨ 100 < b ∨ (0 ≤ b ∧ b < a) then .error (150, t.st)
    else thenF (needL p t.st k2 125 150) fun k' => .ok ({ t with kind := 6, a := a, b := b }, k')
/-- The numbers of a repetition, and their brace. -/
def countsL (p : List Int) (k : Nat) (t : Tk) : Fl (Tk × Nat) :=
  countE p t (numberL p k 3).1 (countS p (numberL p k 3).1 (numberL p k 3).2).1 (countS p (numberL p k 3).1 (numberL p k 3).2).2
/-- What stands behind a repetition. -/
def modeL (p : List Int) (k : Nat) (t : Tk) : Tk × Nat :=
  if hasL p k [63] = true then ({ t with mode := 1 }, k + 1)
  else if hasL p k [43] = true then ({ t with mode := 2 }, k + 1)
  else (t, k)
def countL (p : List Int) (k : Nat) (t : Tk) (c : Int) : Fl (Tk × Nat) :=
  if c = 43 then .ok ({ t with kind := 6, a := 1, b := -1 }, k) else if c = 63 then .ok ({ t with kind := 6, b := 1 }, k) else if c = 123 then countsL p k t else .ok ({ t with kind := 6, b := -1 }, k)
def repeatL (p : List Int) (k : Nat) (t : Tk) (c : Int) : Fl (Tk × Nat) :=
  thenF (countL p k t c) fun a => .ok (modeL p a.2 a.1)
def canonL (res : ByteArray → Int × ByteArray × Int) (x : ByteArray) : ByteArray × Int :=
  match res x with
  | (kind, v, e) => if e ≠ 0 then (⟨#[]⟩, e) else if kind = 1 then (⟨#[103, 99, 61]⟩ ++ v, e) else if kind = 2 then (⟨#[115, 99, 61]⟩ ++ v, e) else (v, e)
/-- Code points up to a }. -/
def uptoL (p : List Int) : Nat → Nat → Fl Nat
  | 0, k => .ok k
  | m + 1, k => thenF (peekL p k) fun b => if b = 125 then .ok k else thenF (charL p k) fun a => uptoL p m a.2
/-- What a property's expression comes to. -/
def propE (res : ByteArray → Int × ByteArray × Int) (x : ByteArray) (k2 : Nat) (t : Tk) : Fl (Tk × Nat) :=
  if (canonL res x).2 ≠ 0 then .error ((canonL res x).2, t.st) else .ok ({ t with kind := 8, name := (canonL res x).1 }, k2 + 1)
def propL (res : ByteArray → Int × ByteArray × Int) (p : List Int) (k : Nat) (t : Tk) : Fl (Tk × Nat) :=
  thenF (needL p t.st k 123 132) fun k1 => thenF (uptoL p p.length k1) fun k2 => propE res (strOfNums ((p.drop k1).take (k2 - k1))) k2 t
def hexV (c : Int) : Int := if c ≤ 57 then c - 48 else if c ≤ 70 then c - 55 else c - 87
def hexN (l : List Int) : Int := l.foldl (fun n c => 16 * n + hexV c) 0
/-- The brace behind a code point's digits. -/
def pointE (p : List Int) (k2 : Nat) (d : List Int) (t : Tk) : Fl (Tk × Nat) :=
  thenF (peekL p k2) fun _ =>
    if d = [] ∨ runeB (hexN d) = false then .error (132, t.st)
    else thenF (needL p t.st k2 125 132) fun k' => .ok ({ t with kind := 1, a := hexN d }, k')
def pointL (p : List Int) (k : Nat) (t : Tk) : Fl (Tk × Nat) :=
  thenF (needL p t.st k 123 132) fun k1 => pointE p (k1 + runN hexB 6 (p.drop k1)) ((p.drop k1).take (runN hexB 6 (p.drop k1))) t
/-- The brace behind a group's number. -/
def backE (p : List Int) (x : Int × Nat) (t : Tk) : Fl (Tk × Nat) :=
  thenF (peekL p x.2) fun _ =>
    if x.1 < 1 then .error (132, t.st)
    else thenF (needL p t.st x.2 125 132) fun k' => .ok ({ t with kind := 9, a := x.1 }, k')
def backL (p : List Int) (k : Nat) (t : Tk) : Fl (Tk × Nat) :=
  thenF (peekL p k) fun c =>
    if c = 60 then thenF (nameL p t.st (k + 1) 132) fun a => .ok ({ t with kind := 9, name := strOfNums a.1 }, a.2)
    else thenF (needL p t.st k 123 132) fun k1 => backE p (numberL p k1 2) t
def edgeL (p : List Int) (k : Nat) (t : Tk) (not_ : Bool) : Fl (Tk × Nat) :=
  if hasL p k [123] = false then .ok ({ t with kind := 7, mode := if not_ then 6 else 5 }, k)
  else thenF (peekL p (k + 1)) fun c =>
      if c = 103 ∨ c = 119 then thenF (needL p t.st (k + 2) 125 132) fun k' => .ok ({ t with kind := 7, mode := (if c = 103 then 7 else 9) + (if not_ then 1 else 0) }, k')
      else .error (132, t.st)
def chB (c : Int) : ByteArray := strOfNums [c]
/-- What a code point behind a backslash says. -/
def escL (res : ByteArray → Int × ByteArray × Int) (p : List Int) (ne : Nat) (c : Int) (k1 : Nat) (t : Tk) : Fl (Tk × Nat) :=
  if 128 ≤ c ∨ (letB c = false ∧ digB c = false) then .ok ({ t with kind := 1, a := c }, k1)
  else if c = 100 ∨ c = 119 ∨ c = 115 ∨ c = 68 ∨ c = 87 ∨ c = 83 then .ok ({ t with kind := 8, name := chB (if c < 97 then c + 32 else c), neg := decide (c < 97) }, k1)
  else if c = 112 ∨ c = 80 then propL res p k1 { t with kind := 1, neg := decide (c = 80) }
  else if c = 120 then pointL p k1 { t with kind := 1 }
  else if c = 110 then .ok ({ t with kind := 1, a := 10 }, k1)
  else if c = 116 then .ok ({ t with kind := 1, a := 9 }, k1)
  else if c = 114 then .ok ({ t with kind := 1, a := 13 }, k1)
  else if ne ≠ 0 then .error (132, t.st)
  else if c = 65 then .ok ({ t with kind := 7, mode := 3 }, k1)
  else if c = 122 then .ok ({ t with kind := 7, mode := 4 }, k1)
  else if c = 98 ∨ c = 66 then edgeL p k1 { t with kind := 1 } (decide (c = 66))
  else if c = 88 then .ok ({ t with kind := 10 }, k1)
  else if c = 107 then backL p k1 { t with kind := 1 }
  else if 49 ≤ c ∧ c ≤ 57 then .ok ({ t with kind := 9, a := c - 48 }, k1)
  else .error (132, t.st)
/-- Behind a backslash. -/
def escapeL (res : ByteArray → Int × ByteArray × Int) (p : List Int) (ne k : Nat) (t : Tk) : Fl (Tk × Nat) :=
  thenF (peekL p k) fun _ => thenF (charL p k) fun a => escL res p ne a.1 a.2 t
/-- A mark that begins a class, or stands within one: the token, the place behind it, how deep. -/
def withinL (p : List Int) (ne k : Nat) (t : Tk) : Option (Tk × Nat × Nat) :=
  if hasL p k [91] = true then some ({ t with kind := 11, neg := hasL p (k + 1) [94] }, eatL p (k + 1) [94], ne + 1)
  else if ne = 0 then none
  else if hasL p k [93] = true then some ({ t with kind := 12 }, k + 1, ne - 1)
  else if hasL p k [38, 38] = true then some ({ t with kind := 14, mode := 1 }, k + 2, ne)
  else if hasL p k [45, 45] = true then some ({ t with kind := 14, mode := 2 }, k + 2, ne)
  else if hasL p k [126, 126] = true then some ({ t with kind := 14, mode := 3 }, k + 2, ne)
  else if hasL p k [45] = true then some ({ t with kind := 13 }, k + 1, ne)
  else none
/-- What a code point says that is no mark of classes. -/
def othL (res : ByteArray → Int × ByteArray × Int) (p : List Int) (ne : Nat) (c : Int) (k1 : Nat) (t : Tk) : Fl (Tk × Nat) :=
  if c = 92 then escapeL res p ne k1 t
  else if ne ≠ 0 then .ok ({ t with kind := 1, a := c }, k1)
  else if c = 46 then .ok ({ t with kind := 2 }, k1)
  else if c = 124 then .ok ({ t with kind := 5 }, k1)
  else if c = 40 then openL p k1 t
  else if c = 41 then .ok ({ t with kind := 4 }, k1)
  else if c = 94 then .ok ({ t with kind := 7, mode := 1 }, k1)
  else if c = 36 then .ok ({ t with kind := 7, mode := 2 }, k1)
  else if c = 42 ∨ c = 43 ∨ c = 63 ∨ c = 123 then repeatL p k1 t c
  else .ok ({ t with kind := 1, a := c }, k1)
def otherL (res : ByteArray → Int × ByteArray × Int) (p : List Int) (ne k : Nat) (t : Tk) : Fl (Tk × Nat) :=
  thenF (charL p k) fun a => othL res p ne a.1 a.2 t
def nextL (res : ByteArray → Int × ByteArray × Int) (p : List Int) (ne k : Nat) : Fl (Tk × Nat × Nat) :=
  match withinL p ne k { kind := 0, st := k } with
  | some a => .ok ({ a.1 with en := a.2.1 }, a.2.1, a.2.2)
  | none => thenF (otherL res p ne k { kind := 0, st := k }) fun a => .ok ({ a.1 with en := a.2 }, a.2, ne)
/-- The tokens from a place on, behind those that were read; so many rounds. -/
def scanR (res : ByteArray → Int × ByteArray × Int) (p : List Int) : Nat → Nat → Nat → List Tk → List Tk × Int × Nat
  | 0, _, _, out => (out, 0, 0)
  | m + 1, ne, k, out => if k < p.length then match nextL res p ne k with
      | .error x => (out, x.1, x.2)
      | .ok a => scanR res p m a.2.2 a.2.1 (out ++ [a.1])
    else (out, 0, 0)
def scanL (res : ByteArray → Int × ByteArray × Int) (p : List Int) : List Tk × Int × Nat := if 2000 < p.length then ([], 4, 2000) else scanR res p p.length 0 0 []

end Go.Proofs.YtkipjalfgdfaiaaGreatDoor
namespace Go.Proofs.YtkipjalfgdfaiaaGreatDoor
set_option linter.unusedVariables false
set_option linter.unusedSimpArgs false
open Go.RowKit Go.Proofs.YtkipjalfgdfaiaaGreatDoorW.PrintWords

abbrev kB := Kd.int .u8
end Go.Proofs.YtkipjalfgdfaiaaGreatDoor
namespace Go.Proofs.YtkipjalfgdfaiaaGreatDoor
set_option linter.unusedVariables false
set_option linter.unusedSimpArgs false
open Go.RowKit Go.Proofs.YtkipjalfgdfaiaaGreatDoorW.PrintWords Go.Proofs.YtkipjalfgdfaiaaGreatDoorW.PrintLast Go.Proofs.YtkipjalfgdfaiaaGreatDoorW.PrintMore Go.Proofs.YtkipjalfgdfaiaaGreatDoor.PTk

theorem str_data (l : List Int) : (strOfNums l).data.toList = l.map fun n => UInt8.ofNat n.toNat := rfl
theorem strN_size (l : List Int) : (strOfNums l).size = l.length := by
  show (l.map fun n => UInt8.ofNat n.toNat).toArray.size = _
  simp
end Go.Proofs.YtkipjalfgdfaiaaGreatDoor
namespace Go.Proofs.YtkipjalfgdfaiaaGreatDoor
set_option linter.unusedVariables false
set_option linter.unusedSimpArgs false
open Go.RowKit Go.Proofs.YtkipjalfgdfaiaaGreatDoorW.PrintWords

theorem need_of {p : List Int} {st k : Nat} {c e : Int} (h : peekL p k = .ok c) : needL p st k c e = .ok (k + 1) := by
  unfold needL
  rw [h]
  simp
theorem uptoL_succ (p : List Int) (m k : Nat) : uptoL p (m + 1) k = thenF (peekL p k) fun b => if b = 125 then .ok k else thenF (charL p k) fun a => uptoL p m a.2 := rfl
end Go.Proofs.YtkipjalfgdfaiaaGreatDoor
namespace Go.Proofs.YtkipjalfgdfaiaaGreatDoor
set_option linter.unusedVariables false
set_option linter.unusedSimpArgs false
open Go.RowKit Go.Proofs.YtkipjalfgdfaiaaGreatDoorW.PrintWords Go.Proofs.YtkipjalfgdfaiaaGreatDoorW.PrintLast Go.Proofs.YtkipjalfgdfaiaaGreatDoorW.PrintMore Go.Proofs.YtkipjalfgdfaiaaGreatDoor.PTk

abbrev kN := k25
theorem Nd.all {P : Nd → Prop} (h : ∀ n : Nd, (∀ m ∈ n.f7, P m) → P n) : ∀ n, P n :=
  (Nd.ind (Q := fun ns => ∀ m ∈ ns, P m) h (fun _ hm => by cases hm) (fun n ns hn hns m hm => by rcases List.mem_cons.1 hm with e | e; rw [e]; exact hn; exact hns m e)).1
def cellI (w : World) (g : Nat) (l : Int) : Prop := w.heap[g]? = some (.cells #[.int .i64 l] 3 (0, 0))
set_option maxHeartbeats 8000000 in
set_option maxRecDepth 100000 in
theorem few_any : ∀ (n : Nd) (w0 w : World) (g : Nat) (l d : Int) (A6 : Option Addr) (c6 : Nat) (A7 : Option Addr) (c7 : Nat), Kd.C kN w0 A7 n.f7.length n.f7 → n.f7.length ≤ c7 → Below w0.heap.size w0 w → w0.heap.size ≤ g → cellI w g l → 0 ≤ l → l ≤ 2147483648 → -1 ≤ d → d ≤ 2147483648 →
    Calls Tryz.prog 27 #[.agg #[.int .i64 n.f0, .int .i64 n.f1, .int .i64 n.f2, .int .i64 n.f3, .bool n.f4, .string n.f5, .slice A6 n.f6.length c6, .slice A7 n.f7.length c7], .pointer (some ⟨g, 0, none⟩), .int .i64 d] w fun e w' => e = .returned (.bool (fewN n l d).1) ∧ cellI w' g (fewN n l d).2 ∧ But (· = g) w w' := by
  refine Nd.all (fun n ih => ?_)
  intro w0 w g l d A6 c6 A7 c7 hC hc7 hb hg hl h0 h1 hd0 hd1
  have hgl : g < w.heap.size := by have h : w.heap[g]? = some _ := hl; exact (Array.getElem?_eq_some_iff.1 h).1
  have hgn : g ≠ w.heap.size := by omega
  obtain ⟨W1, hW1⟩ : ∃ W1, w.alloc (.cells #[.int .i64 n.f0, .int .i64 n.f1, .int .i64 n.f2, .int .i64 n.f3, .bool n.f4, .string n.f5, .slice A6 n.f6.length c6, .slice A7 n.f7.length c7] 25) = W1 := ⟨_, rfl⟩
  have hb1 : Below w.heap.size w W1 := by rw [← hW1]; exact below_alloc (Below.refl _ _) _
  have hbx : W1.heap[w.heap.size]? = some (.cells #[.int .i64 n.f0, .int .i64 n.f1, .int .i64 n.f2, .int .i64 n.f3, .bool n.f4, .string n.f5, .slice A6 n.f6.length c6, .slice A7 n.f7.length c7] 25 (0, 0)) := by rw [← hW1]; exact heap_alloc_new w _
  have hl1 : cellI W1 g l := (hb1.block g hgl).trans hl
  obtain ⟨W2, hW2⟩ : ∃ W2, W1.setCell ⟨g, 0, none⟩ (.int .i64 (l - 1)) = W2 := ⟨_, rfl⟩
  have hbt : But (· = g) w W2 := by rw [← hW2]; exact (But.of_below hb1).trans (But.set (ex := (· = g)) (But.refl _ _) g 0 rfl _)
  have hbb : But (· = g) W1 W2 := by rw [← hW2]; exact But.set (ex := (· = g)) (But.refl _ _) g 0 rfl _
  have hl2 : cellI W2 g (l - 1) := by rw [← hW2]; exact blk_put hl1 0 _ rfl
  have hb2x : W2.heap[w.heap.size]? = some (.cells #[.int .i64 n.f0, .int .i64 n.f1, .int .i64 n.f2, .int .i64 n.f3, .bool n.f4, .string n.f5, .slice A6 n.f6.length c6, .slice A7 n.f7.length c7] 25 (0, 0)) := (hbb.block _ (Array.getElem?_eq_some_iff.1 hbx).1 (fun e => hgn e.symm)).trans hbx
  have hb2 : Below w0.heap.size w0 W2 := hb.trans (hbt.below hb.size fun k hk e => by omega)
  have x0 : W1.cell? ⟨g, 0, none⟩ = some (.int .i64 l) := rowc hl1 0 _ rfl
  have xf : W1.frozen? ⟨g, 0, none⟩ = false := Lib.frozen_of_heap hl1 0
  have x2 : W2.cell? ⟨g, 0, none⟩ = some (.int .i64 (l - 1)) := rowc hl2 0 _ rfl
  have y7 : W2.cell? ⟨w.heap.size, 7, none⟩ = some (.slice A7 n.f7.length c7) := rowc hb2x 7 _ rfl
  have HBT := Aside0.mk hbt
  have HB0 := Aside0.mk hb
  have HSZ := Aside0.mk hb.size
  have HL2 := Aside0.mk hl2
  have HB2 := Aside0.mk hb2
  have HC := Aside0.mk hC
  have hlen : n.f7.length ≤ 9223372036854775807 := hC.2.1
  have HX := Aside0.mk hb2x
  rw [← hW1] at x0 xf hW2
  clear hb1 hbx hl1 hbt hbb hl2 hb2x hb2 hC hl hb hW1
  by_cases hneg : l - 1 < 0
  · have HF : Aside0 ((if l - 1 < 0 ∨ d < 0 then (false, l - 1) else fewK n.f7 (l - 1) (d - 1)) = (false, l - 1)) := ⟨if_pos (.inl hneg)⟩
    have hnb : decide (l - 1 < 0) = true := decide_eq_true hneg
    clear hneg
    go_enter Tryz.func27, Tryz.ntmps27
    go_wp2_with fail
    go_ret
    rw [fewN_eq, HF.out]
    exact ⟨rfl, HL2.out, HBT.out⟩
  · have hnb : decide (l - 1 < 0) = false := decide_eq_false hneg
    by_cases hdn : d < 0
    · have HF : Aside0 ((if l - 1 < 0 ∨ d < 0 then (false, l - 1) else fewK n.f7 (l - 1) (d - 1)) = (false, l - 1)) := ⟨if_pos (.inr hdn)⟩
      have hdb : decide (d < 0) = true := decide_eq_true hdn
      clear hneg hdn
      go_enter Tryz.func27, Tryz.ntmps27
      go_wp2_with fail
      go_ret
      rw [fewN_eq, HF.out]
      exact ⟨rfl, HL2.out, HBT.out⟩
    · have HF : Aside0 (fewN n l d = fewK n.f7 (l - 1) (d - 1)) := ⟨by rw [fewN_eq]; exact if_neg (by omega)⟩
      have hdb : decide (d < 0) = false := decide_eq_false hdn
      have HIH := Aside0.mk ih
      have hd2 : IntKind.i64.wrap (d - 1) = d - 1 := by rw [IntKind.wrap_i64]; omega
      have HR : Aside0 (0 ≤ l - 1 ∧ l ≤ 2147483648 ∧ 0 ≤ d ∧ d ≤ 2147483648) := ⟨by omega⟩
      have HG := Aside0.mk hg
      have HBS : Aside0 (w.heap.size < W2.heap.size) := ⟨(Array.getElem?_eq_some_iff.1 HX.out).1⟩
      clear hneg hdn ih
      go_enter Tryz.func27, Tryz.ntmps27
      go_wp2_with fail
      clear x0 xf hW2 x2 y7
      have HD := Aside0.mk (show Below w0.heap.size w0 W2 from HB2.out)
      go_loopg [25] n.f7.length (fun gk v25 w' => ∃ (j : Nat) (lj : Int), v25 = .int .i64 (j : Int) ∧ Aside0 (j ≤ n.f7.length ∧ gk = n.f7.length - j ∧ 0 ≤ lj ∧ lj ≤ 2147483648) ∧ Aside0 (fewK (n.f7.drop j) lj (d - 1) = fewN n l d) ∧ Aside0 (cellI w' g lj) ∧ Aside0 (But (· = g) w w' ∧ w.heap.size < w'.heap.size) )
      case atStart => exact ⟨0, l - 1, by first | rfl | simp, ⟨Nat.zero_le _, rfl, HR.out.1, by have := HR.out; omega⟩, ⟨by rw [List.drop_zero]; exact HF.out.symm⟩, HL2, ⟨HBT.out, HBS.out⟩⟩
      case round =>
        obtain ⟨j, lj, rfl, HA, HK, HL, HT⟩ := hrel
        have hbw : Below w0.heap.size w0 wr := HB0.out.trans (HT.out.1.below HSZ.out fun k hk e => by have := HG.out; omega)
        by_cases hj : j < n.f7.length
        · obtain ⟨ad, A6', c6', A7', c7', e7, x0, x1, x2, x3, x4, x5, x6, x7, l6, g6, l7, g7⟩ := at_T25 HC.out (j : Int) (by omega) (by omega)
          subst e7
          rw [rdN n.f7 j hj, Int.toNat_natCast] at x0 x1 x2 x3 x4 x5 x6 x7
          rw [rdN n.f7 j hj] at l7 g7
          have up : ∀ {p : Addr} {v : Value}, w0.cell? p = some v → wr.cell? p = some v := fun h => (hbw.cell (World.block_lt_of_cell? w0 _ h)).trans h
          replace x0 := up x0
          replace x1 := up x1
          replace x2 := up x2
          replace x3 := up x3
          replace x4 := up x4
          replace x5 := up x5
          replace x6 := up x6
          replace x7 := up x7
          have HM := HIH.out n.f7[j] (List.getElem_mem hj)
          have hkc := HK.out
          rw [List.drop_eq_getElem_cons hj, fewK_cons] at hkc
          have hfo := few_ok.1 n.f7[j] lj (d - 1) HA.out.2.2.1
          obtain ⟨m, hm⟩ : ∃ m, n.f7[j] = m := ⟨_, rfl⟩
          rw [hm] at x0 x1 x2 x3 x4 x5 x6 x7 l7 g7 HM hkc hfo
          have hba := fun o => below_alloc (Below.refl wr.heap.size wr) o
          have hgr : g < wr.heap.size := by have h : wr.heap[g]? = some _ := HL.out; exact (Array.getElem?_eq_some_iff.1 h).1
          have HCALL := Aside0.mk (fun o => HM w0 (wr.alloc o) g lj (d - 1) A6' c6' A7' c7' g7 l7 (hbw.trans ((hba o).mono hbw.size)) HG.out (((hba o).block g hgr).trans HL.out) HA.out.2.2.1 HA.out.2.2.2 (by have := HR.out; omega) (by have := HR.out; omega))
          have HKC := Aside0.mk hkc
          have HFO := Aside0.mk hfo
          have HJ := Aside0.mk hj
          have hjd : decide (j < n.f7.length) = true := decide_eq_true hj
          have HBA : Aside0 (∀ o, But (· = g) w (wr.alloc o)) := ⟨fun o => HT.out.1.trans (But.of_below (hba o))⟩
          have HZA : Aside0 (∀ o, w.heap.size < (wr.alloc o).heap.size) := ⟨fun o => Nat.lt_of_lt_of_le HT.out.2 (hba o).size⟩
          clear up hm HM hkc l6 g6 l7 g7 hba hbw hfo
          go_wp2_with fail
          refine (HCALL.out _).mono ?_
          rintro e w3 ⟨rfl, hl3, hb3⟩
          have HL3 := Aside0.mk hl3
          have HB3 := Aside0.mk ((HBA.out _).trans hb3)
          have HZ3 := Aside0.mk (Nat.lt_of_lt_of_le (HZA.out _) hb3.size)
          clear hl3 hb3 x0 x1 x2 x3 x4 x5 x6 x7
          cases hf : (fewN m lj (d - 1)).1 with
          | true =>
            have HKK : Aside0 (fewK (n.f7.drop (j + 1)) (fewN m lj (d - 1)).2 (d - 1) = fewN n l d) := ⟨by have := HKC.out; rw [if_pos hf] at this; exact this⟩
            have HF2 := Aside0.mk (HFO.out.2 hf)
            have HF1 := Aside0.mk HFO.out.1
            go_wp2_with fail
            go_roundg (n.f7.length - j - 1)
            case measure => have := HA.out; have := HJ.out; omega
            case rel => exact ⟨j + 1, (fewN m lj (d - 1)).2, by first | rfl | go_num, ⟨by have := HJ.out; omega, by omega, HF2.out.1, by have := HF1.out.2; have := HA.out; omega⟩, HKK, HL3, ⟨HB3.out, HZ3.out⟩⟩
          | false =>
            have HKK : Aside0 (fewN n l d = (false, (fewN m lj (d - 1)).2)) := ⟨by have := HKC.out; rw [if_neg (by rw [hf]; decide)] at this; exact this.symm⟩
            go_wp2_with fail
            go_ret
            rw [HKK.out]
            exact ⟨rfl, HL3.out, HB3.out⟩
        · have hjb : decide (j < n.f7.length) = false := decide_eq_false hj
          have hj2 : n.f7.length ≤ j := by omega
          have HKK : Aside0 (fewN n l d = (true, lj)) := ⟨by rw [← HK.out, List.drop_eq_nil_of_le hj2, fewK_nil]⟩
          clear hj hbw
          go_wp2_with fail
          go_ret
          rw [HKK.out]
          exact ⟨rfl, HL.out, HT.out.1⟩
set_option maxHeartbeats 4000000 in
set_option maxRecDepth 100000 in
theorem deep_any (n : Nd) (w : World) (A6 : Option Addr) (c6 : Nat) (A7 : Option Addr) (c7 : Nat) (hC : Kd.C kN w A7 n.f7.length n.f7) (hc7 : n.f7.length ≤ c7) (m d : Int) (h0 : 0 ≤ m) (h1 : m ≤ 2147483648) (hd0 : -1 ≤ d) (hd1 : d ≤ 2147483648) :
    Calls Tryz.prog 12 #[.agg #[.int .i64 n.f0, .int .i64 n.f1, .int .i64 n.f2, .int .i64 n.f3, .bool n.f4, .string n.f5, .slice A6 n.f6.length c6, .slice A7 n.f7.length c7], .int .i64 m, .int .i64 d] w fun e w' => e = .returned (.bool (!(fewN n m d).1)) ∧ Below w.heap.size w w' := by
  obtain ⟨W0, hW0⟩ : ∃ W0, w.alloc (.cells #[.int .i64 n.f0, .int .i64 n.f1, .int .i64 n.f2, .int .i64 n.f3, .bool n.f4, .string n.f5, .slice A6 n.f6.length c6, .slice A7 n.f7.length c7] 25) = W0 := ⟨_, rfl⟩
  have hb0 : Below w.heap.size w W0 := by rw [← hW0]; exact below_alloc (Below.refl _ _) _
  have hz0 : W0.heap.size = w.heap.size + 1 := by rw [← hW0]; simp
  obtain ⟨W1, hW1⟩ : ∃ W1, W0.alloc (.cells #[.int .i64 m] 3) = W1 := ⟨_, rfl⟩
  have hb1 : Below w.heap.size w W1 := below_to hb0 (by rw [← hW1]; exact below_alloc (Below.refl _ _) _)
  have hl1 : cellI W1 (w.heap.size + 1) m := by rw [← hW1, ← hz0]; exact heap_alloc_new W0 _
  have HF := Aside0.mk (few_any n w W1 (w.heap.size + 1) m d A6 c6 A7 c7 hC hc7 hb1 (by omega) hl1 h0 h1 hd0 hd1)
  rw [← hW0] at hW1
  have HB1 := Aside0.mk hb1
  have HW := Aside0.mk hW1
  clear hb1 hl1 hC hW1 hb0 hW0 hz0
  go_enter Tryz.func12, Tryz.ntmps12
  go_wp2_with fail
  rw [HW.out]
  refine HF.out.mono ?_
  rintro e w2 ⟨rfl, hl2, hb2⟩
  have HB2 : Aside0 (Below w.heap.size w w2) := ⟨HB1.out.trans (hb2.below HB1.out.size fun k hk e => by omega)⟩
  clear hl2 hb2
  go_wp2_with fail
  go_ret
  exact ⟨rfl, HB2.out⟩
/-- A node as a value: its slices lie at these addresses. -/
abbrev ndV (n : Nd) (A6 : Option Addr) (c6 : Nat) (A7 : Option Addr) (c7 : Nat) : Value := .agg #[.int .i64 n.f0, .int .i64 n.f1, .int .i64 n.f2, .int .i64 n.f3, .bool n.f4, .string n.f5, .slice A6 n.f6.length c6, .slice A7 n.f7.length c7]
/-- It reads as n. -/
def RdN (w : World) (n : Nd) (v : Value) : Prop := ∃ A6 c6 A7 c7, v = ndV n A6 c6 A7 c7 ∧ n.f6.length ≤ c6 ∧ Kd.C k63 w A6 n.f6.length n.f6 ∧ n.f7.length ≤ c7 ∧ Kd.C kN w A7 n.f7.length n.f7
theorem RdN.below {w w' : World} {n : Nd} {v : Value} (h : RdN w n v) (hb : Below w.heap.size w w') : RdN w' n v := by
  obtain ⟨A6, c6, A7, c7, e, h1, h2, h3, h4⟩ := h
  exact ⟨A6, c6, A7, c7, e, h1, Kd.C_below h2 hb, h3, Kd.C_below h4 hb⟩
theorem deepN_any (n : Nd) (w : World) (v : Value) (h : RdN w n v) (m d : Int) (h0 : 0 ≤ m) (h1 : m ≤ 2147483648) (hd0 : -1 ≤ d) (hd1 : d ≤ 2147483648) : Calls Tryz.prog 12 #[v, .int .i64 m, .int .i64 d] w fun e w' => e = .returned (.bool (!(fewN n m d).1)) ∧ Below w.heap.size w w' := by
  obtain ⟨A6, c6, A7, c7, rfl, _, _, h3, h4⟩ := h
  exact deep_any n w A6 c6 A7 c7 h4 h3 m d h0 h1 hd0 hd1

end Go.Proofs.YtkipjalfgdfaiaaGreatDoor
namespace Go.Proofs.YtkipjalfgdfaiaaGreatDoor
set_option linter.unusedVariables false
set_option linter.unusedSimpArgs false
open Go.RowKit Go.Proofs.YtkipjalfgdfaiaaGreatDoorW.PrintWords

/-- The marks outside of classes, and within. -/
def marksL (cls : Bool) : List Int := if cls then [91, 93, 94, 45, 38, 126, 92] else [46, 91, 40, 124, 41, 42, 43, 63, 123, 94, 36, 92]
def hexG (d : Int) : Int := if d < 10 then 48 + d else 55 + d
def hexT (r : Int) : List Int := if r < 16 then [hexG r] else [hexG (r / 16), hexG (r % 16)]
/-- A code point as a pattern says it. -/
def printL (r : Int) (cls : Bool) : List Int :=
  if runeB r = false then []
  else if r < 32 ∨ r = 127 then [92, 120, 123] ++ hexT r ++ [125]
  else if (marksL cls).contains r then 92 :: encL r
  else encL r
theorem has_cons {p l : List Int} {k : Nat} {c : Int} (h : p.drop k = c :: l) (a : Int) (T : List Int) : hasL p k (a :: T) = ((a == c) && T.isPrefixOf l) := by
  unfold hasL
  rw [h]
  rfl
theorem peek_cons {p l : List Int} {k : Nat} {c : Int} (h : p.drop k = c :: l) : peekL p k = .ok c ∧ p.drop (k + 1) = l ∧ k < p.length := by
  have hk : k < p.length := by
    have := congrArg List.length h
    rw [List.length_drop] at this
    simp only [List.length_cons] at this
    omega
  have h2 : p[k]? = some c := by
    have : (p.drop k)[0]? = some c := by rw [h]; rfl
    rw [List.getElem?_drop] at this
    simpa using this
  refine ⟨by unfold peekL; rw [h2], ?_, hk⟩
  have : (p.drop k).drop 1 = l := by rw [h]; rfl
  rw [List.drop_drop] at this
  exact this
theorem char_of {p : List Int} {k : Nat} {r : Int} {n : Nat} (h : readL (p.drop k) = (r, n, true)) : charL p k = .ok (r, k + n) := by
  unfold charL
  rw [h]
theorem within_none {p l : List Int} {k ne : Nat} {c : Int} (h : p.drop k = c :: l) (t : Tk) (h1 : c ≠ 91) (h2 : ne = 0 ∨ (c ≠ 93 ∧ c ≠ 38 ∧ c ≠ 45 ∧ c ≠ 126)) : withinL p ne k t = none := by
  have e : ∀ (a : Int) (T : List Int), a ≠ c → hasL p k (a :: T) = false := fun a T hne => by
    rw [has_cons h]
    have : (a == c) = false := by rw [beq_eq_false_iff_ne]; exact hne
    rw [this]
    rfl
  unfold withinL
  rw [if_neg (by rw [e 91 _ (Ne.symm h1)]; decide)]
  rcases h2 with h2 | ⟨a, b, d, f⟩
  · rw [if_pos h2]
  · by_cases h0 : ne = 0
    · rw [if_pos h0]
    · rw [if_neg h0, if_neg (by rw [e 93 _ (Ne.symm a)]; decide), if_neg (by rw [e 38 _ (Ne.symm b)]; decide), if_neg (by rw [e 45 _ (Ne.symm d)]; decide), if_neg (by rw [e 126 _ (Ne.symm f)]; decide), if_neg (by rw [e 45 _ (Ne.symm d)]; decide)]
theorem mark_plain {cls : Bool} {r : Int} (h : (marksL cls).contains r = true) : letB r = false ∧ digB r = false ∧ r < 128 ∧ 0 ≤ r := by
  rw [List.contains_iff_mem] at h
  unfold marksL at h
  split at h
  · simp only [List.mem_cons, List.not_mem_nil, or_false] at h
    rcases h with h | h | h | h | h | h | h <;> subst h <;> decide
  · simp only [List.mem_cons, List.not_mem_nil, or_false] at h
    rcases h with h | h | h | h | h | h | h | h | h | h | h | h <;> subst h <;> decide
theorem mark_none {cls : Bool} {r : Int} (h : (marksL cls).contains r = false) : ∀ c ∈ marksL cls, r ≠ c := by
  intro c hc he
  rw [← he] at hc
  rw [← List.contains_iff_mem] at hc
  rw [h] at hc
  exact absurd hc (by decide)
theorem hexG_rng {d : Int} (h0 : 0 ≤ d) (h1 : d < 16) : hexB (hexG d) = true ∧ hexV (hexG d) = d := by
  obtain ⟨n, rfl⟩ : ∃ n : Nat, d = (n : Int) := ⟨d.toNat, by omega⟩
  have hn : n < 16 := by omega
  clear h0 h1
  revert n
  decide
theorem hexT_ok {r : Int} (h0 : 0 ≤ r) (h1 : r < 128) : (∀ c ∈ hexT r, hexB c = true) ∧ hexN (hexT r) = r ∧ hexT r ≠ [] ∧ (hexT r).length ≤ 2 := by
  unfold hexT
  by_cases h : r < 16
  · rw [if_pos h]
    have := hexG_rng h0 h
    refine ⟨fun c hc => ?_, ?_, by simp, by simp⟩
    · simp only [List.mem_cons, List.not_mem_nil, or_false] at hc
      rw [hc]
      exact this.1
    · simp only [hexN, List.foldl_cons, List.foldl_nil]
      rw [this.2]
      omega
  · rw [if_neg h]
    have a := hexG_rng (d := r / 16) (by omega) (by omega)
    have b := hexG_rng (d := r % 16) (by omega) (by omega)
    refine ⟨fun c hc => ?_, ?_, by simp, by simp⟩
    · simp only [List.mem_cons, List.not_mem_nil, or_false] at hc
      rcases hc with hc | hc
      · rw [hc]; exact a.1
      · rw [hc]; exact b.1
    · simp only [hexN, List.foldl_cons, List.foldl_nil]
      rw [a.2, b.2]
      omega
theorem run_all (of_ : Int → Bool) (c : Int) (post : List Int) (hc : of_ c = false) : ∀ (l : List Int) (m : Nat), (∀ x ∈ l, of_ x = true) → l.length < m → runN of_ m (l ++ c :: post) = l.length
  | [], 0, _, h => by simp at h
  | [], m + 1, _, _ => by
    simp only [List.nil_append, runN, List.length_nil]
    rw [if_neg (by rw [hc]; decide)]
  | x :: l, 0, _, h => by omega
  | x :: l, m + 1, hl, h => by
    simp only [List.cons_append, runN, List.length_cons]
    rw [if_pos (hl x List.mem_cons_self), run_all of_ c post hc l m (fun y hy => hl y (List.mem_cons_of_mem _ hy)) (by simp only [List.length_cons] at h; omega)]
/-- What is said for a code point is read as one token, of it. -/
theorem other_print (res : ByteArray → Int × ByteArray × Int) {p post : List Int} {r : Int} {cls : Bool} {k ne : Nat} (t : Tk) (hr : runeB r = true) (h : p.drop k = printL r cls ++ post) (hc : ne = 0 ∧ cls = false ∨ ne ≠ 0 ∧ cls = true) :
    withinL p ne k t = none ∧ otherL res p ne k t = .ok ({ t with kind := 1, a := r }, k + (printL r cls).length) := by
  have hrr := (runeB_iff r).1 hr
  unfold printL at h ⊢
  rw [if_neg (by rw [hr]; decide)] at h ⊢
  by_cases h1 : r < 32 ∨ r = 127
  · rw [if_pos h1] at h ⊢
    have hx := hexT_ok (r := r) hrr.1 (by omega)
    obtain ⟨d, hd⟩ : ∃ d, hexT r = d := ⟨_, rfl⟩
    rw [hd] at hx h ⊢
    simp only [List.cons_append, List.nil_append, List.append_assoc] at h
    have a0 := peek_cons h
    have a1 := peek_cons a0.2.1
    have a2 := peek_cons a1.2.1
    refine ⟨within_none h t (by decide) (.inr (by decide)), ?_⟩
    unfold otherL
    rw [char_of (r := 92) (n := 1) (by rw [h]; rfl), thenF_ok]
    simp only
    unfold othL
    rw [if_pos rfl]
    unfold escapeL
    rw [a1.1, thenF_ok, char_of (r := 120) (n := 1) (by rw [a0.2.1]; rfl), thenF_ok]
    simp only
    unfold escL
    rw [if_neg (by decide), if_neg (by decide), if_neg (by decide), if_pos rfl]
    unfold pointL
    rw [need_of (by exact a2.1), thenF_ok]
    have hd3 : p.drop (k + 1 + 1 + 1) = d ++ 125 :: post := a2.2.1
    have hrun : runN hexB 6 (p.drop (k + 1 + 1 + 1)) = d.length := by
      rw [hd3]
      exact run_all hexB 125 post (by decide) d 6 hx.1 (by omega)
    rw [hrun, hd3]
    have ht : (d ++ 125 :: post).take d.length = d := by simp
    rw [ht]
    have hd4 : p.drop (k + 1 + 1 + 1 + d.length) = 125 :: post := by
      rw [← List.drop_drop, hd3]
      simp
    have a4 := peek_cons hd4
    unfold pointE
    rw [a4.1, thenF_ok, if_neg (by rw [hx.2.1, hr]; intro hh; rcases hh with hh | hh; exact hx.2.2.1 hh; exact absurd hh (by decide)), need_of a4.1, thenF_ok, hx.2.1]
    congr 2
    simp only [List.length_append, List.length_cons, List.length_nil]
    omega
  · rw [if_neg h1] at h ⊢
    cases hm : (marksL cls).contains r with
    | true =>
      rw [hm] at h
      simp only [if_true] at h ⊢
      have hp := mark_plain hm
      rw [encL_ascii hp.2.2.1] at h ⊢
      simp only [List.cons_append, List.nil_append] at h
      have a0 := peek_cons h
      have a1 := peek_cons a0.2.1
      refine ⟨within_none h t (by decide) (.inr (by decide)), ?_⟩
      unfold otherL
      rw [char_of (r := 92) (n := 1) (by rw [h]; rfl), thenF_ok]
      simp only
      unfold othL
      rw [if_pos rfl]
      unfold escapeL
      have hrd : readL (p.drop (k + 1)) = (r, 1, true) := by
        rw [a0.2.1]
        simp only [readL]
        rw [if_pos hp.2.2.1]
      rw [a1.1, thenF_ok, char_of hrd, thenF_ok]
      simp only
      unfold escL
      rw [if_pos (.inr ⟨hp.1, hp.2.1⟩)]
      rfl
    | false =>
      rw [hm] at h
      simp only [Bool.false_eq_true, if_false] at h ⊢
      have hn := mark_none hm
      have hrd := readL_enc r hr post
      rw [← h] at hrd
      obtain ⟨c, l, hcl⟩ : ∃ c l, encL r = c :: l := by
        cases he : encL r with
        | nil => have := encL_pos r; rw [he] at this; simp at this
        | cons c l => exact ⟨c, l, rfl⟩
      have hcm : ∀ x ∈ marksL cls, c ≠ x := fun x hx => by
        by_cases ha : r < 128
        · rw [encL_ascii ha] at hcl
          have : r = c := (List.cons.inj hcl).1
          rw [← this]
          exact hn x hx
        · have hh := encL_high hr (by omega) c (by rw [hcl]; exact List.mem_cons_self)
          have := mark_plain (cls := cls) (r := x) (by rw [List.contains_iff_mem]; exact hx)
          omega
      have hne : r ≠ 92 := hn 92 (by unfold marksL; split <;> decide)
      refine ⟨within_none (c := c) (l := l ++ post) (by rw [h, hcl]; rfl) t (hcm 91 (by unfold marksL; split <;> decide)) ?_, ?_⟩
      · rcases hc with ⟨hc, _⟩ | ⟨_, hc⟩
        · exact .inl hc
        · subst hc
          exact .inr ⟨hcm 93 (by decide), hcm 38 (by decide), hcm 45 (by decide), hcm 126 (by decide)⟩
      · unfold otherL
        rw [char_of hrd, thenF_ok]
        simp only
        unfold othL
        rw [if_neg hne]
        rcases hc with ⟨hc, hc2⟩ | ⟨hc, _⟩
        · subst hc2
          rw [if_neg (by omega), if_neg (hn 46 (by decide)), if_neg (hn 124 (by decide)), if_neg (hn 40 (by decide)), if_neg (hn 41 (by decide)), if_neg (hn 94 (by decide)), if_neg (hn 36 (by decide)), if_neg]
          rintro (e | e | e | e)
          · exact hn 42 (by decide) e
          · exact hn 43 (by decide) e
          · exact hn 63 (by decide) e
          · exact hn 123 (by decide) e
        · rw [if_pos hc]
theorem next_print (res : ByteArray → Int × ByteArray × Int) {p post : List Int} {r : Int} {cls : Bool} {k ne : Nat} (hr : runeB r = true) (h : p.drop k = printL r cls ++ post) (hc : ne = 0 ∧ cls = false ∨ ne ≠ 0 ∧ cls = true) :
    nextL res p ne k = .ok ({ kind := 1, a := r, st := k, en := k + (printL r cls).length }, k + (printL r cls).length, ne) := by
  have h2 := other_print res { kind := 0, st := k } hr h hc
  unfold nextL
  rw [h2.1]
  simp only
  rw [h2.2, thenF_ok]
theorem printL_none {r : Int} {cls : Bool} (h : runeB r = false) : printL r cls = [] := if_pos h
theorem printL_pos {r : Int} {cls : Bool} (h : runeB r = true) : 1 ≤ (printL r cls).length ∧ (printL r cls).length ≤ 6 := by
  have hrr := (runeB_iff r).1 h
  have he := encL_pos r
  unfold printL
  rw [if_neg (by rw [h]; decide)]
  split
  · have hx := hexT_ok (r := r) hrr.1 (by omega)
    simp only [List.length_append, List.length_cons, List.length_nil]
    omega
  · split
    · simp only [List.length_cons]; omega
    · omega
theorem printL_rng {r : Int} {cls : Bool} : ∀ x ∈ printL r cls, 0 ≤ x ∧ x ≤ 255 := by
  cases hr : runeB r with
  | false => rw [printL_none hr]; simp
  | true =>
    have hrr := (runeB_iff r).1 hr
    have he := encL_rng hr
    unfold printL
    rw [if_neg (by rw [hr]; decide)]
    intro x hx
    split at hx
    · have hd := hexT_ok (r := r) hrr.1 (by omega)
      simp only [List.mem_append, List.mem_cons, List.not_mem_nil, or_false] at hx
      rcases hx with ((hx | hx | hx) | hx) | hx
      · omega
      · omega
      · omega
      · have := hd.1 x hx
        unfold hexB digB at this
        simp only [Bool.or_eq_true, Bool.and_eq_true, decide_eq_true_eq] at this
        omega
      · omega
    · split at hx
      · rw [List.mem_cons] at hx
        rcases hx with hx | hx
        · omega
        · exact he x hx
      · exact he x hx
end Go.Proofs.YtkipjalfgdfaiaaGreatDoor
namespace Go.Proofs.YtkipjalfgdfaiaaGreatDoor
set_option linter.unusedVariables false
set_option linter.unusedSimpArgs false
open Go.RowKit Go.Proofs.YtkipjalfgdfaiaaGreatDoorW.PrintWords Go.Proofs.YtkipjalfgdfaiaaGreatDoor.PTk

abbrev e0 : ByteArray := ⟨#[]⟩
/-- A node's fields are those, but for its kind. -/
def onlyB (n : Nd) (mode a b : Int) (neg : Bool) (name : ByteArray) (kids : Nat) : Bool :=
  n.f1 == mode && n.f2 == a && n.f3 == b && n.f4 == neg && decide (n.f5 = name) && n.f6.length == 0 && n.f7.length == kids
/-- How many groups have begun, and their names. -/
abbrev Gs := Nat × List ByteArray
def wordB (c : Int) : Bool := letB c || c == 95
def nameB : List Int → Bool
  | [] => false
  | c :: l => wordB c && l.all (fun d => wordB d || digB d) && decide (l.length < 20)
def groupS (a : Int) (name : ByteArray) (c : Gs) : Option Gs :=
  if a = 0 then (if name = e0 then some c else none)
  else if a = (c.1 : Int) + 1 ∧ a ≤ 20 then (if name = e0 then some (c.1 + 1, c.2) else if nameB (bytesOf name) = true ∧ c.2.all (fun x => decide (x ≠ name)) = true then some (c.1 + 1, name :: c.2) else none)
  else none
section
variable (res : ByteArray → Int × ByteArray × Int)
def propN (n : Nd) : Bool := onlyB n 0 0 0 n.f4 n.f5 0 && (decide (n.f5 = ⟨#[100]⟩) || decide (n.f5 = ⟨#[119]⟩) || decide (n.f5 = ⟨#[115]⟩) || ((canonL res n.f5).2 == 0 && decide ((canonL res n.f5).1 = n.f5)))
mutual
def classN : Nd → Nat → Bool
  | ⟨k, m, a, b, ng, nm, st, ks⟩, deep => k == 3 && decide (deep ≤ 50) && onlyB ⟨k, m, a, b, ng, nm, st, ks⟩ m 0 0 ng e0 ks.length && (if m = 0 then (!ks.isEmpty && membK ks deep) else (decide (1 ≤ m) && decide (m ≤ 3) && sidesK ks deep))
def membK : List Nd → Nat → Bool
  | [], _ => true
  | n :: ns, deep => (if n.f0 = 1 then onlyB n 0 n.f2 0 false e0 0 && runeB n.f2
      else if n.f0 = 4 then onlyB n 0 n.f2 n.f3 false e0 0 && runeB n.f2 && runeB n.f3 && decide (n.f2 ≤ n.f3)
      else if n.f0 = 5 then propN res n
      else classN n (deep + 1)) && membK ns deep
def sidesK : List Nd → Nat → Bool
  | [a, b], deep => !a.f4 && !b.f4 && b.f1 == 0 && classN a deep && classN b deep
  | _, _ => false
end
mutual
def partN : Nd → Nat → Gs → Option Gs
  | ⟨k, m, a, b, ng, nm, st, ks⟩, deep, c =>
    if k = 1 then (if (onlyB ⟨k, m, a, b, ng, nm, st, ks⟩ 0 a 0 false e0 0 && runeB a) = true then some c else none)
    else if k = 2 ∨ k = 14 then (if onlyB ⟨k, m, a, b, ng, nm, st, ks⟩ 0 0 0 false e0 0 = true then some c else none)
    else if k = 3 then (if classN res ⟨k, m, a, b, ng, nm, st, ks⟩ (deep + 1) = true then some c else none)
    else if k = 5 then (if propN res ⟨k, m, a, b, ng, nm, st, ks⟩ = true then some c else none)
    else if k = 12 then (if (onlyB ⟨k, m, a, b, ng, nm, st, ks⟩ m 0 0 false e0 0 && decide (1 ≤ m) && decide (m ≤ 10)) = true then some c else none)
    else if k = 13 then (if (onlyB ⟨k, m, a, b, ng, nm, st, ks⟩ 0 a 0 false e0 0 && decide (0 < a) && decide (a ≤ (c.1 : Int))) = true then some c else none)
    else if k = 8 then (if (onlyB ⟨k, m, a, b, ng, nm, st, ks⟩ m a b false e0 ks.length && decide (0 ≤ m) && decide (m ≤ 2) && decide (0 ≤ a) && decide (a ≤ 100) && (b == -1 || (decide (a ≤ b) && decide (b ≤ 100)))) = true then repK ks deep c else none)
    else if k = 9 then (if onlyB ⟨k, m, a, b, ng, nm, st, ks⟩ 0 a 0 false nm ks.length = true then ((groupS a nm c).bind fun c' => withK ks deep c') else none)
    else if k = 10 then (if (onlyB ⟨k, m, a, b, ng, nm, st, ks⟩ m 0 0 false e0 ks.length && decide (0 ≤ m) && decide (m ≤ 3)) = true then withK ks deep c else none)
    else if k = 11 then (if onlyB ⟨k, m, a, b, ng, nm, st, ks⟩ 0 0 0 false e0 ks.length = true then withK ks deep c else none)
    else none
def repK : List Nd → Nat → Gs → Option Gs
  | [m], deep, c => if m.f0 = 8 ∨ m.f0 = 10 ∨ m.f0 = 12 then none else partN m deep c
  | _, _, _ => none
def withK : List Nd → Nat → Gs → Option Gs
  | [m], deep, c => if deep < 50 then bodyN m (deep + 1) c else none
  | _, _, _ => none
def bodyN : Nd → Nat → Gs → Option Gs
  | ⟨k, m, a, b, ng, nm, st, ks⟩, deep, c =>
    if onlyB ⟨k, m, a, b, ng, nm, st, ks⟩ 0 0 0 false e0 ks.length = true then (if k = 7 then (if 1 < ks.length then seqK ks deep c else none) else if k = 6 then partK ks deep c else none) else none
def seqK : List Nd → Nat → Gs → Option Gs
  | [], _, c => some c
  | s :: ss, deep, c => (seqN s deep c).bind fun c' => seqK ss deep c'
def seqN : Nd → Nat → Gs → Option Gs
  | ⟨k, m, a, b, ng, nm, st, ks⟩, deep, c => if k = 6 ∧ onlyB ⟨k, m, a, b, ng, nm, st, ks⟩ 0 0 0 false e0 ks.length = true then partK ks deep c else none
def partK : List Nd → Nat → Gs → Option Gs
  | [], _, c => some c
  | n :: ns, deep, c => (partN n deep c).bind fun c' => partK ns deep c'
end
end
def ofT (m : Int) (l : List (List Int)) : List Int := l.getD m.toNat []
def propW (n : Nd) : List Int :=
  if n.f5.size = 1 ∧ n.f4 = true then [92, (bytesOf n.f5).headD 0 - 32]
  else if n.f5.size = 1 then 92 :: bytesOf n.f5
  else if n.f4 = true then [92, 80, 123] ++ bytesOf n.f5 ++ [125]
  else [92, 112, 123] ++ bytesOf n.f5 ++ [125]
/-- A number below 101 in digits. -/
def decL (n : Int) : List Int := if n < 10 then [48 + n] else if n < 100 then [48 + n / 10, 48 + n % 10] else [48 + n / 100, 48 + n / 10 % 10, 48 + n % 10]
def countW (a b : Int) : List Int :=
  if a = 0 ∧ b = -1 then [42] else if a = 1 ∧ b = -1 then [43] else if a = 0 ∧ b = 1 then [63]
  else 123 :: decL a ++ (if b = a then [] else 44 :: (if 0 ≤ b then decL b else [])) ++ [125]
mutual
def sideW : Nd → List Int
  | ⟨_, m, _, _, _, _, _, ks⟩ => if m = 0 then membW ks else sidesW ks m
def membW : List Nd → List Int
  | [] => []
  | n :: ns => (if n.f0 = 1 then printL n.f2 true else if n.f0 = 4 then printL n.f2 true ++ 45 :: printL n.f3 true else if n.f0 = 5 then propW n else [91] ++ (if n.f4 = true then [94] else []) ++ sideW n ++ [93]) ++ membW ns
def sidesW : List Nd → Int → List Int
  | [a, b], m => sideW a ++ ofT m [[], [38, 38], [45, 45], [126, 126]] ++ sideW b
  | _, _ => []
end
def classW (n : Nd) : List Int := [91] ++ (if n.f4 = true then [94] else []) ++ sideW n ++ [93]
mutual
def writeN : Nd → List Int
  | ⟨k, m, a, b, ng, nm, st, ks⟩ =>
    if k = 6 then writeK ks
    else if k = 7 then altW ks
    else if k = 1 then printL a false
    else if k = 2 then [46]
    else if k = 3 then classW ⟨k, m, a, b, ng, nm, st, ks⟩
    else if k = 5 then propW ⟨k, m, a, b, ng, nm, st, ks⟩
    else if k = 8 then headW ks ++ countW a b ++ ofT m [[], [63], [43]]
    else if k = 9 then (if a = 0 then [40, 63, 58] else if nm = e0 then [40] else [40, 63, 60] ++ bytesOf nm ++ [62]) ++ headW ks ++ [41]
    else if k = 10 then ofT m [[40, 63, 61], [40, 63, 33], [40, 63, 60, 61], [40, 63, 60, 33]] ++ headW ks ++ [41]
    else if k = 11 then [40, 63, 62] ++ headW ks ++ [41]
    else if k = 12 then ofT m [[], [94], [36], [92, 65], [92, 122], [92, 98], [92, 66], [92, 98, 123, 103, 125], [92, 66, 123, 103, 125], [92, 98, 123, 119, 125], [92, 66, 123, 119, 125]]
    else if k = 13 then [92, 107, 123] ++ decL a ++ [125]
    else if k = 14 then [92, 88]
    else []
def writeK : List Nd → List Int
  | [] => []
  | n :: ns => writeN n ++ writeK ns
def altW : List Nd → List Int
  | [] => []
  | n :: ns => writeN n ++ barW ns
def barW : List Nd → List Int
  | [] => []
  | n :: ns => 124 :: writeN n ++ barW ns
def headW : List Nd → List Int
  | [] => []
  | n :: _ => writeN n
end
/-- Whether a tree may be. -/
def canN (res : ByteArray → Int × ByteArray × Int) (n : Nd) : Bool := (bodyN res n 0 (0, [])).isSome && decide ((writeN n).length ≤ 2000)

end Go.Proofs.YtkipjalfgdfaiaaGreatDoor
namespace Go.Proofs.YtkipjalfgdfaiaaGreatDoor
set_option linter.unusedVariables false
set_option linter.unusedSimpArgs false
open Go.RowKit Go.Proofs.YtkipjalfgdfaiaaGreatDoorW.PrintWords Go.Proofs.YtkipjalfgdfaiaaGreatDoor.PTk

section
variable (res : ByteArray → Int × ByteArray × Int)
theorem classN_eq (n : Nd) (deep : Nat) : classN res n deep = (n.f0 == 3 && decide (deep ≤ 50) && onlyB n n.f1 0 0 n.f4 e0 n.f7.length && (if n.f1 = 0 then (!n.f7.isEmpty && membK res n.f7 deep) else (decide (1 ≤ n.f1) && decide (n.f1 ≤ 3) && sidesK res n.f7 deep))) := by cases n; rw [classN]
theorem membK_nil (deep : Nat) : membK res [] deep = true := by rw [membK]
theorem membK_cons (n : Nd) (ns : List Nd) (deep : Nat) : membK res (n :: ns) deep = ((if n.f0 = 1 then onlyB n 0 n.f2 0 false e0 0 && runeB n.f2
      else if n.f0 = 4 then onlyB n 0 n.f2 n.f3 false e0 0 && runeB n.f2 && runeB n.f3 && decide (n.f2 ≤ n.f3)
      else if n.f0 = 5 then propN res n
      else classN res n (deep + 1)) && membK res ns deep) := by rw [membK]
theorem sidesK_two (a b : Nd) (deep : Nat) : sidesK res [a, b] deep = (!a.f4 && !b.f4 && b.f1 == 0 && classN res a deep && classN res b deep) := by rw [sidesK]
theorem sidesK_ok {ks : List Nd} {deep : Nat} (h : sidesK res ks deep = true) : ∃ a b, ks = [a, b] ∧ a.f4 = false ∧ b.f4 = false ∧ b.f1 = 0 ∧ classN res a deep = true ∧ classN res b deep = true := by
  match ks, h with
  | [a, b], h =>
    rw [sidesK_two] at h
    simp only [Bool.and_eq_true, Bool.not_eq_true', beq_iff_eq] at h
    exact ⟨a, b, rfl, h.1.1.1.1, h.1.1.1.2, h.1.1.2, h.1.2, h.2⟩
  | [], h => rw [sidesK] at h; cases h; intros; contradiction
  | [_], h => rw [sidesK] at h; cases h; intros; contradiction
  | _ :: _ :: _ :: _, h => rw [sidesK] at h; cases h; intros; contradiction
theorem only_kids {n : Nd} {m a b : Int} {ng : Bool} {nm : ByteArray} (h : onlyB n m a b ng nm 0 = true) : n.f7 = [] := by
  unfold onlyB at h
  simp only [Bool.and_eq_true, beq_iff_eq, decide_eq_true_eq] at h
  exact List.length_eq_zero_iff.1 h.2
theorem groups_leaf {n : Nd} (h : n.f7 = []) (hk : n.f0 ≠ 9) : groupsN n = 0 := by
  rw [groupsN_eq, h, groupsK_nil, if_neg (fun h => hk h.1)]
theorem depth_leaf {n : Nd} (h : n.f7 = []) (br : Bool) (hk : n.f0 ≠ 3 ∧ n.f0 ≠ 9 ∧ n.f0 ≠ 10 ∧ n.f0 ≠ 11) : depthN n br = 0 := by
  rw [depthN_eq, h, depthK_nil, if_neg hk.1, if_neg (by omega)]
theorem depthK_le {ns : List Nd} {b : Bool} {acc B : Nat} (ha : acc ≤ B) (h : ∀ n ∈ ns, depthN n b ≤ B) : depthK ns b acc ≤ B := by
  induction ns generalizing acc with
  | nil => rw [depthK_nil]; exact ha
  | cons n ns ih =>
    rw [depthK_cons]
    exact ih (by have := h n List.mem_cons_self; omega) (fun m hm => h m (List.mem_cons_of_mem _ hm))
theorem groupsK_zero {ns : List Nd} (h : ∀ n ∈ ns, groupsN n = 0) : groupsK ns = 0 := by
  induction ns with
  | nil => rw [groupsK_nil]
  | cons n ns ih => rw [groupsK_cons, h n List.mem_cons_self, ih (fun m hm => h m (List.mem_cons_of_mem _ hm))]
/-- A class has no groups; how deep it is. -/
theorem class_bounds : (∀ n deep, classN res n deep = true → groupsN n = 0 ∧ depthN n true + deep ≤ 51 ∧ depthN n false + deep ≤ 50) ∧
    (∀ ns : List Nd, (∀ deep, membK res ns deep = true → deep ≤ 50 → ∀ n ∈ ns, groupsN n = 0 ∧ depthN n true + deep ≤ 50) ∧ ∀ n ∈ ns, ∀ deep, classN res n deep = true → groupsN n = 0 ∧ depthN n true + deep ≤ 51 ∧ depthN n false + deep ≤ 50) := by
  refine Nd.ind (fun n ih deep h => ?_) ⟨fun deep _ _ n hn => (by cases hn), fun n hn => (by cases hn)⟩ (fun n ns hn hns => ⟨fun deep h hd m hm => ?_, fun m hm => ?_⟩)
  · rw [classN_eq] at h
    simp only [Bool.and_eq_true, beq_iff_eq, decide_eq_true_eq] at h
    obtain ⟨⟨⟨hk, hd⟩, _⟩, h⟩ := h
    have key : (∀ m ∈ n.f7, groupsN m = 0) ∧ ∀ m ∈ n.f7, depthN m (n.f1 == 0) + deep ≤ 50 := by
      by_cases hm : n.f1 = 0
      · rw [if_pos hm] at h
        simp only [Bool.and_eq_true] at h
        have := ih.1 deep h.2 hd
        rw [hm]
        exact ⟨fun m hm => (this m hm).1, fun m hm => (this m hm).2⟩
      · rw [if_neg hm] at h
        simp only [Bool.and_eq_true] at h
        obtain ⟨a, b, e, _, _, _, ha, hb⟩ := sidesK_ok res h.2
        have := ih.2
        rw [e] at this ⊢
        have ga := this a (by simp) deep ha
        have gb := this b (by simp) deep hb
        rw [show (n.f1 == 0) = false by rw [beq_eq_false_iff_ne]; exact hm]
        refine ⟨fun m hm => ?_, fun m hm => ?_⟩
        · simp only [List.mem_cons, List.not_mem_nil, or_false] at hm
          rcases hm with hm | hm <;> subst hm
          · exact ga.1
          · exact gb.1
        · simp only [List.mem_cons, List.not_mem_nil, or_false] at hm
          rcases hm with hm | hm <;> subst hm
          · exact ga.2.2
          · exact gb.2.2
    have hdk : depthK n.f7 (n.f1 == 0) 0 ≤ 50 - deep := depthK_le (Nat.zero_le _) (fun m hm => by have := key.2 m hm; omega)
    rw [groupsN_eq, groupsK_zero key.1, if_neg (by omega), depthN_eq, depthN_eq, if_pos hk, if_pos hk, if_pos rfl, if_pos hk, if_neg (by decide)]
    omega
  · rw [membK_cons] at h
    simp only [Bool.and_eq_true] at h
    rcases List.mem_cons.1 hm with e | e
    · subst e
      have h1 := h.1
      split at h1
      · rename_i hk
        simp only [Bool.and_eq_true] at h1
        have := only_kids h1.1
        rw [groups_leaf this (by omega), depth_leaf this true (by omega)]
        omega
      · split at h1
        · simp only [Bool.and_eq_true] at h1
          have := only_kids h1.1.1.1
          rw [groups_leaf this (by omega), depth_leaf this true (by omega)]
          omega
        · split at h1
          · unfold propN at h1
            simp only [Bool.and_eq_true] at h1
            have := only_kids h1.1
            rw [groups_leaf this (by omega), depth_leaf this true (by omega)]
            omega
          · have := hn (deep + 1) h1
            omega
    · exact hns.1 deep h.2 hd m e
  · rcases List.mem_cons.1 hm with e | e
    · subst e; exact hn
    · exact hns.2 m e
theorem partN_eq (n : Nd) (deep : Nat) (c : Gs) : partN res n deep c =
    if n.f0 = 1 then (if (onlyB n 0 n.f2 0 false e0 0 && runeB n.f2) = true then some c else none)
    else if n.f0 = 2 ∨ n.f0 = 14 then (if onlyB n 0 0 0 false e0 0 = true then some c else none)
    else if n.f0 = 3 then (if classN res n (deep + 1) = true then some c else none)
    else if n.f0 = 5 then (if propN res n = true then some c else none)
    else if n.f0 = 12 then (if (onlyB n n.f1 0 0 false e0 0 && decide (1 ≤ n.f1) && decide (n.f1 ≤ 10)) = true then some c else none)
    else if n.f0 = 13 then (if (onlyB n 0 n.f2 0 false e0 0 && decide (0 < n.f2) && decide (n.f2 ≤ (c.1 : Int))) = true then some c else none)
    else if n.f0 = 8 then (if (onlyB n n.f1 n.f2 n.f3 false e0 n.f7.length && decide (0 ≤ n.f1) && decide (n.f1 ≤ 2) && decide (0 ≤ n.f2) && decide (n.f2 ≤ 100) && (n.f3 == -1 || (decide (n.f2 ≤ n.f3) && decide (n.f3 ≤ 100)))) = true then repK res n.f7 deep c else none)
    else if n.f0 = 9 then (if onlyB n 0 n.f2 0 false n.f5 n.f7.length = true then ((groupS n.f2 n.f5 c).bind fun c' => withK res n.f7 deep c') else none)
    else if n.f0 = 10 then (if (onlyB n n.f1 0 0 false e0 n.f7.length && decide (0 ≤ n.f1) && decide (n.f1 ≤ 3)) = true then withK res n.f7 deep c else none)
    else if n.f0 = 11 then (if onlyB n 0 0 0 false e0 n.f7.length = true then withK res n.f7 deep c else none)
    else none := by cases n; rw [partN]
theorem bodyN_eq (n : Nd) (deep : Nat) (c : Gs) : bodyN res n deep c =
    if onlyB n 0 0 0 false e0 n.f7.length = true then (if n.f0 = 7 then (if 1 < n.f7.length then seqK res n.f7 deep c else none) else if n.f0 = 6 then partK res n.f7 deep c else none) else none := by cases n; rw [bodyN]
theorem seqN_eq (n : Nd) (deep : Nat) (c : Gs) : seqN res n deep c = if n.f0 = 6 ∧ onlyB n 0 0 0 false e0 n.f7.length = true then partK res n.f7 deep c else none := by cases n; rw [seqN]
theorem seqK_nil (deep : Nat) (c : Gs) : seqK res [] deep c = some c := by rw [seqK]
theorem seqK_cons (n : Nd) (ns : List Nd) (deep : Nat) (c : Gs) : seqK res (n :: ns) deep c = (seqN res n deep c).bind fun c' => seqK res ns deep c' := by rw [seqK]
theorem partK_nil (deep : Nat) (c : Gs) : partK res [] deep c = some c := by rw [partK]
theorem partK_cons (n : Nd) (ns : List Nd) (deep : Nat) (c : Gs) : partK res (n :: ns) deep c = (partN res n deep c).bind fun c' => partK res ns deep c' := by rw [partK]
theorem repK_ok {ks : List Nd} {deep : Nat} {c c' : Gs} (h : repK res ks deep c = some c') : ∃ m, ks = [m] ∧ m.f0 ≠ 8 ∧ m.f0 ≠ 10 ∧ m.f0 ≠ 12 ∧ partN res m deep c = some c' := by
  match ks, h with
  | [m], h =>
    rw [repK] at h
    by_cases hk : m.f0 = 8 ∨ m.f0 = 10 ∨ m.f0 = 12
    · rw [if_pos hk] at h; cases h
    · rw [if_neg hk] at h; exact ⟨m, rfl, by omega, by omega, by omega, h⟩
  | [], h => rw [repK] at h; cases h; intros; contradiction
  | _ :: _ :: _, h => rw [repK] at h; cases h; intros; contradiction
theorem withK_ok {ks : List Nd} {deep : Nat} {c c' : Gs} (h : withK res ks deep c = some c') : ∃ m, ks = [m] ∧ deep < 50 ∧ bodyN res m (deep + 1) c = some c' := by
  match ks, h with
  | [m], h =>
    rw [withK] at h
    by_cases hk : deep < 50
    · rw [if_pos hk] at h; exact ⟨m, rfl, hk, h⟩
    · rw [if_neg hk] at h; cases h
  | [], h => rw [withK] at h; cases h; intros; contradiction
  | _ :: _ :: _, h => rw [withK] at h; cases h; intros; contradiction
theorem groupS_ok {a : Int} {nm : ByteArray} {c c' : Gs} (h : groupS a nm c = some c') (hc : c.1 ≤ 20) : c'.1 = c.1 + (if 0 < a then 1 else 0) ∧ c'.1 ≤ 20 := by
  unfold groupS at h
  split at h
  · split at h
    · cases h; rw [if_neg (by omega)]; exact ⟨rfl, hc⟩
    · cases h
  · split at h
    · rename_i ha
      have hp : 0 < a := by omega
      rw [if_pos hp]
      split at h
      · cases h; exact ⟨rfl, by show c.1 + 1 ≤ 20; omega⟩
      · split at h
        · cases h; exact ⟨rfl, by show c.1 + 1 ≤ 20; omega⟩
        · cases h
    · cases h
/-- What holds of a part: how many groups, how deep. -/
def Bnd (deep : Nat) (c c' : Gs) (g d : Nat) : Prop := c'.1 = c.1 + g ∧ c'.1 ≤ 20 ∧ d + deep ≤ 50
theorem depth_one {n m : Nd} (h : n.f7 = [m]) (br : Bool) (hk : n.f0 ≠ 3) : depthN n br = depthN m true + (if n.f0 = 9 ∨ n.f0 = 10 ∨ n.f0 = 11 then 1 else 0) := by
  rw [depthN_eq, h, depthK_cons, depthK_nil, if_neg hk, if_neg hk]
  omega
theorem groups_one {n m : Nd} (h : n.f7 = [m]) : groupsN n = groupsN m + (if n.f0 = 9 ∧ 0 < n.f2 then 1 else 0) := by
  rw [groupsN_eq, h, groupsK_cons, groupsK_nil]
  omega
theorem parts_bounds : (∀ n : Nd, (∀ deep c c', partN res n deep c = some c' → deep ≤ 50 → c.1 ≤ 20 → Bnd deep c c' (groupsN n) (depthN n true)) ∧ (∀ deep c c', seqN res n deep c = some c' → deep ≤ 50 → c.1 ≤ 20 → Bnd deep c c' (groupsN n) (depthN n true)) ∧
      (∀ deep c c', bodyN res n deep c = some c' → deep ≤ 50 → c.1 ≤ 20 → Bnd deep c c' (groupsN n) (depthN n true))) ∧
    (∀ ns : List Nd, (∀ deep c c', partK res ns deep c = some c' → deep ≤ 50 → c.1 ≤ 20 → c'.1 = c.1 + groupsK ns ∧ c'.1 ≤ 20 ∧ ∀ n ∈ ns, depthN n true + deep ≤ 50) ∧
      (∀ deep c c', seqK res ns deep c = some c' → deep ≤ 50 → c.1 ≤ 20 → c'.1 = c.1 + groupsK ns ∧ c'.1 ≤ 20 ∧ ∀ n ∈ ns, depthN n true + deep ≤ 50) ∧
      (∀ n, ns = [n] → (∀ deep c c', partN res n deep c = some c' → deep ≤ 50 → c.1 ≤ 20 → Bnd deep c c' (groupsN n) (depthN n true)) ∧ (∀ deep c c', bodyN res n deep c = some c' → deep ≤ 50 → c.1 ≤ 20 → Bnd deep c c' (groupsN n) (depthN n true)))) := by
  refine Nd.ind (fun n ih => ?_) ⟨fun deep c c' h _ hc => ?_, fun deep c c' h _ hc => ?_, fun n h => (by cases h)⟩ (fun n ns hn hns => ⟨fun deep c c' h hd hc => ?_, fun deep c c' h hd hc => ?_, fun m hm => ?_⟩)
  · have hseq : ∀ deep c c', n.f0 = 6 → partK res n.f7 deep c = some c' → deep ≤ 50 → c.1 ≤ 20 → Bnd deep c c' (groupsN n) (depthN n true) := fun deep c c' hk h hd hc => by
      obtain ⟨h1, h2, h3⟩ := ih.1 deep c c' h hd hc
      have := depthK_le (ns := n.f7) (b := true) (acc := 0) (B := 50 - deep) (Nat.zero_le _) (fun m hm => by have := h3 m hm; omega)
      refine ⟨?_, h2, ?_⟩
      · rw [groupsN_eq, if_neg (by omega)]; omega
      · rw [depthN_eq, if_neg (by omega), if_neg (by omega), if_neg (by omega)]; omega
    refine ⟨fun deep c c' h hd hc => ?_, fun deep c c' h hd hc => ?_, fun deep c c' h hd hc => ?_⟩
    · rw [partN_eq] at h
      have leaf : ∀ {m a b : Int} {ng : Bool} {nm : ByteArray}, onlyB n m a b ng nm 0 = true → (n.f0 ≠ 3 ∧ n.f0 ≠ 9 ∧ n.f0 ≠ 10 ∧ n.f0 ≠ 11) → c = c' → Bnd deep c c' (groupsN n) (depthN n true) := fun ho hk e => by
        subst e
        have := only_kids ho
        rw [groups_leaf this hk.2.1, depth_leaf this true hk]
        exact ⟨rfl, hc, by omega⟩
      have wth : ∀ {c1 : Gs}, c1.1 ≤ 20 → withK res n.f7 deep c1 = some c' → (n.f0 = 9 ∨ n.f0 = 10 ∨ n.f0 = 11) → ∃ m, n.f7 = [m] ∧ c'.1 = c1.1 + groupsN m ∧ c'.1 ≤ 20 ∧ depthN n true + deep ≤ 50 := fun hc1 h hk => by
        obtain ⟨m, hm, hd2, hb⟩ := withK_ok res h
        have hb2 := ((ih.2.2 m hm).2) (deep + 1) _ c' hb (by omega) hc1
        refine ⟨m, hm, hb2.1, hb2.2.1, ?_⟩
        rw [depth_one hm true (by omega), if_pos hk]
        have := hb2.2.2
        omega
      by_cases k1 : n.f0 = 1
      · rw [if_pos k1] at h
        split at h
        · rename_i ho
          simp only [Bool.and_eq_true] at ho
          exact leaf ho.1 (by omega) (Option.some.inj h)
        · cases h
      rw [if_neg k1] at h
      by_cases k2 : n.f0 = 2 ∨ n.f0 = 14
      · rw [if_pos k2] at h
        split at h
        · rename_i ho
          exact leaf ho (by omega) (Option.some.inj h)
        · cases h
      rw [if_neg k2] at h
      by_cases k3 : n.f0 = 3
      · rw [if_pos k3] at h
        split at h
        · rename_i ho
          have := (class_bounds res).1 n (deep + 1) ho
          cases h
          exact ⟨by omega, hc, by omega⟩
        · cases h
      rw [if_neg k3] at h
      by_cases k5 : n.f0 = 5
      · rw [if_pos k5] at h
        split at h
        · rename_i ho
          unfold propN at ho
          simp only [Bool.and_eq_true] at ho
          exact leaf ho.1 (by omega) (Option.some.inj h)
        · cases h
      rw [if_neg k5] at h
      by_cases k12 : n.f0 = 12
      · rw [if_pos k12] at h
        split at h
        · rename_i ho
          simp only [Bool.and_eq_true] at ho
          exact leaf ho.1.1 (by omega) (Option.some.inj h)
        · cases h
      rw [if_neg k12] at h
      by_cases k13 : n.f0 = 13
      · rw [if_pos k13] at h
        split at h
        · rename_i ho
          simp only [Bool.and_eq_true] at ho
          exact leaf ho.1.1 (by omega) (Option.some.inj h)
        · cases h
      rw [if_neg k13] at h
      by_cases k8 : n.f0 = 8
      · rw [if_pos k8] at h
        split at h
        · rename_i ho
          obtain ⟨m, hm, _, _, _, hp⟩ := repK_ok res h
          have hb := ((ih.2.2 m hm).1) deep c c' hp hd hc
          refine ⟨?_, hb.2.1, ?_⟩
          · rw [groups_one hm, if_neg (by omega)]; exact hb.1
          · rw [depth_one hm true (by omega), if_neg (by omega)]; exact hb.2.2
        · cases h
      rw [if_neg k8] at h
      by_cases k9 : n.f0 = 9
      · rw [if_pos k9] at h
        split at h
        · rename_i ho
          cases hg : groupS n.f2 n.f5 c with
          | none => rw [hg] at h; cases h
          | some c1 =>
            rw [hg, Option.bind_some] at h
            have hgo := groupS_ok hg hc
            obtain ⟨m, hm, h1, h2, h3⟩ := wth hgo.2 h (.inl k9)
            refine ⟨?_, h2, h3⟩
            rw [groups_one hm]
            by_cases hp : 0 < n.f2
            · rw [if_pos hp] at hgo
              rw [if_pos ⟨k9, hp⟩]; omega
            · rw [if_neg hp] at hgo
              rw [if_neg (fun h => hp h.2)]; omega
        · cases h
      rw [if_neg k9] at h
      by_cases k10 : n.f0 = 10
      · rw [if_pos k10] at h
        split at h
        · rename_i ho
          obtain ⟨m, hm, h1, h2, h3⟩ := wth hc h (.inr (.inl k10))
          refine ⟨?_, h2, h3⟩
          rw [groups_one hm, if_neg (by omega)]; exact h1
        · cases h
      rw [if_neg k10] at h
      by_cases k11 : n.f0 = 11
      · rw [if_pos k11] at h
        split at h
        · rename_i ho
          obtain ⟨m, hm, h1, h2, h3⟩ := wth hc h (.inr (.inr k11))
          refine ⟨?_, h2, h3⟩
          rw [groups_one hm, if_neg (by omega)]; exact h1
        · cases h
      rw [if_neg k11] at h
      cases h
    · rw [seqN_eq] at h
      split at h
      · rename_i hk
        exact hseq deep c c' hk.1 h hd hc
      · cases h
    · rw [bodyN_eq] at h
      split at h
      · split at h
        · split at h
          · rename_i hk _
            obtain ⟨h1, h2, h3⟩ := ih.2.1 deep c c' h hd hc
            have := depthK_le (ns := n.f7) (b := true) (acc := 0) (B := 50 - deep) (Nat.zero_le _) (fun m hm => by have := h3 m hm; omega)
            refine ⟨?_, h2, ?_⟩
            · rw [groupsN_eq, if_neg (by omega)]; omega
            · rw [depthN_eq, if_neg (by omega), if_neg (by omega), if_neg (by omega)]; omega
          · cases h
        · split at h
          · rename_i hk
            exact hseq deep c c' hk h hd hc
          · cases h
      · cases h
  · rw [partK_nil] at h
    cases h
    exact ⟨by rw [groupsK_nil]; rfl, hc, fun n hn => by cases hn⟩
  · rw [seqK_nil] at h
    cases h
    exact ⟨by rw [groupsK_nil]; rfl, hc, fun n hn => by cases hn⟩
  · rw [partK_cons] at h
    cases hp : partN res n deep c with
    | none => rw [hp] at h; cases h
    | some c1 =>
      rw [hp, Option.bind_some] at h
      have h1 := hn.1 deep c c1 hp hd hc
      have h2 := hns.1 deep c1 c' h hd h1.2.1
      refine ⟨by rw [groupsK_cons]; have := h1.1; omega, h2.2.1, fun m hm => ?_⟩
      rcases List.mem_cons.1 hm with e | e
      · subst e; exact h1.2.2
      · exact h2.2.2 m e
  · rw [seqK_cons] at h
    cases hp : seqN res n deep c with
    | none => rw [hp] at h; cases h
    | some c1 =>
      rw [hp, Option.bind_some] at h
      have h1 := hn.2.1 deep c c1 hp hd hc
      have h2 := hns.2.1 deep c1 c' h hd h1.2.1
      refine ⟨by rw [groupsK_cons]; have := h1.1; omega, h2.2.1, fun m hm => ?_⟩
      rcases List.mem_cons.1 hm with e | e
      · subst e; exact h1.2.2
      · exact h2.2.2 m e
  · cases hm
    exact ⟨hn.1, hn.2.2⟩
end

end Go.Proofs.YtkipjalfgdfaiaaGreatDoor
namespace Go.Proofs
open Go.Shelf
def Tryz.lays119_ren : Go.Shelf.Ren := ⟨fun | 119 => 179 | n => n, fun | 21 => 21 | 4 => 4 | n => n, fun | n => n⟩
theorem Tryz.lays119 : Go.Proofs.Lays.n119 Tryz.prog Tryz.lays119_ren := {
  mixed := by kernel_rfl
  f119 := Tryz.func179.trans (congrArg some (by kernel_rfl))
  t4 := Tryz.underlying4
  a4 := Tryz.isAgg4
  z4 := Tryz.sizeOf4
  v4 := Tryz.zeroValue4
  t21 := Tryz.underlying21
  a21 := Tryz.isAgg21
  z21 := Tryz.sizeOf21
  v21 := Tryz.zeroValue21 }
/-- utf8.ValidRune: "ValidRune reports whether r can be legally encoded as UTF-8. Code points that are out of range or a surrogate half are illegal.": IT RETURNS 'Lib.validRune r'; the world is as it was. (LAID: no walk: one application.) -/
theorem Tryz.utf8_ValidRune (r : Int) (w : World) :
    Calls Tryz.prog 179 #[.int .i32 r] w fun e w' => e = .returned (.bool (Lib.validRune r)) ∧ w' = w := Any.utf8_ValidRune Tryz.lays119 r w
def Tryz.lays137_ren : Go.Shelf.Ren := ⟨fun | 137 => 116 | 217 => 137 | 266 => 164 | n => n, fun | 9 => 9 | 5 => 5 | 3 => 3 | n => n, fun | n => n⟩
theorem Tryz.lays137 : Go.Proofs.Lays.n137 Tryz.prog Tryz.lays137_ren := {
  mixed := by kernel_rfl
  f137 := Tryz.func116.trans (congrArg some (by kernel_rfl))
  f217 := Tryz.func137.trans (congrArg some (by kernel_rfl))
  f266 := Tryz.func164.trans (congrArg some (by kernel_rfl))
  t3 := Tryz.underlying3
  a3 := Tryz.isAgg3
  z3 := Tryz.sizeOf3
  v3 := Tryz.zeroValue3
  t5 := Tryz.underlying5
  a5 := Tryz.isAgg5
  z5 := Tryz.sizeOf5
  v5 := Tryz.zeroValue5
  t9 := Tryz.underlying9
  a9 := Tryz.isAgg9
  z9 := Tryz.sizeOf9
  v9 := Tryz.zeroValue9 }
open Go.RowKit in
/-- strings.IndexByte: "IndexByte returns the index of the first instance of c in s, or -1 if c is not present in s.": IT RETURNS 'Lib.indexByte s c'; the world is as it was. (LAID: no walk: one application.) -/
theorem Tryz.strings_IndexByte (s : ByteArray) (c : Int) (w : World) :
    Calls Tryz.prog 116 #[.string s, .int .u8 c] w fun e w' => e = .returned (.int .i64 (Lib.indexByte s.data.toList c.toNat.toUInt8)) ∧ w' = w := Any.strings_IndexByte Tryz.lays137 s c w
def Tryz.lays152_ren : Go.Shelf.Ren := ⟨fun | 152 => 166 | 137 => 116 | 119 => 179 | 224 => 139 | 225 => 138 | 217 => 137 | 266 => 164 | n => n, fun | 9 => 9 | 21 => 21 | 3 => 3 | 4 => 4 | 5 => 5 | 0 => 0 | 46 => 43 | n => n, fun | n => n⟩
theorem Tryz.lays152 : Go.Proofs.Lays.n152 Tryz.prog Tryz.lays152_ren := {
  mixed := by kernel_rfl
  f119 := Tryz.func179.trans (congrArg some (by kernel_rfl))
  f137 := Tryz.func116.trans (congrArg some (by kernel_rfl))
  f152 := Tryz.func166.trans (congrArg some (by kernel_rfl))
  f217 := Tryz.func137.trans (congrArg some (by kernel_rfl))
  f224 := Tryz.func139.trans (congrArg some (by kernel_rfl))
  f225 := Tryz.func138.trans (congrArg some (by kernel_rfl))
  f266 := Tryz.func164.trans (congrArg some (by kernel_rfl))
  t0 := Tryz.underlying0
  a0 := Tryz.isAgg0
  z0 := Tryz.sizeOf0
  v0 := Tryz.zeroValue0
  t3 := Tryz.underlying3
  a3 := Tryz.isAgg3
  z3 := Tryz.sizeOf3
  v3 := Tryz.zeroValue3
  t4 := Tryz.underlying4
  a4 := Tryz.isAgg4
  z4 := Tryz.sizeOf4
  v4 := Tryz.zeroValue4
  t5 := Tryz.underlying5
  a5 := Tryz.isAgg5
  z5 := Tryz.sizeOf5
  v5 := Tryz.zeroValue5
  t9 := Tryz.underlying9
  a9 := Tryz.isAgg9
  z9 := Tryz.sizeOf9
  v9 := Tryz.zeroValue9
  t21 := Tryz.underlying21
  a21 := Tryz.isAgg21
  z21 := Tryz.sizeOf21
  v21 := Tryz.zeroValue21
  t46 := Tryz.underlying43
  a46 := Tryz.isAgg43
  z46 := Tryz.sizeOf43
  v46 := Tryz.zeroValue43 }
open Go.RowKit Go.Lib in
theorem Tryz.strings_IndexRune_ascii (s : ByteArray) (r : Int) (w : World) (h0 : 0 ≤ r) (h1 : r < 128) :
    Calls Tryz.prog 166 #[.string s, .int .i32 r] w fun e w' => e = .returned (.int .i64 (Lib.indexByte s.data.toList r.toNat.toUInt8)) ∧ w' = w := Any.strings_IndexRune_ascii Tryz.lays152 s r w h0 h1
def Tryz.lays226_ren : Go.Shelf.Ren := ⟨fun | 226 => 167 | n => n, fun | 3 => 3 | 4 => 4 | n => n, fun | n => n⟩
theorem Tryz.lays226 : Go.Proofs.Lays.n226 Tryz.prog Tryz.lays226_ren := {
  mixed := by kernel_rfl
  f226 := Tryz.func167.trans (congrArg some (by kernel_rfl))
  t3 := Tryz.underlying3
  a3 := Tryz.isAgg3
  z3 := Tryz.sizeOf3
  v3 := Tryz.zeroValue3
  t4 := Tryz.underlying4
  a4 := Tryz.isAgg4
  z4 := Tryz.sizeOf4
  v4 := Tryz.zeroValue4 }
open Go.RowKit Go.Lib in
theorem Tryz.strings_shouldUseASCIISet (n : Int) (w : World) :
    Calls Tryz.prog 167 #[.int .i64 n] w fun e w' => e = .returned (.bool (decide (8 < n))) ∧ w' = w := Any.strings_shouldUseASCIISet Tryz.lays226 n w
def Tryz.lays153_ren : Go.Shelf.Ren := ⟨fun | 153 => 142 | 152 => 166 | 226 => 167 | 227 => 168 | 228 => 169 | 137 => 116 | 119 => 179 | 224 => 139 | 225 => 138 | 217 => 137 | 266 => 164 | n => n, fun | 9 => 9 | 3 => 3 | 4 => 4 | 5 => 5 | 21 => 21 | 117 => 189 | 116 => 188 | 0 => 0 | 46 => 43 | 124 => 203 | n => n, fun | n => n⟩
theorem Tryz.lays153 : Go.Proofs.Lays.n153 Tryz.prog Tryz.lays153_ren := {
  mixed := by kernel_rfl
  f119 := Tryz.func179.trans (congrArg some (by kernel_rfl))
  f137 := Tryz.func116.trans (congrArg some (by kernel_rfl))
  f152 := Tryz.func166.trans (congrArg some (by kernel_rfl))
  f153 := Tryz.func142.trans (congrArg some (by kernel_rfl))
  f217 := Tryz.func137.trans (congrArg some (by kernel_rfl))
  f224 := Tryz.func139.trans (congrArg some (by kernel_rfl))
  f225 := Tryz.func138.trans (congrArg some (by kernel_rfl))
  f226 := Tryz.func167.trans (congrArg some (by kernel_rfl))
  f227 := Tryz.func168.trans (congrArg some (by kernel_rfl))
  f228 := Tryz.func169.trans (congrArg some (by kernel_rfl))
  f266 := Tryz.func164.trans (congrArg some (by kernel_rfl))
  t0 := Tryz.underlying0
  a0 := Tryz.isAgg0
  z0 := Tryz.sizeOf0
  v0 := Tryz.zeroValue0
  t3 := Tryz.underlying3
  a3 := Tryz.isAgg3
  z3 := Tryz.sizeOf3
  v3 := Tryz.zeroValue3
  t4 := Tryz.underlying4
  a4 := Tryz.isAgg4
  z4 := Tryz.sizeOf4
  v4 := Tryz.zeroValue4
  t5 := Tryz.underlying5
  a5 := Tryz.isAgg5
  z5 := Tryz.sizeOf5
  v5 := Tryz.zeroValue5
  t9 := Tryz.underlying9
  a9 := Tryz.isAgg9
  z9 := Tryz.sizeOf9
  v9 := Tryz.zeroValue9
  t21 := Tryz.underlying21
  a21 := Tryz.isAgg21
  z21 := Tryz.sizeOf21
  v21 := Tryz.zeroValue21
  t46 := Tryz.underlying43
  a46 := Tryz.isAgg43
  z46 := Tryz.sizeOf43
  v46 := Tryz.zeroValue43
  t116 := Tryz.underlying188
  a116 := Tryz.isAgg188
  z116 := Tryz.sizeOf188
  t117 := Tryz.underlying189
  a117 := Tryz.isAgg189
  z117 := Tryz.sizeOf189
  v117 := Tryz.zeroValue189
  t124 := Tryz.underlying203
  a124 := Tryz.isAgg203
  z124 := Tryz.sizeOf203
  v124 := Tryz.zeroValue203 }
open Go.RowKit Go.Lib in
theorem Tryz.strings_IndexAny_long (hv116 : ∀ w, (zeroValue 188).run Tryz.prog w = .ok (.agg (Array.replicate 256 (.bool false))) w) (s chars : ByteArray) (w : World) (h2 : 2 ≤ chars.size) (h8 : 8 < s.size) (hs : s.size < 4294967281) (hcs : chars.size < 4294967281) (hascii : ∀ (j : Nat) b, chars.data.toList[j]? = some b → b.toNat < 128) :
    Calls Tryz.prog 142 #[.string s, .string chars] w fun e w' => e = .returned (.int .i64 (Lib.indexAny s.data.toList chars.data.toList)) ∧ w' = ((w.alloc (.cells (Lib.setCells chars.data.toList) 188)).alloc (.cells (Lib.setCells chars.data.toList) 188)) := Any.strings_IndexAny_long Tryz.lays153 hv116 (by kernel_rfl) s chars w h2 h8 hs hcs hascii
open Go.RowKit Go.Lib in
open Go.RowKit Go.Lib in
def Tryz.lays144_ren : Go.Shelf.Ren := ⟨fun | 144 => 40 | 143 => 64 | 219 => 99 | 217 => 137 | 225 => 138 | 224 => 139 | 267 => 140 | 266 => 164 | 314 => 165 | n => n, fun | 9 => 9 | 4 => 4 | 3 => 3 | 5 => 5 | 46 => 43 | 146 => 184 | 51 => 160 | n => n, fun | 1 => 2 | n => n⟩
theorem Tryz.lays144 : Go.Proofs.Lays.n144 Tryz.prog Tryz.lays144_ren := {
  mixed := by kernel_rfl
  f143 := Tryz.func64.trans (congrArg some (by kernel_rfl))
  f144 := Tryz.func40.trans (congrArg some (by kernel_rfl))
  f217 := Tryz.func137.trans (congrArg some (by kernel_rfl))
  f219 := Tryz.func99.trans (congrArg some (by kernel_rfl))
  f224 := Tryz.func139.trans (congrArg some (by kernel_rfl))
  f225 := Tryz.func138.trans (congrArg some (by kernel_rfl))
  f266 := Tryz.func164.trans (congrArg some (by kernel_rfl))
  f267 := Tryz.func140.trans (congrArg some (by kernel_rfl))
  f314 := Tryz.func165.trans (congrArg some (by kernel_rfl))
  t3 := Tryz.underlying3
  a3 := Tryz.isAgg3
  z3 := Tryz.sizeOf3
  v3 := Tryz.zeroValue3
  t4 := Tryz.underlying4
  a4 := Tryz.isAgg4
  z4 := Tryz.sizeOf4
  v4 := Tryz.zeroValue4
  t5 := Tryz.underlying5
  a5 := Tryz.isAgg5
  z5 := Tryz.sizeOf5
  v5 := Tryz.zeroValue5
  t9 := Tryz.underlying9
  a9 := Tryz.isAgg9
  z9 := Tryz.sizeOf9
  v9 := Tryz.zeroValue9
  t46 := Tryz.underlying43
  a46 := Tryz.isAgg43
  z46 := Tryz.sizeOf43
  v46 := Tryz.zeroValue43
  t51 := Tryz.underlying160
  a51 := Tryz.isAgg160
  z51 := Tryz.sizeOf160
  v51 := Tryz.zeroValue160
  t146 := Tryz.underlying184
  a146 := Tryz.isAgg184
  z146 := Tryz.sizeOf184
  v146 := Tryz.zeroValue184
  g1 := by kernel_rfl }
open Go.RowKit Go.Lib in
/-- strings.Contains: "Contains reports whether substr is within s.": IT RETURNS 'Lib.contains s substr'; the world is as it was. (LAID: no walk: one application.) -/
theorem Tryz.strings_Contains (s sub : ByteArray) (m : Int) (w : World) (hs : s.size < 4294967281) (hm : w.cell? ⟨2, 0, none⟩ = some (.int .i64 m)) :
    Calls Tryz.prog 40 #[.string s, .string sub] w fun e w' => e = .returned (.bool (Lib.contains s.data.toList sub.data.toList)) ∧ w' = w := Any.strings_Contains Tryz.lays144 s sub m w hs hm
open Go.RowKit in
open Go.RowKit in
open Go.RowKit in
open Go.RowKit in
open Go.RowKit in
def Tryz.lays158_ren : Go.Shelf.Ren := ⟨fun | 158 => 38 | 165 => 59 | 166 => 42 | 167 => 60 | 169 => 29 | 230 => 61 | 203 => 62 | 240 => 65 | 241 => 89 | 197 => 90 | 118 => 91 | 168 => 92 | 270 => 93 | 262 => 94 | 276 => 100 | 277 => 128 | 260 => 129 | 242 => 130 | 313 => 131 | 278 => 159 | 274 => 160 | 275 => 161 | n => n, fun | 9 => 9 | 4 => 4 | 3 => 3 | 5 => 5 | 72 => 59 | 0 => 0 | 76 => 91 | 75 => 90 | 107 => 111 | 70 => 57 | 20 => 20 | 37 => 34 | 127 => 97 | 21 => 21 | 105 => 125 | 164 => 136 | 162 => 157 | 203 => 155 | 119 => 176 | 46 => 43 | 139 => 179 | 138 => 178 | 51 => 160 | 160 => 180 | 208 => 200 | 206 => 198 | 80 => 61 | n => n, fun | 13 => 0 | 3 => 3 | 4 => 4 | n => n⟩
theorem Tryz.lays158 : Go.Proofs.Lays.n158 Tryz.prog Tryz.lays158_ren := {
  mixed := by kernel_rfl
  f118 := Tryz.func91.trans (congrArg some (by kernel_rfl))
  f158 := Tryz.func38.trans (congrArg some (by kernel_rfl))
  f165 := Tryz.func59.trans (congrArg some (by kernel_rfl))
  f166 := Tryz.func42.trans (congrArg some (by kernel_rfl))
  f167 := Tryz.func60.trans (congrArg some (by kernel_rfl))
  f168 := Tryz.func92.trans (congrArg some (by kernel_rfl))
  f169 := Tryz.func29.trans (congrArg some (by kernel_rfl))
  f197 := Tryz.func90.trans (congrArg some (by kernel_rfl))
  f203 := Tryz.func62.trans (congrArg some (by kernel_rfl))
  f230 := Tryz.func61.trans (congrArg some (by kernel_rfl))
  f240 := Tryz.func65.trans (congrArg some (by kernel_rfl))
  f241 := Tryz.func89.trans (congrArg some (by kernel_rfl))
  f242 := Tryz.func130.trans (congrArg some (by kernel_rfl))
  f260 := Tryz.func129.trans (congrArg some (by kernel_rfl))
  f262 := Tryz.func94.trans (congrArg some (by kernel_rfl))
  f270 := Tryz.func93.trans (congrArg some (by kernel_rfl))
  f274 := Tryz.func160.trans (congrArg some (by kernel_rfl))
  f275 := Tryz.func161.trans (congrArg some (by kernel_rfl))
  f276 := Tryz.func100.trans (congrArg some (by kernel_rfl))
  f277 := Tryz.func128.trans (congrArg some (by kernel_rfl))
  f278 := Tryz.func159.trans (congrArg some (by kernel_rfl))
  f313 := Tryz.func131.trans (congrArg some (by kernel_rfl))
  t0 := Tryz.underlying0
  a0 := Tryz.isAgg0
  z0 := Tryz.sizeOf0
  v0 := Tryz.zeroValue0
  t3 := Tryz.underlying3
  a3 := Tryz.isAgg3
  z3 := Tryz.sizeOf3
  v3 := Tryz.zeroValue3
  t4 := Tryz.underlying4
  a4 := Tryz.isAgg4
  z4 := Tryz.sizeOf4
  v4 := Tryz.zeroValue4
  t5 := Tryz.underlying5
  a5 := Tryz.isAgg5
  z5 := Tryz.sizeOf5
  v5 := Tryz.zeroValue5
  t9 := Tryz.underlying9
  a9 := Tryz.isAgg9
  z9 := Tryz.sizeOf9
  v9 := Tryz.zeroValue9
  t20 := Tryz.underlying20
  a20 := Tryz.isAgg20
  z20 := Tryz.sizeOf20
  v20 := Tryz.zeroValue20
  t21 := Tryz.underlying21
  a21 := Tryz.isAgg21
  z21 := Tryz.sizeOf21
  v21 := Tryz.zeroValue21
  t37 := Tryz.underlying34
  a37 := Tryz.isAgg34
  z37 := Tryz.sizeOf34
  v37 := Tryz.zeroValue34
  t46 := Tryz.underlying43
  a46 := Tryz.isAgg43
  z46 := Tryz.sizeOf43
  v46 := Tryz.zeroValue43
  t51 := Tryz.underlying160
  a51 := Tryz.isAgg160
  z51 := Tryz.sizeOf160
  v51 := Tryz.zeroValue160
  t70 := Tryz.underlying57
  a70 := Tryz.isAgg57
  z70 := Tryz.sizeOf57
  v70 := Tryz.zeroValue57
  t72 := Tryz.underlying59
  a72 := Tryz.isAgg59
  z72 := Tryz.sizeOf59
  v72 := Tryz.zeroValue59
  t75 := Tryz.underlying90
  a75 := Tryz.isAgg90
  z75 := Tryz.sizeOf90
  v75 := Tryz.zeroValue90
  t76 := Tryz.underlying91
  a76 := Tryz.isAgg91
  z76 := Tryz.sizeOf91
  v76 := Tryz.zeroValue91
  t105 := Tryz.underlying125
  a105 := Tryz.isAgg125
  z105 := Tryz.sizeOf125
  v105 := Tryz.zeroValue125
  t107 := Tryz.underlying111
  a107 := Tryz.isAgg111
  z107 := Tryz.sizeOf111
  v107 := Tryz.zeroValue111
  t119 := Tryz.underlying176
  a119 := Tryz.isAgg176
  z119 := Tryz.sizeOf176
  t127 := Tryz.underlying97
  a127 := Tryz.isAgg97
  z127 := Tryz.sizeOf97
  v127 := Tryz.zeroValue97
  t138 := Tryz.underlying178
  a138 := Tryz.isAgg178
  z138 := Tryz.sizeOf178
  v138 := Tryz.zeroValue178
  t139 := Tryz.underlying179
  a139 := Tryz.isAgg179
  z139 := Tryz.sizeOf179
  v139 := Tryz.zeroValue179
  t160 := Tryz.underlying180
  a160 := Tryz.isAgg180
  z160 := Tryz.sizeOf180
  v160 := Tryz.zeroValue180
  t162 := Tryz.underlying157
  a162 := Tryz.isAgg157
  z162 := Tryz.sizeOf157
  v162 := Tryz.zeroValue157
  t164 := Tryz.underlying136
  a164 := Tryz.isAgg136
  z164 := Tryz.sizeOf136
  v164 := Tryz.zeroValue136
  t203 := Tryz.underlying155
  a203 := Tryz.isAgg155
  z203 := Tryz.sizeOf155
  v203 := Tryz.zeroValue155
  t206 := Tryz.underlying198
  a206 := Tryz.isAgg198
  z206 := Tryz.sizeOf198
  v206 := Tryz.zeroValue198
  t208 := Tryz.underlying200
  a208 := Tryz.isAgg200
  z208 := Tryz.sizeOf200
  v208 := Tryz.zeroValue200
  g3 := by kernel_rfl
  g4 := by kernel_rfl
  g13 := by kernel_rfl }
end Go.Proofs
namespace Go.Proofs.YtkipjalfgdfaiaaGreatDoor.PLinesRead
open Go.RowKit Go.Proofs.YtkipjalfgdfaiaaGreatDoorW.PrintWords Go.Proofs.YtkipjalfgdfaiaaGreatDoorW.PrintLast Go.Proofs.YtkipjalfgdfaiaaGreatDoorW.PrintMore
set_option linter.unusedVariables false
set_option linter.unusedSimpArgs false



theorem info114 : (Tryz.prog.info? 114).map (fun i => (i.zero, i.size, i.bytes)) = some (some (.slice none 0 0), 1, 24) := by kernel_rfl

def rd_L2 (xs : List (List ByteArray)) (i : Int) : (List ByteArray) := xs.getD i.toNat ([] : List ByteArray)
theorem at_L2 {w : World} {A : Option Addr} {n : Nat} {xs : List (List ByteArray)} (h : Kd.C (Kd.slice 9 Kd.string) w A n xs) (i : Int) (h0 : 0 ≤ i) (h1 : i < n) : ∃ ad A0 c0, A = some ad ∧ w.cell? (ad.add i.toNat) = some (.slice A0 (rd_L2 xs i).length c0) ∧ (rd_L2 xs i).length ≤ c0 ∧ Kd.string.C w A0 (rd_L2 xs i).length (rd_L2 xs i) := by
  obtain ⟨ad, c, e, _, hK, hc0⟩ := Kd.C_get h ([] : List ByteArray) i h0 h1
  have hc : ∀ j u, c[j]? = some u → w.cell? (ad.add (i.toNat * 1 + j)) = some u := hc0
  obtain ⟨A0, c0, rfl, l0, g0⟩ := hK
  exact ⟨ad, A0, c0, e, by have hq := hc 0 _ rfl; rwa [Nat.mul_one, Nat.add_zero] at hq, l0, g0⟩







end Go.Proofs.YtkipjalfgdfaiaaGreatDoor.PLinesRead
namespace Go.Proofs.YtkipjalfgdfaiaaGreatDoor
set_option linter.unusedVariables false
set_option linter.unusedSimpArgs false

def bsL (l : List UInt8) : ByteArray := ⟨l.toArray⟩
theorem bsL_data (s : ByteArray) : bsL s.data.toList = s := by
  cases s
  simp [bsL]
theorem data_bsL (l : List UInt8) : (bsL l).data.toList = l := by simp [bsL]
theorem size_bsL (l : List UInt8) : (bsL l).size = l.length := by simp [bsL, ByteArray.size]

/-- A text's parts between a byte. -/
def cutL (c : UInt8) : List UInt8 → List (List UInt8)
  | [] => [[]]
  | b :: l => if b = c then [] :: cutL c l else match cutL c l with
    | [] => [[b]]
    | h :: t => (b :: h) :: t
theorem cutL_none {c : UInt8} : ∀ {p : List UInt8}, (∀ b ∈ p, b ≠ c) → cutL c p = [p]
  | [], _ => rfl
  | b :: p, h => by
    have h1 := cutL_none (c := c) (p := p) (fun x hx => h x (List.mem_cons_of_mem _ hx))
    unfold cutL
    rw [if_neg (h b List.mem_cons_self), h1]
theorem cutL_hit {c : UInt8} (l : List UInt8) : ∀ {p : List UInt8}, (∀ b ∈ p, b ≠ c) → cutL c (p ++ c :: l) = p :: cutL c l
  | [], _ => by
    show cutL c (c :: l) = _
    rw [cutL, if_pos rfl]
  | b :: p, h => by
    have h1 := cutL_hit (c := c) l (p := p) (fun x hx => h x (List.mem_cons_of_mem _ hx))
    show cutL c (b :: (p ++ c :: l)) = _
    rw [cutL, if_neg (h b List.mem_cons_self), h1]
theorem cutL_ne (c : UInt8) : ∀ l : List UInt8, cutL c l ≠ []
  | [] => by simp [cutL]
  | b :: l => by
    unfold cutL
    split
    · simp
    · split <;> simp
theorem cutL_length (c : UInt8) : ∀ l : List UInt8, (cutL c l).length ≤ l.length + 1
  | [] => by simp [cutL]
  | b :: l => by
    have h := cutL_length c l
    unfold cutL
    split
    · simp only [List.length_cons]
      omega
    · split
      · simp
      · rename_i h' t e
        rw [e] at h
        simp only [List.length_cons] at h ⊢
        omega
theorem cutL_part (c : UInt8) : ∀ (l : List UInt8) (x : List UInt8), x ∈ cutL c l → x.length ≤ l.length
  | [], x, h => by
    simp [cutL] at h
    subst h
    simp
  | b :: l, x, h => by
    have ih := cutL_part c l
    unfold cutL at h
    split at h
    · rcases List.mem_cons.1 h with rfl | h
      · simp
      · have := ih x h
        simp only [List.length_cons]
        omega
    · split at h
      · simp at h
        subst h
        simp
      · rename_i h' t e
        rcases List.mem_cons.1 h with rfl | h
        · have := ih h' (by rw [e]; exact List.mem_cons_self)
          simp only [List.length_cons]
          omega
        · have := ih x (by rw [e]; exact List.mem_cons_of_mem _ h)
          simp only [List.length_cons]
          omega
def cutB (c : UInt8) (s : ByteArray) : List ByteArray := (cutL c s.data.toList).map bsL
theorem index_split {s : List UInt8} {c : UInt8} {i : Nat} (h : Lib.index s [c] = i) : s = s.take i ++ c :: s.drop (i + 1) ∧ ∀ b ∈ s.take i, b ≠ c := by
  rw [Lib.index_one] at h
  obtain ⟨h1, h2⟩ := Lib.indexByte_some h
  obtain ⟨hlt, he⟩ := List.getElem?_eq_some_iff.1 h1
  refine ⟨?_, fun b hb => ?_⟩
  · have e := List.drop_eq_getElem_cons hlt
    rw [he] at e
    rw [← e, List.take_append_drop]
  · obtain ⟨k, hk, rfl⟩ := List.getElem_of_mem hb
    rw [List.length_take] at hk
    intro hc
    refine h2 k (by omega) ?_
    rw [List.getElem_take] at hc
    rw [List.getElem?_eq_getElem (by omega), hc]
theorem index_miss {s : List UInt8} {c : UInt8} (h : Lib.index s [c] = -1) : ∀ b ∈ s, b ≠ c := by
  rw [Lib.index_one] at h
  intro b hb hc
  obtain ⟨k, hk, rfl⟩ := List.getElem_of_mem hb
  exact Lib.indexByte_none h k (by rw [List.getElem?_eq_getElem hk, hc])
theorem index_or (s : List UInt8) (c : UInt8) : Lib.index s [c] = -1 ∨ ∃ i : Nat, Lib.index s [c] = i := by
  have h := Lib.index_ge s [c]
  by_cases h1 : Lib.index s [c] = -1
  · exact .inl h1
  · exact .inr ⟨(Lib.index s [c]).toNat, by omega⟩
theorem splitK_cut (c : UInt8) : ∀ (k : Nat) (s : List UInt8), s.count c = k → Lib.splitK [c] 0 k s = cutL c s
  | 0, s, h => by
    have h0 : ∀ b ∈ s, b ≠ c := fun b hb hc => by
      subst hc
      have := List.count_pos_iff.2 hb
      omega
    rw [cutL_none h0]
    rfl
  | k + 1, s, h => by
    rcases index_or s c with hm | ⟨i, hi⟩
    · exfalso
      have h0 := index_miss hm
      have : s.count c = 0 := List.count_eq_zero.2 (fun hc => h0 c hc rfl)
      omega
    · obtain ⟨hs, hp⟩ := index_split hi
      have hk : (s.drop (i + 1)).count c = k := by
        have h1 := h
        rw [hs, List.count_append, List.count_cons_self] at h1
        have h2 : (s.take i).count c = 0 := List.count_eq_zero.2 (fun hc => hp c hc rfl)
        omega
      have ih := splitK_cut c k (s.drop (i + 1)) hk
      have e2 : cutL c s = s.take i :: cutL c (s.drop (i + 1)) := by
        have e3 := congrArg (cutL c) hs
        rw [cutL_hit _ hp] at e3
        exact e3
      rw [Lib.splitK, if_neg (by rw [hi]; simp), hi, e2, ← ih]
      simp
theorem splitB_cut (c : UInt8) (s : ByteArray) : Lib.splitB ⟨#[c]⟩ 0 (Lib.countB s ⟨#[c]⟩) s = cutB c s := by
  have h := Lib.splitB_data ⟨#[c]⟩ 0 (Lib.countB s ⟨#[c]⟩) s
  have hc : Lib.countB s ⟨#[c]⟩ = s.data.toList.count c := Lib.count_one c s.data.toList
  have h2 : Lib.splitK [c] 0 (Lib.countB s ⟨#[c]⟩) s.data.toList = cutL c s.data.toList := splitK_cut c _ _ hc.symm
  have h3 := congrArg (List.map bsL) (h.trans h2)
  rw [List.map_map] at h3
  have h4 : (bsL ∘ fun b : ByteArray => b.data.toList) = id := by
    funext b
    exact bsL_data b
  rw [h4, List.map_id] at h3
  exact h3
theorem countB_cut (c : UInt8) (s : ByteArray) : Lib.countB s ⟨#[c]⟩ + 1 = (cutB c s).length := by
  rw [← splitB_cut, Lib.splitB_all ⟨#[c]⟩ (Nat.le_refl 1) 0 _ s rfl]

/-- What stands ahead of a byte. -/
def upL (c : UInt8) (l : List UInt8) : List UInt8 := (cutL c l).headD []
theorem cut_up (c : UInt8) (l : List UInt8) : (Lib.cut l [c]).1 = upL c l := by
  unfold Lib.cut upL
  rcases index_or l c with hm | ⟨i, hi⟩
  · rw [hm, if_neg (by omega), cutL_none (index_miss hm)]
    rfl
  · obtain ⟨hs, hp⟩ := index_split hi
    have e2 : cutL c l = l.take i :: cutL c (l.drop (i + 1)) := by
      have e3 := congrArg (cutL c) hs
      rw [cutL_hit _ hp] at e3
      exact e3
    rw [hi, if_pos (by omega), e2]
    simp
theorem upL_length (c : UInt8) (l : List UInt8) : (upL c l).length ≤ l.length := by
  unfold upL
  cases h : cutL c l with
  | nil => simp
  | cons x r => exact cutL_part c l x (by rw [h]; exact List.mem_cons_self)
def trimL (l : List UInt8) : List UInt8 := Lib.trimS l [32, 9]
theorem dropWhile_length {α : Type} (p : α → Bool) : ∀ l : List α, (l.dropWhile p).length ≤ l.length
  | [] => by simp
  | b :: l => by
    rw [List.dropWhile_cons]
    split
    · have := dropWhile_length p l
      simp only [List.length_cons]
      omega
    · exact Nat.le_refl _
theorem trimL_length (l : List UInt8) : (trimL l).length ≤ l.length := by
  unfold trimL Lib.trimS Lib.trimLeftS Lib.trimRightS
  refine Nat.le_trans (dropWhile_length _ _) ?_
  rw [List.length_reverse]
  refine Nat.le_trans (dropWhile_length _ _) ?_
  rw [List.length_reverse]
  exact Nat.le_refl _
def upB (c : UInt8) (s : ByteArray) : ByteArray := bsL (upL c s.data.toList)
def trimB (s : ByteArray) : ByteArray := bsL (trimL s.data.toList)
theorem upB_size (c : UInt8) (s : ByteArray) : (upB c s).size ≤ s.size := by
  unfold upB
  rw [size_bsL, Lib.size_eq s]
  exact upL_length _ _
theorem trimB_size (s : ByteArray) : (trimB s).size ≤ s.size := by
  unfold trimB
  rw [size_bsL, Lib.size_eq s]
  exact trimL_length _
theorem cutB_ne (c : UInt8) (s : ByteArray) : cutB c s ≠ [] := fun h => cutL_ne c s.data.toList (List.map_eq_nil_iff.1 h)
theorem cutB_length (c : UInt8) (s : ByteArray) : (cutB c s).length ≤ s.size + 1 := by
  unfold cutB
  rw [List.length_map, Lib.size_eq s]
  exact cutL_length _ _
theorem cutB_part {c : UInt8} {s x : ByteArray} (h : x ∈ cutB c s) : x.size ≤ s.size := by
  obtain ⟨l, hl, rfl⟩ := List.mem_map.1 h
  rw [size_bsL, Lib.size_eq s]
  exact cutL_part c _ _ hl

/-- A line's fields; none: it says nothing. -/
def fieldsB (line : ByteArray) : List ByteArray := if (trimB (upB 35 line)).size = 0 then [] else (cutB 59 (trimB (upB 35 line))).map trimB
theorem fieldsB_length (s : ByteArray) : (fieldsB s).length ≤ s.size + 1 := by
  unfold fieldsB
  split
  · simp
  · rw [List.length_map]
    refine Nat.le_trans (cutB_length _ _) ?_
    have := Nat.le_trans (trimB_size (upB 35 s)) (upB_size 35 s)
    omega

end Go.Proofs.YtkipjalfgdfaiaaGreatDoor
namespace Go.Proofs.YtkipjalfgdfaiaaGreatDoor
set_option linter.unusedVariables false
set_option linter.unusedSimpArgs false
open Go.RowKit Go.Proofs.YtkipjalfgdfaiaaGreatDoorW.PrintWords Go.Proofs.YtkipjalfgdfaiaaGreatDoorW.PrintLast Go.Proofs.YtkipjalfgdfaiaaGreatDoorW.PrintMore Go.Proofs.YtkipjalfgdfaiaaGreatDoor.PLinesRead

theorem ext_bsL (l : List UInt8) (a b : Nat) : (bsL l).extract a b = bsL ((l.drop a).take (b - a)) := by
  rw [Lib.extract_eq, data_bsL]
  rfl
theorem bt_bsL (l : List UInt8) (i : Nat) (h : i < l.length) : bt (bsL l) (i : Int) = (l[i].toNat : Int) := by
  have h1 := bt_at (bsL l) (i : Int) (by rw [Int.toNat_natCast, size_bsL]; exact h)
  rw [← h1]
  rfl
end Go.Proofs.YtkipjalfgdfaiaaGreatDoor
namespace Go.Proofs
open Go.Shelf
def Tryz.lays145_ren : Go.Shelf.Ren := ⟨fun | 145 => 192 | 220 => 202 | 219 => 99 | 217 => 137 | 225 => 138 | 224 => 139 | 267 => 140 | 266 => 164 | 314 => 165 | n => n, fun | 9 => 9 | 4 => 4 | 59 => 213 | 3 => 3 | 5 => 5 | 46 => 43 | 146 => 184 | 51 => 160 | n => n, fun | 1 => 2 | n => n⟩
theorem Tryz.lays145 : Go.Proofs.Lays.n145 Tryz.prog Tryz.lays145_ren := {
  mixed := by kernel_rfl
  f145 := Tryz.func192.trans (congrArg some (by kernel_rfl))
  f217 := Tryz.func137.trans (congrArg some (by kernel_rfl))
  f219 := Tryz.func99.trans (congrArg some (by kernel_rfl))
  f220 := Tryz.func202.trans (congrArg some (by kernel_rfl))
  f224 := Tryz.func139.trans (congrArg some (by kernel_rfl))
  f225 := Tryz.func138.trans (congrArg some (by kernel_rfl))
  f266 := Tryz.func164.trans (congrArg some (by kernel_rfl))
  f267 := Tryz.func140.trans (congrArg some (by kernel_rfl))
  f314 := Tryz.func165.trans (congrArg some (by kernel_rfl))
  t3 := Tryz.underlying3
  a3 := Tryz.isAgg3
  z3 := Tryz.sizeOf3
  v3 := Tryz.zeroValue3
  t4 := Tryz.underlying4
  a4 := Tryz.isAgg4
  z4 := Tryz.sizeOf4
  v4 := Tryz.zeroValue4
  t5 := Tryz.underlying5
  a5 := Tryz.isAgg5
  z5 := Tryz.sizeOf5
  v5 := Tryz.zeroValue5
  t9 := Tryz.underlying9
  a9 := Tryz.isAgg9
  z9 := Tryz.sizeOf9
  v9 := Tryz.zeroValue9
  t46 := Tryz.underlying43
  a46 := Tryz.isAgg43
  z46 := Tryz.sizeOf43
  v46 := Tryz.zeroValue43
  t51 := Tryz.underlying160
  a51 := Tryz.isAgg160
  z51 := Tryz.sizeOf160
  v51 := Tryz.zeroValue160
  t59 := Tryz.underlying213
  a59 := Tryz.isAgg213
  z59 := Tryz.sizeOf213
  v59 := Tryz.zeroValue213
  t146 := Tryz.underlying184
  a146 := Tryz.isAgg184
  z146 := Tryz.sizeOf184
  v146 := Tryz.zeroValue184
  g1 := by kernel_rfl }
open Go.RowKit Go.Lib in
/-- strings.Cut: "Cut slices s around the first instance of sep, returning the text before and after sep. The found result reports whether sep appears in s. If sep does not appear in s, cut returns s, "", false.": IT RETURNS 'Lib.cut s sep'; the world is as it was but for the count of draws. (LAID: no walk: one application.) -/
theorem Tryz.strings_Cut (s sep : ByteArray) (m : Int) (w : World) (hs : s.size < 4294967281) (hm : w.cell? ⟨2, 0, none⟩ = some (.int .i64 m)) :
    Calls Tryz.prog 192 #[.string s, .string sep] w fun e w' => e = .returned (.tuple #[.string ⟨(Lib.cut s.data.toList sep.data.toList).1.toArray⟩, .string ⟨(Lib.cut s.data.toList sep.data.toList).2.1.toArray⟩, .bool (Lib.cut s.data.toList sep.data.toList).2.2]) ∧ ∃ n, w' = w.drewN n := Any.strings_Cut Tryz.lays145 s sep m w hs hm
def Tryz.lays146_ren : Go.Shelf.Ren := ⟨fun | 146 => 181 | 221 => 191 | 268 => 200 | 138 => 201 | 143 => 64 | 195 => 210 | 197 => 90 | 218 => 211 | 219 => 99 | 260 => 129 | 217 => 137 | 225 => 138 | 224 => 139 | 267 => 140 | 266 => 164 | 314 => 165 | n => n, fun | 9 => 9 | 31 => 114 | 3 => 3 | 4 => 4 | 0 => 0 | 105 => 125 | 21 => 21 | 5 => 5 | 46 => 43 | 119 => 176 | 139 => 179 | 138 => 178 | 146 => 184 | 51 => 160 | n => n, fun | 1 => 2 | 3 => 3 | 4 => 4 | n => n⟩
theorem Tryz.lays146 : Go.Proofs.Lays.n146 Tryz.prog Tryz.lays146_ren := {
  mixed := by kernel_rfl
  f138 := Tryz.func201.trans (congrArg some (by kernel_rfl))
  f143 := Tryz.func64.trans (congrArg some (by kernel_rfl))
  f146 := Tryz.func181.trans (congrArg some (by kernel_rfl))
  f195 := Tryz.func210.trans (congrArg some (by kernel_rfl))
  f197 := Tryz.func90.trans (congrArg some (by kernel_rfl))
  f217 := Tryz.func137.trans (congrArg some (by kernel_rfl))
  f218 := Tryz.func211.trans (congrArg some (by kernel_rfl))
  f219 := Tryz.func99.trans (congrArg some (by kernel_rfl))
  f221 := Tryz.func191.trans (congrArg some (by kernel_rfl))
  f224 := Tryz.func139.trans (congrArg some (by kernel_rfl))
  f225 := Tryz.func138.trans (congrArg some (by kernel_rfl))
  f260 := Tryz.func129.trans (congrArg some (by kernel_rfl))
  f266 := Tryz.func164.trans (congrArg some (by kernel_rfl))
  f267 := Tryz.func140.trans (congrArg some (by kernel_rfl))
  f268 := Tryz.func200.trans (congrArg some (by kernel_rfl))
  f314 := Tryz.func165.trans (congrArg some (by kernel_rfl))
  t0 := Tryz.underlying0
  a0 := Tryz.isAgg0
  z0 := Tryz.sizeOf0
  v0 := Tryz.zeroValue0
  t3 := Tryz.underlying3
  a3 := Tryz.isAgg3
  z3 := Tryz.sizeOf3
  v3 := Tryz.zeroValue3
  t4 := Tryz.underlying4
  a4 := Tryz.isAgg4
  z4 := Tryz.sizeOf4
  v4 := Tryz.zeroValue4
  t5 := Tryz.underlying5
  a5 := Tryz.isAgg5
  z5 := Tryz.sizeOf5
  v5 := Tryz.zeroValue5
  t9 := Tryz.underlying9
  a9 := Tryz.isAgg9
  z9 := Tryz.sizeOf9
  v9 := Tryz.zeroValue9
  t21 := Tryz.underlying21
  a21 := Tryz.isAgg21
  z21 := Tryz.sizeOf21
  v21 := Tryz.zeroValue21
  t31 := Tryz.underlying114
  a31 := Tryz.isAgg114
  z31 := Tryz.sizeOf114
  v31 := Tryz.zeroValue114
  t46 := Tryz.underlying43
  a46 := Tryz.isAgg43
  z46 := Tryz.sizeOf43
  v46 := Tryz.zeroValue43
  t51 := Tryz.underlying160
  a51 := Tryz.isAgg160
  z51 := Tryz.sizeOf160
  v51 := Tryz.zeroValue160
  t105 := Tryz.underlying125
  a105 := Tryz.isAgg125
  z105 := Tryz.sizeOf125
  v105 := Tryz.zeroValue125
  t119 := Tryz.underlying176
  a119 := Tryz.isAgg176
  z119 := Tryz.sizeOf176
  t138 := Tryz.underlying178
  a138 := Tryz.isAgg178
  z138 := Tryz.sizeOf178
  v138 := Tryz.zeroValue178
  t139 := Tryz.underlying179
  a139 := Tryz.isAgg179
  z139 := Tryz.sizeOf179
  v139 := Tryz.zeroValue179
  t146 := Tryz.underlying184
  a146 := Tryz.isAgg184
  z146 := Tryz.sizeOf184
  v146 := Tryz.zeroValue184
  g1 := by kernel_rfl
  g3 := by kernel_rfl
  g4 := by kernel_rfl }
open Go.RowKit Go.Lib in
/-- strings.Split. (LAID: no walk: one application.) -/
theorem Tryz.strings_Split (s sep : ByteArray) (m : Int) (w : World) (hs : s.size < 4294967281) (hm : w.cell? ⟨2, 0, none⟩ = some (.int .i64 m)) (h1 : 1 ≤ sep.size) :
    Calls Tryz.prog 181 #[.string s, .string sep] w fun e w' =>
      e = .returned (.slice (some ⟨w.heap.size, 0, none⟩) (Lib.countB s sep + 1) (Lib.countB s sep + 1)) ∧ w' = w.alloc (.cells ((Lib.splitB sep 0 (Lib.countB s sep) s).map Value.string).toArray 9) := Any.strings_Split Tryz.lays146 (by kernel_rfl) s sep m w hs hm h1
def Tryz.lays160_ren : Go.Shelf.Ren := ⟨fun | 160 => 193 | 232 => 204 | 231 => 203 | 227 => 168 | 234 => 206 | 233 => 205 | 236 => 208 | 235 => 207 | 228 => 169 | 271 => 213 | 151 => 212 | 197 => 90 | 120 => 214 | 152 => 166 | 260 => 129 | 137 => 116 | 119 => 179 | 224 => 139 | 225 => 138 | 217 => 137 | 266 => 164 | n => n, fun | 9 => 9 | 4 => 4 | 3 => 3 | 5 => 5 | 117 => 189 | 116 => 188 | 0 => 0 | 124 => 203 | 21 => 21 | 105 => 125 | 46 => 43 | 119 => 176 | 139 => 179 | 138 => 178 | n => n, fun | 3 => 3 | 4 => 4 | n => n⟩
theorem Tryz.lays160 : Go.Proofs.Lays.n160 Tryz.prog Tryz.lays160_ren := {
  mixed := by kernel_rfl
  f119 := Tryz.func179.trans (congrArg some (by kernel_rfl))
  f120 := Tryz.func214.trans (congrArg some (by kernel_rfl))
  f137 := Tryz.func116.trans (congrArg some (by kernel_rfl))
  f151 := Tryz.func212.trans (congrArg some (by kernel_rfl))
  f152 := Tryz.func166.trans (congrArg some (by kernel_rfl))
  f160 := Tryz.func193.trans (congrArg some (by kernel_rfl))
  f197 := Tryz.func90.trans (congrArg some (by kernel_rfl))
  f217 := Tryz.func137.trans (congrArg some (by kernel_rfl))
  f224 := Tryz.func139.trans (congrArg some (by kernel_rfl))
  f225 := Tryz.func138.trans (congrArg some (by kernel_rfl))
  f227 := Tryz.func168.trans (congrArg some (by kernel_rfl))
  f228 := Tryz.func169.trans (congrArg some (by kernel_rfl))
  f231 := Tryz.func203.trans (congrArg some (by kernel_rfl))
  f232 := Tryz.func204.trans (congrArg some (by kernel_rfl))
  f233 := Tryz.func205.trans (congrArg some (by kernel_rfl))
  f234 := Tryz.func206.trans (congrArg some (by kernel_rfl))
  f235 := Tryz.func207.trans (congrArg some (by kernel_rfl))
  f236 := Tryz.func208.trans (congrArg some (by kernel_rfl))
  f260 := Tryz.func129.trans (congrArg some (by kernel_rfl))
  f266 := Tryz.func164.trans (congrArg some (by kernel_rfl))
  f271 := Tryz.func213.trans (congrArg some (by kernel_rfl))
  t0 := Tryz.underlying0
  a0 := Tryz.isAgg0
  z0 := Tryz.sizeOf0
  v0 := Tryz.zeroValue0
  t3 := Tryz.underlying3
  a3 := Tryz.isAgg3
  z3 := Tryz.sizeOf3
  v3 := Tryz.zeroValue3
  t4 := Tryz.underlying4
  a4 := Tryz.isAgg4
  z4 := Tryz.sizeOf4
  v4 := Tryz.zeroValue4
  t5 := Tryz.underlying5
  a5 := Tryz.isAgg5
  z5 := Tryz.sizeOf5
  v5 := Tryz.zeroValue5
  t9 := Tryz.underlying9
  a9 := Tryz.isAgg9
  z9 := Tryz.sizeOf9
  v9 := Tryz.zeroValue9
  t21 := Tryz.underlying21
  a21 := Tryz.isAgg21
  z21 := Tryz.sizeOf21
  v21 := Tryz.zeroValue21
  t46 := Tryz.underlying43
  a46 := Tryz.isAgg43
  z46 := Tryz.sizeOf43
  v46 := Tryz.zeroValue43
  t105 := Tryz.underlying125
  a105 := Tryz.isAgg125
  z105 := Tryz.sizeOf125
  v105 := Tryz.zeroValue125
  t116 := Tryz.underlying188
  a116 := Tryz.isAgg188
  z116 := Tryz.sizeOf188
  t117 := Tryz.underlying189
  a117 := Tryz.isAgg189
  z117 := Tryz.sizeOf189
  v117 := Tryz.zeroValue189
  t119 := Tryz.underlying176
  a119 := Tryz.isAgg176
  z119 := Tryz.sizeOf176
  t124 := Tryz.underlying203
  a124 := Tryz.isAgg203
  z124 := Tryz.sizeOf203
  v124 := Tryz.zeroValue203
  t138 := Tryz.underlying178
  a138 := Tryz.isAgg178
  z138 := Tryz.sizeOf178
  v138 := Tryz.zeroValue178
  t139 := Tryz.underlying179
  a139 := Tryz.isAgg179
  z139 := Tryz.sizeOf179
  v139 := Tryz.zeroValue179
  g3 := by kernel_rfl
  g4 := by kernel_rfl }
open Go.RowKit in
theorem Tryz.strings_Trim_blank (s : ByteArray) (w : World) (hs : s.size ≤ 9223372036854775807) :
    Calls Tryz.prog 193 #[.string s, .string ⟨#[32, 9]⟩] w fun e w' => e = .returned (.string ⟨(Lib.trimS s.data.toList [32, 9]).toArray⟩) ∧ Below w.heap.size w w' := Any.strings_Trim_laid Tryz.lays160 (by kernel_rfl) s ⟨#[32, 9]⟩ w hs (by decide) (ascii_of_all (by decide))
end Go.Proofs
namespace Go.Proofs.YtkipjalfgdfaiaaGreatDoor
set_option linter.unusedVariables false
set_option linter.unusedSimpArgs false
open Go.RowKit Go.Proofs.YtkipjalfgdfaiaaGreatDoorW.PrintWords Go.Proofs.YtkipjalfgdfaiaaGreatDoorW.PrintLast Go.Proofs.YtkipjalfgdfaiaaGreatDoorW.PrintMore

/-- The library's variable bytealg.MaxLen holds m. -/
def MaxIs (w : World) (m : Int) : Prop := w.cell? ⟨2, 0, none⟩ = some (.int .i64 m)
theorem MaxIs.below {w w1 : World} {m : Int} (h : MaxIs w m) (hb : Below w.heap.size w w1) : MaxIs w1 m := pw_cell_below hb h
theorem drewN_below (w : World) (n : Nat) : Below w.heap.size w (w.drewN n) := pw_below_drewN (Below.refl _ _) n

theorem at_S {w : World} {A : Option Addr} {xs : List ByteArray} (h : Kd.C Kd.string w A xs.length xs) (j : Nat) (hj : j < xs.length) : ∃ ad, A = some ad ∧ w.cell? (ad.add j) = some (.string xs[j]) := by
  obtain ⟨ad, c, e, _, hK, hc⟩ := Kd.C_get h ByteArray.empty (j : Int) (by omega) (by omega)
  have e1 : xs.getD ((j : Int).toNat) ByteArray.empty = xs[j] := by simp [hj]
  rw [e1] at hK
  have hK2 : c = [.string xs[j]] := hK
  subst hK2
  have hz : (Kd.string).sz = 1 := rfl
  refine ⟨ad, e, ?_⟩
  have := hc 0 _ rfl
  simpa [hz] using this
theorem add_zero (ad : Addr) : ad.add 0 = ad := by
  cases ad with
  | mk b o s => cases s <;> simp [Addr.add]

theorem cutS_any (c : UInt8) (s : ByteArray) (m : Int) (w : World) (hs : s.size < 4294967281) (hm : MaxIs w m) :
    Calls Tryz.prog 192 #[.string s, .string ⟨#[c]⟩] w fun e w' => (∃ y b, e = .returned (.tuple #[.string (upB c s), .string y, .bool b])) ∧ Below w.heap.size w w' := by
  refine (Tryz.strings_Cut s ⟨#[c]⟩ m w hs hm).mono ?_
  rintro e w1 ⟨rfl, n, rfl⟩
  have h1 : (⟨(Lib.cut s.data.toList (⟨#[c]⟩ : ByteArray).data.toList).1.toArray⟩ : ByteArray) = upB c s := by
    unfold upB bsL
    rw [← cut_up]
  rw [h1]
  exact ⟨⟨_, _, rfl⟩, drewN_below _ _⟩
theorem splitS_any (c : UInt8) (s : ByteArray) (m : Int) (w : World) (hs : s.size < 4294967281) (hm : MaxIs w m) :
    Calls Tryz.prog 181 #[.string s, .string ⟨#[c]⟩] w fun e w' => e = .returned (.slice (some ⟨w.heap.size, 0, none⟩) (cutB c s).length (cutB c s).length) ∧ Own Kd.string 9 w' w.heap.size (.slice (some ⟨w.heap.size, 0, none⟩) (cutB c s).length (cutB c s).length) (cutB c s) ∧ Below w.heap.size w w' := by
  refine (Tryz.strings_Split s ⟨#[c]⟩ m w hs hm (Nat.le_refl 1)).mono ?_
  rintro e w1 ⟨rfl, rfl⟩
  rw [countB_cut, splitB_cut]
  have hl := cutB_length c s
  exact ⟨rfl, Kd.R_of_own (own_lit_of w w.heap.size 9 (cutB c s) (Nat.le_refl _) (by omega)) (fun _ _ => trivial), below_alloc (Below.refl _ _) _⟩
theorem trimS_any (s : ByteArray) (w : World) (hs : s.size < 4294967281) :
    Calls Tryz.prog 193 #[.string s, .string ⟨#[32, 9]⟩] w fun e w' => e = .returned (.string (trimB s)) ∧ Below w.heap.size w w' := Tryz.strings_Trim_blank s w (by omega)

set_option maxHeartbeats 4000000 in
set_option maxRecDepth 100000 in
theorem fields_any (s : ByteArray) (m : Int) (w : World) (hs : s.size < 4294967281) (hm : MaxIs w m) :
    Calls Tryz.prog 182 #[.string s] w fun e w' => ∃ v, e = .returned v ∧ Own Kd.string 9 w' w.heap.size v (fieldsB s) ∧ (fieldsB s = [] → v = .slice none 0 0) ∧ (fieldsB s ≠ [] → ∃ g, v = .slice (some ⟨g, 0, none⟩) (fieldsB s).length (fieldsB s).length) ∧ Below w.heap.size w w' := by
  have hcut := cutS_any 35 s m w hs hm
  have hus := upB_size 35 s
  have hF : fieldsB s = if (trimB (upB 35 s)).size = 0 then [] else (cutB 59 (trimB (upB 35 s))).map trimB := rfl
  obtain ⟨u, hu⟩ : ∃ u, upB 35 s = u := ⟨_, rfl⟩
  rw [hu] at hcut hus hF
  have hts := trimB_size u
  have htrim := fun W => trimS_any u W (by omega)
  obtain ⟨t, ht⟩ : ∃ t, trimB u = t := ⟨_, rfl⟩
  rw [ht] at hF hts htrim
  obtain ⟨F, hFF⟩ : ∃ F, fieldsB s = F := ⟨_, rfl⟩
  rw [hFF] at hF ⊢
  have HF := Aside0.mk hF
  have HM := Aside0.mk hm
  have hT : t.size < 4294967281 := by omega
  clear hF hm hFF hu ht
  go_enter Tryz.func182, Tryz.ntmps182
  go_wp2_with fail
  refine hcut.mono ?_
  rintro e w1 ⟨⟨y, b, rfl⟩, hb1⟩
  have HB1 := Aside0.mk hb1
  clear hb1
  go_wp2_with fail
  refine (htrim w1).mono ?_
  rintro e w2 ⟨rfl, hb2⟩
  have HB2 : Aside0 (Below w.heap.size w w2) := ⟨below_to HB1.out hb2⟩
  clear hb2 htrim hcut
  by_cases h0 : t.size = 0
  · have he : t = ByteArray.empty := ByteArray.size_eq_zero_iff.1 h0
    subst he
    have HF0 : Aside0 (F = []) := ⟨by rw [HF.out, if_pos h0]⟩
    go_wp2
    go_ret
    rw [HF0.out]
    exact ⟨_, rfl, Kd.R_nil _ _ _ _ _, fun _ => rfl, fun h => absurd rfl h, HB2.out⟩
  · have hne : t.toList.isEmpty = false := by
      rw [Lib.toList_data]
      cases h : t.data.toList with
      | nil => have := Lib.size_eq t; rw [h, List.length_nil] at this; omega
      | cons _ _ => rfl
    have HF1 : Aside0 (F = (cutB 59 t).map trimB) := ⟨by rw [HF.out, if_neg h0]⟩
    have hspl := splitS_any 59 t m w2 hT (HM.out.below HB2.out)
    have HPS : Aside0 (∀ x ∈ cutB 59 t, x.size < 4294967281) := ⟨fun x hx => Nat.lt_of_le_of_lt (cutB_part hx) hT⟩
    have HNE : Aside0 (cutB 59 t ≠ []) := ⟨cutB_ne _ _⟩
    have hPL := cutB_length 59 t
    obtain ⟨ps, hps⟩ : ∃ ps, cutB 59 t = ps := ⟨_, rfl⟩
    rw [hps] at hspl HF1 HPS HNE hPL
    clear hps
    go_wp2_with fail
    refine hspl.mono ?_
    rintro e w3 ⟨rfl, ho3, hb3⟩
    have HB3 : Aside0 (Below w.heap.size w w3) := ⟨below_to HB2.out hb3⟩
    have HG : Aside0 (w.heap.size ≤ w2.heap.size) := ⟨HB2.out.size⟩
    have HO3 : Aside0 (Own Kd.string 9 w3 w.heap.size (.slice (some ⟨w2.heap.size, 0, none⟩) ps.length ps.length) ps) := ⟨Kd.R_lower ho3 HG.out⟩
    obtain ⟨g, hg⟩ : ∃ g, w2.heap.size = g := ⟨_, rfl⟩
    rw [hg] at HO3 HG ⊢
    clear ho3 hb3 hspl hg
    go_wp2
    go_loopg [19] ps.length (fun gk i w' => ∃ (k : Nat) (l : List ByteArray), i = .int .i64 (k : Int) ∧ Aside0 (k ≤ ps.length ∧ gk = ps.length - k) ∧ Aside0 (l = (ps.take k).map trimB ++ ps.drop k) ∧ Aside0 (Own Kd.string 9 w' w.heap.size (.slice (some ⟨g, 0, none⟩) ps.length ps.length) l) ∧ Aside0 (Below w.heap.size w w'))
    case atStart => exact ⟨0, ps, by first | rfl | simp, ⟨Nat.zero_le _, rfl⟩, ⟨by simp⟩, HO3, HB3⟩
    case round =>
      obtain ⟨k, l, rfl, HA, HL, HO, HB⟩ := hrel
      by_cases hk : k < ps.length
      · have hl : l.length = ps.length := by rw [HL.out]; simp; omega
        obtain ⟨hc, hz⟩ := Kd.R_celln ByteArray.empty HO.out (k : Int) (by omega) (by omega)
        have he : rdOf ByteArray.empty l (k : Int) = ps[k] := by
          have e1 : l[k]? = some ps[k] := by
            rw [HL.out, List.getElem?_append_right (by simp; omega)]
            simp [hk, Nat.min_eq_left (Nat.le_of_lt hk)]
          unfold rdOf
          rw [Int.toNat_natCast, List.getD_eq_getElem?_getD, e1]
          rfl
        have hset : l.set k (trimB ps[k]) = (ps.take (k + 1)).map trimB ++ ps.drop (k + 1) := by
          have hk2 : ((ps.take k).map trimB).length = k := by simp; omega
          rw [HL.out, List.set_append_right _ _ (by omega), hk2, Nat.sub_self, List.drop_eq_getElem_cons hk, List.set_cons_zero, List.take_succ_eq_append_getElem hk, List.map_append, List.append_assoc]
          rfl
        rw [he] at hc
        have htr := fun W => trimS_any ps[k] W (HPS.out _ (List.getElem_mem hk))
        have HS := Aside0.mk hset
        obtain ⟨x, hx⟩ : ∃ x, ps[k] = x := ⟨_, rfl⟩
        rw [hx] at hc htr HS
        obtain ⟨r, hr⟩ : ∃ r, trimB x = r := ⟨_, rfl⟩
        rw [hr] at htr HS
        clear hset he hx hr
        simp only [Int.toNat_natCast] at hc hz
        go_wp2_with fail
        refine (htr _).mono ?_
        rintro e w4 ⟨rfl, hb4⟩
        have HO4 : Aside0 (Own Kd.string 9 w4 w.heap.size (.slice (some ⟨g, 0, none⟩) ps.length ps.length) l) := ⟨Kd.R_below HO.out hb4⟩
        have HB4 : Aside0 (Below w.heap.size w w4) := ⟨below_to HB.out hb4⟩
        obtain ⟨hc4, hz4⟩ := Kd.R_celln ByteArray.empty HO4.out (k : Int) (by omega) (by omega)
        have HO5 := Aside0.mk (Kd.R_putn HO4.out (k : Int) r)
        simp only [Int.toNat_natCast] at hc4 hz4 HO5
        rw [HS.out] at HO5
        clear hb4
        go_wp2
        go_roundg (ps.length - k - 1)
        case measure => have := HA.out; omega
        case rel => exact ⟨k + 1, _, by go_num, ⟨by omega, by omega⟩, ⟨rfl⟩, HO5, ⟨below_set HB4.out HG.out⟩⟩
      · have hall : l = F := by
          rw [HL.out, HF1.out, List.take_of_length_le (by omega), List.drop_of_length_le (by omega), List.append_nil]
        have HLN : Aside0 (F.length = ps.length) := ⟨by rw [HF1.out, List.length_map]⟩
        have HFN : Aside0 (F ≠ []) := ⟨fun h => HNE.out (List.map_eq_nil_iff.1 (HF1.out.symm.trans h))⟩
        subst hall
        go_wp2
        go_ret
        exact ⟨_, rfl, HO.out, fun h => absurd h HFN.out, fun _ => ⟨g, by rw [HLN.out]; rfl⟩, HB.out⟩

end Go.Proofs.YtkipjalfgdfaiaaGreatDoor
namespace Go.Proofs.YtkipjalfgdfaiaaGreatDoor.PNamesBack
open Go.RowKit Go.Proofs.YtkipjalfgdfaiaaGreatDoorW.PrintWords Go.Proofs.YtkipjalfgdfaiaaGreatDoorW.PrintLast Go.Proofs.YtkipjalfgdfaiaaGreatDoorW.PrintMore
set_option linter.unusedVariables false
set_option linter.unusedSimpArgs false



theorem info5 : (Tryz.prog.info? 5).map (fun i => (i.zero, i.size, i.bytes)) = some (some (.int .u8 0), 1, 1) := by kernel_rfl
section
def stringslite_HasPrefix.f (a0 : ByteArray) (a1 : ByteArray) : Option (Bool) := if (a0.size : Int) ≥ (a1.size : Int) then (if 0 ≤ (a1.size : Int) then (if (a1.size : Int) ≤ (a0.size : Int) then (some ((a0.extract 0 ((a1.size : Int) : Int).toNat).toList == a1.toList)) else (none)) else (none)) else (some false)
set_option maxHeartbeats 8000000 in
set_option maxRecDepth 100000 in
theorem stringslite_HasPrefix.calls (a0 : ByteArray) (a1 : ByteArray) (r : Bool) (w : World) (h : stringslite_HasPrefix.f a0 a1 = some r) :
    Calls Tryz.prog 146 #[.string a0, .string a1] w fun e w' => e = .returned (.bool r) ∧ Drawn0 w w' := by
  have H : (if (a0.size : Int) ≥ (a1.size : Int) then (if 0 ≤ (a1.size : Int) then (if (a1.size : Int) ≤ (a0.size : Int) then (some ((a0.extract 0 ((a1.size : Int) : Int).toNat).toList == a1.toList)) else (none)) else (none)) else (some false)) = some r := h
  clear h
  by_cases c3 : (a0.size : Int) ≥ (a1.size : Int)
  · rw [if_pos c3] at H
    have c3b0 : decide ((a1.size : Int) ≤ (a0.size : Int)) = true := decide_eq_true c3
    have c3b1 : decide (a1.size ≤ a0.size) = true := decide_eq_true (Int.ofNat_le.mp c3)
    clear c3
    by_cases c4 : 0 ≤ (a1.size : Int)
    · rw [if_pos c4] at H
      have c4b0 := eq_true c4
      have c4b1 : decide (0 ≤ (a1.size : Int)) = true := decide_eq_true c4
      clear c4
      by_cases c5 : (a1.size : Int) ≤ (a0.size : Int)
      · rw [if_pos c5] at H
        have c5b0 := eq_true c5
        have c5b1 : decide ((a1.size : Int) ≤ (a0.size : Int)) = true := decide_eq_true c5
        clear c5
        obtain rfl := Option.some.inj H
        go_enter Tryz.func146, Tryz.ntmps146
        go_wp2
        go_ret
        exact ⟨by first | rfl | (simp; done) | (simp [*]; done), by repeat (first | exact Drawn0.refl _ | apply Drawn0.step)⟩
      · rw [if_neg c5] at H
        exact absurd H (by simp)
    · rw [if_neg c4] at H
      exact absurd H (by simp)
  · rw [if_neg c3] at H
    have c3b0 : decide ((a1.size : Int) ≤ (a0.size : Int)) = false := decide_eq_false c3
    have c3b1 : decide (a1.size ≤ a0.size) = false := decide_eq_false (fun h => c3 (Int.ofNat_le.mpr h))
    clear c3
    obtain rfl := Option.some.inj H
    go_enter Tryz.func146, Tryz.ntmps146
    go_wp2
    go_ret
    exact ⟨by first | rfl | (simp; done) | (simp [*]; done), by repeat (first | exact Drawn0.refl _ | apply Drawn0.step)⟩


end

section
def stringslite_CutPrefix.f (a0 : ByteArray) (a1 : ByteArray) : Option (ByteArray × Bool) := (stringslite_HasPrefix.f a0 a1).bind fun t111 => (if t111 = true then (if 0 ≤ (a1.size : Int) then (if (a1.size : Int) ≤ (a0.size : Int) then (some (a0.extract ((a1.size : Int) : Int).toNat a0.size, true)) else (none)) else (none)) else (some (a0, false)))
set_option maxHeartbeats 8000000 in
set_option maxRecDepth 100000 in
theorem stringslite_CutPrefix.calls (a0 : ByteArray) (a1 : ByteArray) (r1 : ByteArray) (r2 : Bool) (w : World) (h : stringslite_CutPrefix.f a0 a1 = some (r1, r2)) :
    Calls Tryz.prog 190 #[.string a0, .string a1] w fun e w' => e = .returned (.tuple #[.string r1, .bool r2]) ∧ Drawn0 w w' := by
  have H : ((stringslite_HasPrefix.f a0 a1).bind fun t111 => (if t111 = true then (if 0 ≤ (a1.size : Int) then (if (a1.size : Int) ≤ (a0.size : Int) then (some (a0.extract ((a1.size : Int) : Int).toNat a0.size, true)) else (none)) else (none)) else (some (a0, false)))) = some (r1, r2) := h
  clear h
  replace H := Option.bind_eq_some_iff.mp H
  obtain ⟨t111, A30, H⟩ := H
  replace H : (if t111 = true then (if 0 ≤ (a1.size : Int) then (if (a1.size : Int) ≤ (a0.size : Int) then (some (a0.extract ((a1.size : Int) : Int).toNat a0.size, true)) else (none)) else (none)) else (some (a0, false))) = some (r1, r2) := H
  have A3 := Aside0.mk A30
  clear A30
  by_cases c4 : t111 = true
  · subst c4
    have H1 : (if 0 ≤ (a1.size : Int) then (if (a1.size : Int) ≤ (a0.size : Int) then (some (a0.extract ((a1.size : Int) : Int).toNat a0.size, true)) else (none)) else (none)) = some (r1, r2) := by rw [if_pos rfl] at H; exact H
    clear H
    have H := H1
    clear H1
    by_cases c5 : 0 ≤ (a1.size : Int)
    · rw [if_pos c5] at H
      have c5b0 := eq_true c5
      have c5b1 : decide (0 ≤ (a1.size : Int)) = true := decide_eq_true c5
      clear c5
      by_cases c6 : (a1.size : Int) ≤ (a0.size : Int)
      · rw [if_pos c6] at H
        have c6b0 := eq_true c6
        have c6b1 : decide ((a1.size : Int) ≤ (a0.size : Int)) = true := decide_eq_true c6
        clear c6
        simp only [Option.some.injEq, Prod.mk.injEq] at H
        obtain ⟨rfl, rfl⟩ := H
        go_enter Tryz.func190, Tryz.ntmps190
        go_wp2_with (first | ((with_reducible refine gate_callee (f := 146) rfl ?_); refine goesL_ (some 8) rfl rfl Tryz.func146 (by kernel_rfl) rfl #[.string a0, .string a1] rfl (by (try simp only [List.map_toArray, List.map_cons, List.map_nil]); first | done | rfl | (simp only [List.length_drop, List.length_take]; rfl)) ?_; (with_reducible refine (stringslite_HasPrefix.calls a0 a1 true _ A3.out).mono ?_); rintro e w' ⟨rfl, ⟨nd, rfl⟩⟩; refine ⟨_, rfl, ?_⟩))
        go_ret2
        exact ⟨by first | rfl | (simp; done) | (simp [*]; done), by repeat (first | exact Drawn0.refl _ | apply Drawn0.step)⟩
      · rw [if_neg c6] at H
        exact absurd H (by simp)
    · rw [if_neg c5] at H
      exact absurd H (by simp)
  · replace c4 := Bool.eq_false_iff.mpr c4
    subst c4
    have H1 : (some (a0, false)) = some (r1, r2) := by rw [if_neg (show ¬ (false = true) by decide)] at H; exact H
    clear H
    have H := H1
    clear H1
    simp only [Option.some.injEq, Prod.mk.injEq] at H
    obtain ⟨rfl, rfl⟩ := H
    go_enter Tryz.func190, Tryz.ntmps190
    go_wp2_with (first | ((with_reducible refine gate_callee (f := 146) rfl ?_); refine goesL_ (some 8) rfl rfl Tryz.func146 (by kernel_rfl) rfl #[.string a0, .string a1] rfl (by (try simp only [List.map_toArray, List.map_cons, List.map_nil]); first | done | rfl | (simp only [List.length_drop, List.length_take]; rfl)) ?_; (with_reducible refine (stringslite_HasPrefix.calls a0 a1 false _ A3.out).mono ?_); rintro e w' ⟨rfl, ⟨nd, rfl⟩⟩; refine ⟨_, rfl, ?_⟩))
    go_ret2
    exact ⟨by first | rfl | (simp; done) | (simp [*]; done), by repeat (first | exact Drawn0.refl _ | apply Drawn0.step)⟩


end

section
def strings_CutPrefix.f (a0 : ByteArray) (a1 : ByteArray) : Option (ByteArray × Bool) := (stringslite_CutPrefix.f a0 a1).bind fun bt112 => (some (bt112.1, bt112.2))
set_option maxHeartbeats 8000000 in
set_option maxRecDepth 100000 in
theorem strings_CutPrefix.calls (a0 : ByteArray) (a1 : ByteArray) (r1 : ByteArray) (r2 : Bool) (w : World) (h : strings_CutPrefix.f a0 a1 = some (r1, r2)) :
    Calls Tryz.prog 180 #[.string a0, .string a1] w fun e w' => e = .returned (.tuple #[.string r1, .bool r2]) ∧ Drawn0 w w' := by
  have H : ((stringslite_CutPrefix.f a0 a1).bind fun bt112 => (some (bt112.1, bt112.2))) = some (r1, r2) := h
  clear h
  replace H := Option.bind_eq_some_iff.mp H
  obtain ⟨⟨t112, t113⟩, A30, H⟩ := H
  replace H : (some (t112, t113)) = some (r1, r2) := H
  have A3 := Aside0.mk A30
  clear A30
  simp only [Option.some.injEq, Prod.mk.injEq] at H
  obtain ⟨rfl, rfl⟩ := H
  go_enter Tryz.func180, Tryz.ntmps180
  go_wp2_with (first | ((with_reducible refine gate_callee (f := 190) rfl ?_); refine goesL_ (some 8) rfl rfl Tryz.func190 (by kernel_rfl) rfl #[.string a0, .string a1] rfl (by (try simp only [List.map_toArray, List.map_cons, List.map_nil]); first | done | rfl | (simp only [List.length_drop, List.length_take]; rfl)) ?_; (with_reducible refine (stringslite_CutPrefix.calls a0 a1 t112 t113 _ A3.out).mono ?_); rintro e w' ⟨rfl, ⟨nd, rfl⟩⟩; refine ⟨_, rfl, ?_⟩))
  go_ret2
  exact ⟨by first | rfl | (simp; done) | (simp [*]; done), by repeat (first | exact Drawn0.refl _ | apply Drawn0.step)⟩



end

section
def names_number.f (a0 : ByteArray) : Option (Int) := if a0.toList = ([103, 99] : List UInt8) then (some 1) else (if a0.toList = ([115, 99] : List UInt8) then (some 2) else (some 3))
set_option maxHeartbeats 8000000 in
set_option maxRecDepth 100000 in
theorem names_number.calls (a0 : ByteArray) (r : Int) (w : World) (h : names_number.f a0 = some r) :
    Calls Tryz.prog 144 #[.string a0] w fun e w' => e = .returned (.int .i64 r) ∧ Drawn0 w w' := by
  have H : (if a0.toList = ([103, 99] : List UInt8) then (some 1) else (if a0.toList = ([115, 99] : List UInt8) then (some 2) else (some 3))) = some r := h
  clear h
  by_cases c2 : a0.toList = ([103, 99] : List UInt8)
  · rw [if_pos c2] at H
    have c2b0 : (a0.toList == ([103, 99] : List UInt8)) = true := beq_iff_eq.mpr c2
    have c2b1 : (a0.toList != ([103, 99] : List UInt8)) = false := bne_eq_false_iff_eq.mpr c2
    clear c2
    obtain rfl := Option.some.inj H
    go_enter Tryz.func144, Tryz.ntmps144
    go_wp2
    go_ret
    exact ⟨by first | rfl | (simp; done) | (simp [*]; done), by repeat (first | exact Drawn0.refl _ | apply Drawn0.step)⟩
  · rw [if_neg c2] at H
    have c2b0 : (a0.toList == ([103, 99] : List UInt8)) = false := beq_eq_false_iff_ne.mpr c2
    have c2b1 : (a0.toList != ([103, 99] : List UInt8)) = true := bne_iff_ne.mpr c2
    by_cases c3 : a0.toList = ([115, 99] : List UInt8)
    · rw [if_pos c3] at H
      have c3b0 : (a0.toList == ([115, 99] : List UInt8)) = true := beq_iff_eq.mpr c3
      have c3b1 : (a0.toList != ([115, 99] : List UInt8)) = false := bne_eq_false_iff_eq.mpr c3
      clear c3
      obtain rfl := Option.some.inj H
      go_enter Tryz.func144, Tryz.ntmps144
      go_wp2
      go_ret
      exact ⟨by first | rfl | (simp; done) | (simp [*]; done), by repeat (first | exact Drawn0.refl _ | apply Drawn0.step)⟩
    · rw [if_neg c3] at H
      have c3b0 : (a0.toList == ([115, 99] : List UInt8)) = false := beq_eq_false_iff_ne.mpr c3
      have c3b1 : (a0.toList != ([115, 99] : List UInt8)) = true := bne_iff_ne.mpr c3
      obtain rfl := Option.some.inj H
      go_enter Tryz.func144, Tryz.ntmps144
      go_wp2
      go_ret
      exact ⟨by first | rfl | (simp; done) | (simp [*]; done), by repeat (first | exact Drawn0.refl _ | apply Drawn0.step)⟩





end



end Go.Proofs.YtkipjalfgdfaiaaGreatDoor.PNamesBack
namespace Go.Proofs.YtkipjalfgdfaiaaGreatDoor
set_option linter.unusedVariables false
set_option linter.unusedSimpArgs false
open Go.RowKit Go.Proofs.YtkipjalfgdfaiaaGreatDoorW.PrintWords Go.Proofs.YtkipjalfgdfaiaaGreatDoorW.PrintLast Go.Proofs.YtkipjalfgdfaiaaGreatDoorW.PrintMore

def skipB (b : UInt8) : Bool := b == 32 || b == 45 || b == 95
def lowB (b : UInt8) : UInt8 := if 65 ≤ b.toNat ∧ b.toNat ≤ 90 then b + 32 else b
def lowL : List UInt8 → List UInt8
  | [] => []
  | b :: l => if skipB b = true then lowL l else lowB b :: lowL l
theorem lowL_snoc : ∀ (l : List UInt8) (b : UInt8), lowL (l ++ [b]) = lowL l ++ (if skipB b = true then [] else [lowB b])
  | [], b => by
    show lowL [b] = _
    unfold lowL
    split <;> rfl
  | c :: l, b => by
    have ih := lowL_snoc l b
    show lowL (c :: (l ++ [b])) = _
    by_cases h : skipB c = true
    · rw [lowL, if_pos h, lowL, if_pos h, ih]
    · rw [lowL, if_neg h, lowL, if_neg h, ih, List.cons_append]
theorem lowL_length : ∀ l : List UInt8, (lowL l).length ≤ l.length
  | [] => Nat.le_refl _
  | b :: l => by
    have ih := lowL_length l
    unfold lowL
    split
    · simp only [List.length_cons]
      omega
    · simp only [List.length_cons]
      omega
/-- What stands behind "is". -/
def cutIs (o : List UInt8) : List UInt8 := if 2 < o.length ∧ o.take 2 = [105, 115] then o.drop 2 else o
def looseB (s : ByteArray) : ByteArray := bsL (cutIs (lowL s.data.toList))
def numsOf (l : List UInt8) : List Int := l.map fun b => (b.toNat : Int)
theorem strOf_nums (l : List UInt8) : strOfNums (numsOf l) = bsL l := by
  unfold strOfNums numsOf bsL
  rw [List.map_map]
  have h : ((fun n : Int => UInt8.ofNat n.toNat) ∘ fun b : UInt8 => (b.toNat : Int)) = id := by
    funext b
    simp
  first
    | (rw [h, List.map_id])
    | (congr 1; simp only [Function.comp_def] at h ⊢; simp [h])
theorem numsOf_app (l m : List UInt8) : numsOf (l ++ m) = numsOf l ++ numsOf m := List.map_append
theorem numsOf_length (l : List UInt8) : (numsOf l).length = l.length := List.length_map _
theorem low_or (b : UInt8) (h0 : 65 ≤ b.toNat) (h1 : b.toNat ≤ 90) : bits .or .u8 (b.toNat : Int) 32 = ((b + 32).toNat : Int) := by
  have key : ∀ n : Fin 256, 65 ≤ n.val → n.val ≤ 90 → bits .or .u8 (n.val : Int) 32 = ((UInt8.ofNat n.val + 32).toNat : Int) := by decide +kernel
  have h := key ⟨b.toNat, UInt8.toNat_lt b⟩ h0 h1
  rw [show UInt8.ofNat b.toNat = b by simp] at h
  exact h
theorem skipB_is (b : UInt8) : skipB b = true ↔ b.toNat = 32 ∨ b.toNat = 45 ∨ b.toNat = 95 := by
  unfold skipB
  simp only [Bool.or_eq_true, beq_iff_eq]
  constructor
  · rintro ((rfl | rfl) | rfl)
    · exact .inl rfl
    · exact .inr (.inl rfl)
    · exact .inr (.inr rfl)
  · rintro (h | h | h)
    · exact .inl (.inl (UInt8.toNat_inj.1 h))
    · exact .inl (.inr (UInt8.toNat_inj.1 h))
    · exact .inr (UInt8.toNat_inj.1 h)
theorem take_two {o : List UInt8} (h : 2 ≤ o.length) : (bsL o).extract 0 2 = bsL (o.take 2) := by
  rw [ext_bsL]
  rfl
theorem drop_two (o : List UInt8) : (bsL o).extract 2 (bsL o).size = bsL (o.drop 2) := by
  rw [ext_bsL, size_bsL]
  congr 1
  exact List.take_of_length_le (by rw [List.length_drop]; exact Nat.le_refl _)
theorem toList_bsL (l : List UInt8) : (bsL l).toList = l := by rw [Lib.toList_data, data_bsL]
/-- What strings.CutPrefix answers at "is". -/
theorem prefix_is (o : List UInt8) : Go.Proofs.YtkipjalfgdfaiaaGreatDoor.PNamesBack.strings_CutPrefix.f (bsL o) ⟨#[105, 115]⟩ = some (if 2 ≤ o.length ∧ o.take 2 = [105, 115] then (bsL (o.drop 2), true) else (bsL o, false)) := by
  have h2 : (⟨#[105, 115]⟩ : ByteArray).size = 2 := rfl
  have hl : (⟨#[105, 115]⟩ : ByteArray).toList = [105, 115] := by rw [Lib.toList_data]
  have hp : Go.Proofs.YtkipjalfgdfaiaaGreatDoor.PNamesBack.stringslite_HasPrefix.f (bsL o) ⟨#[105, 115]⟩ = some (decide (2 ≤ o.length ∧ o.take 2 = [105, 115])) := by
    unfold Go.Proofs.YtkipjalfgdfaiaaGreatDoor.PNamesBack.stringslite_HasPrefix.f
    rw [h2, hl, size_bsL]
    by_cases h : 2 ≤ o.length
    · rw [if_pos (by omega), if_pos (by omega), if_pos (by omega)]
      have e : ((2 : Nat) : Int).toNat = 2 := rfl
      rw [e, take_two h, toList_bsL]
      congr 1
      by_cases hq : o.take 2 = [105, 115]
      · rw [hq]
        simp [h]
      · rw [decide_eq_false (fun hh => hq hh.2)]
        exact beq_eq_false_iff_ne.2 hq
    · rw [if_neg (by omega), decide_eq_false (fun hh => h hh.1)]
  unfold Go.Proofs.YtkipjalfgdfaiaaGreatDoor.PNamesBack.strings_CutPrefix.f Go.Proofs.YtkipjalfgdfaiaaGreatDoor.PNamesBack.stringslite_CutPrefix.f
  rw [hp, Option.bind_some]
  by_cases h : 2 ≤ o.length ∧ o.take 2 = [105, 115]
  · rw [if_pos h, if_pos (decide_eq_true h), h2, size_bsL, if_pos (by omega), if_pos (by omega)]
    have e : ((2 : Nat) : Int).toNat = 2 := rfl
    rw [e, Option.bind_some]
    have := drop_two o
    rw [size_bsL] at this
    rw [this]
  · rw [if_neg h, if_neg (by rw [decide_eq_false h]; decide), Option.bind_some]

set_option maxHeartbeats 4000000 in
set_option maxRecDepth 100000 in
theorem loose_any (s : ByteArray) (w : World) (hs : s.size < 140737488355328) :
    Calls Tryz.prog 170 #[.string s] w fun e w' => e = .returned (.string (looseB s)) ∧ Below w.heap.size w w' := by
  have hconv := fun W => print_bytes (P := Tryz.prog) 9 34 5 Tryz.underlying9 Tryz.underlying34 Tryz.underlying5 s W
  obtain ⟨cap, hcap⟩ : ∃ cap, grownCap w s.size 0 5 = cap := ⟨_, rfl⟩
  have hc := hconv w
  rw [hcap] at hc
  have hrd := bytes_reads w 5 s (by omega)
  have hbl := bytes_below (Below.refl w.heap.size w) (Nat.le_refl _) 5 s
  obtain ⟨W0, hW0⟩ : ∃ W0, Lib.bytesWorld w 5 s = W0 := ⟨_, rfl⟩
  rw [hW0] at hc hrd hbl
  have HR := Aside0.mk hrd
  have HB0 := Aside0.mk hbl
  have hsz : s.data.toList.length = s.size := data_length s
  have HA0 : Aside0 (looseB s = bsL (cutIs (lowL s.data.toList))) := ⟨rfl⟩
  have HBT : Aside0 (∀ k b, s.data.toList[k]? = some b → bt s ((k : Nat) : Int) = (b.toNat : Int)) := ⟨fun k b hb => by
    obtain ⟨hk, rfl⟩ := List.getElem?_eq_some_iff.1 hb
    have := bt_bsL s.data.toList k hk
    rwa [bsL_data] at this⟩
  obtain ⟨L, hL⟩ : ∃ L, s.data.toList = L := ⟨_, rfl⟩
  obtain ⟨ans, hans⟩ : ∃ ans, looseB s = ans := ⟨_, rfl⟩
  rw [hL] at hsz HA0 HBT
  rw [hans] at HA0 ⊢
  clear hconv hcap hrd hbl hW0 hans hL
  go_enter Tryz.func170, Tryz.ntmps170
  go_wp2
  go_loopg [3, 12] s.size (fun gk z i w' => ∃ (k : Nat), i = .int .i64 (k : Int) ∧ Aside0 (k ≤ s.size ∧ gk = s.size - k) ∧ Aside0 (Own (Kd.int .u8) 5 w' W0.heap.size z (numsOf (lowL (L.take k)))) ∧ Aside0 (Below W0.heap.size W0 w'))
  case atStart => exact ⟨0, by first | rfl | simp, ⟨Nat.zero_le _, rfl⟩, ⟨Kd.R_nil _ _ _ _ _⟩, ⟨Below.refl _ _⟩⟩
  case round =>
    obtain ⟨k, rfl, HA, HO, HB1⟩ := hrel
    by_cases hk : k < s.size
    · have hkL : k < L.length := by omega
      obtain ⟨b, hb⟩ : ∃ b, L[k] = b := ⟨_, rfl⟩
      have hbo : L[k]? = some b := by rw [List.getElem?_eq_getElem hkL, hb]
      have hT : lowL (L.take (k + 1)) = lowL (L.take k) ++ (if skipB b = true then [] else [lowB b]) := by rw [List.take_succ_eq_append_getElem hkL, hb, lowL_snoc]
      obtain ⟨ad, hae, hx⟩ := HR.out.at_ (k : Int) (by omega) (by omega)
      cases hae
      rw [rd_bytesOf, HBT.out k b hbo, Int.toNat_natCast, add_plain] at hx
      replace hx := pw_cell_below HB1.out hx
      have hb255 := UInt8.toNat_lt b
      have hlen := lowL_length (L.take k)
      rw [List.length_take, Nat.min_eq_left (by omega)] at hlen
      have HLO := Aside0.mk (low_or b)
      have HSK := Aside0.mk (skipB_is b)
      have HLB : Aside0 (lowB b = if 65 ≤ b.toNat ∧ b.toNat ≤ 90 then b + 32 else b) := ⟨rfl⟩
      have HTT := Aside0.mk hT
      clear hT hbo hb
      obtain ⟨O, hO⟩ : ∃ O, lowL (L.take k) = O := ⟨_, rfl⟩
      rw [hO] at HO HTT hlen
      clear hO
      obtain ⟨c, hcb⟩ : ∃ c : Int, (b.toNat : Int) = c := ⟨_, rfl⟩
      rw [hcb] at hx HLO
      have hc0 : 0 ≤ c ∧ c ≤ 255 := by omega
      by_cases hsk : c = 32 ∨ c = 45 ∨ c = 95
      · have HE : Aside0 (lowL (L.take (k + 1)) = O) := ⟨by rw [HTT.out, if_pos (HSK.out.2 (by omega)), List.append_nil]⟩
        have hv : c = 32 ∨ (c = 45 ∨ c = 95) := hsk
        clear HLO HSK HLB HTT hcb
        rcases hv with rfl | rfl | rfl
        · go_wp2
          go_roundg (s.size - k - 1)
          case measure => have := HA.out; omega
          case rel => exact ⟨k + 1, by go_num, ⟨by omega, by omega⟩, ⟨by rw [HE.out]; exact HO.out⟩, HB1⟩
        · go_wp2
          go_roundg (s.size - k - 1)
          case measure => have := HA.out; omega
          case rel => exact ⟨k + 1, by go_num, ⟨by omega, by omega⟩, ⟨by rw [HE.out]; exact HO.out⟩, HB1⟩
        · go_wp2
          go_roundg (s.size - k - 1)
          case measure => have := HA.out; omega
          case rel => exact ⟨k + 1, by go_num, ⟨by omega, by omega⟩, ⟨by rw [HE.out]; exact HO.out⟩, HB1⟩
      · have n32 : ¬ c = 32 := fun h => hsk (.inl h)
        have n45 : ¬ c = 45 := fun h => hsk (.inr (.inl h))
        have n95 : ¬ c = 95 := fun h => hsk (.inr (.inr h))
        have e32 : (c == 32) = false := beq_eq_false_iff_ne.2 n32
        have e45 : (c == 45) = false := beq_eq_false_iff_ne.2 n45
        have e95 : (c == 95) = false := beq_eq_false_iff_ne.2 n95
        have hns : ¬ skipB b = true := fun h => by have := HSK.out.1 h; omega
        by_cases hup : 65 ≤ c ∧ c ≤ 90
        · obtain ⟨h65, h90⟩ := hup
          have hor := HLO.out (by omega) (by omega)
          have HE : Aside0 (numsOf (lowL (L.take (k + 1))) = numsOf O ++ [((b + 32).toNat : Int)]) := ⟨by
            rw [HTT.out, if_neg hns, HLB.out, if_pos ⟨by omega, by omega⟩, numsOf_app]
            rfl⟩
          obtain ⟨d, hd⟩ : ∃ d : Int, ((b + 32).toNat : Int) = d := ⟨_, rfl⟩
          rw [hd] at hor HE
          have hol := numsOf_length O
          clear HLO HSK HLB HTT hcb hsk hns hd
          go_wp2_with (at_builtin; refine Kd.R_append (Kd.int .u8) (w0 := W0) W0.heap.size rfl (.tmp 36) (.tmp 38) 34 5 (.int .u8 0) 1 rfl Tryz.underlying34 Go.Proofs.YtkipjalfgdfaiaaGreatDoor.PNamesBack.info5 rfl (by decide) (by omega) u3 (numsOf O) d [.int .u8 d] (fun _ => True) (fun _ => False) rfl ?aX1 (int_mkM _ _ _ _ _) (fun _ h => h.elim) (fun _ _ => trivial) HO.out HB1.out ?aS1 ?aL1 ?_)
          try (case aX1 => rfl)
          case aS1 => exact HB1.out.size
          case aL1 => omega
          intro v1 w1 ho hb hg _
          have HO1 := Aside0.mk ho
          have HB2 := Aside0.mk hb
          clear ho hb hg
          go_wp2
          go_roundg (s.size - k - 1)
          case measure => have := HA.out; omega
          case rel => exact ⟨k + 1, by go_num, ⟨by omega, by omega⟩, ⟨by rw [HE.out]; exact HO1.out⟩, HB2⟩
        · have HE : Aside0 (numsOf (lowL (L.take (k + 1))) = numsOf O ++ [c]) := ⟨by
            rw [HTT.out, if_neg hns, HLB.out, if_neg (by omega), numsOf_app, ← hcb]
            rfl⟩
          have hol := numsOf_length O
          clear HLO HSK HLB HTT hcb hsk hns
          by_cases h65 : 65 ≤ c
          · have h90 : 90 < c := by omega
            go_wp2_with (at_builtin; refine Kd.R_append (Kd.int .u8) (w0 := W0) W0.heap.size rfl (.tmp 36) (.tmp 38) 34 5 (.int .u8 0) 1 rfl Tryz.underlying34 Go.Proofs.YtkipjalfgdfaiaaGreatDoor.PNamesBack.info5 rfl (by decide) (by omega) u3 (numsOf O) c [.int .u8 c] (fun _ => True) (fun _ => False) rfl ?aX2 (int_mkM _ _ _ _ _) (fun _ h => h.elim) (fun _ _ => trivial) HO.out HB1.out ?aS2 ?aL2 ?_)
            try (case aX2 => rfl)
            case aS2 => exact HB1.out.size
            case aL2 => omega
            intro v1 w1 ho hb hg _
            have HO1 := Aside0.mk ho
            have HB2 := Aside0.mk hb
            clear ho hb hg
            go_wp2
            go_roundg (s.size - k - 1)
            case measure => have := HA.out; omega
            case rel => exact ⟨k + 1, by go_num, ⟨by omega, by omega⟩, ⟨by rw [HE.out]; exact HO1.out⟩, HB2⟩
          · have h65' : c < 65 := by omega
            go_wp2_with (at_builtin; refine Kd.R_append (Kd.int .u8) (w0 := W0) W0.heap.size rfl (.tmp 36) (.tmp 38) 34 5 (.int .u8 0) 1 rfl Tryz.underlying34 Go.Proofs.YtkipjalfgdfaiaaGreatDoor.PNamesBack.info5 rfl (by decide) (by omega) u3 (numsOf O) c [.int .u8 c] (fun _ => True) (fun _ => False) rfl ?aX3 (int_mkM _ _ _ _ _) (fun _ h => h.elim) (fun _ _ => trivial) HO.out HB1.out ?aS3 ?aL3 ?_)
            try (case aX3 => rfl)
            case aS3 => exact HB1.out.size
            case aL3 => omega
            intro v1 w1 ho hb hg _
            have HO1 := Aside0.mk ho
            have HB2 := Aside0.mk hb
            clear ho hb hg
            go_wp2
            go_roundg (s.size - k - 1)
            case measure => have := HA.out; omega
            case rel => exact ⟨k + 1, by go_num, ⟨by omega, by omega⟩, ⟨by rw [HE.out]; exact HO1.out⟩, HB2⟩
    · have hall : L.take k = L := List.take_of_length_le (by omega)
      rw [hall] at HO
      obtain ⟨Av, cv, rfl, hcv, hrv⟩ := Kd.R_reads HO.out
      have hstr := fun W (h : Kd.C (Kd.int .u8) W Av (numsOf (lowL L)).length (numsOf (lowL L))) => Kd.C_string (P := Tryz.prog) (src := 34) (dst := 9) (e := 5) (c := cv) Tryz.underlying34 Tryz.underlying5 Tryz.underlying9 h
      have hs2 := hstr wr hrv
      rw [strOf_nums] at hs2
      have hpre := prefix_is (lowL L)
      obtain ⟨O, hO⟩ : ∃ O, lowL L = O := ⟨_, rfl⟩
      rw [hO] at hs2 hpre HA0 ⊢
      obtain ⟨n, hn⟩ : ∃ n, (numsOf O).length = n := ⟨_, rfl⟩
      rw [hn] at hs2 ⊢
      have HB : Aside0 (Below w.heap.size w wr) := ⟨below_to HB0.out HB1.out⟩
      clear hstr hrv hcv HO hall hO HR
      by_cases hp : 2 ≤ O.length ∧ O.take 2 = [105, 115]
      · rw [if_pos hp] at hpre
        have hcall := fun W => Go.Proofs.YtkipjalfgdfaiaaGreatDoor.PNamesBack.strings_CutPrefix.calls (bsL O) ⟨#[105, 115]⟩ (bsL (O.drop 2)) true W hpre
        by_cases hl : 2 < O.length
        · have HQ : Aside0 (ans = bsL (O.drop 2)) := ⟨by rw [HA0.out]; unfold cutIs; rw [if_pos ⟨hl, hp.2⟩]⟩
          have hd : (O.drop 2).length ≠ 0 := by rw [List.length_drop]; omega
          obtain ⟨D, hD⟩ : ∃ D, bsL (O.drop 2) = D := ⟨_, rfl⟩
          have hne : D.toList.isEmpty = false := by
            rw [← hD, toList_bsL]
            cases hh : O.drop 2 with
            | nil => rw [hh] at hd; exact absurd rfl hd
            | cons _ _ => rfl
          rw [hD] at HQ hcall
          obtain ⟨OB, hOB⟩ : ∃ OB, bsL O = OB := ⟨_, rfl⟩
          rw [hOB] at hs2 hcall
          clear hpre hp hd hD hOB
          go_wp2_with fail
          refine (hcall _).mono ?_
          rintro e w2 ⟨rfl, hd2⟩
          have HB2 : Aside0 (Below w.heap.size w w2) := ⟨below_to HB.out hd2.below⟩
          clear hd2 hcall
          go_wp2
          go_ret
          rw [HQ.out]
          exact ⟨rfl, HB2.out⟩
        · have HQ : Aside0 (ans = bsL O) := ⟨by rw [HA0.out]; unfold cutIs; rw [if_neg (fun h => hl h.1)]⟩
          have hd : O.drop 2 = [] := List.drop_of_length_le (by omega)
          rw [hd] at hcall
          obtain ⟨OB, hOB⟩ : ∃ OB, bsL O = OB := ⟨_, rfl⟩
          rw [hOB] at hs2 hcall HQ
          have hemp : bsL [] = ByteArray.empty := rfl
          rw [hemp] at hcall
          clear hpre hp hd hOB hemp
          go_wp2_with fail
          refine (hcall _).mono ?_
          rintro e w2 ⟨rfl, hd2⟩
          have HB2 : Aside0 (Below w.heap.size w w2) := ⟨below_to HB.out hd2.below⟩
          clear hd2 hcall
          go_wp2
          go_ret
          rw [HQ.out]
          exact ⟨rfl, HB2.out⟩
      · rw [if_neg hp] at hpre
        have hcall := fun W => Go.Proofs.YtkipjalfgdfaiaaGreatDoor.PNamesBack.strings_CutPrefix.calls (bsL O) ⟨#[105, 115]⟩ (bsL O) false W hpre
        have HQ : Aside0 (ans = bsL O) := ⟨by rw [HA0.out]; unfold cutIs; rw [if_neg (fun h => hp ⟨by omega, h.2⟩)]⟩
        obtain ⟨OB, hOB⟩ : ∃ OB, bsL O = OB := ⟨_, rfl⟩
        rw [hOB] at hs2 hcall HQ
        clear hpre hp hOB
        go_wp2_with fail
        refine (hcall _).mono ?_
        rintro e w2 ⟨rfl, hd2⟩
        have HB2 : Aside0 (Below w.heap.size w w2) := ⟨below_to HB.out hd2.below⟩
        clear hd2 hcall
        go_wp2
        go_ret
        rw [HQ.out]
        exact ⟨rfl, HB2.out⟩

end Go.Proofs.YtkipjalfgdfaiaaGreatDoor
namespace Go.Proofs.YtkipjalfgdfaiaaGreatDoor
set_option linter.unusedVariables false
set_option linter.unusedSimpArgs false
open Go.RowKit Go.Proofs.YtkipjalfgdfaiaaGreatDoorW.PrintWords Go.Proofs.YtkipjalfgdfaiaaGreatDoorW.PrintLast Go.Proofs.YtkipjalfgdfaiaaGreatDoorW.PrintMore Go.Proofs.YtkipjalfgdfaiaaGreatDoor.PTk

theorem i64_and63 (x : Int) (h0 : 0 ≤ x) (h1 : x < 2 ^ 62) : bits .and .i64 x 63 = x % 64 := bits_mask .i64 62 (by decide) (fun n h0 h1 => by rw [IntKind.wrap_i64]; omega) 6 (by decide) x h0 h1
theorem or_tail (x : Int) (h0 : 0 ≤ x) (h1 : x ≤ 1114111) : bits .or .u8 128 ((bits .and .i64 x 63) % 256) = 128 + x % 64 := by
  rw [i64_and63 x h0 (by omega)]
  have key : ∀ n : Nat, n < 64 → bits .or .u8 128 ((n : Int) % 256) = 128 + (n : Int) := by decide +kernel
  have := key (x % 64).toNat (by omega)
  rw [Int.toNat_of_nonneg (by omega)] at this
  exact this
theorem or_lead1 (y : Int) (h0 : 0 ≤ y) (h1 : y < 32) : bits .or .u8 ((bits .and .i64 (shr .i64 3968 1) 255) % 256) (y % 256) = 192 + y := by
  have key : ∀ n : Nat, n < 32 → bits .or .u8 ((bits .and .i64 (shr .i64 3968 1) 255) % 256) ((n : Int) % 256) = 192 + (n : Int) := by decide +kernel
  have := key y.toNat (by omega)
  rw [Int.toNat_of_nonneg h0] at this
  exact this
theorem or_lead2 (y : Int) (h0 : 0 ≤ y) (h1 : y < 16) : bits .or .u8 ((bits .and .i64 (shr .i64 3968 2) 255) % 256) (y % 256) = 224 + y := by
  have key : ∀ n : Nat, n < 16 → bits .or .u8 ((bits .and .i64 (shr .i64 3968 2) 255) % 256) ((n : Int) % 256) = 224 + (n : Int) := by decide +kernel
  have := key y.toNat (by omega)
  rw [Int.toNat_of_nonneg h0] at this
  exact this
theorem or_lead3 (y : Int) (h0 : 0 ≤ y) (h1 : y < 8) : bits .or .u8 ((bits .and .i64 (shr .i64 3968 3) 255) % 256) (y % 256) = 240 + y := by
  have key : ∀ n : Nat, n < 8 → bits .or .u8 ((bits .and .i64 (shr .i64 3968 3) 255) % 256) ((n : Int) % 256) = 240 + (n : Int) := by decide +kernel
  have := key y.toNat (by omega)
  rw [Int.toNat_of_nonneg h0] at this
  exact this
theorem ej0 (k : Nat) (x : Int) (b : Bool) : utf_Encode.j0 (k + 1) x b = if b = true then some ([], false) else if x < 128 then some ([x % 256], true) else utf_Encode.l0 k x 1 2048 := by rw [utf_Encode.j0]
theorem ej2 (k : Nat) (x n : Int) : utf_Encode.j2 (k + 1) x n = if 0 ≤ wrap64 (n + 1) then (if (wrap64 (n + 1)).toNat ≤ 281474976710656 then utf_Encode.l1 k x n (List.replicate (wrap64 (n + 1)).toNat 0) n else none) else none := by rw [utf_Encode.j2]
theorem el0 (k : Nat) (x n b : Int) : utf_Encode.l0 (k + 1) x n b = if x ≥ b then (if n < 3 then utf_Encode.l0 k x (wrap64 (n + 1)) (wrap64 (b * 32)) else utf_Encode.j2 k x n) else utf_Encode.j2 k x n := by rw [utf_Encode.l0]
theorem el1 (k : Nat) (x n : Int) (l : List Int) (i : Int) : utf_Encode.l1 (k + 1) x n l i = if i > 0 then (if 0 ≤ i then (if i < (l.length : Int) then utf_Encode.l1 k (x / 64) n (l.set i.toNat (Go.bits .or .u8 128 ((Go.bits .and .i64 x 63) % 256))) (wrap64 (i - 1)) else none) else none) else (if 0 ≤ n then (if 0 < (l.length : Int) then some (l.set (0 : Int).toNat (Go.bits .or .u8 ((Go.bits .and .i64 (shr .i64 3968 n) 255) % 256) (x % 256)), true) else none) else none) := by rw [utf_Encode.l1]
theorem enc_f (r : Int) : ∃ k, utf_Encode.f k r = some (if runeB r = true then encL r else [], runeB r) := by
  refine ⟨12, ?_⟩
  have w2 : wrap64 (1 + 1) = 2 := by unfold wrap64; rfl
  have w3 : wrap64 (2 + 1) = 3 := by unfold wrap64; rfl
  have w4 : wrap64 (3 + 1) = 4 := by unfold wrap64; rfl
  have v0 : wrap64 (1 - 1) = 0 := by unfold wrap64; rfl
  have v1 : wrap64 (2 - 1) = 1 := by unfold wrap64; rfl
  have v2 : wrap64 (3 - 1) = 2 := by unfold wrap64; rfl
  have b1 : wrap64 (2048 * 32) = 65536 := by unfold wrap64; rfl
  have b2 : wrap64 (65536 * 32) = 2097152 := by unfold wrap64; rfl
  by_cases h1 : r < 0
  · have hr : runeB r = false := by
      rw [Bool.eq_false_iff]
      intro h
      have := (runeB_iff r).1 h
      omega
    rw [hr]
    simp [utf_Encode.f, utf_Encode.j0, h1]
  by_cases h2 : r > 1114111
  · have hr : runeB r = false := by
      rw [Bool.eq_false_iff]
      intro h
      have := (runeB_iff r).1 h
      omega
    rw [hr]
    simp [utf_Encode.f, utf_Encode.j0, h1, h2]
  by_cases h3 : r / 2048 = 27
  · have hr : runeB r = false := by
      rw [Bool.eq_false_iff]
      intro h
      have := (runeB_iff r).1 h
      omega
    rw [hr]
    simp [utf_Encode.f, utf_Encode.j0, h1, h2, h3]
  have hr : runeB r = true := (runeB_iff r).2 (by omega)
  rw [hr]
  have h3' : (r / 2048 == 27) = false := by rw [beq_eq_false_iff_ne]; exact h3
  unfold utf_Encode.f
  rw [if_neg h1, if_neg h2, h3']
  rw [ej0, if_neg (by decide), if_pos rfl]
  by_cases a : r < 128
  · rw [if_pos a, encL_ascii a, Int.emod_eq_of_lt (by omega) (by omega)]
  rw [if_neg a]
  unfold encL
  rw [if_neg a]
  by_cases b : r < 2048
  · rw [if_pos b]
    rw [el0, if_neg (by omega)]
    rw [ej2, w2, if_pos (by decide), if_pos (by decide)]
    rw [el1, if_pos (by decide), if_pos (by decide), if_pos (by decide), v0]
    rw [el1, if_neg (by decide), if_pos (by decide), if_pos (by simp), or_tail (r) (by omega) (by omega), or_lead1 (r / 64) (by omega) (by omega)]
    rfl
  · rw [if_neg b]
    by_cases c : r < 65536
    · rw [if_pos c]
      rw [el0, if_pos (by omega), if_pos (by decide), w2, b1]
      rw [el0, if_neg (by omega)]
      rw [ej2, w3, if_pos (by decide), if_pos (by decide)]
      rw [el1, if_pos (by decide), if_pos (by decide), if_pos (by decide), v1]
      rw [el1, if_pos (by decide), if_pos (by decide), if_pos (by simp), v0]
      rw [el1, if_neg (by decide), if_pos (by decide), if_pos (by simp), or_tail (r) (by omega) (by omega), or_tail (r / 64) (by omega) (by omega), or_lead2 (r / 64 / 64) (by omega) (by omega)]
      have e : r / 64 / 64 = r / 4096 := by omega
      rw [e]
      rfl
    · rw [if_neg c]
      rw [el0, if_pos (by omega), if_pos (by decide), w2, b1]
      rw [el0, if_pos (by omega), if_pos (by decide), w3, b2]
      rw [el0, if_neg (by omega)]
      rw [ej2, w4, if_pos (by decide), if_pos (by decide)]
      rw [el1, if_pos (by decide), if_pos (by decide), if_pos (by decide), v2]
      rw [el1, if_pos (by decide), if_pos (by decide), if_pos (by simp), v1]
      rw [el1, if_pos (by decide), if_pos (by decide), if_pos (by simp), v0]
      rw [el1, if_neg (by decide), if_pos (by decide), if_pos (by simp), or_tail (r) (by omega) (by omega), or_tail (r / 64) (by omega) (by omega), or_tail (r / 64 / 64) (by omega) (by omega), or_lead3 (r / 64 / 64 / 64) (by omega) (by omega)]
      have e : r / 64 / 64 = r / 4096 := by omega
      have e2 : r / 64 / 64 / 64 = r / 262144 := by omega
      rw [e2, e]
      rfl
/-- utf.Encode: a code point's bytes, in memory of its own. -/
theorem encode_any (r : Int) (w : World) : Calls Tryz.prog 37 #[.int .i64 r] w fun e w' => ∃ v : Value, e = .returned (.tuple #[v, .bool (runeB r)]) ∧ Kd.R (Kd.int .u8) 5 w' w.heap.size (fun _ => True) v (if runeB r = true then encL r else []) ∧ Below w.heap.size w w' := by
  obtain ⟨k, hk⟩ := enc_f r
  exact utf_Encode.calls k r _ _ w hk

end Go.Proofs.YtkipjalfgdfaiaaGreatDoor
namespace Go.Proofs.YtkipjalfgdfaiaaGreatDoor
set_option linter.unusedVariables false
set_option linter.unusedSimpArgs false
open Go.RowKit Go.Proofs.YtkipjalfgdfaiaaGreatDoorW.PrintWords Go.Proofs.YtkipjalfgdfaiaaGreatDoorW.PrintLast Go.Proofs.YtkipjalfgdfaiaaGreatDoorW.PrintMore Go.Proofs.YtkipjalfgdfaiaaGreatDoor.PTk

theorem and15u (q : Nat) (h : q < 128) : bits .and .u64 (q : Int) 15 = ((q % 16 : Nat) : Int) := by
  have h : ∀ q : Fin 128, bits .and .u64 (q.val : Int) 15 = ((q.val % 16 : Nat) : Int) := by decide +kernel
  exact h ⟨q, by assumption⟩
set_option maxRecDepth 100000 in
theorem tz16 (w : World) (hc : w.cell? ⟨6, 15, none⟩ = some (.int .u8 4)) : Calls Tryz.prog 136 #[.int .u64 16] w fun e w' => e = .returned (.int .i64 4) ∧ w' = w := by
  have key : IntKind.u64.wrap (bits BinOp.and IntKind.u64 16 (IntKind.u64.wrap (-16)) * 285870213051353865) / 288230376151711744 = 15 := by decide +kernel
  go_enter Tryz.func136, Tryz.ntmps136
  go_wp2
  go_ret
  exact ⟨rfl, rfl⟩
theorem pow16 (w : World) : Calls Tryz.prog 135 #[.int .i64 16] w fun e w' => e = .returned (.bool true) ∧ w' = w := by
  have key : bits .and .i64 16 15 = 0 := by decide +kernel
  go_enter Tryz.func135, Tryz.ntmps135
  go_wp2
  go_ret
  exact ⟨rfl, rfl⟩
/-- A digit below 16, in small letters. -/
def hexS (d : Nat) : UInt8 := if d < 10 then (48 + d).toUInt8 else (87 + d).toUInt8
theorem hexS_at (d : Nat) (hd : d < 16) : ∀ h, (⟨#[48, 49, 50, 51, 52, 53, 54, 55, 56, 57, 97, 98, 99, 100, 101, 102, 103, 104, 105, 106, 107, 108, 109, 110, 111, 112, 113, 114, 115, 116, 117, 118, 119, 120, 121, 122]⟩ : ByteArray)[d]'h = hexS d := by
  have h : ∀ d : Fin 16, ∀ h, (⟨#[48, 49, 50, 51, 52, 53, 54, 55, 56, 57, 97, 98, 99, 100, 101, 102, 103, 104, 105, 106, 107, 108, 109, 110, 111, 112, 113, 114, 115, 116, 117, 118, 119, 120, 121, 122]⟩ : ByteArray)[d.val]'h = hexS d.val := by decide +kernel
  exact h ⟨d, hd⟩
/-- Small hexadecimal digits of a number below 256. -/
def hexLo (q : Nat) : List UInt8 := if q < 16 then [hexS q] else [hexS (q / 16), hexS (q % 16)]
set_option maxRecDepth 100000 in
/-- A cut of an array of 65 bytes, from place j on. -/
theorem slice65 (W : World) (g j : Nat) (hj : j < 65) : (Instr.sliceAt 161 (.pointer (some ⟨g, 0, none⟩)) (some (.int .i64 (j : Int))) none none).run Tryz.prog W = .ok (.slice (some ⟨g, j, none⟩) (65 - j) (65 - j)) W := by
  have ha : Tryz.prog.arrayLen 161 = 65 := by kernel_rfl
  have he : Tryz.prog.elem 161 = 5 := by kernel_rfl
  have h := run_sliceAt_array_l (P := Tryz.prog) W 161 ⟨g, 0, none⟩ (by rw [ha, he]; exact Tryz.underlying161) .i64 (j : Int) (by omega) (by rw [ha]; omega)
  rw [h, he, Tryz.sizeOf5, ha]
  simp only [Result.andThen, slicedAt]
  have hadd : (⟨g, 0, none⟩ : Addr).add j = ⟨g, j, none⟩ := by unfold Addr.add; split <;> simp_all
  rw [if_neg (by omega), Int.toNat_natCast, Nat.mul_one, hadd]
/-- What the array holds from place j on. -/
def Tail65 (W : World) (g j : Nat) (acc : List UInt8) : Prop := (∀ k, k < 65 → (∃ u, W.cell? ⟨g, k, none⟩ = some u) ∧ W.frozen? ⟨g, k, none⟩ = false) ∧ ∀ k (hk : k < acc.length), W.cell? ⟨g, j + k, none⟩ = some (.int .u8 (acc[k].toNat : Int))
theorem Tail65.put {W : World} {g j : Nat} {acc : List UInt8} (h : Tail65 W g (j + 1) acc) (hj : j < 65) (b : UInt8) : Tail65 (W.setCell ⟨g, j, none⟩ (.int .u8 (b.toNat : Int))) g j (b :: acc) := by
  refine ⟨fun k hk => ?_, fun k hk => ?_⟩
  · obtain ⟨⟨u, hu⟩, hz⟩ := h.1 k hk
    exact ⟨cell?_setCell_some hu, by rw [World.frozen?_setCell]; exact hz⟩
  · obtain ⟨⟨u, hu⟩, hz⟩ := h.1 j hj
    match k, hk with
    | 0, _ => exact World.cell?_setCell_same _ _ _ hu
    | k + 1, hk =>
      rw [World.cell?_setCell_other _ _ _ _ (by intro e; have := congrArg Addr.off e; simp at this), show j + (k + 1) = j + 1 + k by omega]
      exact h.2 k (by simp only [List.length_cons] at hk; omega)
theorem Tail65.new (w : World) : Tail65 (w.alloc (.cells Tryz.zeroCells161 161)) w.heap.size 65 [] := by
  refine ⟨fun k hk => ⟨?_, Lib.frozen_of_heap (heap_alloc_new w _) k⟩, fun k hk => absurd hk (by simp)⟩
  rw [Lib.cell_of_heap (heap_alloc_new w _)]
  have hz : Tryz.zeroCells161.size = 65 := by kernel_rfl
  exact ⟨_, Array.getElem?_eq_getElem (by rw [hz]; exact hk)⟩
theorem Tail65.str {W : World} {g j : Nat} {acc : List UInt8} (h : Tail65 W g j acc) : (convert 34 9 (.slice (some ⟨g, j, none⟩) acc.length acc.length)).run Tryz.prog W = .ok (.string (bsL acc)) W :=
  run_convert_bytes_back (P := Tryz.prog) W 34 9 5 ⟨g, j, none⟩ acc.length acc Tryz.underlying34 Tryz.underlying5 Tryz.underlying9 (fun k hk => by
    have : (⟨g, j, none⟩ : Addr).add k = ⟨g, j + k, none⟩ := by unfold Addr.add; split <;> simp_all
    rw [this]
    exact h.2 k hk)
set_option maxHeartbeats 4000000 in
set_option maxRecDepth 100000 in
theorem bits16 (q : Nat) (hq : q < 128) (w : World) (hc : w.cell? ⟨6, 15, none⟩ = some (.int .u8 4)) :
    Calls Tryz.prog 98 #[.slice none 0 0, .int .u64 (q : Int), .int .i64 16, .bool false, .bool false] w fun e w' => e = .returned (.tuple #[.slice none 0 0, .string (bsL (hexLo q))]) ∧ Below w.heap.size w w' := by
  have HT := Aside0.mk tz16
  obtain ⟨W, hW⟩ : ∃ W, w.alloc (.cells Tryz.zeroCells161 161) = W := ⟨_, rfl⟩
  have hwc : W.cell? ⟨6, 15, none⟩ = some (.int .u8 4) := by rw [← hW]; exact pw_cell_below (below_alloc (Below.refl _ _) _) hc
  have hb1 : Below w.heap.size w W := by rw [← hW]; exact below_alloc (Below.refl _ _) _
  have ht : Tail65 W w.heap.size 65 [] := by rw [← hW]; exact Tail65.new w
  have HB := Aside0.mk hb1
  have HWC := Aside0.mk hwc
  clear hc hb1 hwc
  go_enter Tryz.func98, Tryz.ntmps98
  go_wp2_with fail
  refine (pow16 W).mono ?_
  rintro e w1 ⟨rfl, rfl⟩
  go_wp2_with fail
  refine (HT.out _ HWC.out).mono ?_
  rintro e w1 ⟨rfl, rfl⟩
  clear hW
  go_wp2_with fail
  by_cases h16 : q < 16
  · have hlt : ¬ (16 : Int) ≤ (q : Int) := by omega
    have hx := hexS_at q h16
    have hl : hexLo q = [hexS q] := if_pos h16
    obtain ⟨⟨u, hu⟩, hf⟩ := ht.1 64 (by decide)
    have h2 := ht.put (j := 64) (by decide) (hexS q)
    have hs := slice65 (w1.setCell ⟨w.heap.size, 64, none⟩ (.int .u8 ((hexS q).toNat : Int))) w.heap.size 64 (by decide)
    have hcv : (convert 34 9 (.slice (some ⟨w.heap.size, 64, none⟩) 1 1)).run Tryz.prog _ = _ := h2.str
    have HB2 : Aside0 (Below w.heap.size w (w1.setCell ⟨w.heap.size, 64, none⟩ (.int .u8 ((hexS q).toNat : Int)))) := ⟨below_set HB.out (Nat.le_refl _)⟩
    clear ht h2
    refine wp_loop_rounds 1 ?_
    rw [rounds_succ]
    go_wp2
    go_ret2
    exact ⟨rfl, HB2.out⟩
  · have hge : (16 : Int) ≤ (q : Int) := by omega
    have hlt : ¬ (16 : Int) ≤ ((q / 16 : Nat) : Int) := by omega
    have hx := hexS_at (q % 16) (by omega)
    have hy := hexS_at (q / 16) (by omega)
    have hl : hexLo q = [hexS (q / 16), hexS (q % 16)] := if_neg h16
    have hand := and15u q hq
    obtain ⟨⟨u, hu⟩, hf⟩ := ht.1 64 (by decide)
    have h2 := ht.put (j := 64) (by decide) (hexS (q % 16))
    obtain ⟨⟨u3, hu3⟩, hf3⟩ := h2.1 63 (by decide)
    have h3 := h2.put (j := 63) (by decide) (hexS (q / 16))
    have HB2 : Aside0 (Below w.heap.size w ((w1.setCell ⟨w.heap.size, 64, none⟩ (.int .u8 ((hexS (q % 16)).toNat : Int))).setCell ⟨w.heap.size, 63, none⟩ (.int .u8 ((hexS (q / 16)).toNat : Int)))) := ⟨below_set (below_set HB.out (Nat.le_refl _)) (Nat.le_refl _)⟩
    obtain ⟨W2, hW2⟩ : ∃ W2, (w1.setCell ⟨w.heap.size, 64, none⟩ (.int .u8 ((hexS (q % 16)).toNat : Int))) = W2 := ⟨_, rfl⟩
    rw [hW2] at h2 hu3 hf3 h3 HB2
    have hs := slice65 (W2.setCell ⟨w.heap.size, 63, none⟩ (.int .u8 ((hexS (q / 16)).toNat : Int))) w.heap.size 63 (by decide)
    have hcv : (convert 34 9 (.slice (some ⟨w.heap.size, 63, none⟩) 2 2)).run Tryz.prog _ = _ := h3.str
    clear ht h2 h3
    refine wp_loop_rounds 2 ?_
    rw [rounds_succ]
    go_wp2
    rw [rounds_succ]
    go_wp2
    go_ret2
    exact ⟨by rw [hl]; rfl, HB2.out⟩
set_option maxHeartbeats 1000000 in
set_option maxRecDepth 100000 in
theorem fmti16 (q : Nat) (hq : q < 128) (w : World) (hc : w.cell? ⟨6, 15, none⟩ = some (.int .u8 4)) :
    Calls Tryz.prog 63 #[.int .i64 (q : Int), .int .i64 16] w fun e w' => e = .returned (.string (bsL (hexLo q))) ∧ Below w.heap.size w w' := by
  have HT := Aside0.mk (bits16 q hq w hc)
  have h0 : ¬ (q : Int) < 0 := by omega
  have h1 : IntKind.u64.wrap (q : Int) = (q : Int) := by rw [IntKind.wrap_u64]; omega
  clear hc
  go_enter Tryz.func63, Tryz.ntmps63
  go_wp2_with fail
  refine HT.out.mono ?_
  rintro e w' ⟨rfl, hb⟩
  have HB := Aside0.mk hb
  clear hb
  go_wp2_with fail
  go_ret
  exact ⟨rfl, HB.out⟩
set_option maxHeartbeats 1000000 in
set_option maxRecDepth 100000 in
theorem fmt16 (q : Nat) (hq : q < 128) (w : World) (hc : w.cell? ⟨6, 15, none⟩ = some (.int .u8 4)) :
    Calls Tryz.prog 39 #[.int .i64 (q : Int), .int .i64 16] w fun e w' => e = .returned (.string (bsL (hexLo q))) ∧ Below w.heap.size w w' := by
  have HT := Aside0.mk (fmti16 q hq w hc)
  clear hc
  go_enter Tryz.func39, Tryz.ntmps39
  go_wp2_with fail
  refine HT.out.mono ?_
  rintro e w' ⟨rfl, hb⟩
  have HB := Aside0.mk hb
  clear hb
  go_wp2_with fail
  go_ret
  exact ⟨rfl, HB.out⟩

end Go.Proofs.YtkipjalfgdfaiaaGreatDoor
namespace Go.Proofs
open Go.Shelf
theorem Tryz.Builder_Extra_158 : Builder.Extra Tryz.prog Tryz.lays158_ren := {
  sizeBuilder := by kernel_rfl
  liesBuilder := by kernel_rfl
  t5 := Tryz.underlying5
  a5 := Tryz.isAgg5
  z5 := Tryz.sizeOf5
  v5 := Tryz.zeroValue5
  infoByte := by kernel_rfl
  cellsByte := by kernel_rfl
  sizeByte := by kernel_rfl
  neB5 := by decide }
open Go.RowKit in
/-- strings.ToUpper: "ToUpper returns s with all Unicode letters mapped to their upper case.": ON ASCII TEXT OF AT MOST 2^47 BYTES. Below the heap's end the world is as it was: where a letter turns, the call makes a builder and its buffer. (LAID: no walk: one application.) -/
theorem Tryz.strings_ToUpper_ascii (s : ByteArray) (w : World) (hs : s.size ≤ 140737488355328) (hascii : ∀ (j : Nat) (b : UInt8), s.data.toList[j]? = some b → b.toNat < 128) :
    Calls Tryz.prog 38 #[.string s] w fun e w' => e = .returned (.string ⟨(Lib.toUpperA s.data.toList).toArray⟩) ∧ Below w.heap.size w w' := Any.strings_ToUpper_ascii Tryz.lays158 Tryz.Builder_Extra_158 s w hs hascii
end Go.Proofs
