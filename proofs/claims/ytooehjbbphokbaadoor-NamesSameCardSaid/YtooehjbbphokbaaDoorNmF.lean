/- Walks: awake of the laws of layer 5; the place of "=" or ":" in a text. -/
import Derived.Test.YtooehjbbphokbaaDoorNmE
import Derived.Test.YtooehjbbphokbaaDoorShelfT
namespace Go.Proofs.YtooehjbbphokbaaDoor
set_option linter.unusedVariables false
set_option linter.unusedSimpArgs false
open Go.RowKit Go.Proofs.YtooehjbbphokbaaDoorW.PrintWords Go.Proofs.YtooehjbbphokbaaDoorW.PrintLast Go.Proofs.YtooehjbbphokbaaDoorW.PrintMore

theorem indexAny_is : ∀ l : List UInt8, Lib.indexAny l [61, 58] = idxI l
  | [] => rfl
  | b :: l => by
    have ih := indexAny_is l
    unfold Lib.indexAny
    rw [ih]
    unfold idxI
    by_cases h : b = 61 ∨ b = 58
    · rw [if_pos (by rcases h with rfl | rfl <;> rfl), idxL, if_pos h]
      rfl
    · have hc : ¬ ([61, 58] : List UInt8).contains b = true := fun hh => h (by simpa using hh)
      rw [if_neg hc, idxL, if_neg h]
      cases idxL l with
      | none => rfl
      | some i =>
        show (if ((i : Int) == -1) = true then (-1 : Int) else (i : Int) + 1) = ((i + 1 : Nat) : Int)
        rw [if_neg (by rw [beq_iff_eq]; omega)]
        omega
theorem index_awake : IndexIs awakeB := fun W => by
  refine (Tryd.strings_IndexAny_laid awakeB ⟨#[61, 58]⟩ W (by decide) (by decide) (ascii_of_all (by decide)) (ascii_of_all (by decide))).mono ?_
  rintro e w' ⟨rfl, hb⟩
  exact ⟨congrArg (fun i => Ending.returned (.int .i64 i)) (indexAny_is _), hb⟩
theorem index_long (s : ByteArray) (h8 : 8 < s.size) (hs : s.size < 4294967281) : IndexIs s := fun W => by
  refine (Tryd.strings_IndexAny_long (zero_of_info (n := 256) (by kernel_rfl)).1 s ⟨#[61, 58]⟩ W (by decide) h8 hs (by decide) (ascii_of_all (by decide))).mono ?_
  rintro e w' ⟨rfl, rfl⟩
  exact ⟨congrArg (fun i => Ending.returned (.int .i64 i)) (indexAny_is _), below_alloc (below_alloc (Below.refl _ _) _) _⟩

set_option maxHeartbeats 4000000 in
set_option maxRecDepth 100000 in
theorem awake5_any (b : ByteArray) (hal : AliasIs b) (m : Int) (w : World) (hm : MaxIs w m) :
    Calls Tryd.prog 27 #[] w fun e w' => e = .returned (.bool true) ∧ Below w.heap.size w w' := by
  have HR := Aside0.mk (resolve_any b hal awakeB m w hm (by decide) index_awake)
  have hok := hal.2.2.2.1
  unfold awakeOk at hok
  simp only [Bool.and_eq_true, beq_iff_eq] at hok
  obtain ⟨⟨h1, h2⟩, h3⟩ := hok
  have h2' := eqB_iff.1 h2
  rw [h1, h2', h3] at HR
  clear h1 h2 h2' h3 hal
  go_enter Tryd.func27, Tryd.ntmps27
  go_wp2_with fail
  refine HR.out.mono ?_
  rintro e w1 ⟨rfl, hb⟩
  have HB := Aside0.mk hb
  clear hb HR
  go_wp2
  go_ret
  exact ⟨rfl, HB.out⟩

end Go.Proofs.YtooehjbbphokbaaDoor
