/- The zero value of a block of 256 cells (the loader writes no fact of so great a value at a program of less than 80 functions; elsewhere this text is empty: see NOTES). -/
import Derived.Test.YtpgnfccamcefgabProg
import Derived.KernelRfl
import Derived.WalkKit
namespace Go.Proofs
@[irreducible] def Try.zeroCells36 : Array Value := (List.replicate 256 (Value.int .i32 0)).toArray
@[go_sem] theorem Try.zeroValue36 (w : World) : (zeroValue 36).run Try.prog w = .ok (.agg Try.zeroCells36) w := by unfold Try.zeroCells36; kernel_rfl
theorem Try.zeroCells36_size : Try.zeroCells36.size = 256 := by unfold Try.zeroCells36; rw [List.size_toArray, List.length_replicate]
@[simp] theorem Try.zeroCells36_ne : Try.zeroCells36 ≠ #[] := fun h => by
  have := Try.zeroCells36_size
  rw [h] at this
  cases this
end Go.Proofs
