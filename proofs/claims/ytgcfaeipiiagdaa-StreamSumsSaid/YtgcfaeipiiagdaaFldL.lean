/-
  Plain laws of layer 3: about numbers alone.
-/
import Derived.Test.YtgcfaeipiiagdaaFldS
namespace Go.Proofs.Ytgcfaeipiiagdaa
namespace Fld

theorem inv_inv : ∀ a, a < 256 → inv (inv a) = a := by decide +kernel
theorem mul_inv : ∀ a, a < 256 → a ≠ 0 → mul a (inv a) = 1 := by decide +kernel
theorem back_sub : ∀ a, a < 256 → back (sub a) = a := by decide +kernel
theorem sub_back : ∀ a, a < 256 → sub (back a) = a := by decide +kernel
theorem sub_ne : ∀ a, a < 256 → sub a ≠ a ∧ sub a ^^^ a ≠ 255 := by decide +kernel

theorem awake_all : mul 87 131 = 193 ∧ sub 0 = 99 ∧ inv 0 = 0 ∧ inv 1 = 1 ∧ back 99 = 0 := by decide +kernel

end Fld
end Go.Proofs.Ytgcfaeipiiagdaa
