/-
  Plain law of layer 3 for FieldShift: what stands for a byte bends what undoes it.
-/
import Derived.Test.YtolfbfchihpokaaFldR
import Derived.Test.YtolfbfchihpokaaFldL
namespace Go.Proofs.Ytolfbfchihpokaa
namespace Fld

theorem rot_xor (x y n : Nat) (hx : x < 256) (hy : y < 256) : rot (x ^^^ y) n = rot x n ^^^ rot y n := by
  unfold rot
  generalize hk : n % 8 = k
  have hk8 : k < 8 := by omega
  rw [← Nat.shiftLeft_eq, ← Nat.shiftLeft_eq, ← Nat.shiftLeft_eq, ← Nat.shiftRight_eq_div_pow, ← Nat.shiftRight_eq_div_pow, ← Nat.shiftRight_eq_div_pow]
  apply Nat.eq_of_testBit_eq
  intro i
  rw [show (256 : Nat) = 2 ^ 8 from rfl]
  simp only [Nat.testBit_or, Nat.testBit_xor, Nat.testBit_mod_two_pow, Nat.testBit_shiftLeft, Nat.testBit_shiftRight]
  by_cases h : k ≤ i
  · have e1 : x.testBit (8 - k + i) = false := Nat.testBit_lt_two_pow (Nat.lt_of_lt_of_le hx (by rw [show (256 : Nat) = 2 ^ 8 from rfl]; exact Nat.pow_le_pow_right (by decide) (by omega)))
    have e2 : y.testBit (8 - k + i) = false := Nat.testBit_lt_two_pow (Nat.lt_of_lt_of_le hy (by rw [show (256 : Nat) = 2 ^ 8 from rfl]; exact Nat.pow_le_pow_right (by decide) (by omega)))
    rw [e1, e2]
    by_cases h8 : i < 8 <;> simp [h, h8]
  · simp [h]

theorem turned_xor (x y : Nat) (hx : x < 256) (hy : y < 256) : turned (x ^^^ y) [0, 1, 2, 3, 4] = turned x [0, 1, 2, 3, 4] ^^^ turned y [0, 1, 2, 3, 4] := by
  simp only [turned, List.foldl_cons, List.foldl_nil, Nat.zero_xor, rot_xor _ _ _ hx hy]
  ac_rfl

theorem sub_shift (a b : Nat) (ha : a < 256) (hb : b < 256) : sub (rinv (rinv a ^^^ rinv b)) = sub a ^^^ sub b ^^^ sub 0 := by
  have ia := inv_lt a ha
  have ib := inv_lt b hb
  have ix : inv a ^^^ inv b < 256 := Nat.xor_lt_two_pow (n := 8) ia ib
  rw [inv_one a ha, inv_one b hb, inv_one _ ix, awake_all.2.1]
  unfold sub
  rw [inv_inv _ ix, turned_xor _ _ ia ib]
  generalize turned (inv a) [0, 1, 2, 3, 4] = p
  generalize turned (inv b) [0, 1, 2, 3, 4] = q
  rw [show p ^^^ 99 ^^^ (q ^^^ 99) ^^^ 99 = (p ^^^ q ^^^ 99) ^^^ (99 ^^^ 99) from by ac_rfl, Nat.xor_self, Nat.xor_zero]
end Fld
end Go.Proofs.Ytolfbfchihpokaa
