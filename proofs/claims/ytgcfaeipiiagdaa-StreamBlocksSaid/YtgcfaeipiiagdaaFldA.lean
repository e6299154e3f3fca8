/-
  Contracts of the small functions of package field (double) and of math/bits (RotateLeft8), over this seat's translation.
-/
import Derived.Test.YtgcfaeipiiagdaaChecked
import Derived.Test.YtgcfaeipiiagdaaFldS
import Derived.WalkKit
import Derived.ProofKit
import Derived.BigQuiet
import Derived.Lib.Hide
import Derived.Laws.Bits64b
namespace Go.Proofs.Ytgcfaeipiiagdaa
open Go.RowKit

theorem ret_int {k : IntKind} {a b : Int} (h : a = b) : Ending.returned (.int k a) = .returned (.int k b) := by rw [h]

theorem double_any (a : Int) (h0 : 0 ≤ a) (h1 : a ≤ 255) (w : World) :
    Calls Try.prog 85 #[.int .u8 a] w fun e w' => e = .returned (.int .u8 ((Fld.dbl a.toNat : Nat) : Int)) ∧ w = w' := by
  have hx : bits BinOp.xor IntKind.u8 (a * 2 % 256) 27 = (((a.toNat * 2 % 256) ^^^ 27 : Nat) : Int) := by
    have := u8_xor_nat (a.toNat * 2 % 256) 27 (by omega) (by decide)
    rw [← this, show ((a.toNat * 2 % 256 : Nat) : Int) = a * 2 % 256 from by omega]
    rfl
  have Hx := Lib.hid hx
  clear hx
  go_enter Try.func85, Try.ntmps85
  go_wp2
  · go_ret
    refine ⟨?_, rfl⟩
    rw [Hx.out]
    unfold Fld.dbl
    rw [if_pos (by omega)]
    rfl
  · go_ret
    refine ⟨ret_int ?_, rfl⟩
    unfold Fld.dbl
    rw [if_neg (by omega)]
    omega

theorem rotateLeft8_any (x k : Int) (h0 : 0 ≤ x) (h1 : x ≤ 255) (h2 : 0 ≤ k) (h3 : k ≤ 1000) (w : World) :
    Calls Try.prog 75 #[.int .u8 x, .int .i64 k] w fun e w' => e = .returned (.int .u8 ((Fld.rot x.toNat k.toNat : Nat) : Int)) ∧ w = w' := by
  obtain ⟨s, hs, hs7, hk⟩ : ∃ s : Nat, bits BinOp.and IntKind.u64 k 7 = (s : Int) ∧ s ≤ 7 ∧ Hid (s = k.toNat % 8) :=
    ⟨k.toNat % 8, by
      have := bits_and_u64_nat k.toNat 7 (by omega) (by omega)
      rw [show ((k.toNat : Nat) : Int) = k from by omega, show ((7 : Nat) : Int) = 7 from rfl] at this
      rw [this, show k.toNat &&& 7 = k.toNat % 2 ^ 3 from Nat.and_two_pow_sub_one_eq_mod _ 3], by omega, Lib.hid rfl⟩
  go_enter Try.func75, Try.ntmps75
  go_wp2
  go_ret
  refine ⟨ret_int ?_, rfl⟩
  obtain ⟨n, rfl⟩ := Int.eq_ofNat_of_zero_le h0
  unfold Fld.rot
  rw [← hk.out, Int.toNat_natCast, ← u8_or_nat _ _ (Nat.mod_lt _ (by decide)) (Nat.lt_of_le_of_lt (Nat.div_le_self _ _) (by omega : n < 256))]
  congr 1
end Go.Proofs.Ytgcfaeipiiagdaa
