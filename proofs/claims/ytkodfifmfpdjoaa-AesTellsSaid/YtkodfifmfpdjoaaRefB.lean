/-
  The document's answer of layer 3, more of it: bent, Sub.
-/
import Derived.Test.YtkodfifmfpdjoaaFldR
import Derived.Test.YtkodfifmfpdjoaaFldL
import Derived.BigQuiet
namespace Go.Proofs.Ytkodfifmfpdjoaa
open Go.RowKit

namespace Fld
def bentBit (i b : Nat) : Nat := b / 2 ^ i ^^^ b / 2 ^ ((i + 4) % 8) ^^^ b / 2 ^ ((i + 5) % 8) ^^^ b / 2 ^ ((i + 6) % 8) ^^^ b / 2 ^ ((i + 7) % 8) ^^^ 99 / 2 ^ i
def bentGo : Nat → Nat → Nat → Nat → Nat
  | 0, _, _, out => out
  | k + 1, i, b, out => bentGo k (i + 1) b (out ||| bentBit i b % 2 * 2 ^ i)
def bent (b : Nat) : Nat := bentGo 8 0 b 0
theorem bent_inv : ∀ a, a < 256 → bent (inv a) = sub a := by decide +kernel
theorem bent_rinv (a : Nat) (ha : a < 256) : bent (rinv a) = sub a := by rw [inv_one a ha, bent_inv a ha]
theorem bentBit_lt (i b : Nat) (hb : b < 256) : bentBit i b < 256 := by
  have h : ∀ j, b / 2 ^ j < 2 ^ 8 := fun j => Nat.lt_of_le_of_lt (Nat.div_le_self _ _) hb
  unfold bentBit
  exact Nat.xor_lt_two_pow (Nat.xor_lt_two_pow (Nat.xor_lt_two_pow (Nat.xor_lt_two_pow (Nat.xor_lt_two_pow (h _) (h _)) (h _)) (h _)) (h _)) (Nat.lt_of_le_of_lt (Nat.div_le_self _ _) (by decide))
end Fld

theorem bent_shl (m i : Nat) (hi : i < 8) : m % 2 * 2 ^ i < 2 ^ 8 := by
  have h1 : m % 2 ≤ 1 := by omega
  have h2 : 2 ^ i ≤ 2 ^ 7 := Nat.pow_le_pow_right (by decide) (by omega)
  have h3 := Nat.mul_le_mul h1 h2
  omega

/-- Where the reference's bent stands at the head of a round. -/
def BentAt (r b : Nat) (vo vi : Value) : Prop :=
  ∃ k i o : Nat, Fld.bentGo k i b o = r ∧ i + k = 8 ∧ o < 256 ∧ vo = .int .u8 o ∧ vi = .int .i64 i

set_option maxRecDepth 100000 in
set_option maxHeartbeats 2000000 in
theorem bent_quiet (b : Nat) (hb : b < 256) (w : World) :
    Calls Try.prog 32 #[.int .u8 b] w fun e w' => e = .returned (.int .u8 ((Fld.bent b : Nat) : Int)) ∧ ∃ m, w' = w.drewN m := by
  have hst : BentAt (Fld.bent b) b (.int .u8 0) (.int .i64 0) := ⟨8, 0, 0, rfl, rfl, by decide, rfl, rfl⟩
  generalize Fld.bent b = r at *
  go_enter Try.func32, Try.ntmps32
  go_wp2
  go_loopw [3, 4] (fun vo vi wr => BentAt r b vo vi ∧ ∃ m, wr = w.drewN m) (fun _ vi _ => (8 - intOf vi).toNat)
  case atStart => exact ⟨hst, 0, rfl⟩
  case round =>
    clear hst
    obtain ⟨⟨k, i, o, hr, hik, ho, rfl, rfl⟩, m1, hB⟩ := hrel
    have Hr := Lib.hid hr
    have Hik := Lib.hid hik
    have HB := Lib.hid hB
    have hi8 : i ≤ 8 := by omega
    clear hr hik hB
    by_cases hk0 : i < 8
    · obtain ⟨k, rfl⟩ : ∃ j, k = j + 1 := ⟨k - 1, by have := Hik.out; omega⟩
      have hnext : BentAt r b (.int .u8 ((o ||| Fld.bentBit i b % 2 * 2 ^ i : Nat) : Int)) (.int .i64 ((i : Int) + 1)) :=
        ⟨k, i + 1, _, by rw [← Hr.out, Fld.bentGo], by have := Hik.out; omega, Nat.or_lt_two_pow (n := 8) ho (bent_shl _ i hk0), rfl, by rfl⟩
      have Hnext := Lib.hid hnext
      have hbit : Fld.bentBit i b = b / 2 ^ i ^^^ b / 2 ^ ((i + 4) % 8) ^^^ b / 2 ^ ((i + 5) % 8) ^^^ b / 2 ^ ((i + 6) % 8) ^^^ b / 2 ^ ((i + 7) % 8) ^^^ 99 / 2 ^ i := rfl
      have hbl := Fld.bentBit_lt i b hb
      have h4 : ((i : Int) + 4) % 8 = (((i + 4) % 8 : Nat) : Int) := by omega
      have h5 : ((i : Int) + 5) % 8 = (((i + 5) % 8 : Nat) : Int) := by omega
      have h6 : ((i : Int) + 6) % 8 = (((i + 6) % 8 : Nat) : Int) := by omega
      have h7 : ((i : Int) + 7) % 8 = (((i + 7) % 8 : Nat) : Int) := by omega
      have hdv : ∀ j, b / 2 ^ j < 256 := fun j => Nat.lt_of_le_of_lt (Nat.div_le_self _ _) hb
      have d9 : 99 / 2 ^ i < 256 := Nat.lt_of_le_of_lt (Nat.div_le_self _ _) (by decide)
      have d0 := hdv i
      have d4 := hdv ((i + 4) % 8)
      have d5 := hdv ((i + 5) % 8)
      have d6 := hdv ((i + 6) % 8)
      have d7 := hdv ((i + 7) % 8)
      have c0 : (b : Int) / 2 ^ i = ((b / 2 ^ i : Nat) : Int) := by simp
      have c4 : (b : Int) / 2 ^ ((i + 4) % 8) = ((b / 2 ^ ((i + 4) % 8) : Nat) : Int) := by simp
      have c5 : (b : Int) / 2 ^ ((i + 5) % 8) = ((b / 2 ^ ((i + 5) % 8) : Nat) : Int) := by simp
      have c6 : (b : Int) / 2 ^ ((i + 6) % 8) = ((b / 2 ^ ((i + 6) % 8) : Nat) : Int) := by simp
      have c7 : (b : Int) / 2 ^ ((i + 7) % 8) = ((b / 2 ^ ((i + 7) % 8) : Nat) : Int) := by simp
      have c9 : (99 : Int) / 2 ^ i = ((99 / 2 ^ i : Nat) : Int) := by simp
      generalize b / 2 ^ i = q0 at *
      generalize b / 2 ^ ((i + 4) % 8) = q4 at *
      generalize b / 2 ^ ((i + 5) % 8) = q5 at *
      generalize b / 2 ^ ((i + 6) % 8) = q6 at *
      generalize b / 2 ^ ((i + 7) % 8) = q7 at *
      generalize 99 / 2 ^ i = q9 at *
      generalize (i + 4) % 8 = i4 at *
      generalize (i + 5) % 8 = i5 at *
      generalize (i + 6) % 8 = i6 at *
      generalize (i + 7) % 8 = i7 at *
      have x1 := u8_xor_nat q0 q4 d0 d4
      have l1 := Nat.xor_lt_two_pow (n := 8) d0 d4
      have x2 := u8_xor_nat (q0 ^^^ q4) q5 l1 d5
      have l2 := Nat.xor_lt_two_pow (n := 8) l1 d5
      have x3 := u8_xor_nat (q0 ^^^ q4 ^^^ q5) q6 l2 d6
      have l3 := Nat.xor_lt_two_pow (n := 8) l2 d6
      have x4 := u8_xor_nat (q0 ^^^ q4 ^^^ q5 ^^^ q6) q7 l3 d7
      have l4 := Nat.xor_lt_two_pow (n := 8) l3 d7
      have x5 := u8_xor_nat (q0 ^^^ q4 ^^^ q5 ^^^ q6 ^^^ q7) q9 l4 d9
      rw [← hbit] at x5
      have hm : ((Fld.bentBit i b : Nat) : Int) % 2 = ((Fld.bentBit i b % 2 : Nat) : Int) := by omega
      have hsl := bent_shl (Fld.bentBit i b) i hk0
      have hsi : ((Fld.bentBit i b % 2 : Nat) : Int) * 2 ^ i = ((Fld.bentBit i b % 2 * 2 ^ i : Nat) : Int) := by simp
      have hor : bits BinOp.or IntKind.u8 (o : Int) ((Fld.bentBit i b % 2 * 2 ^ i : Nat) : Int) = ((o ||| Fld.bentBit i b % 2 * 2 ^ i : Nat) : Int) := u8_or_nat _ _ ho hsl
      have hmod : ((Fld.bentBit i b % 2 * 2 ^ i : Nat) : Int) % 256 = ((Fld.bentBit i b % 2 * 2 ^ i : Nat) : Int) := by omega
      have hi8' : (i : Int) < 8 := by omega
      generalize Fld.bentBit i b = mb at *
      generalize mb % 2 * 2 ^ i = sh at *
      generalize mb % 2 = m2 at *
      clear hbit hnext hdv d9 d0 d4 d5 d6 d7 l1 l2 l3 l4 hbl hsl hk0 hi8 hb
      go_wp2_with fail
      go_quiet (fail)
      have HBn : Hid (∃ m, wr.drewN nq = w.drewN m) := Lib.hid ⟨m1 + nq, by rw [HB.out, World.drewN_drewN]⟩
      go_wp2
      go_roundw
      case rel => exact ⟨Hnext.out, HBn.out⟩
      case measure => simp [intOf]; omega
    · have hz : Hid (o = r) := by
        have h1 := Hik.out; have h2 := Hr.out
        obtain rfl : k = 0 := by omega
        exact h2
      go_wp2
      go_ret
      exact ⟨ret_int (by rw [hz.out]), m1, HB.out⟩

theorem below_drewN_self (w : World) (m : Nat) : Below w.heap.size w (w.drewN m) := ⟨rfl, rfl, rfl, Nat.le_refl _, fun _ _ => rfl⟩
theorem bent_nat (b : Nat) (hb : b < 256) (w : World) :
    Calls Try.prog 32 #[.int .u8 b] w fun e w' => e = .returned (.int .u8 ((Fld.bent b : Nat) : Int)) ∧ Below w.heap.size w w' :=
  (bent_quiet b hb w).mono fun e w' ⟨he, m, hm⟩ => ⟨he, by rw [hm]; exact below_drewN_self w m⟩

theorem refSub_quiet (a : Nat) (ha : a < 256) (w : World) :
    Calls Try.prog 18 #[.int .u8 a] w fun e w' => e = .returned (.int .u8 ((Fld.sub a : Nat) : Int)) ∧ ∃ m, w' = w.drewN m := by
  have h := bent_quiet (Fld.rinv a) (Fld.rinv_lt a)
  rw [Fld.bent_rinv a ha] at h
  go_enter Try.func18, Try.ntmps18
  go_wp2_with fail
  refine (refInv_nat a ha _).mono ?_
  rintro e w1 ⟨rfl, rfl⟩
  go_wp2_with fail
  refine (h _).mono ?_
  rintro e w2 ⟨rfl, hb⟩
  have Hb := Lib.hid hb
  clear hb h
  go_wp2
  go_ret
  exact ⟨rfl, Hb.out⟩
theorem refSub_nat (a : Nat) (ha : a < 256) (w : World) :
    Calls Try.prog 18 #[.int .u8 a] w fun e w' => e = .returned (.int .u8 ((Fld.sub a : Nat) : Int)) ∧ Below w.heap.size w w' :=
  (refSub_quiet a ha w).mono fun e w' ⟨he, m, hm⟩ => ⟨he, by rw [hm]; exact below_drewN_self w m⟩

end Go.Proofs.Ytkodfifmfpdjoaa
