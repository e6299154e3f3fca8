/-
  Plain laws of layer 3 on what is mixed: products go through sums; Unmix undoes Mix; Mix four times is nothing.
-/
import Derived.Test.YtgcfaeipiiagdaaFldE
namespace Go.Proofs.Ytgcfaeipiiagdaa
namespace Fld

/-- A product without a running sum. -/
def mulG : Nat → Nat → Nat → Nat
  | 0, _, _ => 0
  | k + 1, a, b => (if b % 2 = 1 then a else 0) ^^^ mulG k (dbl a) (b / 2)

theorem mulG_zero : ∀ k a, mulG k a 0 = 0
  | 0, _ => rfl
  | k + 1, a => by simp [mulG, mulG_zero k]

theorem mulGo_eq : ∀ (k a b o : Nat), mulGo k a b o = o ^^^ mulG k a b
  | 0, _, _, o => by simp [mulGo, mulG]
  | k + 1, a, b, o => by
    unfold mulGo mulG
    by_cases h : b = 0
    · subst h; simp [mulG_zero]
    · rw [if_neg h, mulGo_eq k]
      by_cases h2 : b % 2 = 1
      · rw [if_pos h2, if_pos h2, Nat.xor_assoc]
      · rw [if_neg h2, if_neg h2, Nat.zero_xor]

theorem xor_mod2 (x y : Nat) : (x ^^^ y) % 2 = (x % 2) ^^^ (y % 2) := Nat.xor_mod_two_pow (n := 1)
theorem xor_div2 (x y : Nat) : (x ^^^ y) / 2 = x / 2 ^^^ y / 2 := Nat.xor_div_two

theorem mulG_xor : ∀ (k a x y : Nat), mulG k a (x ^^^ y) = mulG k a x ^^^ mulG k a y
  | 0, _, _, _ => by simp [mulG]
  | k + 1, a, x, y => by
    unfold mulG
    rw [xor_div2, mulG_xor k, xor_mod2]
    rcases Nat.mod_two_eq_zero_or_one x with hx | hx <;> rcases Nat.mod_two_eq_zero_or_one y with hy | hy <;> simp only [hx, hy] <;> simp
    · ac_rfl
    · rw [Nat.xor_assoc]
    · rw [show a ^^^ mulG k (dbl a) (x / 2) ^^^ (a ^^^ mulG k (dbl a) (y / 2)) = (a ^^^ a) ^^^ (mulG k (dbl a) (x / 2) ^^^ mulG k (dbl a) (y / 2)) from by ac_rfl, Nat.xor_self, Nat.zero_xor]

/-- Products go through sums. -/
theorem mul_xor (a x y : Nat) : mul a (x ^^^ y) = mul a x ^^^ mul a y := by
  simp only [mul, mulGo_eq, Nat.zero_xor, mulG_xor]

theorem mx_eq (c0 c1 c2 c3 : Nat) : mx [c0, c1, c2, c3] 0 = mul 2 c0 ^^^ mul 3 c1 ^^^ mul 1 c2 ^^^ mul 1 c3 ∧ mx [c0, c1, c2, c3] 1 = mul 2 c1 ^^^ mul 3 c2 ^^^ mul 1 c3 ^^^ mul 1 c0 ∧
    mx [c0, c1, c2, c3] 2 = mul 2 c2 ^^^ mul 3 c3 ^^^ mul 1 c0 ^^^ mul 1 c1 ∧ mx [c0, c1, c2, c3] 3 = mul 2 c3 ^^^ mul 3 c0 ^^^ mul 1 c1 ^^^ mul 1 c2 := by
  refine ⟨?_, ?_, ?_, ?_⟩ <;> simp [mx, rowTo, term]
theorem ux_eq (c0 c1 c2 c3 : Nat) : ux [c0, c1, c2, c3] 0 = mul 14 c0 ^^^ mul 11 c1 ^^^ mul 13 c2 ^^^ mul 9 c3 ∧ ux [c0, c1, c2, c3] 1 = mul 14 c1 ^^^ mul 11 c2 ^^^ mul 13 c3 ^^^ mul 9 c0 ∧
    ux [c0, c1, c2, c3] 2 = mul 14 c2 ^^^ mul 11 c3 ^^^ mul 13 c0 ^^^ mul 9 c1 ∧ ux [c0, c1, c2, c3] 3 = mul 14 c3 ^^^ mul 11 c0 ^^^ mul 13 c1 ^^^ mul 9 c2 := by
  refine ⟨?_, ?_, ?_, ?_⟩ <;> simp [ux, rowTo, term]

theorem mx_xor (c0 c1 c2 c3 d0 d1 d2 d3 : Nat) : mx [c0 ^^^ d0, c1 ^^^ d1, c2 ^^^ d2, c3 ^^^ d3] 0 = mx [c0, c1, c2, c3] 0 ^^^ mx [d0, d1, d2, d3] 0 ∧ mx [c0 ^^^ d0, c1 ^^^ d1, c2 ^^^ d2, c3 ^^^ d3] 1 = mx [c0, c1, c2, c3] 1 ^^^ mx [d0, d1, d2, d3] 1 ∧
    mx [c0 ^^^ d0, c1 ^^^ d1, c2 ^^^ d2, c3 ^^^ d3] 2 = mx [c0, c1, c2, c3] 2 ^^^ mx [d0, d1, d2, d3] 2 ∧ mx [c0 ^^^ d0, c1 ^^^ d1, c2 ^^^ d2, c3 ^^^ d3] 3 = mx [c0, c1, c2, c3] 3 ^^^ mx [d0, d1, d2, d3] 3 := by
  obtain ⟨a0, a1, a2, a3⟩ := mx_eq c0 c1 c2 c3
  obtain ⟨b0, b1, b2, b3⟩ := mx_eq d0 d1 d2 d3
  obtain ⟨e0, e1, e2, e3⟩ := mx_eq (c0 ^^^ d0) (c1 ^^^ d1) (c2 ^^^ d2) (c3 ^^^ d3)
  rw [a0, a1, a2, a3, b0, b1, b2, b3, e0, e1, e2, e3]
  simp only [mul_xor]
  refine ⟨?_, ?_, ?_, ?_⟩ <;> ac_rfl
theorem mx_turn (c0 c1 c2 c3 : Nat) : mx [c1, c2, c3, c0] 0 = mx [c0, c1, c2, c3] 1 ∧ mx [c1, c2, c3, c0] 1 = mx [c0, c1, c2, c3] 2 ∧ mx [c1, c2, c3, c0] 2 = mx [c0, c1, c2, c3] 3 ∧ mx [c1, c2, c3, c0] 3 = mx [c0, c1, c2, c3] 0 := by
  obtain ⟨a0, a1, a2, a3⟩ := mx_eq c0 c1 c2 c3
  obtain ⟨e0, e1, e2, e3⟩ := mx_eq c1 c2 c3 c0
  exact ⟨e0.trans a1.symm, e1.trans a2.symm, e2.trans a3.symm, e3.trans a0.symm⟩

/-- One place, mixed by p and then by q, of four bytes, each told apart. -/
theorem two_mixes (q0 q1 q2 q3 p0 p1 p2 p3 c0 c1 c2 c3 : Nat) :
    mul q0 (mul p0 c0 ^^^ mul p1 c1 ^^^ mul p2 c2 ^^^ mul p3 c3) ^^^ mul q1 (mul p0 c1 ^^^ mul p1 c2 ^^^ mul p2 c3 ^^^ mul p3 c0) ^^^ mul q2 (mul p0 c2 ^^^ mul p1 c3 ^^^ mul p2 c0 ^^^ mul p3 c1) ^^^ mul q3 (mul p0 c3 ^^^ mul p1 c0 ^^^ mul p2 c1 ^^^ mul p3 c2) =
    (mul q0 (mul p0 c0) ^^^ mul q1 (mul p3 c0) ^^^ mul q2 (mul p2 c0) ^^^ mul q3 (mul p1 c0)) ^^^ (mul q0 (mul p1 c1) ^^^ mul q1 (mul p0 c1) ^^^ mul q2 (mul p3 c1) ^^^ mul q3 (mul p2 c1)) ^^^
    (mul q0 (mul p2 c2) ^^^ mul q1 (mul p1 c2) ^^^ mul q2 (mul p0 c2) ^^^ mul q3 (mul p3 c2)) ^^^ (mul q0 (mul p3 c3) ^^^ mul q1 (mul p2 c3) ^^^ mul q2 (mul p1 c3) ^^^ mul q3 (mul p0 c3)) := by
  simp only [mul_xor]
  ac_rfl

theorem um : ∀ x, x < 256 → (mul 14 (mul 2 x) ^^^ mul 11 (mul 1 x) ^^^ mul 13 (mul 1 x) ^^^ mul 9 (mul 3 x) = x ∧ mul 14 (mul 3 x) ^^^ mul 11 (mul 2 x) ^^^ mul 13 (mul 1 x) ^^^ mul 9 (mul 1 x) = 0 ∧
    mul 14 (mul 1 x) ^^^ mul 11 (mul 3 x) ^^^ mul 13 (mul 2 x) ^^^ mul 9 (mul 1 x) = 0 ∧ mul 14 (mul 1 x) ^^^ mul 11 (mul 1 x) ^^^ mul 13 (mul 3 x) ^^^ mul 9 (mul 2 x) = 0) := by decide +kernel
theorem mu : ∀ x, x < 256 → (mul 2 (mul 14 x) ^^^ mul 3 (mul 9 x) ^^^ mul 1 (mul 13 x) ^^^ mul 1 (mul 11 x) = x ∧ mul 2 (mul 11 x) ^^^ mul 3 (mul 14 x) ^^^ mul 1 (mul 9 x) ^^^ mul 1 (mul 13 x) = 0 ∧
    mul 2 (mul 13 x) ^^^ mul 3 (mul 11 x) ^^^ mul 1 (mul 14 x) ^^^ mul 1 (mul 9 x) = 0 ∧ mul 2 (mul 9 x) ^^^ mul 3 (mul 13 x) ^^^ mul 1 (mul 11 x) ^^^ mul 1 (mul 14 x) = 0) := by decide +kernel
theorem mm : ∀ x, x < 256 → (mul 2 (mul 2 x) ^^^ mul 3 (mul 1 x) ^^^ mul 1 (mul 1 x) ^^^ mul 1 (mul 3 x) = mul 5 x ∧ mul 2 (mul 3 x) ^^^ mul 3 (mul 2 x) ^^^ mul 1 (mul 1 x) ^^^ mul 1 (mul 1 x) = 0 ∧
    mul 2 (mul 1 x) ^^^ mul 3 (mul 3 x) ^^^ mul 1 (mul 2 x) ^^^ mul 1 (mul 1 x) = mul 4 x ∧ mul 2 (mul 1 x) ^^^ mul 3 (mul 1 x) ^^^ mul 1 (mul 3 x) ^^^ mul 1 (mul 2 x) = 0) := by decide +kernel
theorem mmmm : ∀ x, x < 256 → (mul 5 (mul 5 x) ^^^ mul 4 (mul 4 x) = x ∧ mul 5 (mul 4 x) ^^^ mul 4 (mul 5 x) = 0) := by decide +kernel
theorem m_same : ∀ x, x < 256 → mul 2 x ^^^ mul 3 x ^^^ mul 1 x ^^^ mul 1 x = x := by decide +kernel

section
variable {c0 c1 c2 c3 : Nat} (h0 : c0 < 256) (h1 : c1 < 256) (h2 : c2 < 256) (h3 : c3 < 256)
include h0 h1 h2 h3

theorem unmix_mix : ux [mx [c0, c1, c2, c3] 0, mx [c0, c1, c2, c3] 1, mx [c0, c1, c2, c3] 2, mx [c0, c1, c2, c3] 3] 0 = c0 ∧ ux [mx [c0, c1, c2, c3] 0, mx [c0, c1, c2, c3] 1, mx [c0, c1, c2, c3] 2, mx [c0, c1, c2, c3] 3] 1 = c1 ∧
    ux [mx [c0, c1, c2, c3] 0, mx [c0, c1, c2, c3] 1, mx [c0, c1, c2, c3] 2, mx [c0, c1, c2, c3] 3] 2 = c2 ∧ ux [mx [c0, c1, c2, c3] 0, mx [c0, c1, c2, c3] 1, mx [c0, c1, c2, c3] 2, mx [c0, c1, c2, c3] 3] 3 = c3 := by
  obtain ⟨m0, m1, m2, m3⟩ := mx_eq c0 c1 c2 c3
  rw [(ux_eq _ _ _ _).1, (ux_eq _ _ _ _).2.1, (ux_eq _ _ _ _).2.2.1, (ux_eq _ _ _ _).2.2.2, m0, m1, m2, m3]
  simp only [two_mixes, (um c0 h0).1, (um c0 h0).2.1, (um c0 h0).2.2.1, (um c0 h0).2.2.2, (um c1 h1).1, (um c1 h1).2.1, (um c1 h1).2.2.1, (um c1 h1).2.2.2, (um c2 h2).1, (um c2 h2).2.1, (um c2 h2).2.2.1, (um c2 h2).2.2.2, (um c3 h3).1, (um c3 h3).2.1, (um c3 h3).2.2.1, (um c3 h3).2.2.2, Nat.xor_zero, and_self]

theorem mix_unmix : mx [ux [c0, c1, c2, c3] 0, ux [c0, c1, c2, c3] 1, ux [c0, c1, c2, c3] 2, ux [c0, c1, c2, c3] 3] 0 = c0 ∧ mx [ux [c0, c1, c2, c3] 0, ux [c0, c1, c2, c3] 1, ux [c0, c1, c2, c3] 2, ux [c0, c1, c2, c3] 3] 1 = c1 ∧
    mx [ux [c0, c1, c2, c3] 0, ux [c0, c1, c2, c3] 1, ux [c0, c1, c2, c3] 2, ux [c0, c1, c2, c3] 3] 2 = c2 ∧ mx [ux [c0, c1, c2, c3] 0, ux [c0, c1, c2, c3] 1, ux [c0, c1, c2, c3] 2, ux [c0, c1, c2, c3] 3] 3 = c3 := by
  obtain ⟨m0, m1, m2, m3⟩ := ux_eq c0 c1 c2 c3
  rw [(mx_eq _ _ _ _).1, (mx_eq _ _ _ _).2.1, (mx_eq _ _ _ _).2.2.1, (mx_eq _ _ _ _).2.2.2, m0, m1, m2, m3]
  simp only [two_mixes, (mu c0 h0).1, (mu c0 h0).2.1, (mu c0 h0).2.2.1, (mu c0 h0).2.2.2, (mu c1 h1).1, (mu c1 h1).2.1, (mu c1 h1).2.2.1, (mu c1 h1).2.2.2, (mu c2 h2).1, (mu c2 h2).2.1, (mu c2 h2).2.2.1, (mu c2 h2).2.2.2, (mu c3 h3).1, (mu c3 h3).2.1, (mu c3 h3).2.2.1, (mu c3 h3).2.2.2, Nat.xor_zero, and_self]

theorem mix_twice : mx [mx [c0, c1, c2, c3] 0, mx [c0, c1, c2, c3] 1, mx [c0, c1, c2, c3] 2, mx [c0, c1, c2, c3] 3] 0 = mul 5 c0 ^^^ mul 4 c2 ∧ mx [mx [c0, c1, c2, c3] 0, mx [c0, c1, c2, c3] 1, mx [c0, c1, c2, c3] 2, mx [c0, c1, c2, c3] 3] 1 = mul 5 c1 ^^^ mul 4 c3 ∧
    mx [mx [c0, c1, c2, c3] 0, mx [c0, c1, c2, c3] 1, mx [c0, c1, c2, c3] 2, mx [c0, c1, c2, c3] 3] 2 = mul 5 c2 ^^^ mul 4 c0 ∧ mx [mx [c0, c1, c2, c3] 0, mx [c0, c1, c2, c3] 1, mx [c0, c1, c2, c3] 2, mx [c0, c1, c2, c3] 3] 3 = mul 5 c3 ^^^ mul 4 c1 := by
  obtain ⟨m0, m1, m2, m3⟩ := mx_eq c0 c1 c2 c3
  rw [(mx_eq (mx [c0, c1, c2, c3] 0) _ _ _).1, (mx_eq (mx [c0, c1, c2, c3] 0) _ _ _).2.1, (mx_eq (mx [c0, c1, c2, c3] 0) _ _ _).2.2.1, (mx_eq (mx [c0, c1, c2, c3] 0) _ _ _).2.2.2, m0, m1, m2, m3]
  simp only [two_mixes, (mm c0 h0).1, (mm c0 h0).2.1, (mm c0 h0).2.2.1, (mm c0 h0).2.2.2, (mm c1 h1).1, (mm c1 h1).2.1, (mm c1 h1).2.2.1, (mm c1 h1).2.2.2, (mm c2 h2).1, (mm c2 h2).2.1, (mm c2 h2).2.2.1, (mm c2 h2).2.2.2, (mm c3 h3).1, (mm c3 h3).2.1, (mm c3 h3).2.2.1, (mm c3 h3).2.2.2, Nat.xor_zero, and_self]
end

theorem mix_four {c0 c1 c2 c3 : Nat} (h0 : c0 < 256) (h1 : c1 < 256) (h2 : c2 < 256) (h3 : c3 < 256) {a0 a1 a2 a3 b0 b1 b2 b3 d0 d1 d2 d3 : Nat}
    (ha : mx [c0, c1, c2, c3] 0 = a0 ∧ mx [c0, c1, c2, c3] 1 = a1 ∧ mx [c0, c1, c2, c3] 2 = a2 ∧ mx [c0, c1, c2, c3] 3 = a3)
    (hb : mx [a0, a1, a2, a3] 0 = b0 ∧ mx [a0, a1, a2, a3] 1 = b1 ∧ mx [a0, a1, a2, a3] 2 = b2 ∧ mx [a0, a1, a2, a3] 3 = b3)
    (hd : mx [b0, b1, b2, b3] 0 = d0 ∧ mx [b0, b1, b2, b3] 1 = d1 ∧ mx [b0, b1, b2, b3] 2 = d2 ∧ mx [b0, b1, b2, b3] 3 = d3) :
    mx [d0, d1, d2, d3] 0 = c0 ∧ mx [d0, d1, d2, d3] 1 = c1 ∧ mx [d0, d1, d2, d3] 2 = c2 ∧ mx [d0, d1, d2, d3] 3 = c3 := by
  obtain ⟨rfl, rfl, rfl, rfl⟩ := ha
  obtain ⟨rfl, rfl, rfl, rfl⟩ := hb
  obtain ⟨rfl, rfl, rfl, rfl⟩ := hd
  obtain ⟨e0, e1, e2, e3⟩ := mix_twice h0 h1 h2 h3
  have l0 := mx_lt [mx [c0, c1, c2, c3] 0, mx [c0, c1, c2, c3] 1, mx [c0, c1, c2, c3] 2, mx [c0, c1, c2, c3] 3] 0
  have l1 := mx_lt [mx [c0, c1, c2, c3] 0, mx [c0, c1, c2, c3] 1, mx [c0, c1, c2, c3] 2, mx [c0, c1, c2, c3] 3] 1
  have l2 := mx_lt [mx [c0, c1, c2, c3] 0, mx [c0, c1, c2, c3] 1, mx [c0, c1, c2, c3] 2, mx [c0, c1, c2, c3] 3] 2
  have l3 := mx_lt [mx [c0, c1, c2, c3] 0, mx [c0, c1, c2, c3] 1, mx [c0, c1, c2, c3] 2, mx [c0, c1, c2, c3] 3] 3
  rw [e0] at l0 ⊢; rw [e1] at l1 ⊢; rw [e2] at l2 ⊢; rw [e3] at l3 ⊢
  obtain ⟨f0, f1, f2, f3⟩ := mix_twice l0 l1 l2 l3
  have key : ∀ x y, x < 256 → y < 256 → mul 5 (mul 5 x ^^^ mul 4 y) ^^^ mul 4 (mul 5 y ^^^ mul 4 x) = x := by
    intro x y hx hy
    rw [mul_xor, mul_xor, show mul 5 (mul 5 x) ^^^ mul 5 (mul 4 y) ^^^ (mul 4 (mul 5 y) ^^^ mul 4 (mul 4 x)) = (mul 5 (mul 5 x) ^^^ mul 4 (mul 4 x)) ^^^ (mul 5 (mul 4 y) ^^^ mul 4 (mul 5 y)) from by ac_rfl,
      (mmmm x hx).1, (mmmm y hy).2, Nat.xor_zero]
  rw [f0, f1, f2, f3]
  exact ⟨key _ _ h0 h2, key _ _ h1 h3, key _ _ h2 h0, key _ _ h3 h1⟩

end Fld
end Go.Proofs.Ytgcfaeipiiagdaa
