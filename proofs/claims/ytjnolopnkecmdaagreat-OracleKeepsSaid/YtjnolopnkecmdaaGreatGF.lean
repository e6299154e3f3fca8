/-
  Several texts in one: FldM, FldL, AesP, LawK, LawA, LawZ, LawO.
-/
import Derived.Test.YtjnolopnkecmdaaGreatGB
import Derived.Test.YtjnolopnkecmdaaGreatAesIK

/-
  Plain laws of layer 3 on what is mixed: products go through sums; Unmix undoes Mix; Mix four times is nothing.
-/
namespace Go.Proofs.YtjnolopnkecmdaaGreat
namespace Fld

/-- A product without a running sum. -/
def mulG : Nat → Nat → Nat → Nat
  | 0, _, _ => 0
  | k + 1, a, b => (if b % 2 = 1 then a else 0) ^^^ mulG k (dbl a) (b / 2)

theorem mulG_zero : ∀ k a, mulG k a 0 = 0
  | 0, _ => rfl
  | k + 1, a => by simp [mulG, mulG_zero k]

theorem mulGo_eq : ∀ (k a b o : Nat), mulGo k a b o = o ^^^ mulG k a b
  | 0, _, _, o => by simp [mulGo, mulG]
  | k + 1, a, b, o => by
    unfold mulGo mulG
    by_cases h : b = 0
    · subst h; simp [mulG_zero]
    · rw [if_neg h, mulGo_eq k]
      by_cases h2 : b % 2 = 1
      · rw [if_pos h2, if_pos h2, Nat.xor_assoc]
      · rw [if_neg h2, if_neg h2, Nat.zero_xor]

theorem xor_mod2 (x y : Nat) : (x ^^^ y) % 2 = (x % 2) ^^^ (y % 2) := Nat.xor_mod_two_pow (n := 1)
theorem xor_div2 (x y : Nat) : (x ^^^ y) / 2 = x / 2 ^^^ y / 2 := Nat.xor_div_two

theorem mulG_xor : ∀ (k a x y : Nat), mulG k a (x ^^^ y) = mulG k a x ^^^ mulG k a y
  | 0, _, _, _ => by simp [mulG]
  | k + 1, a, x, y => by
    unfold mulG
    rw [xor_div2, mulG_xor k, xor_mod2]
    rcases Nat.mod_two_eq_zero_or_one x with hx | hx <;> rcases Nat.mod_two_eq_zero_or_one y with hy | hy <;> simp only [hx, hy] <;> simp
    · ac_rfl
    · rw [Nat.xor_assoc]
    · rw [show a ^^^ mulG k (dbl a) (x / 2) ^^^ (a ^^^ mulG k (dbl a) (y / 2)) = (a ^^^ a) ^^^ (mulG k (dbl a) (x / 2) ^^^ mulG k (dbl a) (y / 2)) from by ac_rfl, Nat.xor_self, Nat.zero_xor]

/-- Products go through sums. -/
theorem mul_xor (a x y : Nat) : mul a (x ^^^ y) = mul a x ^^^ mul a y := by
  simp only [mul, mulGo_eq, Nat.zero_xor, mulG_xor]

theorem mx_eq (c0 c1 c2 c3 : Nat) : mx [c0, c1, c2, c3] 0 = mul 2 c0 ^^^ mul 3 c1 ^^^ mul 1 c2 ^^^ mul 1 c3 ∧ mx [c0, c1, c2, c3] 1 = mul 2 c1 ^^^ mul 3 c2 ^^^ mul 1 c3 ^^^ mul 1 c0 ∧
    mx [c0, c1, c2, c3] 2 = mul 2 c2 ^^^ mul 3 c3 ^^^ mul 1 c0 ^^^ mul 1 c1 ∧ mx [c0, c1, c2, c3] 3 = mul 2 c3 ^^^ mul 3 c0 ^^^ mul 1 c1 ^^^ mul 1 c2 := by
  refine ⟨?_, ?_, ?_, ?_⟩ <;> simp [mx, rowTo, term]
theorem ux_eq (c0 c1 c2 c3 : Nat) : ux [c0, c1, c2, c3] 0 = mul 14 c0 ^^^ mul 11 c1 ^^^ mul 13 c2 ^^^ mul 9 c3 ∧ ux [c0, c1, c2, c3] 1 = mul 14 c1 ^^^ mul 11 c2 ^^^ mul 13 c3 ^^^ mul 9 c0 ∧
    ux [c0, c1, c2, c3] 2 = mul 14 c2 ^^^ mul 11 c3 ^^^ mul 13 c0 ^^^ mul 9 c1 ∧ ux [c0, c1, c2, c3] 3 = mul 14 c3 ^^^ mul 11 c0 ^^^ mul 13 c1 ^^^ mul 9 c2 := by
  refine ⟨?_, ?_, ?_, ?_⟩ <;> simp [ux, rowTo, term]

theorem mx_xor (c0 c1 c2 c3 d0 d1 d2 d3 : Nat) : mx [c0 ^^^ d0, c1 ^^^ d1, c2 ^^^ d2, c3 ^^^ d3] 0 = mx [c0, c1, c2, c3] 0 ^^^ mx [d0, d1, d2, d3] 0 ∧ mx [c0 ^^^ d0, c1 ^^^ d1, c2 ^^^ d2, c3 ^^^ d3] 1 = mx [c0, c1, c2, c3] 1 ^^^ mx [d0, d1, d2, d3] 1 ∧
    mx [c0 ^^^ d0, c1 ^^^ d1, c2 ^^^ d2, c3 ^^^ d3] 2 = mx [c0, c1, c2, c3] 2 ^^^ mx [d0, d1, d2, d3] 2 ∧ mx [c0 ^^^ d0, c1 ^^^ d1, c2 ^^^ d2, c3 ^^^ d3] 3 = mx [c0, c1, c2, c3] 3 ^^^ mx [d0, d1, d2, d3] 3 := by
  obtain ⟨a0, a1, a2, a3⟩ := mx_eq c0 c1 c2 c3
  obtain ⟨b0, b1, b2, b3⟩ := mx_eq d0 d1 d2 d3
  obtain ⟨e0, e1, e2, e3⟩ := mx_eq (c0 ^^^ d0) (c1 ^^^ d1) (c2 ^^^ d2) (c3 ^^^ d3)
  rw [a0, a1, a2, a3, b0, b1, b2, b3, e0, e1, e2, e3]
  simp only [mul_xor]
  refine ⟨?_, ?_, ?_, ?_⟩ <;> ac_rfl
theorem mx_turn (c0 c1 c2 c3 : Nat) : mx [c1, c2, c3, c0] 0 = mx [c0, c1, c2, c3] 1 ∧ mx [c1, c2, c3, c0] 1 = mx [c0, c1, c2, c3] 2 ∧ mx [c1, c2, c3, c0] 2 = mx [c0, c1, c2, c3] 3 ∧ mx [c1, c2, c3, c0] 3 = mx [c0, c1, c2, c3] 0 := by
  obtain ⟨a0, a1, a2, a3⟩ := mx_eq c0 c1 c2 c3
  obtain ⟨e0, e1, e2, e3⟩ := mx_eq c1 c2 c3 c0
  exact ⟨e0.trans a1.symm, e1.trans a2.symm, e2.trans a3.symm, e3.trans a0.symm⟩

/-- One place, mixed by p and then by q, of four bytes, each told apart. -/
theorem two_mixes (q0 q1 q2 q3 p0 p1 p2 p3 c0 c1 c2 c3 : Nat) :
    mul q0 (mul p0 c0 ^^^ mul p1 c1 ^^^ mul p2 c2 ^^^ mul p3 c3) ^^^ mul q1 (mul p0 c1 ^^^ mul p1 c2 ^^^ mul p2 c3 ^^^ mul p3 c0) ^^^ mul q2 (mul p0 c2 ^^^ mul p1 c3 ^^^ mul p2 c0 ^^^ mul p3 c1) ^^^ mul q3 (mul p0 c3 ^^^ mul p1 c0 ^^^ mul p2 c1 ^^^ mul p3 c2) =
    (mul q0 (mul p0 c0) ^^^ mul q1 (mul p3 c0) ^^^ mul q2 (mul p2 c0) ^^^ mul q3 (mul p1 c0)) ^^^ (mul q0 (mul p1 c1) ^^^ mul q1 (mul p0 c1) ^^^ mul q2 (mul p3 c1) ^^^ mul q3 (mul p2 c1)) ^^^
    (mul q0 (mul p2 c2) ^^^ mul q1 (mul p1 c2) ^^^ mul q2 (mul p0 c2) ^^^ mul q3 (mul p3 c2)) ^^^ (mul q0 (mul p3 c3) ^^^ mul q1 (mul p2 c3) ^^^ mul q2 (mul p1 c3) ^^^ mul q3 (mul p0 c3)) := by
  simp only [mul_xor]
  ac_rfl

theorem um : ∀ x, x < 256 → (mul 14 (mul 2 x) ^^^ mul 11 (mul 1 x) ^^^ mul 13 (mul 1 x) ^^^ mul 9 (mul 3 x) = x ∧ mul 14 (mul 3 x) ^^^ mul 11 (mul 2 x) ^^^ mul 13 (mul 1 x) ^^^ mul 9 (mul 1 x) = 0 ∧
    mul 14 (mul 1 x) ^^^ mul 11 (mul 3 x) ^^^ mul 13 (mul 2 x) ^^^ mul 9 (mul 1 x) = 0 ∧ mul 14 (mul 1 x) ^^^ mul 11 (mul 1 x) ^^^ mul 13 (mul 3 x) ^^^ mul 9 (mul 2 x) = 0) := by decide +kernel
theorem mu : ∀ x, x < 256 → (mul 2 (mul 14 x) ^^^ mul 3 (mul 9 x) ^^^ mul 1 (mul 13 x) ^^^ mul 1 (mul 11 x) = x ∧ mul 2 (mul 11 x) ^^^ mul 3 (mul 14 x) ^^^ mul 1 (mul 9 x) ^^^ mul 1 (mul 13 x) = 0 ∧
    mul 2 (mul 13 x) ^^^ mul 3 (mul 11 x) ^^^ mul 1 (mul 14 x) ^^^ mul 1 (mul 9 x) = 0 ∧ mul 2 (mul 9 x) ^^^ mul 3 (mul 13 x) ^^^ mul 1 (mul 11 x) ^^^ mul 1 (mul 14 x) = 0) := by decide +kernel
theorem mm : ∀ x, x < 256 → (mul 2 (mul 2 x) ^^^ mul 3 (mul 1 x) ^^^ mul 1 (mul 1 x) ^^^ mul 1 (mul 3 x) = mul 5 x ∧ mul 2 (mul 3 x) ^^^ mul 3 (mul 2 x) ^^^ mul 1 (mul 1 x) ^^^ mul 1 (mul 1 x) = 0 ∧
    mul 2 (mul 1 x) ^^^ mul 3 (mul 3 x) ^^^ mul 1 (mul 2 x) ^^^ mul 1 (mul 1 x) = mul 4 x ∧ mul 2 (mul 1 x) ^^^ mul 3 (mul 1 x) ^^^ mul 1 (mul 3 x) ^^^ mul 1 (mul 2 x) = 0) := by decide +kernel
theorem mmmm : ∀ x, x < 256 → (mul 5 (mul 5 x) ^^^ mul 4 (mul 4 x) = x ∧ mul 5 (mul 4 x) ^^^ mul 4 (mul 5 x) = 0) := by decide +kernel
theorem m_same : ∀ x, x < 256 → mul 2 x ^^^ mul 3 x ^^^ mul 1 x ^^^ mul 1 x = x := by decide +kernel

section
variable {c0 c1 c2 c3 : Nat} (h0 : c0 < 256) (h1 : c1 < 256) (h2 : c2 < 256) (h3 : c3 < 256)
include h0 h1 h2 h3

theorem unmix_mix : ux [mx [c0, c1, c2, c3] 0, mx [c0, c1, c2, c3] 1, mx [c0, c1, c2, c3] 2, mx [c0, c1, c2, c3] 3] 0 = c0 ∧ ux [mx [c0, c1, c2, c3] 0, mx [c0, c1, c2, c3] 1, mx [c0, c1, c2, c3] 2, mx [c0, c1, c2, c3] 3] 1 = c1 ∧
    ux [mx [c0, c1, c2, c3] 0, mx [c0, c1, c2, c3] 1, mx [c0, c1, c2, c3] 2, mx [c0, c1, c2, c3] 3] 2 = c2 ∧ ux [mx [c0, c1, c2, c3] 0, mx [c0, c1, c2, c3] 1, mx [c0, c1, c2, c3] 2, mx [c0, c1, c2, c3] 3] 3 = c3 := by
  obtain ⟨m0, m1, m2, m3⟩ := mx_eq c0 c1 c2 c3
  rw [(ux_eq _ _ _ _).1, (ux_eq _ _ _ _).2.1, (ux_eq _ _ _ _).2.2.1, (ux_eq _ _ _ _).2.2.2, m0, m1, m2, m3]
  simp only [two_mixes, (um c0 h0).1, (um c0 h0).2.1, (um c0 h0).2.2.1, (um c0 h0).2.2.2, (um c1 h1).1, (um c1 h1).2.1, (um c1 h1).2.2.1, (um c1 h1).2.2.2, (um c2 h2).1, (um c2 h2).2.1, (um c2 h2).2.2.1, (um c2 h2).2.2.2, (um c3 h3).1, (um c3 h3).2.1, (um c3 h3).2.2.1, (um c3 h3).2.2.2, Nat.xor_zero, and_self]

theorem mix_unmix : mx [ux [c0, c1, c2, c3] 0, ux [c0, c1, c2, c3] 1, ux [c0, c1, c2, c3] 2, ux [c0, c1, c2, c3] 3] 0 = c0 ∧ mx [ux [c0, c1, c2, c3] 0, ux [c0, c1, c2, c3] 1, ux [c0, c1, c2, c3] 2, ux [c0, c1, c2, c3] 3] 1 = c1 ∧
    mx [ux [c0, c1, c2, c3] 0, ux [c0, c1, c2, c3] 1, ux [c0, c1, c2, c3] 2, ux [c0, c1, c2, c3] 3] 2 = c2 ∧ mx [ux [c0, c1, c2, c3] 0, ux [c0, c1, c2, c3] 1, ux [c0, c1, c2, c3] 2, ux [c0, c1, c2, c3] 3] 3 = c3 := by
  obtain ⟨m0, m1, m2, m3⟩ := ux_eq c0 c1 c2 c3
  rw [(mx_eq _ _ _ _).1, (mx_eq _ _ _ _).2.1, (mx_eq _ _ _ _).2.2.1, (mx_eq _ _ _ _).2.2.2, m0, m1, m2, m3]
  simp only [two_mixes, (mu c0 h0).1, (mu c0 h0).2.1, (mu c0 h0).2.2.1, (mu c0 h0).2.2.2, (mu c1 h1).1, (mu c1 h1).2.1, (mu c1 h1).2.2.1, (mu c1 h1).2.2.2, (mu c2 h2).1, (mu c2 h2).2.1, (mu c2 h2).2.2.1, (mu c2 h2).2.2.2, (mu c3 h3).1, (mu c3 h3).2.1, (mu c3 h3).2.2.1, (mu c3 h3).2.2.2, Nat.xor_zero, and_self]

theorem mix_twice : mx [mx [c0, c1, c2, c3] 0, mx [c0, c1, c2, c3] 1, mx [c0, c1, c2, c3] 2, mx [c0, c1, c2, c3] 3] 0 = mul 5 c0 ^^^ mul 4 c2 ∧ mx [mx [c0, c1, c2, c3] 0, mx [c0, c1, c2, c3] 1, mx [c0, c1, c2, c3] 2, mx [c0, c1, c2, c3] 3] 1 = mul 5 c1 ^^^ mul 4 c3 ∧
    mx [mx [c0, c1, c2, c3] 0, mx [c0, c1, c2, c3] 1, mx [c0, c1, c2, c3] 2, mx [c0, c1, c2, c3] 3] 2 = mul 5 c2 ^^^ mul 4 c0 ∧ mx [mx [c0, c1, c2, c3] 0, mx [c0, c1, c2, c3] 1, mx [c0, c1, c2, c3] 2, mx [c0, c1, c2, c3] 3] 3 = mul 5 c3 ^^^ mul 4 c1 := by
  obtain ⟨m0, m1, m2, m3⟩ := mx_eq c0 c1 c2 c3
  rw [(mx_eq (mx [c0, c1, c2, c3] 0) _ _ _).1, (mx_eq (mx [c0, c1, c2, c3] 0) _ _ _).2.1, (mx_eq (mx [c0, c1, c2, c3] 0) _ _ _).2.2.1, (mx_eq (mx [c0, c1, c2, c3] 0) _ _ _).2.2.2, m0, m1, m2, m3]
  simp only [two_mixes, (mm c0 h0).1, (mm c0 h0).2.1, (mm c0 h0).2.2.1, (mm c0 h0).2.2.2, (mm c1 h1).1, (mm c1 h1).2.1, (mm c1 h1).2.2.1, (mm c1 h1).2.2.2, (mm c2 h2).1, (mm c2 h2).2.1, (mm c2 h2).2.2.1, (mm c2 h2).2.2.2, (mm c3 h3).1, (mm c3 h3).2.1, (mm c3 h3).2.2.1, (mm c3 h3).2.2.2, Nat.xor_zero, and_self]
end

theorem mix_four {c0 c1 c2 c3 : Nat} (h0 : c0 < 256) (h1 : c1 < 256) (h2 : c2 < 256) (h3 : c3 < 256) {a0 a1 a2 a3 b0 b1 b2 b3 d0 d1 d2 d3 : Nat}
    (ha : mx [c0, c1, c2, c3] 0 = a0 ∧ mx [c0, c1, c2, c3] 1 = a1 ∧ mx [c0, c1, c2, c3] 2 = a2 ∧ mx [c0, c1, c2, c3] 3 = a3)
    (hb : mx [a0, a1, a2, a3] 0 = b0 ∧ mx [a0, a1, a2, a3] 1 = b1 ∧ mx [a0, a1, a2, a3] 2 = b2 ∧ mx [a0, a1, a2, a3] 3 = b3)
    (hd : mx [b0, b1, b2, b3] 0 = d0 ∧ mx [b0, b1, b2, b3] 1 = d1 ∧ mx [b0, b1, b2, b3] 2 = d2 ∧ mx [b0, b1, b2, b3] 3 = d3) :
    mx [d0, d1, d2, d3] 0 = c0 ∧ mx [d0, d1, d2, d3] 1 = c1 ∧ mx [d0, d1, d2, d3] 2 = c2 ∧ mx [d0, d1, d2, d3] 3 = c3 := by
  obtain ⟨rfl, rfl, rfl, rfl⟩ := ha
  obtain ⟨rfl, rfl, rfl, rfl⟩ := hb
  obtain ⟨rfl, rfl, rfl, rfl⟩ := hd
  obtain ⟨e0, e1, e2, e3⟩ := mix_twice h0 h1 h2 h3
  have l0 := mx_lt [mx [c0, c1, c2, c3] 0, mx [c0, c1, c2, c3] 1, mx [c0, c1, c2, c3] 2, mx [c0, c1, c2, c3] 3] 0
  have l1 := mx_lt [mx [c0, c1, c2, c3] 0, mx [c0, c1, c2, c3] 1, mx [c0, c1, c2, c3] 2, mx [c0, c1, c2, c3] 3] 1
  have l2 := mx_lt [mx [c0, c1, c2, c3] 0, mx [c0, c1, c2, c3] 1, mx [c0, c1, c2, c3] 2, mx [c0, c1, c2, c3] 3] 2
  have l3 := mx_lt [mx [c0, c1, c2, c3] 0, mx [c0, c1, c2, c3] 1, mx [c0, c1, c2, c3] 2, mx [c0, c1, c2, c3] 3] 3
  rw [e0] at l0 ⊢; rw [e1] at l1 ⊢; rw [e2] at l2 ⊢; rw [e3] at l3 ⊢
  obtain ⟨f0, f1, f2, f3⟩ := mix_twice l0 l1 l2 l3
  have key : ∀ x y, x < 256 → y < 256 → mul 5 (mul 5 x ^^^ mul 4 y) ^^^ mul 4 (mul 5 y ^^^ mul 4 x) = x := by
    intro x y hx hy
    rw [mul_xor, mul_xor, show mul 5 (mul 5 x) ^^^ mul 5 (mul 4 y) ^^^ (mul 4 (mul 5 y) ^^^ mul 4 (mul 4 x)) = (mul 5 (mul 5 x) ^^^ mul 4 (mul 4 x)) ^^^ (mul 5 (mul 4 y) ^^^ mul 4 (mul 5 y)) from by ac_rfl,
      (mmmm x hx).1, (mmmm y hy).2, Nat.xor_zero]
  rw [f0, f1, f2, f3]
  exact ⟨key _ _ h0 h2, key _ _ h1 h3, key _ _ h2 h0, key _ _ h3 h1⟩

end Fld
end Go.Proofs.YtjnolopnkecmdaaGreat

/-
  Plain laws of layer 3: about numbers alone.
-/
namespace Go.Proofs.YtjnolopnkecmdaaGreat
namespace Fld

theorem inv_inv : ∀ a, a < 256 → inv (inv a) = a := by decide +kernel
theorem mul_inv : ∀ a, a < 256 → a ≠ 0 → mul a (inv a) = 1 := by decide +kernel
theorem back_sub : ∀ a, a < 256 → back (sub a) = a := by decide +kernel
theorem sub_back : ∀ a, a < 256 → sub (back a) = a := by decide +kernel
theorem sub_ne : ∀ a, a < 256 → sub a ≠ a ∧ sub a ^^^ a ≠ 255 := by decide +kernel

theorem awake_all : mul 87 131 = 193 ∧ sub 0 = 99 ∧ inv 0 = 0 ∧ inv 1 = 1 ∧ back 99 = 0 := by decide +kernel

end Fld
end Go.Proofs.YtjnolopnkecmdaaGreat

/-
  Plain laws of layer 4: decrypting undoes encrypting, and the other way round. About numbers alone.
-/
namespace Go.Proofs.YtjnolopnkecmdaaGreat
namespace Aes

theorem range_ext {f g : Nat → Nat} (h : ∀ i, i < 16 → f i = g i) : (List.range 16).map f = (List.range 16).map g :=
  List.map_congr_left fun i hi => h i (by simpa using hi)
theorem range_self {s : List Nat} (hs : s.length = 16) : (List.range 16).map (fun i => s.getD i 0) = s := by
  apply List.ext_getElem
  · simp [hs]
  · intro i h1 h2; simp [List.getD_eq_getElem?_getD, h2]
theorem each_get {f : Nat → Nat} {s : List Nat} {i : Nat} (hi : i < 16) : (each f s).getD i 0 = f (s.getD i 0) := by simp only [each]; rw [range_get hi]
theorem move_get {b : Nat} {s : List Nat} {i : Nat} (hi : i < 16) : (move b s).getD i 0 = s.getD ((i + 4 * b * (i % 4)) % 16) 0 := by simp only [move]; rw [range_get hi]
theorem add_get {s k : List Nat} {i : Nat} (hi : i < 16) : (add s k).getD i 0 = s.getD i 0 ^^^ k.getD i 0 := by simp only [add]; rw [range_get hi]
theorem columns_get {f : List Nat → Nat → Nat} {s : List Nat} {i : Nat} (hi : i < 16) :
    (columns f s).getD i 0 = f [s.getD (4 * (i / 4)) 0, s.getD (4 * (i / 4) + 1) 0, s.getD (4 * (i / 4) + 2) 0, s.getD (4 * (i / 4) + 3) 0] (i % 4) := by simp only [columns]; rw [range_get hi]

theorem add_add {s k : List Nat} (hs : s.length = 16) : add (add s k) k = s := by
  conv => rhs; rw [← range_self hs]
  rw [add]
  exact range_ext fun i hi => by rw [add_get hi, Nat.xor_assoc, Nat.xor_self, Nat.xor_zero]
theorem each_each {f g : Nat → Nat} {s : List Nat} (hs : s.length = 16) (h : ∀ x, x < 256 → f (g x) = x) (ha : Bs.All s) : each f (each g s) = s := by
  conv => rhs; rw [← range_self hs]
  rw [each]
  exact range_ext fun i hi => by rw [each_get hi, h _ (ha i)]
theorem move_moved : (∀ i, i < 16 → ((i + 4 * 3 * (i % 4)) % 16 + 4 * 1 * ((i + 4 * 3 * (i % 4)) % 16 % 4)) % 16 = i) ∧
    (∀ i, i < 16 → ((i + 4 * 1 * (i % 4)) % 16 + 4 * 3 * ((i + 4 * 1 * (i % 4)) % 16 % 4)) % 16 = i) := by decide
theorem move31 {s : List Nat} (hs : s.length = 16) : move 3 (move 1 s) = s := by
  conv => rhs; rw [← range_self hs]
  rw [move]
  exact range_ext fun i hi => by rw [move_get (Nat.mod_lt _ (by decide)), move_moved.1 i hi]
theorem move13 {s : List Nat} (hs : s.length = 16) : move 1 (move 3 s) = s := by
  conv => rhs; rw [← range_self hs]
  rw [move]
  exact range_ext fun i hi => by rw [move_get (Nat.mod_lt _ (by decide)), move_moved.2 i hi]

theorem columns_columns {f g : List Nat → Nat → Nat} {s : List Nat} (hs : s.length = 16) (ha : Bs.All s)
    (h : ∀ c0 c1 c2 c3, c0 < 256 → c1 < 256 → c2 < 256 → c3 < 256 → ∀ j, j < 4 → f [g [c0, c1, c2, c3] 0, g [c0, c1, c2, c3] 1, g [c0, c1, c2, c3] 2, g [c0, c1, c2, c3] 3] j = [c0, c1, c2, c3].getD j 0) :
    columns f (columns g s) = s := by
  conv => rhs; rw [← range_self hs]
  rw [columns]
  refine range_ext fun i hi => ?_
  have e0 : 4 * (i / 4) < 16 := by omega
  have e1 : 4 * (i / 4) + 1 < 16 := by omega
  have e2 : 4 * (i / 4) + 2 < 16 := by omega
  have e3 : 4 * (i / 4) + 3 < 16 := by omega
  rw [columns_get e0, columns_get e1, columns_get e2, columns_get e3]
  rw [show 4 * (i / 4) / 4 = i / 4 by omega, show (4 * (i / 4) + 1) / 4 = i / 4 by omega, show (4 * (i / 4) + 2) / 4 = i / 4 by omega, show (4 * (i / 4) + 3) / 4 = i / 4 by omega,
    show 4 * (i / 4) % 4 = 0 by omega, show (4 * (i / 4) + 1) % 4 = 1 by omega, show (4 * (i / 4) + 2) % 4 = 2 by omega, show (4 * (i / 4) + 3) % 4 = 3 by omega]
  rw [h _ _ _ _ (ha _) (ha _) (ha _) (ha _) (i % 4) (Nat.mod_lt _ (by decide))]
  rcases (show i % 4 = 0 ∨ i % 4 = 1 ∨ i % 4 = 2 ∨ i % 4 = 3 by omega) with h | h | h | h <;> rw [h] <;> simp only [List.getD_cons_zero, List.getD_cons_succ] <;> congr 1 <;> omega

theorem ux_mx {s : List Nat} (hs : s.length = 16) (ha : Bs.All s) : columns Fld.ux (columns Fld.mx s) = s :=
  columns_columns hs ha fun c0 c1 c2 c3 h0 h1 h2 h3 j hj => by
    obtain ⟨a, b, c, d⟩ := Fld.unmix_mix h0 h1 h2 h3
    rcases (show j = 0 ∨ j = 1 ∨ j = 2 ∨ j = 3 by omega) with rfl | rfl | rfl | rfl
    · exact a
    · exact b
    · exact c
    · exact d
theorem mx_ux {s : List Nat} (hs : s.length = 16) (ha : Bs.All s) : columns Fld.mx (columns Fld.ux s) = s :=
  columns_columns hs ha fun c0 c1 c2 c3 h0 h1 h2 h3 j hj => by
    obtain ⟨a, b, c, d⟩ := Fld.mix_unmix h0 h1 h2 h3
    rcases (show j = 0 ∨ j = 1 ∨ j = 2 ∨ j = 3 by omega) with rfl | rfl | rfl | rfl
    · exact a
    · exact b
    · exact c
    · exact d

theorem encStep_all {s : List Nat} {x : List Nat × Bool} (ha : Bs.All s) (hx : Bs.All x.1) : Bs.All (encStep s x) := by
  have h := move_all 1 (each_all Fld.sub_lt ha)
  unfold encStep
  split
  · exact add_all h hx
  · exact add_all (columns_all Fld.mx_lt) hx
theorem decStep_all {s : List Nat} {x : List Nat × Bool} (ha : Bs.All s) (hx : Bs.All x.1) : Bs.All (decStep s x) := by
  unfold decStep
  refine each_all Fld.back_lt (move_all 3 ?_)
  split
  · exact add_all ha hx
  · exact columns_all Fld.ux_lt

theorem dec_encStep {s : List Nat} {x : List Nat × Bool} (hs : s.length = 16) (ha : Bs.All s) : decStep (encStep s x) x = s := by
  have h1 := each_all Fld.sub_lt ha
  have h2 := move_all 1 h1
  obtain ⟨k, l⟩ := x
  cases l
  · simp only [decStep, encStep, if_neg Bool.false_ne_true]
    rw [add_add (columns_length _ _), ux_mx (move_length _ _) h2, move31 (each_length _ _), each_each hs Fld.back_sub ha]
  · simp only [decStep, encStep, if_pos]
    rw [add_add (move_length _ _), move31 (each_length _ _), each_each hs Fld.back_sub ha]
theorem enc_decStep {s : List Nat} {x : List Nat × Bool} (hs : s.length = 16) (ha : Bs.All s) (hx : Bs.All x.1) : encStep (decStep s x) x = s := by
  obtain ⟨k, l⟩ := x
  have h1 := add_all ha hx
  cases l
  · have h2 : Bs.All (columns Fld.ux (add s k)) := columns_all Fld.ux_lt
    simp only [decStep, encStep, if_neg Bool.false_ne_true]
    rw [each_each (move_length _ _) Fld.sub_back (move_all 3 h2), move13 (columns_length _ _), mx_ux (add_length _ _) h1, add_add hs]
  · simp only [decStep, encStep, if_pos]
    rw [each_each (move_length _ _) Fld.sub_back (move_all 3 h1), move13 (add_length _ _), add_add hs]

theorem encs_all : ∀ (R : List (List Nat × Bool)) (s : List Nat), s.length = 16 → Bs.All s → (∀ x ∈ R, Bs.All x.1) → (R.foldl encStep s).length = 16 ∧ Bs.All (R.foldl encStep s)
  | [], _, hs, ha, _ => ⟨hs, ha⟩
  | x :: R, s, _, ha, hx => encs_all R _ (encStep_length s x) (encStep_all ha (hx x (by simp))) fun y hy => hx y (by simp [hy])
theorem decs_all : ∀ (R : List (List Nat × Bool)) (s : List Nat), s.length = 16 → Bs.All s → (∀ x ∈ R, Bs.All x.1) → (R.foldl decStep s).length = 16 ∧ Bs.All (R.foldl decStep s)
  | [], _, hs, ha, _ => ⟨hs, ha⟩
  | x :: R, s, _, ha, hx => decs_all R _ (decStep_length s x) (decStep_all ha (hx x (by simp))) fun y hy => hx y (by simp [hy])
theorem dec_encs : ∀ (R : List (List Nat × Bool)) (s : List Nat), s.length = 16 → Bs.All s → (∀ x ∈ R, Bs.All x.1) → R.reverse.foldl decStep (R.foldl encStep s) = s
  | [], _, _, _, _ => rfl
  | x :: R, s, hs, ha, hx => by
    simp only [List.reverse_cons, List.foldl_append, List.foldl_cons, List.foldl_nil]
    rw [dec_encs R _ (encStep_length s x) (encStep_all ha (hx x (by simp))) (fun y hy => hx y (by simp [hy]))]
    exact dec_encStep hs ha
theorem enc_decs : ∀ (R : List (List Nat × Bool)) (s : List Nat), s.length = 16 → Bs.All s → (∀ x ∈ R, Bs.All x.1) → R.reverse.foldl encStep (R.foldl decStep s) = s
  | [], _, _, _, _ => rfl
  | x :: R, s, hs, ha, hx => by
    simp only [List.reverse_cons, List.foldl_append, List.foldl_cons, List.foldl_nil]
    rw [enc_decs R _ (decStep_length s x) (decStep_all ha (hx x (by simp))) (fun y hy => hx y (by simp [hy]))]
    exact enc_decStep hs ha (hx x (by simp))

theorem rounds_turned (n : Nat) (l : List Nat) : rounds n l true = (rounds n l false).reverse := by
  apply List.ext_getElem
  · simp [rounds]
  · intro i h1 h2
    rw [List.getElem_reverse]
    have h3 : i < n + 6 := by simpa [rounds_length] using h1
    simp only [rounds, List.getElem_map, List.getElem_range, List.length_map, List.length_range, if_true, Bool.false_eq_true, if_false]
    rw [show n + 6 - 1 - i + 1 = n + 6 - i by omega]
    congr 1
    exact decide_eq_decide.2 (by omega)

theorem rounds_alls {n : Nat} {l : List Nat} {b : Bool} (hl : l.length = 16 * (n + 7)) (ha : Bs.All l) : ∀ x ∈ rounds n l b, Bs.All x.1 := fun _ hx => (rounds_mem hl ha hx).2

/-- A key that may be: its round keys. -/
theorem key_length {n : Nat} {k : List Nat} (hk : k.length = 4 * n) : (expanded k).length = 16 * (n + 7) := by rw [expanded_length, hk]; omega

theorem enc_length {n : Nat} {k b : List Nat} (hk : k.length = 4 * n) (hka : Bs.All k) (hb : Bs.All b) : (enc k b).length = 16 ∧ Bs.All (enc k b) := by
  have hl := key_length hk
  rw [enc, show k.length / 4 = n by omega]
  exact encs_all _ _ (add_length _ _) (add_all hb (keyAt_all (expanded_all hka) 0)) (rounds_alls hl (expanded_all hka))
theorem dec_length {n : Nat} {k b : List Nat} (hk : k.length = 4 * n) (hka : Bs.All k) (hbl : b.length = 16) (hb : Bs.All b) : (dec k b).length = 16 ∧ Bs.All (dec k b) := by
  have hl := key_length hk
  rw [dec, show k.length / 4 = n by omega]
  exact ⟨add_length _ _, add_all (decs_all _ _ hbl hb (rounds_alls hl (expanded_all hka))).2 (keyAt_all (expanded_all hka) 0)⟩

theorem dec_enc {n : Nat} {k b : List Nat} (hk : k.length = 4 * n) (hka : Bs.All k) (hbl : b.length = 16) (hb : Bs.All b) : dec k (enc k b) = b := by
  have hl := key_length hk
  rw [dec, enc, show k.length / 4 = n by omega, rounds_turned, dec_encs _ _ (add_length _ _) (add_all hb (keyAt_all (expanded_all hka) 0)) (rounds_alls hl (expanded_all hka)), add_add hbl]
theorem enc_dec {n : Nat} {k b : List Nat} (hk : k.length = 4 * n) (hka : Bs.All k) (hbl : b.length = 16) (hb : Bs.All b) : enc k (dec k b) = b := by
  have hl := key_length hk
  have hd := decs_all (rounds n (expanded k) true) b hbl hb (rounds_alls hl (expanded_all hka))
  rw [dec, enc, show k.length / 4 = n by omega, add_add hd.1]
  have h := enc_decs (rounds n (expanded k) true) b hbl hb (rounds_alls hl (expanded_all hka))
  rw [rounds_turned, List.reverse_reverse] at h
  rw [rounds_turned]
  exact h

/-- Chapter 4's example. -/
theorem awake_enc : enc [0, 1, 2, 3, 4, 5, 6, 7, 8, 9, 10, 11, 12, 13, 14, 15] [0, 17, 34, 51, 68, 85, 102, 119, 136, 153, 170, 187, 204, 221, 238, 255] =
    [105, 196, 224, 216, 106, 123, 4, 48, 216, 205, 183, 128, 112, 180, 197, 90] := by decide +kernel

end Aes
end Go.Proofs.YtjnolopnkecmdaaGreat

/-
  Plain: a key's round keys, word by word.
-/
namespace Go.Proofs.YtjnolopnkecmdaaGreat
namespace Aes

theorem getD_of_take {r l : List Nat} {m p : Nat} (h : r.take m = l) (hp : p < m) : r.getD p 0 = l.getD p 0 := by
  rw [← h]; simp [List.getD_eq_getElem?_getD, hp]

/-- What is told of word j. -/
def WordIs (n : Nat) (r : List Nat) (j m : Nat) : Prop :=
  ∀ t, t < 4 → r.getD (4 * j + t) 0 = (turnT n j m (wordAt r (j - 1))).getD t 0 ^^^ r.getD (4 * (j - n) + t) 0

theorem expGo_words (n : Nat) (hn : 0 < n) : ∀ (k i mark : Nat) (l : List Nat), l.length = 4 * i → n ≤ i →
    (expGo n k i mark l).take (4 * i) = l ∧ ∀ j, i ≤ j → j < i + k → ∃ m, (j = i → m = mark) ∧ WordIs n (expGo n k i mark l) j m
  | 0, i, mark, l, hl, _ => ⟨by rw [expGo, ← hl, List.take_length], fun j h1 h2 => by omega⟩
  | k + 1, i, mark, l, hl, hni => by
    have hnl : (newWord n i mark l).length = 4 := rfl
    obtain ⟨h1, h2⟩ := expGo_words n hn k (i + 1) (if i % n = 0 then Fld.mul 2 mark else mark) (l ++ newWord n i mark l) (by rw [List.length_append, hl, hnl]; omega) (by omega)
    rw [expGo]
    obtain ⟨r, hr⟩ : ∃ r, expGo n k (i + 1) (if i % n = 0 then Fld.mul 2 mark else mark) (l ++ newWord n i mark l) = r := ⟨_, rfl⟩
    rw [hr] at h1 h2 ⊢
    have hpre : r.take (4 * i) = l := by
      have := congrArg (List.take (4 * i)) h1
      rw [List.take_take, Nat.min_eq_left (by omega), List.take_append_of_le_length (by omega), ← hl, List.take_length] at this
      rw [← hl]; exact this
    refine ⟨hpre, fun j h3 h4 => ?_⟩
    by_cases hj : j = i
    · subst hj
      refine ⟨mark, fun _ => rfl, fun t ht => ?_⟩
      have e1 : r.getD (4 * j + t) 0 = (newWord n j mark l).getD t 0 := by
        rw [getD_of_take h1 (by omega)]
        simp [List.getD_eq_getElem?_getD, List.getElem?_append_right (show l.length ≤ 4 * j + t by omega), hl]
      have e2 : wordAt r (j - 1) = wordAt l (j - 1) := by
        unfold wordAt
        rw [getD_of_take hpre (by omega), getD_of_take hpre (by omega), getD_of_take hpre (by omega), getD_of_take hpre (by omega)]
      have e3 : r.getD (4 * (j - n) + t) 0 = l.getD (4 * (j - n) + t) 0 := getD_of_take hpre (by omega)
      rw [e1, e2, e3]
      rcases (show t = 0 ∨ t = 1 ∨ t = 2 ∨ t = 3 by omega) with rfl | rfl | rfl | rfl <;> rfl
    · obtain ⟨m, -, h⟩ := h2 j (by omega) (by omega)
      exact ⟨m, fun h => absurd h hj, h⟩

section
variable {n : Nat} (hn : n = 4 ∨ n = 8) {k : List Nat} (hk : k.length = 4 * n)
include hn hk

theorem expanded_words : (expanded k).take (4 * n) = k ∧ ∀ j, n ≤ j → j < 4 * n + 28 → ∃ m, (j = n → m = 1) ∧ WordIs n (expanded k) j m := by
  have hd : k.length / 4 = n := by omega
  rw [expanded, hd]
  obtain ⟨h1, h2⟩ := expGo_words n (by omega) (3 * n + 28) n 1 k hk (Nat.le_refl _)
  exact ⟨h1, fun j h3 h4 => h2 j h3 (by omega)⟩
theorem expanded_prefix : (expanded k).take (4 * n) = k := (expanded_words hn hk).1

/-- A byte of a word that is not turned. -/
theorem expanded_plain (p : Nat) (h1 : 4 * n ≤ p) (h2 : p < 16 * (n + 7)) (h3 : ¬ p / 4 % n = 0) (h4 : ¬ (n = 8 ∧ p / 4 % 8 = 4)) :
    (expanded k).getD p 0 = (expanded k).getD (p - 4) 0 ^^^ (expanded k).getD (p - 4 * n) 0 := by
  obtain ⟨m, -, hw⟩ := (expanded_words hn hk).2 (p / 4) (by omega) (by omega)
  have ht := hw (p % 4) (Nat.mod_lt _ (by decide))
  rw [show 4 * (p / 4) + p % 4 = p by omega, show 4 * (p / 4 - n) + p % 4 = p - 4 * n by omega] at ht
  rw [ht, turnT, if_neg h3, if_neg (fun h => h4 ⟨h.1, by obtain ⟨h5, h6⟩ := h; rw [h5] at h6; exact h6⟩)]
  congr 1
  have e : p - 4 = 4 * (p / 4 - 1) + p % 4 := by omega
  rw [e]
  have ht4 : p % 4 < 4 := Nat.mod_lt _ (by decide)
  generalize p % 4 = t at ht4
  generalize p / 4 - 1 = q
  rcases (show t = 0 ∨ t = 1 ∨ t = 2 ∨ t = 3 by omega) with rfl | rfl | rfl | rfl <;> rfl

/-- The first one that is. -/
theorem expanded_first : (expanded k).getD (4 * n + 1) 0 = (expanded k).getD 1 0 ^^^ Fld.sub ((expanded k).getD (4 * n - 2) 0) := by
  obtain ⟨m, -, hw⟩ := (expanded_words hn hk).2 n (Nat.le_refl _) (by omega)
  have ht := hw 1 (by decide)
  rw [ht, turnT, if_pos (Nat.mod_self n), Nat.sub_self, Nat.xor_comm, show 4 * n - 2 = 4 * (n - 1) + 2 by omega]
  rfl
end

end Aes

end Go.Proofs.YtjnolopnkecmdaaGreat

/-
  The helpers of layer 4's rows: pick, Key, Chunk.
-/
namespace Go.Proofs.YtjnolopnkecmdaaGreat
open Go.RowKit

/-- Which of n things a raw number speaks of. -/
def pickOf (c n : Int) : Int := (if c < 0 then -(c + 1) else c).tmod n

theorem pickOf_range {c n : Int} (hn : 0 < n) : 0 ≤ pickOf c n ∧ pickOf c n < n := by
  unfold pickOf
  split
  · rw [Int.tmod_eq_emod_of_nonneg (by omega)]; exact ⟨Int.emod_nonneg _ (by omega), Int.emod_lt_of_pos _ hn⟩
  · rw [Int.tmod_eq_emod_of_nonneg (by omega)]; exact ⟨Int.emod_nonneg _ (by omega), Int.emod_lt_of_pos _ hn⟩

def zeros (n : Nat) : ByteArray := strOf (List.replicate n 0)
def keyOf (s : ByteArray) (long : Bool) : ByteArray := (s ++ zeros 32).extract 0 (if long then 32 else 16)
def chunkOf (s : ByteArray) : ByteArray := (s ++ zeros 16).extract 0 16

theorem zeros_size (n : Nat) : (zeros n).size = n := by rw [zeros, strOf_size, List.length_replicate]
theorem keyOf_size (s : ByteArray) (long : Bool) : (keyOf s long).size = 4 * (if long then 8 else 4) := by
  cases long <;> simp [keyOf, zeros_size, ByteArray.size_append] <;> omega
theorem chunkOf_size (s : ByteArray) : (chunkOf s).size = 16 := by
  simp [chunkOf, zeros_size, ByteArray.size_append]

theorem LawA.infoByte : (Tryz.prog.info? 5).map (fun i => (i.zero, i.size, i.bytes)) = some (some (.int .u8 0), 1, 1) := by kernel_rfl

set_option maxRecDepth 100000 in
/-- string(make([]byte, n)). -/
theorem zero_bytes (n : Nat) (hn : n ≤ 1000000) (w : World) :
    ∃ W1, (Instr.makeSlice 63 (.int .i64 (n : Int)) (.int .i64 (n : Int))).run Tryz.prog w = .ok (.slice (some ⟨w.heap.size, 0, none⟩) n n) W1 ∧
      (convert 63 9 (.slice (some ⟨w.heap.size, 0, none⟩) n n)).run Tryz.prog W1 = .ok (.string (zeros n)) W1 ∧ Below w.heap.size w W1 := by
  obtain ⟨i0, hi0, hz0, hz1, hz2⟩ := info_parts LawA.infoByte
  obtain ⟨W1, h1, h2, h3⟩ := run_make_full (P := Tryz.prog) w w.heap.size 63 5 i0 _ 1 Tryz.underlying63 hi0 hz0 hz1 .i64 .i64 n (by rw [hz2]; omega) (by unfold maxLen; omega) (Nat.le_refl _)
  refine ⟨W1, h1, ?_, ?_⟩
  · exact conv_string (P := Tryz.prog) (src := 63) (dst := 9) Tryz.underlying63 Tryz.underlying5 Tryz.underlying9 w.heap.size 0 n (List.replicate n 0) W1
      (fun j hj => by
        have hj' : j < n := by simpa using hj
        rw [Nat.zero_add, h2.cellAt j (by omega)]
        simp [madeCells, hj', Value.cells, U, List.getD_eq_getElem?_getD, Nat.mod_one]) n (by simp)
  · exact (keep_grown (v := .slice none 0 0) h3).toBelow (fun k _ => by simp [Value.ownBlock])

end Go.Proofs.YtjnolopnkecmdaaGreat

/-
  string(make([]byte, n)), in steps.
-/
namespace Go.Proofs.YtjnolopnkecmdaaGreat
open Go.RowKit

def zeroCells (n : Nat) : Array Value := madeCells (Value.int .u8 0).cells n

theorem zeroCells_size (n : Nat) : (zeroCells n).size = n := by rw [zeroCells, size_madeCells]
theorem zeroCells_get (n : Nat) {j : Nat} (hj : j < n) : (zeroCells n)[j]? = some (U 0) := by
  simp [zeroCells, madeCells, hj, Value.cells, U, Nat.mod_one]

set_option maxRecDepth 100000 in
theorem make_zero (n : Nat) (hn : n ≤ 1000000) (w : World) :
    (Instr.makeSlice 63 (.int .i64 (n : Int)) (.int .i64 (n : Int))).run Tryz.prog w = .ok (.slice (some ⟨w.heap.size, 0, none⟩) n n) (w.alloc (.cells (zeroCells n) 5)) := by
  obtain ⟨i0, hi0, hz0, hz1, hz2⟩ := info_parts LawA.infoByte
  have h := run_make (P := Tryz.prog) w 63 5 i0 _ Tryz.underlying63 hi0 hz0 .i64 .i64 (n : Int) (n : Int) (by omega) (by omega) (by rw [hz2]; omega) (by omega)
  rw [h, hz1, Int.toNat_natCast, Nat.mul_one]
  rfl

theorem conv_zero (g n : Nat) (W : World) (h : Row W g 5 (zeroCells n)) :
    (convert 63 9 (.slice (some ⟨g, 0, none⟩) n n)).run Tryz.prog W = .ok (.string (zeros n)) W :=
  conv_string (P := Tryz.prog) (src := 63) (dst := 9) Tryz.underlying63 Tryz.underlying5 Tryz.underlying9 g 0 n (List.replicate n 0) W
    (fun j hj => by
      have hj' : j < n := by simpa using hj
      rw [Nat.zero_add, h.cell j, zeroCells_get n hj']
      simp [hj', List.getD_eq_getElem?_getD]) n (by simp)

/-- Two of them, in either order. -/
theorem conv_two (a b : Nat) (w : World) :
    (convert 63 9 (.slice (some ⟨w.heap.size, 0, none⟩) a a)).run Tryz.prog (w.alloc (.cells (zeroCells a) 5)) = .ok (.string (zeros a)) (w.alloc (.cells (zeroCells a) 5)) ∧
    (convert 63 9 (.slice (some ⟨w.heap.size, 0, none⟩) a a)).run Tryz.prog ((w.alloc (.cells (zeroCells a) 5)).alloc (.cells (zeroCells b) 5)) = .ok (.string (zeros a)) ((w.alloc (.cells (zeroCells a) 5)).alloc (.cells (zeroCells b) 5)) ∧
    (convert 63 9 (.slice (some ⟨w.heap.size + 1, 0, none⟩) b b)).run Tryz.prog ((w.alloc (.cells (zeroCells a) 5)).alloc (.cells (zeroCells b) 5)) = .ok (.string (zeros b)) ((w.alloc (.cells (zeroCells a) 5)).alloc (.cells (zeroCells b) 5)) := by
  have h := Row.new w 5 (zeroCells a)
  refine ⟨conv_zero _ _ _ h, conv_zero _ _ _ (h.alloc _), conv_zero _ _ _ ?_⟩
  have k := Row.new (w.alloc (.cells (zeroCells a) 5)) 5 (zeroCells b)
  rwa [World.size_alloc] at k

/-- .. where the order was drawn. -/
theorem conv_two_drew (a b : Nat) (w : World) :
    (convert 63 9 (.slice (some ⟨w.heap.size, 0, none⟩) a a)).run Tryz.prog (w.alloc (.cells (zeroCells a) 5)).drew = .ok (.string (zeros a)) (w.alloc (.cells (zeroCells a) 5)).drew ∧
    (convert 63 9 (.slice (some ⟨w.heap.size, 0, none⟩) a a)).run Tryz.prog ((w.alloc (.cells (zeroCells a) 5)).alloc (.cells (zeroCells b) 5)).drew = .ok (.string (zeros a)) ((w.alloc (.cells (zeroCells a) 5)).alloc (.cells (zeroCells b) 5)).drew ∧
    (convert 63 9 (.slice (some ⟨w.heap.size + 1, 0, none⟩) b b)).run Tryz.prog ((w.alloc (.cells (zeroCells a) 5)).alloc (.cells (zeroCells b) 5)).drew = .ok (.string (zeros b)) ((w.alloc (.cells (zeroCells a) 5)).alloc (.cells (zeroCells b) 5)).drew := by
  have h := Row.new w 5 (zeroCells a)
  refine ⟨conv_zero _ _ _ h.drew, conv_zero _ _ _ (h.alloc _).drew, conv_zero _ _ _ ?_⟩
  have k := Row.new (w.alloc (.cells (zeroCells a) 5)) 5 (zeroCells b)
  rw [World.size_alloc] at k
  exact k.drew

end Go.Proofs.YtjnolopnkecmdaaGreat

/-
  A text in which one byte is another one; and when two texts are unlike.
-/
namespace Go.Proofs.YtjnolopnkecmdaaGreat
open Go.RowKit

def otherOf (b : ByteArray) (i y : Nat) : ByteArray := b.extract 0 i ++ strOf [y] ++ b.extract (i + 1) b.size

theorem otherOf_size (b : ByteArray) (i y : Nat) (hi : i < b.size) : (otherOf b i y).size = b.size := by
  simp only [otherOf, ByteArray.size_append, ByteArray.size_extract, strOf_size, List.length_cons, List.length_nil]
  omega
theorem bytesOf_append (a b : ByteArray) : bytesOf (a ++ b) = bytesOf a ++ bytesOf b := by simp [bytesOf, ByteArray.data_append]
theorem mid_byte (P Q : List Nat) (y : Nat) : (P ++ [y] ++ Q).getD P.length 0 = y := by simp [List.getD_eq_getElem?_getD]
theorem otherOf_byte (b : ByteArray) (i y : Nat) (hi : i < b.size) (hy : y < 256) : (bytesOf (otherOf b i y)).getD i 0 = y := by
  have hl : (((bytesOf b).drop 0).take (i - 0)).length = i := by rw [List.length_take, List.drop_zero, bytesOf_length]; omega
  have hY : Bs.All [y] := .of_mem fun x hx => by rw [List.mem_singleton] at hx; omega
  rw [otherOf, bytesOf_append, bytesOf_append, bytesOf_extract _ _ _ (by omega), bytesOf_strOf hY]
  generalize ((bytesOf b).drop 0).take (i - 0) = P at hl
  subst hl
  exact mid_byte _ _ _

theorem texts_beq (a b : ByteArray) : (a.toList == b.toList) = decide (a = b) := by
  rw [ByteArray.toList_eq, ByteArray.toList_eq]
  by_cases h : a = b
  · subst h; simp
  · rw [decide_eq_false h, beq_eq_false_iff_ne]
    intro he
    apply h
    cases a; cases b
    simp only [ByteArray.mk.injEq]
    exact Array.toList_inj.1 he

theorem strOf_inj {a b : List Nat} (ha : Bs.All a) (hb : Bs.All b) (h : strOf a = strOf b) : a = b := by rw [← bytesOf_strOf ha, ← bytesOf_strOf hb, h]

end Go.Proofs.YtjnolopnkecmdaaGreat
