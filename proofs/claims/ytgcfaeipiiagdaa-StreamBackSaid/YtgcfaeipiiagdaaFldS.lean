/-
  The plain functions of layer 3: what package field and its reference compute, over natural numbers below 256. No program in sight.
-/
import Derived.Laws.BitsAllLaws
namespace Go.Proofs.Ytgcfaeipiiagdaa
namespace Fld

/-- A byte times x. -/
def dbl (a : Nat) : Nat := if 128 ≤ a then (a * 2 % 256) ^^^ 27 else a * 2

/-- What the loop of a product comes to, with so many rounds to go. -/
def mulGo : Nat → Nat → Nat → Nat → Nat
  | 0, _, _, out => out
  | k + 1, a, b, out => if b = 0 then out else mulGo k (dbl a) (b / 2) (if b % 2 = 1 then out ^^^ a else out)

def mul (a b : Nat) : Nat := mulGo 8 a b 0

/-- The rounds of a power: n goes down by halves. -/
def invGo : Nat → Nat → Nat → Nat → Nat
  | 0, _, _, out => out
  | k + 1, a, n, out => if n = 0 then out else invGo k (mul a a) (n / 2) (if n % 2 = 1 then mul out a else out)

def inv (a : Nat) : Nat := invGo 8 a 254 1

/-- A byte turned by n places. -/
def rot (a n : Nat) : Nat := (a * 2 ^ (n % 8) % 256) ||| (a / 2 ^ (8 - n % 8))

def turned (a : Nat) (ns : List Nat) : Nat := ns.foldl (fun out n => out ^^^ rot a n) 0

def sub (a : Nat) : Nat := turned (inv a) [0, 1, 2, 3, 4] ^^^ 99

def back (a : Nat) : Nat := inv (turned a [1, 3, 6] ^^^ 5)

theorem dbl_lt (a : Nat) (h : a < 256) : dbl a < 256 := by
  unfold dbl
  split
  · exact Nat.xor_lt_two_pow (n := 8) (Nat.mod_lt _ (by decide)) (by decide)
  · omega

theorem mulGo_lt : ∀ (k a b out : Nat), a < 256 → out < 256 → mulGo k a b out < 256
  | 0, _, _, _, _, h => h
  | k + 1, a, b, out, ha, h => by
    unfold mulGo
    split
    · exact h
    · refine mulGo_lt k _ _ _ (dbl_lt a ha) ?_
      split
      · exact Nat.xor_lt_two_pow (n := 8) h ha
      · exact h

theorem mul_lt (a b : Nat) (ha : a < 256) : mul a b < 256 := mulGo_lt 8 a b 0 ha (by decide)

theorem invGo_lt : ∀ (k a n out : Nat), a < 256 → out < 256 → invGo k a n out < 256
  | 0, _, _, _, _, h => h
  | k + 1, a, n, out, ha, h => by
    unfold invGo
    split
    · exact h
    · refine invGo_lt k _ _ _ (mul_lt a a ha) ?_
      split
      · exact mul_lt out a h
      · exact h

theorem inv_lt (a : Nat) (ha : a < 256) : inv a < 256 := invGo_lt 8 a 254 1 ha (by decide)

theorem rot_lt (a n : Nat) (ha : a < 256) : rot a n < 256 := by
  unfold rot
  exact Nat.or_lt_two_pow (n := 8) (Nat.mod_lt _ (by decide)) (Nat.lt_of_le_of_lt (Nat.div_le_self _ _) ha)

theorem turned_lt (a : Nat) (ha : a < 256) (ns : List Nat) : turned a ns < 256 := by
  unfold turned
  suffices h : ∀ (ns : List Nat) (o : Nat), o < 256 → ns.foldl (fun out n => out ^^^ rot a n) o < 256 from h ns 0 (by decide)
  intro ns
  induction ns with
  | nil => exact fun o h => h
  | cons n ns ih => exact fun o h => ih _ (Nat.xor_lt_two_pow (n := 8) h (rot_lt a n ha))

theorem sub_lt (a : Nat) (ha : a < 256) : sub a < 256 := Nat.xor_lt_two_pow (n := 8) (turned_lt _ (inv_lt a ha) _) (by decide)
theorem back_lt (a : Nat) (ha : a < 256) : back a < 256 := inv_lt _ (Nat.xor_lt_two_pow (n := 8) (turned_lt a ha _) (by decide))

end Fld
end Go.Proofs.Ytgcfaeipiiagdaa
