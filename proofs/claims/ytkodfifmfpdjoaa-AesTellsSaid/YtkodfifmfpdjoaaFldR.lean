/-
  Contracts of the reference's Mul and Inv (layer 3); what undoes a byte is the same as the program's.
-/
import Derived.Test.YtkodfifmfpdjoaaFldM
namespace Go.Proofs.Ytkodfifmfpdjoaa
open Go.RowKit

namespace Fld
/-- The reference's loop, with rounds i, i+1, .. to go. -/
def rmulGo : Nat → Nat → Nat → Nat → Nat → Nat
  | 0, _, _, _, out => out
  | k + 1, i, b, x, out => rmulGo k (i + 1) b (dbl x) (if b / 2 ^ i % 2 = 1 then out ^^^ x else out)
def rmul (a b : Nat) : Nat := rmulGo 8 0 b a 0
/-- From b on: the first byte whose product is 1. -/
def rinvGo : Nat → Nat → Nat → Nat
  | 0, _, _ => 0
  | k + 1, a, b => if rmul a b = 1 then b else rinvGo k a (b + 1)
def rinv (a : Nat) : Nat := rinvGo 256 a 0

theorem rmulGo_lt : ∀ (k i b x out : Nat), x < 256 → out < 256 → rmulGo k i b x out < 256
  | 0, _, _, _, _, _, h => h
  | k + 1, i, b, x, out, hx, h => by
    unfold rmulGo
    refine rmulGo_lt k _ _ _ _ (dbl_lt x hx) ?_
    split
    · exact Nat.xor_lt_two_pow (n := 8) h hx
    · exact h
theorem rmul_lt (a b : Nat) (ha : a < 256) : rmul a b < 256 := rmulGo_lt 8 0 b a 0 ha (by decide)
theorem rinvGo_lt : ∀ (k a b : Nat), b + k ≤ 256 → rinvGo k a b < 256
  | 0, _, _, _ => by simp [rinvGo]
  | k + 1, a, b, h => by
    unfold rinvGo
    split
    · omega
    · exact rinvGo_lt k a (b + 1) (by omega)
theorem rinv_lt (a : Nat) : rinv a < 256 := rinvGo_lt 256 a 0 (by decide)

/-- Both products are one. -/
theorem rmulGo_eq : ∀ (k i b x out : Nat), b < 2 ^ (i + k) → rmulGo k i b x out = mulGo k x (b / 2 ^ i) out
  | 0, _, _, _, _, _ => rfl
  | k + 1, i, b, x, out, h => by
    unfold rmulGo mulGo
    rw [rmulGo_eq k (i + 1) b _ _ (by rw [show i + 1 + k = i + (k + 1) from by omega]; exact h), Nat.pow_succ, ← Nat.div_div_eq_div_mul]
    by_cases h0 : b / 2 ^ i = 0
    · rw [if_pos h0, h0]
      cases k <;> simp [mulGo]
    · rw [if_neg h0]
theorem rmul_eq (a b : Nat) (hb : b < 256) : rmul a b = mul a b := by
  unfold rmul mul; rw [rmulGo_eq 8 0 b a 0 (by simpa using hb)]; simp

theorem inv_one : ∀ a, a < 256 → rinv a = inv a := by decide +kernel
end Fld

theorem dbl_big (x : Nat) (h : 128 ≤ x) : bits BinOp.xor IntKind.u8 ((x : Int) * 2 % 256) 27 = ((Fld.dbl x : Nat) : Int) := by
  have := u8_xor_nat (x * 2 % 256) 27 (by omega) (by decide)
  unfold Fld.dbl
  rw [if_pos h, ← this, show ((x * 2 % 256 : Nat) : Int) = (x : Int) * 2 % 256 from by omega]
  rfl
theorem dbl_small (x : Nat) (h : ¬ 128 ≤ x) : (x : Int) * 2 = ((Fld.dbl x : Nat) : Int) := by
  unfold Fld.dbl; rw [if_neg h]; omega

/-- Where the reference's Mul stands at the head of a round. -/
def RMulAt (r b : Nat) (vo vx vi : Value) : Prop :=
  ∃ k i x o : Nat, Fld.rmulGo k i b x o = r ∧ i + k = 8 ∧ x < 256 ∧ o < 256 ∧ vo = .int .u8 o ∧ vx = .int .u8 x ∧ vi = .int .i64 i

theorem RMulAt_next {r b k i x o o' : Nat} (h : Fld.rmulGo (k + 1) i b x o = r) (hk : i + (k + 1) = 8) (hx : x < 256) (ho : o' < 256) (hov : o' = if b / 2 ^ i % 2 = 1 then o ^^^ x else o) :
    RMulAt r b (.int .u8 o') (.int .u8 (Fld.dbl x : Nat)) (.int .i64 ((i : Int) + 1)) :=
  ⟨k, i + 1, Fld.dbl x, o', by rw [← h, Fld.rmulGo, hov], by omega, Fld.dbl_lt x hx, ho, rfl, rfl, rfl⟩

set_option maxRecDepth 100000 in
set_option maxHeartbeats 1000000 in
theorem refMul_nat (a b : Nat) (ha : a < 256) (hb : b < 256) (w : World) :
    Calls Try.prog 36 #[.int .u8 a, .int .u8 b] w fun e w' => e = .returned (.int .u8 ((Fld.rmul a b : Nat) : Int)) ∧ w = w' := by
  have hst : RMulAt (Fld.rmul a b) b (.int .u8 0) (.int .u8 a) (.int .i64 0) := ⟨8, 0, a, 0, rfl, rfl, ha, by decide, rfl, rfl, rfl⟩
  generalize Fld.rmul a b = r at *
  go_enter Try.func36, Try.ntmps36
  go_wp2
  go_loop [5, 6, 7] (fun vo vx vi => RMulAt r b vo vx vi) (fun _ _ vi => (8 - intOf vi).toNat)
  case atStart => exact hst
  case round =>
    clear hst
    obtain ⟨k, i, x, o, hr, hik, hx, ho, rfl, rfl, rfl⟩ := hrel
    have Hr := Lib.hid hr
    have Hik := Lib.hid hik
    have hi8 : i ≤ 8 := by omega
    clear hr hik
    by_cases hk0 : i < 8
    · obtain ⟨k, rfl⟩ : ∃ j, k = j + 1 := ⟨k - 1, by have := Hik.out; omega⟩
      have hfin := fun o' (ho' : o' < 256) hov => RMulAt_next (o' := o') Hr.out Hik.out hx ho' hov
      obtain ⟨q, hq⟩ : ∃ q, b / 2 ^ i = q := ⟨_, rfl⟩
      rw [hq] at hfin
      have hq' : (b : Int) / 2 ^ i = (q : Int) := by rw [← hq]; simp
      have hql : q ≤ 255 := by rw [← hq]; exact Nat.le_trans (Nat.div_le_self _ _) (by omega)
      clear hq
      have hxo : bits BinOp.xor IntKind.u8 (o : Int) (x : Int) = ((o ^^^ x : Nat) : Int) := u8_xor_nat _ _ ho hx
      have hol := Nat.xor_lt_two_pow (n := 8) ho hx
      rcases Nat.mod_two_eq_zero_or_one q with h2 | h2
      · have hm : (q : Int) % 2 = 0 := by omega
        have hf := hfin o ho (by rw [if_neg (by omega)])
        have Hf := Lib.hid hf
        clear hf hfin h2
        by_cases hx8 : 128 ≤ x
        · have hdx : bits BinOp.xor IntKind.u8 ((x : Int) * 2 % 256) 27 = ((Fld.dbl x : Nat) : Int) := dbl_big x hx8
          have Hdx := Lib.hid hdx
          clear hdx
          have hx8' : (128 : Int) ≤ x := by omega
          clear hx8
          go_wp2
          go_round
          case rel => rw [Hdx.out]; exact Hf.out
          case measure => simp [intOf]; omega
        · have hdx : (x : Int) * 2 = ((Fld.dbl x : Nat) : Int) := dbl_small x hx8
          have Hdx := Lib.hid hdx
          clear hdx
          have hx8' : (x : Int) < 128 := by omega
          have hqi : (q : Int) ≤ 255 := by omega
          clear hx8 hx ho hol ha hb hql
          go_wp2
          go_round
          case rel => rw [Hdx.out]; exact Hf.out
          case measure => simp [intOf]; omega
      · have hm : (q : Int) % 2 = 1 := by omega
        have hf := hfin (o ^^^ x) hol (by rw [if_pos (by omega)])
        have Hf := Lib.hid hf
        clear hf hfin h2
        by_cases hx8 : 128 ≤ x
        · have hdx : bits BinOp.xor IntKind.u8 ((x : Int) * 2 % 256) 27 = ((Fld.dbl x : Nat) : Int) := dbl_big x hx8
          have Hdx := Lib.hid hdx
          clear hdx
          have hx8' : (128 : Int) ≤ x := by omega
          clear hx8
          go_wp2
          go_round
          case rel => rw [Hdx.out]; exact Hf.out
          case measure => simp [intOf]; omega
        · have hdx : (x : Int) * 2 = ((Fld.dbl x : Nat) : Int) := dbl_small x hx8
          have Hdx := Lib.hid hdx
          clear hdx
          have hx8' : (x : Int) < 128 := by omega
          have hqi : (q : Int) ≤ 255 := by omega
          clear hx8 hx ho hol ha hb hql
          go_wp2
          go_round
          case rel => rw [Hdx.out]; exact Hf.out
          case measure => simp [intOf]; omega
    · have hz : Hid (o = r) := by
        have h1 := Hik.out; have h2 := Hr.out
        obtain rfl : k = 0 := by omega
        exact h2
      go_wp2
      go_ret
      exact ⟨ret_int (by rw [hz.out]), rfl⟩

/-- Where the reference's Inv stands at the head of a round. -/
def RInvAt (r a : Nat) (vb : Value) : Prop := ∃ k b : Nat, Fld.rinvGo k a b = r ∧ b + k = 256 ∧ vb = .int .i64 b
theorem RInvAt_next {r a k b : Nat} (h : Fld.rinvGo (k + 1) a b = r) (hk : b + (k + 1) = 256) (hn : ¬ Fld.rmul a b = 1) : RInvAt r a (.int .i64 ((b : Int) + 1)) :=
  ⟨k, b + 1, by rw [← h, Fld.rinvGo, if_neg hn], by omega, rfl⟩

set_option maxRecDepth 100000 in
set_option maxHeartbeats 1000000 in
theorem refInv_nat (a : Nat) (ha : a < 256) (w : World) :
    Calls Try.prog 33 #[.int .u8 a] w fun e w' => e = .returned (.int .u8 ((Fld.rinv a : Nat) : Int)) ∧ w = w' := by
  have hst : RInvAt (Fld.rinv a) a (.int .i64 0) := ⟨256, 0, rfl, rfl, rfl⟩
  generalize Fld.rinv a = r at *
  go_enter Try.func33, Try.ntmps33
  go_wp2
  go_loop [3] (fun vb => RInvAt r a vb) (fun vb => (256 - intOf vb).toNat)
  case atStart => exact hst
  case round =>
    clear hst
    obtain ⟨k, b, hr, hbk, rfl⟩ := hrel
    have Hr := Lib.hid hr
    have Hbk := Lib.hid hbk
    have hb8 : (b : Int) ≤ 256 := by omega
    clear hr hbk
    by_cases hk0 : b < 256
    · obtain ⟨k, rfl⟩ : ∃ j, k = j + 1 := ⟨k - 1, by have := Hbk.out; omega⟩
      have hc := refMul_nat a b ha hk0
      have Hc := Lib.hid hc
      clear hc
      by_cases h1 : Fld.rmul a b = 1
      · have hz : Hid (b = r) := by have h2 := Hr.out; rw [Fld.rinvGo, if_pos h1] at h2; exact h2
        have h1' : (((Fld.rmul a b : Nat) : Int) == 1) = true := by rw [beq_iff_eq, h1]; rfl
        have hk1 : (b : Int) < 256 := by omega
        clear h1 hk0 ha
        go_wp2_with fail
        refine (Hc.out _).mono ?_
        rintro e w1 ⟨rfl, rfl⟩
        go_wp2
        go_ret
        exact ⟨ret_int (by rw [hz.out]), rfl⟩
      · have hf := Lib.hid (RInvAt_next Hr.out Hbk.out h1)
        have h1' : (((Fld.rmul a b : Nat) : Int) == 1) = false := by rw [beq_eq_false_iff_ne]; omega
        have hk1 : (b : Int) < 256 := by omega
        clear h1 hk0 ha
        go_wp2_with fail
        refine (Hc.out _).mono ?_
        rintro e w1 ⟨rfl, rfl⟩
        go_wp2
        go_round
        case rel => exact hf.out
        case measure => simp [intOf]; omega
    · have hz : Hid (r = 0) := by
        have h1 := Hbk.out; have h2 := Hr.out
        obtain rfl : k = 0 := by omega
        exact h2.symm
      have hk1 : ¬ (b : Int) < 256 := by omega
      clear hk0 ha
      go_wp2
      go_ret
      exact ⟨ret_int (by rw [hz.out]; rfl), rfl⟩

end Go.Proofs.Ytkodfifmfpdjoaa
