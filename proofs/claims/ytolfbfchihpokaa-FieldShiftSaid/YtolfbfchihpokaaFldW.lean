/-
  The contract of awake: the first calls of layer 3's statements.
-/
import Derived.Test.YtolfbfchihpokaaFldE
import Derived.Test.YtolfbfchihpokaaFldL
import Derived.ChangeKeysEq
namespace Go.Proofs.Ytolfbfchihpokaa
open Go.RowKit

theorem inv_nat (a : Nat) (ha : a < 256) (w : World) : Calls Try.prog 8 #[.int .u8 a] w fun e w' => e = .returned (.int .u8 ((Fld.inv a : Nat) : Int)) ∧ Below w.heap.size w w' :=
  inv_any a (by omega) (by omega) w
theorem sub_nat (a : Nat) (ha : a < 256) (w : World) : Calls Try.prog 9 #[.int .u8 a] w fun e w' => e = .returned (.int .u8 ((Fld.sub a : Nat) : Int)) ∧ Below w.heap.size w w' :=
  sub_any a (by omega) (by omega) w
theorem back_nat (a : Nat) (ha : a < 256) (w : World) : Calls Try.prog 11 #[.int .u8 a] w fun e w' => e = .returned (.int .u8 ((Fld.back a : Nat) : Int)) ∧ Below w.heap.size w w' :=
  back_any a (by omega) (by omega) w

theorem part_byte (cs : Array Value) (j : Nat) (v : Value) (h : cs[j]? = some v) (w : World) : (part 5 cs j).run Try.prog w = .ok v w := by
  have hagg : (isAgg 5).run Try.prog w = .ok false w := by
    unfold isAgg
    rw [Sem.run_bind, run_underlying Try.underlying5 w]
    simp
  simp [part, Sem.run_bind, hagg, h]
theorem equalIn_byte (d : Nat) (a b : Int) (w : World) : (Op.equalIn (d + 1) 5 (.int .u8 a) (.int .u8 b)).run Try.prog w = .ok (a == b) w := by
  simp [Op.equalIn, run_underlying Try.underlying5]
theorem eq4 (x0 x1 x2 x3 y0 y1 y2 y3 : Int) (w : World) :
    (Op.equalIn 10000 27 (.agg #[.int .u8 x0, .int .u8 x1, .int .u8 x2, .int .u8 x3]) (.agg #[.int .u8 y0, .int .u8 y1, .int .u8 y2, .int .u8 y3])).run Try.prog w =
      .ok (x0 == y0 && (x1 == y1 && (x2 == y2 && x3 == y3))) w := by
  rw [show (10000 : Nat) = 9999 + 1 from rfl, run_equalIn_array (P := Try.prog) (w := w) 9999 _ _ Try.underlying27 (i := (Try.prog.info? 5).getD default) (by kernel_rfl)]
  rw [show Try.prog.cellsOf 5 = 1 from by kernel_rfl, show List.range 4 = [0, 1, 2, 3] from rfl]
  have hp : ∀ (u0 u1 u2 u3 : Value) (w : World), (part 5 #[u0, u1, u2, u3] 0).run Try.prog w = .ok u0 w ∧ (part 5 #[u0, u1, u2, u3] 1).run Try.prog w = .ok u1 w ∧ (part 5 #[u0, u1, u2, u3] 2).run Try.prog w = .ok u2 w ∧ (part 5 #[u0, u1, u2, u3] 3).run Try.prog w = .ok u3 w :=
    fun u0 u1 u2 u3 w => ⟨part_byte _ _ _ rfl w, part_byte _ _ _ rfl w, part_byte _ _ _ rfl w, part_byte _ _ _ rfl w⟩
  have hq := fun a b w => equalIn_byte 9998 a b w
  simp only [Op.eqItems, Sem.run_bind, Nat.mul_one, (hp _ _ _ _ _).1, (hp _ _ _ _ _).2.1, (hp _ _ _ _ _).2.2.1, (hp _ _ _ _ _).2.2.2, Result.andThen_ok, hq]
  generalize (x0 == y0) = c0
  cases c0
  · simp
  simp only [Bool.not_true, Bool.false_eq_true, if_false, Bool.true_and, Sem.run_bind, (hp _ _ _ _ _).1, (hp _ _ _ _ _).2.1, (hp _ _ _ _ _).2.2.1, (hp _ _ _ _ _).2.2.2, Result.andThen_ok, hq]
  generalize (x1 == y1) = c0
  cases c0
  · simp
  simp only [Bool.not_true, Bool.false_eq_true, if_false, Bool.true_and, Sem.run_bind, (hp _ _ _ _ _).1, (hp _ _ _ _ _).2.1, (hp _ _ _ _ _).2.2.1, (hp _ _ _ _ _).2.2.2, Result.andThen_ok, hq]
  generalize (x2 == y2) = c0
  cases c0
  · simp
  simp only [Bool.not_true, Bool.false_eq_true, if_false, Bool.true_and, Sem.run_bind, (hp _ _ _ _ _).1, (hp _ _ _ _ _).2.1, (hp _ _ _ _ _).2.2.1, (hp _ _ _ _ _).2.2.2, Result.andThen_ok, hq]
  generalize (x3 == y3) = c0
  cases c0 <;> simp

theorem Fld.awake_mix : Fld.mx [219, 19, 83, 69] 0 = 142 ∧ Fld.mx [219, 19, 83, 69] 1 = 77 ∧ Fld.mx [219, 19, 83, 69] 2 = 161 ∧ Fld.mx [219, 19, 83, 69] 3 = 188 := by decide +kernel

theorem Fld.awake_calls (w : World) :
    (Calls Try.prog 10 #[.int .u8 87, .int .u8 131] w fun e w' => e = .returned (.int .u8 193) ∧ Below w.heap.size w w') ∧
    (Calls Try.prog 9 #[.int .u8 0] w fun e w' => e = .returned (.int .u8 99) ∧ Below w.heap.size w w') ∧
    (Calls Try.prog 8 #[.int .u8 0] w fun e w' => e = .returned (.int .u8 0) ∧ Below w.heap.size w w') ∧
    (Calls Try.prog 8 #[.int .u8 1] w fun e w' => e = .returned (.int .u8 1) ∧ Below w.heap.size w w') ∧
    (Calls Try.prog 11 #[.int .u8 99] w fun e w' => e = .returned (.int .u8 0) ∧ Below w.heap.size w w') ∧
    (Calls Try.prog 13 #[.agg #[.int .u8 219, .int .u8 19, .int .u8 83, .int .u8 69]] w fun e w' =>
      e = .returned (.agg #[.int .u8 142, .int .u8 77, .int .u8 161, .int .u8 188]) ∧ Below w.heap.size w w') := by
  obtain ⟨h1, h2, h3, h4, h5⟩ := Fld.awake_all
  obtain ⟨m0, m1, m2, m3⟩ := Fld.awake_mix
  refine ⟨?_, ?_, ?_, ?_, ?_, ?_⟩
  · refine (mul_any 87 131 (by decide) (by decide) (by decide) (by decide) w).mono fun e w' h => ?_
    rw [show Fld.mul (Int.toNat 87) (Int.toNat 131) = 193 from h1] at h; exact h
  · refine (sub_any 0 (by decide) (by decide) w).mono fun e w' h => ?_
    rw [show Fld.sub (Int.toNat 0) = 99 from h2] at h; exact h
  · refine (inv_any 0 (by decide) (by decide) w).mono fun e w' h => ?_
    rw [show Fld.inv (Int.toNat 0) = 0 from h3] at h; exact h
  · refine (inv_any 1 (by decide) (by decide) w).mono fun e w' h => ?_
    rw [show Fld.inv (Int.toNat 1) = 1 from h4] at h; exact h
  · refine (back_any 99 (by decide) (by decide) w).mono fun e w' h => ?_
    rw [show Fld.back (Int.toNat 99) = 0 from h5] at h; exact h
  · refine (Mix_any 219 19 83 69 (Fld.bytes4 (by decide) (by decide) (by decide) (by decide)) w).mono fun e w' h => ?_
    rw [m0, m1, m2, m3] at h; exact h

set_option maxHeartbeats 1000000 in
theorem awake3_any (w : World) : Calls Try.prog 7 #[] w fun e w' => e = .returned (.bool true) ∧ Below w.heap.size w w' := by
  go_enter Try.func7, Try.ntmps7
  go_wp2_with fail
  refine (Fld.awake_calls _).1.mono ?_
  rintro e w1 ⟨rfl, hb1⟩
  go_wp2_with fail
  refine (Fld.awake_calls _).2.1.mono ?_
  rintro e w2 ⟨rfl, hb2⟩
  go_wp2_with fail
  refine (Fld.awake_calls _).2.2.2.2.2.mono ?_
  rintro e w3 ⟨rfl, hb3⟩
  have he := eq4 142 77 161 188 142 77 161 188 w3
  go_wp2_with fail
  refine (Fld.awake_calls _).2.2.1.mono ?_
  rintro e w4 ⟨rfl, hb4⟩
  go_wp2_with fail
  refine (Fld.awake_calls _).2.2.2.1.mono ?_
  rintro e w5 ⟨rfl, hb5⟩
  go_wp2_with fail
  refine (Fld.awake_calls _).2.2.2.2.1.mono ?_
  rintro e w6 ⟨rfl, hb6⟩
  go_wp2
  go_ret
  have b2 := hb1.trans (hb2.mono hb1.size)
  have b3 := b2.trans (hb3.mono b2.size)
  have b4 := b3.trans (hb4.mono b3.size)
  have b5 := b4.trans (hb5.mono b4.size)
  exact ⟨rfl, b5.trans (hb6.mono b5.size)⟩

end Go.Proofs.Ytolfbfchihpokaa
