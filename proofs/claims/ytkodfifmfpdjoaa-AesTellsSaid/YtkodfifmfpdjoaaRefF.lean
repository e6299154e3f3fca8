/-
  The document's answer of layer 3: Mix.
-/
import Derived.Test.YtkodfifmfpdjoaaRefC
import Derived.Test.YtkodfifmfpdjoaaRefD
import Derived.StillTailTactics
namespace Go.Proofs.Ytkodfifmfpdjoaa
open Go.RowKit

/-- Where the reference's Mix stands. -/
def RMixAt (g : Nat) (R : List Nat) (w : World) (vi : Value) (wr : World) : Prop :=
  ∃ i : Nat, i ≤ 4 ∧ vi = .int .i64 (i : Int) ∧ Row wr g 77 (Bs.vals (Bs.upTo i R (List.replicate 4 0))) ∧ Keep (fun k => k ≠ g) w wr
theorem RMixAt.next {g : Nat} {R : List Nat} {w wr : World} {i : Nat} (hR : R.length = 4) (hi : i < 4) (hr : Row wr g 77 (Bs.vals (Bs.upTo i R (List.replicate 4 0)))) (hk : Keep (fun k => k ≠ g) w wr) :
    RMixAt g R w (.int .i64 ((i : Int) + 1)) (wr.setCell ⟨g, i, none⟩ (U (R.getD i 0))) := by
  have h := hr.store i (U (R.getD i 0))
  rw [Bs.set, upTo_next R 4 hR hi] at h
  exact ⟨i + 1, hi, by go_num, h, hk.setCell (p := ⟨g, i, none⟩) (fun h => absurd rfl h) _⟩
theorem RMixAt.drew {g : Nat} {R : List Nat} {w wr : World} {vi : Value} (h : RMixAt g R w vi wr) : RMixAt g R w vi wr.drew := by
  obtain ⟨i, h1, h2, h3, h4⟩ := h
  exact ⟨i, h1, h2, h3.drew, h4.drew⟩

set_option maxRecDepth 100000 in
set_option maxHeartbeats 4000000 in
theorem refMix_any (c0 c1 c2 c3 : Nat) (h0 : c0 < 256) (h1 : c1 < 256) (h2 : c2 < 256) (h3 : c3 < 256) (w : World) :
    Calls Try.prog 46 #[.agg #[U c0, U c1, U c2, U c3]] w fun e w' =>
      e = .returned (.agg #[U (Fld.mx [c0, c1, c2, c3] 0), U (Fld.mx [c0, c1, c2, c3] 1), U (Fld.mx [c0, c1, c2, c3] 2), U (Fld.mx [c0, c1, c2, c3] 3)]) ∧ Below w.heap.size w w' := by
  obtain ⟨m0, m1, m2, m3⟩ := Fld.mx_eq c0 c1 c2 c3
  rw [Fld.mul_one' c2 h2, Fld.mul_one' c3 h3] at m0
  rw [Fld.mul_one' c3 h3, Fld.mul_one' c0 h0] at m1
  rw [Fld.mul_one' c0 h0, Fld.mul_one' c1 h1] at m2
  rw [Fld.mul_one' c1 h1, Fld.mul_one' c2 h2] at m3
  have A0 := Fld.mul_lt 2 c0 (by decide)
  have B0 := Fld.mul_lt 3 c1 (by decide)
  have x0a := u8_xor_nat _ _ A0 B0
  have x0b := u8_xor_nat _ _ (Nat.xor_lt_two_pow (n := 8) A0 B0) h2
  have x0c := u8_xor_nat _ _ (Nat.xor_lt_two_pow (n := 8) (Nat.xor_lt_two_pow (n := 8) A0 B0) h2) h3
  rw [← m0] at x0c
  have K0a := Lib.hid (mulNat 2 c0 (by decide) h0)
  have K0b := Lib.hid (mulNat 3 c1 (by decide) h1)
  have A1 := Fld.mul_lt 2 c1 (by decide)
  have B1 := Fld.mul_lt 3 c2 (by decide)
  have x1a := u8_xor_nat _ _ A1 B1
  have x1b := u8_xor_nat _ _ (Nat.xor_lt_two_pow (n := 8) A1 B1) h3
  have x1c := u8_xor_nat _ _ (Nat.xor_lt_two_pow (n := 8) (Nat.xor_lt_two_pow (n := 8) A1 B1) h3) h0
  rw [← m1] at x1c
  have K1a := Lib.hid (mulNat 2 c1 (by decide) h1)
  have K1b := Lib.hid (mulNat 3 c2 (by decide) h2)
  have A2 := Fld.mul_lt 2 c2 (by decide)
  have B2 := Fld.mul_lt 3 c3 (by decide)
  have x2a := u8_xor_nat _ _ A2 B2
  have x2b := u8_xor_nat _ _ (Nat.xor_lt_two_pow (n := 8) A2 B2) h0
  have x2c := u8_xor_nat _ _ (Nat.xor_lt_two_pow (n := 8) (Nat.xor_lt_two_pow (n := 8) A2 B2) h0) h1
  rw [← m2] at x2c
  have K2a := Lib.hid (mulNat 2 c2 (by decide) h2)
  have K2b := Lib.hid (mulNat 3 c3 (by decide) h3)
  have A3 := Fld.mul_lt 2 c3 (by decide)
  have B3 := Fld.mul_lt 3 c0 (by decide)
  have x3a := u8_xor_nat _ _ A3 B3
  have x3b := u8_xor_nat _ _ (Nat.xor_lt_two_pow (n := 8) A3 B3) h1
  have x3c := u8_xor_nat _ _ (Nat.xor_lt_two_pow (n := 8) (Nat.xor_lt_two_pow (n := 8) A3 B3) h1) h2
  rw [← m3] at x3c
  have K3a := Lib.hid (mulNat 2 c3 (by decide) h3)
  have K3b := Lib.hid (mulNat 3 c0 (by decide) h0)
  obtain ⟨r0, hr0⟩ : ∃ r, Fld.mx [c0, c1, c2, c3] 0 = r := ⟨_, rfl⟩
  rw [hr0] at x0c ⊢
  obtain ⟨r1, hr1⟩ : ∃ r, Fld.mx [c0, c1, c2, c3] 1 = r := ⟨_, rfl⟩
  rw [hr1] at x1c ⊢
  obtain ⟨r2, hr2⟩ : ∃ r, Fld.mx [c0, c1, c2, c3] 2 = r := ⟨_, rfl⟩
  rw [hr2] at x2c ⊢
  obtain ⟨r3, hr3⟩ : ∃ r, Fld.mx [c0, c1, c2, c3] 3 = r := ⟨_, rfl⟩
  rw [hr3] at x3c ⊢
  clear m0 m1 m2 m3 hr0 hr1 hr2 hr3 A0 A1 A2 A3 B0 B1 B2 B3
  generalize Fld.mul 2 c0 = u0 at *
  generalize Fld.mul 3 c1 = v0 at *
  generalize Fld.mul 2 c1 = u1 at *
  generalize Fld.mul 3 c2 = v1 at *
  generalize Fld.mul 2 c2 = u2 at *
  generalize Fld.mul 3 c3 = v2 at *
  generalize Fld.mul 2 c3 = u3 at *
  generalize Fld.mul 3 c0 = v3 at *
  have hbox := ((Row.new w 77 #[U c0, U c1, U c2, U c3]).alloc (.cells #[U 0, U 0, U 0, U 0] 77)).alloc (.cells #[U 0, U 0, U 0, U 0] 77)
  have hres := (Row.new (w.alloc (.cells #[U c0, U c1, U c2, U c3] 77)) 77 #[U 0, U 0, U 0, U 0]).alloc (.cells #[U 0, U 0, U 0, U 0] 77)
  have hout := Row.new ((w.alloc (.cells #[U c0, U c1, U c2, U c3] 77)).alloc (.cells #[U 0, U 0, U 0, U 0] 77)) 77 #[U 0, U 0, U 0, U 0]
  rw [World.size_alloc] at hres
  rw [World.size_alloc, World.size_alloc] at hout
  have hB : Below w.heap.size w (((w.alloc (.cells #[U c0, U c1, U c2, U c3] 77)).alloc (.cells #[U 0, U 0, U 0, U 0] 77)).alloc (.cells #[U 0, U 0, U 0, U 0] 77)) := (((Below.refl _ w).alloc (Nat.le_refl _) _).alloc (by simp) _).alloc (by simp; omega) _
  obtain ⟨w3, hw3⟩ : ∃ w3, ((w.alloc (.cells #[U c0, U c1, U c2, U c3] 77)).alloc (.cells #[U 0, U 0, U 0, U 0] 77)).alloc (.cells #[U 0, U 0, U 0, U 0] 77) = w3 := ⟨_, rfl⟩
  rw [hw3] at hbox hres hout hB
  have hst : RMixAt (w.heap.size + 1 + 1) [r0, r1, r2, r3] w3 (.int .i64 0) w3 := ⟨0, by decide, rfl, hout, Keep.refl _ _⟩
  have Hst := Lib.hid hst
  have Hbox := Lib.hid hbox
  have Hres := Lib.hid hres
  have HB := Lib.hid hB
  have Hw3 := Lib.hid hw3
  have hwk : ∀ z : Int, -100 ≤ z ∧ z ≤ 100 → IntKind.i64.wrap z = z := fun z h => IntWalk.i64_in _ (by omega)
  have k1 := hwk 1 (by decide)
  have k2 := hwk 2 (by decide)
  have k3 := hwk 3 (by decide)
  have k4 := hwk 4 (by decide)
  have k5 := hwk 5 (by decide)
  have k6 := hwk 6 (by decide)
  clear hbox hres hout hB hw3 hst hwk
  go_enter Try.func46, Try.ntmps46
  go_wp2
  rw [show ((w.alloc (.cells #[U c0, U c1, U c2, U c3] 77)).alloc (.cells #[.int .u8 0, .int .u8 0, .int .u8 0, .int .u8 0] 77)).alloc (.cells #[.int .u8 0, .int .u8 0, .int .u8 0, .int .u8 0] 77) = w3 from Hw3.out]
  clear Hw3
  go_loopw [4] (fun vi wr => RMixAt (w.heap.size + 1 + 1) [r0, r1, r2, r3] w3 vi wr) (fun vi _ => 4 - (intOf vi).toNat)
  case atStart => exact Hst.out
  case round =>
    clear Hst
    obtain ⟨i, hi, rfl, hrow, hkeep⟩ := hrel
    by_cases hlt : i < 4
    · have hb := Hbox.out.keep hkeep (by omega)
      have p0 := hb.cell 0
      have p1 := hb.cell 1
      have p2 := hb.cell 2
      have p3 := hb.cell 3
      have hsl : i < (Bs.upTo i [r0, r1, r2, r3] (List.replicate 4 0)).length := by
        have h : (Bs.upTo i [r0, r1, r2, r3] (List.replicate 4 0)).length = 4 := Bs.upTo_length (old := List.replicate 4 0) rfl
        omega
      have hc := hrow.cell i
      rw [Bs.get _ hsl] at hc
      have hf := hrow.frozen i
      have Hnx := Lib.hid (RMixAt.next rfl hlt hrow hkeep)
      have Hnx2 := Lib.hid (RMixAt.drew Hnx.out)
      clear hsl hrow hkeep hb hi
      generalize (Bs.upTo i [r0, r1, r2, r3] (List.replicate 4 0)).getD i 0 = old at *
      rcases (show i = 0 ∨ i = 1 ∨ i = 2 ∨ i = 3 by omega) with rfl | rfl | rfl | rfl
      · go_wp2_with fail
        go_still_tail 25, (by kernel_rfl)
        still_call (K0a.out _)
        repeat still_step
        still_call (K0b.out _)
        repeat still_step
        refine wpStill_nil ?_
        change wpList _ _ _ _ _ wr.drew
        go_wp2
        go_roundw
        case rel => first | exact Hnx2.out | exact Hnx.out
        case measure => simp [intOf]
      · go_wp2_with fail
        go_still_tail 25, (by kernel_rfl)
        still_call (K1a.out _)
        repeat still_step
        still_call (K1b.out _)
        repeat still_step
        refine wpStill_nil ?_
        change wpList _ _ _ _ _ wr.drew
        go_wp2
        go_roundw
        case rel => first | exact Hnx2.out | exact Hnx.out
        case measure => simp [intOf]
      · go_wp2_with fail
        go_still_tail 25, (by kernel_rfl)
        still_call (K2a.out _)
        repeat still_step
        still_call (K2b.out _)
        repeat still_step
        refine wpStill_nil ?_
        change wpList _ _ _ _ _ wr.drew
        go_wp2
        go_roundw
        case rel => first | exact Hnx2.out | exact Hnx.out
        case measure => simp [intOf]
      · go_wp2_with fail
        go_still_tail 25, (by kernel_rfl)
        still_call (K3a.out _)
        repeat still_step
        still_call (K3b.out _)
        repeat still_step
        refine wpStill_nil ?_
        change wpList _ _ _ _ _ wr.drew
        go_wp2
        go_roundw
        case rel => first | exact Hnx2.out | exact Hnx.out
        case measure => simp [intOf]
    · obtain rfl : i = 4 := by omega
      have hup : Bs.upTo 4 [r0, r1, r2, r3] (List.replicate 4 0) = [r0, r1, r2, r3] := rfl
      rw [hup] at hrow
      have hr := Hres.out.keep hkeep (by omega)
      have hb := ((Keep.below (S := fun _ => True) HB.out).on hkeep (fun k _ hl => by omega)).toBelow (fun _ _ => trivial)
      obtain ⟨⟨q0, q1, q2, q3⟩, -, -, -, -⟩ := row_four (x0 := U r0) (x1 := U r1) (x2 := U r2) (x3 := U r3) hrow
      obtain ⟨⟨p0, p1, p2, p3⟩, f0, f1, f2, f3⟩ := row_four hr
      have Hr := Lib.hid hr
      have Hb := Lib.hid hb
      clear hrow hkeep hr hb Hbox Hres HB hi hlt
      go_wp2
      have hr4 := (((Hr.out.store 0 (U r0)).store 1 (U r1)).store 2 (U r2)).store 3 (U r3)
      refine bodyPost_ret (v := .agg #[U r0, U r1, U r2, U r3]) (results_cell_row rfl _ _ _ _ _ _ _ rfl hr4 Try.underlying77 rfl (by kernel_rfl)) rfl ⟨rfl, ?_⟩
      exact (((Hb.out.setCell (p := ⟨w.heap.size + 1, 0, none⟩) (by dsimp only; omega) _).setCell (p := ⟨w.heap.size + 1, 1, none⟩) (by dsimp only; omega) _).setCell (p := ⟨w.heap.size + 1, 2, none⟩) (by dsimp only; omega) _).setCell (p := ⟨w.heap.size + 1, 3, none⟩) (by dsimp only; omega) _

end Go.Proofs.Ytkodfifmfpdjoaa
