/-
  The contract of aes.state's method columns.
-/
import Derived.Test.YtgcfaeipiiagdaaAesA
import Derived.Deep.RegionLaw
namespace Go.Proofs.Ytgcfaeipiiagdaa
open Go.RowKit

/-- Block g, c columns done. -/
def ColAt (g : Nat) (new s : List Nat) (w : World) (vi : Value) (wr : World) : Prop :=
  ∃ o : Nat, o ≤ 16 ∧ o % 4 = 0 ∧ vi = .int .i64 (o : Int) ∧ Row wr g 85 (Bs.vals (Bs.upTo o new s)) ∧ Keep (fun k => k ≠ g) w wr

theorem Aes.slice_lh (g o : Nat) (ho : o ≤ 12) (W : World) :
    (Instr.sliceAt 85 (.pointer (some ⟨g, 0, none⟩)) (some (.int .i64 (o : Int))) (some (.int .i64 ((o : Int) + 4))) none).run Try.prog W = .ok (.slice (some ⟨g, o, none⟩) 4 (16 - o)) W := by
  have hal : Try.prog.arrayLen 85 = 16 := by kernel_rfl
  have hel : Try.prog.elem 85 = 5 := by kernel_rfl
  rw [run_sliceAt_array_lh (P := Try.prog) W 85 ⟨g, 0, none⟩ (by rw [hal, hel]; exact Try.underlying85) .i64 .i64 o ((o : Int) + 4) (by omega) (by omega) (by rw [hal]; omega)]
  rw [hel, run_sizeOf W (i := (Try.prog.info? 5).getD default) (by kernel_rfl), Aes.cells16, hal]
  simp only [Result.andThen_ok, slicedAt, Int.toNat_natCast, Nat.mul_one]
  rw [if_neg (by omega), show ((o : Int) + 4).toNat - o = 4 by omega, Addr.add_mid, Nat.zero_add]
theorem Aes.array_at (a : Addr) (c : Nat) (W : World) : (Instr.arrayAt 88 (.slice (some a) 4 c)).run Try.prog W = .ok (.pointer (some a)) W := by
  simp [Instr.arrayAt, run_underlying Try.underlying88]
theorem Aes.slice_l (g o : Nat) (ho : o ≤ 12) (W : World) :
    (Instr.sliceAt 85 (.pointer (some ⟨g, 0, none⟩)) (some (.int .i64 (o : Int))) none none).run Try.prog W = .ok (.slice (some ⟨g, o, none⟩) (16 - o) (16 - o)) W := by
  have hal : Try.prog.arrayLen 85 = 16 := by kernel_rfl
  have hel : Try.prog.elem 85 = 5 := by kernel_rfl
  rw [run_sliceAt_array_l (P := Try.prog) W 85 ⟨g, 0, none⟩ (by rw [hal, hel]; exact Try.underlying85) .i64 o (by omega) (by rw [hal]; omega)]
  rw [hel, run_sizeOf W (i := (Try.prog.info? 5).getD default) (by kernel_rfl), Aes.cells16, hal]
  simp only [Result.andThen_ok, slicedAt, Int.toNat_natCast, Nat.mul_one]
  rw [if_neg (by omega), Addr.add_mid, Nat.zero_add]

set_option maxRecDepth 100000 in
set_option maxHeartbeats 2000000 in
theorem state_columns (g f : Nat) (F : List Nat → Nat → Nat) (_ : ∀ c j, F c j < 256) (eg : ∀ args w, (callFunc f args).run Try.prog w = .ok (.enter f args) w)
    (hf : ∀ x0 x1 x2 x3, x0 < 256 → x1 < 256 → x2 < 256 → x3 < 256 → ∀ W, Calls Try.prog f #[.agg #[U x0, U x1, U x2, U x3]] W fun e w' =>
      e = .returned (.agg #[U (F [x0, x1, x2, x3] 0), U (F [x0, x1, x2, x3] 1), U (F [x0, x1, x2, x3] 2), U (F [x0, x1, x2, x3] 3)]) ∧ Below W.heap.size W w')
    (s : List Nat) (hs : s.length = 16) (hsa : Bs.All s) (w : World) (hr : Row w g 85 (Bs.vals s)) :
    Calls Try.prog 54 #[.pointer (some ⟨g, 0, none⟩), .func (.func f) #[] #[]] w fun e w' =>
      e = .returned (.tuple #[]) ∧ Row w' g 85 (Bs.vals (Aes.columns F s)) ∧ Keep (fun j => j ≠ g) w w' := by
  have hst : ColAt g (Aes.columns F s) s w (.int .i64 0) w := ⟨0, by decide, rfl, rfl, by rw [Bs.upTo_zero]; exact hr, Keep.refl _ _⟩
  have Hst := Lib.hid hst
  have Hf := Lib.hid hf
  clear hst hf hr
  go_enter Try.func54, Try.ntmps54
  go_wp2
  go_loopw [4] (fun vi wr => ColAt g (Aes.columns F s) s w vi wr) (fun vi _ => 16 - (intOf vi).toNat)
  case atStart => exact Hst.out
  case round =>
    clear Hst
    obtain ⟨o, ho, ho4, rfl, hri, hki⟩ := hrel
    by_cases hlt4 : o < 16
    · have hnl := Aes.columns_length F s
      have ho12 : o ≤ 12 := by omega
      have hlen : (Bs.upTo o (Aes.columns F s) s).length = 16 := by rw [Bs.upTo_length (by rw [hnl, hs]), hs]
      have hcell : ∀ j, o ≤ j → j < 16 → wr.cell? ⟨g, j, none⟩ = some (U (s.getD j 0)) := fun j h1 h2 => by
        rw [hri.cell j, Bs.get _ (by omega), Bs.upTo_get (by rw [hnl, hs]) h1]
      have q0 := hcell o (by omega) (by omega)
      have q1 := hcell (o + 1) (by omega) (by omega)
      have q2 := hcell (o + 2) (by omega) (by omega)
      have q3 := hcell (o + 3) (by omega) (by omega)
      have hnew : ∀ j, j < 4 → F [s.getD o 0, s.getD (o + 1) 0, s.getD (o + 2) 0, s.getD (o + 3) 0] j = (Aes.columns F s).getD (o + j) 0 := fun j hj => by
        rw [Aes.columns, Aes.range_get (by omega), show 4 * ((o + j) / 4) = o by omega, show (o + j) % 4 = j by omega]
      have hcall := Hf.out _ _ _ _ (hsa o) (hsa (o + 1)) (hsa (o + 2)) (hsa (o + 3))
      rw [hnew 0 (by decide), hnew 1 (by decide), hnew 2 (by decide), hnew 3 (by decide), Nat.add_zero] at hcall
      have hspl := Lib.hid (Bs.splice_upTo (o := o) (new := Aes.columns F s) (old := s) (by rw [hnl, hs]) (by omega))
      have Hcall := Lib.hid hcall
      have Hri := Lib.hid hri
      have Hki := Lib.hid hki
      have hi16 : (o : Int) < 16 := by omega
      have hi12 : (o : Int) + 4 ≤ 16 := by omega
      have hne : ¬ 16 = o := by omega
      have Hlen := Lib.hid hlen
      have Ho4 := Lib.hid ho4
      have hs1 := Aes.slice_lh g o ho12 wr
      have hs2 := Aes.slice_l g o ho12
      have hs3 := Aes.array_at ⟨g, o, none⟩ (16 - o) wr
      clear ho4 hnew hcall hcell hri hki hlt4 ho hsa hs hnl hlen
      generalize s.getD o 0 = z0 at *
      generalize s.getD (o + 1) 0 = z1 at *
      generalize s.getD (o + 2) 0 = z2 at *
      generalize s.getD (o + 3) 0 = z3 at *
      generalize (Aes.columns F s).getD o 0 = n0 at *
      generalize (Aes.columns F s).getD (o + 1) 0 = n1 at *
      generalize (Aes.columns F s).getD (o + 2) 0 = n2 at *
      generalize (Aes.columns F s).getD (o + 3) 0 = n3 at *
      go_wp2_with fail
      refine (Hcall.out _).mono ?_
      rintro e w1 ⟨rfl, hb1⟩
      have hrw : Row (w1.alloc (.cells #[U n0, U n1, U n2, U n3] 88)).drew g 85 ((Bs.upTo o (Aes.columns F s) s).map U).toArray := (Hri.out.below hb1 Hri.out.lt).alloc _
      have hkw : Keep (fun k => k ≠ g) w (w1.alloc (.cells #[U n0, U n1, U n2, U n3] 88)).drew := ((Hki.out.call hb1).alloc _).drew
      have hsrc : ∀ j v, [U n0, U n1, U n2, U n3][j]? = some v → (w1.alloc (.cells #[U n0, U n1, U n2, U n3] 88)).drew.cell? ((⟨w1.heap.size, 0, none⟩ : Addr).add j) = some v := fun j v hv => by
        rw [Addr.add_mid, Nat.zero_add]
        exact ((Row.new w1 88 #[U n0, U n1, U n2, U n3]).cell j).trans (by simpa using hv)
      have Hrw := Lib.hid hrw
      have Hkw := Lib.hid hkw
      have Hsrc := Lib.hid hsrc
      clear hrw hkw hsrc hb1
      go_wp2_with fail
      have hlo : o + 4 ≤ ((Bs.upTo o (Aes.columns F s) s).map U).length := by rw [List.length_map]; have := Hlen.out; omega
      have Hlo := Lib.hid hlo
      clear hlo
      go_region_law (refine step_copy_keep rfl (.tmp 23) (.tmp 24) 35 35 rfl 5 Try.underlying35 (by kernel_rfl) g o (16 - o) (16 - o) ⟨w1.heap.size, 0, none⟩ 4 4 rfl rfl _ 85 Hrw.out [U n0, U n1, U n2, U n3] (Nat.min_eq_left (by omega : 4 ≤ 16 - o)).symm Hsrc.out Hlo.out (by simp [Value.oneCell']) ?_; intro w2 hg2 hk2)
      all_goals
        have hnx : Hid (ColAt g (Aes.columns F s) s w (.int .i64 ((o : Int) + 4)) w2) := by
          refine ⟨o + 4, by omega, by have := Ho4.out; omega, by rfl, ?_, (Hkw.out).trans hk2⟩
          have h := hg2.out
          rw [hspl.out] at h
          exact h
        clear hg2 hk2
        go_wp2
        go_roundw
        case rel => exact hnx.out
        case measure => simp [intOf]; omega
    · have hz : Hid (Row wr g 85 (Bs.vals (Aes.columns F s))) := by
        obtain rfl : o = 16 := by omega
        rw [Bs.upTo_all (by rw [Aes.columns_length]; omega) (by omega)] at hri; exact hri
      have hi16 : ¬ (o : Int) < 16 := by omega
      clear hlt4 ho hri
      go_wp2
      go_end0
      exact ⟨rfl, hz.out, hki⟩

end Go.Proofs.Ytgcfaeipiiagdaa
