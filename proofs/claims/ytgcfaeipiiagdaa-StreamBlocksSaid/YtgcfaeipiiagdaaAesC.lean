/-
  The contract of aes.sub: four bytes, each of which is stood for.
-/
import Derived.Test.YtgcfaeipiiagdaaAesB
namespace Go.Proofs.Ytgcfaeipiiagdaa
open Go.RowKit

theorem Aes.index4w (x0 x1 x2 x3 k : Nat) (hk : k < 4) (w : World) :
    (Instr.index 108 (.agg #[U x0, U x1, U x2, U x3]) (.int .i64 (k : Int))).run Try.prog w = .ok (U ([x0, x1, x2, x3].getD k 0)) w :=
  run_index_bytes (l := [x0, x1, x2, x3]) Try.underlying108 Try.underlying5 (i := (Try.prog.info? 5).getD default) (by kernel_rfl) Aes.cells16 rfl hk w

def SubAt (g : Nat) (x : List Nat) (w : World) (vi : Value) (wr : World) : Prop :=
  ∃ i : Nat, i ≤ 4 ∧ vi = .int .i64 i ∧ Row wr g 108 (Bs.vals (Bs.upTo i (x.map Fld.sub) x)) ∧ Row wr (g + 1) 108 #[U 0, U 0, U 0, U 0] ∧ Below w.heap.size w wr

set_option maxRecDepth 100000 in
set_option maxHeartbeats 2000000 in
theorem word_sub (x0 x1 x2 x3 : Nat) (h0 : x0 < 256) (h1 : x1 < 256) (h2 : x2 < 256) (h3 : x3 < 256) (w : World) :
    Calls Try.prog 73 #[.agg #[U x0, U x1, U x2, U x3]] w fun e w' =>
      e = .returned (.agg #[U (Fld.sub x0), U (Fld.sub x1), U (Fld.sub x2), U (Fld.sub x3)]) ∧ Below w.heap.size w w' := by
  have hst : SubAt w.heap.size [x0, x1, x2, x3] w (.int .i64 0) ((w.alloc (.cells #[U x0, U x1, U x2, U x3] 108)).alloc (.cells #[U 0, U 0, U 0, U 0] 108)) := by
    refine ⟨0, by decide, rfl, (Row.new _ _ _).alloc _, ?_, ((Below.refl _ _).alloc (Nat.le_refl _) _).alloc (by simp) _⟩
    have h := Row.new (w.alloc (.cells #[U x0, U x1, U x2, U x3] 108)) 108 #[U 0, U 0, U 0, U 0]
    rw [World.size_alloc] at h; exact h
  have Hst := Lib.hid hst
  clear hst
  have hall := Fld.bytes4 h0 h1 h2 h3
  go_enter Try.func73, Try.ntmps73
  go_wp2
  go_loopw [6] (fun vi wr => SubAt w.heap.size [x0, x1, x2, x3] w vi wr) (fun vi _ => 4 - (intOf vi).toNat)
  case atStart => exact Hst.out
  case round =>
    clear Hst
    obtain ⟨i, hi, rfl, hri, hr2, hB⟩ := hrel
    by_cases hlt4 : i < 4
    · have hidx := Aes.index4w x0 x1 x2 x3 i hlt4 wr
      have hx := hall i
      have hcell : wr.cell? ⟨w.heap.size, i, none⟩ = some (U ((Bs.upTo i ([x0, x1, x2, x3].map Fld.sub) [x0, x1, x2, x3]).getD i 0)) := by
        rw [hri.cell i, Bs.get _ (by rw [Bs.upTo_length (by simp)]; exact hlt4)]
      have hfr := hri.frozen i
      have hnew : ([x0, x1, x2, x3].map Fld.sub).getD i 0 = Fld.sub ([x0, x1, x2, x3].getD i 0) := by
        rcases i with _ | _ | _ | _ | i <;> first | rfl | omega
      have hnext : ∀ w1, Below wr.heap.size wr w1 → SubAt w.heap.size [x0, x1, x2, x3] w (.int .i64 ((i : Int) + 1)) (w1.setCell ⟨w.heap.size, i, none⟩ (U (Fld.sub ([x0, x1, x2, x3].getD i 0)))) := fun w1 h => by
        refine ⟨i + 1, hlt4, rfl, ?_, (hr2.below h hr2.lt).other (by dsimp only; omega) _, (hB.trans (h.mono hB.size)).setCell (p := ⟨w.heap.size, i, none⟩) (Nat.le_refl _) _⟩
        have k := (hri.below h hri.lt).store i (U (([x0, x1, x2, x3].map Fld.sub).getD i 0))
        rw [Bs.set, Bs.upTo_set (by simp) (by simpa using hlt4), hnew] at k
        exact k
      have Hnext := Lib.hid hnext
      have hi4 : (i : Int) < 4 := by omega
      clear hnext hnew hri hr2 hB hlt4 hi
      generalize [x0, x1, x2, x3].getD i 0 = y at *
      generalize (Bs.upTo i ([x0, x1, x2, x3].map Fld.sub) [x0, x1, x2, x3]).getD i 0 = z at *
      have Hy := Lib.hid hx
      clear hx
      go_wp2_with fail
      refine (sub_any y (by omega) (by have := Hy.out; omega) _).mono ?_
      rw [Int.toNat_natCast]
      rintro e w1 ⟨rfl, hb1⟩
      have hnx := Lib.hid (Hnext.out w1 hb1)
      have k1 := cell_below hb1 hcell
      have k2 := (frozen_below hb1 hcell).trans hfr
      go_wp2
      go_roundw
      case rel => exact hnx.out
      case measure => simp [intOf]; omega
    · obtain rfl : i = 4 := by omega
      have hr4 : Row wr w.heap.size 108 #[U (Fld.sub x0), U (Fld.sub x1), U (Fld.sub x2), U (Fld.sub x3)] := hri
      obtain ⟨⟨q0, q1, q2, q3⟩, -⟩ := row_four hr4
      obtain ⟨⟨p0, p1, p2, p3⟩, f0, f1, f2, f3⟩ := row_four hr2
      have Hr2 := Lib.hid hr2
      have HB := Lib.hid hB
      clear hri hr4 hr2 hB
      go_wp2
      have hfin := (((Hr2.out.store 0 (U (Fld.sub x0))).store 1 (U (Fld.sub x1))).store 2 (U (Fld.sub x2))).store 3 (U (Fld.sub x3))
      refine bodyPost_ret (v := .agg #[U (Fld.sub x0), U (Fld.sub x1), U (Fld.sub x2), U (Fld.sub x3)]) (results_cell_row rfl _ _ _ _ _ _ _ rfl hfin Try.underlying108 rfl (by kernel_rfl)) rfl ⟨rfl, ?_⟩
      exact (((HB.out.setCell (p := ⟨w.heap.size + 1, 0, none⟩) (by dsimp only; omega) _).setCell (p := ⟨w.heap.size + 1, 1, none⟩) (by dsimp only; omega) _).setCell (p := ⟨w.heap.size + 1, 2, none⟩) (by dsimp only; omega) _).setCell (p := ⟨w.heap.size + 1, 3, none⟩) (by dsimp only; omega) _

end Go.Proofs.Ytgcfaeipiiagdaa
