/-
  Contracts of the methods of aes.state: add, move, each, columns.
-/
import Derived.Test.YtgcfaeipiiagdaaAesS
import Derived.Deep.MidRow
import Derived.Deep.QuietTactic
import Derived.BigQuiet
import Derived.Shelf.Abstract
namespace Go.Proofs.Ytgcfaeipiiagdaa
open Go.RowKit

theorem Aes.cells16 : Try.prog.cellsOf 5 = 1 := by kernel_rfl
theorem Aes.info16 : (Try.prog.info? 85).map (·.size) = some 16 := by kernel_rfl
theorem Aes.index16 {l : List Nat} (hl : l.length = 16) {j : Nat} (hj : j < 16) (w : World) :
    (Instr.index 85 (.agg (Bs.vals l)) (.int .i64 (j : Int))).run Try.prog w = .ok (U (l.getD j 0)) w :=
  run_index_bytes Try.underlying85 Try.underlying5 (i := (Try.prog.info? 5).getD default) (by kernel_rfl) Aes.cells16 hl hj w

/-- A block g of sixteen bytes that turns from s into new, i places done; all else lies as it lay. -/
def StAt (g : Nat) (new s : List Nat) (w : World) (vi : Value) (wr : World) : Prop :=
  ∃ i : Nat, i ≤ 16 ∧ vi = .int .i64 i ∧ Row wr g 85 (Bs.vals (Bs.upTo i new s)) ∧ Keep (fun k => k ≠ g) w wr

theorem StAt.next {g : Nat} {new s : List Nat} {w wr : World} {i : Nat} (hn : new.length = 16) (hs : s.length = 16) (hi : i < 16)
    (hr : Row wr g 85 (Bs.vals (Bs.upTo i new s))) (hk : Keep (fun k => k ≠ g) w wr) :
    StAt g new s w (.int .i64 ((i : Int) + 1)) (wr.setCell ⟨g, i, none⟩ (U (new.getD i 0))) := by
  refine ⟨i + 1, hi, rfl, ?_, hk.setCell (fun h => absurd rfl h) _⟩
  have h := hr.store i (U (new.getD i 0))
  rw [Bs.set, Bs.upTo_set (by omega) (by omega)] at h
  exact h

theorem StAt.drew {g : Nat} {new s : List Nat} {w wr : World} {vi : Value} (h : StAt g new s w vi wr) : StAt g new s w vi wr.drew := by
  obtain ⟨i, hi, rfl, hr, hk⟩ := h
  exact ⟨i, hi, rfl, hr.drew, hk.drew⟩

set_option maxRecDepth 100000 in
set_option maxHeartbeats 1000000 in
theorem state_add (g : Nat) (s k : List Nat) (hs : s.length = 16) (hk : k.length = 16) (hsa : Bs.All s) (hka : Bs.All k) (w : World) (hr : Row w g 85 (Bs.vals s)) :
    Calls Try.prog 49 #[.pointer (some ⟨g, 0, none⟩), .agg (Bs.vals k)] w fun e w' =>
      e = .returned (.tuple #[]) ∧ Row w' g 85 (Bs.vals (Aes.add s k)) ∧ Keep (fun j => j ≠ g) w w' := by
  have hlt := hr.lt
  have hbox := Row.new w 85 (Bs.vals k)
  have hst : StAt g (Aes.add s k) s w (.int .i64 0) (w.alloc (.cells (Bs.vals k) 85)) := ⟨0, by decide, rfl, by rw [Bs.upTo_zero]; exact hr.alloc _, (Keep.refl _ _).alloc _⟩
  have Hst := Lib.hid hst
  clear hst
  go_enter Try.func49, Try.ntmps49
  go_wp2_with (refine wpList_load_row rfl 85 _ rfl w.heap.size rfl 85 _ _ _ hbox Try.underlying85 rfl (by rw [Bs.size, hk]; exact Aes.info16) ?_)
  clear hbox
  go_loopw [7] (fun vi wr => StAt g (Aes.add s k) s w vi wr) (fun vi _ => 16 - (intOf vi).toNat)
  case atStart => exact Hst.out
  case round =>
    obtain ⟨i, hi, rfl, hri, hki⟩ := hrel
    by_cases hlt16 : i < 16
    · have hidx := Aes.index16 hk hlt16 wr
      have hsl : i < (Bs.upTo i (Aes.add s k) s).length := by rw [Bs.upTo_length (by rw [Aes.add_length, hs]), hs]; exact hlt16
      have hcell : wr.cell? ⟨g, i, none⟩ = some (U (s.getD i 0)) := by
        rw [hri.cell i, Bs.get _ hsl, Bs.upTo_get (by rw [Aes.add_length, hs]) (Nat.le_refl _)]
      have hfr := hri.frozen i
      have hx : bits BinOp.xor IntKind.u8 ((s.getD i 0 : Nat) : Int) ((k.getD i 0 : Nat) : Int) = (((Aes.add s k).getD i 0 : Nat) : Int) := by
        rw [u8_xor_nat _ _ (hsa i) (hka i), Aes.add, Aes.range_get hlt16]
      have hnext := Lib.hid (StAt.next (Aes.add_length s k) hs hlt16 hri hki)
      have hnext2 := Lib.hid hnext.out.drew
      have hi16 : (i : Int) < 16 := by omega
      clear hsl hlt16 hi hri hki hk hs hsa hka
      generalize (Aes.add s k).getD i 0 = x at *
      generalize k.getD i 0 = y at *
      generalize s.getD i 0 = z at *
      go_wp2
      go_region
      all_goals
        go_wp2
        go_roundw
        case rel => first | exact hnext.out | exact hnext2.out
        case measure => simp [intOf]; omega
    · have hz : Hid (Row wr g 85 (Bs.vals (Aes.add s k))) := by
        obtain rfl : i = 16 := by omega
        rw [Bs.upTo_all (by rw [Aes.add_length]; omega) (by omega)] at hri; exact hri
      have hi16 : ¬ (i : Int) < 16 := by omega
      clear hlt16 hi hri
      go_wp2
      go_end0
      exact ⟨rfl, hz.out, hki⟩

def MvAt (g : Nat) (new s : List Nat) (w : World) (vi : Value) (wr : World) : Prop := StAt g new s w vi wr ∧ Row wr w.heap.size 85 (Bs.vals s)
theorem MvAt.drew {g : Nat} {new s : List Nat} {w wr : World} {vi : Value} (h : MvAt g new s w vi wr) : MvAt g new s w vi wr.drew := ⟨h.1.drew, h.2.drew⟩

set_option maxRecDepth 100000 in
set_option maxHeartbeats 1000000 in
theorem state_move (g b : Nat) (hb : b ≤ 3) (s : List Nat) (hs : s.length = 16) (w : World) (hr : Row w g 85 (Bs.vals s)) :
    Calls Try.prog 53 #[.pointer (some ⟨g, 0, none⟩), .int .i64 (b : Int)] w fun e w' =>
      e = .returned (.tuple #[]) ∧ Row w' g 85 (Bs.vals (Aes.move b s)) ∧ Keep (fun j => j ≠ g) w w' := by
  have hlt := hr.lt
  have hz : (w.alloc (.cells (Bs.vals (List.replicate 16 0)) 85)).there w.heap.size 0 (Bs.vals s).size := (Row.new w _ _).there (by rw [Bs.size, Bs.size, hs]; decide)
  obtain ⟨w1, hw1⟩ : ∃ w1, (w.alloc (.cells (Bs.vals (List.replicate 16 0)) 85)).setCells w.heap.size 0 (Bs.vals s).toList = w1 := ⟨_, rfl⟩
  have hold : Row w1 w.heap.size 85 (Bs.vals s) := by
    rw [← hw1]
    have := (Row.new w 85 (Bs.vals (List.replicate 16 0))).setCells (vs := (Bs.vals s).toList) (by simp [hs])
    simpa using this
  have hst : StAt g (Aes.move b s) s w (.int .i64 0) w1 := by
    rw [← hw1]
    exact ⟨0, by decide, rfl, by rw [Bs.upTo_zero]; exact Row.other_setCells (by omega) _ _ _ (hr.alloc _), Keep.setCells (by intro _; omega) _ _ _ ((Keep.refl _ _).alloc _)⟩
  have Hst := Lib.hid hst
  have Hold := Lib.hid hold
  have Hz := Lib.hid hz
  have Hw1 := Lib.hid hw1
  clear hst hold hz hw1
  go_enter Try.func53, Try.ntmps53
  go_wp2_with (first | (refine wpList_load_row rfl 85 _ rfl g rfl 85 _ _ _ hr Try.underlying85 rfl (by rw [Bs.size, hs]; exact Aes.info16) ?_) | (refine wpList_store_mid rfl 85 _ _ rfl w.heap.size 0 (Bs.vals s) rfl rfl Hz.out (by rw [Bs.size, hs]; exact Aes.info16) (Bs.one s) ?_))
  rw [show (w.alloc (.cells #[.int .u8 0, .int .u8 0, .int .u8 0, .int .u8 0, .int .u8 0, .int .u8 0, .int .u8 0, .int .u8 0, .int .u8 0, .int .u8 0, .int .u8 0, .int .u8 0, .int .u8 0, .int .u8 0, .int .u8 0, .int .u8 0] 85)).setCells w.heap.size 0 (Bs.vals s).toList = w1 from Hw1.out]
  go_loopw [9] (fun vi wr => MvAt g (Aes.move b s) s w vi wr) (fun vi _ => 16 - (intOf vi).toNat)
  case atStart => exact ⟨Hst.out, Hold.out⟩
  case round =>
    clear Hst Hold Hz Hw1
    obtain ⟨⟨i, hi, rfl, hri, hki⟩, hold⟩ := hrel
    by_cases hlt16 : i < 16
    · have hml : ((i + 4 * b * (i % 4)) % 16) < 16 := Nat.mod_lt _ (by decide)
      have hsl : i < (Bs.upTo i (Aes.move b s) s).length := by rw [Bs.upTo_length (by rw [Aes.move_length, hs]), hs]; exact hlt16
      have hnew : (Aes.move b s).getD i 0 = s.getD ((i + 4 * b * (i % 4)) % 16) 0 := by rw [Aes.move, Aes.range_get hlt16]
      have hcell : wr.cell? ⟨w.heap.size, (i + 4 * b * (i % 4)) % 16, none⟩ = some (U ((Aes.move b s).getD i 0)) := by
        rw [hold.cell, Bs.get _ (by omega), hnew]
      have hthere : wr.cell? ⟨g, i, none⟩ = some (U ((Bs.upTo i (Aes.move b s) s).getD i 0)) := by rw [hri.cell i, Bs.get _ hsl]
      have hfr := hri.frozen i
      have hnext := Lib.hid (show MvAt g (Aes.move b s) s w _ _ from ⟨StAt.next (Aes.move_length b s) hs hlt16 hri hki, hold.other (a := ⟨g, i, none⟩) (by dsimp only; omega) (U ((Aes.move b s).getD i 0))⟩)
      have hnext2 := Lib.hid hnext.out.drew
      have hi16 : (i : Int) < 16 := by omega
      have hq4 : i % 4 < 4 := Nat.mod_lt _ (by decide)
      have hbq : 4 * b * (i % 4) ≤ 4 * 3 * 4 := Nat.mul_le_mul (by omega) (by omega)
      have e0 : IntKind.i64.wrap (4 * (b : Int)) = 4 * (b : Int) := IntWalk.i64_in _ (by omega)
      have e1 : (i : Int).tmod 4 = ((i % 4 : Nat) : Int) := by rw [Int.tmod_eq_emod_of_nonneg (by omega)]; omega
      have e2 : (i : Int) % 4 = ((i % 4 : Nat) : Int) := by omega
      have e3 : IntKind.i64.wrap (4 * (b : Int) * ((i % 4 : Nat) : Int)) = ((4 * b * (i % 4) : Nat) : Int) := by
        rw [show 4 * (b : Int) * ((i % 4 : Nat) : Int) = ((4 * b * (i % 4) : Nat) : Int) from by push_cast; rfl]
        exact IntWalk.i64_in _ (by omega)
      have e3' : 4 * (b : Int) * ((i % 4 : Nat) : Int) = ((4 * b * (i % 4) : Nat) : Int) := by push_cast; rfl
      have e4 : IntKind.i64.wrap ((i : Int) + ((4 * b * (i % 4) : Nat) : Int)) = ((i + 4 * b * (i % 4) : Nat) : Int) := by
        rw [show (i : Int) + ((4 * b * (i % 4) : Nat) : Int) = ((i + 4 * b * (i % 4) : Nat) : Int) from by omega]
        exact IntWalk.i64_in _ (by omega)
      have e4' : (i : Int) + ((4 * b * (i % 4) : Nat) : Int) = ((i + 4 * b * (i % 4) : Nat) : Int) := by omega
      have e5 : ((i + 4 * b * (i % 4) : Nat) : Int).tmod 16 = (((i + 4 * b * (i % 4)) % 16 : Nat) : Int) := by rw [Int.tmod_eq_emod_of_nonneg (by omega)]; omega
      have e5' : ((i + 4 * b * (i % 4) : Nat) : Int) % 16 = (((i + 4 * b * (i % 4)) % 16 : Nat) : Int) := by omega
      have e6 : IntKind.i64.wrap (((i + 4 * b * (i % 4)) % 16 : Nat) : Int) = (((i + 4 * b * (i % 4)) % 16 : Nat) : Int) := IntWalk.i64_in _ (by omega)
      have e7 : IntKind.i64.wrap ((i % 4 : Nat) : Int) = ((i % 4 : Nat) : Int) := IntWalk.i64_in _ (by omega)
      have hpb : 4 * b * (i % 4) ≤ 48 := hbq
      have hrb : i + 4 * b * (i % 4) ≤ 64 := by omega
      clear hnew hsl hi hri hki hold hbq hs
      generalize (Aes.move b s).getD i 0 = x at *
      generalize (Bs.upTo i (Aes.move b s) s).getD i 0 = z at *
      generalize hm : (i + 4 * b * (i % 4)) % 16 = m at *
      have Hm := Lib.hid hm
      clear hm
      generalize hr' : i + 4 * b * (i % 4) = r at *
      clear hr'
      generalize hp' : 4 * b * (i % 4) = p at *
      clear hp'
      generalize hq' : i % 4 = q at *
      clear hq'
      have m0 : 0 ≤ (m : Int) := by omega
      have m1 : (m : Int) < 16 := by omega
      clear hml hq4 hlt16
      go_wp2
      go_region
      all_goals
        go_wp2
        go_roundw
        case rel => first | exact hnext.out | exact hnext2.out
        case measure => simp [intOf]; omega
    · have hz : Hid (Row wr g 85 (Bs.vals (Aes.move b s))) := by
        obtain rfl : i = 16 := by omega
        rw [Bs.upTo_all (by rw [Aes.move_length]; omega) (by omega)] at hri; exact hri
      have hi16 : ¬ (i : Int) < 16 := by omega
      clear hlt16 hi hri
      go_wp2
      go_end0
      exact ⟨rfl, hz.out, hki⟩

set_option maxRecDepth 100000 in
set_option maxHeartbeats 1000000 in
theorem state_each (g f : Nat) (F : Nat → Nat) (_ : ∀ x, x < 256 → F x < 256) (eg : ∀ args w, (callFunc f args).run Try.prog w = .ok (.enter f args) w)
    (hf : ∀ x, x < 256 → ∀ W, Calls Try.prog f #[U x] W fun e w' => e = .returned (U (F x)) ∧ Below W.heap.size W w')
    (s : List Nat) (hs : s.length = 16) (hsa : Bs.All s) (w : World) (hr : Row w g 85 (Bs.vals s)) :
    Calls Try.prog 51 #[.pointer (some ⟨g, 0, none⟩), .func (.func f) #[] #[]] w fun e w' =>
      e = .returned (.tuple #[]) ∧ Row w' g 85 (Bs.vals (Aes.each F s)) ∧ Keep (fun j => j ≠ g) w w' := by
  have hst : StAt g (Aes.each F s) s w (.int .i64 0) w := ⟨0, by decide, rfl, by rw [Bs.upTo_zero]; exact hr, Keep.refl _ _⟩
  have Hst := Lib.hid hst
  have Hf := Lib.hid hf
  clear hst hf hr
  go_enter Try.func51, Try.ntmps51
  go_wp2
  go_loopw [7] (fun vi wr => StAt g (Aes.each F s) s w vi wr) (fun vi _ => 16 - (intOf vi).toNat)
  case atStart => exact Hst.out
  case round =>
    clear Hst
    obtain ⟨i, hi, rfl, hri, hki⟩ := hrel
    by_cases hlt16 : i < 16
    · have hsl : i < (Bs.upTo i (Aes.each F s) s).length := by rw [Bs.upTo_length (by rw [Aes.each_length, hs]), hs]; exact hlt16
      have hcell : wr.cell? ⟨g, i, none⟩ = some (U (s.getD i 0)) := by
        rw [hri.cell i, Bs.get _ hsl, Bs.upTo_get (by rw [Aes.each_length, hs]) (Nat.le_refl _)]
      have hcell2 : wr.drew.cell? ⟨g, i, none⟩ = some (U (s.getD i 0)) := hcell
      have hnew : (Aes.each F s).getD i 0 = F (s.getD i 0) := by rw [Aes.each, Aes.range_get hlt16]
      have hcall := Hf.out (s.getD i 0) (hsa i)
      rw [← hnew] at hcall
      have Hcall := Lib.hid hcall
      have hnext := Lib.hid (fun (w1 : World) (h : Below wr.heap.size wr w1) => StAt.next (w := w) (wr := w1) (Aes.each_length F s) hs hlt16 (hri.below h hri.lt) (hki.call h))
      have hlt := hri.lt
      have hfr := hri.frozen i
      have hi16 : (i : Int) < 16 := by omega
      clear hsl hlt16 hi hri hki hcall hnew hsa
      generalize (Aes.each F s).getD i 0 = x at *
      generalize s.getD i 0 = z at *
      go_wp2
      go_quiet (fail)
      go_wp2
      have hc3 : (wr.drewN (nq + 1)).cell? ⟨g, i, none⟩ = some (U z) := hcell
      have hf3 : (wr.drewN (nq + 1)).frozen? ⟨g, i, none⟩ = false := hfr
      go_region_with (refine (Hcall.out _).mono ?_; rintro e w1 ⟨rfl, hb1⟩; have k1 := cell_below hb1 hc3; have k2 := (frozen_below hb1 hc3).trans hf3)
      all_goals
        have hnx := Lib.hid (hnext.out _ (below_drewN hb1))
        have hnx2 := Lib.hid hnx.out.drew
        go_wp2
        go_roundw
        case rel => first | exact hnx.out | exact hnx2.out
        case measure => simp [intOf]; omega
    · have hz : Hid (Row wr g 85 (Bs.vals (Aes.each F s))) := by
        obtain rfl : i = 16 := by omega
        rw [Bs.upTo_all (by rw [Aes.each_length]; omega) (by omega)] at hri; exact hri
      have hi16 : ¬ (i : Int) < 16 := by omega
      clear hlt16 hi hri
      go_wp2
      go_end0
      exact ⟨rfl, hz.out, hki⟩

end Go.Proofs.Ytgcfaeipiiagdaa
