/-
  The document's answer of layer 3: the tables Subs and Backs, and Mix.
-/
import Derived.Test.YtkodfifmfpdjoaaRefB
import Derived.Test.YtkodfifmfpdjoaaAesI
import Derived.Test.YtkodfifmfpdjoaaFldM
import Derived.Laws.Tables
import Derived.Laws.CopyOwn
import Derived.StillTailTactics
import Derived.BigQuiet
namespace Go.Proofs.Ytkodfifmfpdjoaa
open Go.RowKit

namespace Fld
def subsT : List Nat := (List.range 256).map sub
def backsT : List Nat := (List.range 256).map back
/-- The powers of 3. -/
def powT : List Nat := [1, 3, 5, 15, 17, 51, 85, 255, 26, 46, 114, 150, 161, 248, 19, 53, 95, 225, 56, 72, 216, 115, 149, 164, 247, 2, 6, 10, 30, 34, 102, 170, 229, 52, 92, 228, 55, 89, 235, 38, 106, 190, 217, 112, 144, 171, 230, 49, 83, 245, 4, 12, 20, 60, 68, 204, 79, 209, 104, 184, 211, 110, 178, 205, 76, 212, 103, 169, 224, 59, 77, 215, 98, 166, 241, 8, 24, 40, 120, 136, 131, 158, 185, 208, 107, 189, 220, 127, 129, 152, 179, 206, 73, 219, 118, 154, 181, 196, 87, 249, 16, 48, 80, 240, 11, 29, 39, 105, 187, 214, 97, 163, 254, 25, 43, 125, 135, 146, 173, 236, 47, 113, 147, 174, 233, 32, 96, 160, 251, 22, 58, 78, 210, 109, 183, 194, 93, 231, 50, 86, 250, 21, 63, 65, 195, 94, 226, 61, 71, 201, 64, 192, 91, 237, 44, 116, 156, 191, 218, 117, 159, 186, 213, 100, 172, 239, 42, 126, 130, 157, 188, 223, 122, 142, 137, 128, 155, 182, 193, 88, 232, 35, 101, 175, 234, 37, 111, 177, 200, 67, 197, 84, 252, 31, 33, 99, 165, 244, 7, 9, 27, 45, 119, 153, 176, 203, 70, 202, 69, 207, 74, 222, 121, 139, 134, 145, 168, 227, 62, 66, 198, 81, 243, 14, 18, 54, 90, 238, 41, 123, 141, 140, 143, 138, 133, 148, 167, 242, 13, 23, 57, 75, 221, 124, 132, 151, 162, 253, 28, 36, 108, 180, 199, 82, 246]

theorem powT_length : powT.length = 255 := by decide +kernel
theorem powT_next : ∀ i, i < 254 → rmul 3 (powT.getD i 0) = powT.getD (i + 1) 0 := by decide +kernel
theorem powT_lt : ∀ i, i < 255 → powT.getD i 0 < 256 ∧ powT.getD i 0 ≠ 0 := by decide +kernel
theorem powT_sub : ∀ i, i < 255 → bent (powT.getD ((255 - i) % 255) 0) = sub (powT.getD i 0) := by decide +kernel
theorem bent_zero : bent 0 = sub 0 := by decide +kernel
theorem powT_all : ∀ a, a < 256 → a = 0 ∨ a ∈ powT := by decide +kernel
theorem mul_one' : ∀ a, a < 256 → mul 1 a = a := by decide +kernel

def subAt (i a : Nat) : Nat := if a = 0 ∨ a ∈ powT.take i then sub a else 0
def subL (i : Nat) : List Nat := (List.range 256).map (subAt i)
theorem subL_length (i : Nat) : (subL i).length = 256 := by simp [subL]
theorem list_set_map {n : Nat} {f g : Nat → Nat} {p x : Nat} (hx : x = g p) (h : ∀ a, a ≠ p → f a = g a) : ((List.range n).map f).set p x = (List.range n).map g := by
  apply List.ext_getElem
  · simp
  · intro j h1 h2
    rw [List.getElem_set]
    split
    · rename_i e; subst e; simpa using hx
    · rename_i e; simpa using h j (fun h => e h.symm)
theorem rep_map (n x : Nat) : List.replicate n x = (List.range n).map (fun _ => x) := by rw [List.map_const', List.length_range]
theorem subL_next (i : Nat) (hi : i < 255) : (subL i).set (powT.getD i 0) (sub (powT.getD i 0)) = subL (i + 1) := by
  have hm : ∀ a, a ∈ powT.take (i + 1) ↔ a ∈ powT.take i ∨ a = powT.getD i 0 := fun a => by
    have h : i < powT.length := by rw [powT_length]; exact hi
    rw [List.take_succ_eq_append_getElem h, List.mem_append, List.mem_singleton]
    simp [List.getD_eq_getElem?_getD, h]
  refine list_set_map ?_ fun a ha => ?_
  · rw [subAt, if_pos (.inr ((hm _).2 (.inr rfl)))]
  · simp only [subAt, hm, ha, or_false]
theorem subL_end : subL 255 = subsT := by
  refine List.map_congr_left fun a ha => ?_
  have h := powT_all a (List.mem_range.1 ha)
  rw [subAt, if_pos (by rwa [List.take_of_length_le (by rw [powT_length]; decide)])]
theorem subL_zero : (List.replicate 256 0).set 0 (sub 0) = subL 0 := by
  rw [rep_map]
  refine list_set_map ?_ fun a ha => ?_
  · rw [subAt, if_pos (.inl rfl)]
  · rw [subAt, if_neg]
    simp [ha]

def backAt (i a : Nat) : Nat := if a < 256 ∧ back a < i then back a else 0
def backL (i : Nat) : List Nat := (List.range 256).map (backAt i)
theorem backL_zero : List.replicate 256 0 = backL 0 := by
  rw [rep_map]
  refine List.map_congr_left fun a _ => ?_
  rw [backAt, if_neg (fun h => Nat.not_lt_zero _ h.2)]
theorem backL_next (i : Nat) (hi : i < 256) : (backL i).set (sub i) i = backL (i + 1) := by
  refine list_set_map ?_ fun a ha => ?_
  · rw [backAt, back_sub i hi, if_pos ⟨sub_lt i hi, by omega⟩]
  · unfold backAt
    by_cases h : a < 256
    · have hne : back a ≠ i := fun e => ha (by rw [← e, sub_back a h])
      by_cases h2 : back a < i
      · rw [if_pos ⟨h, h2⟩, if_pos ⟨h, by omega⟩]
      · rw [if_neg (fun e => h2 e.2), if_neg (fun e => h2 (by have := e.2; omega))]
    · rw [if_neg (fun e => h e.1), if_neg (fun e => h e.1)]
theorem backL_end : backL 256 = backsT := by
  refine List.map_congr_left fun a ha => ?_
  have ha' : a < 256 := List.mem_range.1 ha
  rw [backAt, if_pos ⟨ha', back_lt a ha'⟩]
end Fld

theorem Tab.zero256 : Try.zeroCells47 = Bs.vals (List.replicate 256 0) := by kernel_rfl
theorem Tab.zero255 : Try.zeroCells68 = Bs.vals (List.replicate 255 0) := by kernel_rfl
theorem Tab.info256 : (Try.prog.info? 47).map (·.size) = some 256 := by kernel_rfl
theorem upTo_next (R : List Nat) (n : Nat) (hR : R.length = n) {i : Nat} (hi : i < n) : (Bs.upTo i R (List.replicate n 0)).set i (R.getD i 0) = Bs.upTo (i + 1) R (List.replicate n 0) :=
  Bs.upTo_set (by rw [hR, List.length_replicate]) (by rw [List.length_replicate]; exact hi)

theorem Tab.at255 (g : Nat) (z : Int) (p : Nat) (hz : z = (p : Int)) (hp : p < 255) (W : World) :
    (Instr.indexAt 68 (.pointer (some ⟨g, 0, none⟩)) (.int .i64 z)).run Try.prog W = .ok (.pointer (some ⟨g, p, none⟩)) W := by
  have hal : Try.prog.arrayLen 68 = 255 := by kernel_rfl
  have hel : Try.prog.elem 68 = 5 := by kernel_rfl
  have hc : Try.prog.cellsOf 5 = 1 := by kernel_rfl
  subst hz
  rw [run_indexAt_array (P := Try.prog) W 68 ⟨g, 0, none⟩ .i64 (p : Int) (by rw [hal, hel]; exact Try.underlying68), hal, if_pos ⟨by omega, by omega⟩]
  rw [hel, run_sizeOf W (i := (Try.prog.info? 5).getD default) (by kernel_rfl), hc]
  simp only [Result.andThen_ok, Int.toNat_natCast, Nat.mul_one]
  rw [Addr.add_mid, Nat.zero_add]

/-- The powers on their way. -/
def PowAt (gp : Nat) (w0 : World) (vx vi : Value) (wr : World) : Prop :=
  ∃ i x : Nat, i ≤ 255 ∧ x < 256 ∧ (i < 255 → x = Fld.powT.getD i 0) ∧ vx = .int .u8 x ∧ vi = .int .i64 i ∧ Row wr gp 68 (Bs.vals (Bs.upTo i Fld.powT (List.replicate 255 0))) ∧ Keep (fun k => k ≠ gp) w0 wr
/-- What stands for bytes on its way. -/
def SubsAt (go : Nat) (w0 : World) (vi : Value) (wr : World) : Prop :=
  ∃ i : Nat, i ≤ 255 ∧ vi = .int .i64 i ∧ Row wr go 47 (Bs.vals (Fld.subL i)) ∧ Keep (fun k => k ≠ go) w0 wr

set_option maxRecDepth 100000 in
set_option maxHeartbeats 4000000 in
theorem refSubs_any (w : World) :
    Calls Try.prog 23 #[] w fun e w' => e = .returned (.agg (Bs.vals Fld.subsT)) ∧ Below w.heap.size w w' := by
  have hr1 := Row.new w 47 Try.zeroCells47
  have hr2 := Row.new (w.alloc (.cells Try.zeroCells47 47)) 68 Try.zeroCells68
  rw [World.size_alloc] at hr2
  have hr1' := hr1.alloc (.cells Try.zeroCells68 68)
  have hk2 : Below w.heap.size w ((w.alloc (.cells Try.zeroCells47 47)).alloc (.cells Try.zeroCells68 68)) := ((Below.refl _ w).alloc (Nat.le_refl _) _).alloc (by simp) _
  have hz2 : ((w.alloc (.cells Try.zeroCells47 47)).alloc (.cells Try.zeroCells68 68)).heap.size = w.heap.size + 2 := by simp
  obtain ⟨w2, hw2⟩ : ∃ w2, (w.alloc (.cells Try.zeroCells47 47)).alloc (.cells Try.zeroCells68 68) = w2 := ⟨_, rfl⟩
  rw [hw2] at hr2 hr1' hk2 hz2
  rw [Tab.zero255] at hr2
  rw [Tab.zero256] at hr1'
  have hst : PowAt (w.heap.size + 1) w2 (.int .u8 1) (.int .i64 0) w2 := ⟨0, 1, by decide, by decide, fun _ => by decide +kernel, rfl, rfl, by rw [Bs.upTo_zero]; exact hr2, Keep.refl _ _⟩
  have Hst := Lib.hid hst
  have Hr1 := Lib.hid hr1'
  have Hk2 := Lib.hid hk2
  have Hw2 := Lib.hid hw2
  clear hr1 hr2 hr1' hk2 hst hw2
  go_enter Try.func23, Try.ntmps23
  go_wp2
  rw [show (w.alloc (.cells Try.zeroCells47 47)).alloc (.cells Try.zeroCells68 68) = w2 from Hw2.out]
  clear Hw2
  go_loopw [2, 3] (fun vx vi wr => PowAt (w.heap.size + 1) w2 vx vi wr) (fun _ vi _ => 255 - (intOf vi).toNat)
  case atStart => exact Hst.out
  case round =>
    clear Hst
    obtain ⟨i, x, hi, hx, hxv, rfl, rfl, hrow, hkeep⟩ := hrel
    by_cases hlt : i < 255
    · have hlt' : (i : Int) < 255 := by omega
      obtain rfl : x = Fld.powT.getD i 0 := hxv hlt
      have hsl : i < (Bs.upTo i Fld.powT (List.replicate 255 0)).length := by rw [Bs.upTo_length (by rw [Fld.powT_length]; rfl)]; exact hlt
      have hc := hrow.cell i
      rw [Bs.get _ hsl] at hc
      have hf := hrow.frozen i
      have hrow2 := hrow.store i (U (Fld.powT.getD i 0))
      rw [Bs.set, upTo_next Fld.powT 255 Fld.powT_length hlt] at hrow2
      have hk2 := hkeep.setCell (p := ⟨w.heap.size + 1, i, none⟩) (fun h => absurd rfl h) (U (Fld.powT.getD i 0))
      have hmul := refMul_nat 3 (Fld.powT.getD i 0) (by decide) hx
      have hnx : PowAt (w.heap.size + 1) w2 (.int .u8 ((Fld.rmul 3 (Fld.powT.getD i 0) : Nat) : Int)) (.int .i64 ((i : Int) + 1)) (wr.setCell ⟨w.heap.size + 1, i, none⟩ (U (Fld.powT.getD i 0))) :=
        ⟨i + 1, _, hlt, Fld.rmul_lt _ _ (by decide), fun h => Fld.powT_next i (by omega), rfl, rfl, hrow2, hk2⟩
      have Hnx := Lib.hid hnx
      have Hmul := Lib.hid hmul
      clear hsl hrow hrow2 hkeep hk2 hmul hnx hxv hlt hi
      generalize (Bs.upTo i Fld.powT (List.replicate 255 0)).getD i 0 = old at *
      generalize Fld.powT.getD i 0 = x at *
      go_wp2_with fail
      refine (Hmul.out _).mono ?_
      rintro e w3 ⟨rfl, rfl⟩
      go_wp2
      go_roundw
      case rel => exact Hnx.out
      case measure => simp [intOf]; omega
    · obtain rfl : i = 255 := by omega
      rw [Bs.upTo_all (by rw [Fld.powT_length]; decide) (by rw [List.length_replicate]; decide)] at hrow
      have hlt' : ¬ ((255 : Nat) : Int) < 255 := by decide
      have Hpow := Lib.hid hrow
      have Hb := Lib.hid (((Keep.below (S := fun _ => True) Hk2.out).on hkeep (fun k _ hl => by omega)).toBelow (fun _ _ => trivial))
      have hgp : w.heap.size + 1 < wr.heap.size := by have := hkeep.size; omega
      have hr1 := Hr1.out.keep hkeep (by omega)
      have Hr1 := Lib.hid hr1
      clear hrow hkeep hr1 hxv hx hi hlt
      go_wp2_with fail
      refine (bent_nat 0 (by decide) _).mono ?_
      rintro e w4 ⟨rfl, hb4⟩
      rw [Fld.bent_zero]
      have hnew := Row.new wr 47 Try.zeroCells47
      rw [Tab.zero256] at hnew
      have ho4 := hnew.below hb4 (by simp)
      have hp4 := (Hpow.out.alloc (.cells Try.zeroCells47 47)).below hb4 (by simp; omega)
      have hr4 := (Hr1.out.alloc (.cells Try.zeroCells47 47)).below hb4 (by simp; omega)
      have hB4 : Below w.heap.size w w4 := below_seq Hb.out (below_seq ((Below.refl _ wr).alloc (Nat.le_refl _) _) hb4)
      have hz4 : wr.heap.size < w4.heap.size := by have := hb4.size; simp at this; omega
      have hc := ho4.cell 0
      rw [Bs.get _ (by rw [List.length_replicate]; decide)] at hc
      have hf := ho4.frozen 0
      have ho5 := ho4.store 0 (U (Fld.sub 0))
      rw [Bs.set, Fld.subL_zero] at ho5
      obtain ⟨go, hgo⟩ : ∃ go, wr.heap.size = go := ⟨_, rfl⟩
      rw [hgo] at hc hf ho5 hgp hz4
      have hp5 := hp4.other (a := ⟨go, 0, none⟩) (by dsimp only; omega) (U (Fld.sub 0))
      have hr5 := hr4.other (a := ⟨go, 0, none⟩) (by dsimp only; omega) (U (Fld.sub 0))
      have hB5 := hB4.setCell (p := ⟨go, 0, none⟩) (by dsimp only; omega) (U (Fld.sub 0))
      have hz5 : go < (w4.setCell ⟨go, 0, none⟩ (U (Fld.sub 0))).heap.size := ho5.lt
      obtain ⟨w5, hw5⟩ : ∃ w5, w4.setCell ⟨go, 0, none⟩ (U (Fld.sub 0)) = w5 := ⟨_, rfl⟩
      rw [hw5] at ho5 hp5 hr5 hB5 hz5
      have hst : SubsAt go w5 (.int .i64 0) w5 := ⟨0, by decide, rfl, ho5, Keep.refl _ _⟩
      have Hst := Lib.hid hst
      have Hp5 := Lib.hid hp5
      have Hr5 := Lib.hid hr5
      have HB5 := Lib.hid hB5
      have Hw5 := Lib.hid hw5
      clear ho4 hp4 hr4 hB4 ho5 hp5 hr5 hB5 hst hnew hb4 Hb Hr1 Hpow hw5
      generalize (List.replicate 256 0).getD 0 0 = old at *
      generalize Fld.sub 0 = s0 at *
      go_wp2
      rw [show w4.setCell ⟨go, 0, none⟩ (U s0) = w5 from Hw5.out]
      clear Hw5 hc hf hgo
      go_loopw [5] (fun vi wr => SubsAt go w5 vi wr) (fun vi _ => 255 - (intOf vi).toNat)
      case atStart => exact Hst.out
      case round =>
        clear Hst
        obtain ⟨i, hi, rfl, hrow, hkeep⟩ := hrel
        by_cases hlt : i < 255
        · have hlt' : (i : Int) < 255 := by omega
          have hpr := Hp5.out.keep hkeep (by omega)
          have hj : (255 - i) % 255 < 255 := Nat.mod_lt _ (by decide)
          have hji : ((255 : Int) - (i : Int)) % 255 = (((255 - i) % 255 : Nat) : Int) := by omega
          have hwj : IntKind.i64.wrap ((255 : Int) - (i : Int)) = (255 : Int) - (i : Int) := IntWalk.i64_in _ (by omega)
          have htj : Int.tmod ((255 : Int) - (i : Int)) 255 = (((255 - i) % 255 : Nat) : Int) := by rw [Int.tmod_eq_emod_of_nonneg (by omega)]; omega
          have hwj2 : IntKind.i64.wrap (((255 - i) % 255 : Nat) : Int) = (((255 - i) % 255 : Nat) : Int) := IntWalk.i64_in _ (by omega)
          have hjm : (-(i : Int)) % 255 = (((255 - i) % 255 : Nat) : Int) := by omega
          have hat2 := fun W => Tab.at255 (w.heap.size + 1) (((255 - i) % 255 : Nat) : Int) ((255 - i) % 255) rfl hj W
          have hat := fun W => Tab.at255 (w.heap.size + 1) (((255 : Int) - (i : Int)) % 255) ((255 - i) % 255) hji hj W
          have c1 := hpr.cell i
          rw [Bs.get _ (by rw [Fld.powT_length]; exact hlt)] at c1
          have c2 := hpr.cell ((255 - i) % 255)
          rw [Bs.get _ (by rw [Fld.powT_length]; exact hj)] at c2
          obtain ⟨hx, hx0⟩ := Fld.powT_lt i hlt
          obtain ⟨hy, -⟩ := Fld.powT_lt _ hj
          have c3 := hrow.cell (Fld.powT.getD i 0)
          rw [Bs.get _ (by rw [Fld.subL_length]; exact hx)] at c3
          have f3 := hrow.frozen (Fld.powT.getD i 0)
          have Hbent := Lib.hid (bent_nat _ hy)
          rw [Fld.powT_sub i hlt] at Hbent
          have hxi : ((Fld.powT.getD i 0 : Nat) : Int) < 256 := by omega
          have Hnx : Hid (∀ w1, Below wr.heap.size wr w1 → SubsAt go w5 (.int .i64 ((i : Int) + 1)) (w1.setCell ⟨go, Fld.powT.getD i 0, none⟩ (U (Fld.sub (Fld.powT.getD i 0))))) := Lib.hid (fun w1 h1 => by
            have h2 := (hrow.below h1 hrow.lt).store (Fld.powT.getD i 0) (U (Fld.sub (Fld.powT.getD i 0)))
            rw [Bs.set, Fld.subL_next i hlt] at h2
            exact ⟨i + 1, hlt, rfl, h2, (hkeep.call h1).setCell (p := ⟨go, Fld.powT.getD i 0, none⟩) (fun h => absurd rfl h) _⟩)
          have hnd : Below wr.heap.size wr wr := Below.refl _ _
          clear hrow hkeep hpr hx0 hlt hi
          generalize (Fld.subL i).getD (Fld.powT.getD i 0) 0 = old2 at *
          generalize Fld.powT.getD ((255 - i) % 255) 0 = y at *
          generalize Fld.sub (Fld.powT.getD i 0) = sx at *
          generalize Fld.powT.getD i 0 = x at *
          generalize (255 - i) % 255 = j at *
          go_wp2_with fail
          go_region_with (go_at_call 32; refine (Hbent.out _).mono ?_; rintro e w6 ⟨rfl, hb6⟩; have k1 := cell_below (below_drew hb6) c1; have k2 := cell_below (below_drew hb6) c2; have k3 := cell_below (below_drew hb6) c3; have k4 := (frozen_below (below_drew hb6) c3).trans f3)
          all_goals
            have hnx := Lib.hid (Hnx.out _ (below_drew hb6))
            go_wp2
            go_roundw
            case rel => exact hnx.out
            case measure => simp [intOf]; omega
        · obtain rfl : i = 255 := by omega
          rw [Fld.subL_end] at hrow
          have hlt' : ¬ ((255 : Nat) : Int) < 255 := by decide
          have hres := Hr5.out.keep hkeep (by omega)
          have hB := ((Keep.below (S := fun _ => True) HB5.out).on hkeep (fun k _ hl => by omega)).toBelow (fun _ _ => trivial)
          have hsz : Fld.subsT.length = 256 := by simp [Fld.subsT]
          have Hres := Lib.hid hres
          have HB := Lib.hid hB
          have Hrow := Lib.hid hrow
          clear hres hB hrow hkeep
          go_wp2_with (first | (refine wpList_load_row rfl 47 _ rfl go rfl 47 _ _ _ Hrow.out Try.underlying47 rfl (by rw [Bs.size, hsz]; exact Tab.info256) ?_) | (refine wpList_store_row rfl 47 _ _ rfl w.heap.size (Bs.vals Fld.subsT) rfl rfl 47 _ Hres.out (by rw [Bs.size, hsz]; exact Tab.info256) (by rw [Bs.size, Bs.size, List.length_replicate, hsz]) (Bs.one _) ?_))
          exact bodyPost_ret (v := .agg (Bs.vals Fld.subsT)) (results_cell_row rfl _ _ _ _ _ _ _ rfl (setRow_heap wr w.heap.size _ (Bs.vals Fld.subsT) 47 (0, 0) Hres.out) Try.underlying47 rfl (by rw [Bs.size, hsz]; exact Tab.info256)) rfl ⟨rfl, below_setRow HB.out (Nat.le_refl _) _⟩

/-- What undoes bytes on its way. -/
def BacksAt (go : Nat) (w0 : World) (vi : Value) (wr : World) : Prop :=
  ∃ i : Nat, i ≤ 256 ∧ vi = .int .i64 i ∧ Row wr go 47 (Bs.vals (Fld.backL i)) ∧ Keep (fun k => k ≠ go) w0 wr

theorem Fld.subsT_get {a : Nat} (ha : a < 256) : Fld.subsT.getD a 0 = Fld.sub a := by simp [Fld.subsT, List.getD_eq_getElem?_getD, ha]
theorem Fld.backsT_get {a : Nat} (ha : a < 256) : Fld.backsT.getD a 0 = Fld.back a := by simp [Fld.backsT, List.getD_eq_getElem?_getD, ha]
theorem Fld.subsT_length : Fld.subsT.length = 256 := by simp [Fld.subsT]
theorem Fld.backsT_length : Fld.backsT.length = 256 := by simp [Fld.backsT]
theorem Fld.subsT_all : Bs.All Fld.subsT := .of_mem fun x hx => by
  obtain ⟨a, ha, rfl⟩ := List.mem_map.1 hx
  exact Fld.sub_lt a (List.mem_range.1 ha)
theorem Fld.backsT_all : Bs.All Fld.backsT := .of_mem fun x hx => by
  obtain ⟨a, ha, rfl⟩ := List.mem_map.1 hx
  exact Fld.back_lt a (List.mem_range.1 ha)
theorem Fld.backL_length (i : Nat) : (Fld.backL i).length = 256 := by simp [Fld.backL]

set_option maxRecDepth 100000 in
set_option maxHeartbeats 4000000 in
theorem refBacks_any (w : World) :
    Calls Try.prog 27 #[] w fun e w' => e = .returned (.agg (Bs.vals Fld.backsT)) ∧ Below w.heap.size w w' := by
  have hr0 := Row.new w 47 Try.zeroCells47
  rw [Tab.zero256] at hr0
  go_enter Try.func27, Try.ntmps27
  go_wp2_with fail
  refine (refSubs_any _).mono ?_
  rintro e w1 ⟨rfl, hb1⟩
  have hr1 := hr0.below hb1 (by simp)
  have hB1 : Below w.heap.size w w1 := below_seq ((Below.refl _ w).alloc (Nat.le_refl _) _) hb1
  have hz1 : w.heap.size < w1.heap.size := by have := hb1.size; simp at this; omega
  have Hr1 := Lib.hid hr1
  have HB1 := Lib.hid hB1
  have hnew := Row.new w1 47 Try.zeroCells47
  have hsz := Fld.subsT_length
  clear hr0 hr1 hB1 hb1
  go_wp2_with (refine wpList_store_row rfl 47 _ _ rfl w1.heap.size (Bs.vals Fld.subsT) rfl rfl 47 _ hnew (by rw [Bs.size, hsz]; exact Tab.info256) (by rw [Tab.zero256, Bs.size, Bs.size, List.length_replicate, hsz]) (Bs.one _) ?_)
  have hk2 : Below w.heap.size w (((w1.alloc (.cells Try.zeroCells47 47)).setRow w1.heap.size (Bs.vals Fld.subsT)).alloc (.cells Try.zeroCells47 47)) :=
    (below_setRow (HB1.out.alloc HB1.out.size _) HB1.out.size _).alloc (by have := HB1.out.size; simp; omega) _
  have hs2 : Row (((w1.alloc (.cells Try.zeroCells47 47)).setRow w1.heap.size (Bs.vals Fld.subsT)).alloc (.cells Try.zeroCells47 47)) w1.heap.size 47 (Bs.vals Fld.subsT) :=
    Row.alloc (setRow_heap _ _ _ _ _ (0, 0) hnew) _
  have hr2 : Row (((w1.alloc (.cells Try.zeroCells47 47)).setRow w1.heap.size (Bs.vals Fld.subsT)).alloc (.cells Try.zeroCells47 47)) w.heap.size 47 (Bs.vals (List.replicate 256 0)) := by
    have hb : Below w1.heap.size w1 (((w1.alloc (.cells Try.zeroCells47 47)).setRow w1.heap.size (Bs.vals Fld.subsT)).alloc (.cells Try.zeroCells47 47)) :=
      (below_setRow ((Below.refl _ w1).alloc (Nat.le_refl _) _) (Nat.le_refl _) _).alloc (by simp) _
    exact Hr1.out.below hb hz1
  have ho2 : Row (((w1.alloc (.cells Try.zeroCells47 47)).setRow w1.heap.size (Bs.vals Fld.subsT)).alloc (.cells Try.zeroCells47 47)) (w1.heap.size + 1) 47 (Bs.vals (List.replicate 256 0)) := by
    have h := Row.new ((w1.alloc (.cells Try.zeroCells47 47)).setRow w1.heap.size (Bs.vals Fld.subsT)) 47 Try.zeroCells47
    rw [size_setRow, World.size_alloc, Tab.zero256] at h
    rw [Tab.zero256]
    exact h
  obtain ⟨w2, hw2⟩ : ∃ w2, ((w1.alloc (.cells Try.zeroCells47 47)).setRow w1.heap.size (Bs.vals Fld.subsT)).alloc (.cells Try.zeroCells47 47) = w2 := ⟨_, rfl⟩
  rw [hw2] at hk2 hs2 hr2 ho2 ⊢
  obtain ⟨gs, hgs⟩ : ∃ gs, w1.heap.size = gs := ⟨_, rfl⟩
  rw [hgs] at hs2 ho2 hz1 ⊢
  rw [Fld.backL_zero] at ho2
  have hst : BacksAt (gs + 1) w2 (.int .i64 0) w2 := ⟨0, by decide, rfl, ho2, Keep.refl _ _⟩
  have Hst := Lib.hid hst
  have Hs2 := Lib.hid hs2
  have Hr2 := Lib.hid hr2
  have Hk2 := Lib.hid hk2
  clear hk2 hs2 hr2 ho2 hst hw2 hgs hnew Hr1 HB1
  go_loopw [3] (fun vi wr => BacksAt (gs + 1) w2 vi wr) (fun vi _ => 256 - (intOf vi).toNat)
  case atStart => exact Hst.out
  case round =>
    clear Hst
    obtain ⟨i, hi, rfl, hrow, hkeep⟩ := hrel
    by_cases hlt : i < 256
    · have hlt' : (i : Int) < 256 := by omega
      have c1 := (Hs2.out.keep hkeep (by omega)).cell i
      rw [Bs.get _ (by rw [hsz]; exact hlt), Fld.subsT_get hlt] at c1
      have hx := Fld.sub_lt i hlt
      have c3 := hrow.cell (Fld.sub i)
      rw [Bs.get _ (by rw [Fld.backL_length]; exact hx)] at c3
      have f3 := hrow.frozen (Fld.sub i)
      have hxi : ((Fld.sub i : Nat) : Int) < 256 := by omega
      have hwi : IntKind.u8.wrap (i : Int) = (i : Int) := by rw [IntKind.wrap_u8]; omega
      have h2 := hrow.store (Fld.sub i) (U i)
      rw [Bs.set, Fld.backL_next i hlt] at h2
      have Hnx : Hid (BacksAt (gs + 1) w2 (.int .i64 ((i : Int) + 1)) (wr.setCell ⟨gs + 1, Fld.sub i, none⟩ (U i))) :=
        Lib.hid ⟨i + 1, hlt, rfl, h2, hkeep.setCell (p := ⟨gs + 1, Fld.sub i, none⟩) (fun h => absurd rfl h) _⟩
      clear hrow hkeep h2 hi hlt
      generalize (Fld.backL i).getD (Fld.sub i) 0 = old at *
      generalize Fld.sub i = x at *
      go_wp2
      go_roundw
      case rel => exact Hnx.out
      case measure => simp [intOf]; omega
    · obtain rfl : i = 256 := by omega
      rw [Fld.backL_end] at hrow
      have hlt' : ¬ ((256 : Nat) : Int) < 256 := by decide
      have hbz := Fld.backsT_length
      have hres := Hr2.out.keep hkeep (by omega)
      have hB := ((Keep.below (S := fun _ => True) Hk2.out).on hkeep (fun k _ hl => by omega)).toBelow (fun _ _ => trivial)
      have Hres := Lib.hid hres
      have HB := Lib.hid hB
      have Hrow := Lib.hid hrow
      clear hres hB hrow hkeep
      go_wp2_with (first | (refine wpList_load_row rfl 47 _ rfl (gs + 1) rfl 47 _ _ _ Hrow.out Try.underlying47 rfl (by rw [Bs.size, hbz]; exact Tab.info256) ?_) | (refine wpList_store_row rfl 47 _ _ rfl w.heap.size (Bs.vals Fld.backsT) rfl rfl 47 _ Hres.out (by rw [Bs.size, hbz]; exact Tab.info256) (by rw [Bs.size, Bs.size, List.length_replicate, hbz]) (Bs.one _) ?_))
      exact bodyPost_ret (v := .agg (Bs.vals Fld.backsT)) (results_cell_row rfl _ _ _ _ _ _ _ rfl (setRow_heap wr w.heap.size _ (Bs.vals Fld.backsT) 47 (0, 0) Hres.out) Try.underlying47 rfl (by rw [Bs.size, hbz]; exact Tab.info256)) rfl ⟨rfl, below_setRow HB.out (Nat.le_refl _) _⟩

theorem mulNat (a x : Nat) (ha : a < 256) (hx : x < 256) (w : World) :
    Calls Try.prog 36 #[.int .u8 a, .int .u8 x] w fun e w' => e = .returned (.int .u8 ((Fld.mul a x : Nat) : Int)) ∧ w' = w := by
  have h := refMul_nat a x ha hx w
  rw [Fld.rmul_eq a x hx] at h
  exact h.mono fun e w' h => ⟨h.1, h.2.symm⟩

end Go.Proofs.Ytkodfifmfpdjoaa
