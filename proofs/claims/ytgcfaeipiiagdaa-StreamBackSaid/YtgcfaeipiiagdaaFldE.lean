/-
  Contracts of field.mix, Mix, Unmix.
-/
import Derived.Test.YtgcfaeipiiagdaaFldD
import Derived.Test.YtgcfaeipiiagdaaMem
import Derived.Deep.RegionHeld3
import Derived.Deep.DeepCutAuto
namespace Go.Proofs.Ytgcfaeipiiagdaa
open Go.RowKit

namespace Fld
def term (c by_ : List Nat) (i k : Nat) : Nat := mul (by_.getD k 0) (c.getD ((i + k) % 4) 0)
/-- The exclusive or of the first k products for place i. -/
def rowTo (c by_ : List Nat) (i : Nat) : Nat → Nat
  | 0 => 0
  | k + 1 => rowTo c by_ i k ^^^ term c by_ i k
/-- The result's cells where row i has got k of its products. -/
def outAt (c by_ : List Nat) (i k : Nat) : List Nat := (List.range 4).map fun j => if j < i then rowTo c by_ j 4 else if j = i then rowTo c by_ i k else 0
def mixL (c by_ : List Nat) : List Nat := (List.range 4).map fun j => rowTo c by_ j 4

def Bytes (l : List Nat) : Prop := ∀ k, l.getD k 0 < 256
theorem term_lt {c by_ : List Nat} (hb : Bytes by_) (i k : Nat) : term c by_ i k < 256 := mul_lt _ _ (hb k)
theorem rowTo_lt {c by_ : List Nat} (hb : Bytes by_) (i : Nat) : ∀ k, rowTo c by_ i k < 256
  | 0 => by simp [rowTo]
  | k + 1 => Nat.xor_lt_two_pow (n := 8) (rowTo_lt hb i k) (term_lt hb i k)
theorem outAt_full (c by_ : List Nat) (i : Nat) : outAt c by_ i 4 = outAt c by_ (i + 1) 0 := by
  unfold outAt
  refine List.map_congr_left fun j _ => ?_
  by_cases h1 : j < i
  · rw [if_pos h1, if_pos (by omega)]
  · by_cases h2 : j = i
    · subst h2; rw [if_neg h1, if_pos rfl, if_pos (by omega)]
    · rw [if_neg h1, if_neg h2, if_neg (by omega)]
      split
      · rfl
      · rfl
theorem outAt_end (c by_ : List Nat) : outAt c by_ 4 0 = mixL c by_ := by
  unfold outAt mixL
  refine List.map_congr_left fun j hj => ?_
  rw [if_pos (by simpa using hj)]
theorem outAt_get (c by_ : List Nat) {i k : Nat} (hi : i < 4) : ((outAt c by_ i k).map U).toArray[i]? = some (U (rowTo c by_ i k)) := by
  simp [outAt, hi]
theorem outAt_set (c by_ : List Nat) {i k : Nat} (_ : i < 4) : ((outAt c by_ i k).map U).toArray.setIfInBounds i (U (rowTo c by_ i (k + 1))) = ((outAt c by_ i (k + 1)).map U).toArray := by
  apply Array.ext'
  apply List.ext_getElem
  · simp [outAt]
  · intro j h1 h2
    simp only [outAt, Array.toList_setIfInBounds, List.length_map, List.length_range] at h1 h2
    simp only [outAt, Array.toList_setIfInBounds, List.getElem_set, List.getElem_map, List.getElem_range]
    by_cases h : i = j
    · subst h; simp
    · rw [if_neg h, if_neg (Ne.symm h), if_neg (Ne.symm h)]
end Fld

/-- Where mix stands: the three arrays in memory. -/
def MixAt (c by_ : List Nat) (w : World) (i k : Nat) (wr : World) : Prop :=
  Row wr w.heap.size 88 (c.map U).toArray ∧ Row wr (w.heap.size + 1) 88 (by_.map U).toArray ∧
  Row wr (w.heap.size + 1 + 1) 88 ((Fld.outAt c by_ i k).map U).toArray ∧ Below w.heap.size w wr

def MixOuter (c by_ : List Nat) (w : World) (vi : Value) (wr : World) : Prop := ∃ i : Nat, i ≤ 4 ∧ vi = .int .i64 i ∧ MixAt c by_ w i 0 wr
def MixInner (c by_ : List Nat) (w : World) (i : Nat) (vk : Value) (wr : World) : Prop := ∃ k : Nat, k ≤ 4 ∧ vk = .int .i64 k ∧ MixAt c by_ w i k wr

theorem MixAt.next {c by_ : List Nat} {w wr w1 : World} {i k : Nat} (hi : i < 4) (h : MixAt c by_ w i k wr) (hb : Below wr.heap.size wr w1) :
    MixAt c by_ w i (k + 1) (w1.setCell ⟨w.heap.size + 1 + 1, i, none⟩ (U (Fld.rowTo c by_ i (k + 1)))) := by
  obtain ⟨h1, h2, h3, h4⟩ := h
  refine ⟨(h1.below hb h1.lt).other (by dsimp only; omega) _, (h2.below hb h2.lt).other (by dsimp only; omega) _, ?_, (h4.trans (hb.mono h4.size)).setCell (p := ⟨w.heap.size + 1 + 1, i, none⟩) (by dsimp only; omega) _⟩
  rw [← Fld.outAt_set c by_ hi]
  exact (h3.below hb h3.lt).store i _

theorem index4 (x0 x1 x2 x3 k : Nat) (hk : k < 4) (w : World) :
    (Instr.index 88 (.agg #[U x0, U x1, U x2, U x3]) (.int .i64 (k : Int))).run Try.prog w = .ok (U ([x0, x1, x2, x3].getD k 0)) w := by
  rcases k with _ | _ | _ | _ | k
  · kernel_rfl
  · kernel_rfl
  · kernel_rfl
  · kernel_rfl
  · omega

set_option maxRecDepth 100000 in
set_option maxHeartbeats 4000000 in
theorem mix_any (c0 c1 c2 c3 b0 b1 b2 b3 : Nat) (hc : Fld.Bytes [c0, c1, c2, c3]) (hb : Fld.Bytes [b0, b1, b2, b3]) (w : World) :
    Calls Try.prog 64 #[.agg #[U c0, U c1, U c2, U c3], .agg #[U b0, U b1, U b2, U b3]] w fun e w' =>
      e = .returned (.agg ((Fld.mixL [c0, c1, c2, c3] [b0, b1, b2, b3]).map U).toArray) ∧ Below w.heap.size w w' := by
  go_enter Try.func64, Try.ntmps64
  go_wp2
  go_loopw [8] (fun vi wr => MixOuter [c0, c1, c2, c3] [b0, b1, b2, b3] w vi wr) (fun vi _ => 4 - (intOf vi).toNat)
  case atStart =>
    refine ⟨0, by decide, rfl, ?_, ?_, ?_, ?_⟩
    · exact ((Row.new _ _ _).alloc _).alloc _
    · have := (Row.new (w.alloc (.cells #[U c0, U c1, U c2, U c3] 88)) 88 #[U b0, U b1, U b2, U b3]).alloc (.cells #[U 0, U 0, U 0, U 0] 88)
      rw [World.size_alloc] at this
      exact this
    · have := Row.new ((w.alloc (.cells #[U c0, U c1, U c2, U c3] 88)).alloc (.cells #[U b0, U b1, U b2, U b3] 88)) 88 #[U 0, U 0, U 0, U 0]
      rw [World.size_alloc, World.size_alloc] at this
      exact this
    · exact (((Below.refl _ _).alloc (Nat.le_refl _) _).alloc (by simp) _).alloc (by simp; omega) _
  case round =>
    obtain ⟨i, hi, rfl, hat⟩ := hrel
    by_cases hlt : i < 4
    · have hB := hat.2.2.2
      have hi1 : (i : Int) < 4 := by omega
      have q0 : wr.cell? ⟨w.heap.size + 1, 0, none⟩ = some (U b0) := hat.2.1.cell 0
      have q1 : wr.cell? ⟨w.heap.size + 1, 1, none⟩ = some (U b1) := hat.2.1.cell 1
      have q2 : wr.cell? ⟨w.heap.size + 1, 2, none⟩ = some (U b2) := hat.2.1.cell 2
      have q3 : wr.cell? ⟨w.heap.size + 1, 3, none⟩ = some (U b3) := hat.2.1.cell 3
      go_wp2
      clear q0 q1 q2 q3
      go_loopw [12] (fun vk wr => MixInner [c0, c1, c2, c3] [b0, b1, b2, b3] w i vk wr) (fun vk _ => 4 - (intOf vk).toNat)
      case atStart => exact ⟨0, by decide, rfl, hat⟩
      case round =>
        clear hat hB
        obtain ⟨k, hk, rfl, hat⟩ := hrel
        by_cases hltk : k < 4
        · have hco : wr.cell? ⟨w.heap.size + 1 + 1, i, none⟩ = some (U (Fld.rowTo [c0, c1, c2, c3] [b0, b1, b2, b3] i k)) := (hat.2.2.1.cell i).trans (Fld.outAt_get _ _ hlt)
          have hfo : wr.frozen? ⟨w.heap.size + 1 + 1, i, none⟩ = false := hat.2.2.1.frozen i
          have hcv : ((i + k) % 4) < 4 := Nat.mod_lt _ (by decide)
          have hcc : wr.cell? ⟨w.heap.size, (i + k) % 4, none⟩ = some (U ([c0, c1, c2, c3].getD ((i + k) % 4) 0)) := by
            refine (hat.1.cell _).trans ?_
            generalize (i + k) % 4 = m at hcv
            rcases m with _ | _ | _ | _ | m <;> first | rfl | omega
          have hcm := hc ((i + k) % 4)
          have hz1 : w.heap.size < wr.heap.size := hat.1.lt
          have hz2 : w.heap.size + 1 + 1 < wr.heap.size := hat.2.2.1.lt
          have hrow := Fld.rowTo_lt (c := [c0, c1, c2, c3]) hb i k
          have hbk := hb k
          have hx : bits BinOp.xor IntKind.u8 ((Fld.rowTo [c0, c1, c2, c3] [b0, b1, b2, b3] i k : Nat) : Int) ((Fld.mul ([b0, b1, b2, b3].getD k 0) ([c0, c1, c2, c3].getD ((i + k) % 4) 0) : Nat) : Int) =
              ((Fld.rowTo [c0, c1, c2, c3] [b0, b1, b2, b3] i (k + 1) : Nat) : Int) := u8_xor_nat _ _ hrow (Fld.mul_lt _ _ hbk)
          have hfin := fun (w1 : World) (h : Below wr.heap.size wr w1) => MixAt.next hlt hat h
          have Hfin := Lib.hid hfin
          clear hfin hat
          have hcall := fun W => mul_nat ([b0, b1, b2, b3].getD k 0) ([c0, c1, c2, c3].getD ((i + k) % 4) 0) hbk hcm W
          have Hcall := Lib.hid hcall
          clear hcall
          have hidx := index4 b0 b1 b2 b3 k hltk wr
          have hsum : IntKind.i64.wrap ((i : Int) + (k : Int)) = (i : Int) + (k : Int) := IntWalk.i64_in _ (by omega)
          have hrem : ((i : Int) + (k : Int)).tmod 4 = (((i + k) % 4 : Nat) : Int) := by rw [Int.tmod_eq_emod_of_nonneg (by omega)]; omega
          have hwr : IntKind.i64.wrap (((i + k) % 4 : Nat) : Int) = (((i + k) % 4 : Nat) : Int) := IntWalk.i64_in _ (by omega)
          generalize [c0, c1, c2, c3].getD ((i + k) % 4) 0 = cv at *
          generalize [b0, b1, b2, b3].getD k 0 = bk at *
          generalize (i + k) % 4 = m at *
          generalize Fld.rowTo [c0, c1, c2, c3] [b0, b1, b2, b3] i k = ok at *
          generalize Fld.rowTo [c0, c1, c2, c3] [b0, b1, b2, b3] i (k + 1) = ok' at *
          have hm1 : (m : Int) < 4 := by omega
          have hm0 : 0 ≤ (m : Int) := by omega
          go_wp2
          go_region_with (go_at_call 74; refine (Hcall.out _).mono ?_; rintro e w1 ⟨rfl, hb1⟩; have k1 := (hb1.cell (p := ⟨w.heap.size + 1 + 1, i, none⟩) hz2).trans hco; have k2 := (hb1.frozen (p := ⟨w.heap.size + 1 + 1, i, none⟩) hz2).trans hfo)
          all_goals go_wp2
          all_goals
            go_roundw
            case rel => exact ⟨k + 1, hltk, by go_num, Hfin.out w1 ((Below.refl _ _).drew.trans hb1)⟩
            case measure => simp [intOf]; omega
        · obtain rfl : k = 4 := by omega
          have hnext : Hid (MixOuter [c0, c1, c2, c3] [b0, b1, b2, b3] w (.int .i64 ((i : Int) + 1)) wr) := ⟨i + 1, hlt, rfl, by
            have h := hat
            unfold MixAt at h ⊢
            rw [← Fld.outAt_full]; exact h⟩
          go_wp2
          go_roundw
          case rel => exact hnext.out
          case measure => simp [intOf]; omega
    · obtain rfl : i = 4 := by omega
      have hat' := hat
      unfold MixAt at hat'
      rw [Fld.outAt_end] at hat'
      obtain ⟨-, -, hr, hB⟩ := hat'
      clear hat
      obtain ⟨m0, m1, m2, m3, hm⟩ : ∃ m0 m1 m2 m3, Fld.mixL [c0, c1, c2, c3] [b0, b1, b2, b3] = [m0, m1, m2, m3] := ⟨_, _, _, _, rfl⟩
      rw [hm] at hr
      have Hm := Lib.hid hm
      clear hm
      have q0 : wr.cell? ⟨w.heap.size + 1 + 1, 0, none⟩ = some (U m0) := hr.cell 0
      have q1 : wr.cell? ⟨w.heap.size + 1 + 1, 1, none⟩ = some (U m1) := hr.cell 1
      have q2 : wr.cell? ⟨w.heap.size + 1 + 1, 2, none⟩ = some (U m2) := hr.cell 2
      have q3 : wr.cell? ⟨w.heap.size + 1 + 1, 3, none⟩ = some (U m3) := hr.cell 3
      have f0 := hr.frozen 0
      have f1 := hr.frozen 1
      have f2 := hr.frozen 2
      have f3 := hr.frozen 3
      have Hr := Lib.hid hr
      clear hr
      go_wp2
      have hr4 := (((Hr.out.store 0 (U m0)).store 1 (U m1)).store 2 (U m2)).store 3 (U m3)
      refine bodyPost_ret (v := .agg #[U m0, U m1, U m2, U m3]) (results_cell_row rfl _ _ _ _ _ _ _ rfl hr4 Try.underlying88 rfl (by kernel_rfl)) rfl ⟨?_, ?_⟩
      · rw [Hm.out]; rfl
      · exact (((hB.setCell (p := ⟨w.heap.size + 1 + 1, 0, none⟩) (by dsimp only; omega) _).setCell (p := ⟨w.heap.size + 1 + 1, 1, none⟩) (by dsimp only; omega) _).setCell (p := ⟨w.heap.size + 1 + 1, 2, none⟩) (by dsimp only; omega) _).setCell (p := ⟨w.heap.size + 1 + 1, 3, none⟩) (by dsimp only; omega) _

/-- Place j of what is mixed, and of what is unmixed. -/
def Fld.mx (c : List Nat) (j : Nat) : Nat := Fld.rowTo c [2, 3, 1, 1] j 4
def Fld.ux (c : List Nat) (j : Nat) : Nat := Fld.rowTo c [14, 11, 13, 9] j 4

theorem Fld.mixBy : Fld.Bytes [2, 3, 1, 1] ∧ Fld.Bytes [14, 11, 13, 9] := by
  constructor <;> (intro k; rcases k with _ | _ | _ | _ | k <;> simp)
theorem Fld.mx_lt (c : List Nat) (j : Nat) : Fld.mx c j < 256 := Fld.rowTo_lt Fld.mixBy.1 j 4
theorem Fld.ux_lt (c : List Nat) (j : Nat) : Fld.ux c j < 256 := Fld.rowTo_lt Fld.mixBy.2 j 4
theorem Fld.bytes4 {a b c d : Nat} (ha : a < 256) (hb : b < 256) (hc : c < 256) (hd : d < 256) : Fld.Bytes [a, b, c, d] := by
  intro k; rcases k with _ | _ | _ | _ | k <;> simp <;> assumption
theorem Fld.mx_bytes (c : List Nat) : Fld.Bytes [Fld.mx c 0, Fld.mx c 1, Fld.mx c 2, Fld.mx c 3] := Fld.bytes4 (Fld.mx_lt c 0) (Fld.mx_lt c 1) (Fld.mx_lt c 2) (Fld.mx_lt c 3)
theorem Fld.ux_bytes (c : List Nat) : Fld.Bytes [Fld.ux c 0, Fld.ux c 1, Fld.ux c 2, Fld.ux c 3] := Fld.bytes4 (Fld.ux_lt c 0) (Fld.ux_lt c 1) (Fld.ux_lt c 2) (Fld.ux_lt c 3)

theorem row_four {w1 : World} {g : Nat} {t : TypeId} {x0 x1 x2 x3 : Value} (hr : Row w1 g t #[x0, x1, x2, x3]) :
    (w1.cell? ⟨g, 0, none⟩ = some x0 ∧ w1.cell? ⟨g, 1, none⟩ = some x1 ∧ w1.cell? ⟨g, 2, none⟩ = some x2 ∧ w1.cell? ⟨g, 3, none⟩ = some x3) ∧
    (w1.frozen? ⟨g, 0, none⟩ = false ∧ w1.frozen? ⟨g, 1, none⟩ = false ∧ w1.frozen? ⟨g, 2, none⟩ = false ∧ w1.frozen? ⟨g, 3, none⟩ = false) :=
  ⟨⟨hr.cell 0, hr.cell 1, hr.cell 2, hr.cell 3⟩, hr.frozen 0, hr.frozen 1, hr.frozen 2, hr.frozen 3⟩

set_option maxRecDepth 100000 in
set_option maxHeartbeats 1000000 in
theorem Mix_any (c0 c1 c2 c3 : Nat) (hc : Fld.Bytes [c0, c1, c2, c3]) (w : World) :
    Calls Try.prog 55 #[.agg #[U c0, U c1, U c2, U c3]] w fun e w' =>
      e = .returned (.agg #[U (Fld.mx [c0, c1, c2, c3] 0), U (Fld.mx [c0, c1, c2, c3] 1), U (Fld.mx [c0, c1, c2, c3] 2), U (Fld.mx [c0, c1, c2, c3] 3)]) ∧ Below w.heap.size w w' := by
  go_enter Try.func55, Try.ntmps55
  go_wp2_with fail
  refine (mix_any c0 c1 c2 c3 2 3 1 1 hc Fld.mixBy.1 _).mono ?_
  rintro e w1 ⟨he, hb1⟩
  obtain rfl : e = .returned (.agg #[U (Fld.mx [c0, c1, c2, c3] 0), U (Fld.mx [c0, c1, c2, c3] 1), U (Fld.mx [c0, c1, c2, c3] 2), U (Fld.mx [c0, c1, c2, c3] 3)]) := he
  have hb0 : Below w.heap.size w w1 := (((Below.refl _ _).alloc (Nat.le_refl _) _).alloc (by simp) _).trans (hb1.mono (by simp; omega))
  have hr : Row w1 (w.heap.size + 1) 88 #[U 0, U 0, U 0, U 0] := by
    have h := Row.new (w.alloc (Obj.cells #[U c0, U c1, U c2, U c3] 88)) 88 #[U 0, U 0, U 0, U 0]
    rw [World.size_alloc] at h
    exact h.below hb1 (by simp)
  obtain ⟨⟨q0, q1, q2, q3⟩, f0, f1, f2, f3⟩ := row_four hr
  have Hr := Lib.hid hr
  have Hb0 := Lib.hid hb0
  clear hr hb1 hb0
  go_wp2
  have hr4 := (((Hr.out.store 0 (U (Fld.mx [c0, c1, c2, c3] 0))).store 1 (U (Fld.mx [c0, c1, c2, c3] 1))).store 2 (U (Fld.mx [c0, c1, c2, c3] 2))).store 3 (U (Fld.mx [c0, c1, c2, c3] 3))
  refine bodyPost_ret (v := .agg #[U (Fld.mx [c0, c1, c2, c3] 0), U (Fld.mx [c0, c1, c2, c3] 1), U (Fld.mx [c0, c1, c2, c3] 2), U (Fld.mx [c0, c1, c2, c3] 3)]) (results_cell_row rfl _ _ _ _ _ _ _ rfl hr4 Try.underlying88 rfl (by kernel_rfl)) rfl ⟨rfl, ?_⟩
  exact (((Hb0.out.setCell (p := ⟨w.heap.size + 1, 0, none⟩) (by dsimp only; omega) _).setCell (p := ⟨w.heap.size + 1, 1, none⟩) (by dsimp only; omega) _).setCell (p := ⟨w.heap.size + 1, 2, none⟩) (by dsimp only; omega) _).setCell (p := ⟨w.heap.size + 1, 3, none⟩) (by dsimp only; omega) _

end Go.Proofs.Ytgcfaeipiiagdaa
