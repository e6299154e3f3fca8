/-
  The contract of field.Mul: a loop over the iterator field.steps.
-/
import Derived.Test.YtgcfaeipiiagdaaFldB
namespace Go.Proofs.Ytgcfaeipiiagdaa
open Go.RowKit Go.Shelf
attribute [local go_sem] Oper.semAt_some

namespace Fld
def acc (xs : List (Nat × Bool)) (o : Nat) : Nat := xs.foldl (fun o x => if x.2 then o ^^^ x.1 else o) o
theorem acc_snoc (xs : List (Nat × Bool)) (x : Nat × Bool) (o : Nat) : acc (xs ++ [x]) o = if x.2 then acc xs o ^^^ x.1 else acc xs o := by simp [acc]
theorem acc_steps : ∀ (k a b o : Nat), acc (steps k a b) o = mulGo k a b o
  | 0, _, _, _ => rfl
  | k + 1, a, b, o => by
    by_cases h : b = 0
    · subst h; rw [steps_nil]; simp [acc, mulGo]
    · rw [steps_cons _ _ _ h, mulGo, if_neg h, ← acc_steps k]
      simp [acc]
theorem steps_lt : ∀ (k a b : Nat), a < 256 → ∀ x ∈ steps k a b, x.1 < 256
  | 0, _, _, _, x, h => by simp [steps] at h
  | k + 1, a, b, ha, x, h => by
    by_cases h0 : b = 0
    · subst h0; rw [steps_nil] at h; simp at h
    · rw [steps_cons _ _ _ h0] at h
      rcases List.mem_cons.1 h with rfl | h
      · exact ha
      · exact steps_lt k _ _ (dbl_lt a ha) x h
theorem acc_lt (xs : List (Nat × Bool)) (h : ∀ x ∈ xs, x.1 < 256) (o : Nat) (ho : o < 256) : acc xs o < 256 := by
  induction xs generalizing o with
  | nil => exact ho
  | cons x xs ih =>
    refine ih (fun y hy => h y (List.mem_cons_of_mem _ hy)) _ ?_
    have := h x (List.mem_cons_self ..)
    dsimp only
    split
    · exact Nat.xor_lt_two_pow (n := 8) ho this
    · exact ho
end Fld

/-- What holds of Mul's own result variable between two rounds. -/
def MulAt (w : World) (pre : List (Nat × Bool)) (W : World) : Prop :=
  W.cell? ⟨w.heap.size, 0, none⟩ = some (.int .u8 (Fld.acc pre 0 : Nat)) ∧ W.frozen? ⟨w.heap.size, 0, none⟩ = false ∧ Below w.heap.size w W

theorem MulAt_stable (w : World) (S : Nat → Prop) (hS : S w.heap.size) (hs : ∀ k, k < w.heap.size → S k) : Stable S (MulAt w) := fun _ _ _ hi hk =>
  ⟨hk.cell (p := ⟨w.heap.size, 0, none⟩) hS hi.1, (hk.frozen (p := ⟨w.heap.size, 0, none⟩) hS hi.1).trans hi.2.1,
    ⟨hk.os.trans hi.2.2.os, hk.tape.trans hi.2.2.tape, hk.output.trans hi.2.2.output, Nat.le_trans hi.2.2.size hk.size, fun k hkk => (hk.block k (hs k hkk) (Nat.lt_of_lt_of_le hkk hi.2.2.size)).trans (hi.2.2.block k hkk)⟩⟩

theorem MulAt_store {w W : World} {pre : List (Nat × Bool)} {x : Nat × Bool} (h : MulAt w pre W) (v : Int) (hv : v = ((Fld.acc (pre ++ [x]) 0 : Nat) : Int)) :
    Keep (fun k => ¬ k = w.heap.size) W (W.setCell ⟨w.heap.size, 0, none⟩ (.int .u8 v)) ∧ MulAt w (pre ++ [x]) (W.setCell ⟨w.heap.size, 0, none⟩ (.int .u8 v)) := by
  obtain ⟨h1, h2, h3⟩ := h
  subst hv
  exact ⟨(Keep.refl _ _).setCell (fun hn => absurd rfl hn) _, World.cell?_setCell_same' _ _ _ (by rw [h1]; rfl), (World.frozen?_setCell _ _ _ _).trans h2, h3.setCell (p := ⟨w.heap.size, 0, none⟩) (Nat.le_refl _) _⟩

theorem three_boxes (w : World) (t : TypeId) (x y z : Int) :
    ∃ w3, ((w.alloc (.cells #[.int .u8 x] t)).alloc (.cells #[.int .u8 y] t)).alloc (.cells #[.int .u8 z] t) = w3 ∧ w3.heap.size = w.heap.size + 3 ∧ Below w.heap.size w w3 ∧
      (w3.cell? ⟨w.heap.size, 0, none⟩ = some (.int .u8 x) ∧ w3.frozen? ⟨w.heap.size, 0, none⟩ = false) ∧
      (w3.cell? ⟨w.heap.size + 1, 0, none⟩ = some (.int .u8 y) ∧ w3.frozen? ⟨w.heap.size + 1, 0, none⟩ = false) ∧
      (w3.cell? ⟨w.heap.size + 1 + 1, 0, none⟩ = some (.int .u8 z) ∧ w3.frozen? ⟨w.heap.size + 1 + 1, 0, none⟩ = false) := by
  refine ⟨_, rfl, by simp, (((Below.refl _ _).alloc (Nat.le_refl _) _).alloc (by simp) _).alloc (by simp; omega) _, ⟨?_, ?_⟩, ⟨?_, ?_⟩, ⟨?_, ?_⟩⟩ <;> go_simp

set_option maxRecDepth 100000 in
set_option maxHeartbeats 1000000 in
theorem mul_any (a b : Int) (ha0 : 0 ≤ a) (ha : a ≤ 255) (hb0 : 0 ≤ b) (hb : b ≤ 255) (w : World) :
    Calls Try.prog 74 #[.int .u8 a, .int .u8 b] w fun e w' => e = .returned (.int .u8 ((Fld.mul a.toNat b.toNat : Nat) : Int)) ∧ Below w.heap.size w w' := by
  obtain ⟨a, rfl⟩ := Int.eq_ofNat_of_zero_le ha0
  obtain ⟨b, rfl⟩ := Int.eq_ofNat_of_zero_le hb0
  rw [Int.toNat_natCast, Int.toNat_natCast]
  refine (callsIn_wide (n := 9)).1 ?_
  refine callsIn_of_wp_marks Try.func74 rfl trivial ?_ rfl
  simp only [Try.ntmps74, List.size_toArray, List.length_cons, List.length_nil, Nat.reduceAdd, Nat.reduceSub, Array.replicate_succ, Array.replicate_zero, List.push_toArray, List.append_toArray, List.nil_append, List.cons_append]
  gi_wp2_with (refine ⟨trivial, ?_⟩; gi_at_call 83; refine (callsIn_wide.2 (steps_any _ _ _)).mono ?_; rintro e w' ⟨rfl, rfl⟩)
  -- the boxes of the iterator's two variables
  obtain ⟨w3, hw3, hz3, hB3, ⟨hco, hfo⟩, ⟨hca, hfa⟩, ⟨hcb, hfb⟩⟩ := three_boxes w 5 0 a b
  rw [hw3]
  clear hw3
  refine wp_range (n := 9) (gf := 84) (lb := #[.pointer (some ⟨w.heap.size + 1 + 1, 0, none⟩), .pointer (some ⟨w.heap.size + 1, 0, none⟩)]) rfl
    (enters_of Try.func84 (by kernel_rfl) rfl)
    (steps1_seq a b (by omega) (by omega) (w.heap.size + 1) (w.heap.size + 1 + 1) (by omega) w3 hca hfa hcb hfb)
    (by omega) (by omega) (fun _ => rfl) (fun k => k = w.heap.size) (by omega) (MulAt w) (fun _ _ _ => False)
    (MulAt_stable w _ (by omega) (by intro k hk; omega))
    (fun _ _ _ _ hs _ => hs) ⟨hco, hfo, hB3⟩ ?body ?done ?stop
  case body =>
    intro l pre x rest W hxs hz hi
    obtain ⟨x1, x2⟩ := x
    have hx1 : x1 < 256 := Fld.steps_lt 8 a b (by omega) (x1, x2) (by rw [hxs]; simp)
    have hacc : Fld.acc pre 0 < 256 := Fld.acc_lt pre (fun y hy => Fld.steps_lt 8 a b (by omega) y (by rw [hxs]; simp [hy])) 0 (by decide)
    gi_wp2
    refine ⟨Keep.refl _ _, fun W3 hk hzz => ?_⟩
    have hi3 : MulAt w pre W3 := MulAt_stable w _ (by omega) (by intro k hk; omega) _ _ _ hi hk
    have hx : bits BinOp.xor IntKind.u8 (Fld.acc pre 0 : Nat) (x1 : Int) = ((Fld.acc pre 0 ^^^ x1 : Nat) : Int) := u8_xor_nat _ _ hacc hx1
    have hc := hi3.1
    have hf := hi3.2.1
    have hs := MulAt_store (x := (x1, true)) hi3 ((Fld.acc pre 0 ^^^ x1 : Nat) : Int) (by rw [Fld.acc_snoc]; rfl)
    have hs0 : MulAt w (pre ++ [(x1, false)]) W3 := by
      refine ⟨?_, hi3.2⟩
      rw [Fld.acc_snoc]; exact hi3.1
    have Hs := Lib.hid hs
    have Hs0 := Lib.hid hs0
    clear hs hs0
    cases x2
    · gi_wp2
      exact ⟨Keep.refl _ _, Hs0.out⟩
    · gi_wp2
      exact Hs.out
  case done =>
    rintro W ⟨hc, hf, hB⟩ hz hK
    gi_wp2
    refine ⟨by simp, .inl ⟨_, _, rfl, run_takeDeferred (heap_setCell_other hK _ (by dsimp only; omega) _), ?_⟩⟩
    have hc5 := cell_putObj (World.cell?_setCell_same' W ⟨w.heap.size, 0, none⟩ (.int .u8 ((Fld.acc (Fld.steps 8 a b) 0 : Nat) : Int)) (by rw [hc]; rfl)) (l := w3.heap.size) (by dsimp only; omega) (.deferred none)
    refine ⟨.int .u8 ((Fld.acc (Fld.steps 8 a b) 0 : Nat) : Int), ?_, ?_, ?_⟩
    · simp [results, Try.f74, go_sem, hc5]
    · rw [Fld.acc_steps]; rfl
    · exact below_putObj (hB.setCell (p := ⟨w.heap.size, 0, none⟩) (Nat.le_refl _) _) (by omega) _
  case stop =>
    intro c pre suf W _ h
    exact h.elim

end Go.Proofs.Ytgcfaeipiiagdaa
