/-
  Contracts of field.steps (an iterator whose two variables live in memory) and field.Mul.
-/
import Derived.Test.YtgcfaeipiiagdaaFldA
import Derived.Test.YtgcfaeipiiagdaaRf
import Derived.Shelf.Abstract
import Derived.Shelf.RegionOpen
import Derived.OwnWalkIn
import Derived.TacticsInMore
import Derived.LoopNIn
import Derived.LoopIn
namespace Go.Proofs.Ytgcfaeipiiagdaa
open Go.RowKit Go.Shelf
attribute [local go_sem] Oper.semAt_some

/-- What the iterator hands out: the byte times powers of x, and whether each power is in the other byte. -/
def Fld.steps : Nat → Nat → Nat → List (Nat × Bool)
  | 0, _, _ => []
  | k + 1, a, b => if b = 0 then [] else (a, decide (b % 2 = 1)) :: Fld.steps k (Fld.dbl a) (b / 2)

theorem steps_any (a b : Int) (w : World) :
    Calls Try.prog 83 #[.int .u8 a, .int .u8 b] w fun e w' =>
      e = .returned (.func (.func 84) #[] #[.pointer (some ⟨w.heap.size + 1, 0, none⟩), .pointer (some ⟨w.heap.size, 0, none⟩)]) ∧
      w' = (w.alloc (.cells #[.int .u8 a] 5)).alloc (.cells #[.int .u8 b] 5) := by
  go_enter Try.func83, Try.ntmps83
  go_wp2
  go_ret
  exact ⟨rfl, rfl⟩

theorem Fld.steps_cons (k a b : Nat) (hb : b ≠ 0) : Fld.steps (k + 1) a b = (a, decide (b % 2 = 1)) :: Fld.steps k (Fld.dbl a) (b / 2) := by
  rw [Fld.steps, if_neg hb]
theorem Fld.steps_nil (k a : Nat) : Fld.steps k a 0 = [] := by cases k <;> simp [Fld.steps]

abbrev Fld.encs (x : Nat × Bool) : Array Value := #[.int .u8 (x.1 : Int), .bool x.2]

/-- Where the iterator stands at the head of a round. -/
def StepsAt (J : List (Nat × Bool) → World → Prop) (xs : List (Nat × Bool)) (Ba Bb : Nat) (wr : World) : Prop :=
  ∃ (pre : List (Nat × Bool)) (k a b : Nat), xs = pre ++ Fld.steps k a b ∧ a < 256 ∧ b < 2 ^ k ∧ k ≤ 8 ∧ J pre wr ∧
    wr.cell? ⟨Ba, 0, none⟩ = some (.int .u8 a) ∧ wr.frozen? ⟨Ba, 0, none⟩ = false ∧ wr.cell? ⟨Bb, 0, none⟩ = some (.int .u8 b) ∧ wr.frozen? ⟨Bb, 0, none⟩ = false

def StepsLeft (Bb : Nat) (wr : World) : Nat := (intOf ((wr.cell? ⟨Bb, 0, none⟩).getD undef)).toNat

theorem StepsLeft_eq {Bb : Nat} {wr : World} {b : Nat} (h : wr.cell? ⟨Bb, 0, none⟩ = some (.int .u8 b)) : StepsLeft Bb wr = b := by
  unfold StepsLeft; rw [h]; rfl

theorem StepsAt_next {J : List (Nat × Bool) → World → Prop} {xs pre : List (Nat × Bool)} {Ba Bb k a b : Nat} {c : Bool} {W : World} (hne : Ba ≠ Bb)
    (hJ : Stable (fun k => ¬ (k = Ba ∨ k = Bb)) J) (hxs : xs = pre ++ (a, c) :: Fld.steps k (Fld.dbl a) (b / 2)) (ha : a < 256) (hb : b / 2 < 2 ^ k) (hk : k + 1 ≤ 8) (hj : J (pre ++ [(a, c)]) W)
    (hca : W.cell? ⟨Ba, 0, none⟩ = some (.int .u8 a)) (hfa : W.frozen? ⟨Ba, 0, none⟩ = false) (hcb : W.cell? ⟨Bb, 0, none⟩ = some (.int .u8 b)) (hfb : W.frozen? ⟨Bb, 0, none⟩ = false) :
    StepsAt J xs Ba Bb ((W.setCell ⟨Ba, 0, none⟩ (.int .u8 (Fld.dbl a : Nat))).setCell ⟨Bb, 0, none⟩ (.int .u8 ((b : Int) / 2))).drew := by
  refine ⟨pre ++ [(a, c)], k, Fld.dbl a, b / 2, by rw [hxs]; simp, Fld.dbl_lt a ha, hb, by omega, ?_, ?_, ?_, ?_, ?_⟩
  · exact hJ _ _ _ hj ((((Keep.refl _ _).setCell (fun h => absurd (.inl rfl) h) _).setCell (fun h => absurd (.inr rfl) h) _).drew)
  · have := World.cell?_setCell_same' W ⟨Ba, 0, none⟩ (.int .u8 (Fld.dbl a : Nat)) (by rw [hca]; rfl)
    exact (World.cell?_of_block (Below.heap_setCell _ _ _ _ hne)).trans this
  · exact (World.frozen?_setCell _ _ _ _).trans ((World.frozen?_setCell _ _ _ _).trans hfa)
  · refine World.cell?_setCell_same' _ ⟨Bb, 0, none⟩ (.int .u8 ((b : Int) / 2)) ?_
    rw [show (W.setCell ⟨Ba, 0, none⟩ (.int .u8 (Fld.dbl a : Nat))).cell? ⟨Bb, 0, none⟩ = W.cell? ⟨Bb, 0, none⟩ from World.cell?_of_block (Below.heap_setCell _ _ _ _ (Ne.symm hne)), hcb]
    rfl
  · exact (World.frozen?_setCell _ _ _ _).trans ((World.frozen?_setCell _ _ _ _).trans hfb)

theorem StepsLeft_next {Ba Bb a b : Nat} {W wr : World} (hne : Ba ≠ Bb) (hl : StepsLeft Bb wr = b) (h0 : 0 < b) (hcb : W.cell? ⟨Bb, 0, none⟩ = some (.int .u8 b)) :
    StepsLeft Bb ((W.setCell ⟨Ba, 0, none⟩ (.int .u8 (Fld.dbl a : Nat))).setCell ⟨Bb, 0, none⟩ (.int .u8 ((b : Int) / 2))).drew < StepsLeft Bb wr := by
  rw [hl, StepsLeft_eq (b := b / 2)]
  · omega
  · refine World.cell?_setCell_same' _ ⟨Bb, 0, none⟩ (.int .u8 ((b : Int) / 2)) ?_
    rw [show (W.setCell ⟨Ba, 0, none⟩ (.int .u8 (Fld.dbl a : Nat))).cell? ⟨Bb, 0, none⟩ = W.cell? ⟨Bb, 0, none⟩ from World.cell?_of_block (Below.heap_setCell _ _ _ _ (Ne.symm hne)), hcb]
    rfl

set_option maxRecDepth 100000 in
set_option maxHeartbeats 1000000 in
theorem steps1_seq (a b : Nat) (ha : a < 256) (hb : b < 256) (Ba Bb : Nat) (hne : Ba ≠ Bb) (w : World)
    (hca : w.cell? ⟨Ba, 0, none⟩ = some (.int .u8 a)) (hfa : w.frozen? ⟨Ba, 0, none⟩ = false)
    (hcb : w.cell? ⟨Bb, 0, none⟩ = some (.int .u8 b)) (hfb : w.frozen? ⟨Bb, 0, none⟩ = false) :
    SeqK Try.prog 84 #[.pointer (some ⟨Bb, 0, none⟩), .pointer (some ⟨Ba, 0, none⟩)] Fld.encs (Fld.steps 8 a b)
      (fun k => k = Ba ∨ k = Bb) (fun k => k = Ba ∨ k = Bb) w := by
  intro l J Jx W hW hJ hJx hY h0
  have hca1 := hW.cell (p := ⟨Ba, 0, none⟩) (.inl rfl) hca
  have hfa1 := (hW.frozen (p := ⟨Ba, 0, none⟩) (.inl rfl) hca).trans hfa
  have hcb1 := hW.cell (p := ⟨Bb, 0, none⟩) (.inr rfl) hcb
  have hfb1 := (hW.frozen (p := ⟨Bb, 0, none⟩) (.inr rfl) hcb).trans hfb
  refine (callsIn_wide (n := 9)).1 ?_
  refine callsIn_of_wp Try.func84 rfl trivial ?_ rfl
  simp only [Try.ntmps84, List.size_toArray, List.length_cons, List.length_nil, Nat.reduceAdd, Nat.reduceSub, Array.replicate_succ, Array.replicate_zero, List.push_toArray, List.append_toArray, List.nil_append, List.cons_append]
  have hst : StepsAt J (Fld.steps 8 a b) Ba Bb W := ⟨[], 8, a, b, rfl, ha, hb, Nat.le_refl _, h0, hca1, hfa1, hcb1, hfb1⟩
  generalize Fld.steps 8 a b = xs at *
  clear hca hfa hcb hfb hca1 hfa1 hcb1 hfb1 h0 hW
  gi_wp2
  gi_loopw [4] (fun _ wr => StepsAt J xs Ba Bb wr) (fun _ wr => StepsLeft Bb wr)
  case atStart => exact hst
  case round =>
    clear hst
    obtain ⟨pre, k, a', b', hxs, ha', hb', hk8, hj, hca', hfa', hcb', hfb'⟩ := hrel
    have hm := Lib.hid (StepsLeft_eq hcb')
    by_cases hb0 : b' = 0
    · subst hb0
      have hxs' : Hid (xs = pre) := by rw [Fld.steps_nil, List.append_nil] at hxs; exact hxs
      clear hxs
      gi_wp2
      go_end0
      refine ⟨⟨_, rfl⟩, .inl ?_⟩
      rw [hxs'.out]; exact hj
    · obtain ⟨k, rfl⟩ : ∃ j, k = j + 1 := ⟨k - 1, by cases k with | zero => simp at hb'; omega | succ k => rfl⟩
      rw [Fld.steps_cons _ _ _ hb0] at hxs
      have hY1 := hY pre _ _ hxs wr hj
      have hxs' := Lib.hid hxs
      clear hxs
      have hb256 : b' < 256 := Nat.lt_of_lt_of_le hb' (Nat.pow_le_pow_right (by decide) hk8 : 2 ^ (k + 1) ≤ 2 ^ 8)
      have hb2 : Hid (b' / 2 < 2 ^ k) := by have : b' < 2 ^ k * 2 := by rw [← Nat.pow_succ]; exact hb'
                                            exact Nat.div_lt_of_lt_mul (by omega)
      have hpos : 0 < b' := Nat.pos_of_ne_zero hb0
      clear hb' hb0
      have hbit : bits BinOp.and IntKind.u8 (b' : Int) 1 = ((b' % 2 : Nat) : Int) := by
        have := u8_and_nat b' 1 hb256 (by decide)
        rw [show b' &&& 1 = b' % 2 from Nat.and_one_is_mod _] at this
        exact this
      rcases Nat.mod_two_eq_zero_or_one b' with h2 | h2
      all_goals
        rw [h2] at hbit
        have hd : decide (b' % 2 = 1) = decide ((b' % 2) = 1) := rfl
        rw [h2] at hY1 hxs'
        simp only [Nat.zero_ne_one, decide_false, decide_true] at hY1 hxs' hbit
        obtain ⟨fn, tmps, assign, body, hy, hR⟩ := hY1
        dsimp only [Fld.encs] at hy
        clear hd h2
        gi_wp2
        refine (hR 8).mono ?_
        rintro e W3 (⟨rfl, hj3, hk3⟩ | ⟨rfl, hx3⟩)
        · have hca3 := hk3.cell (p := ⟨Ba, 0, none⟩) (.inl rfl) hca'
          have hfa3 := (hk3.frozen (p := ⟨Ba, 0, none⟩) (.inl rfl) hca').trans hfa'
          have hcb3 := hk3.cell (p := ⟨Bb, 0, none⟩) (.inr rfl) hcb'
          have hfb3 := (hk3.frozen (p := ⟨Bb, 0, none⟩) (.inr rfl) hcb').trans hfb'
          have hne' : Bb ≠ Ba := Ne.symm hne
          gi_wp2
          have hmix : Try.prog.follows .mixedOrders = true := by kernel_rfl
          gi_region_with_o (refine ⟨trivial, ?_⟩; gi_at_call 85; refine (callsIn_wide.2 (double_any a' (by omega) (by omega) _)).mono ?_; rintro e w' ⟨rfl, rfl⟩)
          all_goals
            go_roundw
            case rel => (repeat apply Exists.intro); exact ⟨StepsAt_next hne hJ hxs'.out ha' hb2.out hk8 hj3 hca3 hfa3 hcb3 hfb3, rfl⟩
            case measure => exact StepsLeft_next hne hm.out hpos hcb3
        · gi_wp2
          refine bodyPost_ret (results_none rfl _ _ _) rfl ?_
          exact ⟨⟨_, rfl⟩, .inr ⟨_, Fld.steps k (Fld.dbl a') (b' / 2), (by rw [hxs'.out]; simp), hx3⟩⟩

end Go.Proofs.Ytgcfaeipiiagdaa
