/-
  Contracts of field.Inv, turned, Sub, Back.
-/
import Derived.Test.YtgcfaeipiiagdaaFldC
import Derived.Deep.RegionWith
import Derived.StillTailTactics
namespace Go.Proofs.Ytgcfaeipiiagdaa
open Go.RowKit

/-- Where Inv stands at the head of a round. -/
def InvAt (r : Nat) (w : World) (va vo vn : Value) (wr : World) : Prop :=
  ∃ k a n o : Nat, Fld.invGo k a n o = r ∧ n < 2 ^ k ∧ k ≤ 8 ∧ a < 256 ∧ o < 256 ∧ va = .int .u8 a ∧ vo = .int .u8 o ∧ vn = .int .i64 n ∧ Below w.heap.size w wr

theorem InvAt_next {r k a n o o' : Nat} {w wr : World} (h : Fld.invGo (k + 1) a n o = r) (hn0 : n ≠ 0) (hn : n / 2 < 2 ^ k) (hk : k + 1 ≤ 8) (ha : a < 256) (ho : o' < 256)
    (hov : o' = if n % 2 = 1 then Fld.mul o a else o) (hb : Below w.heap.size w wr) : InvAt r w (.int .u8 (Fld.mul a a : Nat)) (.int .u8 o') (.int .i64 ((n : Int) / 2)) wr := by
  refine ⟨k, Fld.mul a a, n / 2, o', ?_, hn, by omega, Fld.mul_lt a a ha, ho, rfl, rfl, rfl, hb⟩
  rw [← h, Fld.invGo, if_neg hn0, hov]

theorem mul_nat (a b : Nat) (ha : a < 256) (hb : b < 256) (w : World) :
    Calls Try.prog 74 #[.int .u8 a, .int .u8 b] w fun e w' => e = .returned (.int .u8 ((Fld.mul a b : Nat) : Int)) ∧ Below w.heap.size w w' :=
  mul_any a b (by omega) (by omega) (by omega) (by omega) w

set_option maxRecDepth 100000 in
set_option maxHeartbeats 1000000 in
theorem inv_any (a : Int) (ha0 : 0 ≤ a) (ha : a ≤ 255) (w : World) :
    Calls Try.prog 63 #[.int .u8 a] w fun e w' => e = .returned (.int .u8 ((Fld.inv a.toNat : Nat) : Int)) ∧ Below w.heap.size w w' := by
  obtain ⟨a, rfl⟩ := Int.eq_ofNat_of_zero_le ha0
  rw [Int.toNat_natCast]
  have hst : InvAt (Fld.inv a) w (.int .u8 a) (.int .u8 1) (.int .i64 254) w := ⟨8, a, 254, 1, rfl, by decide, Nat.le_refl _, by omega, by decide, rfl, rfl, rfl, Below.refl _ _⟩
  generalize Fld.inv a = r at *
  go_enter Try.func63, Try.ntmps63
  go_wp2
  go_loopw [0, 3, 4] (fun va vo vn wr => InvAt r w va vo vn wr) (fun _ _ vn _ => (intOf vn).toNat)
  case atStart => exact hst
  case round =>
    clear hst
    obtain ⟨k, a', n, o, hr, hn, hk8, ha', ho', rfl, rfl, rfl, hB⟩ := hrel
    by_cases hn0 : n = 0
    · subst hn0
      have hro : Hid (o = r) := by
        rw [← hr]; cases k <;> simp [Fld.invGo, Hid]
      clear hr
      go_wp2
      go_ret
      exact ⟨ret_int (by rw [hro.out]), hB⟩
    · obtain ⟨k, rfl⟩ : ∃ j, k = j + 1 := ⟨k - 1, by cases k with | zero => simp at hn; omega | succ k => rfl⟩
      have hn256 : n < 256 := Nat.lt_of_lt_of_le hn (Nat.pow_le_pow_right (by decide) hk8 : 2 ^ (k + 1) ≤ 2 ^ 8)
      have hn2 : Hid (n / 2 < 2 ^ k) := by have : n < 2 ^ k * 2 := by rw [← Nat.pow_succ]; exact hn
                                           exact Nat.div_lt_of_lt_mul (by omega)
      have hpos : 0 < n := Nat.pos_of_ne_zero hn0
      have hn0' := Lib.hid hn0
      have hr' := Lib.hid hr
      clear hr hn hn0
      have hbit : bits BinOp.and IntKind.i64 (n : Int) 1 = ((n % 2 : Nat) : Int) := by
        have h := bits_mask .i64 8 (by decide) (fun n h1 h2 => IntWalk.i64_in n ⟨by omega, by omega⟩) 1 (by decide) n (by omega)
        exact h (by omega)
      rcases Nat.mod_two_eq_zero_or_one n with h2 | h2
      all_goals
        rw [h2] at hbit
        have h2' := Lib.hid h2
        clear h2
      · go_wp2_with fail
        refine (mul_nat a' a' ha' ha' _).mono ?_
        rintro e w1 ⟨rfl, hb1⟩
        have hfin := Lib.hid (InvAt_next hr'.out hn0'.out hn2.out hk8 ha' ho' (by rw [if_neg (by rw [h2'.out]; decide)]) (hB.trans (hb1.mono hB.size)))
        go_wp2
        go_roundw
        case rel => exact hfin.out
        case measure => simp [intOf]; omega
      · go_wp2_with fail
        refine (mul_nat o a' ho' ha' _).mono ?_
        rintro e w1 ⟨rfl, hb1⟩
        have hB1 := hB.trans (hb1.mono hB.size)
        have hlt := Fld.mul_lt o a' ho'
        go_wp2_with fail
        refine (mul_nat a' a' ha' ha' _).mono ?_
        rintro e w2 ⟨rfl, hb2⟩
        have hfin := Lib.hid (InvAt_next hr'.out hn0'.out hn2.out hk8 ha' hlt (by rw [if_pos h2'.out]) (hB1.trans (hb2.mono hB1.size)))
        go_wp2
        go_roundw
        case rel => exact hfin.out
        case measure => simp [intOf]; omega

/-- Where 'turned' stands at the head of a round. -/
def TurnedAt (a : Nat) (ns : List Nat) (vo vi : Value) : Prop :=
  ∃ k o : Nat, k ≤ ns.length ∧ o < 256 ∧ vo = .int .u8 o ∧ vi = .int .i64 k ∧ o = Fld.turned a (ns.take k)

theorem TurnedAt_next {a : Nat} {ns : List Nat} {k : Nat} (ha : a < 256) (hk : k < ns.length) :
    TurnedAt a ns (.int .u8 ((Fld.turned a (ns.take k) ^^^ Fld.rot a (ns.getD k 0) : Nat) : Int)) (.int .i64 ((k : Int) + 1)) := by
  refine ⟨k + 1, Fld.turned a (ns.take (k + 1)), hk, Fld.turned_lt a ha _, ?_, rfl, rfl⟩
  have : Fld.turned a (ns.take (k + 1)) = Fld.turned a (ns.take k) ^^^ Fld.rot a (ns.getD k 0) := by
    rw [List.take_succ_eq_append_getElem hk, Fld.turned, List.foldl_append]
    simp [Fld.turned, List.getD_eq_getElem?_getD, hk]
  rw [this]

set_option maxRecDepth 100000 in
set_option maxHeartbeats 1000000 in
theorem turned_any (a : Nat) (ha : a < 256) (b : Nat) (ns : List Nat) (hl : ns.length ≤ 1000) (h7 : ∀ k, ns.getD k 0 ≤ 7) (w : World)
    (hc : ∀ k, k < ns.length → w.cell? ⟨b, k, none⟩ = some (.int .i64 (ns.getD k 0 : Nat))) :
    Calls Try.prog 62 #[.int .u8 a, .slice (some ⟨b, 0, none⟩) ns.length ns.length] w fun e w' =>
      e = .returned (.int .u8 ((Fld.turned a ns : Nat) : Int)) ∧ w = w' := by
  go_enter Try.func62, Try.ntmps62
  go_wp2
  go_loop [4, 9] (fun vo vi => TurnedAt a ns vo vi) (fun _ vi => ns.length - (intOf vi).toNat)
  case atStart => exact ⟨0, 0, Nat.zero_le _, by decide, rfl, rfl, rfl⟩
  case round =>
    obtain ⟨k, o, hk, ho, rfl, rfl, ho'⟩ := hrel
    have Ho := Lib.hid ho'
    clear ho'
    by_cases hlt : k < ns.length
    · have hck := hc k hlt
      have h7k := h7 k
      have hrot := Fld.rot_lt a (ns.getD k 0) ha
      have hx : bits BinOp.xor IntKind.u8 (o : Int) ((Fld.rot a (ns.getD k 0) : Nat) : Int) = ((o ^^^ Fld.rot a (ns.getD k 0) : Nat) : Int) := u8_xor_nat _ _ ho hrot
      have hfin := Lib.hid (TurnedAt_next (ns := ns) ha hlt)
      rw [← Ho.out] at hfin
      clear hc h7
      generalize ns.getD k 0 = n at *
      go_wp2_with fail
      refine (rotateLeft8_any a n (by omega) (by omega) (by omega) (by omega) _).mono ?_
      rintro e w1 ⟨rfl, rfl⟩
      go_wp2
      go_round
      case rel => exact hfin.out
      case measure => simp [intOf]; omega
    · go_wp2
      go_ret
      exact ⟨ret_int (by rw [Ho.out, List.take_of_length_le (by omega)]), rfl⟩

theorem turned_five (a : Nat) (ha : a < 256) (w : World) :
    Calls Try.prog 62 #[.int .u8 a, .slice (some ⟨w.heap.size, 0, none⟩) 5 5]
      (w.alloc (.cells #[.int .i64 0, .int .i64 1, .int .i64 2, .int .i64 3, .int .i64 4] 3)) fun e w' =>
      e = .returned (.int .u8 ((Fld.turned a [0, 1, 2, 3, 4] : Nat) : Int)) ∧ (w.alloc (.cells #[.int .i64 0, .int .i64 1, .int .i64 2, .int .i64 3, .int .i64 4] 3)) = w' := by
  refine turned_any a ha w.heap.size [0, 1, 2, 3, 4] (by decide) ?_ _ ?_
  · intro k
    rcases k with _ | _ | _ | _ | _ | k <;> simp
  · intro k hk
    rcases k with _ | _ | _ | _ | _ | k
    iterate 5 go_simp
    simp at hk
    omega

theorem turned_three (a : Nat) (ha : a < 256) (w : World) :
    Calls Try.prog 62 #[.int .u8 a, .slice (some ⟨w.heap.size, 0, none⟩) 3 3]
      (w.alloc (.cells #[.int .i64 1, .int .i64 3, .int .i64 6] 3)) fun e w' =>
      e = .returned (.int .u8 ((Fld.turned a [1, 3, 6] : Nat) : Int)) ∧ (w.alloc (.cells #[.int .i64 1, .int .i64 3, .int .i64 6] 3)) = w' := by
  refine turned_any a ha w.heap.size [1, 3, 6] (by decide) ?_ _ ?_
  · intro k
    rcases k with _ | _ | _ | k <;> simp
  · intro k hk
    rcases k with _ | _ | _ | k
    iterate 3 go_simp
    simp at hk
    omega

set_option maxRecDepth 100000 in
set_option maxHeartbeats 1000000 in
theorem sub_any (a : Int) (ha0 : 0 ≤ a) (ha : a ≤ 255) (w : World) :
    Calls Try.prog 52 #[.int .u8 a] w fun e w' => e = .returned (.int .u8 ((Fld.sub a.toNat : Nat) : Int)) ∧ Below w.heap.size w w' := by
  obtain ⟨a, rfl⟩ := Int.eq_ofNat_of_zero_le ha0
  rw [Int.toNat_natCast]
  have hi := Fld.inv_lt a (by omega)
  have ht := Fld.turned_lt (Fld.inv a) hi [0, 1, 2, 3, 4]
  have hx : bits BinOp.xor IntKind.u8 ((Fld.turned (Fld.inv a) [0, 1, 2, 3, 4] : Nat) : Int) 99 = ((Fld.sub a : Nat) : Int) := u8_xor_nat _ 99 ht (by decide)
  go_enter Try.func52, Try.ntmps52
  go_wp2_with fail
  refine (inv_any a (by omega) (by omega) _).mono ?_
  rintro e w1 ⟨rfl, hb1⟩
  go_wp2_with fail
  refine (turned_five _ hi _).mono ?_
  rintro e w2 ⟨rfl, rfl⟩
  go_wp2
  go_ret
  exact ⟨rfl, hb1.alloc hb1.size _⟩

end Go.Proofs.Ytgcfaeipiiagdaa
