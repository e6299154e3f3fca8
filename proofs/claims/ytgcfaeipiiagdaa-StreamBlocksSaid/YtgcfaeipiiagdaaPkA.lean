/-
  Several texts in one: RefD, FldR, RefB, RefC.
-/
import Derived.Test.YtgcfaeipiiagdaaAesI
import Derived.Test.YtgcfaeipiiagdaaLawA
import Derived.Test.YtgcfaeipiiagdaaLawK
import Derived.Test.YtgcfaeipiiagdaaFldM
import Derived.Test.YtgcfaeipiiagdaaFldL
import Derived.BigQuiet
import Derived.Laws.Tables
import Derived.Laws.CopyOwn
import Derived.StillTailTactics

/-
  The document's answer of layer 4: texts that are appended byte by byte: xor, subbed, shifted.
-/
namespace Go.Proofs.Ytgcfaeipiiagdaa
open Go.RowKit

def Aes.xorL (a b : List Nat) : List Nat := (List.range a.length).map fun i => a.getD i 0 ^^^ b.getD i 0
theorem Aes.xorL_length (a b : List Nat) : (Aes.xorL a b).length = a.length := by simp [Aes.xorL]
theorem Aes.xorL_get (a b : List Nat) {i : Nat} (hi : i < a.length) : (Aes.xorL a b).getD i 0 = a.getD i 0 ^^^ b.getD i 0 := by simp [Aes.xorL, List.getD_eq_getElem?_getD, hi]

/-- Bytes of R on their way into a slice. -/
def AppAt (R : List Nat) (w : World) (vb vi : Value) (wr : World) : Prop :=
  ∃ i : Nat, i ≤ R.length ∧ vi = .int .i64 (i : Int) ∧ wr.ownsRow w.heap.size 5 1 vb i ((R.take i).map U) ∧ Below w.heap.size w wr
theorem AppAt.start (R : List Nat) (w wr : World) (h : Below w.heap.size w wr) : AppAt R w (.slice none 0 0) (.int .i64 0) wr :=
  ⟨0, Nat.zero_le _, rfl, by simpa using World.ownsRow_nil wr w.heap.size _ 1, h⟩
theorem AppAt.next {R : List Nat} {w wr w2 : World} {vb v' : Value} {i : Nat} {x : Nat} (hi : i < R.length) (hx : R.getD i 0 = x) (hB : Below w.heap.size w wr) (hvb : ∀ k, vb.ownBlock = some k → w.heap.size ≤ k)
    (hown : w2.ownsRow w.heap.size 5 1 v' (i + 1) ((R.take i).map U ++ [U x])) (hgrow : Keep (fun k => vb.ownBlock ≠ some k) wr w2) : AppAt R w v' (.int .i64 ((i : Int) + 1)) w2 := by
  refine ⟨i + 1, hi, rfl, ?_, ((Keep.below (S := fun _ => True) hB).on hgrow (fun k _ hl e => by have := hvb k e; omega)).toBelow (fun _ _ => trivial)⟩
  have : R.take (i + 1) = R.take i ++ [x] := by
    rw [List.take_succ_eq_append_getElem hi]
    congr 2
    rw [← hx]; simp [List.getD_eq_getElem?_getD, hi]
  rw [this, List.map_append]
  exact hown

theorem conv_owned {W : World} {base : Nat} {v : Value} {R : List Nat} {n : Nat} (hn : R.length = n) (h : W.ownsRow base 5 1 v n (R.map U)) :
    (convert 35 9 v).run Try.prog W = .ok (.string (strOf R)) W := by
  subst hn
  rcases h.2 with ⟨rfl, hz⟩ | ⟨g, cap, cur, rfl, _⟩
  · obtain rfl : R = [] := List.length_eq_zero_iff.1 hz
    exact run_convert_bytes_string W 35 9 5 _ _ _ Try.underlying35 Try.underlying5 Try.underlying9
  · exact conv_string (P := Try.prog) (src := 35) (dst := 9) Try.underlying35 Try.underlying5 Try.underlying9 g 0 cap R W
      (fun j hj => by rw [Nat.zero_add, h.cellAt j (by omega)]; simp [List.getD_eq_getElem?_getD, hj]) R.length rfl

set_option maxRecDepth 100000 in
set_option maxHeartbeats 2000000 in
theorem refXor_any (a b : ByteArray) (hl : a.size ≤ b.size) (hs : a.size ≤ 1000000000) (w : World) :
    Calls Try.prog 33 #[.string a, .string b] w fun e w' => e = .returned (.string (strOf (Aes.xorL (bytesOf a) (bytesOf b)))) ∧ Below w.heap.size w w' := by
  obtain ⟨i0, hi0, hz0, hz1, hz2⟩ := info_parts LawA.infoByte
  have hRl : (Aes.xorL (bytesOf a) (bytesOf b)).length = a.size := by rw [Aes.xorL_length, bytesOf_length]
  have hRg : ∀ i, i < a.size → (Aes.xorL (bytesOf a) (bytesOf b)).getD i 0 = (bytesOf a).getD i 0 ^^^ (bytesOf b).getD i 0 := fun i hi => Aes.xorL_get _ _ (by rw [bytesOf_length]; exact hi)
  obtain ⟨R, hR⟩ : ∃ R, Aes.xorL (bytesOf a) (bytesOf b) = R := ⟨_, rfl⟩
  rw [hR] at hRl hRg
  have HRg := Lib.hid hRg
  have HR := Lib.hid hR
  have Hst := Lib.hid (AppAt.start R w w (Below.refl _ _))
  clear hRg hR
  go_enter Try.func33, Try.ntmps33
  go_wp2
  go_loopw [5, 6] (fun vb vi wr => AppAt R w vb vi wr) (fun _ vi _ => R.length - (intOf vi).toNat)
  case atStart => exact Hst.out
  case round =>
    clear Hst
    obtain ⟨i, hi, rfl, hown, hB⟩ := hrel
    by_cases hlt : i < a.size
    · have hlt' : (i : Int) < (a.size : Int) := by omega
      have hx1 := fun W => idx_string a (i : Int) i rfl hlt W
      have hx2 := fun W => idx_string b (i : Int) i rfl (by omega) W
      have hxx := u8_xor_nat ((bytesOf a).getD i 0) ((bytesOf b).getD i 0) (bytesOf_all a i) (bytesOf_all b i)
      have hg := HRg.out i hlt
      obtain ⟨z, hz⟩ : ∃ z, (bytesOf a).getD i 0 ^^^ (bytesOf b).getD i 0 = z := ⟨_, rfl⟩
      rw [hz] at hxx hg
      have Hg := Lib.hid hg
      have hnews : ∀ j u, [U z][j]? = some u → (wr.drew.alloc (.cells #[U z] 5)).cell? ((⟨wr.drew.heap.size, 0, none⟩ : Addr).add j) = some u := fun j u hu => by
        rw [Addr.add_mid, Nat.zero_add]
        exact ((Row.new wr.drew 5 #[U z]).cell j).trans (by simpa using hu)
      have Hnews := Lib.hid hnews
      have Hown := Lib.hid (hown.drew.alloc (.cells #[U z] 5))
      have HB := Lib.hid (hB.drew.alloc hB.size (.cells #[U z] 5))
      have hil : i ≤ 1000000000 := by omega
      clear hnews hg hz hown hB
      generalize (bytesOf a).getD i 0 = x at *
      generalize (bytesOf b).getD i 0 = y at *
      go_wp2_with fail
      go_region_law (refine step_append_owns rfl (.tmp 13) (.tmp 21) 35 rfl w.heap.size 5 i0 _ 1 1 Try.underlying35 hi0 hz0 hz1 hz2 rfl (by decide) _ i ((R.take i).map U) rfl Hown.out ⟨wr.drew.heap.size, 0, none⟩ 1 1 [U z] rfl rfl Hnews.out (by simp [Value.oneCell']) (by unfold maxLen; omega) (by omega) HB.out.size ?_; intro v' w2 hown' hgrow)
      all_goals
        have Hnx := Lib.hid (AppAt.next (by omega) Hg.out HB.out (fun k e => (Hown.out.lt k e).1) hown' (keep_grown hgrow))
        clear hown' hgrow
        go_wp2
        go_roundw
        case rel => exact Hnx.out
        case measure => simp [intOf]; omega
    · obtain rfl : i = R.length := by omega
      have hlt' : ¬ ((R.length : Nat) : Int) < (a.size : Int) := by omega
      rw [List.take_length] at hown
      have hcv := conv_owned rfl hown
      have HB := Lib.hid hB
      clear hown hB
      go_wp2
      go_ret
      exact ⟨by rw [HR.out]; rfl, HB.out⟩

end Go.Proofs.Ytgcfaeipiiagdaa

/-
  Contracts of the reference's Mul and Inv (layer 3); what undoes a byte is the same as the program's.
-/
namespace Go.Proofs.Ytgcfaeipiiagdaa
open Go.RowKit

namespace Fld
/-- The reference's loop, with rounds i, i+1, .. to go. -/
def rmulGo : Nat → Nat → Nat → Nat → Nat → Nat
  | 0, _, _, _, out => out
  | k + 1, i, b, x, out => rmulGo k (i + 1) b (dbl x) (if b / 2 ^ i % 2 = 1 then out ^^^ x else out)
def rmul (a b : Nat) : Nat := rmulGo 8 0 b a 0
/-- From b on: the first byte whose product is 1. -/
def rinvGo : Nat → Nat → Nat → Nat
  | 0, _, _ => 0
  | k + 1, a, b => if rmul a b = 1 then b else rinvGo k a (b + 1)
def rinv (a : Nat) : Nat := rinvGo 256 a 0

theorem rmulGo_lt : ∀ (k i b x out : Nat), x < 256 → out < 256 → rmulGo k i b x out < 256
  | 0, _, _, _, _, _, h => h
  | k + 1, i, b, x, out, hx, h => by
    unfold rmulGo
    refine rmulGo_lt k _ _ _ _ (dbl_lt x hx) ?_
    split
    · exact Nat.xor_lt_two_pow (n := 8) h hx
    · exact h
theorem rmul_lt (a b : Nat) (ha : a < 256) : rmul a b < 256 := rmulGo_lt 8 0 b a 0 ha (by decide)
theorem rinvGo_lt : ∀ (k a b : Nat), b + k ≤ 256 → rinvGo k a b < 256
  | 0, _, _, _ => by simp [rinvGo]
  | k + 1, a, b, h => by
    unfold rinvGo
    split
    · omega
    · exact rinvGo_lt k a (b + 1) (by omega)
theorem rinv_lt (a : Nat) : rinv a < 256 := rinvGo_lt 256 a 0 (by decide)

/-- Both products are one. -/
theorem rmulGo_eq : ∀ (k i b x out : Nat), b < 2 ^ (i + k) → rmulGo k i b x out = mulGo k x (b / 2 ^ i) out
  | 0, _, _, _, _, _ => rfl
  | k + 1, i, b, x, out, h => by
    unfold rmulGo mulGo
    rw [rmulGo_eq k (i + 1) b _ _ (by rw [show i + 1 + k = i + (k + 1) from by omega]; exact h), Nat.pow_succ, ← Nat.div_div_eq_div_mul]
    by_cases h0 : b / 2 ^ i = 0
    · rw [if_pos h0, h0]
      cases k <;> simp [mulGo]
    · rw [if_neg h0]
theorem rmul_eq (a b : Nat) (hb : b < 256) : rmul a b = mul a b := by
  unfold rmul mul; rw [rmulGo_eq 8 0 b a 0 (by simpa using hb)]; simp

theorem inv_one : ∀ a, a < 256 → rinv a = inv a := by decide +kernel
end Fld

theorem dbl_big (x : Nat) (h : 128 ≤ x) : bits BinOp.xor IntKind.u8 ((x : Int) * 2 % 256) 27 = ((Fld.dbl x : Nat) : Int) := by
  have := u8_xor_nat (x * 2 % 256) 27 (by omega) (by decide)
  unfold Fld.dbl
  rw [if_pos h, ← this, show ((x * 2 % 256 : Nat) : Int) = (x : Int) * 2 % 256 from by omega]
  rfl
theorem dbl_small (x : Nat) (h : ¬ 128 ≤ x) : (x : Int) * 2 = ((Fld.dbl x : Nat) : Int) := by
  unfold Fld.dbl; rw [if_neg h]; omega

/-- Where the reference's Mul stands at the head of a round. -/
def RMulAt (r b : Nat) (vo vx vi : Value) : Prop :=
  ∃ k i x o : Nat, Fld.rmulGo k i b x o = r ∧ i + k = 8 ∧ x < 256 ∧ o < 256 ∧ vo = .int .u8 o ∧ vx = .int .u8 x ∧ vi = .int .i64 i

theorem RMulAt_next {r b k i x o o' : Nat} (h : Fld.rmulGo (k + 1) i b x o = r) (hk : i + (k + 1) = 8) (hx : x < 256) (ho : o' < 256) (hov : o' = if b / 2 ^ i % 2 = 1 then o ^^^ x else o) :
    RMulAt r b (.int .u8 o') (.int .u8 (Fld.dbl x : Nat)) (.int .i64 ((i : Int) + 1)) :=
  ⟨k, i + 1, Fld.dbl x, o', by rw [← h, Fld.rmulGo, hov], by omega, Fld.dbl_lt x hx, ho, rfl, rfl, rfl⟩

set_option maxRecDepth 100000 in
set_option maxHeartbeats 1000000 in
theorem refMul_nat (a b : Nat) (ha : a < 256) (hb : b < 256) (w : World) :
    Calls Try.prog 31 #[.int .u8 a, .int .u8 b] w fun e w' => e = .returned (.int .u8 ((Fld.rmul a b : Nat) : Int)) ∧ w = w' := by
  have hst : RMulAt (Fld.rmul a b) b (.int .u8 0) (.int .u8 a) (.int .i64 0) := ⟨8, 0, a, 0, rfl, rfl, ha, by decide, rfl, rfl, rfl⟩
  generalize Fld.rmul a b = r at *
  go_enter Try.func31, Try.ntmps31
  go_wp2
  go_loop [5, 6, 7] (fun vo vx vi => RMulAt r b vo vx vi) (fun _ _ vi => (8 - intOf vi).toNat)
  case atStart => exact hst
  case round =>
    clear hst
    obtain ⟨k, i, x, o, hr, hik, hx, ho, rfl, rfl, rfl⟩ := hrel
    have Hr := Lib.hid hr
    have Hik := Lib.hid hik
    have hi8 : i ≤ 8 := by omega
    clear hr hik
    by_cases hk0 : i < 8
    · obtain ⟨k, rfl⟩ : ∃ j, k = j + 1 := ⟨k - 1, by have := Hik.out; omega⟩
      have hfin := fun o' (ho' : o' < 256) hov => RMulAt_next (o' := o') Hr.out Hik.out hx ho' hov
      obtain ⟨q, hq⟩ : ∃ q, b / 2 ^ i = q := ⟨_, rfl⟩
      rw [hq] at hfin
      have hq' : (b : Int) / 2 ^ i = (q : Int) := by rw [← hq]; simp
      have hql : q ≤ 255 := by rw [← hq]; exact Nat.le_trans (Nat.div_le_self _ _) (by omega)
      clear hq
      have hxo : bits BinOp.xor IntKind.u8 (o : Int) (x : Int) = ((o ^^^ x : Nat) : Int) := u8_xor_nat _ _ ho hx
      have hol := Nat.xor_lt_two_pow (n := 8) ho hx
      rcases Nat.mod_two_eq_zero_or_one q with h2 | h2
      · have hm : (q : Int) % 2 = 0 := by omega
        have hf := hfin o ho (by rw [if_neg (by omega)])
        have Hf := Lib.hid hf
        clear hf hfin h2
        by_cases hx8 : 128 ≤ x
        · have hdx : bits BinOp.xor IntKind.u8 ((x : Int) * 2 % 256) 27 = ((Fld.dbl x : Nat) : Int) := dbl_big x hx8
          have Hdx := Lib.hid hdx
          clear hdx
          have hx8' : (128 : Int) ≤ x := by omega
          clear hx8
          go_wp2
          go_round
          case rel => rw [Hdx.out]; exact Hf.out
          case measure => simp [intOf]; omega
        · have hdx : (x : Int) * 2 = ((Fld.dbl x : Nat) : Int) := dbl_small x hx8
          have Hdx := Lib.hid hdx
          clear hdx
          have hx8' : (x : Int) < 128 := by omega
          have hqi : (q : Int) ≤ 255 := by omega
          clear hx8 hx ho hol ha hb hql
          go_wp2
          go_round
          case rel => rw [Hdx.out]; exact Hf.out
          case measure => simp [intOf]; omega
      · have hm : (q : Int) % 2 = 1 := by omega
        have hf := hfin (o ^^^ x) hol (by rw [if_pos (by omega)])
        have Hf := Lib.hid hf
        clear hf hfin h2
        by_cases hx8 : 128 ≤ x
        · have hdx : bits BinOp.xor IntKind.u8 ((x : Int) * 2 % 256) 27 = ((Fld.dbl x : Nat) : Int) := dbl_big x hx8
          have Hdx := Lib.hid hdx
          clear hdx
          have hx8' : (128 : Int) ≤ x := by omega
          clear hx8
          go_wp2
          go_round
          case rel => rw [Hdx.out]; exact Hf.out
          case measure => simp [intOf]; omega
        · have hdx : (x : Int) * 2 = ((Fld.dbl x : Nat) : Int) := dbl_small x hx8
          have Hdx := Lib.hid hdx
          clear hdx
          have hx8' : (x : Int) < 128 := by omega
          have hqi : (q : Int) ≤ 255 := by omega
          clear hx8 hx ho hol ha hb hql
          go_wp2
          go_round
          case rel => rw [Hdx.out]; exact Hf.out
          case measure => simp [intOf]; omega
    · have hz : Hid (o = r) := by
        have h1 := Hik.out; have h2 := Hr.out
        obtain rfl : k = 0 := by omega
        exact h2
      go_wp2
      go_ret
      exact ⟨ret_int (by rw [hz.out]), rfl⟩

/-- Where the reference's Inv stands at the head of a round. -/
def RInvAt (r a : Nat) (vb : Value) : Prop := ∃ k b : Nat, Fld.rinvGo k a b = r ∧ b + k = 256 ∧ vb = .int .i64 b
theorem RInvAt_next {r a k b : Nat} (h : Fld.rinvGo (k + 1) a b = r) (hk : b + (k + 1) = 256) (hn : ¬ Fld.rmul a b = 1) : RInvAt r a (.int .i64 ((b : Int) + 1)) :=
  ⟨k, b + 1, by rw [← h, Fld.rinvGo, if_neg hn], by omega, rfl⟩

end Go.Proofs.Ytgcfaeipiiagdaa

/-
  The document's answer of layer 3, more of it: bent, Sub.
-/
namespace Go.Proofs.Ytgcfaeipiiagdaa
open Go.RowKit

namespace Fld
def bentBit (i b : Nat) : Nat := b / 2 ^ i ^^^ b / 2 ^ ((i + 4) % 8) ^^^ b / 2 ^ ((i + 5) % 8) ^^^ b / 2 ^ ((i + 6) % 8) ^^^ b / 2 ^ ((i + 7) % 8) ^^^ 99 / 2 ^ i
def bentGo : Nat → Nat → Nat → Nat → Nat
  | 0, _, _, out => out
  | k + 1, i, b, out => bentGo k (i + 1) b (out ||| bentBit i b % 2 * 2 ^ i)
def bent (b : Nat) : Nat := bentGo 8 0 b 0
theorem bent_inv : ∀ a, a < 256 → bent (inv a) = sub a := by decide +kernel
theorem bent_rinv (a : Nat) (ha : a < 256) : bent (rinv a) = sub a := by rw [inv_one a ha, bent_inv a ha]
theorem bentBit_lt (i b : Nat) (hb : b < 256) : bentBit i b < 256 := by
  have h : ∀ j, b / 2 ^ j < 2 ^ 8 := fun j => Nat.lt_of_le_of_lt (Nat.div_le_self _ _) hb
  unfold bentBit
  exact Nat.xor_lt_two_pow (Nat.xor_lt_two_pow (Nat.xor_lt_two_pow (Nat.xor_lt_two_pow (Nat.xor_lt_two_pow (h _) (h _)) (h _)) (h _)) (h _)) (Nat.lt_of_le_of_lt (Nat.div_le_self _ _) (by decide))
end Fld

theorem bent_shl (m i : Nat) (hi : i < 8) : m % 2 * 2 ^ i < 2 ^ 8 := by
  have h1 : m % 2 ≤ 1 := by omega
  have h2 : 2 ^ i ≤ 2 ^ 7 := Nat.pow_le_pow_right (by decide) (by omega)
  have h3 := Nat.mul_le_mul h1 h2
  omega

/-- Where the reference's bent stands at the head of a round. -/
def BentAt (r b : Nat) (vo vi : Value) : Prop :=
  ∃ k i o : Nat, Fld.bentGo k i b o = r ∧ i + k = 8 ∧ o < 256 ∧ vo = .int .u8 o ∧ vi = .int .i64 i

set_option maxRecDepth 100000 in
set_option maxHeartbeats 2000000 in
theorem bent_quiet (b : Nat) (hb : b < 256) (w : World) :
    Calls Try.prog 32 #[.int .u8 b] w fun e w' => e = .returned (.int .u8 ((Fld.bent b : Nat) : Int)) ∧ ∃ m, w' = w.drewN m := by
  have hst : BentAt (Fld.bent b) b (.int .u8 0) (.int .i64 0) := ⟨8, 0, 0, rfl, rfl, by decide, rfl, rfl⟩
  generalize Fld.bent b = r at *
  go_enter Try.func32, Try.ntmps32
  go_wp2
  go_loopw [3, 4] (fun vo vi wr => BentAt r b vo vi ∧ ∃ m, wr = w.drewN m) (fun _ vi _ => (8 - intOf vi).toNat)
  case atStart => exact ⟨hst, 0, rfl⟩
  case round =>
    clear hst
    obtain ⟨⟨k, i, o, hr, hik, ho, rfl, rfl⟩, m1, hB⟩ := hrel
    have Hr := Lib.hid hr
    have Hik := Lib.hid hik
    have HB := Lib.hid hB
    have hi8 : i ≤ 8 := by omega
    clear hr hik hB
    by_cases hk0 : i < 8
    · obtain ⟨k, rfl⟩ : ∃ j, k = j + 1 := ⟨k - 1, by have := Hik.out; omega⟩
      have hnext : BentAt r b (.int .u8 ((o ||| Fld.bentBit i b % 2 * 2 ^ i : Nat) : Int)) (.int .i64 ((i : Int) + 1)) :=
        ⟨k, i + 1, _, by rw [← Hr.out, Fld.bentGo], by have := Hik.out; omega, Nat.or_lt_two_pow (n := 8) ho (bent_shl _ i hk0), rfl, by rfl⟩
      have Hnext := Lib.hid hnext
      have hbit : Fld.bentBit i b = b / 2 ^ i ^^^ b / 2 ^ ((i + 4) % 8) ^^^ b / 2 ^ ((i + 5) % 8) ^^^ b / 2 ^ ((i + 6) % 8) ^^^ b / 2 ^ ((i + 7) % 8) ^^^ 99 / 2 ^ i := rfl
      have hbl := Fld.bentBit_lt i b hb
      have h4 : ((i : Int) + 4) % 8 = (((i + 4) % 8 : Nat) : Int) := by omega
      have h5 : ((i : Int) + 5) % 8 = (((i + 5) % 8 : Nat) : Int) := by omega
      have h6 : ((i : Int) + 6) % 8 = (((i + 6) % 8 : Nat) : Int) := by omega
      have h7 : ((i : Int) + 7) % 8 = (((i + 7) % 8 : Nat) : Int) := by omega
      have hdv : ∀ j, b / 2 ^ j < 256 := fun j => Nat.lt_of_le_of_lt (Nat.div_le_self _ _) hb
      have d9 : 99 / 2 ^ i < 256 := Nat.lt_of_le_of_lt (Nat.div_le_self _ _) (by decide)
      have d0 := hdv i
      have d4 := hdv ((i + 4) % 8)
      have d5 := hdv ((i + 5) % 8)
      have d6 := hdv ((i + 6) % 8)
      have d7 := hdv ((i + 7) % 8)
      have c0 : (b : Int) / 2 ^ i = ((b / 2 ^ i : Nat) : Int) := by simp
      have c4 : (b : Int) / 2 ^ ((i + 4) % 8) = ((b / 2 ^ ((i + 4) % 8) : Nat) : Int) := by simp
      have c5 : (b : Int) / 2 ^ ((i + 5) % 8) = ((b / 2 ^ ((i + 5) % 8) : Nat) : Int) := by simp
      have c6 : (b : Int) / 2 ^ ((i + 6) % 8) = ((b / 2 ^ ((i + 6) % 8) : Nat) : Int) := by simp
      have c7 : (b : Int) / 2 ^ ((i + 7) % 8) = ((b / 2 ^ ((i + 7) % 8) : Nat) : Int) := by simp
      have c9 : (99 : Int) / 2 ^ i = ((99 / 2 ^ i : Nat) : Int) := by simp
      generalize b / 2 ^ i = q0 at *
      generalize b / 2 ^ ((i + 4) % 8) = q4 at *
      generalize b / 2 ^ ((i + 5) % 8) = q5 at *
      generalize b / 2 ^ ((i + 6) % 8) = q6 at *
      generalize b / 2 ^ ((i + 7) % 8) = q7 at *
      generalize 99 / 2 ^ i = q9 at *
      generalize (i + 4) % 8 = i4 at *
      generalize (i + 5) % 8 = i5 at *
      generalize (i + 6) % 8 = i6 at *
      generalize (i + 7) % 8 = i7 at *
      have x1 := u8_xor_nat q0 q4 d0 d4
      have l1 := Nat.xor_lt_two_pow (n := 8) d0 d4
      have x2 := u8_xor_nat (q0 ^^^ q4) q5 l1 d5
      have l2 := Nat.xor_lt_two_pow (n := 8) l1 d5
      have x3 := u8_xor_nat (q0 ^^^ q4 ^^^ q5) q6 l2 d6
      have l3 := Nat.xor_lt_two_pow (n := 8) l2 d6
      have x4 := u8_xor_nat (q0 ^^^ q4 ^^^ q5 ^^^ q6) q7 l3 d7
      have l4 := Nat.xor_lt_two_pow (n := 8) l3 d7
      have x5 := u8_xor_nat (q0 ^^^ q4 ^^^ q5 ^^^ q6 ^^^ q7) q9 l4 d9
      rw [← hbit] at x5
      have hm : ((Fld.bentBit i b : Nat) : Int) % 2 = ((Fld.bentBit i b % 2 : Nat) : Int) := by omega
      have hsl := bent_shl (Fld.bentBit i b) i hk0
      have hsi : ((Fld.bentBit i b % 2 : Nat) : Int) * 2 ^ i = ((Fld.bentBit i b % 2 * 2 ^ i : Nat) : Int) := by simp
      have hor : bits BinOp.or IntKind.u8 (o : Int) ((Fld.bentBit i b % 2 * 2 ^ i : Nat) : Int) = ((o ||| Fld.bentBit i b % 2 * 2 ^ i : Nat) : Int) := u8_or_nat _ _ ho hsl
      have hmod : ((Fld.bentBit i b % 2 * 2 ^ i : Nat) : Int) % 256 = ((Fld.bentBit i b % 2 * 2 ^ i : Nat) : Int) := by omega
      have hi8' : (i : Int) < 8 := by omega
      generalize Fld.bentBit i b = mb at *
      generalize mb % 2 * 2 ^ i = sh at *
      generalize mb % 2 = m2 at *
      clear hbit hnext hdv d9 d0 d4 d5 d6 d7 l1 l2 l3 l4 hbl hsl hk0 hi8 hb
      go_wp2_with fail
      go_quiet (fail)
      have HBn : Hid (∃ m, wr.drewN nq = w.drewN m) := Lib.hid ⟨m1 + nq, by rw [HB.out, World.drewN_drewN]⟩
      go_wp2
      go_roundw
      case rel => exact ⟨Hnext.out, HBn.out⟩
      case measure => simp [intOf]; omega
    · have hz : Hid (o = r) := by
        have h1 := Hik.out; have h2 := Hr.out
        obtain rfl : k = 0 := by omega
        exact h2
      go_wp2
      go_ret
      exact ⟨ret_int (by rw [hz.out]), m1, HB.out⟩

theorem below_drewN_self (w : World) (m : Nat) : Below w.heap.size w (w.drewN m) := ⟨rfl, rfl, rfl, Nat.le_refl _, fun _ _ => rfl⟩
theorem bent_nat (b : Nat) (hb : b < 256) (w : World) :
    Calls Try.prog 32 #[.int .u8 b] w fun e w' => e = .returned (.int .u8 ((Fld.bent b : Nat) : Int)) ∧ Below w.heap.size w w' :=
  (bent_quiet b hb w).mono fun e w' ⟨he, m, hm⟩ => ⟨he, by rw [hm]; exact below_drewN_self w m⟩

end Go.Proofs.Ytgcfaeipiiagdaa

/-
  The document's answer of layer 3: the tables Subs and Backs, and Mix.
-/
namespace Go.Proofs.Ytgcfaeipiiagdaa
open Go.RowKit

namespace Fld
def subsT : List Nat := (List.range 256).map sub
def backsT : List Nat := (List.range 256).map back
/-- The powers of 3. -/
def powT : List Nat := [1, 3, 5, 15, 17, 51, 85, 255, 26, 46, 114, 150, 161, 248, 19, 53, 95, 225, 56, 72, 216, 115, 149, 164, 247, 2, 6, 10, 30, 34, 102, 170, 229, 52, 92, 228, 55, 89, 235, 38, 106, 190, 217, 112, 144, 171, 230, 49, 83, 245, 4, 12, 20, 60, 68, 204, 79, 209, 104, 184, 211, 110, 178, 205, 76, 212, 103, 169, 224, 59, 77, 215, 98, 166, 241, 8, 24, 40, 120, 136, 131, 158, 185, 208, 107, 189, 220, 127, 129, 152, 179, 206, 73, 219, 118, 154, 181, 196, 87, 249, 16, 48, 80, 240, 11, 29, 39, 105, 187, 214, 97, 163, 254, 25, 43, 125, 135, 146, 173, 236, 47, 113, 147, 174, 233, 32, 96, 160, 251, 22, 58, 78, 210, 109, 183, 194, 93, 231, 50, 86, 250, 21, 63, 65, 195, 94, 226, 61, 71, 201, 64, 192, 91, 237, 44, 116, 156, 191, 218, 117, 159, 186, 213, 100, 172, 239, 42, 126, 130, 157, 188, 223, 122, 142, 137, 128, 155, 182, 193, 88, 232, 35, 101, 175, 234, 37, 111, 177, 200, 67, 197, 84, 252, 31, 33, 99, 165, 244, 7, 9, 27, 45, 119, 153, 176, 203, 70, 202, 69, 207, 74, 222, 121, 139, 134, 145, 168, 227, 62, 66, 198, 81, 243, 14, 18, 54, 90, 238, 41, 123, 141, 140, 143, 138, 133, 148, 167, 242, 13, 23, 57, 75, 221, 124, 132, 151, 162, 253, 28, 36, 108, 180, 199, 82, 246]

theorem powT_length : powT.length = 255 := by decide +kernel
theorem powT_next : ∀ i, i < 254 → rmul 3 (powT.getD i 0) = powT.getD (i + 1) 0 := by decide +kernel
theorem powT_lt : ∀ i, i < 255 → powT.getD i 0 < 256 ∧ powT.getD i 0 ≠ 0 := by decide +kernel
theorem powT_sub : ∀ i, i < 255 → bent (powT.getD ((255 - i) % 255) 0) = sub (powT.getD i 0) := by decide +kernel
theorem bent_zero : bent 0 = sub 0 := by decide +kernel
theorem powT_all : ∀ a, a < 256 → a = 0 ∨ a ∈ powT := by decide +kernel
theorem mul_one' : ∀ a, a < 256 → mul 1 a = a := by decide +kernel

def subAt (i a : Nat) : Nat := if a = 0 ∨ a ∈ powT.take i then sub a else 0
def subL (i : Nat) : List Nat := (List.range 256).map (subAt i)
theorem subL_length (i : Nat) : (subL i).length = 256 := by simp [subL]
theorem list_set_map {n : Nat} {f g : Nat → Nat} {p x : Nat} (hx : x = g p) (h : ∀ a, a ≠ p → f a = g a) : ((List.range n).map f).set p x = (List.range n).map g := by
  apply List.ext_getElem
  · simp
  · intro j h1 h2
    rw [List.getElem_set]
    split
    · rename_i e; subst e; simpa using hx
    · rename_i e; simpa using h j (fun h => e h.symm)
theorem rep_map (n x : Nat) : List.replicate n x = (List.range n).map (fun _ => x) := by rw [List.map_const', List.length_range]
theorem subL_next (i : Nat) (hi : i < 255) : (subL i).set (powT.getD i 0) (sub (powT.getD i 0)) = subL (i + 1) := by
  have hm : ∀ a, a ∈ powT.take (i + 1) ↔ a ∈ powT.take i ∨ a = powT.getD i 0 := fun a => by
    have h : i < powT.length := by rw [powT_length]; exact hi
    rw [List.take_succ_eq_append_getElem h, List.mem_append, List.mem_singleton]
    simp [List.getD_eq_getElem?_getD, h]
  refine list_set_map ?_ fun a ha => ?_
  · rw [subAt, if_pos (.inr ((hm _).2 (.inr rfl)))]
  · simp only [subAt, hm, ha, or_false]
theorem subL_end : subL 255 = subsT := by
  refine List.map_congr_left fun a ha => ?_
  have h := powT_all a (List.mem_range.1 ha)
  rw [subAt, if_pos (by rwa [List.take_of_length_le (by rw [powT_length]; decide)])]
theorem subL_zero : (List.replicate 256 0).set 0 (sub 0) = subL 0 := by
  rw [rep_map]
  refine list_set_map ?_ fun a ha => ?_
  · rw [subAt, if_pos (.inl rfl)]
  · rw [subAt, if_neg]
    simp [ha]

def backAt (i a : Nat) : Nat := if a < 256 ∧ back a < i then back a else 0
def backL (i : Nat) : List Nat := (List.range 256).map (backAt i)
theorem backL_zero : List.replicate 256 0 = backL 0 := by
  rw [rep_map]
  refine List.map_congr_left fun a _ => ?_
  rw [backAt, if_neg (fun h => Nat.not_lt_zero _ h.2)]
theorem backL_next (i : Nat) (hi : i < 256) : (backL i).set (sub i) i = backL (i + 1) := by
  refine list_set_map ?_ fun a ha => ?_
  · rw [backAt, back_sub i hi, if_pos ⟨sub_lt i hi, by omega⟩]
  · unfold backAt
    by_cases h : a < 256
    · have hne : back a ≠ i := fun e => ha (by rw [← e, sub_back a h])
      by_cases h2 : back a < i
      · rw [if_pos ⟨h, h2⟩, if_pos ⟨h, by omega⟩]
      · rw [if_neg (fun e => h2 e.2), if_neg (fun e => h2 (by have := e.2; omega))]
    · rw [if_neg (fun e => h e.1), if_neg (fun e => h e.1)]
theorem backL_end : backL 256 = backsT := by
  refine List.map_congr_left fun a ha => ?_
  have ha' : a < 256 := List.mem_range.1 ha
  rw [backAt, if_pos ⟨ha', back_lt a ha'⟩]
end Fld

theorem Tab.zero256 : Try.zeroCells67 = Bs.vals (List.replicate 256 0) := by kernel_rfl
theorem Tab.zero255 : Try.zeroCells74 = Bs.vals (List.replicate 255 0) := by kernel_rfl
theorem Tab.info256 : (Try.prog.info? 67).map (·.size) = some 256 := by kernel_rfl
theorem upTo_next (R : List Nat) (n : Nat) (hR : R.length = n) {i : Nat} (hi : i < n) : (Bs.upTo i R (List.replicate n 0)).set i (R.getD i 0) = Bs.upTo (i + 1) R (List.replicate n 0) :=
  Bs.upTo_set (by rw [hR, List.length_replicate]) (by rw [List.length_replicate]; exact hi)

theorem Tab.at255 (g : Nat) (z : Int) (p : Nat) (hz : z = (p : Int)) (hp : p < 255) (W : World) :
    (Instr.indexAt 74 (.pointer (some ⟨g, 0, none⟩)) (.int .i64 z)).run Try.prog W = .ok (.pointer (some ⟨g, p, none⟩)) W := by
  have hal : Try.prog.arrayLen 74 = 255 := by kernel_rfl
  have hel : Try.prog.elem 74 = 5 := by kernel_rfl
  have hc : Try.prog.cellsOf 5 = 1 := by kernel_rfl
  subst hz
  rw [run_indexAt_array (P := Try.prog) W 74 ⟨g, 0, none⟩ .i64 (p : Int) (by rw [hal, hel]; exact Try.underlying74), hal, if_pos ⟨by omega, by omega⟩]
  rw [hel, run_sizeOf W (i := (Try.prog.info? 5).getD default) (by kernel_rfl), hc]
  simp only [Result.andThen_ok, Int.toNat_natCast, Nat.mul_one]
  rw [Addr.add_mid, Nat.zero_add]

/-- The powers on their way. -/
def PowAt (gp : Nat) (w0 : World) (vx vi : Value) (wr : World) : Prop :=
  ∃ i x : Nat, i ≤ 255 ∧ x < 256 ∧ (i < 255 → x = Fld.powT.getD i 0) ∧ vx = .int .u8 x ∧ vi = .int .i64 i ∧ Row wr gp 74 (Bs.vals (Bs.upTo i Fld.powT (List.replicate 255 0))) ∧ Keep (fun k => k ≠ gp) w0 wr
/-- What stands for bytes on its way. -/
def SubsAt (go : Nat) (w0 : World) (vi : Value) (wr : World) : Prop :=
  ∃ i : Nat, i ≤ 255 ∧ vi = .int .i64 i ∧ Row wr go 67 (Bs.vals (Fld.subL i)) ∧ Keep (fun k => k ≠ go) w0 wr

set_option maxRecDepth 100000 in
set_option maxHeartbeats 4000000 in
theorem refSubs_any (w : World) :
    Calls Try.prog 22 #[] w fun e w' => e = .returned (.agg (Bs.vals Fld.subsT)) ∧ Below w.heap.size w w' := by
  have hr1 := Row.new w 67 Try.zeroCells67
  have hr2 := Row.new (w.alloc (.cells Try.zeroCells67 67)) 74 Try.zeroCells74
  rw [World.size_alloc] at hr2
  have hr1' := hr1.alloc (.cells Try.zeroCells74 74)
  have hk2 : Below w.heap.size w ((w.alloc (.cells Try.zeroCells67 67)).alloc (.cells Try.zeroCells74 74)) := ((Below.refl _ w).alloc (Nat.le_refl _) _).alloc (by simp) _
  have hz2 : ((w.alloc (.cells Try.zeroCells67 67)).alloc (.cells Try.zeroCells74 74)).heap.size = w.heap.size + 2 := by simp
  obtain ⟨w2, hw2⟩ : ∃ w2, (w.alloc (.cells Try.zeroCells67 67)).alloc (.cells Try.zeroCells74 74) = w2 := ⟨_, rfl⟩
  rw [hw2] at hr2 hr1' hk2 hz2
  rw [Tab.zero255] at hr2
  rw [Tab.zero256] at hr1'
  have hst : PowAt (w.heap.size + 1) w2 (.int .u8 1) (.int .i64 0) w2 := ⟨0, 1, by decide, by decide, fun _ => by decide +kernel, rfl, rfl, by rw [Bs.upTo_zero]; exact hr2, Keep.refl _ _⟩
  have Hst := Lib.hid hst
  have Hr1 := Lib.hid hr1'
  have Hk2 := Lib.hid hk2
  have Hw2 := Lib.hid hw2
  clear hr1 hr2 hr1' hk2 hst hw2
  go_enter Try.func22, Try.ntmps22
  go_wp2
  rw [show (w.alloc (.cells Try.zeroCells67 67)).alloc (.cells Try.zeroCells74 74) = w2 from Hw2.out]
  clear Hw2
  go_loopw [2, 3] (fun vx vi wr => PowAt (w.heap.size + 1) w2 vx vi wr) (fun _ vi _ => 255 - (intOf vi).toNat)
  case atStart => exact Hst.out
  case round =>
    clear Hst
    obtain ⟨i, x, hi, hx, hxv, rfl, rfl, hrow, hkeep⟩ := hrel
    by_cases hlt : i < 255
    · have hlt' : (i : Int) < 255 := by omega
      obtain rfl : x = Fld.powT.getD i 0 := hxv hlt
      have hsl : i < (Bs.upTo i Fld.powT (List.replicate 255 0)).length := by rw [Bs.upTo_length (by rw [Fld.powT_length]; rfl)]; exact hlt
      have hc := hrow.cell i
      rw [Bs.get _ hsl] at hc
      have hf := hrow.frozen i
      have hrow2 := hrow.store i (U (Fld.powT.getD i 0))
      rw [Bs.set, upTo_next Fld.powT 255 Fld.powT_length hlt] at hrow2
      have hk2 := hkeep.setCell (p := ⟨w.heap.size + 1, i, none⟩) (fun h => absurd rfl h) (U (Fld.powT.getD i 0))
      have hmul := refMul_nat 3 (Fld.powT.getD i 0) (by decide) hx
      have hnx : PowAt (w.heap.size + 1) w2 (.int .u8 ((Fld.rmul 3 (Fld.powT.getD i 0) : Nat) : Int)) (.int .i64 ((i : Int) + 1)) (wr.setCell ⟨w.heap.size + 1, i, none⟩ (U (Fld.powT.getD i 0))) :=
        ⟨i + 1, _, hlt, Fld.rmul_lt _ _ (by decide), fun h => Fld.powT_next i (by omega), rfl, rfl, hrow2, hk2⟩
      have Hnx := Lib.hid hnx
      have Hmul := Lib.hid hmul
      clear hsl hrow hrow2 hkeep hk2 hmul hnx hxv hlt hi
      generalize (Bs.upTo i Fld.powT (List.replicate 255 0)).getD i 0 = old at *
      generalize Fld.powT.getD i 0 = x at *
      go_wp2_with fail
      refine (Hmul.out _).mono ?_
      rintro e w3 ⟨rfl, rfl⟩
      go_wp2
      go_roundw
      case rel => exact Hnx.out
      case measure => simp [intOf]; omega
    · obtain rfl : i = 255 := by omega
      rw [Bs.upTo_all (by rw [Fld.powT_length]; decide) (by rw [List.length_replicate]; decide)] at hrow
      have hlt' : ¬ ((255 : Nat) : Int) < 255 := by decide
      have Hpow := Lib.hid hrow
      have Hb := Lib.hid (((Keep.below (S := fun _ => True) Hk2.out).on hkeep (fun k _ hl => by omega)).toBelow (fun _ _ => trivial))
      have hgp : w.heap.size + 1 < wr.heap.size := by have := hkeep.size; omega
      have hr1 := Hr1.out.keep hkeep (by omega)
      have Hr1 := Lib.hid hr1
      clear hrow hkeep hr1 hxv hx hi hlt
      go_wp2_with fail
      refine (bent_nat 0 (by decide) _).mono ?_
      rintro e w4 ⟨rfl, hb4⟩
      rw [Fld.bent_zero]
      have hnew := Row.new wr 67 Try.zeroCells67
      rw [Tab.zero256] at hnew
      have ho4 := hnew.below hb4 (by simp)
      have hp4 := (Hpow.out.alloc (.cells Try.zeroCells67 67)).below hb4 (by simp; omega)
      have hr4 := (Hr1.out.alloc (.cells Try.zeroCells67 67)).below hb4 (by simp; omega)
      have hB4 : Below w.heap.size w w4 := below_seq Hb.out (below_seq ((Below.refl _ wr).alloc (Nat.le_refl _) _) hb4)
      have hz4 : wr.heap.size < w4.heap.size := by have := hb4.size; simp at this; omega
      have hc := ho4.cell 0
      rw [Bs.get _ (by rw [List.length_replicate]; decide)] at hc
      have hf := ho4.frozen 0
      have ho5 := ho4.store 0 (U (Fld.sub 0))
      rw [Bs.set, Fld.subL_zero] at ho5
      obtain ⟨go, hgo⟩ : ∃ go, wr.heap.size = go := ⟨_, rfl⟩
      rw [hgo] at hc hf ho5 hgp hz4
      have hp5 := hp4.other (a := ⟨go, 0, none⟩) (by dsimp only; omega) (U (Fld.sub 0))
      have hr5 := hr4.other (a := ⟨go, 0, none⟩) (by dsimp only; omega) (U (Fld.sub 0))
      have hB5 := hB4.setCell (p := ⟨go, 0, none⟩) (by dsimp only; omega) (U (Fld.sub 0))
      have hz5 : go < (w4.setCell ⟨go, 0, none⟩ (U (Fld.sub 0))).heap.size := ho5.lt
      obtain ⟨w5, hw5⟩ : ∃ w5, w4.setCell ⟨go, 0, none⟩ (U (Fld.sub 0)) = w5 := ⟨_, rfl⟩
      rw [hw5] at ho5 hp5 hr5 hB5 hz5
      have hst : SubsAt go w5 (.int .i64 0) w5 := ⟨0, by decide, rfl, ho5, Keep.refl _ _⟩
      have Hst := Lib.hid hst
      have Hp5 := Lib.hid hp5
      have Hr5 := Lib.hid hr5
      have HB5 := Lib.hid hB5
      have Hw5 := Lib.hid hw5
      clear ho4 hp4 hr4 hB4 ho5 hp5 hr5 hB5 hst hnew hb4 Hb Hr1 Hpow hw5
      generalize (List.replicate 256 0).getD 0 0 = old at *
      generalize Fld.sub 0 = s0 at *
      go_wp2
      rw [show w4.setCell ⟨go, 0, none⟩ (U s0) = w5 from Hw5.out]
      clear Hw5 hc hf hgo
      go_loopw [5] (fun vi wr => SubsAt go w5 vi wr) (fun vi _ => 255 - (intOf vi).toNat)
      case atStart => exact Hst.out
      case round =>
        clear Hst
        obtain ⟨i, hi, rfl, hrow, hkeep⟩ := hrel
        by_cases hlt : i < 255
        · have hlt' : (i : Int) < 255 := by omega
          have hpr := Hp5.out.keep hkeep (by omega)
          have hj : (255 - i) % 255 < 255 := Nat.mod_lt _ (by decide)
          have hji : ((255 : Int) - (i : Int)) % 255 = (((255 - i) % 255 : Nat) : Int) := by omega
          have hwj : IntKind.i64.wrap ((255 : Int) - (i : Int)) = (255 : Int) - (i : Int) := IntWalk.i64_in _ (by omega)
          have htj : Int.tmod ((255 : Int) - (i : Int)) 255 = (((255 - i) % 255 : Nat) : Int) := by rw [Int.tmod_eq_emod_of_nonneg (by omega)]; omega
          have hwj2 : IntKind.i64.wrap (((255 - i) % 255 : Nat) : Int) = (((255 - i) % 255 : Nat) : Int) := IntWalk.i64_in _ (by omega)
          have hjm : (-(i : Int)) % 255 = (((255 - i) % 255 : Nat) : Int) := by omega
          have hat2 := fun W => Tab.at255 (w.heap.size + 1) (((255 - i) % 255 : Nat) : Int) ((255 - i) % 255) rfl hj W
          have hat := fun W => Tab.at255 (w.heap.size + 1) (((255 : Int) - (i : Int)) % 255) ((255 - i) % 255) hji hj W
          have c1 := hpr.cell i
          rw [Bs.get _ (by rw [Fld.powT_length]; exact hlt)] at c1
          have c2 := hpr.cell ((255 - i) % 255)
          rw [Bs.get _ (by rw [Fld.powT_length]; exact hj)] at c2
          obtain ⟨hx, hx0⟩ := Fld.powT_lt i hlt
          obtain ⟨hy, -⟩ := Fld.powT_lt _ hj
          have c3 := hrow.cell (Fld.powT.getD i 0)
          rw [Bs.get _ (by rw [Fld.subL_length]; exact hx)] at c3
          have f3 := hrow.frozen (Fld.powT.getD i 0)
          have Hbent := Lib.hid (bent_nat _ hy)
          rw [Fld.powT_sub i hlt] at Hbent
          have hxi : ((Fld.powT.getD i 0 : Nat) : Int) < 256 := by omega
          have Hnx : Hid (∀ w1, Below wr.heap.size wr w1 → SubsAt go w5 (.int .i64 ((i : Int) + 1)) (w1.setCell ⟨go, Fld.powT.getD i 0, none⟩ (U (Fld.sub (Fld.powT.getD i 0))))) := Lib.hid (fun w1 h1 => by
            have h2 := (hrow.below h1 hrow.lt).store (Fld.powT.getD i 0) (U (Fld.sub (Fld.powT.getD i 0)))
            rw [Bs.set, Fld.subL_next i hlt] at h2
            exact ⟨i + 1, hlt, rfl, h2, (hkeep.call h1).setCell (p := ⟨go, Fld.powT.getD i 0, none⟩) (fun h => absurd rfl h) _⟩)
          have hnd : Below wr.heap.size wr wr := Below.refl _ _
          clear hrow hkeep hpr hx0 hlt hi
          generalize (Fld.subL i).getD (Fld.powT.getD i 0) 0 = old2 at *
          generalize Fld.powT.getD ((255 - i) % 255) 0 = y at *
          generalize Fld.sub (Fld.powT.getD i 0) = sx at *
          generalize Fld.powT.getD i 0 = x at *
          generalize (255 - i) % 255 = j at *
          go_wp2_with fail
          go_region_with (go_at_call 32; refine (Hbent.out _).mono ?_; rintro e w6 ⟨rfl, hb6⟩; have k1 := cell_below (below_drew hb6) c1; have k2 := cell_below (below_drew hb6) c2; have k3 := cell_below (below_drew hb6) c3; have k4 := (frozen_below (below_drew hb6) c3).trans f3)
          all_goals
            have hnx := Lib.hid (Hnx.out _ (below_drew hb6))
            go_wp2
            go_roundw
            case rel => exact hnx.out
            case measure => simp [intOf]; omega
        · obtain rfl : i = 255 := by omega
          rw [Fld.subL_end] at hrow
          have hlt' : ¬ ((255 : Nat) : Int) < 255 := by decide
          have hres := Hr5.out.keep hkeep (by omega)
          have hB := ((Keep.below (S := fun _ => True) HB5.out).on hkeep (fun k _ hl => by omega)).toBelow (fun _ _ => trivial)
          have hsz : Fld.subsT.length = 256 := by simp [Fld.subsT]
          have Hres := Lib.hid hres
          have HB := Lib.hid hB
          have Hrow := Lib.hid hrow
          clear hres hB hrow hkeep
          go_wp2_with (first | (refine wpList_load_row rfl 67 _ rfl go rfl 67 _ _ _ Hrow.out Try.underlying67 rfl (by rw [Bs.size, hsz]; exact Tab.info256) ?_) | (refine wpList_store_row rfl 67 _ _ rfl w.heap.size (Bs.vals Fld.subsT) rfl rfl 67 _ Hres.out (by rw [Bs.size, hsz]; exact Tab.info256) (by rw [Bs.size, Bs.size, List.length_replicate, hsz]) (Bs.one _) ?_))
          exact bodyPost_ret (v := .agg (Bs.vals Fld.subsT)) (results_cell_row rfl _ _ _ _ _ _ _ rfl (setRow_heap wr w.heap.size _ (Bs.vals Fld.subsT) 67 (0, 0) Hres.out) Try.underlying67 rfl (by rw [Bs.size, hsz]; exact Tab.info256)) rfl ⟨rfl, below_setRow HB.out (Nat.le_refl _) _⟩

/-- What undoes bytes on its way. -/
def BacksAt (go : Nat) (w0 : World) (vi : Value) (wr : World) : Prop :=
  ∃ i : Nat, i ≤ 256 ∧ vi = .int .i64 i ∧ Row wr go 67 (Bs.vals (Fld.backL i)) ∧ Keep (fun k => k ≠ go) w0 wr

theorem Fld.subsT_get {a : Nat} (ha : a < 256) : Fld.subsT.getD a 0 = Fld.sub a := by simp [Fld.subsT, List.getD_eq_getElem?_getD, ha]
theorem Fld.backsT_get {a : Nat} (ha : a < 256) : Fld.backsT.getD a 0 = Fld.back a := by simp [Fld.backsT, List.getD_eq_getElem?_getD, ha]
theorem Fld.subsT_length : Fld.subsT.length = 256 := by simp [Fld.subsT]
theorem Fld.backsT_length : Fld.backsT.length = 256 := by simp [Fld.backsT]
theorem Fld.subsT_all : Bs.All Fld.subsT := .of_mem fun x hx => by
  obtain ⟨a, ha, rfl⟩ := List.mem_map.1 hx
  exact Fld.sub_lt a (List.mem_range.1 ha)
theorem Fld.backsT_all : Bs.All Fld.backsT := .of_mem fun x hx => by
  obtain ⟨a, ha, rfl⟩ := List.mem_map.1 hx
  exact Fld.back_lt a (List.mem_range.1 ha)
theorem Fld.backL_length (i : Nat) : (Fld.backL i).length = 256 := by simp [Fld.backL]

theorem mulNat (a x : Nat) (ha : a < 256) (hx : x < 256) (w : World) :
    Calls Try.prog 31 #[.int .u8 a, .int .u8 x] w fun e w' => e = .returned (.int .u8 ((Fld.mul a x : Nat) : Int)) ∧ w' = w := by
  have h := refMul_nat a x ha hx w
  rw [Fld.rmul_eq a x hx] at h
  exact h.mono fun e w' h => ⟨h.1, h.2.symm⟩

end Go.Proofs.Ytgcfaeipiiagdaa
