/-
  Layer 5 for its rows: contracts for a key of 4n bytes; pick; awake.
-/
import Derived.Test.YtgcfaeipiiagdaaStrH
import Derived.Test.YtgcfaeipiiagdaaStrA
import Derived.Test.YtgcfaeipiiagdaaAesP
import Derived.Test.YtgcfaeipiiagdaaLawA
import Derived.Test.YtgcfaeipiiagdaaLawO
namespace Go.Proofs.Ytgcfaeipiiagdaa
open Go.RowKit

/-- The first m bytes that a key makes of a counter. -/
def Str.of (k c : ByteArray) (m : Nat) : List Nat := Str.keys (Aes.enc (bytesOf k)) (bytesOf c) m

theorem Str.block_enc (n : Nat) (k : ByteArray) (hk : k.size = 4 * n) : Str.Block (Aes.enc (bytesOf k)) := fun c _ ha => Aes.enc_length (n := n) (by rw [bytesOf_length, hk]) (bytesOf_all k) ha
theorem Str.encs_len : ∀ (R : List (List Nat × Bool)) (s : List Nat), s.length = 16 → (R.foldl Aes.encStep s).length = 16
  | [], _, hs => hs
  | x :: R, s, _ => Str.encs_len R _ (Aes.encStep_length s x)
theorem Str.enc_len (k c : List Nat) : (Aes.enc k c).length = 16 := Str.encs_len _ _ (Aes.add_length _ _)
theorem Str.of_length (k c : ByteArray) (m : Nat) : (Str.of k c m).length = m := Str.keys_length (fun _ _ => Str.enc_len _ _) _ _
theorem Str.of_all {n : Nat} {k : ByteArray} (hk : k.size = 4 * n) (c : ByteArray) (m : Nat) : Bs.All (Str.of k c m) := Str.keys_all (Str.block_enc n k hk) _ _
theorem Str.good_of {n : Nat} (hn : n = 4 ∨ n = 8) {k : ByteArray} (hk : k.size = 4 * n) : Str.good k = true := decide_eq_true (by omega)
theorem Keep.lower {w w' : World} (h : Keep (fun k => k < w.heap.size) w w') : Below w.heap.size w w' := ⟨h.os, h.tape, h.output, h.size, fun k hk => h.block k hk hk⟩

theorem Keys_k (n : Nat) (hn : n = 4 ∨ n = 8) (k c : ByteArray) (hk : k.size = 4 * n) (hc : c.size = 16) (m : Nat) (hm : m ≤ 65536) (w : World) :
    Calls Try.prog 14 #[.string k, .string c, .int .i64 (m : Int)] w fun e w' => e = .returned (.tuple #[.string (strOf (Str.of k c m)), .int .i64 0]) ∧ Below w.heap.size w w' :=
  (Keys_any k c (Str.good_of hn hk) (Str.told k) hc m hm _ (Str.enc k (Str.good_of hn hk)) (fun _ _ => Str.enc_len _ _) w).mono fun _ _ h => ⟨h.1, h.2.lower⟩
theorem Xor_k (n : Nat) (hn : n = 4 ∨ n = 8) (k c s : ByteArray) (hk : k.size = 4 * n) (hc : c.size = 16) (hs : s.size ≤ 65536) (w : World) :
    Calls Try.prog 12 #[.string k, .string c, .string s] w fun e w' => e = .returned (.tuple #[.string (strOf (Str.xor (bytesOf s) (Str.of k c s.size))), .int .i64 0]) ∧ Below w.heap.size w w' :=
  (Xor_any k c s (Str.good_of hn hk) (Str.told k) hc hs _ (Str.enc k (Str.good_of hn hk)) (fun _ _ => Str.enc_len _ _) (Str.block_enc n k hk) w).mono fun _ _ h => ⟨h.1, h.2.lower⟩

theorem pick5_any (c n : Int) (hc : -9223372036854775808 ≤ c ∧ c ≤ 9223372036854775807) (hn : 0 < n ∧ n < 4611686018427387904) (w : World) :
    Calls Try.prog 11 #[.int .i64 c, .int .i64 n] w fun e w' => e = .returned (.int .i64 (pickOf c n)) ∧ w' = w := by
  have hn0 : ¬ (n = 0) := by omega
  go_enter Try.func11, Try.ntmps11
  by_cases h : c < 0
  · go_wp2
    go_ret
    refine ⟨?_, rfl⟩
    show Ending.returned (Value.int .i64 (-((c + 1).tmod n))) = _
    rw [pickOf, if_pos h, Int.neg_tmod]
  · go_wp2
    go_ret
    refine ⟨?_, rfl⟩
    show Ending.returned (Value.int .i64 (c % n)) = _
    rw [pickOf, if_neg (by omega), Int.tmod_eq_emod_of_nonneg (by omega)]

theorem awake5_next : strOf (Ctr.next (bytesOf ⟨#[255, 255, 255, 255, 255, 255, 255, 255, 255, 255, 255, 255, 255, 255, 255, 255]⟩) 2) = zeros 15 ++ ⟨#[1]⟩ := by decide +kernel
/-- The first byte is the same, however many are asked for. -/
theorem Str.of_first (k c : ByteArray) (a b : Nat) : (Str.of k c (a + 1)).getD 0 0 = (Str.of k c (b + 1)).getD 0 0 := by
  have h : ∀ a, (Str.of k c (a + 1)).getD 0 0 = (Aes.enc (bytesOf k) (Ctr.next (bytesOf c) 0)).getD 0 0 := by
    intro a
    unfold Str.of Str.keys
    have hN : (a + 1 + 15) / 16 = (a + 16) / 16 - 1 + 1 := by omega
    rw [hN, Str.stream, List.range_succ_eq_map, List.flatMap_cons]
    have hl := Str.enc_len (bytesOf k) (Ctr.next (bytesOf c) 0)
    simp only [List.getD_eq_getElem?_getD]
    rw [List.getElem?_take_of_lt (by omega), List.getElem?_append_left (by omega)]
  rw [h, h]

set_option maxRecDepth 100000 in
set_option maxHeartbeats 4000000 in
theorem awake5_any (w : World) : Calls Try.prog 8 #[] w fun e w' => e = .returned (.bool true) ∧ Below w.heap.size w w' := by
  have HN := Lib.hid (Next_any ⟨#[255, 255, 255, 255, 255, 255, 255, 255, 255, 255, 255, 255, 255, 255, 255, 255]⟩ rfl 2 (by decide))
  rw [awake5_next] at HN
  have hks := keyOf_size ⟨#[]⟩ false
  have HK := Lib.hid (Keys_k 4 (.inl rfl) (keyOf ⟨#[]⟩ false) ⟨#[255, 255, 255, 255, 255, 255, 255, 255, 255, 255, 255, 255, 255, 255, 255, 255]⟩ hks rfl 20 (by decide))
  have HX := Lib.hid (Xor_k 4 (.inl rfl) (keyOf ⟨#[]⟩ false) ⟨#[255, 255, 255, 255, 255, 255, 255, 255, 255, 255, 255, 255, 255, 255, 255, 255]⟩ ⟨#[116, 101, 120, 116]⟩ hks rfl (by decide))
  have hb0 := Str.of_all (n := 4) hks ⟨#[255, 255, 255, 255, 255, 255, 255, 255, 255, 255, 255, 255, 255, 255, 255, 255]⟩ 20
  have hbl := Str.of_length (keyOf ⟨#[]⟩ false) ⟨#[255, 255, 255, 255, 255, 255, 255, 255, 255, 255, 255, 255, 255, 255, 255, 255]⟩ 20
  have hx0 : (Str.xor (bytesOf ⟨#[116, 101, 120, 116]⟩) (Str.of (keyOf ⟨#[]⟩ false) ⟨#[255, 255, 255, 255, 255, 255, 255, 255, 255, 255, 255, 255, 255, 255, 255, 255]⟩ 4)).getD 0 0 = 116 ^^^ (Str.of (keyOf ⟨#[]⟩ false) ⟨#[255, 255, 255, 255, 255, 255, 255, 255, 255, 255, 255, 255, 255, 255, 255, 255]⟩ 20).getD 0 0 := by
    rw [Str.xor_get _ _ (by decide), Str.of_first _ _ 3 19]
    rfl
  have hxl := Str.xor_length (bytesOf ⟨#[116, 101, 120, 116]⟩) (Str.of (keyOf ⟨#[]⟩ false) ⟨#[255, 255, 255, 255, 255, 255, 255, 255, 255, 255, 255, 255, 255, 255, 255, 255]⟩ 4)
  have hxa := Str.xor_all (bytesOf_all ⟨#[116, 101, 120, 116]⟩) (Str.of_all (n := 4) hks ⟨#[255, 255, 255, 255, 255, 255, 255, 255, 255, 255, 255, 255, 255, 255, 255, 255]⟩ 4)
  rw [show (⟨#[116, 101, 120, 116]⟩ : ByteArray).size = 4 from rfl] at HX
  rw [show (bytesOf ⟨#[116, 101, 120, 116]⟩).length = 4 from rfl] at hxl
  obtain ⟨X, hX⟩ : ∃ X, Str.xor (bytesOf ⟨#[116, 101, 120, 116]⟩) (Str.of (keyOf ⟨#[]⟩ false) ⟨#[255, 255, 255, 255, 255, 255, 255, 255, 255, 255, 255, 255, 255, 255, 255, 255]⟩ 4) = X := ⟨_, rfl⟩
  obtain ⟨B, hB⟩ : ∃ B, Str.of (keyOf ⟨#[]⟩ false) ⟨#[255, 255, 255, 255, 255, 255, 255, 255, 255, 255, 255, 255, 255, 255, 255, 255]⟩ 20 = B := ⟨_, rfl⟩
  rw [hX] at HX hx0 hxl hxa
  rw [hB] at HK hb0 hbl hx0
  clear hX hB
  have hix : ∀ W, (Instr.index 9 (.string (strOf X)) (.int .i64 0)).run Try.prog W = .ok (U (X.getD 0 0)) W := fun W => by
    have h := idx_string (strOf X) 0 0 rfl (by rw [strOf_size, hxl]; decide) W
    rwa [bytesOf_strOf hxa] at h
  have hib : ∀ W, (Instr.index 9 (.string (strOf B)) (.int .i64 0)).run Try.prog W = .ok (U (B.getD 0 0)) W := fun W => by
    have h := idx_string (strOf B) 0 0 rfl (by rw [strOf_size, hbl]; decide) W
    rwa [bytesOf_strOf hb0] at h
  have hxor : bits .xor .u8 (116 : Int) ((B.getD 0 0 : Nat) : Int) = ((116 ^^^ B.getD 0 0 : Nat) : Int) := u8_xor_nat 116 (B.getD 0 0) (by decide) (hb0 0)
  have hXs : (strOf X).size = 4 := by rw [strOf_size, hxl]
  have hBs : (strOf B).size = 20 := by rw [strOf_size, hbl]
  rw [hx0] at hix
  have HXs := Lib.hid (show (((strOf X).size : Int) == 4) = true by rw [hXs]; rfl)
  obtain ⟨z, hz⟩ : ∃ z, 116 ^^^ B.getD 0 0 = z := ⟨_, rfl⟩
  obtain ⟨y, hy⟩ : ∃ y, B.getD 0 0 = y := ⟨_, rfl⟩
  rw [hz] at hix hxor
  rw [hy] at hib hxor
  have hlX : (((strOf X).size : Nat) : Int) = 4 := by rw [hXs]; rfl
  have hlB : (((strOf B).size : Nat) : Int) = 20 := by rw [hBs]; rfl
  clear hz hy hb0 hbl hx0 hxl hxa
  obtain ⟨K, hK⟩ : ∃ K, keyOf ⟨#[]⟩ false = K := ⟨_, rfl⟩
  have HKey := Lib.hid (Key_any ⟨#[]⟩ false (by decide))
  rw [hK] at HK HX HKey
  obtain ⟨A, hA⟩ : ∃ A, zeros 15 ++ (⟨#[1]⟩ : ByteArray) = A := ⟨_, rfl⟩
  rw [hA] at HN
  have hadd : ∀ W, (Op.stringOp .add (zeros 15) ⟨#[1]⟩).run Try.prog W = .ok (.string A) W := fun W => by rw [← hA]; exact run_string_add_sum W _ _ (by rw [zeros_size]; decide)
  have HN5 := Lib.hid (Next_short ⟨#[120]⟩ (by decide) 1)
  have HK5 := Lib.hid (fun w => Keys_none ⟨#[120]⟩ ⟨#[255, 255, 255, 255, 255, 255, 255, 255, 255, 255, 255, 255, 255, 255, 255, 255]⟩ (by decide) (Str.told _) 1 w)
  clear hA hK hks hXs hBs
  go_enter Try.func8, Try.ntmps8
  go_wp2_with fail
  refine (HKey.out _).mono ?_
  rintro e w1 ⟨rfl, hb1⟩
  have Hb1 := Lib.hid hb1
  clear hb1
  go_wp2_with fail
  refine (HN.out _).mono ?_
  rintro e w2 ⟨rfl, hb2⟩
  have Hb2 := Lib.hid (below_seq Hb1.out hb2)
  clear hb2 Hb1
  go_wp2_with fail
  refine (HK.out _).mono ?_
  rintro e w3 ⟨rfl, hb3⟩
  have Hb3 := Lib.hid (below_seq Hb2.out hb3)
  clear hb3 Hb2
  go_wp2_with fail
  refine (HX.out _).mono ?_
  rintro e w4 ⟨rfl, hb4⟩
  have Hb4 := Lib.hid (below_seq Hb3.out hb4)
  clear hb4 Hb3
  go_wp2_with fail
  refine (HN5.out _).mono ?_
  rintro e w5 ⟨rfl, rfl⟩
  go_wp2_with fail
  refine (HK5.out _).mono ?_
  rintro e w6 ⟨rfl, hb6⟩
  have Hb6 := Lib.hid (below_seq Hb4.out hb6.lower)
  clear hb6 Hb4
  obtain ⟨W1, hm, hcv, hb⟩ := zero_bytes 15 (by decide) w6.drew
  rw [show ((15 : Nat) : Int) = 15 from rfl] at hm
  have Hb7 := Lib.hid (below_seq Hb6.out (below_drew hb))
  clear hb Hb6
  have e15 : w6.drew.heap.size = w6.heap.size := rfl
  rw [e15] at hm hcv
  have hmix : Try.prog.follows .mixedOrders = true := by kernel_rfl
  go_wp2
  refine wp_region_any hmix ?_
  change wpAny _ _ _ _ _ _ _ (World.drew w6)
  refine wpAny_take (i := 0) (v := ?_) rfl (by kernel_rfl) (by kernel_rfl) (by kernel_rfl) (fun _ _ _ h => h) (Or.inl ⟨by kernel_rfl, fun _ => by go_simp; rfl⟩) ?_
  refine wpAny_ready (rs := [1]) (by kernel_rfl) (by simp) ?_
  refine AllReady.cons rfl (fun K hK => ?_) AllReady.nil
  go_simp
  refine hK _ _ ?_
  clear hK K
  refine wpAny_ready (rs := [2]) (by kernel_rfl) (by simp) ?_
  refine AllReady.cons rfl (fun K hK => ?_) AllReady.nil
  go_simp
  refine hK _ _ ?_
  clear hK K
  refine wpAny_take (i := 3) (v := ?_) rfl (by kernel_rfl) (by kernel_rfl) (by kernel_rfl) (fun _ _ _ h => h) (Or.inl ⟨by kernel_rfl, fun _ => by go_simp; rfl⟩) ?_
  refine wpAny_take (i := 4) (v := ?_) rfl (by kernel_rfl) (by kernel_rfl) (by kernel_rfl) (fun _ _ _ h => h) (Or.inl ⟨by kernel_rfl, fun _ => by go_simp; rfl⟩) ?_
  refine wpAny_take (i := 5) (v := ?_) rfl (by kernel_rfl) (by kernel_rfl) (by kernel_rfl) (fun _ _ _ h => h) (Or.inl ⟨by kernel_rfl, fun _ => by go_simp; rfl⟩) ?_
  refine wpAny_take (i := 6) (v := ?_) rfl (by kernel_rfl) (by kernel_rfl) (by kernel_rfl) (fun _ _ _ h => h) (Or.inl ⟨by kernel_rfl, fun _ => by go_simp; rfl⟩) ?_
  refine wpAny_take (i := 7) (v := ?_) rfl (by kernel_rfl) (by kernel_rfl) (by kernel_rfl) (fun _ _ _ h => h) (Or.inl ⟨by kernel_rfl, fun _ => by go_simp; rfl⟩) ?_
  refine wpAny_take (i := 8) (v := ?_) rfl (by kernel_rfl) (by kernel_rfl) (by kernel_rfl) (fun _ _ _ h => h) (Or.inl ⟨by kernel_rfl, fun _ => by go_simp; rfl⟩) ?_
  go_simp
  refine wpAny_take (i := 9) (v := ?_) rfl (by kernel_rfl) (by kernel_rfl) (by kernel_rfl) (fun _ _ _ h => h) (Or.inl ⟨by kernel_rfl, fun _ => by go_simp; rfl⟩) ?_
  refine wpAny_take (i := 10) (v := ?_) rfl (by kernel_rfl) (by kernel_rfl) (by kernel_rfl) (fun _ _ _ h => h) (Or.inl ⟨by kernel_rfl, fun _ => by go_simp; rfl⟩) ?_
  refine wpAny_take (i := 11) (v := ?_) rfl (by kernel_rfl) (by kernel_rfl) (by kernel_rfl) (fun _ _ _ h => h) (Or.inl ⟨by kernel_rfl, fun _ => by go_simp; rfl⟩) ?_
  refine wpAny_take (i := 12) (v := ?_) rfl (by kernel_rfl) (by kernel_rfl) (by kernel_rfl) (fun _ _ _ h => h) (Or.inl ⟨by kernel_rfl, fun _ => by go_simp; rfl⟩) ?_
  refine wpAny_take (i := 13) (v := ?_) rfl (by kernel_rfl) (by kernel_rfl) (by kernel_rfl) (fun _ _ _ h => h) (Or.inl ⟨by kernel_rfl, fun _ => by go_simp; rfl⟩) ?_
  refine wpAny_take (i := 14) (v := ?_) rfl (by kernel_rfl) (by kernel_rfl) (by kernel_rfl) (fun _ _ _ h => h) (Or.inl ⟨by kernel_rfl, fun _ => by go_simp; rfl⟩) ?_
  go_simp
  refine wpAny_take (i := 15) (v := ?_) rfl (by kernel_rfl) (by kernel_rfl) (by kernel_rfl) (fun _ _ _ h => h) (Or.inl ⟨by kernel_rfl, fun _ => by go_simp; rfl⟩) ?_
  refine wpAny_take (i := 16) (v := ?_) rfl (by kernel_rfl) (by kernel_rfl) (by kernel_rfl) (fun _ _ _ h => h) (Or.inl ⟨by kernel_rfl, fun _ => by go_simp; rfl⟩) ?_
  refine wpAny_take (i := 17) (v := ?_) rfl (by kernel_rfl) (by kernel_rfl) (by kernel_rfl) (fun _ _ _ h => h) (Or.inl ⟨by kernel_rfl, fun _ => by go_simp; rfl⟩) ?_
  refine wpAny_take (i := 18) (v := ?_) rfl (by kernel_rfl) (by kernel_rfl) (by kernel_rfl) (fun _ _ _ h => h) (Or.inl ⟨by kernel_rfl, fun _ => by go_simp; rfl⟩) ?_
  refine wpAny_take (i := 19) (v := ?_) rfl (by kernel_rfl) (by kernel_rfl) (by kernel_rfl) (fun _ _ _ h => h) (Or.inl ⟨by kernel_rfl, fun _ => by go_simp; rfl⟩) ?_
  refine wpAny_take (i := 20) (v := ?_) rfl (by kernel_rfl) (by kernel_rfl) (by kernel_rfl) (fun _ _ _ h => h) (Or.inl ⟨by kernel_rfl, fun _ => by go_simp; rfl⟩) ?_
  go_simp
  refine wpAny_take (i := 21) (v := ?_) rfl (by kernel_rfl) (by kernel_rfl) (by kernel_rfl) (fun _ _ _ h => h) (Or.inl ⟨by kernel_rfl, fun _ => by go_simp; rfl⟩) ?_
  refine wpAny_take (i := 22) (v := ?_) rfl (by kernel_rfl) (by kernel_rfl) (by kernel_rfl) (fun _ _ _ h => h) (Or.inl ⟨by kernel_rfl, fun _ => by go_simp; rfl⟩) ?_
  refine wpAny_take (i := 23) (v := ?_) rfl (by kernel_rfl) (by kernel_rfl) (by kernel_rfl) (fun _ _ _ h => h) (Or.inl ⟨by kernel_rfl, fun _ => by go_simp; rfl⟩) ?_
  refine wpAny_take (i := 24) (v := ?_) rfl (by kernel_rfl) (by kernel_rfl) (by kernel_rfl) (fun _ _ _ h => h) (Or.inl ⟨by kernel_rfl, fun _ => by go_simp; rfl⟩) ?_
  refine wpAny_take (i := 25) (v := ?_) rfl (by kernel_rfl) (by kernel_rfl) (by kernel_rfl) (fun _ _ _ h => h) (Or.inl ⟨by kernel_rfl, fun _ => by go_simp; rfl⟩) ?_
  refine wpAny_take (i := 26) (v := ?_) rfl (by kernel_rfl) (by kernel_rfl) (by kernel_rfl) (fun _ _ _ h => h) (Or.inl ⟨by kernel_rfl, fun _ => by go_simp; rfl⟩) ?_
  go_simp
  refine wpAny_take (i := 27) (v := ?_) rfl (by kernel_rfl) (by kernel_rfl) (by kernel_rfl) (fun _ _ _ h => h) (Or.inl ⟨by kernel_rfl, fun _ => by go_simp; rfl⟩) ?_
  refine wpAny_take (i := 28) (v := ?_) rfl (by kernel_rfl) (by kernel_rfl) (by kernel_rfl) (fun _ _ _ h => h) (Or.inl ⟨by kernel_rfl, fun _ => by go_simp; rfl⟩) ?_
  refine wpAny_take (i := 29) (v := ?_) rfl (by kernel_rfl) (by kernel_rfl) (by kernel_rfl) (fun _ _ _ h => h) (Or.inl ⟨by kernel_rfl, fun _ => by go_simp; rfl⟩) ?_
  refine wpAny_take (i := 30) (v := ?_) rfl (by kernel_rfl) (by kernel_rfl) (by kernel_rfl) (fun _ _ _ h => h) (Or.inl ⟨by kernel_rfl, fun _ => by go_simp; rfl⟩) ?_
  refine wpAny_take (i := 31) (v := ?_) rfl (by kernel_rfl) (by kernel_rfl) (by kernel_rfl) (fun _ _ _ h => h) (Or.inl ⟨by kernel_rfl, fun _ => by go_simp; rfl⟩) ?_
  refine wpAny_take (i := 32) (v := ?_) rfl (by kernel_rfl) (by kernel_rfl) (by kernel_rfl) (fun _ _ _ h => h) (Or.inl ⟨by kernel_rfl, fun _ => by go_simp; rfl⟩) ?_
  go_simp
  refine wpAny_take (i := 33) (v := ?_) rfl (by kernel_rfl) (by kernel_rfl) (by kernel_rfl) (fun _ _ _ h => h) (Or.inl ⟨by kernel_rfl, fun _ => by go_simp; rfl⟩) ?_
  refine wpAny_take (i := 34) (v := ?_) rfl (by kernel_rfl) (by kernel_rfl) (by kernel_rfl) (fun _ _ _ h => h) (Or.inl ⟨by kernel_rfl, fun _ => by go_simp; rfl⟩) ?_
  refine wpAny_take (i := 35) (v := ?_) rfl (by kernel_rfl) (by kernel_rfl) (by kernel_rfl) (fun _ _ _ h => h) (Or.inl ⟨by kernel_rfl, fun _ => by go_simp; rfl⟩) ?_
  refine wpAny_take (i := 36) (v := ?_) rfl (by kernel_rfl) (by kernel_rfl) (by kernel_rfl) (fun _ _ _ h => h) (Or.inl ⟨by kernel_rfl, fun _ => by go_simp; rfl⟩) ?_
  refine wpAny_take (i := 37) (v := ?_) rfl (by kernel_rfl) (by kernel_rfl) (by kernel_rfl) (fun _ _ _ h => h) (Or.inl ⟨by kernel_rfl, fun _ => by go_simp; rfl⟩) ?_
  refine wpAny_take (i := 38) (v := ?_) rfl (by kernel_rfl) (by kernel_rfl) (by kernel_rfl) (fun _ _ _ h => h) (Or.inl ⟨by kernel_rfl, fun _ => by go_simp; rfl⟩) ?_
  go_simp
  refine wpAny_take (i := 39) (v := ?_) rfl (by kernel_rfl) (by kernel_rfl) (by kernel_rfl) (fun _ _ _ h => h) (Or.inl ⟨by kernel_rfl, fun _ => by go_simp; rfl⟩) ?_
  refine wpAny_take (i := 40) (v := ?_) rfl (by kernel_rfl) (by kernel_rfl) (by kernel_rfl) (fun _ _ _ h => h) (Or.inl ⟨by kernel_rfl, fun _ => by go_simp; rfl⟩) ?_
  refine wpAny_take (i := 41) (v := ?_) rfl (by kernel_rfl) (by kernel_rfl) (by kernel_rfl) (fun _ _ _ h => h) (Or.inl ⟨by kernel_rfl, fun _ => by go_simp; rfl⟩) ?_
  refine wpAny_take (i := 42) (v := ?_) rfl (by kernel_rfl) (by kernel_rfl) (by kernel_rfl) (fun _ _ _ h => h) (Or.inl ⟨by kernel_rfl, fun _ => by go_simp; rfl⟩) ?_
  refine wpAny_take (i := 43) (v := ?_) rfl (by kernel_rfl) (by kernel_rfl) (by kernel_rfl) (fun _ _ _ h => h) (Or.inl ⟨by kernel_rfl, fun _ => by go_simp; rfl⟩) ?_
  go_simp
  refine wpAny_done (by kernel_rfl) ?_ _
  go_wp2
  go_ret
  exact ⟨rfl, Hb7.out⟩

end Go.Proofs.Ytgcfaeipiiagdaa
