/-
  The contracts of package aes: Encrypt, Decrypt, Expand.
-/
import Derived.Test.YtgcfaeipiiagdaaAesK
namespace Go.Proofs.Ytgcfaeipiiagdaa
open Go.RowKit

def Aes.badKey (k : ByteArray) : Prop := k.size ≠ 16 ∧ k.size ≠ 32

set_option maxHeartbeats 1000000 in
theorem Encrypt_any (n : Nat) (hn : n = 4 ∨ n = 8) (k b : ByteArray) (hk : k.size = 4 * n) (hb : b.size = 16) (w : World) :
    Calls Try.prog 29 #[.string k, .string b] w fun e w' =>
      e = .returned (.tuple #[.string (strOf (Aes.enc (bytesOf k) (bytesOf b))), .int .i64 0]) ∧ Below w.heap.size w w' := by
  have t1 : ((b.size : Int) != 16) = false := by rw [bne_eq_false_iff_eq]; omega
  go_enter Try.func29, Try.ntmps29
  go_wp2_with fail
  refine (newCipher_some k n hn hk _).mono ?_
  rintro e w1 ⟨rfl, hw1⟩
  have hr1 : Row w1 w.heap.size 95 #[.string k, .int .u32 0, .int .i32 0, .int .u32 0, .slice none 0 0] := by rw [hw1]; exact Row.new _ _ _
  have hk1 : Keep (fun _ => True) w w1 := by rw [hw1]; exact (Keep.refl _ _).alloc _
  have Hr1 := Lib.hid hr1
  have Hk1 := Lib.hid hk1
  clear hw1 hr1 hk1
  go_wp2_with fail
  refine (encrypt_any w.heap.size n hn k b hk hb w1 Hr1.out).mono ?_
  rintro e w2 ⟨rfl, hk2⟩
  have Hk2 := Lib.hid hk2
  clear hk2
  go_wp2
  go_ret2
  exact ⟨rfl, (Hk1.out.on Hk2.out (fun j _ hl => by omega)).toBelow (fun _ _ => trivial)⟩

theorem aesKey_cases (k : ByteArray) : Aes.badKey k ∨ ∃ n, (n = 4 ∨ n = 8) ∧ k.size = 4 * n := by
  by_cases h1 : k.size = 16
  · exact .inr ⟨4, .inl rfl, by omega⟩
  · by_cases h2 : k.size = 32
    · exact .inr ⟨8, .inr rfl, by omega⟩
    · exact .inl ⟨h1, h2⟩

set_option maxHeartbeats 1000000 in
theorem Encrypt_none (k b : ByteArray) (h : Aes.badKey k ∨ b.size ≠ 16) (w : World) :
    Calls Try.prog 29 #[.string k, .string b] w fun e w' => e = .returned (.tuple #[.string ⟨#[]⟩, .int .i64 1]) ∧ Below w.heap.size w w' := by
  go_enter Try.func29, Try.ntmps29
  rcases aesKey_cases k with hb | ⟨n, hn, hk⟩
  · go_wp2_with fail
    refine (newCipher_none k hb.1 hb.2 _).mono ?_
    rintro e w1 ⟨rfl, rfl⟩
    go_wp2
    go_ret2
    exact ⟨rfl, Below.refl _ _⟩
  · have hbs : b.size ≠ 16 := h.resolve_left (fun hb => by obtain ⟨h1, h2⟩ := hb; omega)
    have t1 : ((b.size : Int) != 16) = true := by rw [bne_iff_ne]; omega
    go_wp2_with fail
    refine (newCipher_some k n hn hk _).mono ?_
    rintro e w1 ⟨rfl, hw1⟩
    have hk1 : Below w.heap.size w w1 := by rw [hw1]; exact ((Keep.refl (fun _ => True) _).alloc _).toBelow (fun _ _ => trivial)
    have Hk1 := Lib.hid hk1
    clear hw1 hk1
    go_wp2
    go_ret2
    exact ⟨rfl, Hk1.out⟩

theorem Expand_none (k : ByteArray) (h : Aes.badKey k) (w : World) :
    Calls Try.prog 27 #[.string k] w fun e w' => e = .returned (.tuple #[.string ⟨#[]⟩, .int .i64 1]) ∧ Below w.heap.size w w' := by
  go_enter Try.func27, Try.ntmps27
  go_wp2_with fail
  refine (newCipher_none k h.1 h.2 _).mono ?_
  rintro e w1 ⟨rfl, rfl⟩
  go_wp2
  go_ret2
  exact ⟨rfl, Below.refl _ _⟩

theorem Aes.infoByte : (Try.prog.info? 5).map (fun i => (i.zero, i.size, i.bytes)) = some (some (.int .u8 0), 1, 1) := by kernel_rfl

/-- Round keys on their way into one text: i of them are in it. -/
def TextAt (B g cap n : Nat) (L : List Nat) (w : World) (vb vi : Value) (wr : World) : Prop :=
  ∃ i : Nat, i ≤ n + 7 ∧ vi = .int .i64 (i : Int) ∧ wr.ownsRow w.heap.size 5 1 vb (16 * i) ((L.take (16 * i)).map U) ∧
    wr.ownsRow B 85 16 (.slice (some ⟨g, 0, none⟩) (n + 7) cap) (n + 7) (L.map U) ∧ vb.ownBlock ≠ some g ∧ Keep (fun _ => True) w wr

set_option maxRecDepth 100000 in
set_option maxHeartbeats 2000000 in
theorem Expand_any (n : Nat) (hn : n = 4 ∨ n = 8) (k : ByteArray) (hk : k.size = 4 * n) (w : World) :
    Calls Try.prog 27 #[.string k] w fun e w' => e = .returned (.tuple #[.string (strOf (Aes.expanded (bytesOf k))), .int .i64 0]) ∧ Below w.heap.size w w' := by
  obtain ⟨i0, hi0, hz0, hz1, hz2⟩ := info_parts Aes.infoByte
  go_enter Try.func27, Try.ntmps27
  go_wp2_with fail
  refine (newCipher_some k n hn hk _).mono ?_
  rintro e w1 ⟨rfl, hw1⟩
  have hr1 : Row w1 w.heap.size 95 #[.string k, .int .u32 0, .int .i32 0, .int .u32 0, .slice none 0 0] := by rw [hw1]; exact Row.new _ _ _
  have hk1 : Keep (fun _ => True) w w1 := by rw [hw1]; exact (Keep.refl _ _).alloc _
  have Hr1 := Lib.hid hr1
  have Hk1 := Lib.hid hk1
  clear hw1 hr1 hk1
  go_wp2_with fail
  refine (keys_first w.heap.size n k hn hk (.int .u32 0) w1 Hr1.out).mono ?_
  rintro e w2 ⟨v, rfl, -, hown, hk2⟩
  obtain ⟨g, cap, rfl, hgb, hgl⟩ := owns_row hown (by omega)
  have hk02 : Keep (fun _ => True) w w2 := Hk1.out.on hk2 (fun j _ hl => by omega)
  have hlen : (Aes.expanded (bytesOf k)).length = 16 * (n + 7) := by rw [Aes.expanded_length, bytesOf_length, hk]; omega
  obtain ⟨L, hL⟩ : ∃ L, Aes.expanded (bytesOf k) = L := ⟨_, rfl⟩
  rw [hL] at hown hlen
  have hst : TextAt w1.heap.size g cap n L w (.slice none 0 0) (.int .i64 0) w2 :=
    ⟨0, by omega, rfl, by simpa using World.ownsRow_nil w2 w.heap.size _ 1, hown, by simp [Value.ownBlock], hk02⟩
  have Hst := Lib.hid hst
  have HL := Lib.hid hL
  clear hst hown hk02 hk2 hL
  go_wp2
  go_loopw [5, 15] (fun vb vi wr => TextAt w1.heap.size g cap n L w vb vi wr) (fun _ vi _ => n + 7 - (intOf vi).toNat)
  case atStart => exact Hst.out
  case round =>
    clear Hst
    obtain ⟨i, hi, rfl, hb, hown, hne, hkeep⟩ := hrel
    by_cases hlt : i < n + 7
    · have hlt' : (i : Int) < (n : Int) + 7 := by omega
      have hcell : ∀ t, t < 16 → wr.cell? ⟨g, i * 16 + t, none⟩ = some (U (L.getD (i * 16 + t) 0)) := fun t ht => by
        rw [hown.cellAt _ (by omega)]
        simp [List.getD_eq_getElem?_getD, show i * 16 + t < L.length by omega]
      have q0 := hcell 0 (by decide)
      have q1 := hcell 1 (by decide)
      have q2 := hcell 2 (by decide)
      have q3 := hcell 3 (by decide)
      have q4 := hcell 4 (by decide)
      have q5 := hcell 5 (by decide)
      have q6 := hcell 6 (by decide)
      have q7 := hcell 7 (by decide)
      have q8 := hcell 8 (by decide)
      have q9 := hcell 9 (by decide)
      have q10 := hcell 10 (by decide)
      have q11 := hcell 11 (by decide)
      have q12 := hcell 12 (by decide)
      have q13 := hcell 13 (by decide)
      have q14 := hcell 14 (by decide)
      have q15 := hcell 15 (by decide)
      rw [Nat.add_zero] at q0
      have htk : L.take (16 * (i + 1)) = L.take (16 * i) ++ [L.getD (i * 16) 0, L.getD (i * 16 + 1) 0, L.getD (i * 16 + 2) 0, L.getD (i * 16 + 3) 0, L.getD (i * 16 + 4) 0, L.getD (i * 16 + 5) 0, L.getD (i * 16 + 6) 0, L.getD (i * 16 + 7) 0, L.getD (i * 16 + 8) 0, L.getD (i * 16 + 9) 0, L.getD (i * 16 + 10) 0, L.getD (i * 16 + 11) 0, L.getD (i * 16 + 12) 0, L.getD (i * 16 + 13) 0, L.getD (i * 16 + 14) 0, L.getD (i * 16 + 15) 0] := by
        have hl16 : ((L.drop (16 * i)).take 16).length = 16 := by simp; omega
        rw [Nat.mul_add, Nat.mul_one, List.take_add]
        congr 1
        rw [list16 hl16]
        simp only [List.getD_eq_getElem?_getD, List.getElem?_take, List.getElem?_drop, Nat.reduceLT, if_true, Nat.mul_comm 16 i, Nat.add_zero]
      generalize L.getD (i * 16) 0 = k0 at *
      generalize L.getD (i * 16 + 1) 0 = k1 at *
      generalize L.getD (i * 16 + 2) 0 = k2 at *
      generalize L.getD (i * 16 + 3) 0 = k3 at *
      generalize L.getD (i * 16 + 4) 0 = k4 at *
      generalize L.getD (i * 16 + 5) 0 = k5 at *
      generalize L.getD (i * 16 + 6) 0 = k6 at *
      generalize L.getD (i * 16 + 7) 0 = k7 at *
      generalize L.getD (i * 16 + 8) 0 = k8 at *
      generalize L.getD (i * 16 + 9) 0 = k9 at *
      generalize L.getD (i * 16 + 10) 0 = k10 at *
      generalize L.getD (i * 16 + 11) 0 = k11 at *
      generalize L.getD (i * 16 + 12) 0 = k12 at *
      generalize L.getD (i * 16 + 13) 0 = k13 at *
      generalize L.getD (i * 16 + 14) 0 = k14 at *
      generalize L.getD (i * 16 + 15) 0 = k15 at *
      have hrow := Row.new wr 85 #[U k0, U k1, U k2, U k3, U k4, U k5, U k6, U k7, U k8, U k9, U k10, U k11, U k12, U k13, U k14, U k15]
      have hnews : ∀ j u, [U k0, U k1, U k2, U k3, U k4, U k5, U k6, U k7, U k8, U k9, U k10, U k11, U k12, U k13, U k14, U k15][j]? = some u → (wr.alloc (.cells #[U k0, U k1, U k2, U k3, U k4, U k5, U k6, U k7, U k8, U k9, U k10, U k11, U k12, U k13, U k14, U k15] 85)).cell? ((⟨wr.heap.size, 0, none⟩ : Addr).add j) = some u := fun j u hu => by
        rw [Addr.add_mid, Nat.zero_add, hrow.cell j]; simpa using hu
      have Hnews := Lib.hid hnews
      have Htk := Lib.hid htk
      have Hb := Lib.hid (hb.alloc (.cells #[U k0, U k1, U k2, U k3, U k4, U k5, U k6, U k7, U k8, U k9, U k10, U k11, U k12, U k13, U k14, U k15] 85))
      have Hown := Lib.hid (hown.alloc (.cells #[U k0, U k1, U k2, U k3, U k4, U k5, U k6, U k7, U k8, U k9, U k10, U k11, U k12, U k13, U k14, U k15] 85))
      have Hkeep := Lib.hid (hkeep.alloc (.cells #[U k0, U k1, U k2, U k3, U k4, U k5, U k6, U k7, U k8, U k9, U k10, U k11, U k12, U k13, U k14, U k15] 85))
      have Hne := Lib.hid hne
      have hi14 : i ≤ 14 := by omega
      clear hcell htk hrow hnews hb hown hkeep hne
      go_wp2_with (at_builtin; go_must (refine wpList_append_own _ rfl _ _ 35 rfl w.heap.size 5 i0 _ 1 1 Try.underlying35 hi0 hz0 hz1 hz2 rfl (by decide) _ _ _ rfl Hb.out ⟨wr.heap.size, 0, none⟩ 16 16 [U k0, U k1, U k2, U k3, U k4, U k5, U k6, U k7, U k8, U k9, U k10, U k11, U k12, U k13, U k14, U k15] rfl rfl Hnews.out (by simp [Value.oneCell']) (by unfold maxLen; omega) (by omega) Hkeep.out.size ?_); intro v' w3 hown' hgrow _)
      have hkeys := owns_keep Hown.out (keep_grown hgrow) (fun j hj e => Hne.out (e.trans hj.symm))
      have hap := owns_apart hown' hkeys (by decide) (g := g) rfl
      have hkp := Hkeep.out.on (keep_grown hgrow) (fun j _ hl e => by have := (Hb.out.lt j e).1; omega)
      go_roundw
      case rel =>
        refine ⟨i + 1, by omega, by go_num, ?_, hkeys, hap, hkp⟩
        rw [Htk.out, List.map_append]
        exact hown'
      case measure => simp [intOf]; omega
    · obtain rfl : i = n + 7 := by omega
      have hlt' : ¬ ((n + 7 : Nat) : Int) < (n : Int) + 7 := by omega
      obtain ⟨g', cap', rfl, hbg', hlg'⟩ := owns_row hb (by omega)
      have hcv := conv_string (P := Try.prog) (src := 35) (dst := 9) Try.underlying35 Try.underlying5 Try.underlying9 g' 0 cap' L wr (fun j hj => by
        rw [Nat.zero_add, hb.cellAt j (by omega), List.take_of_length_le (by omega)]
        simp [List.getD_eq_getElem?_getD, hj]) (16 * (n + 7)) hlen
      have Hkeep := Lib.hid hkeep
      clear hb hown hkeep hne
      go_wp2
      go_ret2
      exact ⟨by rw [HL.out]; rfl, Hkeep.out.toBelow (fun _ _ => trivial)⟩

end Go.Proofs.Ytgcfaeipiiagdaa
