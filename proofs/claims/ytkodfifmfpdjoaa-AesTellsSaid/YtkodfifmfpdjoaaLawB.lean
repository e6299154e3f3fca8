/-
  Layer 4's awake: chapter 4's example comes out.
-/
import Derived.Test.YtkodfifmfpdjoaaAesL
import Derived.Test.YtkodfifmfpdjoaaAesP
import Derived.Test.YtkodfifmfpdjoaaLawA
namespace Go.Proofs.Ytkodfifmfpdjoaa
open Go.RowKit

theorem awake4_key : bytesOf ⟨#[0, 1, 2, 3, 4, 5, 6, 7, 8, 9, 10, 11, 12, 13, 14, 15]⟩ = [0, 1, 2, 3, 4, 5, 6, 7, 8, 9, 10, 11, 12, 13, 14, 15] := by decide +kernel
theorem awake4_block : bytesOf ⟨#[0, 17, 34, 51, 68, 85, 102, 119, 136, 153, 170, 187, 204, 221, 238, 255]⟩ = [0, 17, 34, 51, 68, 85, 102, 119, 136, 153, 170, 187, 204, 221, 238, 255] := by decide +kernel
theorem awake4_out : bytesOf ⟨#[105, 196, 224, 216, 106, 123, 4, 48, 216, 205, 183, 128, 112, 180, 197, 90]⟩ = [105, 196, 224, 216, 106, 123, 4, 48, 216, 205, 183, 128, 112, 180, 197, 90] := by decide +kernel

theorem awake4_calls (w : World) :
    (Calls Try.prog 13 #[.string ⟨#[0, 1, 2, 3, 4, 5, 6, 7, 8, 9, 10, 11, 12, 13, 14, 15]⟩, .string ⟨#[0, 17, 34, 51, 68, 85, 102, 119, 136, 153, 170, 187, 204, 221, 238, 255]⟩] w fun e w' => e = .returned (.tuple #[.string ⟨#[105, 196, 224, 216, 106, 123, 4, 48, 216, 205, 183, 128, 112, 180, 197, 90]⟩, .int .i64 0]) ∧ Below w.heap.size w w') ∧
    (Calls Try.prog 15 #[.string ⟨#[0, 1, 2, 3, 4, 5, 6, 7, 8, 9, 10, 11, 12, 13, 14, 15]⟩, .string ⟨#[105, 196, 224, 216, 106, 123, 4, 48, 216, 205, 183, 128, 112, 180, 197, 90]⟩] w fun e w' => e = .returned (.tuple #[.string ⟨#[0, 17, 34, 51, 68, 85, 102, 119, 136, 153, 170, 187, 204, 221, 238, 255]⟩, .int .i64 0]) ∧ Below w.heap.size w w') ∧
    (Calls Try.prog 11 #[.string ⟨#[0, 1, 2, 3, 4, 5, 6, 7, 8, 9, 10, 11, 12, 13, 14, 15]⟩] w fun e w' => ∃ c : ByteArray, c.size = 176 ∧ e = .returned (.tuple #[.string c, .int .i64 0]) ∧ Below w.heap.size w w') ∧
    (∀ kk : ByteArray, kk.size = 32 → Calls Try.prog 11 #[.string kk] w fun e w' => ∃ c : ByteArray, c.size = 240 ∧ e = .returned (.tuple #[.string c, .int .i64 0]) ∧ Below w.heap.size w w') ∧
    (Calls Try.prog 13 #[.string ⟨#[0, 1, 2, 3, 4, 5, 6, 7, 8, 9, 10, 11, 12, 13, 14, 15]⟩, .string ⟨#[120]⟩] w fun e w' => e = .returned (.tuple #[.string ⟨#[]⟩, .int .i64 1]) ∧ Below w.heap.size w w') ∧
    (Calls Try.prog 11 #[.string ⟨#[120]⟩] w fun e w' => e = .returned (.tuple #[.string ⟨#[]⟩, .int .i64 1]) ∧ Below w.heap.size w w') := by
  have hk : (bytesOf ⟨#[0, 1, 2, 3, 4, 5, 6, 7, 8, 9, 10, 11, 12, 13, 14, 15]⟩).length = 4 * 4 := by rw [awake4_key]; rfl
  have hb : (bytesOf ⟨#[0, 17, 34, 51, 68, 85, 102, 119, 136, 153, 170, 187, 204, 221, 238, 255]⟩).length = 16 := by rw [awake4_block]; rfl
  have he : Aes.enc (bytesOf ⟨#[0, 1, 2, 3, 4, 5, 6, 7, 8, 9, 10, 11, 12, 13, 14, 15]⟩) (bytesOf ⟨#[0, 17, 34, 51, 68, 85, 102, 119, 136, 153, 170, 187, 204, 221, 238, 255]⟩) = bytesOf ⟨#[105, 196, 224, 216, 106, 123, 4, 48, 216, 205, 183, 128, 112, 180, 197, 90]⟩ := by rw [awake4_key, awake4_block, awake4_out]; exact Aes.awake_enc
  have hd : Aes.dec (bytesOf ⟨#[0, 1, 2, 3, 4, 5, 6, 7, 8, 9, 10, 11, 12, 13, 14, 15]⟩) (bytesOf ⟨#[105, 196, 224, 216, 106, 123, 4, 48, 216, 205, 183, 128, 112, 180, 197, 90]⟩) = bytesOf ⟨#[0, 17, 34, 51, 68, 85, 102, 119, 136, 153, 170, 187, 204, 221, 238, 255]⟩ := by rw [← he]; exact Aes.dec_enc hk (bytesOf_all _) hb (bytesOf_all _)
  refine ⟨?_, ?_, ?_, ?_, ?_, ?_⟩
  · refine (Encrypt_any 4 (.inl rfl) ⟨#[0, 1, 2, 3, 4, 5, 6, 7, 8, 9, 10, 11, 12, 13, 14, 15]⟩ ⟨#[0, 17, 34, 51, 68, 85, 102, 119, 136, 153, 170, 187, 204, 221, 238, 255]⟩ (by decide) (by decide) w).mono fun e w' h => ?_
    rw [he, strOf_bytesOf] at h
    exact h
  · refine (Decrypt_any 4 (.inl rfl) ⟨#[0, 1, 2, 3, 4, 5, 6, 7, 8, 9, 10, 11, 12, 13, 14, 15]⟩ ⟨#[105, 196, 224, 216, 106, 123, 4, 48, 216, 205, 183, 128, 112, 180, 197, 90]⟩ (by decide) (by decide) w).mono fun e w' h => ?_
    rw [hd, strOf_bytesOf] at h
    exact h
  · refine (Expand_any 4 (.inl rfl) ⟨#[0, 1, 2, 3, 4, 5, 6, 7, 8, 9, 10, 11, 12, 13, 14, 15]⟩ (by decide) w).mono fun e w' h => ⟨_, ?_, h⟩
    rw [strOf_size, Aes.expanded_length, hk]
  · intro kk hkk
    refine (Expand_any 8 (.inr rfl) kk hkk w).mono fun e w' h => ⟨_, ?_, h⟩
    rw [strOf_size, Aes.expanded_length, bytesOf_length, hkk]
  · exact Encrypt_none _ _ (.inr (by decide)) w
  · exact Expand_none _ ⟨by decide, by decide⟩ w

set_option maxRecDepth 100000 in
set_option maxHeartbeats 2000000 in
theorem awake4_any (w : World) : Calls Try.prog 8 #[] w fun e w' => e = .returned (.bool true) ∧ Below w.heap.size w w' := by
  obtain ⟨kk, hkk⟩ : ∃ kk : ByteArray, (⟨#[0, 1, 2, 3, 4, 5, 6, 7, 8, 9, 10, 11, 12, 13, 14, 15]⟩ : ByteArray) ++ ⟨#[0, 1, 2, 3, 4, 5, 6, 7, 8, 9, 10, 11, 12, 13, 14, 15]⟩ = kk := ⟨_, rfl⟩
  have hks : kk.size = 32 := by rw [← hkk]; rfl
  have hadd : ∀ w, (Op.stringOp .add ⟨#[0, 1, 2, 3, 4, 5, 6, 7, 8, 9, 10, 11, 12, 13, 14, 15]⟩ ⟨#[0, 1, 2, 3, 4, 5, 6, 7, 8, 9, 10, 11, 12, 13, 14, 15]⟩).run Try.prog w = .ok (.string kk) w := fun w => by rw [← hkk]; exact run_string_add_sum w _ _ (by decide)
  have Hks := Lib.hid hks
  clear hkk hks
  go_enter Try.func8, Try.ntmps8
  go_wp2_with fail
  refine (awake4_calls _).1.mono ?_
  rintro e w1 ⟨rfl, hb1⟩
  have Hb1 := Lib.hid hb1
  clear hb1
  go_wp2_with fail
  refine (awake4_calls _).2.1.mono ?_
  rintro e w2 ⟨rfl, hb2⟩
  have Hb2 := Lib.hid hb2
  clear hb2
  go_wp2_with fail
  refine (awake4_calls _).2.2.1.mono ?_
  rintro e w3 ⟨c, hc, rfl, hb3⟩
  have tc : ((c.size : Int) == 176) = true := by rw [beq_iff_eq]; omega
  have Hb3 := Lib.hid hb3
  clear hb3 hc
  go_wp2_with fail
  refine ((awake4_calls _).2.2.2.1 kk Hks.out).mono ?_
  rintro e w4 ⟨d, hd, rfl, hb4⟩
  have td : ((d.size : Int) == 240) = true := by rw [beq_iff_eq]; omega
  have Hb4 := Lib.hid hb4
  clear hb4 hd
  go_wp2_with fail
  refine (awake4_calls _).2.2.2.2.1.mono ?_
  rintro e w5 ⟨rfl, hb5⟩
  have Hb5 := Lib.hid hb5
  clear hb5
  go_wp2_with fail
  refine (awake4_calls _).2.2.2.2.2.mono ?_
  rintro e w6 ⟨rfl, hb6⟩
  have Hb6 := Lib.hid hb6
  clear hb6
  go_wp2
  go_ret
  exact ⟨rfl, below_seq Hb1.out (below_seq Hb2.out (below_seq Hb3.out (below_seq Hb4.out (below_seq Hb5.out Hb6.out))))⟩

end Go.Proofs.Ytkodfifmfpdjoaa
