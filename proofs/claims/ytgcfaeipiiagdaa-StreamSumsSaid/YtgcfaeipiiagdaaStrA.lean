/-
  What aes.Expand tells of a key.
-/
import Derived.Test.YtgcfaeipiiagdaaStrE
import Derived.Test.YtgcfaeipiiagdaaAesL
namespace Go.Proofs.Ytgcfaeipiiagdaa
open Go.RowKit

theorem Str.told (t : ByteArray) : Str.Told t := by
  intro w
  rcases aesKey_cases t with h | ⟨n, hn, hk⟩
  · refine (Expand_none t h w).mono fun e w' h2 => ⟨_, _, h2.1, ?_, h2.2⟩
    rw [Str.good, decide_eq_false (by unfold Aes.badKey at h; omega)]
    rfl
  · refine (Expand_any n hn t hk w).mono fun e w' h2 => ⟨_, _, h2.1, ?_, h2.2⟩
    rw [Str.good, decide_eq_true (by omega)]
    rfl

theorem Str.enc (t : ByteArray) (hg : Str.good t = true) : Str.Enc t (Aes.enc (bytesOf t)) := by
  have h : t.size = 16 ∨ t.size = 32 := of_decide_eq_true hg
  intro c hc w
  rcases h with h | h
  · exact Encrypt_any 4 (.inl rfl) t c h hc w
  · exact Encrypt_any 8 (.inr rfl) t c h hc w

end Go.Proofs.Ytgcfaeipiiagdaa
