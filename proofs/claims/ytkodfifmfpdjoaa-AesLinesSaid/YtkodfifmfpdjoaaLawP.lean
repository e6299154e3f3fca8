/-
  Plain: a block that was encrypted so many times more often than decrypted.
-/
import Derived.Test.YtkodfifmfpdjoaaAesP
namespace Go.Proofs.Ytkodfifmfpdjoaa
namespace Aes

def up (k b : List Nat) : Nat → List Nat
  | 0 => b
  | n + 1 => enc k (up k b n)
def dn (k b : List Nat) : Nat → List Nat
  | 0 => b
  | n + 1 => dec k (dn k b n)
def pw (k b : List Nat) (u : Int) : List Nat := if 0 ≤ u then up k b u.toNat else dn k b (-u).toNat

section
variable {n : Nat} {k b : List Nat} (hk : k.length = 4 * n) (hka : Bs.All k) (hbl : b.length = 16) (hb : Bs.All b)
include hk hka hbl hb

theorem up_all : ∀ m, (up k b m).length = 16 ∧ Bs.All (up k b m)
  | 0 => ⟨hbl, hb⟩
  | m + 1 => enc_length hk hka (up_all m).2
theorem dn_all : ∀ m, (dn k b m).length = 16 ∧ Bs.All (dn k b m)
  | 0 => ⟨hbl, hb⟩
  | m + 1 => dec_length hk hka (dn_all m).1 (dn_all m).2
theorem pw_all (u : Int) : (pw k b u).length = 16 ∧ Bs.All (pw k b u) := by
  unfold pw
  split
  · exact up_all hk hka hbl hb _
  · exact dn_all hk hka hbl hb _
theorem enc_pw (u : Int) : enc k (pw k b u) = pw k b (u + 1) := by
  by_cases h : 0 ≤ u
  · rw [pw, if_pos h, pw, if_pos (by omega), show (u + 1).toNat = u.toNat + 1 by omega]; rfl
  · rw [pw, if_neg h]
    obtain ⟨m, hm⟩ : ∃ m, (-u).toNat = m + 1 := ⟨(-u).toNat - 1, by omega⟩
    rw [hm, dn, enc_dec hk hka (dn_all hk hka hbl hb m).1 (dn_all hk hka hbl hb m).2]
    by_cases h2 : u = -1
    · subst h2
      obtain rfl : m = 0 := by omega
      rfl
    · rw [pw, if_neg (by omega), show (-(u + 1)).toNat = m by omega]
theorem dec_pw (u : Int) : dec k (pw k b u) = pw k b (u - 1) := by
  by_cases h : 0 < u
  · rw [pw, if_pos (by omega)]
    obtain ⟨m, hm⟩ : ∃ m, u.toNat = m + 1 := ⟨u.toNat - 1, by omega⟩
    rw [hm, up, dec_enc hk hka (up_all hk hka hbl hb m).1 (up_all hk hka hbl hb m).2, pw, if_pos (by omega), show (u - 1).toNat = m by omega]
  · by_cases h2 : u = 0
    · subst h2; rfl
    · rw [pw, if_neg (by omega), pw, if_neg (by omega), show (-(u - 1)).toNat = (-u).toNat + 1 by omega]; rfl
end
theorem pw_zero (k b : List Nat) : pw k b 0 = b := rfl

end Aes
end Go.Proofs.Ytkodfifmfpdjoaa
