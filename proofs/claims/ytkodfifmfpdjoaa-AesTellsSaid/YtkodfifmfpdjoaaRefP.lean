/-
  Plain: the document's answer of layer 4 computes what the program's functions compute.
-/
import Derived.Test.YtkodfifmfpdjoaaAesP
import Derived.Test.YtkodfifmfpdjoaaLawK
import Derived.Test.YtkodfifmfpdjoaaRefD
import Derived.Test.YtkodfifmfpdjoaaRefE
namespace Go.Proofs.Ytkodfifmfpdjoaa
namespace Aes

theorem xorL_add {a b : List Nat} (ha : a.length = 16) : xorL a b = add a b := by rw [xorL, ha]; rfl
theorem byT_subs {s : List Nat} (hs : s.length = 16) (ha : Bs.All s) : byT Fld.subsT s = each Fld.sub s := by
  rw [byT, hs]
  exact range_ext fun i _ => Fld.subsT_get (ha i)
theorem byT_backs {s : List Nat} (hs : s.length = 16) (ha : Bs.All s) : byT Fld.backsT s = each Fld.back s := by
  rw [byT, hs]
  exact range_ext fun i _ => Fld.backsT_get (ha i)

theorem mx_thrice {s : List Nat} (hs : s.length = 16) (ha : Bs.All s) : columns Fld.mx (columns Fld.mx (columns Fld.mx s)) = columns Fld.ux s := by
  have e : columns Fld.mx (columns Fld.mx (columns Fld.mx (columns Fld.mx s))) = s := by
    conv => rhs; rw [← range_self hs]
    rw [columns]
    refine range_ext fun i hi => ?_
    have e0 : 4 * (i / 4) < 16 := by omega
    have e1 : 4 * (i / 4) + 1 < 16 := by omega
    have e2 : 4 * (i / 4) + 2 < 16 := by omega
    have e3 : 4 * (i / 4) + 3 < 16 := by omega
    have d0 : 4 * (i / 4) / 4 = i / 4 := by omega
    have d1 : (4 * (i / 4) + 1) / 4 = i / 4 := by omega
    have d2 : (4 * (i / 4) + 2) / 4 = i / 4 := by omega
    have d3 : (4 * (i / 4) + 3) / 4 = i / 4 := by omega
    have m0 : 4 * (i / 4) % 4 = 0 := by omega
    have m1 : (4 * (i / 4) + 1) % 4 = 1 := by omega
    have m2 : (4 * (i / 4) + 2) % 4 = 2 := by omega
    have m3 : (4 * (i / 4) + 3) % 4 = 3 := by omega
    simp only [columns_get e0, columns_get e1, columns_get e2, columns_get e3, d0, d1, d2, d3, m0, m1, m2, m3]
    obtain ⟨f0, f1, f2, f3⟩ := Fld.mix_four (ha (4 * (i / 4))) (ha (4 * (i / 4) + 1)) (ha (4 * (i / 4) + 2)) (ha (4 * (i / 4) + 3)) ⟨rfl, rfl, rfl, rfl⟩ ⟨rfl, rfl, rfl, rfl⟩ ⟨rfl, rfl, rfl, rfl⟩
    rcases (show i % 4 = 0 ∨ i % 4 = 1 ∨ i % 4 = 2 ∨ i % 4 = 3 by omega) with h | h | h | h <;> rw [h]
    · rw [f0]; congr 1; omega
    · rw [f1]; congr 1; omega
    · rw [f2]; congr 1; omega
    · rw [f3]; congr 1; omega
  have h := ux_mx (columns_length _ _) (columns_all (s := columns Fld.mx (columns Fld.mx s)) Fld.mx_lt)
  rw [e] at h
  exact h.symm

theorem extract_strOf {l : List Nat} {a b : Nat} (hl : Bs.All l) (hb : b ≤ l.length) : (strOf l).extract a b = strOf ((l.drop a).take (b - a)) := by
  rw [← strOf_bytesOf (ByteArray.extract _ _ _), bytesOf_extract _ _ _ (by rw [strOf_size]; exact hb), bytesOf_strOf hl]
theorem append_strOf (l m : List Nat) : strOf l ++ strOf m = strOf (l ++ m) := by
  have h : ∀ a b : ByteArray, a.data = b.data → a = b := fun a b h => by cases a; cases b; simpa using h
  apply h
  simp [strOf, ByteArray.data_append]

end Aes
end Go.Proofs.Ytkodfifmfpdjoaa
