/-
  A text in which one byte is another one; and when two texts are unlike.
-/
import Derived.Test.YtgcfaeipiiagdaaLawK
import Derived.Test.YtgcfaeipiiagdaaLawZ
namespace Go.Proofs.Ytgcfaeipiiagdaa
open Go.RowKit

def otherOf (b : ByteArray) (i y : Nat) : ByteArray := b.extract 0 i ++ strOf [y] ++ b.extract (i + 1) b.size

theorem otherOf_size (b : ByteArray) (i y : Nat) (hi : i < b.size) : (otherOf b i y).size = b.size := by
  simp only [otherOf, ByteArray.size_append, ByteArray.size_extract, strOf_size, List.length_cons, List.length_nil]
  omega
theorem bytesOf_append (a b : ByteArray) : bytesOf (a ++ b) = bytesOf a ++ bytesOf b := by simp [bytesOf, ByteArray.data_append]
theorem mid_byte (P Q : List Nat) (y : Nat) : (P ++ [y] ++ Q).getD P.length 0 = y := by simp [List.getD_eq_getElem?_getD]
theorem otherOf_byte (b : ByteArray) (i y : Nat) (hi : i < b.size) (hy : y < 256) : (bytesOf (otherOf b i y)).getD i 0 = y := by
  have hl : (((bytesOf b).drop 0).take (i - 0)).length = i := by rw [List.length_take, List.drop_zero, bytesOf_length]; omega
  have hY : Bs.All [y] := .of_mem fun x hx => by rw [List.mem_singleton] at hx; omega
  rw [otherOf, bytesOf_append, bytesOf_append, bytesOf_extract _ _ _ (by omega), bytesOf_strOf hY]
  generalize ((bytesOf b).drop 0).take (i - 0) = P at hl
  subst hl
  exact mid_byte _ _ _

theorem texts_beq (a b : ByteArray) : (a.toList == b.toList) = decide (a = b) := by
  rw [ByteArray.toList_eq, ByteArray.toList_eq]
  by_cases h : a = b
  · subst h; simp
  · rw [decide_eq_false h, beq_eq_false_iff_ne]
    intro he
    apply h
    cases a; cases b
    simp only [ByteArray.mk.injEq]
    exact Array.toList_inj.1 he

theorem strOf_inj {a b : List Nat} (ha : Bs.All a) (hb : Bs.All b) (h : strOf a = strOf b) : a = b := by rw [← bytesOf_strOf ha, ← bytesOf_strOf hb, h]

end Go.Proofs.Ytgcfaeipiiagdaa
