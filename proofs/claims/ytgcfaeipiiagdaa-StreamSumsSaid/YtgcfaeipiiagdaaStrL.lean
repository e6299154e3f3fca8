/-
  Plain laws of layer 5: what a key makes of a counter, in parts; texts that are put together.
-/
import Derived.Test.YtgcfaeipiiagdaaStrK
namespace Go.Proofs.Ytgcfaeipiiagdaa
namespace Str

theorem ext {a b : List Nat} (hl : a.length = b.length) (h : ∀ i, i < a.length → a.getD i 0 = b.getD i 0) : a = b := by
  apply List.ext_getElem hl
  intro i h1 h2
  have := h i h1
  simpa [List.getD_eq_getElem?_getD, h1, h2] using this

theorem stream_add (F : List Nat → List Nat) (C : List Nat) (M N : Nat) : stream F C (M + N) = stream F C M ++ stream F (Ctr.next C M) N := by
  unfold stream
  rw [List.range_add, List.flatMap_append, List.flatMap_map]
  congr 1
  simp only [Ctr.next_next]

section
variable {F : List Nat → List Nat} (hF : ∀ c, c.length = 16 → (F c).length = 16) (C : List Nat)
include hF

theorem keys_take {m N : Nat} (h : m ≤ 16 * N) : (stream F C N).take m = keys F C m := by
  obtain ⟨r, rfl⟩ : ∃ r, N = (m + 15) / 16 + r := ⟨N - (m + 15) / 16, by omega⟩
  rw [stream_add, List.take_append_of_le_length (by rw [stream_length hF]; omega)]
  rfl
theorem keys_prefix {m n : Nat} (h : m ≤ n) : (keys F C n).take m = keys F C m := by
  rw [keys, List.take_take, Nat.min_eq_left h]
  exact keys_take hF C (by omega)
theorem keys_whole (n : Nat) : keys F C (16 * n) = stream F C n := by
  rw [← keys_take hF C (N := n) (Nat.le_refl _), List.take_of_length_le (by rw [stream_length hF]; omega)]
theorem keys_parts (n r : Nat) : keys F C (16 * n + r) = keys F C (16 * n) ++ keys F (Ctr.next C n) r := by
  rw [← keys_take hF C (m := 16 * n + r) (N := n + (r + 15) / 16) (by omega), stream_add, keys_whole hF C n]
  have hl := stream_length hF C n
  rw [List.take_append, hl, List.take_of_length_le (by omega), show 16 * n + r - 16 * n = r by omega]
  rfl
theorem keys_block {i n : Nat} (h : 16 * i + 16 ≤ n) : ((keys F C n).drop (16 * i)).take 16 = F (Ctr.next C i) := by
  have h1 := keys_prefix hF C h
  have h2 := keys_parts hF C i 16
  have h3 : ((keys F C n).take (16 * i + 16)).drop (16 * i) = ((keys F C n).drop (16 * i)).take 16 := by
    rw [List.drop_take, show 16 * i + 16 - 16 * i = 16 by omega]
  rw [← h3, h1, h2]
  have hl := keys_length hF C (16 * i)
  rw [List.drop_append, hl, List.drop_eq_nil_of_le (by omega), Nat.sub_self, List.drop_zero, List.nil_append]
  have h4 := keys_whole hF (Ctr.next C i) 1
  rw [Nat.mul_one] at h4
  rw [h4]
  simp [stream, Ctr.next_next]
theorem keys_at {i m n : Nat} (hm : i < m) (hn : i < n) : (keys F C m).getD i 0 = (keys F C n).getD i 0 := by
  have h : ∀ m, i < m → (keys F C m).getD i 0 = (keys F C (i + 1)).getD i 0 := fun m hm => by
    rw [← keys_prefix hF C (show i + 1 ≤ m by omega)]
    simp only [List.getD_eq_getElem?_getD]
    rw [List.getElem?_take_of_lt (by omega)]
  rw [h m hm, h n hn]
end

theorem xor_xor {a b : List Nat} : xor (xor a b) b = a := by
  refine ext (by rw [xor_length, xor_length]) fun i hi => ?_
  rw [xor_length, xor_length] at hi
  rw [xor_get _ _ (by rw [xor_length]; exact hi), xor_get _ _ hi, Nat.xor_assoc, Nat.xor_self, Nat.xor_zero]
theorem xor_append {a b c d : List Nat} (h : a.length = c.length) : xor (a ++ b) (c ++ d) = xor a c ++ xor b d := by
  refine ext (by simp [xor_length]) fun i hi => ?_
  rw [xor_length, List.length_append] at hi
  rw [xor_get _ _ (by rw [List.length_append]; exact hi)]
  simp only [List.getD_eq_getElem?_getD, List.getElem?_append, xor_length]
  by_cases h1 : i < a.length
  · have h2 : i < c.length := by omega
    rw [if_pos h1, if_pos h2, if_pos h1]
    have := xor_get a c h1
    simpa [List.getD_eq_getElem?_getD] using this.symm
  · have h2 : ¬ i < c.length := by omega
    rw [if_neg h1, if_neg h2, if_neg h1, ← h]
    have := xor_get b d (i := i - a.length) (by omega)
    simpa [List.getD_eq_getElem?_getD] using this.symm
theorem xor_zeros {n : Nat} {k : List Nat} (h : k.length = n) : xor (List.replicate n 0) k = k := by
  refine ext (by simp [xor_length, h]) fun i hi => ?_
  rw [xor_length, List.length_replicate] at hi
  rw [xor_get _ _ (by rw [List.length_replicate]; exact hi)]
  simp [List.getD_eq_getElem?_getD, hi]

theorem of_len_enc (k : ByteArray) : ∀ c, c.length = 16 → (Aes.enc (bytesOf k) c).length = 16 := fun _ _ => enc_len _ _
theorem of_parts (k c : ByteArray) (n r : Nat) : of k c (16 * n + r) = of k c (16 * n) ++ of k (strOf (Ctr.next (bytesOf c) n)) r := by
  unfold of
  rw [bytesOf_strOf (Ctr.next_all _ _)]
  exact keys_parts (of_len_enc k) _ n r
theorem of_prefix (k c : ByteArray) {m n : Nat} (h : m ≤ n) : (of k c n).take m = of k c m := keys_prefix (of_len_enc k) _ h
theorem of_block (k c : ByteArray) {i n : Nat} (h : 16 * i + 16 ≤ n) : ((of k c n).drop (16 * i)).take 16 = Aes.enc (bytesOf k) (Ctr.next (bytesOf c) i) := keys_block (of_len_enc k) _ h
theorem of_at (k c : ByteArray) {i m n : Nat} (hm : i < m) (hn : i < n) : (of k c m).getD i 0 = (of k c n).getD i 0 := keys_at (of_len_enc k) _ hm hn

end Str

theorem strOf_append (a b : List Nat) : strOf a ++ strOf b = strOf (a ++ b) := by
  apply ByteArray.ext
  rw [ByteArray.data_append]
  simp [strOf]
theorem cut_text (s : ByteArray) (i : Nat) (h : i ≤ s.size) : s.extract 0 i ++ s.extract i s.size = s := by
  have e : bytesOf (s.extract 0 i ++ s.extract i s.size) = bytesOf s := by
    rw [bytesOf_append, bytesOf_extract _ _ _ h, bytesOf_extract _ _ _ (Nat.le_refl _), List.drop_zero, Nat.sub_zero, List.take_of_length_le (l := (bytesOf s).drop i) (by rw [List.length_drop, bytesOf_length]; exact Nat.le_refl _), List.take_append_drop]
  rw [← strOf_bytesOf (s.extract 0 i ++ s.extract i s.size), e, strOf_bytesOf]

end Go.Proofs.Ytgcfaeipiiagdaa
