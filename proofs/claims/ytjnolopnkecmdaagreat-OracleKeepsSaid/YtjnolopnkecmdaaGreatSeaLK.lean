/-
  Several texts in one: SeaL.
-/
import Derived.Test.YtjnolopnkecmdaaGreatSeaHK
import Derived.Test.YtjnolopnkecmdaaGreatGF

/-
  Plain laws of layer 6; its contracts behind Below; its pick.
-/
namespace Go.Proofs.YtjnolopnkecmdaaGreat
open Go.RowKit

namespace Str

theorem ext {a b : List Nat} (hl : a.length = b.length) (h : ∀ i, i < a.length → a.getD i 0 = b.getD i 0) : a = b := by
  apply List.ext_getElem hl
  intro i h1 h2
  have := h i h1
  simpa [List.getD_eq_getElem?_getD, h1, h2] using this

theorem stream_add (F : List Nat → List Nat) (C : List Nat) (M N : Nat) : stream F C (M + N) = stream F C M ++ stream F (Ctr.next C M) N := by
  unfold stream
  rw [List.range_add, List.flatMap_append, List.flatMap_map]
  congr 1
  simp only [Ctr.next_next]

section
variable {F : List Nat → List Nat} (hF : ∀ c, c.length = 16 → (F c).length = 16) (C : List Nat)
include hF

theorem keys_take {m N : Nat} (h : m ≤ 16 * N) : (stream F C N).take m = keys F C m := by
  obtain ⟨r, rfl⟩ : ∃ r, N = (m + 15) / 16 + r := ⟨N - (m + 15) / 16, by omega⟩
  rw [stream_add, List.take_append_of_le_length (by rw [stream_length hF]; omega)]
  rfl
theorem keys_prefix {m n : Nat} (h : m ≤ n) : (keys F C n).take m = keys F C m := by
  rw [keys, List.take_take, Nat.min_eq_left h]
  exact keys_take hF C (by omega)
theorem keys_whole (n : Nat) : keys F C (16 * n) = stream F C n := by
  rw [← keys_take hF C (N := n) (Nat.le_refl _), List.take_of_length_le (by rw [stream_length hF]; omega)]
theorem keys_parts (n r : Nat) : keys F C (16 * n + r) = keys F C (16 * n) ++ keys F (Ctr.next C n) r := by
  rw [← keys_take hF C (m := 16 * n + r) (N := n + (r + 15) / 16) (by omega), stream_add, keys_whole hF C n]
  have hl := stream_length hF C n
  rw [List.take_append, hl, List.take_of_length_le (by omega), show 16 * n + r - 16 * n = r by omega]
  rfl
theorem keys_block {i n : Nat} (h : 16 * i + 16 ≤ n) : ((keys F C n).drop (16 * i)).take 16 = F (Ctr.next C i) := by
  have h1 := keys_prefix hF C h
  have h2 := keys_parts hF C i 16
  have h3 : ((keys F C n).take (16 * i + 16)).drop (16 * i) = ((keys F C n).drop (16 * i)).take 16 := by
    rw [List.drop_take, show 16 * i + 16 - 16 * i = 16 by omega]
  rw [← h3, h1, h2]
  have hl := keys_length hF C (16 * i)
  rw [List.drop_append, hl, List.drop_eq_nil_of_le (by omega), Nat.sub_self, List.drop_zero, List.nil_append]
  have h4 := keys_whole hF (Ctr.next C i) 1
  rw [Nat.mul_one] at h4
  rw [h4]
  simp [stream, Ctr.next_next]
theorem keys_at {i m n : Nat} (hm : i < m) (hn : i < n) : (keys F C m).getD i 0 = (keys F C n).getD i 0 := by
  have h : ∀ m, i < m → (keys F C m).getD i 0 = (keys F C (i + 1)).getD i 0 := fun m hm => by
    rw [← keys_prefix hF C (show i + 1 ≤ m by omega)]
    simp only [List.getD_eq_getElem?_getD]
    rw [List.getElem?_take_of_lt (by omega)]
  rw [h m hm, h n hn]
end

theorem xor_xor {a b : List Nat} : xor (xor a b) b = a := by
  refine ext (by rw [xor_length, xor_length]) fun i hi => ?_
  rw [xor_length, xor_length] at hi
  rw [xor_get _ _ (by rw [xor_length]; exact hi), xor_get _ _ hi, Nat.xor_assoc, Nat.xor_self, Nat.xor_zero]
theorem xor_append {a b c d : List Nat} (h : a.length = c.length) : xor (a ++ b) (c ++ d) = xor a c ++ xor b d := by
  refine ext (by simp [xor_length]) fun i hi => ?_
  rw [xor_length, List.length_append] at hi
  rw [xor_get _ _ (by rw [List.length_append]; exact hi)]
  simp only [List.getD_eq_getElem?_getD, List.getElem?_append, xor_length]
  by_cases h1 : i < a.length
  · have h2 : i < c.length := by omega
    rw [if_pos h1, if_pos h2, if_pos h1]
    have := xor_get a c h1
    simpa [List.getD_eq_getElem?_getD] using this.symm
  · have h2 : ¬ i < c.length := by omega
    rw [if_neg h1, if_neg h2, if_neg h1, ← h]
    have := xor_get b d (i := i - a.length) (by omega)
    simpa [List.getD_eq_getElem?_getD] using this.symm
theorem xor_zeros {n : Nat} {k : List Nat} (h : k.length = n) : xor (List.replicate n 0) k = k := by
  refine ext (by simp [xor_length, h]) fun i hi => ?_
  rw [xor_length, List.length_replicate] at hi
  rw [xor_get _ _ (by rw [List.length_replicate]; exact hi)]
  simp [List.getD_eq_getElem?_getD, hi]

theorem of_len_enc (k : ByteArray) : ∀ c, c.length = 16 → (Aes.enc (bytesOf k) c).length = 16 := fun _ _ => enc_len _ _
theorem of_parts (k c : ByteArray) (n r : Nat) : of k c (16 * n + r) = of k c (16 * n) ++ of k (strOf (Ctr.next (bytesOf c) n)) r := by
  unfold of
  rw [bytesOf_strOf (Ctr.next_all _ _)]
  exact keys_parts (of_len_enc k) _ n r
theorem of_prefix (k c : ByteArray) {m n : Nat} (h : m ≤ n) : (of k c n).take m = of k c m := keys_prefix (of_len_enc k) _ h
theorem of_block (k c : ByteArray) {i n : Nat} (h : 16 * i + 16 ≤ n) : ((of k c n).drop (16 * i)).take 16 = Aes.enc (bytesOf k) (Ctr.next (bytesOf c) i) := keys_block (of_len_enc k) _ h
theorem of_at (k c : ByteArray) {i m n : Nat} (hm : i < m) (hn : i < n) : (of k c m).getD i 0 = (of k c n).getD i 0 := keys_at (of_len_enc k) _ hm hn

end Str

theorem strOf_append (a b : List Nat) : strOf a ++ strOf b = strOf (a ++ b) := by
  apply ByteArray.ext
  rw [ByteArray.data_append]
  simp [strOf]
theorem cut_text (s : ByteArray) (i : Nat) (h : i ≤ s.size) : s.extract 0 i ++ s.extract i s.size = s := by
  have e : bytesOf (s.extract 0 i ++ s.extract i s.size) = bytesOf s := by
    rw [bytesOf_append, bytesOf_extract _ _ _ h, bytesOf_extract _ _ _ (Nat.le_refl _), List.drop_zero, Nat.sub_zero, List.take_of_length_le (l := (bytesOf s).drop i) (by rw [List.length_drop, bytesOf_length]; exact Nat.le_refl _), List.take_append_drop]
  rw [← strOf_bytesOf (s.extract 0 i ++ s.extract i s.size), e, strOf_bytesOf]

/-- A raw number's pick as a natural number. -/
theorem pick_nat (m : Int) (k : Nat) (hk : 0 < k) : ∃ x : Nat, pickOf m (k : Int) = (x : Int) ∧ x < k := by
  have h := pickOf_range (c := m) (n := (k : Int)) (by omega)
  exact ⟨(pickOf m (k : Int)).toNat, by omega, by omega⟩

theorem Seal.mix_mix {k : ByteArray} (hk : k.size = 32) (nonce t : ByteArray) : Seal.mix k nonce (Seal.mix k nonce t) = t := by
  have hs : (strOf (Str.xor (bytesOf t) (Str.of k nonce t.size))).size = t.size := by rw [strOf_size, Str.xor_length, bytesOf_length]
  unfold Seal.mix
  rw [hs, bytesOf_strOf (Str.xor_all (bytesOf_all t) (Str.of_all (n := 8) hk nonce _)), Str.xor_xor, strOf_bytesOf]

theorem text_join (a b : ByteArray) : (a ++ b).extract 0 a.size = a ∧ (a ++ b).extract a.size (a ++ b).size = b := by
  constructor
  · exact ByteArray.extract_append_eq_left rfl
  · exact ByteArray.extract_append_eq_right rfl (by rw [ByteArray.size_append])

section
variable {key : ByteArray} (nonce along text : ByteArray)
theorem Seal.box_lo [Sha.Words] : (Seal.box key nonce along text).extract 0 ((Seal.box key nonce along text).size - 16) = Seal.mix (Seal.k1 key) nonce text := by
  rw [Seal.box_size, Nat.add_sub_cancel]
  have h := (text_join (Seal.mix (Seal.k1 key) nonce text) (Seal.tag (Seal.k2 key) nonce along (Seal.mix (Seal.k1 key) nonce text))).1
  rwa [Seal.mix_size] at h
theorem Seal.box_hi [Sha.Words] : (Seal.box key nonce along text).extract ((Seal.box key nonce along text).size - 16) (Seal.box key nonce along text).size = Seal.tag (Seal.k2 key) nonce along (Seal.mix (Seal.k1 key) nonce text) := by
  rw [Seal.box_size, Nat.add_sub_cancel]
  have h := (text_join (Seal.mix (Seal.k1 key) nonce text) (Seal.tag (Seal.k2 key) nonce along (Seal.mix (Seal.k1 key) nonce text))).2
  rwa [ByteArray.size_append, Seal.mix_size, Seal.tag_size] at h
end

/-- What Open answers. -/
def Seal.opens [Sha.Words] (key nonce along box : ByteArray) : ByteArray × Int :=
  if box.size < 16 then (⟨#[]⟩, 10)
  else if Seal.tag (Seal.k2 key) nonce along (box.extract 0 (box.size - 16)) = box.extract (box.size - 16) box.size then (Seal.mix (Seal.k1 key) nonce (box.extract 0 (box.size - 16)), 0)
  else (⟨#[]⟩, 11)

theorem Seal.opens_box [Sha.Words] (key nonce along text : ByteArray) : Seal.opens key nonce along (Seal.box key nonce along text) = (text, 0) := by
  unfold Seal.opens
  rw [if_neg (by rw [Seal.box_size]; omega), Seal.box_lo, Seal.box_hi, if_pos rfl, Seal.mix_mix (Seal.k1_size key)]

/-- What is opened is sealed to the same. -/
theorem Seal.box_opens [Sha.Words] {key nonce along box : ByteArray} (h : (Seal.opens key nonce along box).2 = 0) : Seal.box key nonce along (Seal.opens key nonce along box).1 = box := by
  unfold Seal.opens at h ⊢
  by_cases h1 : box.size < 16
  · rw [if_pos h1] at h; cases h
  · rw [if_neg h1] at h ⊢
    by_cases h2 : Seal.tag (Seal.k2 key) nonce along (box.extract 0 (box.size - 16)) = box.extract (box.size - 16) box.size
    · rw [if_pos h2] at h ⊢
      dsimp only
      unfold Seal.box
      rw [Seal.mix_mix (Seal.k1_size key), h2]
      exact cut_text box _ (by omega)
    · rw [if_neg h2] at h; cases h
theorem Seal.opens_size [Sha.Words] {key nonce along box : ByteArray} : (Seal.opens key nonce along box).1.size ≤ box.size := by
  unfold Seal.opens
  split
  · exact Nat.zero_le _
  · split
    · dsimp only
      rw [Seal.mix_size, ByteArray.size_extract]; omega
    · exact Nat.zero_le _
theorem Seal.opens_cases [Sha.Words] (key nonce along box : ByteArray) : (Seal.opens key nonce along box).2 = 0 ∨ (Seal.opens key nonce along box).2 = 10 ∨ (Seal.opens key nonce along box).2 = 11 := by
  unfold Seal.opens
  split
  · exact .inr (.inl rfl)
  · split
    · exact .inl rfl
    · exact .inr (.inr rfl)

/-- A box of which a byte of the tag is another one. -/
theorem Seal.opens_bent [Sha.Words] (key nonce along text : ByteArray) (i y : Nat) (h1 : text.size ≤ i) (h2 : i < text.size + 16) (hy : y < 256) (hne : (bytesOf (Seal.box key nonce along text)).getD i 0 ≠ y) :
    Seal.opens key nonce along (otherOf (Seal.box key nonce along text) i y) = (⟨#[]⟩, 11) := by
  have hz := Seal.box_size key nonce along text
  have hoz := otherOf_size (Seal.box key nonce along text) i y (by omega)
  have hlo : (otherOf (Seal.box key nonce along text) i y).extract 0 ((otherOf (Seal.box key nonce along text) i y).size - 16) = (Seal.box key nonce along text).extract 0 ((Seal.box key nonce along text).size - 16) := by
    rw [hoz, hz, Nat.add_sub_cancel]
    rw [← strOf_bytesOf ((otherOf (Seal.box key nonce along text) i y).extract 0 text.size), ← strOf_bytesOf ((Seal.box key nonce along text).extract 0 text.size)]
    congr 1
    rw [bytesOf_extract _ _ _ (by omega), bytesOf_extract _ _ _ (by omega), otherOf, bytesOf_append, bytesOf_append, bytesOf_extract _ _ _ (by omega)]
    have hl : (((bytesOf (Seal.box key nonce along text)).drop 0).take (i - 0)).length = i := by rw [List.length_take, List.drop_zero, bytesOf_length]; omega
    rw [List.append_assoc, List.drop_zero, List.take_append_of_le_length (by omega), List.take_take, List.drop_zero, Nat.min_eq_left (by omega)]
  unfold Seal.opens
  rw [if_neg (by omega), hlo, Seal.box_lo, ← Seal.box_hi nonce along text, if_neg]
  intro h
  have e : otherOf (Seal.box key nonce along text) i y = Seal.box key nonce along text := by
    rw [← cut_text (otherOf (Seal.box key nonce along text) i y) ((otherOf (Seal.box key nonce along text) i y).size - 16) (by omega), hlo, ← h]
    exact cut_text _ _ (by omega)
  have h2 := otherOf_byte (Seal.box key nonce along text) i y (by omega) hy
  rw [e] at h2
  exact hne h2

theorem Seal_all [Sha.Words] (key nonce along text : ByteArray) (hk : key.size = 32) (hn : nonce.size = 16) (hw : along.size ≤ 4096) (ht : text.size ≤ 65536) (w : World) (hR : Sha.RoundIn w) :
    Calls Tryz.prog 131 #[.string key, .string nonce, .string along, .string text] w fun e w' => e = .returned (.tuple #[.string (Seal.box key nonce along text), .int .i64 0]) ∧ Below w.heap.size w w' :=
  (Seal_any key nonce along text hk hn hw ht w hR).mono fun _ _ h => ⟨h.1, h.2.lower⟩
theorem Seal_none_all (key nonce along text : ByteArray) (hk : key.size ≠ 32) (w : World) :
    Calls Tryz.prog 131 #[.string key, .string nonce, .string along, .string text] w fun e w' => e = .returned (.tuple #[.string ⟨#[]⟩, .int .i64 1]) ∧ Below w.heap.size w w' :=
  (Seal_none key nonce along text hk w).mono fun _ _ h => ⟨h.1, h.2.lower⟩
theorem sealKeys_all [Sha.Words] (key : ByteArray) (hk : key.size = 32) (w : World) (hR : Sha.RoundIn w) :
    Calls Tryz.prog 158 #[.string key] w fun e w' => e = .returned (.tuple #[.string (Seal.k1 key), .string (Seal.k2 key), .int .i64 0]) ∧ Below w.heap.size w w' :=
  (sealKeys_any key hk w hR).mono fun _ _ h => ⟨h.1, h.2.lower⟩
theorem Open_all [Sha.Words] (key nonce along box : ByteArray) (hk : key.size = 32) (hn : nonce.size = 16) (hw : along.size ≤ 4096) (hb : box.size ≤ 65552) (w : World) (hR : Sha.RoundIn w) :
    Calls Tryz.prog 138 #[.string key, .string nonce, .string along, .string box] w fun e w' => e = .returned (.tuple #[.string (Seal.opens key nonce along box).1, .int .i64 (Seal.opens key nonce along box).2]) ∧ Below w.heap.size w w' := by
  unfold Seal.opens
  by_cases h1 : box.size < 16
  · rw [if_pos h1]
    exact (Open_short key nonce along box hk hn hw h1 w hR).mono fun _ _ h => ⟨h.1, h.2.lower⟩
  · rw [if_neg h1]
    refine (Open_any key nonce along box hk hn hw (by omega) hb w hR).mono fun e w' h => ?_
    obtain ⟨⟨h2, he⟩ | ⟨h2, he⟩, hk2⟩ := h
    · rw [if_pos h2]; exact ⟨he, hk2.lower⟩
    · rw [if_neg h2]; exact ⟨he, hk2.lower⟩

end Go.Proofs.YtjnolopnkecmdaaGreat
