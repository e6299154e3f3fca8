/-
  The helpers of layer 4's rows: pick, Key, Chunk.
-/
import Derived.Test.YtgcfaeipiiagdaaAesI
namespace Go.Proofs.Ytgcfaeipiiagdaa
open Go.RowKit

/-- Which of n things a raw number speaks of. -/
def pickOf (c n : Int) : Int := (if c < 0 then -(c + 1) else c).tmod n

theorem pickOf_range {c n : Int} (hn : 0 < n) : 0 ≤ pickOf c n ∧ pickOf c n < n := by
  unfold pickOf
  split
  · rw [Int.tmod_eq_emod_of_nonneg (by omega)]; exact ⟨Int.emod_nonneg _ (by omega), Int.emod_lt_of_pos _ hn⟩
  · rw [Int.tmod_eq_emod_of_nonneg (by omega)]; exact ⟨Int.emod_nonneg _ (by omega), Int.emod_lt_of_pos _ hn⟩

def zeros (n : Nat) : ByteArray := strOf (List.replicate n 0)
def keyOf (s : ByteArray) (long : Bool) : ByteArray := (s ++ zeros 32).extract 0 (if long then 32 else 16)
def chunkOf (s : ByteArray) : ByteArray := (s ++ zeros 16).extract 0 16

theorem zeros_size (n : Nat) : (zeros n).size = n := by rw [zeros, strOf_size, List.length_replicate]
theorem keyOf_size (s : ByteArray) (long : Bool) : (keyOf s long).size = 4 * (if long then 8 else 4) := by
  cases long <;> simp [keyOf, zeros_size, ByteArray.size_append] <;> omega
theorem chunkOf_size (s : ByteArray) : (chunkOf s).size = 16 := by
  simp [chunkOf, zeros_size, ByteArray.size_append]

theorem LawA.infoByte : (Try.prog.info? 5).map (fun i => (i.zero, i.size, i.bytes)) = some (some (.int .u8 0), 1, 1) := by kernel_rfl

set_option maxRecDepth 100000 in
/-- string(make([]byte, n)). -/
theorem zero_bytes (n : Nat) (hn : n ≤ 1000000) (w : World) :
    ∃ W1, (Instr.makeSlice 35 (.int .i64 (n : Int)) (.int .i64 (n : Int))).run Try.prog w = .ok (.slice (some ⟨w.heap.size, 0, none⟩) n n) W1 ∧
      (convert 35 9 (.slice (some ⟨w.heap.size, 0, none⟩) n n)).run Try.prog W1 = .ok (.string (zeros n)) W1 ∧ Below w.heap.size w W1 := by
  obtain ⟨i0, hi0, hz0, hz1, hz2⟩ := info_parts LawA.infoByte
  obtain ⟨W1, h1, h2, h3⟩ := run_make_full (P := Try.prog) w w.heap.size 35 5 i0 _ 1 Try.underlying35 hi0 hz0 hz1 .i64 .i64 n (by rw [hz2]; omega) (by unfold maxLen; omega) (Nat.le_refl _)
  refine ⟨W1, h1, ?_, ?_⟩
  · exact conv_string (P := Try.prog) (src := 35) (dst := 9) Try.underlying35 Try.underlying5 Try.underlying9 w.heap.size 0 n (List.replicate n 0) W1
      (fun j hj => by
        have hj' : j < n := by simpa using hj
        rw [Nat.zero_add, h2.cellAt j (by omega)]
        simp [madeCells, hj', Value.cells, U, List.getD_eq_getElem?_getD, Nat.mod_one]) n (by simp)
  · exact (keep_grown (v := .slice none 0 0) h3).toBelow (fun k _ => by simp [Value.ownBlock])

set_option maxRecDepth 100000 in
theorem Key_any (s : ByteArray) (long : Bool) (hs : s.size ≤ 140737488351232) (w : World) :
    Calls Try.prog 9 #[.string s, .bool long] w fun e w' => e = .returned (.string (keyOf s long)) ∧ Below w.heap.size w w' := by
  obtain ⟨W1, hm, hcv, hb⟩ := zero_bytes 32 (by decide) w
  rw [show ((32 : Nat) : Int) = 32 from rfl] at hm
  have hadd : (Op.stringOp .add s (zeros 32)).run Try.prog W1 = .ok (.string (s ++ zeros 32)) W1 := run_string_add_sum W1 _ _ (by rw [zeros_size]; omega)
  have hz : ((s ++ zeros 32).size : Int) = (s.size : Int) + 32 := by rw [ByteArray.size_append, zeros_size]; omega
  have Hb := Lib.hid hb
  obtain ⟨z, hzz⟩ : ∃ z, s ++ zeros 32 = z := ⟨_, rfl⟩
  have hk : keyOf s long = z.extract 0 (if long then 32 else 16) := by rw [← hzz]; rfl
  rw [hzz] at hadd hz
  have hz1 : 32 ≤ z.size := by omega
  have Hk := Lib.hid hk
  clear hb hzz hk hz
  go_enter Try.func9, Try.ntmps9
  cases long
  · go_wp2
    go_ret
    exact ⟨by rw [Hk.out]; rfl, Hb.out⟩
  · go_wp2
    go_ret
    exact ⟨by rw [Hk.out]; rfl, Hb.out⟩

set_option maxRecDepth 100000 in
theorem Chunk_any (s : ByteArray) (hs : s.size ≤ 140737488351232) (w : World) :
    Calls Try.prog 10 #[.string s] w fun e w' => e = .returned (.string (chunkOf s)) ∧ Below w.heap.size w w' := by
  obtain ⟨W1, hm, hcv, hb⟩ := zero_bytes 16 (by decide) w
  rw [show ((16 : Nat) : Int) = 16 from rfl] at hm
  have hadd : (Op.stringOp .add s (zeros 16)).run Try.prog W1 = .ok (.string (s ++ zeros 16)) W1 := run_string_add_sum W1 _ _ (by rw [zeros_size]; omega)
  have hz : ((s ++ zeros 16).size : Int) = (s.size : Int) + 16 := by rw [ByteArray.size_append, zeros_size]; omega
  have Hb := Lib.hid hb
  obtain ⟨z, hzz⟩ : ∃ z, s ++ zeros 16 = z := ⟨_, rfl⟩
  have hk : chunkOf s = z.extract 0 16 := by rw [← hzz]; rfl
  rw [hzz] at hadd hz
  have hz1 : 16 ≤ z.size := by omega
  have Hk := Lib.hid hk
  clear hb hzz hk hz
  go_enter Try.func10, Try.ntmps10
  go_wp2
  go_ret
  exact ⟨by rw [Hk.out]; rfl, Hb.out⟩

end Go.Proofs.Ytgcfaeipiiagdaa
