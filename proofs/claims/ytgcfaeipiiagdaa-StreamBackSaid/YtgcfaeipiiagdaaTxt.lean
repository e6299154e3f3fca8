/-
  Texts: lists of bytes as texts; string(b); index and slices of a text as equations.
-/
import Derived.Test.YtgcfaeipiiagdaaChecked
import Derived.Test.YtgcfaeipiiagdaaMem
import Derived.WalkKit
import Derived.ProofKit
import Derived.BigQuiet
import Derived.Lib.Hide
import Derived.Laws.BytesString
namespace Go.Proofs.Ytgcfaeipiiagdaa
open Go.RowKit

/-- A string of such bytes. -/
def strOf (l : List Nat) : ByteArray := ⟨(l.map UInt8.ofNat).toArray⟩
theorem strOf_size (l : List Nat) : (strOf l).size = l.length := by simp [strOf, ByteArray.size]
theorem bytesOf_strOf {l : List Nat} (h : Bs.All l) : bytesOf (strOf l) = l := by
  unfold bytesOf strOf
  simp only [List.map_map]
  refine (List.map_congr_left (fun x hx => ?_)).trans (List.map_id l)
  have := h.mem x hx
  simp [Nat.mod_eq_of_lt this]
theorem strOf_bytesOf (s : ByteArray) : strOf (bytesOf s) = s := by
  unfold bytesOf strOf
  rw [List.map_map]
  have : (UInt8.ofNat ∘ UInt8.toNat) = id := by funext x; simp
  rw [this, List.map_id]
theorem strOf_push (l : List Nat) (r : ByteArray) : l.foldl (fun r n => r.push (UInt8.ofNat n)) r = ⟨r.data ++ (l.map UInt8.ofNat).toArray⟩ := by
  induction l generalizing r with
  | nil => simp
  | cons x l ih => rw [List.foldl_cons, ih]; simp [ByteArray.push]
theorem conv_string {P : Program} {src dst e : TypeId} (hs : P.underlying src = some (.slice e)) (he : P.underlying e = some (.int .u8)) (hd : P.underlying dst = some .string) (g o cap : Nat) (l : List Nat) (w : World)
    (hc : ∀ j, j < l.length → w.cell? ⟨g, o + j, none⟩ = some (U (l.getD j 0))) (n : Nat) (hn : l.length = n) :
    (convert src dst (.slice (some ⟨g, o, none⟩) n cap)).run P w = .ok (.string (strOf l)) w := by
  subst hn
  rw [run_convert_bytes_string w src dst e _ _ _ hs he hd, run_bytesToString w ⟨g, o, none⟩ l.length cap (l.map fun (x : Nat) => (x : Int)) ?_]
  · rw [List.foldl_map]
    have := strOf_push l ByteArray.empty
    simp only [Int.toNat_natCast]
    rw [this]
    simp [strOf, ByteArray.empty, ByteArray.emptyWithCapacity]
    rfl
  · have := run_loadCells_list (P := P) w ⟨g, o, none⟩ (l.map U) (fun j v hv => by
      rw [Addr.add_mid]
      have hj : j < l.length := by have := (List.getElem?_eq_some_iff.1 hv).1; simpa using this
      rw [hc j hj, ← hv]
      simp [List.getD_eq_getElem?_getD, hj])
    rw [List.length_map] at this
    rw [this, List.map_map]
    rfl

/-- A byte of a text. -/
theorem idx_string (s : ByteArray) (z : Int) (p : Nat) (hz : z = (p : Int)) (hp : p < s.size) (W : World) :
    (Instr.index 9 (.string s) (.int .i64 z)).run Try.prog W = .ok (U ((bytesOf s).getD p 0)) W := by
  subst hz
  rw [run_index_string W 9 s .i64 (p : Int) Try.underlying9, dif_pos ⟨by omega, by omega⟩]
  have h : p < s.data.size := hp
  have this : (s[(p : Int).toNat]'(by omega)).toNat = (bytesOf s).getD p 0 := by
    have e : (s[(p : Int).toNat]'(by omega)).toNat = (s.data[p]).toNat := rfl
    rw [e]
    simp only [bytesOf, List.getD_eq_getElem?_getD, List.getElem?_map, Array.getElem?_toList]
    rw [Array.getElem?_eq_getElem h]
    rfl
  rw [this]

theorem sl_hi (s : ByteArray) (z : Int) (p : Nat) (hz : z = (p : Int)) (hp : p ≤ s.size) (W : World) :
    (Instr.slice 9 (.string s) none (some (.int .i64 z)) none).run Try.prog W = .ok (.string (s.extract 0 p)) W := by
  subst hz
  rw [run_slice_string_h W 9 s Try.underlying9 .i64 (p : Int) (by omega) (by omega), Int.toNat_natCast]
theorem sl_lo (s : ByteArray) (z : Int) (p : Nat) (hz : z = (p : Int)) (hp : p ≤ s.size) (W : World) :
    (Instr.slice 9 (.string s) (some (.int .i64 z)) none none).run Try.prog W = .ok (.string (s.extract p s.size)) W := by
  subst hz
  rw [run_slice_string_l W 9 s Try.underlying9 .i64 (p : Int) (by omega) (by omega), Int.toNat_natCast]
theorem sl_mid (s : ByteArray) (y z : Int) (p q : Nat) (hy : y = (p : Int)) (hz : z = (q : Int)) (hp : p ≤ q) (hq : q ≤ s.size) (W : World) :
    (Instr.slice 9 (.string s) (some (.int .i64 y)) (some (.int .i64 z)) none).run Try.prog W = .ok (.string (s.extract p q)) W := by
  subst hy hz
  rw [run_slice_string W 9 s .i64 .i64 (p : Int) (q : Int) Try.underlying9 (by omega) (by omega) (by omega), Int.toNat_natCast, Int.toNat_natCast]


end Go.Proofs.Ytgcfaeipiiagdaa
