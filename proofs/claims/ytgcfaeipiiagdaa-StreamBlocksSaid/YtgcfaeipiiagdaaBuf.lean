/-
  A []byte that was made of a text, and is written.
-/
import Derived.Test.YtgcfaeipiiagdaaTxt
namespace Go.Proofs.Ytgcfaeipiiagdaa
open Go.RowKit

/-- The first bytes of block g are L; they may be written. -/
def Buf (W : World) (g : Nat) (L : List Nat) : Prop :=
  ∃ (cs : Array Value) (t : TypeId) (fr : Nat × Nat), W.heap[g]? = some (.cells cs t fr) ∧ L.length ≤ fr.1 ∧ ∀ j, j < L.length → cs[j]? = some (U (L.getD j 0))

namespace Buf
variable {W W' : World} {g : Nat} {L : List Nat}
theorem lt (h : Buf W g L) : g < W.heap.size := by
  obtain ⟨cs, t, fr, h1, _, _⟩ := h
  exact (Array.getElem?_eq_some_iff.1 h1).1
theorem cell (h : Buf W g L) {j : Nat} (hj : j < L.length) : W.cell? ⟨g, j, none⟩ = some (U (L.getD j 0)) := by
  obtain ⟨cs, t, fr, h1, _, h3⟩ := h
  rw [cell_of_row W g j cs t fr h1]
  exact h3 j hj
theorem frozen (h : Buf W g L) {j : Nat} (hj : j < L.length) : W.frozen? ⟨g, j, none⟩ = false := by
  obtain ⟨cs, t, ⟨lo, hi⟩, h1, h2, _⟩ := h
  have h2' : L.length ≤ lo := h2
  simp only [World.frozen?, h1]
  rw [Bool.and_eq_false_iff]
  left
  exact decide_eq_false (by omega)
theorem keep {S : Nat → Prop} (h : Buf W g L) (hk : Keep S W W') (hg : S g) : Buf W' g L := by
  obtain ⟨cs, t, fr, h1, h2⟩ := h
  exact ⟨cs, t, fr, hk.heap hg h1, h2⟩
theorem below {B : Nat} (h : Buf W g L) (hk : Below B W W') (hg : g < B) : Buf W' g L := by
  obtain ⟨cs, t, fr, h1, h2⟩ := h
  exact ⟨cs, t, fr, (hk.block g hg).trans h1, h2⟩
theorem drew (h : Buf W g L) : Buf W.drew g L := h
theorem store (h : Buf W g L) {j : Nat} (_ : j < L.length) (x : Nat) : Buf (W.setCell ⟨g, j, none⟩ (U x)) g (L.set j x) := by
  obtain ⟨cs, t, fr, h1, h2, h3⟩ := h
  refine ⟨cs.setIfInBounds j (U x), t, fr, ?_, by rw [List.length_set]; exact h2, fun i hi => ?_⟩
  · show (W.heap.modify g _)[g]? = _
    rw [Array.getElem?_modify, if_pos rfl, h1]
    rfl
  · rw [List.length_set] at hi
    have hcs : i < cs.size := (Array.getElem?_eq_some_iff.1 (h3 i hi)).1
    rw [Array.getElem?_setIfInBounds]
    by_cases hij : j = i
    · subst hij
      simp [List.getD_eq_getElem?_getD, hi, hcs]
    · rw [if_neg hij, h3 i hi]
      simp [List.getD_eq_getElem?_getD, hij]
end Buf

/-- []byte(s). -/
theorem conv_buf {P : Program} {src dst e : TypeId} {u : TypeDesc} (hs : P.underlying src = some u) (hd : P.underlying dst = some (.slice e)) (he : P.underlying e = some (.int .u8)) (s : ByteArray) (w : World) :
    ∃ (W1 : World) (cap : Nat), (convert src dst (.string s)).run P w = .ok (.slice (some ⟨w.heap.size, 0, none⟩) s.size cap) W1 ∧ Below w.heap.size w W1 ∧ W1.heap.size = w.heap.size + 1 ∧ Buf W1 w.heap.size (bytesOf s) := by
  have hcell : ∀ j, j < s.size → (Lib.bytesWorld w e s).cell? ⟨w.heap.size, j, none⟩ = some (U ((bytesOf s).getD j 0)) := fun j hj => by rw [bytesOf_getD]; exact Lib.bytesWorld_cell w e s j hj
  have hnew := Lib.bytesWorld_at_new w e s
  refine ⟨Lib.bytesWorld w e s, _, Lib.run_convert_string_bytes w src dst e s hs hd he, ⟨rfl, rfl, rfl, by rw [Lib.bytesWorld_size]; omega, fun k hk => Lib.bytesWorld_at_old w e s k hk⟩, Lib.bytesWorld_size w e s, ?_⟩
  refine ⟨_, _, _, hnew, ?_, fun j hj => ?_⟩
  · rw [bytesOf_length]
    show s.size ≤ (Lib.bytesCells w e s).size
    rcases Nat.eq_zero_or_pos s.size with h0 | h0
    · omega
    · have h := hcell (s.size - 1) (by omega)
      rw [cell_of_row _ _ _ _ _ _ hnew] at h
      have := (Array.getElem?_eq_some_iff.1 h).1
      omega
  · rw [bytesOf_length] at hj
    have h := hcell j hj
    rwa [cell_of_row _ _ _ _ _ _ hnew] at h

end Go.Proofs.Ytgcfaeipiiagdaa
