/-
  string(make([]byte, n)), in steps.
-/
import Derived.Test.YtgcfaeipiiagdaaLawA
namespace Go.Proofs.Ytgcfaeipiiagdaa
open Go.RowKit

def zeroCells (n : Nat) : Array Value := madeCells (Value.int .u8 0).cells n

theorem zeroCells_size (n : Nat) : (zeroCells n).size = n := by rw [zeroCells, size_madeCells]
theorem zeroCells_get (n : Nat) {j : Nat} (hj : j < n) : (zeroCells n)[j]? = some (U 0) := by
  simp [zeroCells, madeCells, hj, Value.cells, U, Nat.mod_one]

set_option maxRecDepth 100000 in
theorem make_zero (n : Nat) (hn : n ≤ 1000000) (w : World) :
    (Instr.makeSlice 35 (.int .i64 (n : Int)) (.int .i64 (n : Int))).run Try.prog w = .ok (.slice (some ⟨w.heap.size, 0, none⟩) n n) (w.alloc (.cells (zeroCells n) 5)) := by
  obtain ⟨i0, hi0, hz0, hz1, hz2⟩ := info_parts LawA.infoByte
  have h := run_make (P := Try.prog) w 35 5 i0 _ Try.underlying35 hi0 hz0 .i64 .i64 (n : Int) (n : Int) (by omega) (by omega) (by rw [hz2]; omega) (by omega)
  rw [h, hz1, Int.toNat_natCast, Nat.mul_one]
  rfl

theorem conv_zero (g n : Nat) (W : World) (h : Row W g 5 (zeroCells n)) :
    (convert 35 9 (.slice (some ⟨g, 0, none⟩) n n)).run Try.prog W = .ok (.string (zeros n)) W :=
  conv_string (P := Try.prog) (src := 35) (dst := 9) Try.underlying35 Try.underlying5 Try.underlying9 g 0 n (List.replicate n 0) W
    (fun j hj => by
      have hj' : j < n := by simpa using hj
      rw [Nat.zero_add, h.cell j, zeroCells_get n hj']
      simp [hj', List.getD_eq_getElem?_getD]) n (by simp)

/-- Two of them, in either order. -/
theorem conv_two (a b : Nat) (w : World) :
    (convert 35 9 (.slice (some ⟨w.heap.size, 0, none⟩) a a)).run Try.prog (w.alloc (.cells (zeroCells a) 5)) = .ok (.string (zeros a)) (w.alloc (.cells (zeroCells a) 5)) ∧
    (convert 35 9 (.slice (some ⟨w.heap.size, 0, none⟩) a a)).run Try.prog ((w.alloc (.cells (zeroCells a) 5)).alloc (.cells (zeroCells b) 5)) = .ok (.string (zeros a)) ((w.alloc (.cells (zeroCells a) 5)).alloc (.cells (zeroCells b) 5)) ∧
    (convert 35 9 (.slice (some ⟨w.heap.size + 1, 0, none⟩) b b)).run Try.prog ((w.alloc (.cells (zeroCells a) 5)).alloc (.cells (zeroCells b) 5)) = .ok (.string (zeros b)) ((w.alloc (.cells (zeroCells a) 5)).alloc (.cells (zeroCells b) 5)) := by
  have h := Row.new w 5 (zeroCells a)
  refine ⟨conv_zero _ _ _ h, conv_zero _ _ _ (h.alloc _), conv_zero _ _ _ ?_⟩
  have k := Row.new (w.alloc (.cells (zeroCells a) 5)) 5 (zeroCells b)
  rwa [World.size_alloc] at k

/-- .. where the order was drawn. -/
theorem conv_two_drew (a b : Nat) (w : World) :
    (convert 35 9 (.slice (some ⟨w.heap.size, 0, none⟩) a a)).run Try.prog (w.alloc (.cells (zeroCells a) 5)).drew = .ok (.string (zeros a)) (w.alloc (.cells (zeroCells a) 5)).drew ∧
    (convert 35 9 (.slice (some ⟨w.heap.size, 0, none⟩) a a)).run Try.prog ((w.alloc (.cells (zeroCells a) 5)).alloc (.cells (zeroCells b) 5)).drew = .ok (.string (zeros a)) ((w.alloc (.cells (zeroCells a) 5)).alloc (.cells (zeroCells b) 5)).drew ∧
    (convert 35 9 (.slice (some ⟨w.heap.size + 1, 0, none⟩) b b)).run Try.prog ((w.alloc (.cells (zeroCells a) 5)).alloc (.cells (zeroCells b) 5)).drew = .ok (.string (zeros b)) ((w.alloc (.cells (zeroCells a) 5)).alloc (.cells (zeroCells b) 5)).drew := by
  have h := Row.new w 5 (zeroCells a)
  refine ⟨conv_zero _ _ _ h.drew, conv_zero _ _ _ (h.alloc _).drew, conv_zero _ _ _ ?_⟩
  have k := Row.new (w.alloc (.cells (zeroCells a) 5)) 5 (zeroCells b)
  rw [World.size_alloc] at k
  exact k.drew

end Go.Proofs.Ytgcfaeipiiagdaa
