/-
  Words on whole blocks of memory ('Row'): cells, stores, loads. No program in sight.
-/
import Derived.Test.YtolfbfchihpokaaRf
import Derived.Laws.Rows
namespace Go.Proofs.Ytolfbfchihpokaa
open Go.RowKit

/-- A byte. -/
abbrev U (n : Nat) : Value := .int .u8 (n : Int)

/-- Block g is cs, of element type t, and may be written. -/
def Row (W : World) (g : Nat) (t : TypeId) (cs : Array Value) : Prop := W.heap[g]? = some (.cells cs t (0, 0))

namespace Row
variable {W W' : World} {g : Nat} {t : TypeId} {cs : Array Value}
theorem lt (h : Row W g t cs) : g < W.heap.size := (Array.getElem?_eq_some_iff.1 h).1
theorem cell (h : Row W g t cs) (j : Nat) : W.cell? ⟨g, j, none⟩ = cs[j]? := cell_of_row W g j cs t _ h
theorem frozen (h : Row W g t cs) (j : Nat) : W.frozen? ⟨g, j, none⟩ = false := by
  simp only [World.frozen?, show W.heap[g]? = _ from h]; simp
theorem keep {S : Nat → Prop} (h : Row W g t cs) (hk : Keep S W W') (hg : S g) : Row W' g t cs := hk.heap hg h
theorem below {B : Nat} (h : Row W g t cs) (hk : Below B W W') (hg : g < B) : Row W' g t cs := (hk.block g hg).trans h
theorem drew (h : Row W g t cs) : Row W.drew g t cs := h
theorem undrew (h : Row W.drew g t cs) : Row W g t cs := h
theorem store (h : Row W g t cs) (j : Nat) (v : Value) : Row (W.setCell ⟨g, j, none⟩ v) g t (cs.setIfInBounds j v) := by
  show (W.heap.modify g _)[g]? = _
  rw [Array.getElem?_modify, if_pos rfl, show W.heap[g]? = _ from h]
  rfl
theorem other (h : Row W g t cs) {a : Addr} (hne : g ≠ a.block) (v : Value) : Row (W.setCell a v) g t cs := heap_setCell_other h a hne v
theorem alloc (h : Row W g t cs) (o : Obj) : Row (W.alloc o) g t cs := (Below.heap_alloc _ _ _ h.lt).trans h
theorem new (W : World) (t : TypeId) (cs : Array Value) : Row (W.alloc (.cells cs t)) W.heap.size t cs := World.alloc_heap_new _ _
end Row

theorem bcell {W w1 : World} (hb : Below W.heap.size W w1) : (∀ b o, b < W.heap.size → w1.cell? ⟨b, o, none⟩ = W.cell? ⟨b, o, none⟩) ∧ (∀ b o, b < W.heap.size → w1.frozen? ⟨b, o, none⟩ = W.frozen? ⟨b, o, none⟩) :=
  ⟨fun b o h => hb.cell (p := ⟨b, o, none⟩) h, fun b o h => hb.frozen (p := ⟨b, o, none⟩) h⟩

theorem cell_below {W w1 : World} {p : Addr} {v : Value} (hb : Below W.heap.size W w1) (hc : W.cell? p = some v) : w1.cell? p = some v := by
  obtain ⟨o, ho, _⟩ := cells_of_cell hc
  exact (hb.cell (Array.getElem?_eq_some_iff.1 ho).1).trans hc

end Go.Proofs.Ytolfbfchihpokaa
