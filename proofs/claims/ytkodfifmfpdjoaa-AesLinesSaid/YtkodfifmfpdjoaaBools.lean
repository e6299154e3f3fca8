/-
  A slice of bools that came in.
-/
import Derived.Test.YtkodfifmfpdjoaaFrm
namespace Go.Proofs.Ytkodfifmfpdjoaa
open Go.ChangeShapes Go.WideShapes Go.ChangeAt Go.RowKit

def BoolsIn (v : Value) (w : World) : Prop :=
  v = .slice none 0 0 ∨ ∃ (a : Addr) (len cap : Nat) (B : Nat → Bool), v = .slice (some a) len cap ∧ len ≤ cap ∧ cap ≤ maxLen ∧ ∀ i, i < cap → w.cell? (a.add i) = some (.bool (B i))

theorem bools_open {H : Type} {enc : TypeId × Value → H} {P : Program} {w : World} {r : Reach} {b0 : Nat} {t e : TypeId} {v : Value} {d : DataW H} {ps : List MemPlace} (ht : P.underlying t = some (.slice e)) (he : P.underlying e = some .bool) (hc : P.cellsOf e = 1)
    (hval : Value.okWide P w r b0 t v) (hd : DataW.Trod enc P w 0 (fun _ => true) true t v d ps) : BoolsIn v w := by
  obtain ⟨a, len, cap, rfl⟩ := okWide_slice ht hval
  obtain ⟨fuel, hf⟩ := hd
  rcases Deep.open_bools ht he hc hf with ⟨h, _⟩ | ⟨a', len', cap', B, h, _, hl, hm, _, hb⟩
  · left
    simpa [Value.cells] using h
  · right
    refine ⟨a', len', cap', B, ?_, hl, hm, hb⟩
    simpa [Value.cells] using h

end Go.Proofs.Ytkodfifmfpdjoaa
