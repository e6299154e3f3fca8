/-
  Several texts in one: StrF.
-/
import Derived.Test.YtjnolopnkecmdaaGreatStrEK

/-
  The method blocks of stream.key; stream.Next at a bad argument.
-/
namespace Go.Proofs.YtjnolopnkecmdaaGreat
open Go.RowKit

theorem blocks_any (b : Nat) (c : ByteArray) (w : World) :
    Calls Tryz.prog 183 #[.pointer (some ⟨b, 0, none⟩), .string c] w fun e w' =>
      e = .returned (.func (.func 194) #[] #[.pointer (some ⟨w.heap.size, 0, none⟩), .pointer (some ⟨w.heap.size + 1, 0, none⟩)]) ∧
      w' = (w.alloc (.cells #[.pointer (some ⟨b, 0, none⟩)] 224)).alloc (.cells #[.string c] 9) := by
  have hmf : ∀ (fn : Fn) (first cap : Array Value) (w : World), (Instr.makeFunc fn first cap).run Tryz.prog w = .ok (.func fn first cap) w := fun _ _ _ _ => rfl
  go_enter Tryz.func183, Tryz.ntmps183
  go_wp2
  go_ret
  exact ⟨rfl, rfl⟩

theorem Next_short (c : ByteArray) (hc : c.size ≠ 16) (N : Int) (w : World) :
    Calls Tryz.prog 196 #[.string c, .int .i64 N] w fun e w' => e = .returned (.tuple #[.string ⟨#[]⟩, .int .i64 1]) ∧ w' = w := by
  have t1 : ((c.size : Int) != 16) = true := by rw [bne_iff_ne]; omega
  go_enter Tryz.func196, Tryz.ntmps196
  go_wp2
  go_ret2
  exact ⟨rfl, rfl⟩

end Go.Proofs.YtjnolopnkecmdaaGreat
