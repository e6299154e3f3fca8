/-
  Four bytes by value as an argument: opened, and shut behind the call.
-/
import Derived.Test.YtolfbfchihpokaaEnd
import Derived.Laws.IdiomArrays
import Derived.Lib.SmallJoins
namespace Go.Proofs.Ytolfbfchihpokaa
open Go.ChangeShapes Go.WideShapes Go.ChangeAt Go.RowKit

section
variable {H : Type} {enc : TypeId × Value → H} {P : Program} {w : World} {base : Nat} {spare : Nat → Bool} {held : Bool}

theorem open_b4 {r : Reach} {b0 : Nat} {t e : TypeId} {v : Value} {d : DataW H} {p : List MemPlace} (hs : P.underlying t = some (.array 4 e)) (he : P.underlying e = some (.int .u8)) (hc : P.cellsOf t = 4) (hce : P.cellsOf e = 1)
    (hv : Value.okWide P w r b0 t v) (h : DataW.Trod enc P w base spare held t v d p) :
    ∃ x0 x1 x2 x3 : Nat, v = .agg #[.int .u8 x0, .int .u8 x1, .int .u8 x2, .int .u8 x3] ∧ d = .agg [.lit (.int .u8 x0), .lit (.int .u8 x1), .lit (.int .u8 x2), .lit (.int .u8 x3)] ∧ p = [] ∧ x0 < 256 ∧ x1 < 256 ∧ x2 < 256 ∧ x3 < 256 := by
  unfold Value.okWide at hv
  rw [hs] at hv
  obtain ⟨cs, rfl, hz, -⟩ := hv
  obtain ⟨c0, c1, c2, c3, rfl⟩ := Joins.array4 (hz.trans hc)
  obtain ⟨fuel, hf⟩ := h
  obtain ⟨y0, y1, y2, y3, n, hx, k0, k1, k2, k3⟩ := trod_array4 hs hce hf
  obtain ⟨n0, e0, rfl, w0⟩ := DataW.trod_int he k0
  obtain ⟨n1, e1, rfl, w1⟩ := DataW.trod_int he k1
  obtain ⟨n2, e2, rfl, w2⟩ := DataW.trod_int he k2
  obtain ⟨n3, e3, rfl, w3⟩ := DataW.trod_int he k3
  simp only [List.cons.injEq, and_true] at e0 e1 e2 e3
  subst e0 e1 e2 e3
  have b0 := bounds_u8 w0
  have b1 := bounds_u8 w1
  have b2 := bounds_u8 w2
  have b3 := bounds_u8 w3
  obtain ⟨m0, rfl⟩ := Int.eq_ofNat_of_zero_le b0.1
  obtain ⟨m1, rfl⟩ := Int.eq_ofNat_of_zero_le b1.1
  obtain ⟨m2, rfl⟩ := Int.eq_ofNat_of_zero_le b2.1
  obtain ⟨m3, rfl⟩ := Int.eq_ofNat_of_zero_le b3.1
  simp only [Prod.mk.injEq] at hx
  exact ⟨m0, m1, m2, m3, rfl, hx.1, hx.2, by omega, by omega, by omega, by omega⟩

theorem wf_byte {x : Nat} (h : x < 256) : (Lit.int .u8 (x : Int)).wf = true := by
  simp [Lit.wf, IntKind.min, IntKind.max, IntKind.signed, IntKind.bits]; omega

theorem shut_b4 {t e : TypeId} (hs : P.underlying t = some (.array 4 e)) (he : P.underlying e = some (.int .u8)) (hc : P.cellsOf t = 4) (hce : P.cellsOf e = 1) {x0 x1 x2 x3 : Nat} (h0 : x0 < 256) (h1 : x1 < 256) (h2 : x2 < 256) (h3 : x3 < 256) :
    DataW.Trod enc P w base spare held t (.agg #[.int .u8 x0, .int .u8 x1, .int .u8 x2, .int .u8 x3]) (.agg [.lit (.int .u8 x0), .lit (.int .u8 x1), .lit (.int .u8 x2), .lit (.int .u8 x3)]) [] := by
  have k : ∀ x : Nat, x < 256 → DataW.trod enc P w base spare held 1 e [.int .u8 (x : Int)] = some (.lit (.int .u8 x), []) := fun x h => by
    obtain ⟨f, hf⟩ := shut_int (enc := enc) (P := P) (w := w) (base := base) (spare := spare) (held := held) he (wf_byte h)
    unfold DataW.trod
    rw [he]
    simp [wf_byte h]
  refine ⟨2, ?_⟩
  unfold DataW.trod
  rw [hs]
  simp [Value.cells, hc, hce, List.range, List.range.loop, k x0 h0, k x1 h1, k x2 h2, k x3 h3]
end

end Go.Proofs.Ytolfbfchihpokaa
