/-
  Plain laws of counters for layer 5's rows.
-/
import Derived.Test.YtgcfaeipiiagdaaStrI
namespace Go.Proofs.Ytgcfaeipiiagdaa

theorem Ctr.pow16 : 256 ^ 16 = 340282366920938463463374607431768211456 := by decide +kernel
theorem Ctr.ctr_mod {u v : Nat} (h : u % 256 ^ 16 = v % 256 ^ 16) : Ctr.ctr u = Ctr.ctr v := Ctr.ctr_num (Ctr.ctr_length _) (Ctr.ctr_all _) (by rw [Ctr.num_ctr, h])
theorem Ctr.num_small {c : List Nat} (hc : c.length = 16) (ha : Bs.All c) : Ctr.num c < 256 ^ 16 := by
  have := Ctr.num_lt _ ha.mem
  rwa [hc] at this
theorem Ctr.next_same {c : List Nat} (hc : c.length = 16) (ha : Bs.All c) {x : Nat} (hx : x < 256 ^ 16) : Ctr.next c x = c ↔ x = 0 := by
  constructor
  · intro h
    have h0 := Ctr.next_zero hc ha
    rw [← h0, Ctr.next_next] at h
    have e := Ctr.ctr_inj h
    have hs := Ctr.num_small hc ha
    rw [Ctr.pow16] at *
    omega
  · rintro rfl
    exact Ctr.next_zero hc ha
theorem Ctr.next_inj {c : List Nat} (hc : c.length = 16) (ha : Bs.All c) {x y : Nat} (hx : x < 256 ^ 16) (hy : y < 256 ^ 16) : Ctr.next c x = Ctr.next c y ↔ x = y := by
  constructor
  · intro h
    have e := Ctr.ctr_inj h
    have hs := Ctr.num_small hc ha
    rw [Ctr.pow16] at *
    omega
  · rintro rfl
    rfl
theorem Ctr.text_beq {a b : List Nat} (ha : Bs.All a) (hb : Bs.All b) {p : Prop} [Decidable p] (h : a = b ↔ p) : ((strOf a).toList == (strOf b).toList) = decide p := by
  rw [texts_beq]
  exact decide_eq_decide.2 ⟨fun e => h.1 (strOf_inj ha hb e), fun e => by rw [h.2 e]⟩

/-- A raw number's pick as a natural number. -/
theorem pick_nat (m : Int) (k : Nat) (hk : 0 < k) : ∃ x : Nat, pickOf m (k : Int) = (x : Int) ∧ x < k := by
  have h := pickOf_range (c := m) (n := (k : Int)) (by omega)
  exact ⟨(pickOf m (k : Int)).toNat, by omega, by omega⟩

open Go.RowKit in
theorem Next_from (c : ByteArray) (_hc : c.size = 16) (x y : Nat) (hy : y ≤ 1099511627776) (w : World) :
    Calls Try.prog 13 #[.string (strOf (Ctr.next (bytesOf c) x)), .int .i64 (y : Int)] w fun e w' => e = .returned (.tuple #[.string (strOf (Ctr.next (bytesOf c) (x + y))), .int .i64 0]) ∧ Below w.heap.size w w' := by
  have h := Next_any (strOf (Ctr.next (bytesOf c) x)) (by rw [strOf_size]; exact Ctr.next_length _ _) y hy w
  rwa [bytesOf_strOf (Ctr.next_all _ _), Ctr.next_next] at h

theorem most_chunk : chunkOf ⟨#[255, 255, 255, 255, 255, 255, 255, 255, 255, 255, 255, 255, 255, 255, 255, 255]⟩ = ⟨#[255, 255, 255, 255, 255, 255, 255, 255, 255, 255, 255, 255, 255, 255, 255, 255]⟩ := by decide +kernel
theorem most_num : Ctr.num (bytesOf ⟨#[255, 255, 255, 255, 255, 255, 255, 255, 255, 255, 255, 255, 255, 255, 255, 255]⟩) + 1 = 256 ^ 16 := by decide +kernel
theorem zero_chunk : chunkOf ⟨#[]⟩ = strOf (List.replicate 16 0) := by decide +kernel
theorem zero_num : Ctr.num (List.replicate 16 0) = 0 := by decide +kernel
theorem zero_all : Bs.All (List.replicate 16 0) := .of_mem fun x hx => by rw [List.eq_of_mem_replicate hx]; decide
theorem most_next (p : Nat) : Ctr.next (bytesOf ⟨#[255, 255, 255, 255, 255, 255, 255, 255, 255, 255, 255, 255, 255, 255, 255, 255]⟩) (1 + p) = Ctr.next (bytesOf (strOf (List.replicate 16 0))) p := by
  rw [bytesOf_strOf zero_all]
  refine Ctr.ctr_mod ?_
  have h := most_num
  rw [zero_num]
  rw [Ctr.pow16] at *
  omega

end Go.Proofs.Ytgcfaeipiiagdaa
