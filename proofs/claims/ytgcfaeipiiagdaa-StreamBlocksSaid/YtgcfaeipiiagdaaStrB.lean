/-
  The contract of stream.Next: a counter, so many further.
-/
import Derived.Test.YtgcfaeipiiagdaaStrS
import Derived.Test.YtgcfaeipiiagdaaBuf
namespace Go.Proofs.Ytgcfaeipiiagdaa
open Go.RowKit

namespace Ctr
/-- A counter, so many further. -/
def next (c : List Nat) (n : Nat) : List Nat := ctr (num c + n)

theorem num_take_succ {c : List Nat} {j : Nat} (hj : j < c.length) : num (c.take (j + 1)) = num (c.take j) * 256 + c.getD j 0 := by
  rw [List.take_succ_eq_append_getElem hj, num_snoc]
  simp [List.getD_eq_getElem?_getD, hj]
end Ctr

/-- Where Next stands: the first j bytes are as they were, behind them lie the sums' last bytes; m is carried. -/
def NextAt (g : Nat) (c : List Nat) (N : Nat) (w : World) (vn vi : Value) (wr : World) : Prop :=
  ∃ (j m : Nat) (done : List Nat), j ≤ 16 ∧ done.length = 16 - j ∧ Bs.All done ∧ m ≤ 1099511627776 + 256 ∧ (Ctr.num (c.take j) + m) * 256 ^ (16 - j) + Ctr.num done = Ctr.num c + N ∧
    vn = .int .i64 (m : Int) ∧ vi = .int .i64 ((j : Int) - 1) ∧ Buf wr g (c.take j ++ done) ∧ Keep (fun k => k ≠ g) w wr

theorem NextAt.last {c done : List Nat} {j m N : Nat} (hc : c.length = 16) (hca : Bs.All c) (hj : j ≤ 16) (hd : done.length = 16 - j) (hda : Bs.All done) (hz : j = 0 ∨ m = 0)
    (h : (Ctr.num (c.take j) + m) * 256 ^ (16 - j) + Ctr.num done = Ctr.num c + N) : c.take j ++ done = Ctr.next c N := by
  have hl : (c.take j ++ done).length = 16 := by rw [List.length_append, List.length_take, hc, hd]; omega
  have ha : Bs.All (c.take j ++ done) := Ctr.all_append (.of_mem fun x hx => hca.mem x (List.mem_of_mem_take hx)) hda
  refine Ctr.ctr_num hl ha ?_
  rw [Ctr.num_append, hd]
  have hlt : Ctr.num (c.take j ++ done) < 256 ^ 16 := by
    have := Ctr.num_lt _ ha.mem
    rwa [hl] at this
  rw [Ctr.num_append, hd] at hlt
  rcases hz with rfl | rfl
  · have h0 : Ctr.num (c.take 0) = 0 := rfl
    rw [h0, Nat.zero_mul, Nat.zero_add] at hlt ⊢
    rw [h0, Nat.zero_add] at h
    rw [← h, Nat.sub_zero, Nat.add_comm, Nat.add_mul_mod_self_right, Nat.mod_eq_of_lt hlt]
  · rw [Nat.add_zero] at h
    rw [h] at hlt ⊢
    rw [Nat.mod_eq_of_lt hlt]

theorem NextAt.step_eq {c done : List Nat} {j m T : Nat} (hc : c.length = 16) (hj : j < 16) (hd : done.length = 16 - (j + 1))
    (h : (Ctr.num (c.take (j + 1)) + m) * 256 ^ (16 - (j + 1)) + Ctr.num done = T) :
    (Ctr.num (c.take j) + (m + c.getD j 0) / 256) * 256 ^ (16 - j) + Ctr.num ((m + c.getD j 0) % 256 :: done) = T := by
  rw [Ctr.num_take_succ (by omega)] at h
  rw [Ctr.num_cons, hd, show 16 - j = 16 - (j + 1) + 1 by omega, Nat.pow_succ]
  generalize 256 ^ (16 - (j + 1)) = P at *
  generalize Ctr.num (c.take j) = A at *
  generalize Ctr.num done = D at *
  generalize c.getD j 0 = x at *
  have e : A * 256 + x + m = (A + (m + x) / 256) * 256 + (m + x) % 256 := by omega
  rw [← h, e]
  generalize A + (m + x) / 256 = B
  rw [Nat.add_mul (B * 256), Nat.mul_assoc B, Nat.mul_comm 256 P, Nat.add_assoc]
theorem NextAt.step_list {c done : List Nat} {j : Nat} (y : Nat) (hj : j < c.length) : (c.take (j + 1) ++ done).set j y = c.take j ++ (y :: done) := by
  have hl : (c.take j).length = j := by rw [List.length_take]; omega
  rw [List.take_succ_eq_append_getElem hj, List.append_assoc, List.set_append_right _ _ (by omega), hl, Nat.sub_self]
  rfl
theorem NextAt.step {g : Nat} {c : List Nat} {N : Nat} {w wr : World} {j m : Nat} {done : List Nat} (hc : c.length = 16) (hca : Bs.All c) (hj : j < 16) (hd : done.length = 16 - (j + 1)) (hda : Bs.All done) (hm : m ≤ 1099511627776 + 256)
    (h : (Ctr.num (c.take (j + 1)) + m) * 256 ^ (16 - (j + 1)) + Ctr.num done = Ctr.num c + N) (hb : Buf wr g (c.take (j + 1) ++ done)) (hk : Keep (fun k => k ≠ g) w wr) :
    NextAt g c N w (.int .i64 (((m + c.getD j 0) / 256 : Nat) : Int)) (.int .i64 ((j : Int) - 1)) (wr.setCell ⟨g, j, none⟩ (U ((m + c.getD j 0) % 256))) := by
  have hx := hca j
  have hb2 := hb.store (j := j) (by rw [List.length_append, List.length_take, hc, hd]; omega) ((m + c.getD j 0) % 256)
  rw [NextAt.step_list _ (by omega)] at hb2
  refine ⟨j, (m + c.getD j 0) / 256, (m + c.getD j 0) % 256 :: done, by omega, by rw [List.length_cons, hd]; omega, ?_, by omega, NextAt.step_eq hc hj hd h, rfl, rfl, hb2, hk.setCell (p := ⟨g, j, none⟩) (fun h => absurd rfl h) _⟩
  exact .of_mem fun x hx => by
    rcases List.mem_cons.1 hx with rfl | hx
    · omega
    · exact hda.mem x hx

end Go.Proofs.Ytgcfaeipiiagdaa
