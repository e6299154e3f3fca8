/-
  The contract of stream.Next.
-/
import Derived.Test.YtgcfaeipiiagdaaStrB
namespace Go.Proofs.Ytgcfaeipiiagdaa
open Go.RowKit

theorem Next_below {g : Nat} {w W1 wr : World} (hg : w.heap.size = g) (hb : Below w.heap.size w W1) (hk : Keep (fun k => k ≠ g) W1 wr) : Below w.heap.size w wr :=
  ⟨hk.os.trans hb.os, hk.tape.trans hb.tape, hk.output.trans hb.output, Nat.le_trans hb.size hk.size, fun k hl => (hk.block k (by omega) (Nat.lt_of_lt_of_le hl hb.size)).trans (hb.block k hl)⟩

set_option maxRecDepth 100000 in
set_option maxHeartbeats 2000000 in
theorem Next_any (c : ByteArray) (hc : c.size = 16) (N : Nat) (hN : N ≤ 1099511627776) (w : World) :
    Calls Try.prog 13 #[.string c, .int .i64 (N : Int)] w fun e w' => e = .returned (.tuple #[.string (strOf (Ctr.next (bytesOf c) N)), .int .i64 0]) ∧ Below w.heap.size w w' := by
  obtain ⟨W1, cap, hcv, hb1, hz1, hbuf⟩ := conv_buf (P := Try.prog) (src := 9) Try.underlying9 Try.underlying35 Try.underlying5 c w
  rw [hc] at hcv
  have hcl : (bytesOf c).length = 16 := by rw [bytesOf_length, hc]
  have hca := bytesOf_all c
  have t1 : ((c.size : Int) != 16) = false := by rw [bne_eq_false_iff_eq]; omega
  have hst : NextAt w.heap.size (bytesOf c) N W1 (.int .i64 (N : Int)) (.int .i64 15) W1 := ⟨16, N, [], by decide, rfl, (.of_mem fun x hx => by cases hx), by omega, by rw [List.take_of_length_le (by omega)]; simp [Ctr.num], rfl, rfl, by rw [List.take_of_length_le (by omega), List.append_nil]; exact hbuf, Keep.refl _ _⟩
  have Hst := Lib.hid hst
  have Hb1 := Lib.hid hb1
  have Hca := Lib.hid hca
  obtain ⟨C, hC⟩ : ∃ C, bytesOf c = C := ⟨_, rfl⟩
  rw [hC] at Hst Hca hcl ⊢
  obtain ⟨g, hg⟩ : ∃ g, w.heap.size = g := ⟨_, rfl⟩
  rw [hg] at Hst hcv
  have Hg := Lib.hid hg
  clear hst hb1 hca hbuf hC hg
  go_enter Try.func13, Try.ntmps13
  go_wp2_with fail
  go_loopw [1, 7] (fun vn vi wr => NextAt g C N W1 vn vi wr) (fun _ vi _ => (intOf vi + 1).toNat)
  case atStart => exact Hst.out
  case round =>
    clear Hst
    obtain ⟨j, m, done, hj, hd, hda, hm, heq, rfl, rfl, hb, hk⟩ := hrel
    by_cases hj0 : j = 0
    · have HF := Lib.hid (NextAt.last hcl Hca.out hj hd hda (.inl hj0) heq)
      have HB := Lib.hid hb
      have HK := Lib.hid hk
      have hcs := conv_string (P := Try.prog) (src := 35) (dst := 9) Try.underlying35 Try.underlying5 Try.underlying9 g 0 cap (C.take j ++ done) wr (fun k hk => by rw [Nat.zero_add]; exact hb.cell hk) 16 (by rw [List.length_append, List.length_take, hcl, hd]; omega)
      rw [HF.out] at hcs
      clear hb hk heq hd hda hj
      have hc0 : ¬ (0 : Int) ≤ (j : Int) - 1 := by omega
      go_wp2_with fail
      go_ret2
      exact ⟨rfl, Next_below Hg.out Hb1.out HK.out⟩
    · by_cases hm0 : m = 0
      · have HF := Lib.hid (NextAt.last hcl Hca.out hj hd hda (.inr hm0) heq)
        have HB := Lib.hid hb
        have HK := Lib.hid hk
        have hcs := conv_string (P := Try.prog) (src := 35) (dst := 9) Try.underlying35 Try.underlying5 Try.underlying9 g 0 cap (C.take j ++ done) wr (fun k hk => by rw [Nat.zero_add]; exact hb.cell hk) 16 (by rw [List.length_append, List.length_take, hcl, hd]; omega)
        rw [HF.out] at hcs
        clear hb hk heq hd hda hj
        have hc0 : (0 : Int) ≤ (j : Int) - 1 := by omega
        have hc1 : ¬ (0 : Int) < (m : Int) := by omega
        go_wp2_with fail
        go_ret2
        exact ⟨rfl, Next_below Hg.out Hb1.out HK.out⟩
      · obtain ⟨i, rfl⟩ : ∃ i, j = i + 1 := ⟨j - 1, by omega⟩
        have hx := Hca.out i
        have hcell := hb.cell (j := i) (by rw [List.length_append, List.length_take, hcl, hd]; omega)
        have hget : (C.take (i + 1) ++ done).getD i 0 = C.getD i 0 := by
          rw [List.getD_eq_getElem?_getD, List.getD_eq_getElem?_getD, List.getElem?_append_left (by rw [List.length_take]; omega), List.getElem?_take_of_lt (by omega)]
        rw [hget] at hcell
        have hfr := hb.frozen (j := i) (by rw [List.length_append, List.length_take, hcl, hd]; omega)
        have Hnx := Lib.hid (NextAt.step hcl Hca.out (by omega) hd hda hm heq hb hk)
        clear hb hk heq hd hda hget
        have e0 : ((i + 1 : Nat) : Int) - 1 = (i : Int) := by omega
        have hc0 : (0 : Int) ≤ (i : Int) := by omega
        have hc1 : (0 : Int) < (m : Int) := by omega
        have hi16 : i < 16 := by omega
        generalize C.getD i 0 = x at hcell hx Hnx
        rw [e0]
        go_wp2_with fail
        refine ⟨?_, by simp [intOf]⟩
        have h := Hnx.out
        rw [show (((m + x) / 256 : Nat) : Int) = ((m : Int) + x) / 256 by omega, show U ((m + x) % 256) = .int .u8 (((m : Int) + x) % 256) from congrArg (Value.int .u8) (by omega : (((m + x) % 256 : Nat) : Int) = ((m : Int) + x) % 256)] at h
        exact h

end Go.Proofs.Ytgcfaeipiiagdaa
