/-
  The document's answer of layer 4: Expand, Encrypt.
-/
import Derived.Test.YtkodfifmfpdjoaaRefI
namespace Go.Proofs.Ytkodfifmfpdjoaa
open Go.RowKit

theorem refExpanded_any (n : Nat) (hn : n = 4 ∨ n = 8) (k : ByteArray) (hk : k.size = 4 * n) (w : World) :
    Calls Try.prog 22 #[.string k, .agg (Bs.vals Fld.subsT)] w fun e w' => e = .returned (.string (strOf (Aes.expanded (bytesOf k)))) ∧ Below w.heap.size w w' := by
  rcases hn with rfl | rfl
  · exact refExpanded4 k hk w
  · exact refExpanded8 k hk w
theorem refRun_any (n : Nat) (hn : n = 4 ∨ n = 8) (k b : ByteArray) (hk : k.size = 4 * n) (hb : b.size = 16) (w : World) :
    Calls Try.prog 25 #[.string (strOf (Aes.expanded (bytesOf k))), .string b, .agg (Bs.vals Fld.subsT)] w fun e w' =>
      e = .returned (.string (strOf (Aes.enc (bytesOf k) (bytesOf b)))) ∧ Below w.heap.size w w' := by
  have hkl : (bytesOf k).length = 4 * n := by rw [bytesOf_length, hk]
  have hL := Aes.key_length hkl
  have hLa := Aes.expanded_all (bytesOf_all k)
  have hd : (bytesOf k).length / 4 = n := by omega
  have e : Aes.enc (bytesOf k) (bytesOf b) = (Aes.rounds n (Aes.expanded (bytesOf k)) false).foldl Aes.encStep (Aes.add (bytesOf b) (Aes.keyAt (Aes.expanded (bytesOf k)) 0)) := by rw [Aes.enc, hd]
  rw [e]
  have hbl : (bytesOf b).length = 16 := by rw [bytesOf_length, hb]
  rcases hn with rfl | rfl
  · have h := refRun4 (Aes.expanded (bytesOf k)) (bytesOf b) hL hLa hbl (bytesOf_all b) w
    rw [strOf_bytesOf] at h
    exact h
  · have h := refRun8 (Aes.expanded (bytesOf k)) (bytesOf b) hL hLa hbl (bytesOf_all b) w
    rw [strOf_bytesOf] at h
    exact h

theorem refExpand_any (n : Nat) (hn : n = 4 ∨ n = 8) (k : ByteArray) (hk : k.size = 4 * n) (w : World) :
    Calls Try.prog 12 #[.string k] w fun e w' => e = .returned (.tuple #[.string (strOf (Aes.expanded (bytesOf k))), .int .i64 0]) ∧ Below w.heap.size w w' := by
  have Hx := Lib.hid (refExpanded_any n hn k hk)
  have Hs := Lib.hid refSubs_any
  generalize Fld.subsT = T at *
  go_enter Try.func12, Try.ntmps12
  go_wp2_with fail
  refine (refMay_yes n hn k hk _).mono ?_
  rintro e w1 ⟨rfl, rfl⟩
  go_wp2_with fail
  refine (Hs.out _).mono ?_
  rintro e w2 ⟨rfl, hb2⟩
  have HB2 := Lib.hid hb2
  clear hb2
  go_wp2_with fail
  refine (Hx.out _).mono ?_
  rintro e w3 ⟨rfl, hb3⟩
  have HB3 := Lib.hid (below_seq HB2.out hb3)
  clear hb3 Hx Hs
  go_wp2
  go_ret2
  exact ⟨rfl, HB3.out⟩
theorem refExpand_none (k : ByteArray) (h1 : k.size ≠ 16) (h2 : k.size ≠ 32) (w : World) :
    Calls Try.prog 12 #[.string k] w fun e w' => e = .returned (.tuple #[.string ⟨#[]⟩, .int .i64 1]) ∧ Below w.heap.size w w' := by
  go_enter Try.func12, Try.ntmps12
  go_wp2_with fail
  refine (refMay_no k h1 h2 _).mono ?_
  rintro e w1 ⟨rfl, rfl⟩
  go_wp2
  go_ret2
  exact ⟨rfl, Below.refl _ _⟩

theorem refEncrypt_none (k b : ByteArray) (h : (k.size ≠ 16 ∧ k.size ≠ 32) ∨ b.size ≠ 16) (w : World) :
    Calls Try.prog 14 #[.string k, .string b] w fun e w' => e = .returned (.tuple #[.string ⟨#[]⟩, .int .i64 1]) ∧ Below w.heap.size w w' := by
  go_enter Try.func14, Try.ntmps14
  by_cases hk : k.size ≠ 16 ∧ k.size ≠ 32
  · go_wp2_with fail
    refine (refMay_no k hk.1 hk.2 _).mono ?_
    rintro e w1 ⟨rfl, rfl⟩
    go_wp2
    go_ret2
    exact ⟨rfl, Below.refl _ _⟩
  · obtain ⟨n, hn, hns⟩ : ∃ n, (n = 4 ∨ n = 8) ∧ k.size = 4 * n := by
      by_cases h1 : k.size = 16
      · exact ⟨4, .inl rfl, by omega⟩
      · exact ⟨8, .inr rfl, by omega⟩
    have hb := h.resolve_left hk
    have t1 : ((b.size : Int) != 16) = true := by rw [bne_iff_ne]; omega
    go_wp2_with fail
    refine (refMay_yes n hn k hns _).mono ?_
    rintro e w1 ⟨rfl, rfl⟩
    go_wp2
    go_ret2
    exact ⟨rfl, Below.refl _ _⟩

theorem refDecrypt_none (k b : ByteArray) (h : (k.size ≠ 16 ∧ k.size ≠ 32) ∨ b.size ≠ 16) (w : World) :
    Calls Try.prog 16 #[.string k, .string b] w fun e w' => e = .returned (.tuple #[.string ⟨#[]⟩, .int .i64 1]) ∧ Below w.heap.size w w' := by
  go_enter Try.func16, Try.ntmps16
  by_cases hk : k.size ≠ 16 ∧ k.size ≠ 32
  · go_wp2_with fail
    refine (refMay_no k hk.1 hk.2 _).mono ?_
    rintro e w1 ⟨rfl, rfl⟩
    go_wp2
    go_ret2
    exact ⟨rfl, Below.refl _ _⟩
  · obtain ⟨n, hn, hns⟩ : ∃ n, (n = 4 ∨ n = 8) ∧ k.size = 4 * n := by
      by_cases h1 : k.size = 16
      · exact ⟨4, .inl rfl, by omega⟩
      · exact ⟨8, .inr rfl, by omega⟩
    have hb := h.resolve_left hk
    have t1 : ((b.size : Int) != 16) = true := by rw [bne_iff_ne]; omega
    go_wp2_with fail
    refine (refMay_yes n hn k hns _).mono ?_
    rintro e w1 ⟨rfl, rfl⟩
    go_wp2
    go_ret2
    exact ⟨rfl, Below.refl _ _⟩

set_option maxRecDepth 100000 in
set_option maxHeartbeats 4000000 in
theorem refEncrypt_any (n : Nat) (hn : n = 4 ∨ n = 8) (k b : ByteArray) (hk : k.size = 4 * n) (hb : b.size = 16) (w : World) :
    Calls Try.prog 14 #[.string k, .string b] w fun e w' => e = .returned (.tuple #[.string (strOf (Aes.enc (bytesOf k) (bytesOf b))), .int .i64 0]) ∧ Below w.heap.size w w' := by
  have Hx := Lib.hid (refExpanded_any n hn k hk)
  have Hr := Lib.hid (refRun_any n hn k b hk hb)
  have Hs := Lib.hid refSubs_any
  have hT : Fld.subsT.length = 256 := Fld.subsT_length
  generalize Fld.subsT = T at *
  generalize Aes.expanded (bytesOf k) = L at *
  generalize Aes.enc (bytesOf k) (bytesOf b) = R at *
  have t1 : ((b.size : Int) != 16) = false := by rw [bne_eq_false_iff_eq]; omega
  go_enter Try.func14, Try.ntmps14
  go_wp2_with fail
  refine (refMay_yes n hn k hk _).mono ?_
  rintro e w1 ⟨rfl, hw1⟩
  obtain rfl := hw1.symm
  go_wp2_with fail
  refine (Hs.out _).mono ?_
  rintro e w2 ⟨rfl, hb2⟩
  have HB2 := Lib.hid hb2
  have hnew := Row.new w2 47 Try.zeroCells47
  clear hb2 Hs
  go_wp2_with (first | (refine wpList_store_row rfl 47 _ _ rfl w2.heap.size (Bs.vals T) rfl rfl 47 _ hnew (by rw [Bs.size, hT]; exact Tab.info256) (by rw [Tab.zero256, Bs.size, Bs.size, List.length_replicate, hT]) (Bs.one _) ?_) | fail)
  have hrow : Row ((w2.alloc (.cells Try.zeroCells47 47)).setRow w2.heap.size (Bs.vals T)) w2.heap.size 47 (Bs.vals T) := setRow_heap _ _ _ _ _ (0, 0) hnew
  have hB3 : Below w.heap.size w ((w2.alloc (.cells Try.zeroCells47 47)).setRow w2.heap.size (Bs.vals T)) := below_setRow (HB2.out.alloc HB2.out.size _) HB2.out.size _
  obtain ⟨wr, hwr⟩ : ∃ wr, (w2.alloc (.cells Try.zeroCells47 47)).setRow w2.heap.size (Bs.vals T) = wr := ⟨_, rfl⟩
  rw [hwr] at hrow hB3 ⊢
  have Hrow := Lib.hid hrow
  have HB3 := Lib.hid hB3
  clear hrow hB3 hwr hnew HB2 hk hb hn
  refine wp_region_any (by kernel_rfl) ?_
  change wpAny _ _ _ _ _ _ _ (World.drew wr)
  refine wpAny_take (i := 0) (v := ?_) rfl (by kernel_rfl) (by kernel_rfl) (by kernel_rfl) (fun _ _ _ h => h) (Or.inl ⟨by rfl, fun _ => by go_simp; rfl⟩) ?_
  refine wpAny_take (i := 3) (v := ?_) rfl (by kernel_rfl) (by kernel_rfl) (by kernel_rfl) (fun _ _ _ h => h) (Or.inl ⟨by rfl, fun _ => by go_simp; rfl⟩) ?_
  refine wpAny_ready (rs := [1, 4]) (by kernel_rfl) (by simp) ?_
  refine AllReady.cons rfl (fun K hK => ?_) (AllReady.cons rfl (fun K hK => ?_) AllReady.nil)
  · refine step_load_row rfl 47 _ rfl w2.heap.size rfl 47 _ _ Hrow.out.drew Try.underlying47 rfl (by rw [Bs.size, hT]; exact Tab.info256) ?_
    refine hK _ _ ?_
    clear hK K
    refine wpAny_ready (rs := [2, 4]) (by kernel_rfl) (by simp) ?_
    refine AllReady.cons rfl (fun K hK => ?_) (AllReady.cons rfl (fun K hK => ?_) AllReady.nil)
    · skip
      go_simp
      refine (Hx.out _).mono ?_
      rintro e w4 ⟨rfl, hb4⟩
      refine hK _ _ ?_
      clear hK K
      have HB4 := Lib.hid (below_seq HB3.out (below_drew hb4))
      have Hrow4 := Lib.hid (Hrow.out.below (below_drew hb4) Hrow.out.lt)
      clear hb4
      refine wpAny_ready (rs := [4]) (by kernel_rfl) (by simp) ?_
      refine AllReady.cons rfl (fun K hK => ?_) AllReady.nil
      refine step_load_row rfl 47 _ rfl w2.heap.size rfl 47 _ _ Hrow4.out Try.underlying47 rfl (by rw [Bs.size, hT]; exact Tab.info256) ?_
      refine hK _ _ ?_
      clear hK K
      refine wpAny_ready (rs := [5]) (by kernel_rfl) (by simp) ?_
      refine AllReady.cons rfl (fun K hK => ?_) AllReady.nil
      go_simp
      refine (Hr.out _).mono ?_
      rintro e w5 ⟨rfl, hb5⟩
      refine hK _ _ ?_
      clear hK K
      have HB5 := Lib.hid (below_seq HB4.out hb5)
      clear hb5
      refine wpAny_ready (rs := [6]) (by kernel_rfl) (by simp) ?_
      refine AllReady.cons rfl (fun K hK => ?_) AllReady.nil
      go_simp
      refine hK _ _ ?_
      clear hK K
      refine wpAny_ready (rs := [7]) (by kernel_rfl) (by simp) ?_
      refine AllReady.cons rfl (fun K hK => ?_) AllReady.nil
      go_simp
      refine hK _ _ ?_
      clear hK K
      refine wpAny_done (by kernel_rfl) ?_ _
      go_wp2
      go_ret2
      exact ⟨rfl, HB5.out⟩
    · refine step_load_row rfl 47 _ rfl w2.heap.size rfl 47 _ _ Hrow.out.drew Try.underlying47 rfl (by rw [Bs.size, hT]; exact Tab.info256) ?_
      refine hK _ _ ?_
      clear hK K
      refine wpAny_ready (rs := [2]) (by kernel_rfl) (by simp) ?_
      refine AllReady.cons rfl (fun K hK => ?_) AllReady.nil
      go_simp
      refine (Hx.out _).mono ?_
      rintro e w4 ⟨rfl, hb4⟩
      refine hK _ _ ?_
      clear hK K
      have HB4 := Lib.hid (below_seq HB3.out (below_drew hb4))
      have Hrow4 := Lib.hid (Hrow.out.below (below_drew hb4) Hrow.out.lt)
      clear hb4
      refine wpAny_ready (rs := [5]) (by kernel_rfl) (by simp) ?_
      refine AllReady.cons rfl (fun K hK => ?_) AllReady.nil
      go_simp
      refine (Hr.out _).mono ?_
      rintro e w5 ⟨rfl, hb5⟩
      refine hK _ _ ?_
      clear hK K
      have HB5 := Lib.hid (below_seq HB4.out hb5)
      clear hb5
      refine wpAny_ready (rs := [6]) (by kernel_rfl) (by simp) ?_
      refine AllReady.cons rfl (fun K hK => ?_) AllReady.nil
      go_simp
      refine hK _ _ ?_
      clear hK K
      refine wpAny_ready (rs := [7]) (by kernel_rfl) (by simp) ?_
      refine AllReady.cons rfl (fun K hK => ?_) AllReady.nil
      go_simp
      refine hK _ _ ?_
      clear hK K
      refine wpAny_done (by kernel_rfl) ?_ _
      go_wp2
      go_ret2
      exact ⟨rfl, HB5.out⟩
  · refine step_load_row rfl 47 _ rfl w2.heap.size rfl 47 _ _ Hrow.out.drew Try.underlying47 rfl (by rw [Bs.size, hT]; exact Tab.info256) ?_
    refine hK _ _ ?_
    clear hK K
    refine wpAny_ready (rs := [1]) (by kernel_rfl) (by simp) ?_
    refine AllReady.cons rfl (fun K hK => ?_) AllReady.nil
    refine step_load_row rfl 47 _ rfl w2.heap.size rfl 47 _ _ Hrow.out.drew Try.underlying47 rfl (by rw [Bs.size, hT]; exact Tab.info256) ?_
    refine hK _ _ ?_
    clear hK K
    refine wpAny_ready (rs := [2]) (by kernel_rfl) (by simp) ?_
    refine AllReady.cons rfl (fun K hK => ?_) AllReady.nil
    go_simp
    refine (Hx.out _).mono ?_
    rintro e w4 ⟨rfl, hb4⟩
    refine hK _ _ ?_
    clear hK K
    have HB4 := Lib.hid (below_seq HB3.out (below_drew hb4))
    have Hrow4 := Lib.hid (Hrow.out.below (below_drew hb4) Hrow.out.lt)
    clear hb4
    refine wpAny_ready (rs := [5]) (by kernel_rfl) (by simp) ?_
    refine AllReady.cons rfl (fun K hK => ?_) AllReady.nil
    go_simp
    refine (Hr.out _).mono ?_
    rintro e w5 ⟨rfl, hb5⟩
    refine hK _ _ ?_
    clear hK K
    have HB5 := Lib.hid (below_seq HB4.out hb5)
    clear hb5
    refine wpAny_ready (rs := [6]) (by kernel_rfl) (by simp) ?_
    refine AllReady.cons rfl (fun K hK => ?_) AllReady.nil
    go_simp
    refine hK _ _ ?_
    clear hK K
    refine wpAny_ready (rs := [7]) (by kernel_rfl) (by simp) ?_
    refine AllReady.cons rfl (fun K hK => ?_) AllReady.nil
    go_simp
    refine hK _ _ ?_
    clear hK K
    refine wpAny_done (by kernel_rfl) ?_ _
    go_wp2
    go_ret2
    exact ⟨rfl, HB5.out⟩

end Go.Proofs.Ytkodfifmfpdjoaa
