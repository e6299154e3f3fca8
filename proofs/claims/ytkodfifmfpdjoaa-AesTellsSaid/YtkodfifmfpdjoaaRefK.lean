/-
  The document's answer of layer 4: Decrypt.
-/
import Derived.Test.YtkodfifmfpdjoaaRefJ
namespace Go.Proofs.Ytkodfifmfpdjoaa
open Go.RowKit

set_option maxRecDepth 100000 in
set_option maxHeartbeats 8000000 in
theorem refDecrypt4 (k b : ByteArray) (hk : k.size = 16) (hb : b.size = 16) (w : World) :
    Calls Try.prog 16 #[.string k, .string b] w fun e w' => e = .returned (.tuple #[.string (strOf (Aes.dec (bytesOf k) (bytesOf b))), .int .i64 0]) ∧ Below w.heap.size w w' := by
  have hkl : (bytesOf k).length = 4 * 4 := by rw [bytesOf_length, hk]
  have hl : (Aes.expanded (bytesOf k)).length = 176 := Aes.key_length (n := 4) hkl
  have hL := Aes.expanded_all (bytesOf_all k)
  have hdv : (bytesOf k).length / 4 = 4 := by omega
  have hdec : Aes.dec (bytesOf k) (bytesOf b) = Aes.add ((Aes.rounds 4 (Aes.expanded (bytesOf k)) true).foldl Aes.decStep (bytesOf b)) (Aes.keyAt (Aes.expanded (bytesOf k)) 0) := by rw [Aes.dec, hdv]
  have hBl : (bytesOf b).length = 16 := by rw [bytesOf_length, hb]
  have hBa := bytesOf_all b
  have hbs : .string b = Value.string (strOf (bytesOf b)) := by rw [strOf_bytesOf]
  have Hx := Lib.hid (refExpanded_any 4 (by decide) k hk)
  have Hs := Lib.hid refSubs_any
  have Hbb := Lib.hid refBacks_any
  have HBK := Lib.hid backs16
  have hT : Fld.backsT.length = 256 := Fld.backsT_length
  generalize Fld.subsT = T0 at *
  generalize Fld.backsT = T at *
  generalize Aes.dec (bytesOf k) (bytesOf b) = D at *
  generalize Aes.expanded (bytesOf k) = L at *
  have t1 : ((b.size : Int) != 16) = false := by rw [bne_eq_false_iff_eq]; omega
  have Hdec := Lib.hid hdec
  have HL := Lib.hid hL
  have HBa := Lib.hid hBa
  have Hbs := Lib.hid hbs
  clear hkl hdv hdec hL hBa hbs
  go_enter Try.func16, Try.ntmps16
  go_wp2_with fail
  refine (refMay_yes 4 (by decide) k hk _).mono ?_
  rintro e w1 ⟨rfl, hw1⟩
  obtain rfl := hw1.symm
  go_wp2_with fail
  refine (Hbb.out _).mono ?_
  rintro e w2 ⟨rfl, hb2⟩
  have HB2 := Lib.hid hb2
  have hnew := Row.new w2 47 Try.zeroCells47
  clear hb2 Hbb
  go_wp2_with (first | (refine wpList_store_row rfl 47 _ _ rfl w2.heap.size (Bs.vals T) rfl rfl 47 _ hnew (by rw [Bs.size, hT]; exact Tab.info256) (by rw [Tab.zero256, Bs.size, Bs.size, List.length_replicate, hT]) (Bs.one _) ?_) | fail)
  have hrow : Row ((w2.alloc (.cells Try.zeroCells47 47)).setRow w2.heap.size (Bs.vals T)) w2.heap.size 47 (Bs.vals T) := setRow_heap _ _ _ _ _ (0, 0) hnew
  have hB3 : Below w.heap.size w ((w2.alloc (.cells Try.zeroCells47 47)).setRow w2.heap.size (Bs.vals T)) := below_setRow (HB2.out.alloc HB2.out.size _) HB2.out.size _
  obtain ⟨w3, hw3⟩ : ∃ w3, (w2.alloc (.cells Try.zeroCells47 47)).setRow w2.heap.size (Bs.vals T) = w3 := ⟨_, rfl⟩
  rw [hw3] at hrow hB3 ⊢
  obtain ⟨g, hg⟩ : ∃ g, w2.heap.size = g := ⟨_, rfl⟩
  rw [hg] at hrow ⊢
  have Hrow := Lib.hid hrow
  have HB3 := Lib.hid hB3
  clear hrow hB3 hw3 hnew HB2 hk hb hg
  refine (Hs.out _).mono ?_
  rintro e w4 ⟨rfl, hb4⟩
  have HB4 := Lib.hid (below_seq HB3.out hb4)
  have Hrow4 := Lib.hid (Hrow.out.below hb4 Hrow.out.lt)
  clear hb4 Hs HB3 Hrow
  go_wp2_with fail
  refine (Hx.out _).mono ?_
  rintro e w5 ⟨rfl, hb5⟩
  have HB5 := Lib.hid (below_seq HB4.out hb5)
  have Hrow5 := Lib.hid (Hrow4.out.below hb5 Hrow4.out.lt)
  have hg5 := Hrow5.out.lt
  clear hb5 Hx HB4 Hrow4
  have hks : ((strOf L).size : Int) = 176 := by rw [strOf_size]; omega
  have Hst : Hid (RDecAt 4 L (bytesOf b) w5 (.string b) (.int .i64 10) w5) := Lib.hid ⟨0, 10, rfl, rfl, bytesOf b, rfl, hBl, HBa.out, Hbs.out, Below.refl _ _⟩
  clear Hbs hBl HBa
  generalize bytesOf b = B at *
  go_wp2
  go_loopw [9, 10] (fun vs vi wr => RDecAt 4 L B w5 vs vi wr) (fun _ vi _ => (intOf vi).toNat)
  case atStart => exact Hst.out
  case round =>
    clear Hst hks
    obtain ⟨j, i, hij, rfl, S, hS, hSl, hSa, rfl, hBw⟩ := hrel
    have HB := Lib.hid hBw
    have HS := Lib.hid hS
    have HSa := Lib.hid hSa
    clear hBw hS hSa
    by_cases hlt : 1 ≤ i
    · have hlt' : (1 : Int) ≤ (i : Int) := by omega
      have hi10 : i ≤ 10 := by omega
      have hks := fun W => key_slice L HL.out (16 * (i : Int)) (16 * (i : Int) + 16) i (by omega) (by omega) (by omega) W
      have hKl : (Aes.keyAt L i).length = 16 := Aes.keyAt_length (n := 4) hl (by omega)
      have HKa := Lib.hid (Aes.keyAt_all HL.out i)
      have Hx1 := Lib.hid (xor16 S (Aes.keyAt L i) HSa.out HKa.out hSl hKl)
      have H1a := Lib.hid (Aes.add_all HSa.out HKa.out)
      have H1l := Aes.add_length S (Aes.keyAt L i)
      have hnx := Aes.rounds_next 4 L true (show j < 4 + 6 by omega)
      simp only [if_true] at hnx
      rw [show 4 + 6 - j = i by omega] at hnx
      have Hnx := Lib.hid hnx
      have hprev : (i : Int) - 1 = ((i - 1 : Nat) : Int) := by omega
      clear hnx hSl
      by_cases hlast : j = 0
      · have t2 : ¬ ((i : Int) < 10) := by omega
        have Hs3 := Lib.hid (shift3 (Aes.add S (Aes.keyAt L i)) H1l H1a.out)
        have H2a := Lib.hid (Aes.move_all 3 H1a.out)
        have Hbk := Lib.hid (HBK.out (Aes.move 3 (Aes.add S (Aes.keyAt L i))) (Aes.move_length _ _) H2a.out)
        have Hnew : Hid (Aes.each Fld.back (Aes.move 3 (Aes.add S (Aes.keyAt L i))) = ((Aes.rounds 4 L true).take (j + 1)).foldl Aes.decStep B) := Lib.hid (by
          rw [Hnx.out, List.foldl_append, ← HS.out, decide_eq_true hlast]
          rfl)
        have HNa := Lib.hid (Aes.each_all Fld.back_lt H2a.out)
        have hNl := Aes.each_length Fld.back (Aes.move 3 (Aes.add S (Aes.keyAt L i)))
        generalize Aes.each Fld.back (Aes.move 3 (Aes.add S (Aes.keyAt L i))) = N at *
        generalize Aes.move 3 (Aes.add S (Aes.keyAt L i)) = M at *
        generalize Aes.add S (Aes.keyAt L i) = A at *
        generalize Aes.keyAt L i = K at *
        have Hnext : Hid (∀ wr', Below w5.heap.size w5 wr' → RDecAt 4 L B w5 (.string (strOf N)) (.int .i64 ((i : Int) - 1)) wr') := Lib.hid (fun wr' h => ⟨j + 1, i - 1, by omega, by rw [hprev], N, Hnew.out, hNl, HNa.out, rfl, h⟩)
        clear hKl Hnx Hnew hprev
        go_wp2_with fail
        refine (Hx1.out _).mono ?_
        rintro e w6 ⟨rfl, hb6⟩
        have HB6 := Lib.hid (below_seq HB.out hb6)
        have Hrowx := Lib.hid (Hrow5.out.below HB6.out hg5)
        clear hb6 Hx1 hks
        go_wp2_with fail
        refine wp_region_any (by kernel_rfl) ?_
        change wpAny _ _ _ _ _ _ _ (World.drew w6)
        refine wpAny_take (i := 0) (v := ?_) rfl (by kernel_rfl) (by kernel_rfl) (by kernel_rfl) (fun _ _ _ h => h) (Or.inl ⟨by rfl, fun _ => by go_simp; rfl⟩) ?_
        refine wpAny_ready (rs := [1, 2]) (by kernel_rfl) (by simp) ?_
        refine AllReady.cons rfl (fun K hK => ?_) (AllReady.cons rfl (fun K hK => ?_) AllReady.nil)
        · skip
          go_simp
          refine (Hs3.out _).mono ?_
          rintro e w8 ⟨rfl, hb8⟩
          refine hK _ _ ?_
          clear hK K
          have HB8 := Lib.hid (below_seq HB6.out (below_drew hb8))
          have Hrow8 := Lib.hid (Hrowx.out.below (below_drew hb8) Hrowx.out.lt)
          clear hb8
          refine wpAny_ready (rs := [2]) (by kernel_rfl) (by simp) ?_
          refine AllReady.cons rfl (fun K hK => ?_) AllReady.nil
          refine step_load_row rfl 47 _ rfl g rfl 47 _ _ Hrow8.out Try.underlying47 rfl (by rw [Bs.size, hT]; exact Tab.info256) ?_
          refine hK _ _ ?_
          clear hK K
          refine wpAny_ready (rs := [3]) (by kernel_rfl) (by simp) ?_
          refine AllReady.cons rfl (fun K hK => ?_) AllReady.nil
          go_simp
          refine (Hbk.out _).mono ?_
          rintro e w9 ⟨rfl, hb9⟩
          refine hK _ _ ?_
          clear hK K
          have Hrel := Lib.hid (Hnext.out _ (below_seq HB8.out hb9))
          clear hb9
          refine wpAny_ready (rs := [4]) (by kernel_rfl) (by simp) ?_
          refine AllReady.cons rfl (fun K hK => ?_) AllReady.nil
          go_simp
          refine hK _ _ ?_
          clear hK K
          refine wpAny_done (by kernel_rfl) ?_ _
          go_wp2
          go_roundw
          case rel => exact Hrel.out
          case measure => simp [intOf]; omega
        · refine step_load_row rfl 47 _ rfl g rfl 47 _ _ Hrowx.out.drew Try.underlying47 rfl (by rw [Bs.size, hT]; exact Tab.info256) ?_
          refine hK _ _ ?_
          clear hK K
          refine wpAny_ready (rs := [1]) (by kernel_rfl) (by simp) ?_
          refine AllReady.cons rfl (fun K hK => ?_) AllReady.nil
          go_simp
          refine (Hs3.out _).mono ?_
          rintro e w8 ⟨rfl, hb8⟩
          refine hK _ _ ?_
          clear hK K
          have HB8 := Lib.hid (below_seq HB6.out (below_drew hb8))
          have Hrow8 := Lib.hid (Hrowx.out.below (below_drew hb8) Hrowx.out.lt)
          clear hb8
          refine wpAny_ready (rs := [3]) (by kernel_rfl) (by simp) ?_
          refine AllReady.cons rfl (fun K hK => ?_) AllReady.nil
          go_simp
          refine (Hbk.out _).mono ?_
          rintro e w9 ⟨rfl, hb9⟩
          refine hK _ _ ?_
          clear hK K
          have Hrel := Lib.hid (Hnext.out _ (below_seq HB8.out hb9))
          clear hb9
          refine wpAny_ready (rs := [4]) (by kernel_rfl) (by simp) ?_
          refine AllReady.cons rfl (fun K hK => ?_) AllReady.nil
          go_simp
          refine hK _ _ ?_
          clear hK K
          refine wpAny_done (by kernel_rfl) ?_ _
          go_wp2
          go_roundw
          case rel => exact Hrel.out
          case measure => simp [intOf]; omega
      · have t2 : (i : Int) < 10 := by omega
        have Hm1 := Lib.hid (mixed16 (Aes.add S (Aes.keyAt L i)) H1l H1a.out)
        have Hm2 := Lib.hid (mixed16 (Aes.columns Fld.mx (Aes.add S (Aes.keyAt L i))) (Aes.columns_length _ _) (Aes.columns_all Fld.mx_lt))
        have Hm3 := Lib.hid (mixed16 (Aes.columns Fld.mx (Aes.columns Fld.mx (Aes.add S (Aes.keyAt L i)))) (Aes.columns_length _ _) (Aes.columns_all Fld.mx_lt))
        rw [Aes.mx_thrice H1l H1a.out] at Hm3
        have H3a : Hid (Bs.All (Aes.columns Fld.ux (Aes.add S (Aes.keyAt L i)))) := Lib.hid (Aes.columns_all Fld.ux_lt)
        have Hs3 := Lib.hid (shift3 (Aes.columns Fld.ux (Aes.add S (Aes.keyAt L i))) (Aes.columns_length _ _) H3a.out)
        have H2a := Lib.hid (Aes.move_all 3 H3a.out)
        have Hbk := Lib.hid (HBK.out (Aes.move 3 (Aes.columns Fld.ux (Aes.add S (Aes.keyAt L i)))) (Aes.move_length _ _) H2a.out)
        have Hnew : Hid (Aes.each Fld.back (Aes.move 3 (Aes.columns Fld.ux (Aes.add S (Aes.keyAt L i)))) = ((Aes.rounds 4 L true).take (j + 1)).foldl Aes.decStep B) := Lib.hid (by
          rw [Hnx.out, List.foldl_append, ← HS.out, decide_eq_false hlast]
          rfl)
        have HNa := Lib.hid (Aes.each_all Fld.back_lt H2a.out)
        have hNl := Aes.each_length Fld.back (Aes.move 3 (Aes.columns Fld.ux (Aes.add S (Aes.keyAt L i))))
        generalize Aes.each Fld.back (Aes.move 3 (Aes.columns Fld.ux (Aes.add S (Aes.keyAt L i)))) = N at *
        generalize Aes.move 3 (Aes.columns Fld.ux (Aes.add S (Aes.keyAt L i))) = M at *
        generalize Aes.columns Fld.ux (Aes.add S (Aes.keyAt L i)) = C3 at *
        generalize Aes.columns Fld.mx (Aes.columns Fld.mx (Aes.add S (Aes.keyAt L i))) = C2 at *
        generalize Aes.columns Fld.mx (Aes.add S (Aes.keyAt L i)) = C1 at *
        generalize Aes.add S (Aes.keyAt L i) = A at *
        generalize Aes.keyAt L i = K at *
        have Hnext : Hid (∀ wr', Below w5.heap.size w5 wr' → RDecAt 4 L B w5 (.string (strOf N)) (.int .i64 ((i : Int) - 1)) wr') := Lib.hid (fun wr' h => ⟨j + 1, i - 1, by omega, by rw [hprev], N, Hnew.out, hNl, HNa.out, rfl, h⟩)
        clear hKl Hnx Hnew hprev
        go_wp2_with fail
        refine (Hx1.out _).mono ?_
        rintro e w6 ⟨rfl, hb6⟩
        have HB6 := Lib.hid (below_seq HB.out hb6)
        clear hb6 Hx1 hks
        go_wp2_with fail
        refine (Hm1.out _).mono ?_
        rintro e wa ⟨rfl, hba⟩
        have HBa1 := Lib.hid (below_seq HB6.out hba)
        clear hba Hm1
        go_wp2_with fail
        refine (Hm2.out _).mono ?_
        rintro e wb ⟨rfl, hbb⟩
        have HBb := Lib.hid (below_seq HBa1.out hbb)
        clear hbb Hm2
        go_wp2_with fail
        refine (Hm3.out _).mono ?_
        rintro e wd ⟨rfl, hbd⟩
        have HBd := Lib.hid (below_seq HBb.out hbd)
        have Hrowx := Lib.hid (Hrow5.out.below HBd.out hg5)
        clear hbd Hm3
        go_wp2_with fail
        refine wp_region_any (by kernel_rfl) ?_
        change wpAny _ _ _ _ _ _ _ (World.drew wd)
        refine wpAny_take (i := 0) (v := ?_) rfl (by kernel_rfl) (by kernel_rfl) (by kernel_rfl) (fun _ _ _ h => h) (Or.inl ⟨by rfl, fun _ => by go_simp; rfl⟩) ?_
        refine wpAny_ready (rs := [1, 2]) (by kernel_rfl) (by simp) ?_
        refine AllReady.cons rfl (fun K hK => ?_) (AllReady.cons rfl (fun K hK => ?_) AllReady.nil)
        · skip
          go_simp
          refine (Hs3.out _).mono ?_
          rintro e w8 ⟨rfl, hb8⟩
          refine hK _ _ ?_
          clear hK K
          have HB8 := Lib.hid (below_seq HBd.out (below_drew hb8))
          have Hrow8 := Lib.hid (Hrowx.out.below (below_drew hb8) Hrowx.out.lt)
          clear hb8
          refine wpAny_ready (rs := [2]) (by kernel_rfl) (by simp) ?_
          refine AllReady.cons rfl (fun K hK => ?_) AllReady.nil
          refine step_load_row rfl 47 _ rfl g rfl 47 _ _ Hrow8.out Try.underlying47 rfl (by rw [Bs.size, hT]; exact Tab.info256) ?_
          refine hK _ _ ?_
          clear hK K
          refine wpAny_ready (rs := [3]) (by kernel_rfl) (by simp) ?_
          refine AllReady.cons rfl (fun K hK => ?_) AllReady.nil
          go_simp
          refine (Hbk.out _).mono ?_
          rintro e w9 ⟨rfl, hb9⟩
          refine hK _ _ ?_
          clear hK K
          have Hrel := Lib.hid (Hnext.out _ (below_seq HB8.out hb9))
          clear hb9
          refine wpAny_ready (rs := [4]) (by kernel_rfl) (by simp) ?_
          refine AllReady.cons rfl (fun K hK => ?_) AllReady.nil
          go_simp
          refine hK _ _ ?_
          clear hK K
          refine wpAny_done (by kernel_rfl) ?_ _
          go_wp2
          go_roundw
          case rel => exact Hrel.out
          case measure => simp [intOf]; omega
        · refine step_load_row rfl 47 _ rfl g rfl 47 _ _ Hrowx.out.drew Try.underlying47 rfl (by rw [Bs.size, hT]; exact Tab.info256) ?_
          refine hK _ _ ?_
          clear hK K
          refine wpAny_ready (rs := [1]) (by kernel_rfl) (by simp) ?_
          refine AllReady.cons rfl (fun K hK => ?_) AllReady.nil
          go_simp
          refine (Hs3.out _).mono ?_
          rintro e w8 ⟨rfl, hb8⟩
          refine hK _ _ ?_
          clear hK K
          have HB8 := Lib.hid (below_seq HBd.out (below_drew hb8))
          have Hrow8 := Lib.hid (Hrowx.out.below (below_drew hb8) Hrowx.out.lt)
          clear hb8
          refine wpAny_ready (rs := [3]) (by kernel_rfl) (by simp) ?_
          refine AllReady.cons rfl (fun K hK => ?_) AllReady.nil
          go_simp
          refine (Hbk.out _).mono ?_
          rintro e w9 ⟨rfl, hb9⟩
          refine hK _ _ ?_
          clear hK K
          have Hrel := Lib.hid (Hnext.out _ (below_seq HB8.out hb9))
          clear hb9
          refine wpAny_ready (rs := [4]) (by kernel_rfl) (by simp) ?_
          refine AllReady.cons rfl (fun K hK => ?_) AllReady.nil
          go_simp
          refine hK _ _ ?_
          clear hK K
          refine wpAny_done (by kernel_rfl) ?_ _
          go_wp2
          go_roundw
          case rel => exact Hrel.out
          case measure => simp [intOf]; omega
    · obtain rfl : i = 0 := by omega
      obtain rfl : j = 10 := by omega
      have hlt' : ¬ ((1 : Int) ≤ ((0 : Nat) : Int)) := by decide
      have hfin := HS.out
      rw [List.take_of_length_le (by rw [Aes.rounds_length]; decide)] at hfin
      have hk0 := key_first L HL.out (by omega)
      have Hx0 := Lib.hid (xor16 S (Aes.keyAt L 0) HSa.out (Aes.keyAt_all HL.out 0) hSl (Aes.keyAt_length (n := 4) hl (by decide)))
      rw [hfin, ← Hdec.out, ← hfin] at Hx0
      have HB6 := Lib.hid (below_seq HB5.out HB.out)
      clear hfin hSl hlt
      generalize Aes.keyAt L 0 = K0 at *
      go_wp2_with fail
      refine (Hx0.out _).mono ?_
      rintro e w7 ⟨rfl, hb7⟩
      have HB7 := Lib.hid (below_seq HB6.out hb7)
      clear hb7
      go_wp2
      go_ret2
      exact ⟨rfl, HB7.out⟩

set_option maxRecDepth 100000 in
set_option maxHeartbeats 8000000 in
theorem refDecrypt8 (k b : ByteArray) (hk : k.size = 32) (hb : b.size = 16) (w : World) :
    Calls Try.prog 16 #[.string k, .string b] w fun e w' => e = .returned (.tuple #[.string (strOf (Aes.dec (bytesOf k) (bytesOf b))), .int .i64 0]) ∧ Below w.heap.size w w' := by
  have hkl : (bytesOf k).length = 4 * 8 := by rw [bytesOf_length, hk]
  have hl : (Aes.expanded (bytesOf k)).length = 240 := Aes.key_length (n := 8) hkl
  have hL := Aes.expanded_all (bytesOf_all k)
  have hdv : (bytesOf k).length / 4 = 8 := by omega
  have hdec : Aes.dec (bytesOf k) (bytesOf b) = Aes.add ((Aes.rounds 8 (Aes.expanded (bytesOf k)) true).foldl Aes.decStep (bytesOf b)) (Aes.keyAt (Aes.expanded (bytesOf k)) 0) := by rw [Aes.dec, hdv]
  have hBl : (bytesOf b).length = 16 := by rw [bytesOf_length, hb]
  have hBa := bytesOf_all b
  have hbs : .string b = Value.string (strOf (bytesOf b)) := by rw [strOf_bytesOf]
  have Hx := Lib.hid (refExpanded_any 8 (by decide) k hk)
  have Hs := Lib.hid refSubs_any
  have Hbb := Lib.hid refBacks_any
  have HBK := Lib.hid backs16
  have hT : Fld.backsT.length = 256 := Fld.backsT_length
  generalize Fld.subsT = T0 at *
  generalize Fld.backsT = T at *
  generalize Aes.dec (bytesOf k) (bytesOf b) = D at *
  generalize Aes.expanded (bytesOf k) = L at *
  have t1 : ((b.size : Int) != 16) = false := by rw [bne_eq_false_iff_eq]; omega
  have Hdec := Lib.hid hdec
  have HL := Lib.hid hL
  have HBa := Lib.hid hBa
  have Hbs := Lib.hid hbs
  clear hkl hdv hdec hL hBa hbs
  go_enter Try.func16, Try.ntmps16
  go_wp2_with fail
  refine (refMay_yes 8 (by decide) k hk _).mono ?_
  rintro e w1 ⟨rfl, hw1⟩
  obtain rfl := hw1.symm
  go_wp2_with fail
  refine (Hbb.out _).mono ?_
  rintro e w2 ⟨rfl, hb2⟩
  have HB2 := Lib.hid hb2
  have hnew := Row.new w2 47 Try.zeroCells47
  clear hb2 Hbb
  go_wp2_with (first | (refine wpList_store_row rfl 47 _ _ rfl w2.heap.size (Bs.vals T) rfl rfl 47 _ hnew (by rw [Bs.size, hT]; exact Tab.info256) (by rw [Tab.zero256, Bs.size, Bs.size, List.length_replicate, hT]) (Bs.one _) ?_) | fail)
  have hrow : Row ((w2.alloc (.cells Try.zeroCells47 47)).setRow w2.heap.size (Bs.vals T)) w2.heap.size 47 (Bs.vals T) := setRow_heap _ _ _ _ _ (0, 0) hnew
  have hB3 : Below w.heap.size w ((w2.alloc (.cells Try.zeroCells47 47)).setRow w2.heap.size (Bs.vals T)) := below_setRow (HB2.out.alloc HB2.out.size _) HB2.out.size _
  obtain ⟨w3, hw3⟩ : ∃ w3, (w2.alloc (.cells Try.zeroCells47 47)).setRow w2.heap.size (Bs.vals T) = w3 := ⟨_, rfl⟩
  rw [hw3] at hrow hB3 ⊢
  obtain ⟨g, hg⟩ : ∃ g, w2.heap.size = g := ⟨_, rfl⟩
  rw [hg] at hrow ⊢
  have Hrow := Lib.hid hrow
  have HB3 := Lib.hid hB3
  clear hrow hB3 hw3 hnew HB2 hk hb hg
  refine (Hs.out _).mono ?_
  rintro e w4 ⟨rfl, hb4⟩
  have HB4 := Lib.hid (below_seq HB3.out hb4)
  have Hrow4 := Lib.hid (Hrow.out.below hb4 Hrow.out.lt)
  clear hb4 Hs HB3 Hrow
  go_wp2_with fail
  refine (Hx.out _).mono ?_
  rintro e w5 ⟨rfl, hb5⟩
  have HB5 := Lib.hid (below_seq HB4.out hb5)
  have Hrow5 := Lib.hid (Hrow4.out.below hb5 Hrow4.out.lt)
  have hg5 := Hrow5.out.lt
  clear hb5 Hx HB4 Hrow4
  have hks : ((strOf L).size : Int) = 240 := by rw [strOf_size]; omega
  have Hst : Hid (RDecAt 8 L (bytesOf b) w5 (.string b) (.int .i64 14) w5) := Lib.hid ⟨0, 14, rfl, rfl, bytesOf b, rfl, hBl, HBa.out, Hbs.out, Below.refl _ _⟩
  clear Hbs hBl HBa
  generalize bytesOf b = B at *
  go_wp2
  go_loopw [9, 10] (fun vs vi wr => RDecAt 8 L B w5 vs vi wr) (fun _ vi _ => (intOf vi).toNat)
  case atStart => exact Hst.out
  case round =>
    clear Hst hks
    obtain ⟨j, i, hij, rfl, S, hS, hSl, hSa, rfl, hBw⟩ := hrel
    have HB := Lib.hid hBw
    have HS := Lib.hid hS
    have HSa := Lib.hid hSa
    clear hBw hS hSa
    by_cases hlt : 1 ≤ i
    · have hlt' : (1 : Int) ≤ (i : Int) := by omega
      have hi14 : i ≤ 14 := by omega
      have hks := fun W => key_slice L HL.out (16 * (i : Int)) (16 * (i : Int) + 16) i (by omega) (by omega) (by omega) W
      have hKl : (Aes.keyAt L i).length = 16 := Aes.keyAt_length (n := 8) hl (by omega)
      have HKa := Lib.hid (Aes.keyAt_all HL.out i)
      have Hx1 := Lib.hid (xor16 S (Aes.keyAt L i) HSa.out HKa.out hSl hKl)
      have H1a := Lib.hid (Aes.add_all HSa.out HKa.out)
      have H1l := Aes.add_length S (Aes.keyAt L i)
      have hnx := Aes.rounds_next 8 L true (show j < 8 + 6 by omega)
      simp only [if_true] at hnx
      rw [show 8 + 6 - j = i by omega] at hnx
      have Hnx := Lib.hid hnx
      have hprev : (i : Int) - 1 = ((i - 1 : Nat) : Int) := by omega
      clear hnx hSl
      by_cases hlast : j = 0
      · have t2 : ¬ ((i : Int) < 14) := by omega
        have Hs3 := Lib.hid (shift3 (Aes.add S (Aes.keyAt L i)) H1l H1a.out)
        have H2a := Lib.hid (Aes.move_all 3 H1a.out)
        have Hbk := Lib.hid (HBK.out (Aes.move 3 (Aes.add S (Aes.keyAt L i))) (Aes.move_length _ _) H2a.out)
        have Hnew : Hid (Aes.each Fld.back (Aes.move 3 (Aes.add S (Aes.keyAt L i))) = ((Aes.rounds 8 L true).take (j + 1)).foldl Aes.decStep B) := Lib.hid (by
          rw [Hnx.out, List.foldl_append, ← HS.out, decide_eq_true hlast]
          rfl)
        have HNa := Lib.hid (Aes.each_all Fld.back_lt H2a.out)
        have hNl := Aes.each_length Fld.back (Aes.move 3 (Aes.add S (Aes.keyAt L i)))
        generalize Aes.each Fld.back (Aes.move 3 (Aes.add S (Aes.keyAt L i))) = N at *
        generalize Aes.move 3 (Aes.add S (Aes.keyAt L i)) = M at *
        generalize Aes.add S (Aes.keyAt L i) = A at *
        generalize Aes.keyAt L i = K at *
        have Hnext : Hid (∀ wr', Below w5.heap.size w5 wr' → RDecAt 8 L B w5 (.string (strOf N)) (.int .i64 ((i : Int) - 1)) wr') := Lib.hid (fun wr' h => ⟨j + 1, i - 1, by omega, by rw [hprev], N, Hnew.out, hNl, HNa.out, rfl, h⟩)
        clear hKl Hnx Hnew hprev
        go_wp2_with fail
        refine (Hx1.out _).mono ?_
        rintro e w6 ⟨rfl, hb6⟩
        have HB6 := Lib.hid (below_seq HB.out hb6)
        have Hrowx := Lib.hid (Hrow5.out.below HB6.out hg5)
        clear hb6 Hx1 hks
        go_wp2_with fail
        refine wp_region_any (by kernel_rfl) ?_
        change wpAny _ _ _ _ _ _ _ (World.drew w6)
        refine wpAny_take (i := 0) (v := ?_) rfl (by kernel_rfl) (by kernel_rfl) (by kernel_rfl) (fun _ _ _ h => h) (Or.inl ⟨by rfl, fun _ => by go_simp; rfl⟩) ?_
        refine wpAny_ready (rs := [1, 2]) (by kernel_rfl) (by simp) ?_
        refine AllReady.cons rfl (fun K hK => ?_) (AllReady.cons rfl (fun K hK => ?_) AllReady.nil)
        · skip
          go_simp
          refine (Hs3.out _).mono ?_
          rintro e w8 ⟨rfl, hb8⟩
          refine hK _ _ ?_
          clear hK K
          have HB8 := Lib.hid (below_seq HB6.out (below_drew hb8))
          have Hrow8 := Lib.hid (Hrowx.out.below (below_drew hb8) Hrowx.out.lt)
          clear hb8
          refine wpAny_ready (rs := [2]) (by kernel_rfl) (by simp) ?_
          refine AllReady.cons rfl (fun K hK => ?_) AllReady.nil
          refine step_load_row rfl 47 _ rfl g rfl 47 _ _ Hrow8.out Try.underlying47 rfl (by rw [Bs.size, hT]; exact Tab.info256) ?_
          refine hK _ _ ?_
          clear hK K
          refine wpAny_ready (rs := [3]) (by kernel_rfl) (by simp) ?_
          refine AllReady.cons rfl (fun K hK => ?_) AllReady.nil
          go_simp
          refine (Hbk.out _).mono ?_
          rintro e w9 ⟨rfl, hb9⟩
          refine hK _ _ ?_
          clear hK K
          have Hrel := Lib.hid (Hnext.out _ (below_seq HB8.out hb9))
          clear hb9
          refine wpAny_ready (rs := [4]) (by kernel_rfl) (by simp) ?_
          refine AllReady.cons rfl (fun K hK => ?_) AllReady.nil
          go_simp
          refine hK _ _ ?_
          clear hK K
          refine wpAny_done (by kernel_rfl) ?_ _
          go_wp2
          go_roundw
          case rel => exact Hrel.out
          case measure => simp [intOf]; omega
        · refine step_load_row rfl 47 _ rfl g rfl 47 _ _ Hrowx.out.drew Try.underlying47 rfl (by rw [Bs.size, hT]; exact Tab.info256) ?_
          refine hK _ _ ?_
          clear hK K
          refine wpAny_ready (rs := [1]) (by kernel_rfl) (by simp) ?_
          refine AllReady.cons rfl (fun K hK => ?_) AllReady.nil
          go_simp
          refine (Hs3.out _).mono ?_
          rintro e w8 ⟨rfl, hb8⟩
          refine hK _ _ ?_
          clear hK K
          have HB8 := Lib.hid (below_seq HB6.out (below_drew hb8))
          have Hrow8 := Lib.hid (Hrowx.out.below (below_drew hb8) Hrowx.out.lt)
          clear hb8
          refine wpAny_ready (rs := [3]) (by kernel_rfl) (by simp) ?_
          refine AllReady.cons rfl (fun K hK => ?_) AllReady.nil
          go_simp
          refine (Hbk.out _).mono ?_
          rintro e w9 ⟨rfl, hb9⟩
          refine hK _ _ ?_
          clear hK K
          have Hrel := Lib.hid (Hnext.out _ (below_seq HB8.out hb9))
          clear hb9
          refine wpAny_ready (rs := [4]) (by kernel_rfl) (by simp) ?_
          refine AllReady.cons rfl (fun K hK => ?_) AllReady.nil
          go_simp
          refine hK _ _ ?_
          clear hK K
          refine wpAny_done (by kernel_rfl) ?_ _
          go_wp2
          go_roundw
          case rel => exact Hrel.out
          case measure => simp [intOf]; omega
      · have t2 : (i : Int) < 14 := by omega
        have Hm1 := Lib.hid (mixed16 (Aes.add S (Aes.keyAt L i)) H1l H1a.out)
        have Hm2 := Lib.hid (mixed16 (Aes.columns Fld.mx (Aes.add S (Aes.keyAt L i))) (Aes.columns_length _ _) (Aes.columns_all Fld.mx_lt))
        have Hm3 := Lib.hid (mixed16 (Aes.columns Fld.mx (Aes.columns Fld.mx (Aes.add S (Aes.keyAt L i)))) (Aes.columns_length _ _) (Aes.columns_all Fld.mx_lt))
        rw [Aes.mx_thrice H1l H1a.out] at Hm3
        have H3a : Hid (Bs.All (Aes.columns Fld.ux (Aes.add S (Aes.keyAt L i)))) := Lib.hid (Aes.columns_all Fld.ux_lt)
        have Hs3 := Lib.hid (shift3 (Aes.columns Fld.ux (Aes.add S (Aes.keyAt L i))) (Aes.columns_length _ _) H3a.out)
        have H2a := Lib.hid (Aes.move_all 3 H3a.out)
        have Hbk := Lib.hid (HBK.out (Aes.move 3 (Aes.columns Fld.ux (Aes.add S (Aes.keyAt L i)))) (Aes.move_length _ _) H2a.out)
        have Hnew : Hid (Aes.each Fld.back (Aes.move 3 (Aes.columns Fld.ux (Aes.add S (Aes.keyAt L i)))) = ((Aes.rounds 8 L true).take (j + 1)).foldl Aes.decStep B) := Lib.hid (by
          rw [Hnx.out, List.foldl_append, ← HS.out, decide_eq_false hlast]
          rfl)
        have HNa := Lib.hid (Aes.each_all Fld.back_lt H2a.out)
        have hNl := Aes.each_length Fld.back (Aes.move 3 (Aes.columns Fld.ux (Aes.add S (Aes.keyAt L i))))
        generalize Aes.each Fld.back (Aes.move 3 (Aes.columns Fld.ux (Aes.add S (Aes.keyAt L i)))) = N at *
        generalize Aes.move 3 (Aes.columns Fld.ux (Aes.add S (Aes.keyAt L i))) = M at *
        generalize Aes.columns Fld.ux (Aes.add S (Aes.keyAt L i)) = C3 at *
        generalize Aes.columns Fld.mx (Aes.columns Fld.mx (Aes.add S (Aes.keyAt L i))) = C2 at *
        generalize Aes.columns Fld.mx (Aes.add S (Aes.keyAt L i)) = C1 at *
        generalize Aes.add S (Aes.keyAt L i) = A at *
        generalize Aes.keyAt L i = K at *
        have Hnext : Hid (∀ wr', Below w5.heap.size w5 wr' → RDecAt 8 L B w5 (.string (strOf N)) (.int .i64 ((i : Int) - 1)) wr') := Lib.hid (fun wr' h => ⟨j + 1, i - 1, by omega, by rw [hprev], N, Hnew.out, hNl, HNa.out, rfl, h⟩)
        clear hKl Hnx Hnew hprev
        go_wp2_with fail
        refine (Hx1.out _).mono ?_
        rintro e w6 ⟨rfl, hb6⟩
        have HB6 := Lib.hid (below_seq HB.out hb6)
        clear hb6 Hx1 hks
        go_wp2_with fail
        refine (Hm1.out _).mono ?_
        rintro e wa ⟨rfl, hba⟩
        have HBa1 := Lib.hid (below_seq HB6.out hba)
        clear hba Hm1
        go_wp2_with fail
        refine (Hm2.out _).mono ?_
        rintro e wb ⟨rfl, hbb⟩
        have HBb := Lib.hid (below_seq HBa1.out hbb)
        clear hbb Hm2
        go_wp2_with fail
        refine (Hm3.out _).mono ?_
        rintro e wd ⟨rfl, hbd⟩
        have HBd := Lib.hid (below_seq HBb.out hbd)
        have Hrowx := Lib.hid (Hrow5.out.below HBd.out hg5)
        clear hbd Hm3
        go_wp2_with fail
        refine wp_region_any (by kernel_rfl) ?_
        change wpAny _ _ _ _ _ _ _ (World.drew wd)
        refine wpAny_take (i := 0) (v := ?_) rfl (by kernel_rfl) (by kernel_rfl) (by kernel_rfl) (fun _ _ _ h => h) (Or.inl ⟨by rfl, fun _ => by go_simp; rfl⟩) ?_
        refine wpAny_ready (rs := [1, 2]) (by kernel_rfl) (by simp) ?_
        refine AllReady.cons rfl (fun K hK => ?_) (AllReady.cons rfl (fun K hK => ?_) AllReady.nil)
        · skip
          go_simp
          refine (Hs3.out _).mono ?_
          rintro e w8 ⟨rfl, hb8⟩
          refine hK _ _ ?_
          clear hK K
          have HB8 := Lib.hid (below_seq HBd.out (below_drew hb8))
          have Hrow8 := Lib.hid (Hrowx.out.below (below_drew hb8) Hrowx.out.lt)
          clear hb8
          refine wpAny_ready (rs := [2]) (by kernel_rfl) (by simp) ?_
          refine AllReady.cons rfl (fun K hK => ?_) AllReady.nil
          refine step_load_row rfl 47 _ rfl g rfl 47 _ _ Hrow8.out Try.underlying47 rfl (by rw [Bs.size, hT]; exact Tab.info256) ?_
          refine hK _ _ ?_
          clear hK K
          refine wpAny_ready (rs := [3]) (by kernel_rfl) (by simp) ?_
          refine AllReady.cons rfl (fun K hK => ?_) AllReady.nil
          go_simp
          refine (Hbk.out _).mono ?_
          rintro e w9 ⟨rfl, hb9⟩
          refine hK _ _ ?_
          clear hK K
          have Hrel := Lib.hid (Hnext.out _ (below_seq HB8.out hb9))
          clear hb9
          refine wpAny_ready (rs := [4]) (by kernel_rfl) (by simp) ?_
          refine AllReady.cons rfl (fun K hK => ?_) AllReady.nil
          go_simp
          refine hK _ _ ?_
          clear hK K
          refine wpAny_done (by kernel_rfl) ?_ _
          go_wp2
          go_roundw
          case rel => exact Hrel.out
          case measure => simp [intOf]; omega
        · refine step_load_row rfl 47 _ rfl g rfl 47 _ _ Hrowx.out.drew Try.underlying47 rfl (by rw [Bs.size, hT]; exact Tab.info256) ?_
          refine hK _ _ ?_
          clear hK K
          refine wpAny_ready (rs := [1]) (by kernel_rfl) (by simp) ?_
          refine AllReady.cons rfl (fun K hK => ?_) AllReady.nil
          go_simp
          refine (Hs3.out _).mono ?_
          rintro e w8 ⟨rfl, hb8⟩
          refine hK _ _ ?_
          clear hK K
          have HB8 := Lib.hid (below_seq HBd.out (below_drew hb8))
          have Hrow8 := Lib.hid (Hrowx.out.below (below_drew hb8) Hrowx.out.lt)
          clear hb8
          refine wpAny_ready (rs := [3]) (by kernel_rfl) (by simp) ?_
          refine AllReady.cons rfl (fun K hK => ?_) AllReady.nil
          go_simp
          refine (Hbk.out _).mono ?_
          rintro e w9 ⟨rfl, hb9⟩
          refine hK _ _ ?_
          clear hK K
          have Hrel := Lib.hid (Hnext.out _ (below_seq HB8.out hb9))
          clear hb9
          refine wpAny_ready (rs := [4]) (by kernel_rfl) (by simp) ?_
          refine AllReady.cons rfl (fun K hK => ?_) AllReady.nil
          go_simp
          refine hK _ _ ?_
          clear hK K
          refine wpAny_done (by kernel_rfl) ?_ _
          go_wp2
          go_roundw
          case rel => exact Hrel.out
          case measure => simp [intOf]; omega
    · obtain rfl : i = 0 := by omega
      obtain rfl : j = 14 := by omega
      have hlt' : ¬ ((1 : Int) ≤ ((0 : Nat) : Int)) := by decide
      have hfin := HS.out
      rw [List.take_of_length_le (by rw [Aes.rounds_length]; decide)] at hfin
      have hk0 := key_first L HL.out (by omega)
      have Hx0 := Lib.hid (xor16 S (Aes.keyAt L 0) HSa.out (Aes.keyAt_all HL.out 0) hSl (Aes.keyAt_length (n := 8) hl (by decide)))
      rw [hfin, ← Hdec.out, ← hfin] at Hx0
      have HB6 := Lib.hid (below_seq HB5.out HB.out)
      clear hfin hSl hlt
      generalize Aes.keyAt L 0 = K0 at *
      go_wp2_with fail
      refine (Hx0.out _).mono ?_
      rintro e w7 ⟨rfl, hb7⟩
      have HB7 := Lib.hid (below_seq HB6.out hb7)
      clear hb7
      go_wp2
      go_ret2
      exact ⟨rfl, HB7.out⟩

theorem refDecrypt_any (n : Nat) (hn : n = 4 ∨ n = 8) (k b : ByteArray) (hk : k.size = 4 * n) (hb : b.size = 16) (w : World) :
    Calls Try.prog 16 #[.string k, .string b] w fun e w' => e = .returned (.tuple #[.string (strOf (Aes.dec (bytesOf k) (bytesOf b))), .int .i64 0]) ∧ Below w.heap.size w w' := by
  rcases hn with rfl | rfl
  · exact refDecrypt4 k b hk hb w
  · exact refDecrypt8 k b hk hb w

end Go.Proofs.Ytkodfifmfpdjoaa
