/-
  Several texts in one: RefI, RefJ.
-/
import Derived.Test.YtgcfaeipiiagdaaPkC

/-
  The document's answer of layer 4: May, Run, Expand, Encrypt, Decrypt.
-/
namespace Go.Proofs.Ytgcfaeipiiagdaa
open Go.RowKit

theorem refMay_yes (n : Nat) (hn : n = 4 ∨ n = 8) (k : ByteArray) (hk : k.size = 4 * n) (w : World) :
    Calls Try.prog 21 #[.string k] w fun e w' => e = .returned (.bool true) ∧ w' = w := by
  rcases hn with rfl | rfl
  · have t1 : ((k.size : Int) == 16) = true := by rw [beq_iff_eq]; omega
    go_enter Try.func21, Try.ntmps21
    go_wp2
    go_ret
    exact ⟨rfl, rfl⟩
  · have t1 : ((k.size : Int) == 16) = false := by rw [beq_eq_false_iff_ne]; omega
    have t2 : ((k.size : Int) == 32) = true := by rw [beq_iff_eq]; omega
    go_enter Try.func21, Try.ntmps21
    go_wp2
    go_ret
    exact ⟨rfl, rfl⟩
theorem refMay_no (k : ByteArray) (h1 : k.size ≠ 16) (h2 : k.size ≠ 32) (w : World) :
    Calls Try.prog 21 #[.string k] w fun e w' => e = .returned (.bool false) ∧ w' = w := by
  have t1 : ((k.size : Int) == 16) = false := by rw [beq_eq_false_iff_ne]; omega
  have t2 : ((k.size : Int) == 32) = false := by rw [beq_eq_false_iff_ne]; omega
  go_enter Try.func21, Try.ntmps21
  go_wp2
  go_ret
  exact ⟨rfl, rfl⟩

theorem xor16 (P t : List Nat) (hP : Bs.All P) (ht : Bs.All t) (hPl : P.length = 16) (htl : t.length = 16) (w : World) :
    Calls Try.prog 33 #[.string (strOf P), .string (strOf t)] w fun e w' => e = .returned (.string (strOf (Aes.add P t))) ∧ Below w.heap.size w w' := by
  have h := refXor_any (strOf P) (strOf t) (by rw [strOf_size, strOf_size, hPl, htl]; exact Nat.le_refl _) (by rw [strOf_size, hPl]; decide) w
  rw [bytesOf_strOf hP, bytesOf_strOf ht, Aes.xorL_add hPl] at h
  exact h
theorem subs16 (s : List Nat) (hs : s.length = 16) (ha : Bs.All s) (w : World) :
    Calls Try.prog 35 #[.string (strOf s), .agg (Bs.vals Fld.subsT)] w fun e w' => e = .returned (.string (strOf (Aes.each Fld.sub s))) ∧ Below w.heap.size w w' := by
  have h := refSubbed_any (strOf s) Fld.subsT Fld.subsT_length (by rw [strOf_size, hs]; decide) w
  rw [bytesOf_strOf ha, Aes.byT_subs hs ha] at h
  exact h
theorem backs16 (s : List Nat) (hs : s.length = 16) (ha : Bs.All s) (w : World) :
    Calls Try.prog 35 #[.string (strOf s), .agg (Bs.vals Fld.backsT)] w fun e w' => e = .returned (.string (strOf (Aes.each Fld.back s))) ∧ Below w.heap.size w w' := by
  have h := refSubbed_any (strOf s) Fld.backsT Fld.backsT_length (by rw [strOf_size, hs]; decide) w
  rw [bytesOf_strOf ha, Aes.byT_backs hs ha] at h
  exact h
theorem shift1 (s : List Nat) (hs : s.length = 16) (ha : Bs.All s) (w : World) :
    Calls Try.prog 34 #[.string (strOf s), .int .i64 1] w fun e w' => e = .returned (.string (strOf (Aes.move 1 s))) ∧ Below w.heap.size w w' := by
  have h := refShifted1 (strOf s) (by rw [strOf_size, hs]) w
  rw [bytesOf_strOf ha] at h
  exact h
theorem shift3 (s : List Nat) (hs : s.length = 16) (ha : Bs.All s) (w : World) :
    Calls Try.prog 34 #[.string (strOf s), .int .i64 3] w fun e w' => e = .returned (.string (strOf (Aes.move 3 s))) ∧ Below w.heap.size w w' := by
  have h := refShifted3 (strOf s) (by rw [strOf_size, hs]) w
  rw [bytesOf_strOf ha] at h
  exact h
theorem mixed16 (s : List Nat) (hs : s.length = 16) (ha : Bs.All s) (w : World) :
    Calls Try.prog 36 #[.string (strOf s)] w fun e w' => e = .returned (.string (strOf (Aes.columns Fld.mx s))) ∧ Below w.heap.size w w' := by
  have h := refMixed_any (strOf s) (by rw [strOf_size, hs]) w
  rw [bytesOf_strOf ha] at h
  exact h

theorem key_slice (L : List Nat) (hL : Bs.All L) (y z : Int) (i : Nat) (hy : y = ((16 * i : Nat) : Int)) (hz : z = ((16 * i + 16 : Nat) : Int)) (hi : 16 * i + 16 ≤ L.length) (W : World) :
    (Instr.slice 9 (.string (strOf L)) (some (.int .i64 y)) (some (.int .i64 z)) none).run Try.prog W = .ok (.string (strOf (Aes.keyAt L i))) W := by
  rw [sl_mid (strOf L) y z (16 * i) (16 * i + 16) hy hz (by omega) (by rw [strOf_size]; exact hi) W, Aes.extract_strOf hL hi, show 16 * i + 16 - 16 * i = 16 by omega]
  rfl
theorem key_first (L : List Nat) (hL : Bs.All L) (hi : 16 ≤ L.length) (W : World) :
    (Instr.slice 9 (.string (strOf L)) none (some (.int .i64 16)) none).run Try.prog W = .ok (.string (strOf (Aes.keyAt L 0))) W := by
  rw [sl_hi (strOf L) 16 16 rfl (by rw [strOf_size]; exact hi) W, Aes.extract_strOf hL hi]
  rfl

/-- Where the reference's Run stands. -/
def RRunAt (n : Nat) (L S0 : List Nat) (w0 : World) (vs vi : Value) (wr : World) : Prop :=
  ∃ j : Nat, j ≤ n + 6 ∧ vi = .int .i64 ((j : Int) + 1) ∧ ∃ S : List Nat, S = ((Aes.rounds n L false).take j).foldl Aes.encStep S0 ∧ S.length = 16 ∧ Bs.All S ∧ vs = .string (strOf S) ∧ Below w0.heap.size w0 wr
/-- Where the reference's Decrypt stands. -/
def RDecAt (n : Nat) (L S0 : List Nat) (w0 : World) (vs vi : Value) (wr : World) : Prop :=
  ∃ j i : Nat, i + j = n + 6 ∧ vi = .int .i64 (i : Int) ∧ ∃ S : List Nat, S = ((Aes.rounds n L true).take j).foldl Aes.decStep S0 ∧ S.length = 16 ∧ Bs.All S ∧ vs = .string (strOf S) ∧ Below w0.heap.size w0 wr

set_option maxRecDepth 100000 in
set_option maxHeartbeats 4000000 in
theorem refRun4 (L B : List Nat) (hl : L.length = 176) (hL : Bs.All L) (hBl : B.length = 16) (hB : Bs.All B) (w : World) :
    Calls Try.prog 23 #[.string (strOf L), .string (strOf B), .agg (Bs.vals Fld.subsT)] w fun e w' =>
      e = .returned (.string (strOf ((Aes.rounds 4 L false).foldl Aes.encStep (Aes.add B (Aes.keyAt L 0))))) ∧ Below w.heap.size w w' := by
  have hbox := Row.new w 67 (Bs.vals Fld.subsT)
  have hB0 : Below w.heap.size w (w.alloc (.cells (Bs.vals Fld.subsT) 67)) := (Below.refl _ w).alloc (Nat.le_refl _) _
  obtain ⟨w0, hw0⟩ : ∃ w0, w.alloc (.cells (Bs.vals Fld.subsT) 67) = w0 := ⟨_, rfl⟩
  rw [hw0] at hbox hB0
  have hgl := hbox.lt
  have HSub := Lib.hid subs16
  have hT : Fld.subsT.length = 256 := Fld.subsT_length
  generalize Fld.subsT = T at *
  have hks : ((strOf L).size : Int) = 176 := by rw [strOf_size]; omega
  have hk0 := key_first L hL (by omega)
  have Hx0 := Lib.hid (xor16 B (Aes.keyAt L 0) hB (Aes.keyAt_all hL 0) hBl (Aes.keyAt_length (n := 4) hl (by decide)))
  have hS0l := Aes.add_length B (Aes.keyAt L 0)
  have hS0a := Aes.add_all hB (Aes.keyAt_all hL 0)
  generalize Aes.add B (Aes.keyAt L 0) = S0 at *
  have Hbox := Lib.hid hbox
  have HB0 := Lib.hid hB0
  have Hw0 := Lib.hid hw0
  have HL := Lib.hid hL
  have HS0 := Lib.hid hS0a
  clear hbox hB0 hw0 hB hBl hL hS0a
  go_enter Try.func23, Try.ntmps23
  go_wp2_with fail
  rw [show w.alloc (.cells (Bs.vals T) 67) = w0 from Hw0.out]
  clear Hw0
  refine (Hx0.out _).mono ?_
  rintro e w1 ⟨rfl, hb1⟩
  have Hst : Hid (RRunAt 4 L S0 w0 (.string (strOf S0)) (.int .i64 1) w1) := Lib.hid ⟨0, by decide, rfl, S0, rfl, hS0l, HS0.out, rfl, hb1⟩
  clear hb1 Hx0 hk0
  go_wp2
  go_loopw [8, 9] (fun vs vi wr => RRunAt 4 L S0 w0 vs vi wr) (fun _ vi _ => 10 + 1 - (intOf vi).toNat)
  case atStart => exact Hst.out
  case round =>
    clear Hst hks
    obtain ⟨j, hj, rfl, S, hS, hSl, hSa, rfl, hB⟩ := hrel
    have HB := Lib.hid hB
    have HS := Lib.hid hS
    have HSa := Lib.hid hSa
    clear hB hS hSa
    by_cases hlt : j < 10
    · have hlt' : (j : Int) + 1 ≤ 10 := by omega
      have hrow := Hbox.out.below HB.out hgl
      have Hrow := Lib.hid hrow
      have hks := fun W => key_slice L HL.out (16 * ((j : Int) + 1)) (16 * ((j : Int) + 1) + 16) (j + 1) (by omega) (by omega) (by omega) W
      have hKl : (Aes.keyAt L (j + 1)).length = 16 := Aes.keyAt_length (n := 4) hl (by omega)
      have HKa := Lib.hid (Aes.keyAt_all HL.out (j + 1))
      have Hs1 := Lib.hid (HSub.out S hSl HSa.out)
      have H1a := Lib.hid (Aes.each_all Fld.sub_lt HSa.out)
      have Hs2 := Lib.hid (shift1 (Aes.each Fld.sub S) (Aes.each_length _ _) H1a.out)
      have H2a := Lib.hid (Aes.move_all 1 H1a.out)
      have hnx := Aes.rounds_next 4 L false hlt
      simp only [Bool.false_eq_true, if_false] at hnx
      have Hnx := Lib.hid hnx
      clear hrow hnx
      by_cases hlast : j = 9
      · have t1 : ¬ ((j : Int) + 1 < 10) := by omega
        have hks2 := fun W => key_slice L HL.out 160 176 (j + 1) (by omega) (by omega) (by omega) W
        have Hx := Lib.hid (xor16 (Aes.move 1 (Aes.each Fld.sub S)) (Aes.keyAt L (j + 1)) H2a.out HKa.out (Aes.move_length _ _) hKl)
        have Hnew : Hid (Aes.add (Aes.move 1 (Aes.each Fld.sub S)) (Aes.keyAt L (j + 1)) = ((Aes.rounds 4 L false).take (j + 1)).foldl Aes.encStep S0) := Lib.hid (by
          rw [Hnx.out, List.foldl_append, ← HS.out, decide_eq_true (by omega : j = 4 + 5)]
          rfl)
        have HNa := Lib.hid (Aes.add_all H2a.out HKa.out)
        have hNl := Aes.add_length (Aes.move 1 (Aes.each Fld.sub S)) (Aes.keyAt L (j + 1))
        generalize Aes.add (Aes.move 1 (Aes.each Fld.sub S)) (Aes.keyAt L (j + 1)) = N at *
        generalize Aes.move 1 (Aes.each Fld.sub S) = M at *
        generalize Aes.each Fld.sub S = E at *
        generalize Aes.keyAt L (j + 1) = K at *
        clear hlt hSl hKl Hnx
        go_wp2_with (first | (refine wpList_load_row rfl 67 _ rfl w.heap.size rfl 67 _ _ _ Hrow.out Try.underlying67 rfl (by rw [Bs.size, hT]; exact Tab.info256) ?_) | fail)
        refine (Hs1.out _).mono ?_
        rintro e w2 ⟨rfl, hb2⟩
        have HB2 := Lib.hid (below_seq HB.out hb2)
        clear hb2 Hs1
        go_wp2_with fail
        refine (Hs2.out _).mono ?_
        rintro e w3 ⟨rfl, hb3⟩
        have HB3 := Lib.hid (below_seq HB2.out hb3)
        clear hb3 Hs2
        go_wp2_with fail
        refine (Hx.out _).mono ?_
        rintro e w4 ⟨rfl, hb4⟩
        have Hrel : Hid (RRunAt 4 L S0 w0 (.string (strOf N)) (.int .i64 11) w4) := Lib.hid ⟨j + 1, by omega, by rw [show (((j + 1 : Nat) : Int) + 1) = 11 by omega], N, Hnew.out, hNl, HNa.out, rfl, below_seq HB3.out hb4⟩
        clear hb4 Hx hks hks2
        go_wp2
        go_roundw
        case rel => exact Hrel.out
        case measure => simp [intOf]; omega
      · have t1 : (j : Int) + 1 < 10 := by omega
        have Hmx := Lib.hid (mixed16 (Aes.move 1 (Aes.each Fld.sub S)) (Aes.move_length _ _) H2a.out)
        have H3a : Hid (Bs.All (Aes.columns Fld.mx (Aes.move 1 (Aes.each Fld.sub S)))) := Lib.hid (Aes.columns_all Fld.mx_lt)
        have Hx := Lib.hid (xor16 (Aes.columns Fld.mx (Aes.move 1 (Aes.each Fld.sub S))) (Aes.keyAt L (j + 1)) H3a.out HKa.out (Aes.columns_length _ _) hKl)
        have Hnew : Hid (Aes.add (Aes.columns Fld.mx (Aes.move 1 (Aes.each Fld.sub S))) (Aes.keyAt L (j + 1)) = ((Aes.rounds 4 L false).take (j + 1)).foldl Aes.encStep S0) := Lib.hid (by
          rw [Hnx.out, List.foldl_append, ← HS.out, decide_eq_false (by omega : ¬ j = 4 + 5)]
          rfl)
        have HNa := Lib.hid (Aes.add_all H3a.out HKa.out)
        have hNl := Aes.add_length (Aes.columns Fld.mx (Aes.move 1 (Aes.each Fld.sub S))) (Aes.keyAt L (j + 1))
        generalize Aes.add (Aes.columns Fld.mx (Aes.move 1 (Aes.each Fld.sub S))) (Aes.keyAt L (j + 1)) = N at *
        generalize Aes.columns Fld.mx (Aes.move 1 (Aes.each Fld.sub S)) = C at *
        generalize Aes.move 1 (Aes.each Fld.sub S) = M at *
        generalize Aes.each Fld.sub S = E at *
        generalize Aes.keyAt L (j + 1) = K at *
        clear hlt hSl hKl Hnx
        go_wp2_with (first | (refine wpList_load_row rfl 67 _ rfl w.heap.size rfl 67 _ _ _ Hrow.out Try.underlying67 rfl (by rw [Bs.size, hT]; exact Tab.info256) ?_) | fail)
        refine (Hs1.out _).mono ?_
        rintro e w2 ⟨rfl, hb2⟩
        have HB2 := Lib.hid (below_seq HB.out hb2)
        clear hb2 Hs1
        go_wp2_with fail
        refine (Hs2.out _).mono ?_
        rintro e w3 ⟨rfl, hb3⟩
        have HB3 := Lib.hid (below_seq HB2.out hb3)
        clear hb3 Hs2
        go_wp2_with fail
        refine (Hmx.out _).mono ?_
        rintro e w5 ⟨rfl, hb5⟩
        have HB5 := Lib.hid (below_seq HB3.out hb5)
        clear hb5 Hmx
        go_wp2_with fail
        refine (Hx.out _).mono ?_
        rintro e w4 ⟨rfl, hb4⟩
        have Hrel : Hid (RRunAt 4 L S0 w0 (.string (strOf N)) (.int .i64 ((j : Int) + 1 + 1)) w4) := Lib.hid ⟨j + 1, by omega, by go_num, N, Hnew.out, hNl, HNa.out, rfl, below_seq HB5.out hb4⟩
        clear hb4 Hx hks
        go_wp2
        go_roundw
        case rel => exact Hrel.out
        case measure => simp [intOf]; omega
    · obtain rfl : j = 10 := by omega
      have hlt' : ¬ (((10 : Nat) : Int) + 1 ≤ 10) := by decide
      have hfin := HS.out
      rw [List.take_of_length_le (by rw [Aes.rounds_length]; decide)] at hfin
      have Hfin := Lib.hid hfin
      have HBf := Lib.hid (below_seq HB0.out HB.out)
      clear hfin
      go_wp2
      go_ret
      exact ⟨by rw [← Hfin.out]; rfl, HBf.out⟩

set_option maxRecDepth 100000 in
set_option maxHeartbeats 4000000 in
theorem refRun8 (L B : List Nat) (hl : L.length = 240) (hL : Bs.All L) (hBl : B.length = 16) (hB : Bs.All B) (w : World) :
    Calls Try.prog 23 #[.string (strOf L), .string (strOf B), .agg (Bs.vals Fld.subsT)] w fun e w' =>
      e = .returned (.string (strOf ((Aes.rounds 8 L false).foldl Aes.encStep (Aes.add B (Aes.keyAt L 0))))) ∧ Below w.heap.size w w' := by
  have hbox := Row.new w 67 (Bs.vals Fld.subsT)
  have hB0 : Below w.heap.size w (w.alloc (.cells (Bs.vals Fld.subsT) 67)) := (Below.refl _ w).alloc (Nat.le_refl _) _
  obtain ⟨w0, hw0⟩ : ∃ w0, w.alloc (.cells (Bs.vals Fld.subsT) 67) = w0 := ⟨_, rfl⟩
  rw [hw0] at hbox hB0
  have hgl := hbox.lt
  have HSub := Lib.hid subs16
  have hT : Fld.subsT.length = 256 := Fld.subsT_length
  generalize Fld.subsT = T at *
  have hks : ((strOf L).size : Int) = 240 := by rw [strOf_size]; omega
  have hk0 := key_first L hL (by omega)
  have Hx0 := Lib.hid (xor16 B (Aes.keyAt L 0) hB (Aes.keyAt_all hL 0) hBl (Aes.keyAt_length (n := 8) hl (by decide)))
  have hS0l := Aes.add_length B (Aes.keyAt L 0)
  have hS0a := Aes.add_all hB (Aes.keyAt_all hL 0)
  generalize Aes.add B (Aes.keyAt L 0) = S0 at *
  have Hbox := Lib.hid hbox
  have HB0 := Lib.hid hB0
  have Hw0 := Lib.hid hw0
  have HL := Lib.hid hL
  have HS0 := Lib.hid hS0a
  clear hbox hB0 hw0 hB hBl hL hS0a
  go_enter Try.func23, Try.ntmps23
  go_wp2_with fail
  rw [show w.alloc (.cells (Bs.vals T) 67) = w0 from Hw0.out]
  clear Hw0
  refine (Hx0.out _).mono ?_
  rintro e w1 ⟨rfl, hb1⟩
  have Hst : Hid (RRunAt 8 L S0 w0 (.string (strOf S0)) (.int .i64 1) w1) := Lib.hid ⟨0, by decide, rfl, S0, rfl, hS0l, HS0.out, rfl, hb1⟩
  clear hb1 Hx0 hk0
  go_wp2
  go_loopw [8, 9] (fun vs vi wr => RRunAt 8 L S0 w0 vs vi wr) (fun _ vi _ => 14 + 1 - (intOf vi).toNat)
  case atStart => exact Hst.out
  case round =>
    clear Hst hks
    obtain ⟨j, hj, rfl, S, hS, hSl, hSa, rfl, hB⟩ := hrel
    have HB := Lib.hid hB
    have HS := Lib.hid hS
    have HSa := Lib.hid hSa
    clear hB hS hSa
    by_cases hlt : j < 14
    · have hlt' : (j : Int) + 1 ≤ 14 := by omega
      have hrow := Hbox.out.below HB.out hgl
      have Hrow := Lib.hid hrow
      have hks := fun W => key_slice L HL.out (16 * ((j : Int) + 1)) (16 * ((j : Int) + 1) + 16) (j + 1) (by omega) (by omega) (by omega) W
      have hKl : (Aes.keyAt L (j + 1)).length = 16 := Aes.keyAt_length (n := 8) hl (by omega)
      have HKa := Lib.hid (Aes.keyAt_all HL.out (j + 1))
      have Hs1 := Lib.hid (HSub.out S hSl HSa.out)
      have H1a := Lib.hid (Aes.each_all Fld.sub_lt HSa.out)
      have Hs2 := Lib.hid (shift1 (Aes.each Fld.sub S) (Aes.each_length _ _) H1a.out)
      have H2a := Lib.hid (Aes.move_all 1 H1a.out)
      have hnx := Aes.rounds_next 8 L false hlt
      simp only [Bool.false_eq_true, if_false] at hnx
      have Hnx := Lib.hid hnx
      clear hrow hnx
      by_cases hlast : j = 13
      · have t1 : ¬ ((j : Int) + 1 < 14) := by omega
        have hks2 := fun W => key_slice L HL.out 224 240 (j + 1) (by omega) (by omega) (by omega) W
        have Hx := Lib.hid (xor16 (Aes.move 1 (Aes.each Fld.sub S)) (Aes.keyAt L (j + 1)) H2a.out HKa.out (Aes.move_length _ _) hKl)
        have Hnew : Hid (Aes.add (Aes.move 1 (Aes.each Fld.sub S)) (Aes.keyAt L (j + 1)) = ((Aes.rounds 8 L false).take (j + 1)).foldl Aes.encStep S0) := Lib.hid (by
          rw [Hnx.out, List.foldl_append, ← HS.out, decide_eq_true (by omega : j = 8 + 5)]
          rfl)
        have HNa := Lib.hid (Aes.add_all H2a.out HKa.out)
        have hNl := Aes.add_length (Aes.move 1 (Aes.each Fld.sub S)) (Aes.keyAt L (j + 1))
        generalize Aes.add (Aes.move 1 (Aes.each Fld.sub S)) (Aes.keyAt L (j + 1)) = N at *
        generalize Aes.move 1 (Aes.each Fld.sub S) = M at *
        generalize Aes.each Fld.sub S = E at *
        generalize Aes.keyAt L (j + 1) = K at *
        clear hlt hSl hKl Hnx
        go_wp2_with (first | (refine wpList_load_row rfl 67 _ rfl w.heap.size rfl 67 _ _ _ Hrow.out Try.underlying67 rfl (by rw [Bs.size, hT]; exact Tab.info256) ?_) | fail)
        refine (Hs1.out _).mono ?_
        rintro e w2 ⟨rfl, hb2⟩
        have HB2 := Lib.hid (below_seq HB.out hb2)
        clear hb2 Hs1
        go_wp2_with fail
        refine (Hs2.out _).mono ?_
        rintro e w3 ⟨rfl, hb3⟩
        have HB3 := Lib.hid (below_seq HB2.out hb3)
        clear hb3 Hs2
        go_wp2_with fail
        refine (Hx.out _).mono ?_
        rintro e w4 ⟨rfl, hb4⟩
        have Hrel : Hid (RRunAt 8 L S0 w0 (.string (strOf N)) (.int .i64 15) w4) := Lib.hid ⟨j + 1, by omega, by rw [show (((j + 1 : Nat) : Int) + 1) = 15 by omega], N, Hnew.out, hNl, HNa.out, rfl, below_seq HB3.out hb4⟩
        clear hb4 Hx hks hks2
        go_wp2
        go_roundw
        case rel => exact Hrel.out
        case measure => simp [intOf]; omega
      · have t1 : (j : Int) + 1 < 14 := by omega
        have Hmx := Lib.hid (mixed16 (Aes.move 1 (Aes.each Fld.sub S)) (Aes.move_length _ _) H2a.out)
        have H3a : Hid (Bs.All (Aes.columns Fld.mx (Aes.move 1 (Aes.each Fld.sub S)))) := Lib.hid (Aes.columns_all Fld.mx_lt)
        have Hx := Lib.hid (xor16 (Aes.columns Fld.mx (Aes.move 1 (Aes.each Fld.sub S))) (Aes.keyAt L (j + 1)) H3a.out HKa.out (Aes.columns_length _ _) hKl)
        have Hnew : Hid (Aes.add (Aes.columns Fld.mx (Aes.move 1 (Aes.each Fld.sub S))) (Aes.keyAt L (j + 1)) = ((Aes.rounds 8 L false).take (j + 1)).foldl Aes.encStep S0) := Lib.hid (by
          rw [Hnx.out, List.foldl_append, ← HS.out, decide_eq_false (by omega : ¬ j = 8 + 5)]
          rfl)
        have HNa := Lib.hid (Aes.add_all H3a.out HKa.out)
        have hNl := Aes.add_length (Aes.columns Fld.mx (Aes.move 1 (Aes.each Fld.sub S))) (Aes.keyAt L (j + 1))
        generalize Aes.add (Aes.columns Fld.mx (Aes.move 1 (Aes.each Fld.sub S))) (Aes.keyAt L (j + 1)) = N at *
        generalize Aes.columns Fld.mx (Aes.move 1 (Aes.each Fld.sub S)) = C at *
        generalize Aes.move 1 (Aes.each Fld.sub S) = M at *
        generalize Aes.each Fld.sub S = E at *
        generalize Aes.keyAt L (j + 1) = K at *
        clear hlt hSl hKl Hnx
        go_wp2_with (first | (refine wpList_load_row rfl 67 _ rfl w.heap.size rfl 67 _ _ _ Hrow.out Try.underlying67 rfl (by rw [Bs.size, hT]; exact Tab.info256) ?_) | fail)
        refine (Hs1.out _).mono ?_
        rintro e w2 ⟨rfl, hb2⟩
        have HB2 := Lib.hid (below_seq HB.out hb2)
        clear hb2 Hs1
        go_wp2_with fail
        refine (Hs2.out _).mono ?_
        rintro e w3 ⟨rfl, hb3⟩
        have HB3 := Lib.hid (below_seq HB2.out hb3)
        clear hb3 Hs2
        go_wp2_with fail
        refine (Hmx.out _).mono ?_
        rintro e w5 ⟨rfl, hb5⟩
        have HB5 := Lib.hid (below_seq HB3.out hb5)
        clear hb5 Hmx
        go_wp2_with fail
        refine (Hx.out _).mono ?_
        rintro e w4 ⟨rfl, hb4⟩
        have Hrel : Hid (RRunAt 8 L S0 w0 (.string (strOf N)) (.int .i64 ((j : Int) + 1 + 1)) w4) := Lib.hid ⟨j + 1, by omega, by go_num, N, Hnew.out, hNl, HNa.out, rfl, below_seq HB5.out hb4⟩
        clear hb4 Hx hks
        go_wp2
        go_roundw
        case rel => exact Hrel.out
        case measure => simp [intOf]; omega
    · obtain rfl : j = 14 := by omega
      have hlt' : ¬ (((14 : Nat) : Int) + 1 ≤ 14) := by decide
      have hfin := HS.out
      rw [List.take_of_length_le (by rw [Aes.rounds_length]; decide)] at hfin
      have Hfin := Lib.hid hfin
      have HBf := Lib.hid (below_seq HB0.out HB.out)
      clear hfin
      go_wp2
      go_ret
      exact ⟨by rw [← Hfin.out]; rfl, HBf.out⟩

end Go.Proofs.Ytgcfaeipiiagdaa

/-
  The document's answer of layer 4: Expand, Encrypt.
-/
namespace Go.Proofs.Ytgcfaeipiiagdaa
open Go.RowKit

theorem refExpanded_any (n : Nat) (hn : n = 4 ∨ n = 8) (k : ByteArray) (hk : k.size = 4 * n) (w : World) :
    Calls Try.prog 24 #[.string k, .agg (Bs.vals Fld.subsT)] w fun e w' => e = .returned (.string (strOf (Aes.expanded (bytesOf k)))) ∧ Below w.heap.size w w' := by
  rcases hn with rfl | rfl
  · exact refExpanded4 k hk w
  · exact refExpanded8 k hk w
theorem refRun_any (n : Nat) (hn : n = 4 ∨ n = 8) (k b : ByteArray) (hk : k.size = 4 * n) (hb : b.size = 16) (w : World) :
    Calls Try.prog 23 #[.string (strOf (Aes.expanded (bytesOf k))), .string b, .agg (Bs.vals Fld.subsT)] w fun e w' =>
      e = .returned (.string (strOf (Aes.enc (bytesOf k) (bytesOf b)))) ∧ Below w.heap.size w w' := by
  have hkl : (bytesOf k).length = 4 * n := by rw [bytesOf_length, hk]
  have hL := Aes.key_length hkl
  have hLa := Aes.expanded_all (bytesOf_all k)
  have hd : (bytesOf k).length / 4 = n := by omega
  have e : Aes.enc (bytesOf k) (bytesOf b) = (Aes.rounds n (Aes.expanded (bytesOf k)) false).foldl Aes.encStep (Aes.add (bytesOf b) (Aes.keyAt (Aes.expanded (bytesOf k)) 0)) := by rw [Aes.enc, hd]
  rw [e]
  have hbl : (bytesOf b).length = 16 := by rw [bytesOf_length, hb]
  rcases hn with rfl | rfl
  · have h := refRun4 (Aes.expanded (bytesOf k)) (bytesOf b) hL hLa hbl (bytesOf_all b) w
    rw [strOf_bytesOf] at h
    exact h
  · have h := refRun8 (Aes.expanded (bytesOf k)) (bytesOf b) hL hLa hbl (bytesOf_all b) w
    rw [strOf_bytesOf] at h
    exact h

theorem refEncrypt_none (k b : ByteArray) (h : (k.size ≠ 16 ∧ k.size ≠ 32) ∨ b.size ≠ 16) (w : World) :
    Calls Try.prog 15 #[.string k, .string b] w fun e w' => e = .returned (.tuple #[.string ⟨#[]⟩, .int .i64 1]) ∧ Below w.heap.size w w' := by
  go_enter Try.func15, Try.ntmps15
  by_cases hk : k.size ≠ 16 ∧ k.size ≠ 32
  · go_wp2_with fail
    refine (refMay_no k hk.1 hk.2 _).mono ?_
    rintro e w1 ⟨rfl, rfl⟩
    go_wp2
    go_ret2
    exact ⟨rfl, Below.refl _ _⟩
  · obtain ⟨n, hn, hns⟩ : ∃ n, (n = 4 ∨ n = 8) ∧ k.size = 4 * n := by
      by_cases h1 : k.size = 16
      · exact ⟨4, .inl rfl, by omega⟩
      · exact ⟨8, .inr rfl, by omega⟩
    have hb := h.resolve_left hk
    have t1 : ((b.size : Int) != 16) = true := by rw [bne_iff_ne]; omega
    go_wp2_with fail
    refine (refMay_yes n hn k hns _).mono ?_
    rintro e w1 ⟨rfl, rfl⟩
    go_wp2
    go_ret2
    exact ⟨rfl, Below.refl _ _⟩

set_option maxRecDepth 100000 in
set_option maxHeartbeats 4000000 in
theorem refEncrypt_any (n : Nat) (hn : n = 4 ∨ n = 8) (k b : ByteArray) (hk : k.size = 4 * n) (hb : b.size = 16) (w : World) :
    Calls Try.prog 15 #[.string k, .string b] w fun e w' => e = .returned (.tuple #[.string (strOf (Aes.enc (bytesOf k) (bytesOf b))), .int .i64 0]) ∧ Below w.heap.size w w' := by
  have Hx := Lib.hid (refExpanded_any n hn k hk)
  have Hr := Lib.hid (refRun_any n hn k b hk hb)
  have Hs := Lib.hid refSubs_any
  have hT : Fld.subsT.length = 256 := Fld.subsT_length
  generalize Fld.subsT = T at *
  generalize Aes.expanded (bytesOf k) = L at *
  generalize Aes.enc (bytesOf k) (bytesOf b) = R at *
  have t1 : ((b.size : Int) != 16) = false := by rw [bne_eq_false_iff_eq]; omega
  go_enter Try.func15, Try.ntmps15
  go_wp2_with fail
  refine (refMay_yes n hn k hk _).mono ?_
  rintro e w1 ⟨rfl, hw1⟩
  obtain rfl := hw1.symm
  go_wp2_with fail
  refine (Hs.out _).mono ?_
  rintro e w2 ⟨rfl, hb2⟩
  have HB2 := Lib.hid hb2
  have hnew := Row.new w2 67 Try.zeroCells67
  clear hb2 Hs
  go_wp2_with (first | (refine wpList_store_row rfl 67 _ _ rfl w2.heap.size (Bs.vals T) rfl rfl 67 _ hnew (by rw [Bs.size, hT]; exact Tab.info256) (by rw [Tab.zero256, Bs.size, Bs.size, List.length_replicate, hT]) (Bs.one _) ?_) | fail)
  have hrow : Row ((w2.alloc (.cells Try.zeroCells67 67)).setRow w2.heap.size (Bs.vals T)) w2.heap.size 67 (Bs.vals T) := setRow_heap _ _ _ _ _ (0, 0) hnew
  have hB3 : Below w.heap.size w ((w2.alloc (.cells Try.zeroCells67 67)).setRow w2.heap.size (Bs.vals T)) := below_setRow (HB2.out.alloc HB2.out.size _) HB2.out.size _
  obtain ⟨wr, hwr⟩ : ∃ wr, (w2.alloc (.cells Try.zeroCells67 67)).setRow w2.heap.size (Bs.vals T) = wr := ⟨_, rfl⟩
  rw [hwr] at hrow hB3 ⊢
  have Hrow := Lib.hid hrow
  have HB3 := Lib.hid hB3
  clear hrow hB3 hwr hnew HB2 hk hb hn
  refine wp_region_any (by kernel_rfl) ?_
  change wpAny _ _ _ _ _ _ _ (World.drew wr)
  refine wpAny_take (i := 0) (v := ?_) rfl (by kernel_rfl) (by kernel_rfl) (by kernel_rfl) (fun _ _ _ h => h) (Or.inl ⟨by rfl, fun _ => by go_simp; rfl⟩) ?_
  refine wpAny_take (i := 3) (v := ?_) rfl (by kernel_rfl) (by kernel_rfl) (by kernel_rfl) (fun _ _ _ h => h) (Or.inl ⟨by rfl, fun _ => by go_simp; rfl⟩) ?_
  refine wpAny_ready (rs := [1, 4]) (by kernel_rfl) (by simp) ?_
  refine AllReady.cons rfl (fun K hK => ?_) (AllReady.cons rfl (fun K hK => ?_) AllReady.nil)
  · refine step_load_row rfl 67 _ rfl w2.heap.size rfl 67 _ _ Hrow.out.drew Try.underlying67 rfl (by rw [Bs.size, hT]; exact Tab.info256) ?_
    refine hK _ _ ?_
    clear hK K
    refine wpAny_ready (rs := [2, 4]) (by kernel_rfl) (by simp) ?_
    refine AllReady.cons rfl (fun K hK => ?_) (AllReady.cons rfl (fun K hK => ?_) AllReady.nil)
    · skip
      go_simp
      refine (Hx.out _).mono ?_
      rintro e w4 ⟨rfl, hb4⟩
      refine hK _ _ ?_
      clear hK K
      have HB4 := Lib.hid (below_seq HB3.out (below_drew hb4))
      have Hrow4 := Lib.hid (Hrow.out.below (below_drew hb4) Hrow.out.lt)
      clear hb4
      refine wpAny_ready (rs := [4]) (by kernel_rfl) (by simp) ?_
      refine AllReady.cons rfl (fun K hK => ?_) AllReady.nil
      refine step_load_row rfl 67 _ rfl w2.heap.size rfl 67 _ _ Hrow4.out Try.underlying67 rfl (by rw [Bs.size, hT]; exact Tab.info256) ?_
      refine hK _ _ ?_
      clear hK K
      refine wpAny_ready (rs := [5]) (by kernel_rfl) (by simp) ?_
      refine AllReady.cons rfl (fun K hK => ?_) AllReady.nil
      go_simp
      refine (Hr.out _).mono ?_
      rintro e w5 ⟨rfl, hb5⟩
      refine hK _ _ ?_
      clear hK K
      have HB5 := Lib.hid (below_seq HB4.out hb5)
      clear hb5
      refine wpAny_ready (rs := [6]) (by kernel_rfl) (by simp) ?_
      refine AllReady.cons rfl (fun K hK => ?_) AllReady.nil
      go_simp
      refine hK _ _ ?_
      clear hK K
      refine wpAny_ready (rs := [7]) (by kernel_rfl) (by simp) ?_
      refine AllReady.cons rfl (fun K hK => ?_) AllReady.nil
      go_simp
      refine hK _ _ ?_
      clear hK K
      refine wpAny_done (by kernel_rfl) ?_ _
      go_wp2
      go_ret2
      exact ⟨rfl, HB5.out⟩
    · refine step_load_row rfl 67 _ rfl w2.heap.size rfl 67 _ _ Hrow.out.drew Try.underlying67 rfl (by rw [Bs.size, hT]; exact Tab.info256) ?_
      refine hK _ _ ?_
      clear hK K
      refine wpAny_ready (rs := [2]) (by kernel_rfl) (by simp) ?_
      refine AllReady.cons rfl (fun K hK => ?_) AllReady.nil
      go_simp
      refine (Hx.out _).mono ?_
      rintro e w4 ⟨rfl, hb4⟩
      refine hK _ _ ?_
      clear hK K
      have HB4 := Lib.hid (below_seq HB3.out (below_drew hb4))
      have Hrow4 := Lib.hid (Hrow.out.below (below_drew hb4) Hrow.out.lt)
      clear hb4
      refine wpAny_ready (rs := [5]) (by kernel_rfl) (by simp) ?_
      refine AllReady.cons rfl (fun K hK => ?_) AllReady.nil
      go_simp
      refine (Hr.out _).mono ?_
      rintro e w5 ⟨rfl, hb5⟩
      refine hK _ _ ?_
      clear hK K
      have HB5 := Lib.hid (below_seq HB4.out hb5)
      clear hb5
      refine wpAny_ready (rs := [6]) (by kernel_rfl) (by simp) ?_
      refine AllReady.cons rfl (fun K hK => ?_) AllReady.nil
      go_simp
      refine hK _ _ ?_
      clear hK K
      refine wpAny_ready (rs := [7]) (by kernel_rfl) (by simp) ?_
      refine AllReady.cons rfl (fun K hK => ?_) AllReady.nil
      go_simp
      refine hK _ _ ?_
      clear hK K
      refine wpAny_done (by kernel_rfl) ?_ _
      go_wp2
      go_ret2
      exact ⟨rfl, HB5.out⟩
  · refine step_load_row rfl 67 _ rfl w2.heap.size rfl 67 _ _ Hrow.out.drew Try.underlying67 rfl (by rw [Bs.size, hT]; exact Tab.info256) ?_
    refine hK _ _ ?_
    clear hK K
    refine wpAny_ready (rs := [1]) (by kernel_rfl) (by simp) ?_
    refine AllReady.cons rfl (fun K hK => ?_) AllReady.nil
    refine step_load_row rfl 67 _ rfl w2.heap.size rfl 67 _ _ Hrow.out.drew Try.underlying67 rfl (by rw [Bs.size, hT]; exact Tab.info256) ?_
    refine hK _ _ ?_
    clear hK K
    refine wpAny_ready (rs := [2]) (by kernel_rfl) (by simp) ?_
    refine AllReady.cons rfl (fun K hK => ?_) AllReady.nil
    go_simp
    refine (Hx.out _).mono ?_
    rintro e w4 ⟨rfl, hb4⟩
    refine hK _ _ ?_
    clear hK K
    have HB4 := Lib.hid (below_seq HB3.out (below_drew hb4))
    have Hrow4 := Lib.hid (Hrow.out.below (below_drew hb4) Hrow.out.lt)
    clear hb4
    refine wpAny_ready (rs := [5]) (by kernel_rfl) (by simp) ?_
    refine AllReady.cons rfl (fun K hK => ?_) AllReady.nil
    go_simp
    refine (Hr.out _).mono ?_
    rintro e w5 ⟨rfl, hb5⟩
    refine hK _ _ ?_
    clear hK K
    have HB5 := Lib.hid (below_seq HB4.out hb5)
    clear hb5
    refine wpAny_ready (rs := [6]) (by kernel_rfl) (by simp) ?_
    refine AllReady.cons rfl (fun K hK => ?_) AllReady.nil
    go_simp
    refine hK _ _ ?_
    clear hK K
    refine wpAny_ready (rs := [7]) (by kernel_rfl) (by simp) ?_
    refine AllReady.cons rfl (fun K hK => ?_) AllReady.nil
    go_simp
    refine hK _ _ ?_
    clear hK K
    refine wpAny_done (by kernel_rfl) ?_ _
    go_wp2
    go_ret2
    exact ⟨rfl, HB5.out⟩

end Go.Proofs.Ytgcfaeipiiagdaa
