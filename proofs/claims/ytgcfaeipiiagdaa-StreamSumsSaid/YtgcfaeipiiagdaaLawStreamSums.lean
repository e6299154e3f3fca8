/- For every key, counter and two texts the law StreamSums of layer 5 answers true and leaves its arguments as they were. No condition. -/
import Derived.Test.YtgcfaeipiiagdaaStrL
import Derived.Test.YtgcfaeipiiagdaaFrm
namespace Go.Proofs.Ytgcfaeipiiagdaa.streamSums
open Go.ChangeShapes Go.WideShapes Go.ChangeAt Go.RowKit

/-- A byte of the one, put together with a byte of the other. -/
theorem sum_bytes (a b k : Nat) : (a ^^^ k) ^^^ (b ^^^ k) = a ^^^ b := by
  rw [Nat.xor_assoc, Nat.xor_comm b k, ← Nat.xor_assoc k k b, Nat.xor_self, Nat.zero_xor]

/-- Where the loop stands. -/
def SumAt (w : World) (n : Nat) (vi : Value) (wr : World) : Prop := ∃ i : Nat, i ≤ n ∧ vi = .int .i64 (i : Int) ∧ Below w.heap.size w wr

set_option maxRecDepth 100000 in
set_option maxHeartbeats 2000000 in
theorem walk (key : ByteArray) (hkey : key.size ≤ 140737488351232) (counter : ByteArray) (hcounter : counter.size ≤ 140737488351232) (s : ByteArray) (hs : s.size ≤ 140737488351232) (t : ByteArray) (ht : t.size ≤ 140737488351232) (w : World) :
    Calls Try.prog 6 #[.string key, .string counter, .string s, .string t] w fun e w' => e = .returned (.bool true) ∧ Below w.heap.size w w' := by
  obtain ⟨L, hL1, hL2, hL3⟩ : ∃ L : Nat, min (s.size : Int) 100 = (L : Int) ∧ L ≤ s.size ∧ L ≤ 100 := ⟨min s.size 100, by omega, by omega, by omega⟩
  obtain ⟨M, hM1, hM2, hM3⟩ : ∃ M : Nat, min (t.size : Int) 100 = (M : Int) ∧ M ≤ t.size ∧ M ≤ 100 := ⟨min t.size 100, by omega, by omega, by omega⟩
  have s1 := fun W => sl_hi s (L : Int) L rfl hL2 W
  have s2 := fun W => sl_hi t (M : Int) M rfl hM2 W
  have hXs : (s.extract 0 L).size = L := by rw [ByteArray.size_extract]; omega
  have hYs : (t.extract 0 M).size = M := by rw [ByteArray.size_extract]; omega
  generalize s.extract 0 L = X at *
  generalize t.extract 0 M = Y at *
  have hns := keyOf_size key false
  rw [if_neg Bool.false_ne_true] at hns
  have hK := fun w => Key_any key false hkey w
  have hC := fun w => Chunk_any counter hcounter w
  have hcs := chunkOf_size counter
  generalize keyOf key false = k at *
  generalize chunkOf counter = c at *
  have hX := fun w => Xor_k 4 (.inl rfl) k c X hns hcs (by omega) w
  have hY := fun w => Xor_k 4 (.inl rfl) k c Y hns hcs (by omega) w
  have hZ := fun w => Xor_k 4 (.inl rfl) k c (zeros L) hns hcs (by rw [zeros_size]; omega) w
  have hZb : bytesOf (zeros L) = List.replicate L 0 := bytesOf_strOf (.of_mem fun x hx => by rw [List.eq_of_mem_replicate hx]; decide)
  rw [zeros_size, hZb, Str.xor_zeros (Str.of_length k c L)] at hZ
  have hQ := fun w => Keys_k 4 (.inl rfl) k c hns hcs L (by omega) w
  have hAs : (strOf (Str.xor (bytesOf X) (Str.of k c X.size))).size = L := by rw [strOf_size, Str.xor_length, bytesOf_length, hXs]
  have hBs : (strOf (Str.xor (bytesOf Y) (Str.of k c Y.size))).size = M := by rw [strOf_size, Str.xor_length, bytesOf_length, hYs]
  have hall : ∀ i, i < L → i < M → ∃ x y z : Nat, x < 256 ∧ y < 256 ∧ z < 256 ∧ (bytesOf X).getD i 0 = x ∧ (bytesOf Y).getD i 0 = y ∧
      (bytesOf (strOf (Str.xor (bytesOf X) (Str.of k c X.size)))).getD i 0 = x ^^^ z ∧ (bytesOf (strOf (Str.xor (bytesOf Y) (Str.of k c Y.size)))).getD i 0 = y ^^^ z := by
    intro i h1 h2
    refine ⟨_, _, (Str.of k c X.size).getD i 0, bytesOf_all X i, bytesOf_all Y i, Str.of_all hns c _ i, rfl, rfl, ?_, ?_⟩
    · rw [bytesOf_strOf (Str.xor_all (bytesOf_all X) (Str.of_all hns c _)), Str.xor_get _ _ (by rw [bytesOf_length]; omega)]
    · rw [bytesOf_strOf (Str.xor_all (bytesOf_all Y) (Str.of_all hns c _)), Str.xor_get _ _ (by rw [bytesOf_length]; omega), Str.of_at k c (m := Y.size) (n := X.size) (by omega) (by omega)]
  generalize strOf (Str.xor (bytesOf X) (Str.of k c X.size)) = A at *
  generalize strOf (Str.xor (bytesOf Y) (Str.of k c Y.size)) = B at *
  generalize strOf (Str.of k c L) = Q at *
  have HC := Lib.hid hC
  have HK := Lib.hid hK
  have HX := Lib.hid hX
  have HY := Lib.hid hY
  have HZ := Lib.hid hZ
  have HQ := Lib.hid hQ
  have Hall := Lib.hid hall
  have iXs : (X.size : Int) = (L : Int) := by omega
  have iYs : (Y.size : Int) = (M : Int) := by omega
  have iAs : (A.size : Int) = (L : Int) := by omega
  have iBs : (B.size : Int) = (M : Int) := by omega
  clear hC hK hX hY hZ hQ hall hZb hns hcs
  go_enter Try.func6, Try.ntmps6
  go_wp2_with fail
  refine (awake5_any _).mono ?_
  rintro e w1 ⟨rfl, hb1⟩
  have Hb1 := Lib.hid hb1
  clear hb1
  go_wp2_with fail
  refine (HK.out _).mono ?_
  rintro e w2 ⟨rfl, hb2⟩
  have Hb2 := Lib.hid (below_seq Hb1.out hb2)
  clear hb2 HK Hb1
  go_wp2_with fail
  refine (HC.out _).mono ?_
  rintro e w3 ⟨rfl, hb3⟩
  have Hb3 := Lib.hid (below_seq Hb2.out hb3)
  clear hb3 HC Hb2
  go_wp2_with fail
  refine (HX.out _).mono ?_
  rintro e w4 ⟨rfl, hb4⟩
  have Hb4 := Lib.hid (below_seq Hb3.out hb4)
  clear hb4 HX Hb3
  go_wp2_with fail
  refine (HY.out _).mono ?_
  rintro e w5 ⟨rfl, hb5⟩
  have Hb5 := Lib.hid (below_seq Hb4.out hb5)
  clear hb5 HY Hb4
  obtain ⟨W1, hm, hcv, hb⟩ := zero_bytes L (by omega) w5
  have Hb6 := Lib.hid (below_seq Hb5.out hb)
  clear hb Hb5
  go_wp2_with fail
  refine (HZ.out _).mono ?_
  rintro e w7 ⟨rfl, hb7⟩
  have Hb7 := Lib.hid (below_seq Hb6.out hb7)
  clear hb7 HZ Hb6
  go_wp2_with fail
  refine (HQ.out _).mono ?_
  rintro e w8 ⟨rfl, hb8⟩
  have Hb8 := Lib.hid (below_seq Hb7.out hb8)
  clear hb8 HQ Hb7
  clear hm hcv
  have Hst : Hid (SumAt w (min L M) (.int .i64 0) w8) := Lib.hid ⟨0, Nat.zero_le _, rfl, Hb8.out⟩
  clear Hb8
  go_wp2
  go_loopw [22] (fun vi wr => SumAt w (min L M) vi wr) (fun vi _ => min L M - (intOf vi).toNat)
  case atStart => exact Hst.out
  case round =>
    clear Hst
    obtain ⟨i, hi, rfl, hB⟩ := hrel
    have HB := Lib.hid hB
    clear hB
    by_cases h1 : i < L
    · by_cases h2 : i < M
      · obtain ⟨x, y, z, hx, hy, hz, ex, ey, ea, eb⟩ := Hall.out i h1 h2
        have ix := fun W => idx_string X (i : Int) i rfl (by omega) W
        have iy := fun W => idx_string Y (i : Int) i rfl (by omega) W
        have ia := fun W => idx_string A (i : Int) i rfl (by omega) W
        have ib := fun W => idx_string B (i : Int) i rfl (by omega) W
        rw [ex] at ix
        rw [ey] at iy
        rw [ea] at ia
        rw [eb] at ib
        have xab := u8_xor_nat (x ^^^ z) (y ^^^ z) (Nat.xor_lt_two_pow (n := 8) hx hz) (Nat.xor_lt_two_pow (n := 8) hy hz)
        rw [sum_bytes] at xab
        have xxy := u8_xor_nat x y hx hy
        have g1 : (i : Int) < (L : Int) := by omega
        have g2 : (i : Int) < (M : Int) := by omega
        have Hnx : Hid (SumAt w (min L M) (.int .i64 ((i : Int) + 1)) wr.drew) := Lib.hid ⟨i + 1, by omega, rfl, HB.out.drew⟩
        clear ex ey ea eb hx hy hz hi h1 h2
        generalize x ^^^ z = p at *
        generalize y ^^^ z = q at *
        generalize x ^^^ y = r at *
        go_wp2
        go_region
        all_goals
          go_wp2
          go_roundw
          case rel => exact Hnx.out
          case measure => simp [intOf]; omega
      · have g1 : (i : Int) < (L : Int) := by omega
        have g2 : ¬ (i : Int) < (M : Int) := by omega
        go_wp2
        go_ret
        exact ⟨rfl, HB.out⟩
    · have g1 : ¬ (i : Int) < (L : Int) := by omega
      go_wp2
      go_ret
      exact ⟨rfl, HB.out⟩

theorem own : ownKnob Try.prog.godebug = none := by kernel_rfl
theorem lay : laidOutB Try.prog = true := by kernel_rfl

set_option maxRecDepth 100000 in
theorem lifted (os : Os) (started : os.Started) (H : Type) (enc : TypeId × Value → H) :
    ReturnsInHanded {} Try.checked os 6 .any (Rows.streamSumsSpec.pre6 enc Try.prog Try.f6 Rows.streamSumsRow.domain false) (Rows.streamSumsSpec.post enc Try.prog Try.f6 false true false false) := by
  refine returnsInHanded_of_change_sized (C := Try.checked) own started (by kernel_rfl) Try.func6
    (ChangeSpec.witness6 (enc := enc) (C := Try.checked) false ⟨#[], #[.string ⟨#[]⟩, .string ⟨#[]⟩, .string ⟨#[]⟩, .string ⟨#[]⟩], []⟩ 8 (by kernel_rfl) (by kernel_rfl) (by kernel_rfl) (by kernel_rfl)) ?_
  intro W base args ds gs before hval0 hW hcnd hsz0 _
  have hval : ∀ (j : Nat) t v, Try.f6.params[j]? = some t → args[j]? = some v → Value.okWide Try.prog W .any base t v := hval0
  have hsz : (DataW.weightsEach Try.prog (Try.f6.params.toList ++ Rows.streamSumsSpec.plain.varTypes Try.prog) (ds ++ gs)).all (· ≤ reachBytes) = true := hsz0
  have hW' := hW
  obtain ⟨p, q, hA0, hV, rfl, hfz, hnd⟩ := hW
  have hA : DataW.TrodAll enc Try.prog W 0 (fun _ => true) true Try.f6.params.toList args.toList ds p := hA0
  rw [Try.params6] at hA hval hsz
  obtain ⟨v0, vs0, d0, ds0, p0, q0, hargs, rfl, rfl, h0, r0⟩ := trodAll_cons hA
  obtain ⟨v1, vs1, d1, ds1, p1, q1, rfl, rfl, rfl, h1, r1⟩ := trodAll_cons r0
  obtain ⟨v2, vs2, d2, ds2, p2, q2, rfl, rfl, rfl, h2, r2⟩ := trodAll_cons r1
  obtain ⟨v3, vs3, d3, ds3, p3, q3, rfl, rfl, rfl, h3, r3⟩ := trodAll_cons r2
  obtain ⟨rfl, rfl, rfl⟩ := trodAll_nil r3
  obtain rfl : args = #[v0, v1, v2, v3] := by cases args; simp_all
  obtain ⟨rfl, rfl⟩ := trodVars_none hV
  obtain ⟨a0, rfl, rfl, rfl, w0⟩ := ChangeMaps.open_string Try.underlying9 (hval 0 9 v0 rfl rfl) h0
  have z0 : a0.size ≤ 140737488351232 := sized_string hsz (j := 0) rfl rfl
  obtain ⟨a1, rfl, rfl, rfl, w1⟩ := ChangeMaps.open_string Try.underlying9 (hval 1 9 v1 rfl rfl) h1
  have z1 : a1.size ≤ 140737488351232 := sized_string hsz (j := 1) rfl rfl
  obtain ⟨a2, rfl, rfl, rfl, w2⟩ := ChangeMaps.open_string Try.underlying9 (hval 2 9 v2 rfl rfl) h2
  have z2 : a2.size ≤ 140737488351232 := sized_string hsz (j := 2) rfl rfl
  obtain ⟨a3, rfl, rfl, rfl, w3⟩ := ChangeMaps.open_string Try.underlying9 (hval 3 9 v3 rfl rfl) h3
  have z3 : a3.size ≤ 140737488351232 := sized_string hsz (j := 3) rfl rfl
  refine (walk a0 z0 a1 z1 a2 z2 a3 z3 W).mono fun e W' ⟨he, hg⟩ => ?_
  subst he
  have hts : ∀ t ∈ Try.f6.params.toList, Try.prog.readableRec t = true ∧ t < Try.prog.types.size := by
    rw [Try.params6]
    intro t ht
    simp only [List.mem_cons, List.not_mem_nil, or_false] at ht
    rcases ht with rfl | rfl | rfl | rfl <;> exact ⟨by kernel_rfl, of_decide_eq_true (by kernel_rfl)⟩
  exact ⟨_, rfl, post_true lay hts (by kernel_rfl) Try.underlying4 rfl rfl hW' hg⟩

theorem proved : Rows.StreamSumsSaid :=
  OpenClaim.holds_of_wide 6 Try.f6 rfl rfl rfl rfl rfl rfl rfl ⟨rfl, rfl, rfl, rfl, rfl⟩ rfl rfl rfl rfl rfl (by kernel_rfl) Try.func6 (by kernel_rfl)
    (of_decide_eq_true (by kernel_rfl)) (by unfold Func.isWrapper; first | (rw [if_pos (by decide +kernel)]; kernel_rfl) | (rw [if_neg (by decide +kernel)]; exact ⟨rfl, rfl⟩))
    (fun os started H enc _ => lifted os started H enc)
#print axioms proved

end Go.Proofs.Ytgcfaeipiiagdaa.streamSums
