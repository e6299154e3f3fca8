/- For every key, counter, text, length and raw number the law StreamBack of layer 5 answers true and leaves its arguments as they were. No condition. -/
import Derived.Test.YtgcfaeipiiagdaaStrL
import Derived.Test.YtgcfaeipiiagdaaFrm
namespace Go.Proofs.Ytgcfaeipiiagdaa.streamBack
open Go.ChangeShapes Go.WideShapes Go.ChangeAt Go.RowKit

set_option maxRecDepth 100000 in
set_option maxHeartbeats 4000000 in
theorem walk (key : ByteArray) (hkey : key.size ≤ 140737488351232) (counter : ByteArray) (hcounter : counter.size ≤ 140737488351232) (s : ByteArray) (hs : s.size ≤ 140737488351232) (long : Bool) (m : Int) (hm : -9223372036854775808 ≤ m ∧ m ≤ 9223372036854775807) (w : World) :
    Calls Try.prog 3 #[.string key, .string counter, .string s, .bool long, .int .i64 m] w fun e w' => e = .returned (.bool true) ∧ Below w.heap.size w w' := by
  obtain ⟨L, hL1, hL2, hL3⟩ : ∃ L : Nat, min (s.size : Int) 200 = (L : Int) ∧ L ≤ s.size ∧ L ≤ 200 := ⟨min s.size 200, by omega, by omega, by omega⟩
  have s1 := fun W => sl_hi s (L : Int) L rfl hL2 W
  have hXs : (s.extract 0 L).size = L := by rw [ByteArray.size_extract]; omega
  obtain ⟨X, hX⟩ : ∃ X, s.extract 0 L = X := ⟨_, rfl⟩
  rw [hX] at s1 hXs
  obtain ⟨x, hx, hx1⟩ := pick_nat m (L / 16 + 1) (by omega)
  have hP := fun w => pick5_any m ((L / 16 + 1 : Nat) : Int) hm (by omega) w
  rw [hx] at hP
  rw [show ((L / 16 + 1 : Nat) : Int) = (L : Int) / 16 + 1 by omega] at hP
  have hxL : 16 * x ≤ L := by omega
  have s2 := fun W => sl_hi X (16 * (x : Int)) (16 * x) (by omega) (by omega) W
  have s3 := fun W => sl_lo X (16 * (x : Int)) (16 * x) (by omega) (by omega) W
  have hkl := keyOf_size key long
  obtain ⟨n, hn, hns⟩ : ∃ n, (n = 4 ∨ n = 8) ∧ (keyOf key long).size = 4 * n := by
    cases long
    · exact ⟨4, .inl rfl, hkl⟩
    · exact ⟨8, .inr rfl, hkl⟩
  have hK := fun w => Key_any key long hkey w
  have hC := fun w => Chunk_any counter hcounter w
  have hcs := chunkOf_size counter
  generalize keyOf key long = k at *
  generalize chunkOf counter = c at *
  -- Xor of the text, and of that
  have hX1 := fun w => Xor_k n hn k c X hns hcs (by omega) w
  have hKa := Str.of_all hns c X.size
  have hAa := Str.xor_all (bytesOf_all X) hKa
  have hAl : (strOf (Str.xor (bytesOf X) (Str.of k c X.size))).size = X.size := by rw [strOf_size, Str.xor_length, bytesOf_length]
  have hX2 := fun w => Xor_k n hn k c (strOf (Str.xor (bytesOf X) (Str.of k c X.size))) hns hcs (by omega) w
  rw [hAl, bytesOf_strOf hAa, Str.xor_xor, strOf_bytesOf] at hX2
  -- the parts
  have hx2s : (X.extract 0 (16 * x)).size = 16 * x := by rw [ByteArray.size_extract]; omega
  have hx3s : (X.extract (16 * x) X.size).size = X.size - 16 * x := by rw [ByteArray.size_extract]; omega
  have hX3 := fun w => Xor_k n hn k c (X.extract 0 (16 * x)) hns hcs (by omega) w
  have hN := fun w => Next_any c hcs x (by omega) w
  have hX4 := fun w => Xor_k n hn k (strOf (Ctr.next (bytesOf c) x)) (X.extract (16 * x) X.size) hns (by rw [strOf_size]; exact Ctr.next_length _ _) (by omega) w
  rw [hx2s] at hX3
  rw [hx3s] at hX4
  have hsum : strOf (Str.xor (bytesOf (X.extract 0 (16 * x))) (Str.of k c (16 * x))) ++ strOf (Str.xor (bytesOf (X.extract (16 * x) X.size)) (Str.of k (strOf (Ctr.next (bytesOf c) x)) (X.size - 16 * x))) = strOf (Str.xor (bytesOf X) (Str.of k c X.size)) := by
    rw [strOf_append, ← Str.xor_append (by rw [bytesOf_length, hx2s, Str.of_length]), ← Str.of_parts, show 16 * x + (X.size - 16 * x) = X.size by omega, ← bytesOf_append, cut_text X (16 * x) (by omega)]
  have hps : (strOf (Str.xor (bytesOf (X.extract 0 (16 * x))) (Str.of k c (16 * x)))).size + (strOf (Str.xor (bytesOf (X.extract (16 * x) X.size)) (Str.of k (strOf (Ctr.next (bytesOf c) x)) (X.size - 16 * x)))).size ≤ 200 := by
    rw [strOf_size, strOf_size, Str.xor_length, Str.xor_length, bytesOf_length, bytesOf_length, hx2s, hx3s]; omega
  generalize strOf (Str.xor (bytesOf (X.extract 0 (16 * x))) (Str.of k c (16 * x))) = D at *
  generalize strOf (Str.xor (bytesOf (X.extract (16 * x) X.size)) (Str.of k (strOf (Ctr.next (bytesOf c) x)) (X.size - 16 * x))) = P at *
  generalize strOf (Str.xor (bytesOf X) (Str.of k c X.size)) = A at *
  generalize X.extract 0 (16 * x) = X2 at *
  generalize X.extract (16 * x) X.size = X3 at *
  generalize strOf (Ctr.next (bytesOf c) x) = c2 at *
  have hadd : ∀ W, (Op.stringOp .add D P).run Try.prog W = .ok (.string A) W := fun W => by rw [← hsum]; exact run_string_add_sum W _ _ (by omega)
  have HP := Lib.hid hP
  have HC := Lib.hid hC
  have HK := Lib.hid hK
  have HN := Lib.hid hN
  have HX1 := Lib.hid hX1
  have HX2 := Lib.hid hX2
  have HX3 := Lib.hid hX3
  have HX4 := Lib.hid hX4
  have hA : (A.size : Int) = (L : Int) := by omega
  have hxn : (16 : Int) * (x : Int) ≤ 200 := by omega
  clear hP hC hK hN hX1 hX2 hX3 hX4 hx hcs hns hkl hKa hAa hsum hps hx2s hx3s hX hAl hn hx1
  go_enter Try.func3, Try.ntmps3
  go_wp2_with fail
  refine (awake5_any _).mono ?_
  rintro e w1 ⟨rfl, hb1⟩
  have Hb1 := Lib.hid hb1
  clear hb1
  go_wp2_with fail
  refine (HK.out _).mono ?_
  rintro e w2 ⟨rfl, hb2⟩
  have Hb2 := Lib.hid (below_seq Hb1.out hb2)
  clear hb2 HK Hb1
  go_wp2_with fail
  refine (HC.out _).mono ?_
  rintro e w3 ⟨rfl, hb3⟩
  have Hb3 := Lib.hid (below_seq Hb2.out hb3)
  clear hb3 HC Hb2
  go_wp2_with fail
  refine (HP.out _).mono ?_
  rintro e w4 ⟨rfl, rfl⟩
  clear HP
  go_wp2_with fail
  refine (HX1.out _).mono ?_
  rintro e w5 ⟨rfl, hb5⟩
  have Hb5 := Lib.hid (below_seq Hb3.out hb5)
  clear hb5 HX1 Hb3
  go_wp2_with fail
  refine (HX2.out _).mono ?_
  rintro e w6 ⟨rfl, hb6⟩
  have Hb6 := Lib.hid (below_seq Hb5.out hb6)
  clear hb6 HX2 Hb5
  go_wp2_with fail
  refine (HX3.out _).mono ?_
  rintro e w7 ⟨rfl, hb7⟩
  have Hb7 := Lib.hid (below_seq Hb6.out hb7)
  clear hb7 HX3 Hb6
  go_wp2_with fail
  refine (HN.out _).mono ?_
  rintro e w8 ⟨rfl, hb8⟩
  have Hb8 := Lib.hid (below_seq Hb7.out hb8)
  clear hb8 HN Hb7
  go_wp2_with fail
  refine (HX4.out _).mono ?_
  rintro e w9 ⟨rfl, hb9⟩
  have Hb9 := Lib.hid (below_seq Hb8.out hb9)
  clear hb9 HX4 Hb8
  go_wp2
  go_ret
  exact ⟨rfl, Hb9.out⟩

theorem own : ownKnob Try.prog.godebug = none := by kernel_rfl
theorem lay : laidOutB Try.prog = true := by kernel_rfl

set_option maxRecDepth 100000 in
theorem lifted (os : Os) (started : os.Started) (H : Type) (enc : TypeId × Value → H) :
    ReturnsInHanded {} Try.checked os 3 .any (Rows.streamBackSpec.pre6 enc Try.prog Try.f3 Rows.streamBackRow.domain false) (Rows.streamBackSpec.post enc Try.prog Try.f3 false true false false) := by
  refine returnsInHanded_of_change_sized (C := Try.checked) own started (by kernel_rfl) Try.func3
    (ChangeSpec.witness6 (enc := enc) (C := Try.checked) false ⟨#[], #[.string ⟨#[]⟩, .string ⟨#[]⟩, .string ⟨#[]⟩, .bool false, .int .i64 0], []⟩ 8 (by kernel_rfl) (by kernel_rfl) (by kernel_rfl) (by kernel_rfl)) ?_
  intro W base args ds gs before hval0 hW hcnd hsz0 _
  have hval : ∀ (j : Nat) t v, Try.f3.params[j]? = some t → args[j]? = some v → Value.okWide Try.prog W .any base t v := hval0
  have hsz : (DataW.weightsEach Try.prog (Try.f3.params.toList ++ Rows.streamBackSpec.plain.varTypes Try.prog) (ds ++ gs)).all (· ≤ reachBytes) = true := hsz0
  have hW' := hW
  obtain ⟨p, q, hA0, hV, rfl, hfz, hnd⟩ := hW
  have hA : DataW.TrodAll enc Try.prog W 0 (fun _ => true) true Try.f3.params.toList args.toList ds p := hA0
  rw [Try.params3] at hA hval hsz
  obtain ⟨v0, vs0, d0, ds0, p0, q0, hargs, rfl, rfl, h0, r0⟩ := trodAll_cons hA
  obtain ⟨v1, vs1, d1, ds1, p1, q1, rfl, rfl, rfl, h1, r1⟩ := trodAll_cons r0
  obtain ⟨v2, vs2, d2, ds2, p2, q2, rfl, rfl, rfl, h2, r2⟩ := trodAll_cons r1
  obtain ⟨v3, vs3, d3, ds3, p3, q3, rfl, rfl, rfl, h3, r3⟩ := trodAll_cons r2
  obtain ⟨v4, vs4, d4, ds4, p4, q4, rfl, rfl, rfl, h4, r4⟩ := trodAll_cons r3
  obtain ⟨rfl, rfl, rfl⟩ := trodAll_nil r4
  obtain rfl : args = #[v0, v1, v2, v3, v4] := by cases args; simp_all
  obtain ⟨rfl, rfl⟩ := trodVars_none hV
  obtain ⟨a0, rfl, rfl, rfl, w0⟩ := ChangeMaps.open_string Try.underlying9 (hval 0 9 v0 rfl rfl) h0
  have z0 : a0.size ≤ 140737488351232 := sized_string hsz (j := 0) rfl rfl
  obtain ⟨a1, rfl, rfl, rfl, w1⟩ := ChangeMaps.open_string Try.underlying9 (hval 1 9 v1 rfl rfl) h1
  have z1 : a1.size ≤ 140737488351232 := sized_string hsz (j := 1) rfl rfl
  obtain ⟨a2, rfl, rfl, rfl, w2⟩ := ChangeMaps.open_string Try.underlying9 (hval 2 9 v2 rfl rfl) h2
  have z2 : a2.size ≤ 140737488351232 := sized_string hsz (j := 2) rfl rfl
  obtain ⟨a3, rfl, rfl, rfl⟩ := open_bool Try.underlying4 (hval 3 4 v3 rfl rfl) h3
  obtain ⟨a4, rfl, rfl, rfl, w4⟩ := open_int Try.underlying3 (hval 4 3 v4 rfl rfl) h4
  refine (walk a0 z0 a1 z1 a2 z2 a3 a4 (bounds_i64 w4) W).mono fun e W' ⟨he, hg⟩ => ?_
  subst he
  have hts : ∀ t ∈ Try.f3.params.toList, Try.prog.readableRec t = true ∧ t < Try.prog.types.size := by
    rw [Try.params3]
    intro t ht
    simp only [List.mem_cons, List.not_mem_nil, or_false] at ht
    rcases ht with rfl | rfl | rfl | rfl | rfl <;> exact ⟨by kernel_rfl, of_decide_eq_true (by kernel_rfl)⟩
  exact ⟨_, rfl, post_true lay hts (by kernel_rfl) Try.underlying4 rfl rfl hW' hg⟩

theorem proved : Rows.StreamBackSaid :=
  OpenClaim.holds_of_wide 3 Try.f3 rfl rfl rfl rfl rfl rfl rfl ⟨rfl, rfl, rfl, rfl, rfl⟩ rfl rfl rfl rfl rfl (by kernel_rfl) Try.func3 (by kernel_rfl)
    (of_decide_eq_true (by kernel_rfl)) (by unfold Func.isWrapper; first | (rw [if_pos (by decide +kernel)]; kernel_rfl) | (rw [if_neg (by decide +kernel)]; exact ⟨rfl, rfl⟩))
    (fun os started H enc _ => lifted os started H enc)
#print axioms proved

end Go.Proofs.Ytgcfaeipiiagdaa.streamBack
