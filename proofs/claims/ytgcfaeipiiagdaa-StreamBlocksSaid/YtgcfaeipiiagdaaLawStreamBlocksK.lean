/- For every key, counter, length and two raw numbers the law StreamBlocks of layer 5 answers true and leaves its arguments as they were. No condition. -/
import Derived.Test.YtgcfaeipiiagdaaStrL
import Derived.Test.YtgcfaeipiiagdaaPkD
import Derived.Test.YtgcfaeipiiagdaaFrm
namespace Go.Proofs.Ytgcfaeipiiagdaa.streamBlocks
open Go.ChangeShapes Go.WideShapes Go.ChangeAt Go.RowKit

set_option maxRecDepth 100000 in
set_option maxHeartbeats 2000000 in
theorem walk (key : ByteArray) (hkey : key.size ≤ 140737488351232) (counter : ByteArray) (hcounter : counter.size ≤ 140737488351232) (long : Bool) (m : Int) (hm : -9223372036854775808 ≤ m ∧ m ≤ 9223372036854775807) (u : Int) (hu : -9223372036854775808 ≤ u ∧ u ≤ 9223372036854775807) (w : World) :
    Calls Try.prog 4 #[.string key, .string counter, .bool long, .int .i64 m, .int .i64 u] w fun e w' => e = .returned (.bool true) ∧ Below w.heap.size w w' := by
  obtain ⟨x, hx, hx1⟩ := pick_nat m 5 (by decide)
  obtain ⟨y, hy, hy1⟩ := pick_nat u 90 (by decide)
  have hP1 := fun w => pick5_any m 5 hm (by decide) w
  have hP2 := fun w => pick5_any u 90 hu (by decide) w
  rw [show ((5 : Nat) : Int) = 5 from rfl] at hx
  rw [show ((90 : Nat) : Int) = 90 from rfl] at hy
  rw [hx] at hP1
  rw [hy] at hP2
  have hkl := keyOf_size key long
  obtain ⟨n, hn, hns⟩ : ∃ n, (n = 4 ∨ n = 8) ∧ (keyOf key long).size = 4 * n := by
    cases long
    · exact ⟨4, .inl rfl, hkl⟩
    · exact ⟨8, .inr rfl, hkl⟩
  have hK := fun w => Key_any key long hkey w
  have hC := fun w => Chunk_any counter hcounter w
  have hcs := chunkOf_size counter
  generalize keyOf key long = k at *
  generalize chunkOf counter = c at *
  have hA := fun w => Keys_k n hn k c hns hcs 96 (by decide) w
  have hB := fun w => Keys_k n hn k c hns hcs y (by omega) w
  have hN := fun w => Next_any c hcs x (by omega) w
  have hE := fun w => refEncrypt_any n hn k (strOf (Ctr.next (bytesOf c) x)) hns (by rw [strOf_size]; exact Ctr.next_length _ _) w
  rw [bytesOf_strOf (Ctr.next_all _ _)] at hE
  rw [show ((96 : Nat) : Int) = 96 from rfl] at hA
  have hAs : (strOf (Str.of k c 96)).size = 96 := by rw [strOf_size, Str.of_length]
  have hAa := Str.of_all hns c 96
  have s1 := fun W => sl_hi (strOf (Str.of k c 96)) (y : Int) y rfl (by omega) W
  have s2 := fun W => sl_mid (strOf (Str.of k c 96)) (16 * (x : Int)) (16 * (x : Int) + 16) (16 * x) (16 * x + 16) (by omega) (by omega) (by omega) (by omega) W
  have e1 : (strOf (Str.of k c 96)).extract 0 y = strOf (Str.of k c y) := by
    rw [← strOf_bytesOf ((strOf (Str.of k c 96)).extract 0 y), bytesOf_extract _ _ _ (by omega), bytesOf_strOf hAa, List.drop_zero, Nat.sub_zero, Str.of_prefix _ _ (by omega)]
  have e2 : (strOf (Str.of k c 96)).extract (16 * x) (16 * x + 16) = strOf (Aes.enc (bytesOf k) (Ctr.next (bytesOf c) x)) := by
    rw [← strOf_bytesOf ((strOf (Str.of k c 96)).extract (16 * x) (16 * x + 16)), bytesOf_extract _ _ _ (by omega), bytesOf_strOf hAa, show 16 * x + 16 - 16 * x = 16 by omega, Str.of_block _ _ (by omega)]
  rw [e1] at s1
  rw [e2] at s2
  have hA2 : (((strOf (Str.of k c 96)).size : Nat) : Int) = 96 := by rw [hAs]; rfl
  generalize strOf (Str.of k c 96) = A at *
  generalize strOf (Str.of k c y) = B at *
  generalize strOf (Aes.enc (bytesOf k) (Ctr.next (bytesOf c) x)) = X at *
  generalize strOf (Ctr.next (bytesOf c) x) = D at *
  have HP1 := Lib.hid hP1
  have HP2 := Lib.hid hP2
  have HC := Lib.hid hC
  have HK := Lib.hid hK
  have HN := Lib.hid hN
  have HA := Lib.hid hA
  have HB := Lib.hid hB
  have HE := Lib.hid hE
  clear hP1 hP2 hC hK hN hA hB hE hx hy hcs hns hkl hAs hAa e1 e2 hn
  go_enter Try.func4, Try.ntmps4
  go_wp2_with fail
  refine (awake5_any _).mono ?_
  rintro e w1 ⟨rfl, hb1⟩
  have Hb1 := Lib.hid hb1
  clear hb1
  go_wp2_with fail
  refine (HK.out _).mono ?_
  rintro e w2 ⟨rfl, hb2⟩
  have Hb2 := Lib.hid (below_seq Hb1.out hb2)
  clear hb2 HK Hb1
  go_wp2_with fail
  refine (HC.out _).mono ?_
  rintro e w3 ⟨rfl, hb3⟩
  have Hb3 := Lib.hid (below_seq Hb2.out hb3)
  clear hb3 HC Hb2
  go_wp2_with fail
  refine (HP1.out _).mono ?_
  rintro e w4 ⟨rfl, rfl⟩
  clear HP1
  go_wp2_with fail
  refine (HP2.out _).mono ?_
  rintro e w5 ⟨rfl, rfl⟩
  clear HP2
  go_wp2_with fail
  refine (HA.out _).mono ?_
  rintro e w6 ⟨rfl, hb6⟩
  have Hb6 := Lib.hid (below_seq Hb3.out hb6)
  clear hb6 HA Hb3
  go_wp2_with fail
  refine (HB.out _).mono ?_
  rintro e w7 ⟨rfl, hb7⟩
  have Hb7 := Lib.hid (below_seq Hb6.out hb7)
  clear hb7 HB Hb6
  go_wp2_with fail
  refine (HN.out _).mono ?_
  rintro e w8 ⟨rfl, hb8⟩
  have Hb8 := Lib.hid (below_seq Hb7.out hb8)
  clear hb8 HN Hb7
  go_wp2_with fail
  refine (HE.out _).mono ?_
  rintro e w9 ⟨rfl, hb9⟩
  have Hb9 := Lib.hid (below_seq Hb8.out hb9)
  clear hb9 HE Hb8
  go_wp2
  go_ret
  exact ⟨rfl, Hb9.out⟩

theorem own : ownKnob Try.prog.godebug = none := by kernel_rfl
theorem lay : laidOutB Try.prog = true := by kernel_rfl

set_option maxRecDepth 100000 in
theorem lifted (os : Os) (started : os.Started) (H : Type) (enc : TypeId × Value → H) :
    ReturnsInHanded {} Try.checked os 4 .any (Rows.streamBlocksSpec.pre6 enc Try.prog Try.f4 Rows.streamBlocksRow.domain false) (Rows.streamBlocksSpec.post enc Try.prog Try.f4 false true false false) := by
  refine returnsInHanded_of_change_sized (C := Try.checked) own started (by kernel_rfl) Try.func4
    (ChangeSpec.witness6 (enc := enc) (C := Try.checked) false ⟨#[], #[.string ⟨#[]⟩, .string ⟨#[]⟩, .bool false, .int .i64 0, .int .i64 0], []⟩ 8 (by kernel_rfl) (by kernel_rfl) (by kernel_rfl) (by kernel_rfl)) ?_
  intro W base args ds gs before hval0 hW hcnd hsz0 _
  have hval : ∀ (j : Nat) t v, Try.f4.params[j]? = some t → args[j]? = some v → Value.okWide Try.prog W .any base t v := hval0
  have hsz : (DataW.weightsEach Try.prog (Try.f4.params.toList ++ Rows.streamBlocksSpec.plain.varTypes Try.prog) (ds ++ gs)).all (· ≤ reachBytes) = true := hsz0
  have hW' := hW
  obtain ⟨p, q, hA0, hV, rfl, hfz, hnd⟩ := hW
  have hA : DataW.TrodAll enc Try.prog W 0 (fun _ => true) true Try.f4.params.toList args.toList ds p := hA0
  rw [Try.params4] at hA hval hsz
  obtain ⟨v0, vs0, d0, ds0, p0, q0, hargs, rfl, rfl, h0, r0⟩ := trodAll_cons hA
  obtain ⟨v1, vs1, d1, ds1, p1, q1, rfl, rfl, rfl, h1, r1⟩ := trodAll_cons r0
  obtain ⟨v2, vs2, d2, ds2, p2, q2, rfl, rfl, rfl, h2, r2⟩ := trodAll_cons r1
  obtain ⟨v3, vs3, d3, ds3, p3, q3, rfl, rfl, rfl, h3, r3⟩ := trodAll_cons r2
  obtain ⟨v4, vs4, d4, ds4, p4, q4, rfl, rfl, rfl, h4, r4⟩ := trodAll_cons r3
  obtain ⟨rfl, rfl, rfl⟩ := trodAll_nil r4
  obtain rfl : args = #[v0, v1, v2, v3, v4] := by cases args; simp_all
  obtain ⟨rfl, rfl⟩ := trodVars_none hV
  obtain ⟨a0, rfl, rfl, rfl, w0⟩ := ChangeMaps.open_string Try.underlying9 (hval 0 9 v0 rfl rfl) h0
  have z0 : a0.size ≤ 140737488351232 := sized_string hsz (j := 0) rfl rfl
  obtain ⟨a1, rfl, rfl, rfl, w1⟩ := ChangeMaps.open_string Try.underlying9 (hval 1 9 v1 rfl rfl) h1
  have z1 : a1.size ≤ 140737488351232 := sized_string hsz (j := 1) rfl rfl
  obtain ⟨a2, rfl, rfl, rfl⟩ := open_bool Try.underlying4 (hval 2 4 v2 rfl rfl) h2
  obtain ⟨a3, rfl, rfl, rfl, w3⟩ := open_int Try.underlying3 (hval 3 3 v3 rfl rfl) h3
  obtain ⟨a4, rfl, rfl, rfl, w4⟩ := open_int Try.underlying3 (hval 4 3 v4 rfl rfl) h4
  refine (walk a0 z0 a1 z1 a2 a3 (bounds_i64 w3) a4 (bounds_i64 w4) W).mono fun e W' ⟨he, hg⟩ => ?_
  subst he
  have hts : ∀ t ∈ Try.f4.params.toList, Try.prog.readableRec t = true ∧ t < Try.prog.types.size := by
    rw [Try.params4]
    intro t ht
    simp only [List.mem_cons, List.not_mem_nil, or_false] at ht
    rcases ht with rfl | rfl | rfl | rfl | rfl <;> exact ⟨by kernel_rfl, of_decide_eq_true (by kernel_rfl)⟩
  exact ⟨_, rfl, post_true lay hts (by kernel_rfl) Try.underlying4 rfl rfl hW' hg⟩

theorem proved : Rows.StreamBlocksSaid :=
  OpenClaim.holds_of_wide 4 Try.f4 rfl rfl rfl rfl rfl rfl rfl ⟨rfl, rfl, rfl, rfl, rfl⟩ rfl rfl rfl rfl rfl (by kernel_rfl) Try.func4 (by kernel_rfl)
    (of_decide_eq_true (by kernel_rfl)) (by unfold Func.isWrapper; first | (rw [if_pos (by decide +kernel)]; kernel_rfl) | (rw [if_neg (by decide +kernel)]; exact ⟨rfl, rfl⟩))
    (fun os started H enc _ => lifted os started H enc)
#print axioms proved

end Go.Proofs.Ytgcfaeipiiagdaa.streamBlocks
