/-
  Several texts in one: LawSealTags.
-/
import Derived.Test.YtmgoeipmgclbkaaGreatDoorSeaMK
import Derived.Test.YtmgoeipmgclbkaaGreatDoorLaidK
import Derived.Deep.CutRange
import Derived.Deep.RegionWith

/- For every key, nonce, text along, box and two raw numbers the law SealTags of layer 6 answers true and leaves its arguments as they were. Condition: the words of SHA-256's rounds are laid as the program's text lays them (the tied card). -/
namespace Go.Proofs.YtmgoeipmgclbkaaGreatDoor.sealTags
open Go.ChangeShapes Go.WideShapes Go.ChangeAt Go.RowKit

set_option maxRecDepth 100000 in
set_option maxHeartbeats 4000000 in
theorem walk (key : ByteArray) (hkey : key.size ≤ 140737488351232) (nonce : ByteArray) (hnonce : nonce.size ≤ 140737488351232) (along : ByteArray) (halong : along.size ≤ 140737488351232) (box : ByteArray) (hbox : box.size ≤ 140737488351232) (at_ : Int) (hat_ : -9223372036854775808 ≤ at_ ∧ at_ ≤ 9223372036854775807) (by_ : Int) (hby_ : -9223372036854775808 ≤ by_ ∧ by_ ≤ 9223372036854775807) (w : World) (hR : Sha.RoundIn w) :
    Calls Tryz.prog 4 #[.string key, .string nonce, .string along, .string box, .int .i64 at_, .int .i64 by_] w fun e w' => e = .returned (.bool true) ∧ Below w.heap.size w w' := by
  obtain ⟨L, hL1, hL2, hL3⟩ : ∃ L : Nat, min (along.size : Int) 200 = (L : Int) ∧ L ≤ along.size ∧ L ≤ 200 := ⟨min along.size 200, by omega, by omega, by omega⟩
  have sV := fun W => sl_hi along (L : Int) L rfl hL2 W
  have hVs : (along.extract 0 L).size = L := by rw [ByteArray.size_extract]; omega
  generalize along.extract 0 L = V at *
  obtain ⟨M, hM1, hM2, hM3⟩ : ∃ M : Nat, min (box.size : Int) 200 = (M : Int) ∧ M ≤ box.size ∧ M ≤ 200 := ⟨min box.size 200, by omega, by omega, by omega⟩
  have sX := fun W => sl_hi box (M : Int) M rfl hM2 W
  have hXs : (box.extract 0 M).size = M := by rw [ByteArray.size_extract]; omega
  generalize box.extract 0 M = X at *
  have hK := fun w => Key_any key true hkey w
  have hC := fun w => Chunk_any nonce hnonce w
  have hks : (keyOf key true).size = 32 := keyOf_size key true
  have hcs := chunkOf_size nonce
  generalize keyOf key true = k at *
  generalize chunkOf nonce = c at *
  obtain ⟨j, hj, hjl⟩ := pick_nat at_ 16 (by decide)
  obtain ⟨p, hp, hpl⟩ := pick_nat by_ 255 (by decide)
  have hP1 := fun w => pick6_any at_ 16 hat_ (by decide) w
  have hP2 := fun w => pick6_any by_ 255 hby_ (by decide) w
  rw [show ((16 : Nat) : Int) = 16 from rfl] at hj
  rw [show ((255 : Nat) : Int) = 255 from rfl] at hp
  rw [hj] at hP1
  rw [hp] at hP2
  clear hj hp hat_ hby_
  have hO := fun w hR => Open_all k c V X hks hcs (by omega) (by omega) w hR
  have hos := Seal.opens_size (key := k) (nonce := c) (along := V) (box := X)
  have hS1 := fun w hR => Seal_all k c V (Seal.opens k c V X).1 hks hcs (by omega) (by omega) w hR
  have hz := Seal.opens_cases k c V X
  have hzb := Seal.box_opens (key := k) (nonce := c) (along := V) (box := X)
  have hS := fun w hR => Seal_all k c V X hks hcs (by omega) (by omega) w hR
  have hA := Seal.box_size k c V X
  -- the byte that is another one
  have hx := bytesOf_all (Seal.box k c V X) (M + j)
  have hbent := fun y hy => Seal.opens_bent k c V X (M + j) y (by omega) (by omega) hy
  obtain ⟨x, hxx⟩ : ∃ x, (bytesOf (Seal.box k c V X)).getD (M + j) 0 = x := ⟨_, rfl⟩
  rw [hxx] at hx hbent
  have hy := Nat.xor_lt_two_pow (n := 8) hx (show 1 + p < 2 ^ 8 by omega)
  have hyx : x ≠ x ^^^ (1 + p) := fun h => by
    have h2 := congrArg (x ^^^ ·) h
    simp only [← Nat.xor_assoc, Nat.xor_self, Nat.zero_xor] at h2
    omega
  obtain ⟨y, hyy⟩ : ∃ y, x ^^^ (1 + p) = y := ⟨_, rfl⟩
  have hxor := u8_xor_nat x (1 + p) hx (by omega)
  rw [hyy] at hy hyx hxor
  have hw1 : IntKind.i64.wrap (1 + (p : Int)) = ((1 + p : Nat) : Int) := by rw [IntWalk.i64_in _ (by omega)]; omega
  have hw2 : IntKind.u8.wrap ((1 + p : Nat) : Int) = ((1 + p : Nat) : Int) := by rw [IntKind.wrap_u8]; omega
  generalize 1 + p = d at hw1 hw2 hxor
  have hT := fun w hR => Open_all k c V (otherOf (Seal.box k c V X) (M + j) y) hks hcs (by omega) (by rw [otherOf_size _ _ _ (by omega)]; omega) w hR
  rw [hbent y hy hyx] at hT
  obtain ⟨A, hAA⟩ : ∃ A, Seal.box k c V X = A := ⟨_, rfl⟩
  rw [hAA] at hS hA hxx hT
  obtain ⟨B, hc⟩ : ∃ B, otherOf A (M + j) y = B := ⟨_, rfl⟩
  rw [hc] at hT
  have iA : (A.size : Int) = (M : Int) + 16 := by omega
  have iX : (X.size : Int) = (M : Int) := by omega
  rw [hXs] at hA
  generalize Seal.opens k c V X = oz at *
  obtain ⟨a, z⟩ := oz
  dsimp only at hO hS1 hz hzb hos
  have HK := Lib.hid hK
  have HC := Lib.hid hC
  have HO := Lib.hid hO
  have HS1 := Lib.hid hS1
  have HS := Lib.hid hS
  have HA := Lib.hid hA
  have HT := Lib.hid hT
  have Hxx := Lib.hid hxx
  have Hc := Lib.hid hc
  have HP1 := Lib.hid hP1
  have HP2 := Lib.hid hP2
  have HR := Lib.hid hR
  clear hK hC hO hS1 hS hA hT hxx hc hP1 hP2 hR
  clear hAA hbent hyx hyy hx hpl hos hks hcs hVs hXs hkey hnonce
  go_enter Tryz.func4, Tryz.ntmps4
  go_wp2_with fail
  refine (awake6_any _ HR.out).mono ?_
  rintro e w1 ⟨rfl, hb1⟩
  have Hb1 := Lib.hid hb1
  clear hb1
  go_wp2_with fail
  refine (HK.out _).mono ?_
  rintro e w2 ⟨rfl, hb2⟩
  have Hb2 := Lib.hid (below_seq Hb1.out hb2)
  clear hb2 HK Hb1
  go_wp2_with fail
  refine (HC.out _).mono ?_
  rintro e w3 ⟨rfl, hb3⟩
  have Hb3 := Lib.hid (below_seq Hb2.out hb3)
  clear hb3 HC Hb2
  go_wp2_with fail
  refine (HO.out _ (HR.out.below Hb3.out)).mono ?_
  rintro e w4 ⟨rfl, hb4⟩
  have Hb4 := Lib.hid (below_seq Hb3.out hb4)
  clear hb4 HO Hb3
  rcases hz with rfl | rfl | rfl
  · rw [hzb rfl] at HS1
    clear hzb
    go_wp2_with fail
    refine (HS1.out _ (HR.out.below Hb4.out)).mono ?_
    rintro e w6 ⟨rfl, hb6⟩
    have Hb6 := Lib.hid (below_seq Hb4.out hb6)
    clear hb6 HS1 Hb4
    go_wp2_with fail
    refine (HS.out _ (HR.out.below Hb6.out)).mono ?_
    rintro e w7 ⟨rfl, hb7⟩
    have Hb7 := Lib.hid (below_seq Hb6.out hb7)
    clear hb7 HS Hb6
    go_wp2_with fail
    refine (HP1.out _).mono ?_
    rintro e w8 ⟨rfl, rfl⟩
    clear HP1
    go_upto_region 15 with fail
    go_cut [25] from 91 to 109 (fun v wx => v = .string B ∧ Below w.heap.size w wx)
    case first =>
      have hA := HA.out
      have hidx := fun W => idx_string A ((M : Int) + (j : Int)) (M + j) (by omega) (by omega) W
      rw [Hxx.out] at hidx
      have hs1 := fun W => sl_hi A ((M : Int) + (j : Int)) (M + j) (by omega) (by omega) W
      have hs2 := fun W => sl_lo A ((M : Int) + (j : Int) + 1) (M + j + 1) (by omega) (by omega) W
      have HX4 : Hid (Below w.heap.size w ((w8.alloc (.cells #[U y] 5)).drew)) := Lib.hid ((Hb7.out.alloc Hb7.out.size _).drew)
      have hwi : IntKind.i64.wrap ((M : Int) + (j : Int) + 1) = (M : Int) + (j : Int) + 1 := IntWalk.i64_in _ (by omega)
      have hcv := conv_string (P := Tryz.prog) (src := 30) (dst := 9) Tryz.underlying30 Tryz.underlying5 Tryz.underlying9 w8.heap.size 0 1 [y] (w8.alloc (.cells #[U y] 5)).drew
        (fun j hj => by
          have h := (Row.new w8 5 #[U y]).drew.cell j
          rw [Nat.zero_add, h]
          obtain rfl : j = 0 := by simpa using hj
          rfl) 1 rfl
      have ha1 : ∀ W, (Op.stringOp .add (A.extract 0 (M + j)) (strOf [y])).run Tryz.prog W = .ok (.string (A.extract 0 (M + j) ++ strOf [y])) W := fun W => run_string_add_sum W _ _ (by rw [ByteArray.size_extract, strOf_size]; simp; omega)
      have ha2 : ∀ W, (Op.stringOp .add (A.extract 0 (M + j) ++ strOf [y]) (A.extract (M + j + 1) A.size)).run Tryz.prog W = .ok (.string B) W := fun W => by
        rw [← Hc.out]
        exact run_string_add_sum W _ _ (by rw [ByteArray.size_append, ByteArray.size_extract, ByteArray.size_extract, strOf_size]; simp; omega)
      clear hA
      go_region_with (go_at_call 12; refine (HP2.out _).mono ?_; rintro e w9 ⟨rfl, rfl⟩)
      all_goals
        go_wp2
        go_meet
        exact ⟨rfl, HX4.out⟩
    case rest =>
      obtain ⟨rfl, hB⟩ := hcut
      have HB8 := Lib.hid hB
      clear hB Hb7 HP2 Hc Hxx HA
      go_wp2_with fail
      refine (HT.out _ (HR.out.below HB8.out)).mono ?_
      rintro e w9 ⟨rfl, hb9⟩
      have HB9 := Lib.hid (below_seq HB8.out hb9)
      clear hb9 HT
      go_wp2
      go_ret
      exact ⟨rfl, HB9.out⟩
  · clear HS1 hzb
    go_wp2_with fail
    refine (HS.out _ (HR.out.below Hb4.out)).mono ?_
    rintro e w7 ⟨rfl, hb7⟩
    have Hb7 := Lib.hid (below_seq Hb4.out hb7)
    clear hb7 HS Hb4
    go_wp2_with fail
    refine (HP1.out _).mono ?_
    rintro e w8 ⟨rfl, rfl⟩
    clear HP1
    go_upto_region 15 with fail
    go_cut [25] from 91 to 109 (fun v wx => v = .string B ∧ Below w.heap.size w wx)
    case first =>
      have hA := HA.out
      have hidx := fun W => idx_string A ((M : Int) + (j : Int)) (M + j) (by omega) (by omega) W
      rw [Hxx.out] at hidx
      have hs1 := fun W => sl_hi A ((M : Int) + (j : Int)) (M + j) (by omega) (by omega) W
      have hs2 := fun W => sl_lo A ((M : Int) + (j : Int) + 1) (M + j + 1) (by omega) (by omega) W
      have HX4 : Hid (Below w.heap.size w ((w8.alloc (.cells #[U y] 5)).drew)) := Lib.hid ((Hb7.out.alloc Hb7.out.size _).drew)
      have hwi : IntKind.i64.wrap ((M : Int) + (j : Int) + 1) = (M : Int) + (j : Int) + 1 := IntWalk.i64_in _ (by omega)
      have hcv := conv_string (P := Tryz.prog) (src := 30) (dst := 9) Tryz.underlying30 Tryz.underlying5 Tryz.underlying9 w8.heap.size 0 1 [y] (w8.alloc (.cells #[U y] 5)).drew
        (fun j hj => by
          have h := (Row.new w8 5 #[U y]).drew.cell j
          rw [Nat.zero_add, h]
          obtain rfl : j = 0 := by simpa using hj
          rfl) 1 rfl
      have ha1 : ∀ W, (Op.stringOp .add (A.extract 0 (M + j)) (strOf [y])).run Tryz.prog W = .ok (.string (A.extract 0 (M + j) ++ strOf [y])) W := fun W => run_string_add_sum W _ _ (by rw [ByteArray.size_extract, strOf_size]; simp; omega)
      have ha2 : ∀ W, (Op.stringOp .add (A.extract 0 (M + j) ++ strOf [y]) (A.extract (M + j + 1) A.size)).run Tryz.prog W = .ok (.string B) W := fun W => by
        rw [← Hc.out]
        exact run_string_add_sum W _ _ (by rw [ByteArray.size_append, ByteArray.size_extract, ByteArray.size_extract, strOf_size]; simp; omega)
      clear hA
      go_region_with (go_at_call 12; refine (HP2.out _).mono ?_; rintro e w9 ⟨rfl, rfl⟩)
      all_goals
        go_wp2
        go_meet
        exact ⟨rfl, HX4.out⟩
    case rest =>
      obtain ⟨rfl, hB⟩ := hcut
      have HB8 := Lib.hid hB
      clear hB Hb7 HP2 Hc Hxx HA
      go_wp2_with fail
      refine (HT.out _ (HR.out.below HB8.out)).mono ?_
      rintro e w9 ⟨rfl, hb9⟩
      have HB9 := Lib.hid (below_seq HB8.out hb9)
      clear hb9 HT
      go_wp2
      go_ret
      exact ⟨rfl, HB9.out⟩
  · clear HS1 hzb
    go_wp2_with fail
    refine (HS.out _ (HR.out.below Hb4.out)).mono ?_
    rintro e w7 ⟨rfl, hb7⟩
    have Hb7 := Lib.hid (below_seq Hb4.out hb7)
    clear hb7 HS Hb4
    go_wp2_with fail
    refine (HP1.out _).mono ?_
    rintro e w8 ⟨rfl, rfl⟩
    clear HP1
    go_upto_region 15 with fail
    go_cut [25] from 91 to 109 (fun v wx => v = .string B ∧ Below w.heap.size w wx)
    case first =>
      have hA := HA.out
      have hidx := fun W => idx_string A ((M : Int) + (j : Int)) (M + j) (by omega) (by omega) W
      rw [Hxx.out] at hidx
      have hs1 := fun W => sl_hi A ((M : Int) + (j : Int)) (M + j) (by omega) (by omega) W
      have hs2 := fun W => sl_lo A ((M : Int) + (j : Int) + 1) (M + j + 1) (by omega) (by omega) W
      have HX4 : Hid (Below w.heap.size w ((w8.alloc (.cells #[U y] 5)).drew)) := Lib.hid ((Hb7.out.alloc Hb7.out.size _).drew)
      have hwi : IntKind.i64.wrap ((M : Int) + (j : Int) + 1) = (M : Int) + (j : Int) + 1 := IntWalk.i64_in _ (by omega)
      have hcv := conv_string (P := Tryz.prog) (src := 30) (dst := 9) Tryz.underlying30 Tryz.underlying5 Tryz.underlying9 w8.heap.size 0 1 [y] (w8.alloc (.cells #[U y] 5)).drew
        (fun j hj => by
          have h := (Row.new w8 5 #[U y]).drew.cell j
          rw [Nat.zero_add, h]
          obtain rfl : j = 0 := by simpa using hj
          rfl) 1 rfl
      have ha1 : ∀ W, (Op.stringOp .add (A.extract 0 (M + j)) (strOf [y])).run Tryz.prog W = .ok (.string (A.extract 0 (M + j) ++ strOf [y])) W := fun W => run_string_add_sum W _ _ (by rw [ByteArray.size_extract, strOf_size]; simp; omega)
      have ha2 : ∀ W, (Op.stringOp .add (A.extract 0 (M + j) ++ strOf [y]) (A.extract (M + j + 1) A.size)).run Tryz.prog W = .ok (.string B) W := fun W => by
        rw [← Hc.out]
        exact run_string_add_sum W _ _ (by rw [ByteArray.size_append, ByteArray.size_extract, ByteArray.size_extract, strOf_size]; simp; omega)
      clear hA
      go_region_with (go_at_call 12; refine (HP2.out _).mono ?_; rintro e w9 ⟨rfl, rfl⟩)
      all_goals
        go_wp2
        go_meet
        exact ⟨rfl, HX4.out⟩
    case rest =>
      obtain ⟨rfl, hB⟩ := hcut
      have HB8 := Lib.hid hB
      clear hB Hb7 HP2 Hc Hxx HA
      go_wp2_with fail
      refine (HT.out _ (HR.out.below HB8.out)).mono ?_
      rintro e w9 ⟨rfl, hb9⟩
      have HB9 := Lib.hid (below_seq HB8.out hb9)
      clear hb9 HT
      go_wp2
      go_ret
      exact ⟨rfl, HB9.out⟩

set_option maxRecDepth 100000 in
theorem lifted (os : Os) (started : os.Started) (H : Type) (enc : TypeId × Value → H) :
    ReturnsInHanded {} Tryz.checked os 4 .any (fun w args => (Rows.sealTagsSpec.pre enc Tryz.prog Tryz.f4 [] false w args ∧ laidMetH Tryz.prog laidOnes w) ∧ sizedMet enc Tryz.prog Tryz.f4 (OpenSpec.ofChange Rows.sealTagsSpec) false w args) (Rows.sealTagsSpec.post enc Tryz.prog Tryz.f4 false true false false) := by
  refine returnsInHanded_of_change_and (C := Tryz.checked) (X := fun w _ => laidMetH Tryz.prog laidOnes w) (fun _ _ _ hh h => h.of_heap hh) own started (by kernel_rfl) Tryz.func4
    (ChangeSpec.witness_shaped (enc := enc) (C := Tryz.checked) (os := os) (X := fun w _ => laidMetH Tryz.prog laidOnes w) false (World.doorLaid Tryz.prog 14 os) #[.string ⟨#[]⟩, .string ⟨#[]⟩, .string ⟨#[]⟩, .string ⟨#[]⟩, .int .i64 0, .int .i64 0] 8 rfl (World.shaped_of_RefB (by kernel_rfl) (by kernel_rfl)) (by kernel_rfl) (by kernel_rfl) (by kernel_rfl) (door_met os _)) ?_
  intro W base args ds gs before hval0 hW _ hsz0 hL _
  have hval : ∀ (j : Nat) t v, Tryz.f4.params[j]? = some t → args[j]? = some v → Value.okWide Tryz.prog W .any base t v := hval0
  have hsz : (DataW.weightsEach Tryz.prog (Tryz.f4.params.toList ++ Rows.sealTagsSpec.plain.varTypes Tryz.prog) (ds ++ gs)).all (· ≤ reachBytes) = true := hsz0
  have hW' := hW
  obtain ⟨p, q, hA0, hV, rfl, hfz, hnd⟩ := hW
  have hA : DataW.TrodAll enc Tryz.prog W 0 (fun _ => true) true Tryz.f4.params.toList args.toList ds p := hA0
  rw [Tryz.params4] at hA hval hsz
  obtain ⟨v0, vs0, d0, ds0, p0, q0, hargs, rfl, rfl, h0, r0⟩ := trodAll_cons hA
  obtain ⟨v1, vs1, d1, ds1, p1, q1, rfl, rfl, rfl, h1, r1⟩ := trodAll_cons r0
  obtain ⟨v2, vs2, d2, ds2, p2, q2, rfl, rfl, rfl, h2, r2⟩ := trodAll_cons r1
  obtain ⟨v3, vs3, d3, ds3, p3, q3, rfl, rfl, rfl, h3, r3⟩ := trodAll_cons r2
  obtain ⟨v4, vs4, d4, ds4, p4, q4, rfl, rfl, rfl, h4, r4⟩ := trodAll_cons r3
  obtain ⟨v5, vs5, d5, ds5, p5, q5, rfl, rfl, rfl, h5, r5⟩ := trodAll_cons r4
  obtain ⟨rfl, rfl, rfl⟩ := trodAll_nil r5
  obtain rfl : args = #[v0, v1, v2, v3, v4, v5] := by cases args; simp_all
  obtain ⟨rfl, rfl⟩ := trodVars_none hV
  obtain ⟨a0, rfl, rfl, rfl, w0⟩ := ChangeMaps.open_string Tryz.underlying9 (hval 0 9 v0 rfl rfl) h0
  have z0 : a0.size ≤ 140737488351232 := sized_string hsz (j := 0) rfl rfl
  obtain ⟨a1, rfl, rfl, rfl, w1⟩ := ChangeMaps.open_string Tryz.underlying9 (hval 1 9 v1 rfl rfl) h1
  have z1 : a1.size ≤ 140737488351232 := sized_string hsz (j := 1) rfl rfl
  obtain ⟨a2, rfl, rfl, rfl, w2⟩ := ChangeMaps.open_string Tryz.underlying9 (hval 2 9 v2 rfl rfl) h2
  have z2 : a2.size ≤ 140737488351232 := sized_string hsz (j := 2) rfl rfl
  obtain ⟨a3, rfl, rfl, rfl, w3⟩ := ChangeMaps.open_string Tryz.underlying9 (hval 3 9 v3 rfl rfl) h3
  have z3 : a3.size ≤ 140737488351232 := sized_string hsz (j := 3) rfl rfl
  obtain ⟨a4, rfl, rfl, rfl, w4⟩ := open_int Tryz.underlying3 (hval 4 3 v4 rfl rfl) h4
  obtain ⟨a5, rfl, rfl, rfl, w5⟩ := open_int Tryz.underlying3 (hval 5 3 v5 rfl rfl) h5
  refine (walk a0 z0 a1 z1 a2 z2 a3 z3 a4 (bounds_i64 w4) a5 (bounds_i64 w5) W (round_laid hL)).mono fun e W' ⟨he, hg⟩ => ?_
  subst he
  have hts : ∀ t ∈ Tryz.f4.params.toList, Tryz.prog.readableRec t = true ∧ t < Tryz.prog.types.size := by
    rw [Tryz.params4]
    intro t ht
    simp only [List.mem_cons, List.not_mem_nil, or_false] at ht
    rcases ht with rfl | rfl | rfl | rfl | rfl | rfl <;> exact ⟨by kernel_rfl, of_decide_eq_true (by kernel_rfl)⟩
  exact ⟨_, rfl, post_true lay hts (by kernel_rfl) Tryz.underlying4 rfl rfl hW' hg⟩

theorem row_holds : Rows.SealTagsSaid :=
  OpenClaim.holds_of_wide 4 Tryz.f4 rfl rfl rfl rfl rfl rfl rfl ⟨rfl, rfl, rfl, rfl, rfl⟩ rfl rfl rfl rfl rfl (by kernel_rfl) Tryz.func4 (by kernel_rfl)
    (of_decide_eq_true (by kernel_rfl)) (by unfold Func.isWrapper; first | (rw [if_pos (by decide +kernel)]; kernel_rfl) | (rw [if_neg (by decide +kernel)]; exact ⟨rfl, rfl⟩))
    (fun os started H enc _ => lifted os started H enc)

theorem proved : Rows.SealTagsCardSaid :=
  Claim7.holds_tied_plain_at .later [] [.data] true Rows.sealTagsCard.stood.harness Rows.sealTagsCard.stood.looks
    row_holds (fun _ h => by cases h) (by kernel_rfl) (fun _ h => by cases h) sealTags_row_tie rfl ⟨rfl, rfl⟩ (by kernel_rfl) rfl
    (fun f fn hf hfn => by
      obtain rfl : f = 4 := Option.some.inj ((show Tryz.prog.funcNamed "columbarium/columbariumlaw06.SealTags" = some 4 by kernel_rfl).symm.trans hf) |>.symm
      obtain rfl : fn = Tryz.f4 := (Option.some.inj (Tryz.func4.symm.trans hfn)).symm
      exact ⟨by kernel_rfl, fun j t ht => by
        rw [Tryz.params4] at ht
        have hm : t ∈ [9, 9, 9, 9, 3, 3] := by simpa using Array.mem_of_getElem? ht
        have hall : ([9, 9, 9, 9, 3, 3].all fun u => !Tryz.prog.wantsStandIn u) = true := by kernel_rfl
        exact (show Tryz.prog.wantsStandIn t = false by simpa using List.all_eq_true.1 hall t hm)⟩)
    (by kernel_rfl)
#print axioms proved

end Go.Proofs.YtmgoeipmgclbkaaGreatDoor.sealTags
