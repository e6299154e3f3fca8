/-
  Several texts in one: LawSealStreams.
-/
import Derived.Test.YtmgoeipmgclbkaaGreatDoorSeaMK
import Derived.Test.YtmgoeipmgclbkaaGreatDoorLaidK
import Derived.Deep.CutRange
import Derived.Deep.RegionWith

/- For every key, nonce and two texts the law SealStreams of layer 6 answers true and leaves its arguments as they were. Condition: the words of SHA-256's rounds are laid as the program's text lays them (the tied card). -/
namespace Go.Proofs.YtmgoeipmgclbkaaGreatDoor.sealStreams
open Go.ChangeShapes Go.WideShapes Go.ChangeAt Go.RowKit

/-- A byte of the one, put together with a byte of the other. -/
theorem sum_bytes (a b k : Nat) : (a ^^^ k) ^^^ (b ^^^ k) = a ^^^ b := by
  rw [Nat.xor_assoc, Nat.xor_comm b k, ← Nat.xor_assoc k k b, Nat.xor_self, Nat.zero_xor]

/-- Where the loop stands. -/
def SumAt (w : World) (n : Nat) (vi : Value) (wr : World) : Prop := ∃ i : Nat, i ≤ n ∧ vi = .int .i64 (i : Int) ∧ Below w.heap.size w wr

theorem box_byte (k c V X : ByteArray) (hk : k.size = 32) {i : Nat} (hi : i < X.size) : (bytesOf (Seal.box k c V X)).getD i 0 = (bytesOf X).getD i 0 ^^^ (Str.of (Seal.k1 k) c X.size).getD i 0 := by
  have _ := hk
  unfold Seal.box
  rw [bytesOf_append]
  have hl : (bytesOf (Seal.mix (Seal.k1 k) c X)).length = X.size := by rw [bytesOf_length, Seal.mix_size]
  have h1 : (bytesOf (Seal.mix (Seal.k1 k) c X) ++ bytesOf (Seal.tag (Seal.k2 k) c V (Seal.mix (Seal.k1 k) c X))).getD i 0 = (bytesOf (Seal.mix (Seal.k1 k) c X)).getD i 0 := by
    simp only [List.getD_eq_getElem?_getD]
    rw [List.getElem?_append_left (by omega)]
  rw [h1]
  unfold Seal.mix
  rw [bytesOf_strOf (Str.xor_all (bytesOf_all X) (Str.of_all (n := 8) (Seal.k1_size k) c _)), Str.xor_get _ _ (by rw [bytesOf_length]; exact hi)]

set_option maxRecDepth 100000 in
set_option maxHeartbeats 4000000 in
theorem walk (key : ByteArray) (hkey : key.size ≤ 140737488351232) (nonce : ByteArray) (hnonce : nonce.size ≤ 140737488351232) (one : ByteArray) (hone : one.size ≤ 140737488351232) (two : ByteArray) (htwo : two.size ≤ 140737488351232) (w : World) (hR : Sha.RoundIn w) :
    Calls Tryz.prog 5 #[.string key, .string nonce, .string one, .string two] w fun e w' => e = .returned (.bool true) ∧ Below w.heap.size w w' := by
  obtain ⟨L, hL1, hL2, hL3⟩ : ∃ L : Nat, min (one.size : Int) 200 = (L : Int) ∧ L ≤ one.size ∧ L ≤ 200 := ⟨min one.size 200, by omega, by omega, by omega⟩
  have sX := fun W => sl_hi one (L : Int) L rfl hL2 W
  have hXs : (one.extract 0 L).size = L := by rw [ByteArray.size_extract]; omega
  generalize one.extract 0 L = X at *
  obtain ⟨M, hM1, hM2, hM3⟩ : ∃ M : Nat, min (two.size : Int) 200 = (M : Int) ∧ M ≤ two.size ∧ M ≤ 200 := ⟨min two.size 200, by omega, by omega, by omega⟩
  have sY := fun W => sl_hi two (M : Int) M rfl hM2 W
  have hYs : (two.extract 0 M).size = M := by rw [ByteArray.size_extract]; omega
  generalize two.extract 0 M = Y at *
  have hK := fun w => Key_any key true hkey w
  have hC := fun w => Chunk_any nonce hnonce w
  have hks : (keyOf key true).size = 32 := keyOf_size key true
  have hcs := chunkOf_size nonce
  generalize keyOf key true = k at *
  generalize chunkOf nonce = c at *
  have hS := fun w hR => Seal_all k c ⟨#[111, 110, 101]⟩ X hks hcs (by decide) (by omega) w hR
  have hT := fun w hR => Seal_all k c ⟨#[116, 119, 111]⟩ Y hks hcs (by decide) (by omega) w hR
  have hA := Seal.box_size k c ⟨#[111, 110, 101]⟩ X
  have hB := Seal.box_size k c ⟨#[116, 119, 111]⟩ Y
  have hall : ∀ i, i < L → i < M → ∃ x y z : Nat, x < 256 ∧ y < 256 ∧ z < 256 ∧ (bytesOf X).getD i 0 = x ∧ (bytesOf Y).getD i 0 = y ∧
      (bytesOf (Seal.box k c ⟨#[111, 110, 101]⟩ X)).getD i 0 = x ^^^ z ∧ (bytesOf (Seal.box k c ⟨#[116, 119, 111]⟩ Y)).getD i 0 = y ^^^ z := by
    intro i h1 h2
    refine ⟨_, _, (Str.of (Seal.k1 k) c X.size).getD i 0, bytesOf_all X i, bytesOf_all Y i, Str.of_all (n := 8) (Seal.k1_size k) c _ i, rfl, rfl, ?_, ?_⟩
    · exact box_byte k c _ X hks (by omega)
    · rw [box_byte k c _ Y hks (by omega), Str.of_at (Seal.k1 k) c (m := Y.size) (n := X.size) (by omega) (by omega)]
  generalize Seal.box k c ⟨#[111, 110, 101]⟩ X = A at *
  generalize Seal.box k c ⟨#[116, 119, 111]⟩ Y = B at *
  have iXs : (X.size : Int) = (L : Int) := by omega
  have iYs : (Y.size : Int) = (M : Int) := by omega
  have iAs : (A.size : Int) = (L : Int) + 16 := by omega
  have iBs : (B.size : Int) = (M : Int) + 16 := by omega
  have HK := Lib.hid hK
  have HC := Lib.hid hC
  have HS := Lib.hid hS
  have HT := Lib.hid hT
  have HR := Lib.hid hR
  have Hall := Lib.hid hall
  clear hK hC hS hT hR hall
  clear hks hcs hkey hnonce
  go_enter Tryz.func5, Tryz.ntmps5
  go_wp2_with fail
  refine (awake6_any _ HR.out).mono ?_
  rintro e w1 ⟨rfl, hb1⟩
  have Hb1 := Lib.hid hb1
  clear hb1
  go_wp2_with fail
  refine (HK.out _).mono ?_
  rintro e w2 ⟨rfl, hb2⟩
  have Hb2 := Lib.hid (below_seq Hb1.out hb2)
  clear hb2 HK Hb1
  go_wp2_with fail
  refine (HC.out _).mono ?_
  rintro e w3 ⟨rfl, hb3⟩
  have Hb3 := Lib.hid (below_seq Hb2.out hb3)
  clear hb3 HC Hb2
  go_wp2_with fail
  refine (HS.out _ (HR.out.below Hb3.out)).mono ?_
  rintro e w4 ⟨rfl, hb4⟩
  have Hb4 := Lib.hid (below_seq Hb3.out hb4)
  clear hb4 HS Hb3
  go_wp2_with fail
  refine (HT.out _ (HR.out.below Hb4.out)).mono ?_
  rintro e w5 ⟨rfl, hb5⟩
  have Hb5 := Lib.hid (below_seq Hb4.out hb5)
  clear hb5 HT Hb4
  have Hst : Hid (SumAt w (min L M) (.int .i64 0) w5) := Lib.hid ⟨0, Nat.zero_le _, rfl, Hb5.out⟩
  clear Hb5 HR
  go_wp2
  go_loopw [18] (fun vi wr => SumAt w (min L M) vi wr) (fun vi _ => min L M - (intOf vi).toNat)
  case atStart => exact Hst.out
  case round =>
    clear Hst
    obtain ⟨i, hi, rfl, hB⟩ := hrel
    have HB := Lib.hid hB
    clear hB
    by_cases h1 : i < L
    · by_cases h2 : i < M
      · obtain ⟨x, y, z, hx, hy, hz, ex, ey, ea, eb⟩ := Hall.out i h1 h2
        have ix := fun W => idx_string X (i : Int) i rfl (by omega) W
        have iy := fun W => idx_string Y (i : Int) i rfl (by omega) W
        have ia := fun W => idx_string A (i : Int) i rfl (by omega) W
        have ib := fun W => idx_string B (i : Int) i rfl (by omega) W
        rw [ex] at ix
        rw [ey] at iy
        rw [ea] at ia
        rw [eb] at ib
        have xab := u8_xor_nat (x ^^^ z) (y ^^^ z) (Nat.xor_lt_two_pow (n := 8) hx hz) (Nat.xor_lt_two_pow (n := 8) hy hz)
        rw [sum_bytes] at xab
        have xxy := u8_xor_nat x y hx hy
        have g1 : (i : Int) < (L : Int) := by omega
        have g2 : (i : Int) < (M : Int) := by omega
        have Hnx : Hid (SumAt w (min L M) (.int .i64 ((i : Int) + 1)) wr.drew) := Lib.hid ⟨i + 1, by omega, rfl, HB.out.drew⟩
        clear ex ey ea eb hx hy hz hi h1 h2 hA hB hXs hYs
        generalize x ^^^ z = p at *
        generalize y ^^^ z = q at *
        generalize x ^^^ y = r at *
        go_wp2
        go_region
        all_goals
          go_wp2
          go_roundw
          case rel => exact Hnx.out
          case measure => simp [intOf]; omega
      · have g1 : (i : Int) < (L : Int) := by omega
        have g2 : ¬ (i : Int) < (M : Int) := by omega
        go_wp2
        go_ret
        exact ⟨rfl, HB.out⟩
    · have g1 : ¬ (i : Int) < (L : Int) := by omega
      go_wp2
      go_ret
      exact ⟨rfl, HB.out⟩

set_option maxRecDepth 100000 in
theorem lifted (os : Os) (started : os.Started) (H : Type) (enc : TypeId × Value → H) :
    ReturnsInHanded {} Tryz.checked os 5 .any (fun w args => (Rows.sealStreamsSpec.pre enc Tryz.prog Tryz.f5 [] false w args ∧ laidMetH Tryz.prog laidOnes w) ∧ sizedMet enc Tryz.prog Tryz.f5 (OpenSpec.ofChange Rows.sealStreamsSpec) false w args) (Rows.sealStreamsSpec.post enc Tryz.prog Tryz.f5 false true false false) := by
  refine returnsInHanded_of_change_and (C := Tryz.checked) (X := fun w _ => laidMetH Tryz.prog laidOnes w) (fun _ _ _ hh h => h.of_heap hh) own started (by kernel_rfl) Tryz.func5
    (ChangeSpec.witness_shaped (enc := enc) (C := Tryz.checked) (os := os) (X := fun w _ => laidMetH Tryz.prog laidOnes w) false (World.doorLaid Tryz.prog 14 os) #[.string ⟨#[]⟩, .string ⟨#[]⟩, .string ⟨#[]⟩, .string ⟨#[]⟩] 8 rfl (World.shaped_of_RefB (by kernel_rfl) (by kernel_rfl)) (by kernel_rfl) (by kernel_rfl) (by kernel_rfl) (door_met os _)) ?_
  intro W base args ds gs before hval0 hW _ hsz0 hL _
  have hval : ∀ (j : Nat) t v, Tryz.f5.params[j]? = some t → args[j]? = some v → Value.okWide Tryz.prog W .any base t v := hval0
  have hsz : (DataW.weightsEach Tryz.prog (Tryz.f5.params.toList ++ Rows.sealStreamsSpec.plain.varTypes Tryz.prog) (ds ++ gs)).all (· ≤ reachBytes) = true := hsz0
  have hW' := hW
  obtain ⟨p, q, hA0, hV, rfl, hfz, hnd⟩ := hW
  have hA : DataW.TrodAll enc Tryz.prog W 0 (fun _ => true) true Tryz.f5.params.toList args.toList ds p := hA0
  rw [Tryz.params5] at hA hval hsz
  obtain ⟨v0, vs0, d0, ds0, p0, q0, hargs, rfl, rfl, h0, r0⟩ := trodAll_cons hA
  obtain ⟨v1, vs1, d1, ds1, p1, q1, rfl, rfl, rfl, h1, r1⟩ := trodAll_cons r0
  obtain ⟨v2, vs2, d2, ds2, p2, q2, rfl, rfl, rfl, h2, r2⟩ := trodAll_cons r1
  obtain ⟨v3, vs3, d3, ds3, p3, q3, rfl, rfl, rfl, h3, r3⟩ := trodAll_cons r2
  obtain ⟨rfl, rfl, rfl⟩ := trodAll_nil r3
  obtain rfl : args = #[v0, v1, v2, v3] := by cases args; simp_all
  obtain ⟨rfl, rfl⟩ := trodVars_none hV
  obtain ⟨a0, rfl, rfl, rfl, w0⟩ := ChangeMaps.open_string Tryz.underlying9 (hval 0 9 v0 rfl rfl) h0
  have z0 : a0.size ≤ 140737488351232 := sized_string hsz (j := 0) rfl rfl
  obtain ⟨a1, rfl, rfl, rfl, w1⟩ := ChangeMaps.open_string Tryz.underlying9 (hval 1 9 v1 rfl rfl) h1
  have z1 : a1.size ≤ 140737488351232 := sized_string hsz (j := 1) rfl rfl
  obtain ⟨a2, rfl, rfl, rfl, w2⟩ := ChangeMaps.open_string Tryz.underlying9 (hval 2 9 v2 rfl rfl) h2
  have z2 : a2.size ≤ 140737488351232 := sized_string hsz (j := 2) rfl rfl
  obtain ⟨a3, rfl, rfl, rfl, w3⟩ := ChangeMaps.open_string Tryz.underlying9 (hval 3 9 v3 rfl rfl) h3
  have z3 : a3.size ≤ 140737488351232 := sized_string hsz (j := 3) rfl rfl
  refine (walk a0 z0 a1 z1 a2 z2 a3 z3 W (round_laid hL)).mono fun e W' ⟨he, hg⟩ => ?_
  subst he
  have hts : ∀ t ∈ Tryz.f5.params.toList, Tryz.prog.readableRec t = true ∧ t < Tryz.prog.types.size := by
    rw [Tryz.params5]
    intro t ht
    simp only [List.mem_cons, List.not_mem_nil, or_false] at ht
    rcases ht with rfl | rfl | rfl | rfl <;> exact ⟨by kernel_rfl, of_decide_eq_true (by kernel_rfl)⟩
  exact ⟨_, rfl, post_true lay hts (by kernel_rfl) Tryz.underlying4 rfl rfl hW' hg⟩

theorem row_holds : Rows.SealStreamsSaid :=
  OpenClaim.holds_of_wide 5 Tryz.f5 rfl rfl rfl rfl rfl rfl rfl ⟨rfl, rfl, rfl, rfl, rfl⟩ rfl rfl rfl rfl rfl (by kernel_rfl) Tryz.func5 (by kernel_rfl)
    (of_decide_eq_true (by kernel_rfl)) (by unfold Func.isWrapper; first | (rw [if_pos (by decide +kernel)]; kernel_rfl) | (rw [if_neg (by decide +kernel)]; exact ⟨rfl, rfl⟩))
    (fun os started H enc _ => lifted os started H enc)

theorem proved : Rows.SealStreamsCardSaid :=
  Claim7.holds_tied_plain_at .later [] [.data] true Rows.sealStreamsCard.stood.harness Rows.sealStreamsCard.stood.looks
    row_holds (fun _ h => by cases h) (by kernel_rfl) (fun _ h => by cases h) sealStreams_row_tie rfl ⟨rfl, rfl⟩ (by kernel_rfl) rfl
    (fun f fn hf hfn => by
      obtain rfl : f = 5 := Option.some.inj ((show Tryz.prog.funcNamed "columbarium/columbariumlaw06.SealStreams" = some 5 by kernel_rfl).symm.trans hf) |>.symm
      obtain rfl : fn = Tryz.f5 := (Option.some.inj (Tryz.func5.symm.trans hfn)).symm
      exact ⟨by kernel_rfl, fun j t ht => by
        rw [Tryz.params5] at ht
        have hm : t ∈ [9, 9, 9, 9] := by simpa using Array.mem_of_getElem? ht
        have hall : ([9, 9, 9, 9].all fun u => !Tryz.prog.wantsStandIn u) = true := by kernel_rfl
        exact (show Tryz.prog.wantsStandIn t = false by simpa using List.all_eq_true.1 hall t hm)⟩)
    (by kernel_rfl)
#print axioms proved

end Go.Proofs.YtmgoeipmgclbkaaGreatDoor.sealStreams
