/-
  Several texts in one: LawSealApart.
-/
import Derived.Test.YtmgoeipmgclbkaaGreatDoorSeaMK
import Derived.Test.YtmgoeipmgclbkaaGreatDoorLaidK
import Derived.Deep.CutRange
import Derived.Deep.RegionWith

/- For every key, nonce, two texts along and a text the law SealApart of layer 6 answers true and leaves its arguments as they were. Condition: the words of SHA-256's rounds are laid as the program's text lays them (the tied card). -/
namespace Go.Proofs.YtmgoeipmgclbkaaGreatDoor.sealApart
open Go.ChangeShapes Go.WideShapes Go.ChangeAt Go.RowKit

theorem box_same {k c V X : ByteArray} (W : ByteArray) {M : Nat} (h : X.size = M) : (Seal.box k c V X).extract 0 M = (Seal.box k c W X).extract 0 M := by
  have h1 := Seal.box_lo (key := k) c V X
  have h2 := Seal.box_lo (key := k) c W X
  rw [Seal.box_size, Nat.add_sub_cancel, h] at h1 h2
  rw [h1, h2]

set_option maxRecDepth 100000 in
set_option maxHeartbeats 4000000 in
theorem walk (key : ByteArray) (hkey : key.size ≤ 140737488351232) (nonce : ByteArray) (hnonce : nonce.size ≤ 140737488351232) (one : ByteArray) (hone : one.size ≤ 140737488351232) (two : ByteArray) (htwo : two.size ≤ 140737488351232) (text : ByteArray) (htext : text.size ≤ 140737488351232) (w : World) (hR : Sha.RoundIn w) :
    Calls Tryz.prog 6 #[.string key, .string nonce, .string one, .string two, .string text] w fun e w' => e = .returned (.bool true) ∧ Below w.heap.size w w' := by
  obtain ⟨M, hM1, hM2, hM3⟩ : ∃ M : Nat, min (text.size : Int) 100 = (M : Int) ∧ M ≤ text.size ∧ M ≤ 100 := ⟨min text.size 100, by omega, by omega, by omega⟩
  have sX := fun W => sl_hi text (M : Int) M rfl hM2 W
  have hXs : (text.extract 0 M).size = M := by rw [ByteArray.size_extract]; omega
  generalize text.extract 0 M = X at *
  have hK := fun w => Key_any key true hkey w
  have hC := fun w => Chunk_any nonce hnonce w
  have hks : (keyOf key true).size = 32 := keyOf_size key true
  have hcs := chunkOf_size nonce
  generalize keyOf key true = k at *
  generalize chunkOf nonce = c at *
  obtain ⟨L, hL1, hL2, hL3⟩ : ∃ L : Nat, min (one.size : Int) 100 = (L : Int) ∧ L ≤ one.size ∧ L ≤ 100 := ⟨min one.size 100, by omega, by omega, by omega⟩
  obtain ⟨N, hN1, hN2, hN3⟩ : ∃ N : Nat, min (two.size : Int) 100 = (N : Int) ∧ N ≤ two.size ∧ N ≤ 100 := ⟨min two.size 100, by omega, by omega, by omega⟩
  have sV := fun W => sl_hi one (L : Int) L rfl hL2 W
  have sU := fun W => sl_hi two (N : Int) N rfl hN2 W
  have hVs : (one.extract 0 L).size = L := by rw [ByteArray.size_extract]; omega
  have hUs : (two.extract 0 N).size = N := by rw [ByteArray.size_extract]; omega
  have hsame : one = two → one.extract 0 L = two.extract 0 N := by
    rintro rfl
    rw [show L = N by omega]
  generalize one.extract 0 L = V at *
  generalize two.extract 0 N = U at *
  have hS := fun w hR => Seal_all k c V X hks hcs (by omega) (by omega) w hR
  have hT := fun w hR => Seal_all k c U X hks hcs (by omega) (by omega) w hR
  have hA := Seal.box_size k c V X
  have hB := Seal.box_size k c U X
  have hAB := box_same (k := k) (c := c) (V := V) (X := X) U hXs
  have hsm : one = two → Seal.box k c V X = Seal.box k c U X := fun h => by rw [hsame h]
  have sA := fun W => sl_hi (Seal.box k c V X) (M : Int) M rfl (by omega) W
  have sB := fun W => sl_hi (Seal.box k c U X) (M : Int) M rfl (by omega) W
  rw [hAB] at sA
  clear hAB hsame
  generalize Seal.box k c V X = A at *
  generalize Seal.box k c U X = B at *
  generalize B.extract 0 M = D at *
  have iA : (A.size : Int) = (M : Int) + 16 := by omega
  have iB : (B.size : Int) = (M : Int) + 16 := by omega
  have iX : (X.size : Int) = (M : Int) := by omega
  have b1 := texts_beq one two
  have b2 := texts_beq A B
  have HK := Lib.hid hK
  have HC := Lib.hid hC
  have HS := Lib.hid hS
  have HT := Lib.hid hT
  have HR := Lib.hid hR
  clear hK hC hS hT hR
  clear hA hB hks hcs hVs hUs hXs hkey hnonce
  go_enter Tryz.func6, Tryz.ntmps6
  go_wp2_with fail
  refine (awake6_any _ HR.out).mono ?_
  rintro e w1 ⟨rfl, hb1⟩
  have Hb1 := Lib.hid hb1
  clear hb1
  go_wp2_with fail
  refine (HK.out _).mono ?_
  rintro e w2 ⟨rfl, hb2⟩
  have Hb2 := Lib.hid (below_seq Hb1.out hb2)
  clear hb2 HK Hb1
  go_wp2_with fail
  refine (HC.out _).mono ?_
  rintro e w3 ⟨rfl, hb3⟩
  have Hb3 := Lib.hid (below_seq Hb2.out hb3)
  clear hb3 HC Hb2
  go_wp2_with fail
  refine (HS.out _ (HR.out.below Hb3.out)).mono ?_
  rintro e w4 ⟨rfl, hb4⟩
  have Hb4 := Lib.hid (below_seq Hb3.out hb4)
  clear hb4 HS Hb3
  go_wp2_with fail
  refine (HT.out _ (HR.out.below Hb4.out)).mono ?_
  rintro e w5 ⟨rfl, hb5⟩
  have Hb5 := Lib.hid (below_seq Hb4.out hb5)
  clear hb5 HT Hb4
  by_cases h12 : one = two
  · have hab := hsm h12
    subst h12 hab
    clear hsm b1 b2
    go_wp2
    go_region
    all_goals
      go_wp2
      go_ret
      exact ⟨rfl, Hb5.out.drew⟩
  · rw [decide_eq_false h12] at b1
    clear hsm b2
    go_wp2
    go_region
    all_goals
      go_wp2
      go_ret
      exact ⟨rfl, Hb5.out.drew⟩

set_option maxRecDepth 100000 in
theorem lifted (os : Os) (started : os.Started) (H : Type) (enc : TypeId × Value → H) :
    ReturnsInHanded {} Tryz.checked os 6 .any (fun w args => (Rows.sealApartSpec.pre enc Tryz.prog Tryz.f6 [] false w args ∧ laidMetH Tryz.prog laidOnes w) ∧ sizedMet enc Tryz.prog Tryz.f6 (OpenSpec.ofChange Rows.sealApartSpec) false w args) (Rows.sealApartSpec.post enc Tryz.prog Tryz.f6 false true false false) := by
  refine returnsInHanded_of_change_and (C := Tryz.checked) (X := fun w _ => laidMetH Tryz.prog laidOnes w) (fun _ _ _ hh h => h.of_heap hh) own started (by kernel_rfl) Tryz.func6
    (ChangeSpec.witness_shaped (enc := enc) (C := Tryz.checked) (os := os) (X := fun w _ => laidMetH Tryz.prog laidOnes w) false (World.doorLaid Tryz.prog 14 os) #[.string ⟨#[]⟩, .string ⟨#[]⟩, .string ⟨#[]⟩, .string ⟨#[]⟩, .string ⟨#[]⟩] 8 rfl (World.shaped_of_RefB (by kernel_rfl) (by kernel_rfl)) (by kernel_rfl) (by kernel_rfl) (by kernel_rfl) (door_met os _)) ?_
  intro W base args ds gs before hval0 hW _ hsz0 hL _
  have hval : ∀ (j : Nat) t v, Tryz.f6.params[j]? = some t → args[j]? = some v → Value.okWide Tryz.prog W .any base t v := hval0
  have hsz : (DataW.weightsEach Tryz.prog (Tryz.f6.params.toList ++ Rows.sealApartSpec.plain.varTypes Tryz.prog) (ds ++ gs)).all (· ≤ reachBytes) = true := hsz0
  have hW' := hW
  obtain ⟨p, q, hA0, hV, rfl, hfz, hnd⟩ := hW
  have hA : DataW.TrodAll enc Tryz.prog W 0 (fun _ => true) true Tryz.f6.params.toList args.toList ds p := hA0
  rw [Tryz.params6] at hA hval hsz
  obtain ⟨v0, vs0, d0, ds0, p0, q0, hargs, rfl, rfl, h0, r0⟩ := trodAll_cons hA
  obtain ⟨v1, vs1, d1, ds1, p1, q1, rfl, rfl, rfl, h1, r1⟩ := trodAll_cons r0
  obtain ⟨v2, vs2, d2, ds2, p2, q2, rfl, rfl, rfl, h2, r2⟩ := trodAll_cons r1
  obtain ⟨v3, vs3, d3, ds3, p3, q3, rfl, rfl, rfl, h3, r3⟩ := trodAll_cons r2
  obtain ⟨v4, vs4, d4, ds4, p4, q4, rfl, rfl, rfl, h4, r4⟩ := trodAll_cons r3
  obtain ⟨rfl, rfl, rfl⟩ := trodAll_nil r4
  obtain rfl : args = #[v0, v1, v2, v3, v4] := by cases args; simp_all
  obtain ⟨rfl, rfl⟩ := trodVars_none hV
  obtain ⟨a0, rfl, rfl, rfl, w0⟩ := ChangeMaps.open_string Tryz.underlying9 (hval 0 9 v0 rfl rfl) h0
  have z0 : a0.size ≤ 140737488351232 := sized_string hsz (j := 0) rfl rfl
  obtain ⟨a1, rfl, rfl, rfl, w1⟩ := ChangeMaps.open_string Tryz.underlying9 (hval 1 9 v1 rfl rfl) h1
  have z1 : a1.size ≤ 140737488351232 := sized_string hsz (j := 1) rfl rfl
  obtain ⟨a2, rfl, rfl, rfl, w2⟩ := ChangeMaps.open_string Tryz.underlying9 (hval 2 9 v2 rfl rfl) h2
  have z2 : a2.size ≤ 140737488351232 := sized_string hsz (j := 2) rfl rfl
  obtain ⟨a3, rfl, rfl, rfl, w3⟩ := ChangeMaps.open_string Tryz.underlying9 (hval 3 9 v3 rfl rfl) h3
  have z3 : a3.size ≤ 140737488351232 := sized_string hsz (j := 3) rfl rfl
  obtain ⟨a4, rfl, rfl, rfl, w4⟩ := ChangeMaps.open_string Tryz.underlying9 (hval 4 9 v4 rfl rfl) h4
  have z4 : a4.size ≤ 140737488351232 := sized_string hsz (j := 4) rfl rfl
  refine (walk a0 z0 a1 z1 a2 z2 a3 z3 a4 z4 W (round_laid hL)).mono fun e W' ⟨he, hg⟩ => ?_
  subst he
  have hts : ∀ t ∈ Tryz.f6.params.toList, Tryz.prog.readableRec t = true ∧ t < Tryz.prog.types.size := by
    rw [Tryz.params6]
    intro t ht
    simp only [List.mem_cons, List.not_mem_nil, or_false] at ht
    rcases ht with rfl | rfl | rfl | rfl | rfl <;> exact ⟨by kernel_rfl, of_decide_eq_true (by kernel_rfl)⟩
  exact ⟨_, rfl, post_true lay hts (by kernel_rfl) Tryz.underlying4 rfl rfl hW' hg⟩

theorem row_holds : Rows.SealApartSaid :=
  OpenClaim.holds_of_wide 6 Tryz.f6 rfl rfl rfl rfl rfl rfl rfl ⟨rfl, rfl, rfl, rfl, rfl⟩ rfl rfl rfl rfl rfl (by kernel_rfl) Tryz.func6 (by kernel_rfl)
    (of_decide_eq_true (by kernel_rfl)) (by unfold Func.isWrapper; first | (rw [if_pos (by decide +kernel)]; kernel_rfl) | (rw [if_neg (by decide +kernel)]; exact ⟨rfl, rfl⟩))
    (fun os started H enc _ => lifted os started H enc)

theorem proved : Rows.SealApartCardSaid :=
  Claim7.holds_tied_plain_at .later [] [.data] true Rows.sealApartCard.stood.harness Rows.sealApartCard.stood.looks
    row_holds (fun _ h => by cases h) (by kernel_rfl) (fun _ h => by cases h) sealApart_row_tie rfl ⟨rfl, rfl⟩ (by kernel_rfl) rfl
    (fun f fn hf hfn => by
      obtain rfl : f = 6 := Option.some.inj ((show Tryz.prog.funcNamed "columbarium/columbariumlaw06.SealApart" = some 6 by kernel_rfl).symm.trans hf) |>.symm
      obtain rfl : fn = Tryz.f6 := (Option.some.inj (Tryz.func6.symm.trans hfn)).symm
      exact ⟨by kernel_rfl, fun j t ht => by
        rw [Tryz.params6] at ht
        have hm : t ∈ [9, 9, 9, 9, 9] := by simpa using Array.mem_of_getElem? ht
        have hall : ([9, 9, 9, 9, 9].all fun u => !Tryz.prog.wantsStandIn u) = true := by kernel_rfl
        exact (show Tryz.prog.wantsStandIn t = false by simpa using List.all_eq_true.1 hall t hm)⟩)
    (by kernel_rfl)
#print axioms proved

end Go.Proofs.YtmgoeipmgclbkaaGreatDoor.sealApart
