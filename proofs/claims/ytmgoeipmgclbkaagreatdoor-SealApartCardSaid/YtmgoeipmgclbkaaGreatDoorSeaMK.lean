/-
  Several texts in one: SeaM.
-/
import Derived.Test.YtmgoeipmgclbkaaGreatDoorSeaLK

/-
  law06's awake.
-/
namespace Go.Proofs.YtmgoeipmgclbkaaGreatDoor
open Go.RowKit

theorem texts_ne {a b : ByteArray} (h : a ≠ b) : (a.toList == b.toList) = false := by rw [texts_beq]; exact decide_eq_false h

theorem awake6_short (k n : ByteArray) : Seal.opens k n ⟨#[]⟩ ⟨#[115, 104, 111, 114, 116]⟩ = (⟨#[]⟩, 10) := by
  unfold Seal.opens
  rw [if_pos (by decide)]
theorem Seal.bent_size : Seal.bent.size = 17 := by
  unfold Seal.bent
  rw [ByteArray.size_append, ByteArray.size_extract, Seal.box_size]
  decide
theorem awake6_bent : Seal.opens Seal.aKey Seal.aNonce ⟨#[]⟩ Seal.bent = (⟨#[]⟩, 11) := by
  unfold Seal.opens
  rw [Seal.bent_size, if_neg (by decide), if_neg awake6_tag]

set_option maxRecDepth 100000 in
set_option maxHeartbeats 4000000 in
theorem awake6_any (w : World) (hR : Sha.RoundIn w) : Calls Tryz.prog 7 #[] w fun e w' => e = .returned (.bool true) ∧ Below w.heap.size w w' := by
  have hks : Seal.aKey.size = 32 := keyOf_size _ true
  have hns : Seal.aNonce.size = 16 := chunkOf_size _
  have hKey := Key_any ⟨#[107, 101, 121]⟩ true (by decide)
  have hCh := Chunk_any ⟨#[110, 111, 110, 99, 101]⟩ (by decide)
  rw [show keyOf ⟨#[107, 101, 121]⟩ true = Seal.aKey from rfl] at hKey
  rw [show chunkOf ⟨#[110, 111, 110, 99, 101]⟩ = Seal.aNonce from rfl] at hCh
  have hz0 : (⟨#[]⟩ : ByteArray).size ≤ 4096 := by decide
  have hz1 : (⟨#[]⟩ : ByteArray).size ≤ 65536 := by decide
  have hS := fun w hR => Seal_all Seal.aKey Seal.aNonce ⟨#[]⟩ ⟨#[]⟩ hks hns hz0 hz1 w hR
  have hbs : (Seal.box Seal.aKey Seal.aNonce ⟨#[]⟩ ⟨#[]⟩).size = 16 := Seal.box_size _ _ _ _
  have hO := fun w hR => Open_all Seal.aKey Seal.aNonce ⟨#[]⟩ (Seal.box Seal.aKey Seal.aNonce ⟨#[]⟩ ⟨#[]⟩) hks hns hz0 (by rw [hbs]; decide) w hR
  rw [Seal.opens_box] at hO
  have hK := fun w hR => sealKeys_all Seal.aKey hks w hR
  have hO2 := fun w hR => Open_all Seal.aKey Seal.aNonce ⟨#[]⟩ ⟨#[115, 104, 111, 114, 116]⟩ hks hns hz0 (by decide) w hR
  rw [awake6_short] at hO2
  have hO3 := fun w hR => Open_all Seal.aKey Seal.aNonce ⟨#[]⟩ Seal.bent hks hns hz0 (by rw [Seal.bent_size]; decide) w hR
  rw [awake6_bent] at hO3
  have hS2 := fun w => Seal_none_all ⟨#[107, 101, 121]⟩ Seal.aNonce ⟨#[]⟩ ⟨#[]⟩ (by decide) w
  have hcd := texts_ne awake6_keys
  have hc := Seal.k1_size Seal.aKey
  have hd := Seal.k2_size Seal.aKey
  have hB : (Seal.box Seal.aKey Seal.aNonce ⟨#[]⟩ ⟨#[]⟩).extract 0 15 ++ ⟨#[120, 120]⟩ = Seal.bent := rfl
  have hadd : ∀ W, (Op.stringOp .add ((Seal.box Seal.aKey Seal.aNonce ⟨#[]⟩ ⟨#[]⟩).extract 0 15) ⟨#[120, 120]⟩).run Tryz.prog W = .ok (.string Seal.bent) W := fun W => by
    rw [← hB]
    exact run_string_add_sum W _ _ (by rw [ByteArray.size_extract, hbs]; decide)
  have iA : ((Seal.box Seal.aKey Seal.aNonce ⟨#[]⟩ ⟨#[]⟩).size : Int) = 16 := by rw [hbs]; rfl
  have iC : ((Seal.k1 Seal.aKey).size : Int) = 32 := by rw [hc]; rfl
  have iD : ((Seal.k2 Seal.aKey).size : Int) = 32 := by rw [hd]; rfl
  clear hB hbs hc hd hks hns hz0 hz1
  have hmn : min (16 : Int) 15 = 15 := by decide
  generalize Seal.box Seal.aKey Seal.aNonce ⟨#[]⟩ ⟨#[]⟩ = A at *
  generalize Seal.bent = B at *
  generalize Seal.k1 Seal.aKey = c at *
  generalize Seal.k2 Seal.aKey = d at *
  generalize Seal.aKey = k at *
  generalize Seal.aNonce = n at *
  have HKey := Lib.hid hKey
  have HCh := Lib.hid hCh
  have HS := Lib.hid hS
  have HO := Lib.hid hO
  have HK := Lib.hid hK
  have HO2 := Lib.hid hO2
  have HO3 := Lib.hid hO3
  have HS2 := Lib.hid hS2
  have HR := Lib.hid hR
  clear hKey hCh hS hO hK hO2 hO3 hS2 hR
  go_enter Tryz.func7, Tryz.ntmps7
  go_wp2_with fail
  refine (HKey.out _).mono ?_
  rintro e w1 ⟨rfl, hb1⟩
  have Hb1 := Lib.hid hb1
  clear hb1 HKey
  go_wp2_with fail
  refine (HCh.out _).mono ?_
  rintro e w2 ⟨rfl, hb2⟩
  have Hb2 := Lib.hid (below_seq Hb1.out hb2)
  clear hb2 HCh Hb1
  go_wp2_with fail
  refine (HS.out _ (HR.out.below Hb2.out)).mono ?_
  rintro e w3 ⟨rfl, hb3⟩
  have Hb3 := Lib.hid (below_seq Hb2.out hb3)
  clear hb3 HS Hb2
  go_wp2_with fail
  refine (HO.out _ (HR.out.below Hb3.out)).mono ?_
  rintro e w4 ⟨rfl, hb4⟩
  have Hb4 := Lib.hid (below_seq Hb3.out hb4)
  clear hb4 HO Hb3
  go_wp2_with fail
  refine (HK.out _ (HR.out.below Hb4.out)).mono ?_
  rintro e w5 ⟨rfl, hb5⟩
  have Hb5 := Lib.hid (below_seq Hb4.out hb5)
  clear hb5 HK Hb4
  go_wp2_with fail
  refine (HO2.out _ (HR.out.below Hb5.out)).mono ?_
  rintro e w6 ⟨rfl, hb6⟩
  have Hb6 := Lib.hid (below_seq Hb5.out hb6)
  clear hb6 HO2 Hb5
  go_wp2_with fail
  refine (HO3.out _ (HR.out.below Hb6.out)).mono ?_
  rintro e w7 ⟨rfl, hb7⟩
  have Hb7 := Lib.hid (below_seq Hb6.out hb7)
  clear hb7 HO3 Hb6
  go_wp2_with fail
  refine (HS2.out _).mono ?_
  rintro e w8 ⟨rfl, hb8⟩
  have Hb8 := Lib.hid (below_seq Hb7.out hb8)
  clear hb8 HS2 Hb7
  go_wp2
  go_ret
  exact ⟨rfl, Hb8.out⟩

end Go.Proofs.YtmgoeipmgclbkaaGreatDoor
