/-
  Several texts in one: SeaK.
-/
import Derived.Test.YtmgoeipmgclbkaaGreatDoorSeaHK

/-
  law06's awake: two values that are computed.
-/
namespace Go.Proofs.YtmgoeipmgclbkaaGreatDoor
open Go.RowKit

/-- awake's key and nonce. -/
def Seal.aKey : ByteArray := keyOf ⟨#[107, 101, 121]⟩ true
def Seal.aNonce : ByteArray := chunkOf ⟨#[110, 111, 110, 99, 101]⟩

set_option maxRecDepth 100000 in
theorem awake6_keys : Seal.k1 Seal.aKey ≠ Seal.k2 Seal.aKey := by decide +kernel

/-- The box that awake bends. -/
def Seal.bent : ByteArray := (Seal.box Seal.aKey Seal.aNonce ⟨#[]⟩ ⟨#[]⟩).extract 0 15 ++ ⟨#[120, 120]⟩

set_option maxRecDepth 100000 in
theorem awake6_tag : Seal.tag (Seal.k2 Seal.aKey) Seal.aNonce ⟨#[]⟩ (Seal.bent.extract 0 1) ≠ Seal.bent.extract 1 17 := by decide +kernel

end Go.Proofs.YtmgoeipmgclbkaaGreatDoor
