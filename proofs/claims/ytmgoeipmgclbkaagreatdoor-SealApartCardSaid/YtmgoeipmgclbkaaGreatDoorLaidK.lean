/-
  Several texts in one: Laid.
-/
import Derived.Test.YtmgoeipmgclbkaaGreatDoorSeaLK
import Derived.Test.YtmgoeipmgclbkaaGreatDoorGG
import Derived.Test.YtmgoeipmgclbkaaGreatDoorTie
import Derived.Test.YtmgoeipmgclbkaaGreatDoorCards
import Derived.Lib.LaidTab
import Derived.LaidMore
import Derived.MakeChecks
import Derived.SevenTiedAt

/-
  What the rows of a tied card share: the words of SHA-256's rounds, laid; a world that meets the premise.
-/
namespace Go.Proofs.YtmgoeipmgclbkaaGreatDoor
open Go.ChangeShapes Go.WideShapes Go.ChangeAt Go.RowKit

/-- What the rows list. -/
abbrev laidOnes : List (String × DataW Unit) := [("columbarium/digest.round", Rows.laid_columbarium_digest_round)]
theorem round_laid {W : World} (h : laidMetH Tryz.prog laidOnes W) : Sha.RoundIn W := by
  rw [MakeChecks.laidMetH_plain _ _ _ (by kernel_rfl)] at h
  exact Sha.round_in (Lib.tabIs_of_head (g := 0) (t := 127) (e := 83) (n := 64) (rest := []) (by kernel_rfl) (by kernel_rfl) Tryz.underlying127 Tryz.underlying83 (by kernel_rfl) (by kernel_rfl) h)
theorem door_met (os : Os) (args : Array Value) : laidMetH Tryz.prog laidOnes ((World.doorLaid Tryz.prog 14 os).forCall (fun _ _ => 0) ⟨#[], args, []⟩).memory :=
  laidMetH_of_parts3 (fuel := 8) (laidMet_of_run' 8 (by kernel_rfl) (by kernel_rfl)) (by kernel_rfl) (by kernel_rfl)
theorem door_shaped (os : Os) (args : Array Value) : ((World.doorLaid Tryz.prog 14 os).forCall (fun _ _ => 0) ⟨#[], args, []⟩).Shaped Tryz.prog := World.shaped_of_RefB (by kernel_rfl) (by kernel_rfl)
theorem own : ownKnob Tryz.prog.godebug = none := by kernel_rfl
theorem lay : laidOutB Tryz.prog = true := by kernel_rfl

end Go.Proofs.YtmgoeipmgclbkaaGreatDoor
