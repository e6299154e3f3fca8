/-
  No cell of these rows narrows 'for every input' (looked for: loops, veiled, ifaces, maps, wideKeys, modest, calm, conditions, laid).
  DERIVED. THE GIVEN ROWS OF THIS SEAT. 9 by the template 'for every input the law returns true; each argument reads behind the call as it read before'; 0 by the template 'total and deterministic' (their statements: YtpnbkfboneabaaaGreatTotals.lean).
  GIVEN WITH THE SEED: the statements are not yours to turn. If you find one false, say at which input.
  Laid BY PROGRAM, IN A SANDBOX (cutbox-rows.mjs): the forced cells as the released guide's own fill.sh prints them over the translation 4ac4e8683343ba35… (all of the seat's roots in one cut). By AI agents, Wed Nov 11 2026. No macro, syntax, notation, axiom, sorry.
-/
import Derived.Test.YtpnbkfboneabaaaGreatChecked
import GoSem.Claim
import GoSem.ClaimJoined
import GoSem.ClaimMapViews
import Derived.JoinedTies
import Derived.KernelRfl
namespace Go.Proofs.YtpnbkfboneabaaaGreat
/- THE CELL 'sum', in the pinned program and in every row, IS THE sha256 OF THE DUMP (.gsa) THAT YtpnbkfboneabaaaGreatProg.lean LOADS. Nothing in Lean hashes anything: it is a label: what it is worth is what the hold of that sum in a sandbox is worth. -/
noncomputable def Tryz.pinned : Pinned := { name := "ytpnbkfboneabaaagreat", sum := "4ac4e8683343ba356ecaf1310891a46803753e11325e8bd143ad2274bb3bcdfb", checked := Tryz.checked }
namespace Rows
def none {H : Type} : Left H := { results := [], args := [] }

/-- 'columbariumlaw19.PlanTells': WHATEVER THE INPUT: true; the input reads as it did. -/
def planTellsSpec : ChangeSpec := { name := "planTells", fn := fun _ => fun
  | [d1, d2, d3, d4, d5, d6, d7, d8] => { results := [.lit (.bool true)], args := [d1, d2, d3, d4, d5, d6, d7, d8] }
  | _ => none }
def planTellsRow : OpenClaim := { program := "ytpnbkfboneabaaagreat", sum := "4ac4e8683343ba356ecaf1310891a46803753e11325e8bd143ad2274bb3bcdfb", func := "columbarium/columbariumlaw19.PlanTells", spec := "planTells", unfollowed := true, recurses := true, plainKeys := false, apart := false }
def PlanTellsSaid : Prop := planTellsRow.holds Tryz.pinned (OpenSpec.ofChange planTellsSpec)

/-- ITS FALSE NEIGHBOUR: 'it returns false'. Refute it at one input. -/
def planTellsWrong : ChangeSpec := { name := "planTells", fn := fun _ => fun
  | [d1, d2, d3, d4, d5, d6, d7, d8] => { results := [.lit (.bool false)], args := [d1, d2, d3, d4, d5, d6, d7, d8] }
  | _ => none }
def PlanTellsWrongFalsely : Prop := planTellsRow.holds Tryz.pinned (OpenSpec.ofChange planTellsWrong)

/-- 'columbariumlaw19.PlanParts': WHATEVER THE INPUT: true; the input reads as it did. -/
def planPartsSpec : ChangeSpec := { name := "planParts", fn := fun _ => fun
  | [d1, d2, d3] => { results := [.lit (.bool true)], args := [d1, d2, d3] }
  | _ => none }
def planPartsRow : OpenClaim := { program := "ytpnbkfboneabaaagreat", sum := "4ac4e8683343ba356ecaf1310891a46803753e11325e8bd143ad2274bb3bcdfb", func := "columbarium/columbariumlaw19.PlanParts", spec := "planParts", unfollowed := true, recurses := true, plainKeys := false, apart := false }
def PlanPartsSaid : Prop := planPartsRow.holds Tryz.pinned (OpenSpec.ofChange planPartsSpec)

/-- ITS FALSE NEIGHBOUR: 'it returns false'. Refute it at one input. -/
def planPartsWrong : ChangeSpec := { name := "planParts", fn := fun _ => fun
  | [d1, d2, d3] => { results := [.lit (.bool false)], args := [d1, d2, d3] }
  | _ => none }
def PlanPartsWrongFalsely : Prop := planPartsRow.holds Tryz.pinned (OpenSpec.ofChange planPartsWrong)

/-- 'columbariumlaw19.PlanBack': WHATEVER THE INPUT: true; the input reads as it did. -/
def planBackSpec : ChangeSpec := { name := "planBack", fn := fun _ => fun
  | [d1, d2] => { results := [.lit (.bool true)], args := [d1, d2] }
  | _ => none }
def planBackRow : OpenClaim := { program := "ytpnbkfboneabaaagreat", sum := "4ac4e8683343ba356ecaf1310891a46803753e11325e8bd143ad2274bb3bcdfb", func := "columbarium/columbariumlaw19.PlanBack", spec := "planBack", unfollowed := true, recurses := true, plainKeys := false, apart := false }
def PlanBackSaid : Prop := planBackRow.holds Tryz.pinned (OpenSpec.ofChange planBackSpec)

/-- ITS FALSE NEIGHBOUR: 'it returns false'. Refute it at one input. -/
def planBackWrong : ChangeSpec := { name := "planBack", fn := fun _ => fun
  | [d1, d2] => { results := [.lit (.bool false)], args := [d1, d2] }
  | _ => none }
def PlanBackWrongFalsely : Prop := planBackRow.holds Tryz.pinned (OpenSpec.ofChange planBackWrong)

/-- 'columbariumlaw19.PlanFolds': WHATEVER THE INPUT: true; the input reads as it did. -/
def planFoldsSpec : ChangeSpec := { name := "planFolds", fn := fun _ => fun
  | [d1, d2, d3, d4, d5, d6] => { results := [.lit (.bool true)], args := [d1, d2, d3, d4, d5, d6] }
  | _ => none }
def planFoldsRow : OpenClaim := { program := "ytpnbkfboneabaaagreat", sum := "4ac4e8683343ba356ecaf1310891a46803753e11325e8bd143ad2274bb3bcdfb", func := "columbarium/columbariumlaw19.PlanFolds", spec := "planFolds", unfollowed := true, recurses := true, plainKeys := false, apart := false }
def PlanFoldsSaid : Prop := planFoldsRow.holds Tryz.pinned (OpenSpec.ofChange planFoldsSpec)

/-- ITS FALSE NEIGHBOUR: 'it returns false'. Refute it at one input. -/
def planFoldsWrong : ChangeSpec := { name := "planFolds", fn := fun _ => fun
  | [d1, d2, d3, d4, d5, d6] => { results := [.lit (.bool false)], args := [d1, d2, d3, d4, d5, d6] }
  | _ => none }
def PlanFoldsWrongFalsely : Prop := planFoldsRow.holds Tryz.pinned (OpenSpec.ofChange planFoldsWrong)

/-- 'columbariumlaw19.PlanTampers': WHATEVER THE INPUT: true; the input reads as it did. -/
def planTampersSpec : ChangeSpec := { name := "planTampers", fn := fun _ => fun
  | [d1, d2, d3, d4, d5] => { results := [.lit (.bool true)], args := [d1, d2, d3, d4, d5] }
  | _ => none }
def planTampersRow : OpenClaim := { program := "ytpnbkfboneabaaagreat", sum := "4ac4e8683343ba356ecaf1310891a46803753e11325e8bd143ad2274bb3bcdfb", func := "columbarium/columbariumlaw19.PlanTampers", spec := "planTampers", unfollowed := true, recurses := true, plainKeys := false, apart := false }
def PlanTampersSaid : Prop := planTampersRow.holds Tryz.pinned (OpenSpec.ofChange planTampersSpec)

/-- ITS FALSE NEIGHBOUR: 'it returns false'. Refute it at one input. -/
def planTampersWrong : ChangeSpec := { name := "planTampers", fn := fun _ => fun
  | [d1, d2, d3, d4, d5] => { results := [.lit (.bool false)], args := [d1, d2, d3, d4, d5] }
  | _ => none }
def PlanTampersWrongFalsely : Prop := planTampersRow.holds Tryz.pinned (OpenSpec.ofChange planTampersWrong)

/-- 'columbariumlaw19.PlanAgain': WHATEVER THE INPUT: true; the input reads as it did. -/
def planAgainSpec : ChangeSpec := { name := "planAgain", fn := fun _ => fun
  | [d1, d2, d3, d4, d5, d6] => { results := [.lit (.bool true)], args := [d1, d2, d3, d4, d5, d6] }
  | _ => none }
def planAgainRow : OpenClaim := { program := "ytpnbkfboneabaaagreat", sum := "4ac4e8683343ba356ecaf1310891a46803753e11325e8bd143ad2274bb3bcdfb", func := "columbarium/columbariumlaw19.PlanAgain", spec := "planAgain", unfollowed := true, recurses := true, plainKeys := false, apart := false }
def PlanAgainSaid : Prop := planAgainRow.holds Tryz.pinned (OpenSpec.ofChange planAgainSpec)

/-- ITS FALSE NEIGHBOUR: 'it returns false'. Refute it at one input. -/
def planAgainWrong : ChangeSpec := { name := "planAgain", fn := fun _ => fun
  | [d1, d2, d3, d4, d5, d6] => { results := [.lit (.bool false)], args := [d1, d2, d3, d4, d5, d6] }
  | _ => none }
def PlanAgainWrongFalsely : Prop := planAgainRow.holds Tryz.pinned (OpenSpec.ofChange planAgainWrong)

/-- 'columbariumlaw19.PlanMeets': WHATEVER THE INPUT: true; the input reads as it did. -/
def planMeetsSpec : ChangeSpec := { name := "planMeets", fn := fun _ => fun
  | [d1, d2, d3] => { results := [.lit (.bool true)], args := [d1, d2, d3] }
  | _ => none }
def planMeetsRow : OpenClaim := { program := "ytpnbkfboneabaaagreat", sum := "4ac4e8683343ba356ecaf1310891a46803753e11325e8bd143ad2274bb3bcdfb", func := "columbarium/columbariumlaw19.PlanMeets", spec := "planMeets", unfollowed := true, recurses := true, plainKeys := false, apart := false }
def PlanMeetsSaid : Prop := planMeetsRow.holds Tryz.pinned (OpenSpec.ofChange planMeetsSpec)

/-- ITS FALSE NEIGHBOUR: 'it returns false'. Refute it at one input. -/
def planMeetsWrong : ChangeSpec := { name := "planMeets", fn := fun _ => fun
  | [d1, d2, d3] => { results := [.lit (.bool false)], args := [d1, d2, d3] }
  | _ => none }
def PlanMeetsWrongFalsely : Prop := planMeetsRow.holds Tryz.pinned (OpenSpec.ofChange planMeetsWrong)

/-- 'columbariumlaw19.PlanGone': WHATEVER THE INPUT: true; the input reads as it did. -/
def planGoneSpec : ChangeSpec := { name := "planGone", fn := fun _ => fun
  | [d1, d2, d3, d4, d5, d6] => { results := [.lit (.bool true)], args := [d1, d2, d3, d4, d5, d6] }
  | _ => none }
def planGoneRow : OpenClaim := { program := "ytpnbkfboneabaaagreat", sum := "4ac4e8683343ba356ecaf1310891a46803753e11325e8bd143ad2274bb3bcdfb", func := "columbarium/columbariumlaw19.PlanGone", spec := "planGone", unfollowed := true, recurses := true, plainKeys := false, apart := false }
def PlanGoneSaid : Prop := planGoneRow.holds Tryz.pinned (OpenSpec.ofChange planGoneSpec)

/-- ITS FALSE NEIGHBOUR: 'it returns false'. Refute it at one input. -/
def planGoneWrong : ChangeSpec := { name := "planGone", fn := fun _ => fun
  | [d1, d2, d3, d4, d5, d6] => { results := [.lit (.bool false)], args := [d1, d2, d3, d4, d5, d6] }
  | _ => none }
def PlanGoneWrongFalsely : Prop := planGoneRow.holds Tryz.pinned (OpenSpec.ofChange planGoneWrong)

/-- 'columbariumlaw19.PlanBatch': WHATEVER THE INPUT: true; the input reads as it did. -/
def planBatchSpec : ChangeSpec := { name := "planBatch", fn := fun _ => fun
  | [d1, d2] => { results := [.lit (.bool true)], args := [d1, d2] }
  | _ => none }
def planBatchRow : OpenClaim := { program := "ytpnbkfboneabaaagreat", sum := "4ac4e8683343ba356ecaf1310891a46803753e11325e8bd143ad2274bb3bcdfb", func := "columbarium/columbariumlaw19.PlanBatch", spec := "planBatch", unfollowed := true, recurses := true, plainKeys := false, apart := false }
def PlanBatchSaid : Prop := planBatchRow.holds Tryz.pinned (OpenSpec.ofChange planBatchSpec)

/-- ITS FALSE NEIGHBOUR: 'it returns false'. Refute it at one input. -/
def planBatchWrong : ChangeSpec := { name := "planBatch", fn := fun _ => fun
  | [d1, d2] => { results := [.lit (.bool false)], args := [d1, d2] }
  | _ => none }
def PlanBatchWrongFalsely : Prop := planBatchRow.holds Tryz.pinned (OpenSpec.ofChange planBatchWrong)

/- THE SECOND FORM. 'bulk': how many values and letters a reading holds, each counted each time it is reached (what is shared counts as often as it is met; a slice's spare places count too). A statement '..UptoSaid' is the law's where the arguments, and the package variables that the reading takes, are together of bulk at most 1048576: NARROWER than '..Said'. Prove '..Said' where nothing that the law and all that it calls make is longer than what came in: it says more and counts as full. Else prove '..UptoSaid'. A law counts once. -/
mutual
def uptoBulk {H : Type} : DataW H → Nat
  | .lit (.string bytes) => bytes.length + 1
  | .lit _ => 1
  | .nil => 1
  | .ptr d => uptoBulk d + 1
  | .slice elems spare => uptoBulkAll elems + uptoBulkAll spare + 1
  | .agg parts => uptoBulkAll parts + 1
  | .iface _ d => uptoBulk d + 1
  | .map entries => uptoBulkEntries entries + 1
  | .held _ => 1
def uptoBulkAll {H : Type} : List (DataW H) → Nat
  | [] => 0
  | d :: r => uptoBulk d + uptoBulkAll r
def uptoBulkEntries {H : Type} : List (Lit × DataW H) → Nat
  | [] => 0
  | x :: r => uptoBulkEntry x + uptoBulkEntries r
def uptoBulkEntry {H : Type} : Lit × DataW H → Nat
  | (.string bytes, d) => bytes.length + uptoBulk d + 1
  | (_, d) => uptoBulk d + 1
 end
def uptoSmall : (H : Type) → List (DataW H) → Bool := fun _ ds => decide (uptoBulkAll ds ≤ 1048576)
def OpenSpec.upto (s : _root_.Go.ChangeSpec) : _root_.Go.OpenSpec := { _root_.Go.OpenSpec.ofChange s with cond := some uptoSmall }

/-- 'columbariumlaw19.PlanTells', WHERE WHAT IT READS IS OF BULK AT MOST 1048576: true; the input reads as it did. -/
def planTellsUptoRow : OpenClaim := { program := "ytpnbkfboneabaaagreat", sum := "4ac4e8683343ba356ecaf1310891a46803753e11325e8bd143ad2274bb3bcdfb", func := "columbarium/columbariumlaw19.PlanTells", spec := "planTells", unfollowed := true, recurses := true, plainKeys := false, apart := false, narrowed := true }
def PlanTellsUptoSaid : Prop := planTellsUptoRow.holds Tryz.pinned (OpenSpec.upto planTellsSpec)

/-- 'columbariumlaw19.PlanParts', WHERE WHAT IT READS IS OF BULK AT MOST 1048576: true; the input reads as it did. -/
def planPartsUptoRow : OpenClaim := { program := "ytpnbkfboneabaaagreat", sum := "4ac4e8683343ba356ecaf1310891a46803753e11325e8bd143ad2274bb3bcdfb", func := "columbarium/columbariumlaw19.PlanParts", spec := "planParts", unfollowed := true, recurses := true, plainKeys := false, apart := false, narrowed := true }
def PlanPartsUptoSaid : Prop := planPartsUptoRow.holds Tryz.pinned (OpenSpec.upto planPartsSpec)

/-- 'columbariumlaw19.PlanBack', WHERE WHAT IT READS IS OF BULK AT MOST 1048576: true; the input reads as it did. -/
def planBackUptoRow : OpenClaim := { program := "ytpnbkfboneabaaagreat", sum := "4ac4e8683343ba356ecaf1310891a46803753e11325e8bd143ad2274bb3bcdfb", func := "columbarium/columbariumlaw19.PlanBack", spec := "planBack", unfollowed := true, recurses := true, plainKeys := false, apart := false, narrowed := true }
def PlanBackUptoSaid : Prop := planBackUptoRow.holds Tryz.pinned (OpenSpec.upto planBackSpec)

/-- 'columbariumlaw19.PlanFolds', WHERE WHAT IT READS IS OF BULK AT MOST 1048576: true; the input reads as it did. -/
def planFoldsUptoRow : OpenClaim := { program := "ytpnbkfboneabaaagreat", sum := "4ac4e8683343ba356ecaf1310891a46803753e11325e8bd143ad2274bb3bcdfb", func := "columbarium/columbariumlaw19.PlanFolds", spec := "planFolds", unfollowed := true, recurses := true, plainKeys := false, apart := false, narrowed := true }
def PlanFoldsUptoSaid : Prop := planFoldsUptoRow.holds Tryz.pinned (OpenSpec.upto planFoldsSpec)

/-- 'columbariumlaw19.PlanTampers', WHERE WHAT IT READS IS OF BULK AT MOST 1048576: true; the input reads as it did. -/
def planTampersUptoRow : OpenClaim := { program := "ytpnbkfboneabaaagreat", sum := "4ac4e8683343ba356ecaf1310891a46803753e11325e8bd143ad2274bb3bcdfb", func := "columbarium/columbariumlaw19.PlanTampers", spec := "planTampers", unfollowed := true, recurses := true, plainKeys := false, apart := false, narrowed := true }
def PlanTampersUptoSaid : Prop := planTampersUptoRow.holds Tryz.pinned (OpenSpec.upto planTampersSpec)

/-- 'columbariumlaw19.PlanAgain', WHERE WHAT IT READS IS OF BULK AT MOST 1048576: true; the input reads as it did. -/
def planAgainUptoRow : OpenClaim := { program := "ytpnbkfboneabaaagreat", sum := "4ac4e8683343ba356ecaf1310891a46803753e11325e8bd143ad2274bb3bcdfb", func := "columbarium/columbariumlaw19.PlanAgain", spec := "planAgain", unfollowed := true, recurses := true, plainKeys := false, apart := false, narrowed := true }
def PlanAgainUptoSaid : Prop := planAgainUptoRow.holds Tryz.pinned (OpenSpec.upto planAgainSpec)

/-- 'columbariumlaw19.PlanMeets', WHERE WHAT IT READS IS OF BULK AT MOST 1048576: true; the input reads as it did. -/
def planMeetsUptoRow : OpenClaim := { program := "ytpnbkfboneabaaagreat", sum := "4ac4e8683343ba356ecaf1310891a46803753e11325e8bd143ad2274bb3bcdfb", func := "columbarium/columbariumlaw19.PlanMeets", spec := "planMeets", unfollowed := true, recurses := true, plainKeys := false, apart := false, narrowed := true }
def PlanMeetsUptoSaid : Prop := planMeetsUptoRow.holds Tryz.pinned (OpenSpec.upto planMeetsSpec)

/-- 'columbariumlaw19.PlanGone', WHERE WHAT IT READS IS OF BULK AT MOST 1048576: true; the input reads as it did. -/
def planGoneUptoRow : OpenClaim := { program := "ytpnbkfboneabaaagreat", sum := "4ac4e8683343ba356ecaf1310891a46803753e11325e8bd143ad2274bb3bcdfb", func := "columbarium/columbariumlaw19.PlanGone", spec := "planGone", unfollowed := true, recurses := true, plainKeys := false, apart := false, narrowed := true }
def PlanGoneUptoSaid : Prop := planGoneUptoRow.holds Tryz.pinned (OpenSpec.upto planGoneSpec)

/-- 'columbariumlaw19.PlanBatch', WHERE WHAT IT READS IS OF BULK AT MOST 1048576: true; the input reads as it did. -/
def planBatchUptoRow : OpenClaim := { program := "ytpnbkfboneabaaagreat", sum := "4ac4e8683343ba356ecaf1310891a46803753e11325e8bd143ad2274bb3bcdfb", func := "columbarium/columbariumlaw19.PlanBatch", spec := "planBatch", unfollowed := true, recurses := true, plainKeys := false, apart := false, narrowed := true }
def PlanBatchUptoSaid : Prop := planBatchUptoRow.holds Tryz.pinned (OpenSpec.upto planBatchSpec)

end Rows
end Go.Proofs.YtpnbkfboneabaaaGreat
