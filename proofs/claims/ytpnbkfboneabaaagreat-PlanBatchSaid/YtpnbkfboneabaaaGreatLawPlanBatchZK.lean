/- The law PlanBatch of layer 19 answers true for all its arguments. Condition: none (whatever words the variable digest.round holds). -/
import Derived.Test.YtpnbkfboneabaaaGreatLawPlanBatchK
namespace Go.Proofs.YtpnbkfboneabaaaGreat
open Go.ChangeShapes Go.WideShapes Go.ChangeAt Go.RowKit Go.WideMaps
def kindsOf (P : Program) (fn : Func) (c : OpenClaim) : List (Option IntKind) := if c.domain.isEmpty then [] else fn.params.toList.map fun t => match P.underlying t with | some (.int k) => some k | _ => none
theorem band {a b : Bool} (ha : a = true) (hb : b = true) : (a && b) = true := by rw [ha, hb]; rfl
theorem joined_of {P : Program} {f : FuncId} {fn : Func} {s : ChangeSpec} {c : OpenClaim} (k0 : (c.wf (OpenSpec.ofChange s)) = true) (k1 : (laidOutB P) = true) (k2 : (mapsRowed P) = true) (k3 : (fn.params.all (P.readableRec ·)) = true) (k4 : (namedTie P c.named s.vars) = true) (k5 : ((c.stops == [])) = true) (k6 : ((P.stops == [])) = true) (k7 : ((c.knobs == [])) = true) (k8 : ((P.stopKnobs == [])) = true) (k9 : ((c.inPlace == P.inPlace f)) = true) (k10 : ((c.unfollowed == P.unfollowed f)) = true) (k11 : ((c.recurses == P.recurses f)) = true) (k12 : ((c.named == P.varsNamed f)) = true) (k13 : ((c.maps == (fn.params.toList ++ s.plain.varTypes P).any (P.mapsRec ·))) = true) (k14 : ((c.ifaces == (fn.params.toList ++ s.plain.varTypes P).any (P.ifacesRec ·))) = true) (k15 : ((c.mapsOut == P.mapsAmong fn.resultTypes.toList)) = true) (k16 : ((c.loops == (fn.params.toList ++ s.plain.varTypes P).any (P.loopsFrom ·))) = true) (k17 : ((c.wideKeys == (fn.params.toList ++ s.plain.varTypes P ++ fn.resultTypes.toList).any (P.wideKeysFrom ·))) = true) (k18 : (s.vars.all (P.varReadable ·)) = true) (k19 : (fn.resultTypes.all (fun t => P.readableRec t && decide (t < P.types.size))) = true) (k20 : ((c.ifacesOut == fn.resultTypes.toList.any (P.ifacesRec ·))) = true) (k21 : ((c.loopsOut == fn.resultTypes.toList.any (P.loopsFrom ·))) = true) (k22 : ((c.plainKeys == P.plainKeys)) = true) (k23 : (c.shortTexts.isNone) = true) (k24 : (P.stopsHeard) = true) (k25 : (P.mayEnter) = true) (k26 : ((c.lifted == P.liftsFinal)) = true) (k27 : ((P.make == some c.make)) = true) (k28 : ((c.kinds == kindsOf P fn c)) = true) (k29 : ((c.pinned == c.pinnedBy)) = true) (k30 : ((c.veiled == (fn.params.toList ++ s.plain.varTypes P ++ fn.resultTypes.toList).any (P.veiledRec ·))) = true) (k31 : (c.veiledFits P fn.params.toList (fn.params.toList ++ s.plain.varTypes P ++ fn.resultTypes.toList)) = true) : joinedFacts P f fn s c = true := by
 unfold joinedFacts
 exact band (band (band (band (band (band (band (band (band (band (band (band (band (band (band (band (band (band (band (band (band (band (band (band (band (band (band (band (band (band (band k0 k1) k2) k3) k4) k5) k6) k7) k8) k9) k10) k11) k12) k13) k14) k15) k16) k17) k18) k19) k20) k21) k22) k23) k24) k25) k26) k27) k28) k29) k30) k31
theorem whole_laid : (laidOutB Tryz.prog) = true := by kernel_rfl
theorem whole_rowed : (mapsRowed Tryz.prog) = true := by kernel_rfl
theorem whole_stops : ((Tryz.prog.stops == [])) = true := by kernel_rfl
theorem whole_knobs : ((Tryz.prog.stopKnobs == [])) = true := by kernel_rfl
theorem whole_heard : (Tryz.prog.stopsHeard) = true := by kernel_rfl
theorem whole_enter : (Tryz.prog.mayEnter) = true := by kernel_rfl
end Go.Proofs.YtpnbkfboneabaaaGreat
namespace Go.Proofs.YtpnbkfboneabaaaGreat.planBatch
open Go.ChangeShapes Go.WideShapes Go.ChangeAt Go.RowKit Go.WideMaps

theorem j0 : (Rows.planBatchRow.wf (OpenSpec.ofChange Rows.planBatchSpec)) = true := by kernel_rfl
theorem j3 : (Tryz.f11.params.all (Tryz.prog.readableRec ·)) = true := by kernel_rfl
theorem j4 : (namedTie Tryz.prog Rows.planBatchRow.named Rows.planBatchSpec.vars) = true := by kernel_rfl
theorem j5 : ((Rows.planBatchRow.stops == [])) = true := by kernel_rfl
theorem j7 : ((Rows.planBatchRow.knobs == [])) = true := by kernel_rfl
theorem j9 : ((Rows.planBatchRow.inPlace == Tryz.prog.inPlace 11)) = true := by kernel_rfl
theorem j10 : ((Rows.planBatchRow.unfollowed == Tryz.prog.unfollowed 11)) = true := by kernel_rfl
theorem j11 : ((Rows.planBatchRow.recurses == Tryz.prog.recurses 11)) = true := by kernel_rfl
theorem j12 : ((Rows.planBatchRow.named == Tryz.prog.varsNamed 11)) = true := by kernel_rfl
theorem j13 : ((Rows.planBatchRow.maps == (Tryz.f11.params.toList ++ Rows.planBatchSpec.plain.varTypes Tryz.prog).any (Tryz.prog.mapsRec ·))) = true := by kernel_rfl
theorem j14 : ((Rows.planBatchRow.ifaces == (Tryz.f11.params.toList ++ Rows.planBatchSpec.plain.varTypes Tryz.prog).any (Tryz.prog.ifacesRec ·))) = true := by kernel_rfl
theorem j15 : ((Rows.planBatchRow.mapsOut == Tryz.prog.mapsAmong Tryz.f11.resultTypes.toList)) = true := by kernel_rfl
theorem j16 : ((Rows.planBatchRow.loops == (Tryz.f11.params.toList ++ Rows.planBatchSpec.plain.varTypes Tryz.prog).any (Tryz.prog.loopsFrom ·))) = true := by kernel_rfl
theorem j17 : ((Rows.planBatchRow.wideKeys == (Tryz.f11.params.toList ++ Rows.planBatchSpec.plain.varTypes Tryz.prog ++ Tryz.f11.resultTypes.toList).any (Tryz.prog.wideKeysFrom ·))) = true := by kernel_rfl
theorem j18 : (Rows.planBatchSpec.vars.all (Tryz.prog.varReadable ·)) = true := by kernel_rfl
theorem j19 : (Tryz.f11.resultTypes.all (fun t => Tryz.prog.readableRec t && decide (t < Tryz.prog.types.size))) = true := by kernel_rfl
theorem j20 : ((Rows.planBatchRow.ifacesOut == Tryz.f11.resultTypes.toList.any (Tryz.prog.ifacesRec ·))) = true := by kernel_rfl
theorem j21 : ((Rows.planBatchRow.loopsOut == Tryz.f11.resultTypes.toList.any (Tryz.prog.loopsFrom ·))) = true := by kernel_rfl
theorem j22 : ((Rows.planBatchRow.plainKeys == Tryz.prog.plainKeys)) = true := by kernel_rfl
theorem j23 : (Rows.planBatchRow.shortTexts.isNone) = true := by kernel_rfl
theorem j26 : ((Rows.planBatchRow.lifted == Tryz.prog.liftsFinal)) = true := by kernel_rfl
theorem j27 : ((Tryz.prog.make == some Rows.planBatchRow.make)) = true := by kernel_rfl
theorem j28 : ((Rows.planBatchRow.kinds == kindsOf Tryz.prog Tryz.f11 Rows.planBatchRow)) = true := by kernel_rfl
theorem j29 : ((Rows.planBatchRow.pinned == Rows.planBatchRow.pinnedBy)) = true := by kernel_rfl
theorem j30 : ((Rows.planBatchRow.veiled == (Tryz.f11.params.toList ++ Rows.planBatchSpec.plain.varTypes Tryz.prog ++ Tryz.f11.resultTypes.toList).any (Tryz.prog.veiledRec ·))) = true := by kernel_rfl
theorem j31 : (Rows.planBatchRow.veiledFits Tryz.prog Tryz.f11.params.toList (Tryz.f11.params.toList ++ Rows.planBatchSpec.plain.varTypes Tryz.prog ++ Tryz.f11.resultTypes.toList)) = true := by kernel_rfl
theorem jname : Tryz.prog.funcNamed Rows.planBatchRow.func = some 11 := by kernel_rfl
theorem jinst : Tryz.f11.isInstance Tryz.prog Rows.planBatchRow.origin Rows.planBatchRow.targs := of_decide_eq_true (by kernel_rfl)
theorem jwrap : Tryz.f11.isWrapper Tryz.prog Rows.planBatchRow.wrapper Rows.planBatchRow.mainSum := by unfold Func.isWrapper; first | (rw [if_pos (by decide +kernel)]; kernel_rfl) | (rw [if_neg (by decide +kernel)]; exact ⟨rfl, rfl⟩)
theorem proved : Rows.PlanBatchSaid :=
  OpenClaim.holds_of_wide (p := Tryz.pinned) (s := Rows.planBatchSpec) (c := Rows.planBatchRow) 11 Tryz.f11 rfl rfl rfl rfl rfl rfl rfl ⟨rfl, rfl, rfl, rfl, rfl⟩ rfl rfl rfl rfl rfl jname Tryz.func11
    (joined_of j0 whole_laid whole_rowed j3 j4 j5 whole_stops j7 whole_knobs j9 j10 j11 j12 j13 j14 j15 j16 j17 j18 j19 j20 j21 j22 j23 whole_heard whole_enter j26 j27 j28 j29 j30 j31) jinst jwrap
    (fun os started H enc _ => lifted os started H enc)
#print axioms proved

end Go.Proofs.YtpnbkfboneabaaaGreat.planBatch
