/- RepairAlive: the closed facts of its form. -/
import Derived.JoinedOf
import Derived.ProofKit
import Derived.Test.YtkjihmlighigjaaGreatRows
import Derived.Test.YtkjihmlighigjaaGreatChecked
set_option linter.unusedSimpArgs false
set_option linter.unusedVariables false
namespace Go.Proofs.YtkjihmlighigjaaGreat.repairAlive
open Go.RowKit Go.ChangeShapes Go.WideShapes Go.ChangeAt

theorem and_tt2 {a b : Bool} (h : a = true) (k : b = true) : (a && b) = true := by rw [h, k]; rfl
set_option maxRecDepth 100000 in
theorem jf0 : (Rows.repairAliveRow.wf (OpenSpec.ofChange Rows.repairAliveSpec)) = true := by kernel_rfl
set_option maxRecDepth 100000 in
theorem jf1 : (laidOutB Tryz.pinned.checked.prog) = true := by kernel_rfl
set_option maxRecDepth 100000 in
theorem jf2 : (mapsRowed Tryz.pinned.checked.prog) = true := by kernel_rfl
set_option maxRecDepth 100000 in
theorem jf3 : (Tryz.f3.params.all (Program.readableRec Tryz.pinned.checked.prog ·)) = true := by kernel_rfl
set_option maxRecDepth 100000 in
theorem jf4 : (namedTie Tryz.pinned.checked.prog Rows.repairAliveRow.named Rows.repairAliveSpec.vars) = true := by kernel_rfl
set_option maxRecDepth 100000 in
theorem jf5 : (Rows.repairAliveRow.stops == []) = true := by kernel_rfl
set_option maxRecDepth 100000 in
theorem jf6 : (Program.stops Tryz.pinned.checked.prog == []) = true := by kernel_rfl
set_option maxRecDepth 100000 in
theorem jf7 : (Rows.repairAliveRow.knobs == []) = true := by kernel_rfl
set_option maxRecDepth 100000 in
theorem jf8 : (Program.stopKnobs Tryz.pinned.checked.prog == []) = true := by kernel_rfl
set_option maxRecDepth 100000 in
theorem jf9 : (Rows.repairAliveRow.inPlace == Program.inPlace Tryz.pinned.checked.prog 3) = true := by kernel_rfl
set_option maxRecDepth 100000 in
theorem jf10 : (Rows.repairAliveRow.unfollowed == Program.unfollowed Tryz.pinned.checked.prog 3) = true := by kernel_rfl
set_option maxRecDepth 100000 in
theorem jf11 : (Rows.repairAliveRow.recurses == Program.recurses Tryz.pinned.checked.prog 3) = true := by kernel_rfl
set_option maxRecDepth 100000 in
theorem jf12 : (Rows.repairAliveRow.named == Program.varsNamed Tryz.pinned.checked.prog 3) = true := by kernel_rfl
set_option maxRecDepth 100000 in
theorem jf13 : (Rows.repairAliveRow.maps == (Tryz.f3.params.toList ++ Rows.repairAliveSpec.plain.varTypes Tryz.pinned.checked.prog).any (Program.mapsRec Tryz.pinned.checked.prog ·)) = true := by kernel_rfl
set_option maxRecDepth 100000 in
theorem jf14 : (Rows.repairAliveRow.ifaces == (Tryz.f3.params.toList ++ Rows.repairAliveSpec.plain.varTypes Tryz.pinned.checked.prog).any (Program.ifacesRec Tryz.pinned.checked.prog ·)) = true := by kernel_rfl
set_option maxRecDepth 100000 in
theorem jf15 : (Rows.repairAliveRow.mapsOut == Program.mapsAmong Tryz.pinned.checked.prog Tryz.f3.resultTypes.toList) = true := by kernel_rfl
set_option maxRecDepth 100000 in
theorem jf16 : (Rows.repairAliveRow.loops == (Tryz.f3.params.toList ++ Rows.repairAliveSpec.plain.varTypes Tryz.pinned.checked.prog).any (Program.loopsFrom Tryz.pinned.checked.prog ·)) = true := by kernel_rfl
set_option maxRecDepth 100000 in
theorem jf17 : (Rows.repairAliveRow.wideKeys == (Tryz.f3.params.toList ++ Rows.repairAliveSpec.plain.varTypes Tryz.pinned.checked.prog ++ Tryz.f3.resultTypes.toList).any (Program.wideKeysFrom Tryz.pinned.checked.prog ·)) = true := by kernel_rfl
set_option maxRecDepth 100000 in
theorem jf18 : (Rows.repairAliveSpec.vars.all (Program.varReadable Tryz.pinned.checked.prog ·)) = true := by kernel_rfl
set_option maxRecDepth 100000 in
theorem jf19 : (Tryz.f3.resultTypes.all (fun t => Program.readableRec Tryz.pinned.checked.prog t && decide (t < Tryz.pinned.checked.prog.types.size))) = true := by kernel_rfl
set_option maxRecDepth 100000 in
theorem jf20 : (Rows.repairAliveRow.ifacesOut == Tryz.f3.resultTypes.toList.any (Program.ifacesRec Tryz.pinned.checked.prog ·)) = true := by kernel_rfl
set_option maxRecDepth 100000 in
theorem jf21 : (Rows.repairAliveRow.loopsOut == Tryz.f3.resultTypes.toList.any (Program.loopsFrom Tryz.pinned.checked.prog ·)) = true := by kernel_rfl
set_option maxRecDepth 100000 in
theorem jf22 : (Rows.repairAliveRow.plainKeys == Program.plainKeys Tryz.pinned.checked.prog) = true := by kernel_rfl
set_option maxRecDepth 100000 in
theorem jf23 : (Rows.repairAliveRow.shortTexts.isNone) = true := by kernel_rfl
set_option maxRecDepth 100000 in
theorem jf24 : (Program.stopsHeard Tryz.pinned.checked.prog) = true := by kernel_rfl
set_option maxRecDepth 100000 in
theorem jf25 : (Program.mayEnter Tryz.pinned.checked.prog) = true := by kernel_rfl
set_option maxRecDepth 100000 in
theorem jf26 : (Rows.repairAliveRow.lifted == Program.liftsFinal Tryz.pinned.checked.prog) = true := by kernel_rfl
set_option maxRecDepth 100000 in
theorem jf27 : (Program.make Tryz.pinned.checked.prog == some Rows.repairAliveRow.make) = true := by kernel_rfl
set_option maxRecDepth 100000 in
theorem jf28 : (Rows.repairAliveRow.kinds == (if Rows.repairAliveRow.domain.isEmpty then [] else Tryz.f3.params.toList.map fun t => match Program.underlying Tryz.pinned.checked.prog t with | some (.int k) => some k | _ => none)) = true := by kernel_rfl
set_option maxRecDepth 100000 in
theorem jf29 : (Rows.repairAliveRow.pinned == Rows.repairAliveRow.pinnedBy) = true := by kernel_rfl
set_option maxRecDepth 100000 in
theorem jf30 : (Rows.repairAliveRow.veiled == (Tryz.f3.params.toList ++ Rows.repairAliveSpec.plain.varTypes Tryz.pinned.checked.prog ++ Tryz.f3.resultTypes.toList).any (Program.veiledRec Tryz.pinned.checked.prog ·)) = true := by kernel_rfl
set_option maxRecDepth 100000 in
theorem jf31 : (Rows.repairAliveRow.veiledFits Tryz.pinned.checked.prog Tryz.f3.params.toList (Tryz.f3.params.toList ++ Rows.repairAliveSpec.plain.varTypes Tryz.pinned.checked.prog ++ Tryz.f3.resultTypes.toList)) = true := by kernel_rfl
set_option maxRecDepth 100000 in
theorem closed : joinedFacts Tryz.pinned.checked.prog 3 Tryz.f3 Rows.repairAliveSpec Rows.repairAliveRow = true := (and_tt2 (and_tt2 (and_tt2 (and_tt2 (and_tt2 (and_tt2 (and_tt2 (and_tt2 (and_tt2 (and_tt2 (and_tt2 (and_tt2 (and_tt2 (and_tt2 (and_tt2 (and_tt2 (and_tt2 (and_tt2 (and_tt2 (and_tt2 (and_tt2 (and_tt2 (and_tt2 (and_tt2 (and_tt2 (and_tt2 (and_tt2 (and_tt2 (and_tt2 (and_tt2 (and_tt2 jf0 jf1) jf2) jf3) jf4) jf5) jf6) jf7) jf8) jf9) jf10) jf11) jf12) jf13) jf14) jf15) jf16) jf17) jf18) jf19) jf20) jf21) jf22) jf23) jf24) jf25) jf26) jf27) jf28) jf29) jf30) jf31)
end Go.Proofs.YtkjihmlighigjaaGreat.repairAlive
