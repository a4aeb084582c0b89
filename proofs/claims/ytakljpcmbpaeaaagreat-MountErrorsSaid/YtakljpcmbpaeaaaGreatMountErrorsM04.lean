/- MountErrors: the closed facts of its form. -/
import Derived.JoinedOf
import Derived.ProofKit
import Derived.Test.YtakljpcmbpaeaaaGreatRows
import Derived.Test.YtakljpcmbpaeaaaGreatChecked
namespace Go.Proofs.YtakljpcmbpaeaaaGreat.mountErrors
open Go.RowKit Go.ChangeShapes Go.WideShapes Go.ChangeAt


theorem and_tt2 {a b : Bool} (h : a = true) (k : b = true) : (a && b) = true := by rw [h, k]; rfl
set_option maxRecDepth 100000 in
theorem jf0 : (Rows.mountErrorsRow.wf (OpenSpec.ofChange Rows.mountErrorsSpec)) = true := by kernel_rfl
set_option maxRecDepth 100000 in
theorem jf1 : (laidOutB Tryz.pinned.checked.prog) = true := by kernel_rfl
set_option maxRecDepth 100000 in
theorem jf2 : (mapsRowed Tryz.pinned.checked.prog) = true := by kernel_rfl
set_option maxRecDepth 100000 in
theorem jf3 : (Tryz.f6.params.all (Program.readableRec Tryz.pinned.checked.prog ·)) = true := by kernel_rfl
set_option maxRecDepth 100000 in
theorem jf4 : (namedTie Tryz.pinned.checked.prog Rows.mountErrorsRow.named Rows.mountErrorsSpec.vars) = true := by kernel_rfl
set_option maxRecDepth 100000 in
theorem jf5 : (Rows.mountErrorsRow.stops == []) = true := by kernel_rfl
set_option maxRecDepth 100000 in
theorem jf6 : (Program.stops Tryz.pinned.checked.prog == []) = true := by kernel_rfl
set_option maxRecDepth 100000 in
theorem jf7 : (Rows.mountErrorsRow.knobs == []) = true := by kernel_rfl
set_option maxRecDepth 100000 in
theorem jf8 : (Program.stopKnobs Tryz.pinned.checked.prog == []) = true := by kernel_rfl
set_option maxRecDepth 100000 in
theorem jf9 : (Rows.mountErrorsRow.inPlace == Program.inPlace Tryz.pinned.checked.prog 6) = true := by kernel_rfl
set_option maxRecDepth 100000 in
theorem jf10 : (Rows.mountErrorsRow.unfollowed == Program.unfollowed Tryz.pinned.checked.prog 6) = true := by kernel_rfl
set_option maxRecDepth 100000 in
theorem jf11 : (Rows.mountErrorsRow.recurses == Program.recurses Tryz.pinned.checked.prog 6) = true := by kernel_rfl
set_option maxRecDepth 100000 in
theorem jf12 : (Rows.mountErrorsRow.named == Program.varsNamed Tryz.pinned.checked.prog 6) = true := by kernel_rfl
set_option maxRecDepth 100000 in
theorem jf13 : (Rows.mountErrorsRow.maps == (Tryz.f6.params.toList ++ Rows.mountErrorsSpec.plain.varTypes Tryz.pinned.checked.prog).any (Program.mapsRec Tryz.pinned.checked.prog ·)) = true := by kernel_rfl
set_option maxRecDepth 100000 in
theorem jf14 : (Rows.mountErrorsRow.ifaces == (Tryz.f6.params.toList ++ Rows.mountErrorsSpec.plain.varTypes Tryz.pinned.checked.prog).any (Program.ifacesRec Tryz.pinned.checked.prog ·)) = true := by kernel_rfl
set_option maxRecDepth 100000 in
theorem jf15 : (Rows.mountErrorsRow.mapsOut == Program.mapsAmong Tryz.pinned.checked.prog Tryz.f6.resultTypes.toList) = true := by kernel_rfl
set_option maxRecDepth 100000 in
theorem jf16 : (Rows.mountErrorsRow.loops == (Tryz.f6.params.toList ++ Rows.mountErrorsSpec.plain.varTypes Tryz.pinned.checked.prog).any (Program.loopsFrom Tryz.pinned.checked.prog ·)) = true := by kernel_rfl
set_option maxRecDepth 100000 in
theorem jf17 : (Rows.mountErrorsRow.wideKeys == (Tryz.f6.params.toList ++ Rows.mountErrorsSpec.plain.varTypes Tryz.pinned.checked.prog ++ Tryz.f6.resultTypes.toList).any (Program.wideKeysFrom Tryz.pinned.checked.prog ·)) = true := by kernel_rfl
set_option maxRecDepth 100000 in
theorem jf18 : (Rows.mountErrorsSpec.vars.all (Program.varReadable Tryz.pinned.checked.prog ·)) = true := by kernel_rfl
set_option maxRecDepth 100000 in
theorem jf19 : (Tryz.f6.resultTypes.all (fun t => Program.readableRec Tryz.pinned.checked.prog t && decide (t < Tryz.pinned.checked.prog.types.size))) = true := by kernel_rfl
set_option maxRecDepth 100000 in
theorem jf20 : (Rows.mountErrorsRow.ifacesOut == Tryz.f6.resultTypes.toList.any (Program.ifacesRec Tryz.pinned.checked.prog ·)) = true := by kernel_rfl
set_option maxRecDepth 100000 in
theorem jf21 : (Rows.mountErrorsRow.loopsOut == Tryz.f6.resultTypes.toList.any (Program.loopsFrom Tryz.pinned.checked.prog ·)) = true := by kernel_rfl
set_option maxRecDepth 100000 in
theorem jf22 : (Rows.mountErrorsRow.plainKeys == Program.plainKeys Tryz.pinned.checked.prog) = true := by kernel_rfl
set_option maxRecDepth 100000 in
theorem jf23 : (Rows.mountErrorsRow.shortTexts.isNone) = true := by kernel_rfl
set_option maxRecDepth 100000 in
theorem jf24 : (Program.stopsHeard Tryz.pinned.checked.prog) = true := by kernel_rfl
set_option maxRecDepth 100000 in
theorem jf25 : (Program.mayEnter Tryz.pinned.checked.prog) = true := by kernel_rfl
set_option maxRecDepth 100000 in
theorem jf26 : (Rows.mountErrorsRow.lifted == Program.liftsFinal Tryz.pinned.checked.prog) = true := by kernel_rfl
set_option maxRecDepth 100000 in
theorem jf27 : (Program.make Tryz.pinned.checked.prog == some Rows.mountErrorsRow.make) = true := by kernel_rfl
set_option maxRecDepth 100000 in
theorem jf28 : (Rows.mountErrorsRow.kinds == (if Rows.mountErrorsRow.domain.isEmpty then [] else Tryz.f6.params.toList.map fun t => match Program.underlying Tryz.pinned.checked.prog t with | some (.int k) => some k | _ => none)) = true := by kernel_rfl
set_option maxRecDepth 100000 in
theorem jf29 : (Rows.mountErrorsRow.pinned == Rows.mountErrorsRow.pinnedBy) = true := by kernel_rfl
set_option maxRecDepth 100000 in
theorem jf30 : (Rows.mountErrorsRow.veiled == (Tryz.f6.params.toList ++ Rows.mountErrorsSpec.plain.varTypes Tryz.pinned.checked.prog ++ Tryz.f6.resultTypes.toList).any (Program.veiledRec Tryz.pinned.checked.prog ·)) = true := by kernel_rfl
set_option maxRecDepth 100000 in
theorem jf31 : (Rows.mountErrorsRow.veiledFits Tryz.pinned.checked.prog Tryz.f6.params.toList (Tryz.f6.params.toList ++ Rows.mountErrorsSpec.plain.varTypes Tryz.pinned.checked.prog ++ Tryz.f6.resultTypes.toList)) = true := by kernel_rfl
set_option maxRecDepth 100000 in
theorem closed : joinedFacts Tryz.pinned.checked.prog 6 Tryz.f6 Rows.mountErrorsSpec Rows.mountErrorsRow = true := (and_tt2 (and_tt2 (and_tt2 (and_tt2 (and_tt2 (and_tt2 (and_tt2 (and_tt2 (and_tt2 (and_tt2 (and_tt2 (and_tt2 (and_tt2 (and_tt2 (and_tt2 (and_tt2 (and_tt2 (and_tt2 (and_tt2 (and_tt2 (and_tt2 (and_tt2 (and_tt2 (and_tt2 (and_tt2 (and_tt2 (and_tt2 (and_tt2 (and_tt2 (and_tt2 (and_tt2 jf0 jf1) jf2) jf3) jf4) jf5) jf6) jf7) jf8) jf9) jf10) jf11) jf12) jf13) jf14) jf15) jf16) jf17) jf18) jf19) jf20) jf21) jf22) jf23) jf24) jf25) jf26) jf27) jf28) jf29) jf30) jf31)
end Go.Proofs.YtakljpcmbpaeaaaGreat.mountErrors
