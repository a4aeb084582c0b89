/- Opening a slice of looks that is an argument (its first theorem is the guide's to copy). -/
import Derived.Test.YtakljpcmbpaeaaaGreatChecked
import Derived.Test.YtakljpcmbpaeaaaGreatPaxosKeepsM01
import Derived.Deep.Slices
import Derived.Deep.Fields
import Derived.ChangeSame
import Derived.JoinedOf
import Derived.ProofKit
import Derived.Test.YtakljpcmbpaeaaaGreatRows
set_option linter.unusedSimpArgs false
set_option linter.unusedVariables false
namespace Go.Proofs.YtakljpcmbpaeaaaGreat
open Go.ChangeShapes Go.WideShapes Go.ChangeAt Go.RowKit Go.Joins Go.Deep

section
variable {H : Type} {enc : TypeId × Value → H} {P : Program} {w : World} {base : Nat} {spare : Nat → Bool} {held : Bool}
end

end Go.Proofs.YtakljpcmbpaeaaaGreat

namespace Go.Proofs.YtakljpcmbpaeaaaGreat
open Go.ChangeShapes Go.WideShapes Go.ChangeAt Go.RowKit Go.Joins Go.Deep

end Go.Proofs.YtakljpcmbpaeaaaGreat

namespace Go.Proofs.YtakljpcmbpaeaaaGreat.paxosKeeps
open Go.RowKit Go.ChangeShapes Go.WideShapes Go.ChangeAt

theorem and_tt2 {a b : Bool} (h : a = true) (k : b = true) : (a && b) = true := by rw [h, k]; rfl
set_option maxRecDepth 100000 in
theorem jf0 : (Rows.paxosKeepsRow.wf (OpenSpec.ofChange Rows.paxosKeepsSpec)) = true := by kernel_rfl
set_option maxRecDepth 100000 in
theorem jf1 : (laidOutB Tryz.pinned.checked.prog) = true := by kernel_rfl
set_option maxRecDepth 100000 in
theorem jf2 : (mapsRowed Tryz.pinned.checked.prog) = true := by kernel_rfl
set_option maxRecDepth 100000 in
theorem jf3 : (Tryz.f9.params.all (Program.readableRec Tryz.pinned.checked.prog ·)) = true := by kernel_rfl
set_option maxRecDepth 100000 in
theorem jf4 : (namedTie Tryz.pinned.checked.prog Rows.paxosKeepsRow.named Rows.paxosKeepsSpec.vars) = true := by kernel_rfl
set_option maxRecDepth 100000 in
theorem jf5 : (Rows.paxosKeepsRow.stops == []) = true := by kernel_rfl
set_option maxRecDepth 100000 in
theorem jf6 : (Program.stops Tryz.pinned.checked.prog == []) = true := by kernel_rfl
set_option maxRecDepth 100000 in
theorem jf7 : (Rows.paxosKeepsRow.knobs == []) = true := by kernel_rfl
set_option maxRecDepth 100000 in
theorem jf8 : (Program.stopKnobs Tryz.pinned.checked.prog == []) = true := by kernel_rfl
set_option maxRecDepth 100000 in
theorem jf9 : (Rows.paxosKeepsRow.inPlace == Program.inPlace Tryz.pinned.checked.prog 9) = true := by kernel_rfl
set_option maxRecDepth 100000 in
theorem jf10 : (Rows.paxosKeepsRow.unfollowed == Program.unfollowed Tryz.pinned.checked.prog 9) = true := by kernel_rfl
set_option maxRecDepth 100000 in
theorem jf11 : (Rows.paxosKeepsRow.recurses == Program.recurses Tryz.pinned.checked.prog 9) = true := by kernel_rfl
set_option maxRecDepth 100000 in
theorem jf12 : (Rows.paxosKeepsRow.named == Program.varsNamed Tryz.pinned.checked.prog 9) = true := by kernel_rfl
set_option maxRecDepth 100000 in
theorem jf13 : (Rows.paxosKeepsRow.maps == (Tryz.f9.params.toList ++ Rows.paxosKeepsSpec.plain.varTypes Tryz.pinned.checked.prog).any (Program.mapsRec Tryz.pinned.checked.prog ·)) = true := by kernel_rfl
set_option maxRecDepth 100000 in
theorem jf14 : (Rows.paxosKeepsRow.ifaces == (Tryz.f9.params.toList ++ Rows.paxosKeepsSpec.plain.varTypes Tryz.pinned.checked.prog).any (Program.ifacesRec Tryz.pinned.checked.prog ·)) = true := by kernel_rfl
set_option maxRecDepth 100000 in
theorem jf15 : (Rows.paxosKeepsRow.mapsOut == Program.mapsAmong Tryz.pinned.checked.prog Tryz.f9.resultTypes.toList) = true := by kernel_rfl
set_option maxRecDepth 100000 in
theorem jf16 : (Rows.paxosKeepsRow.loops == (Tryz.f9.params.toList ++ Rows.paxosKeepsSpec.plain.varTypes Tryz.pinned.checked.prog).any (Program.loopsFrom Tryz.pinned.checked.prog ·)) = true := by kernel_rfl
set_option maxRecDepth 100000 in
theorem jf17 : (Rows.paxosKeepsRow.wideKeys == (Tryz.f9.params.toList ++ Rows.paxosKeepsSpec.plain.varTypes Tryz.pinned.checked.prog ++ Tryz.f9.resultTypes.toList).any (Program.wideKeysFrom Tryz.pinned.checked.prog ·)) = true := by kernel_rfl
set_option maxRecDepth 100000 in
theorem jf18 : (Rows.paxosKeepsSpec.vars.all (Program.varReadable Tryz.pinned.checked.prog ·)) = true := by kernel_rfl
set_option maxRecDepth 100000 in
theorem jf19 : (Tryz.f9.resultTypes.all (fun t => Program.readableRec Tryz.pinned.checked.prog t && decide (t < Tryz.pinned.checked.prog.types.size))) = true := by kernel_rfl
set_option maxRecDepth 100000 in
theorem jf20 : (Rows.paxosKeepsRow.ifacesOut == Tryz.f9.resultTypes.toList.any (Program.ifacesRec Tryz.pinned.checked.prog ·)) = true := by kernel_rfl
set_option maxRecDepth 100000 in
theorem jf21 : (Rows.paxosKeepsRow.loopsOut == Tryz.f9.resultTypes.toList.any (Program.loopsFrom Tryz.pinned.checked.prog ·)) = true := by kernel_rfl
set_option maxRecDepth 100000 in
theorem jf22 : (Rows.paxosKeepsRow.plainKeys == Program.plainKeys Tryz.pinned.checked.prog) = true := by kernel_rfl
set_option maxRecDepth 100000 in
theorem jf23 : (Rows.paxosKeepsRow.shortTexts.isNone) = true := by kernel_rfl
set_option maxRecDepth 100000 in
theorem jf24 : (Program.stopsHeard Tryz.pinned.checked.prog) = true := by kernel_rfl
set_option maxRecDepth 100000 in
theorem jf25 : (Program.mayEnter Tryz.pinned.checked.prog) = true := by kernel_rfl
set_option maxRecDepth 100000 in
theorem jf26 : (Rows.paxosKeepsRow.lifted == Program.liftsFinal Tryz.pinned.checked.prog) = true := by kernel_rfl
set_option maxRecDepth 100000 in
theorem jf27 : (Program.make Tryz.pinned.checked.prog == some Rows.paxosKeepsRow.make) = true := by kernel_rfl
set_option maxRecDepth 100000 in
theorem jf28 : (Rows.paxosKeepsRow.kinds == (if Rows.paxosKeepsRow.domain.isEmpty then [] else Tryz.f9.params.toList.map fun t => match Program.underlying Tryz.pinned.checked.prog t with | some (.int k) => some k | _ => none)) = true := by kernel_rfl
set_option maxRecDepth 100000 in
theorem jf29 : (Rows.paxosKeepsRow.pinned == Rows.paxosKeepsRow.pinnedBy) = true := by kernel_rfl
set_option maxRecDepth 100000 in
theorem jf30 : (Rows.paxosKeepsRow.veiled == (Tryz.f9.params.toList ++ Rows.paxosKeepsSpec.plain.varTypes Tryz.pinned.checked.prog ++ Tryz.f9.resultTypes.toList).any (Program.veiledRec Tryz.pinned.checked.prog ·)) = true := by kernel_rfl
set_option maxRecDepth 100000 in
theorem jf31 : (Rows.paxosKeepsRow.veiledFits Tryz.pinned.checked.prog Tryz.f9.params.toList (Tryz.f9.params.toList ++ Rows.paxosKeepsSpec.plain.varTypes Tryz.pinned.checked.prog ++ Tryz.f9.resultTypes.toList)) = true := by kernel_rfl
set_option maxRecDepth 100000 in
theorem closed : joinedFacts Tryz.pinned.checked.prog 9 Tryz.f9 Rows.paxosKeepsSpec Rows.paxosKeepsRow = true := (and_tt2 (and_tt2 (and_tt2 (and_tt2 (and_tt2 (and_tt2 (and_tt2 (and_tt2 (and_tt2 (and_tt2 (and_tt2 (and_tt2 (and_tt2 (and_tt2 (and_tt2 (and_tt2 (and_tt2 (and_tt2 (and_tt2 (and_tt2 (and_tt2 (and_tt2 (and_tt2 (and_tt2 (and_tt2 (and_tt2 (and_tt2 (and_tt2 (and_tt2 (and_tt2 (and_tt2 jf0 jf1) jf2) jf3) jf4) jf5) jf6) jf7) jf8) jf9) jf10) jf11) jf12) jf13) jf14) jf15) jf16) jf17) jf18) jf19) jf20) jf21) jf22) jf23) jf24) jf25) jf26) jf27) jf28) jf29) jf30) jf31)

end Go.Proofs.YtakljpcmbpaeaaaGreat.paxosKeeps
