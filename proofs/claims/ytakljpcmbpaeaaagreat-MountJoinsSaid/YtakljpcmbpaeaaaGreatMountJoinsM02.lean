/- Opening a law's arguments: slices of numbers and of strings, structs by value; bounds of integers. -/
import Derived.Test.YtakljpcmbpaeaaaGreatMountJoinsM01
import Derived.ProofKit
import Derived.OpenShut
import Derived.ShutString
import Derived.ChangeOld
import Derived.SliceStrings
import Derived.Lib.SmallJoins
import Derived.Deep.Slices
import Derived.Deep.Fields
import Derived.Test.YtakljpcmbpaeaaaGreatChecked
import Derived.ChangeSame
import Derived.JoinedOf
import Derived.Test.YtakljpcmbpaeaaaGreatRows
set_option linter.unusedSimpArgs false
set_option linter.unusedVariables false
namespace Go.Proofs.YtakljpcmbpaeaaaGreat
open Go.ChangeShapes Go.WideShapes Go.ChangeAt Go.RowKit Go.Joins Go.Deep
open Go.ChangeMaps (open_string shut_string)
theorem wf_i64{n:Int}(h:(Lit.int .i64 n).wf=true): -9223372036854775808<=n/\n<=9223372036854775807:=by
 have h1:IntKind.i64.min= -9223372036854775808:=rfl
 have h2:IntKind.i64.max=9223372036854775807:=rfl
 simp only[Lit.wf,Bool.and_eq_true,decide_eq_true_eq] at h
 omega
section
variable {H:Type} {enc:TypeId×Value->H} {P:Program} {w:World} {base:Nat} {spare:Nat->Bool} {held:Bool}
end
section
variable {H:Type} {enc:TypeId×Value->H} {P:Program} {w:World} {base:Nat} {spare:Nat->Bool} {held:Bool}
end
end Go.Proofs.YtakljpcmbpaeaaaGreat

namespace Go.Proofs.YtakljpcmbpaeaaaGreat.mountJoins
set_option maxRecDepth 100000
open Go.RowKit Go.ChangeShapes Go.WideShapes Go.ChangeAt
theorem and_tt2{a b:Bool}(h:a=true)(k:b=true):(a&&b)=true:=by rw[h,k];rfl
theorem jf0:(Rows.mountJoinsRow.wf (OpenSpec.ofChange Rows.mountJoinsSpec))=true:=by kernel_rfl
theorem jf1:(laidOutB Tryz.pinned.checked.prog)=true:=by kernel_rfl
theorem jf2:(mapsRowed Tryz.pinned.checked.prog)=true:=by kernel_rfl
theorem jf3:(Tryz.f4.params.all (Program.readableRec Tryz.pinned.checked.prog ·))=true:=by kernel_rfl
theorem jf4:(namedTie Tryz.pinned.checked.prog Rows.mountJoinsRow.named Rows.mountJoinsSpec.vars)=true:=by kernel_rfl
theorem jf5:(Rows.mountJoinsRow.stops== [])=true:=by kernel_rfl
theorem jf6:(Program.stops Tryz.pinned.checked.prog== [])=true:=by kernel_rfl
theorem jf7:(Rows.mountJoinsRow.knobs== [])=true:=by kernel_rfl
theorem jf8:(Program.stopKnobs Tryz.pinned.checked.prog== [])=true:=by kernel_rfl
theorem jf9:(Rows.mountJoinsRow.inPlace==Program.inPlace Tryz.pinned.checked.prog 4)=true:=by kernel_rfl
theorem jf10:(Rows.mountJoinsRow.unfollowed==Program.unfollowed Tryz.pinned.checked.prog 4)=true:=by kernel_rfl
theorem jf11:(Rows.mountJoinsRow.recurses==Program.recurses Tryz.pinned.checked.prog 4)=true:=by kernel_rfl
theorem jf12:(Rows.mountJoinsRow.named==Program.varsNamed Tryz.pinned.checked.prog 4)=true:=by kernel_rfl
theorem jf13:(Rows.mountJoinsRow.maps==(Tryz.f4.params.toList++Rows.mountJoinsSpec.plain.varTypes Tryz.pinned.checked.prog).any (Program.mapsRec Tryz.pinned.checked.prog ·))=true:=by kernel_rfl
theorem jf14:(Rows.mountJoinsRow.ifaces==(Tryz.f4.params.toList++Rows.mountJoinsSpec.plain.varTypes Tryz.pinned.checked.prog).any (Program.ifacesRec Tryz.pinned.checked.prog ·))=true:=by kernel_rfl
theorem jf15:(Rows.mountJoinsRow.mapsOut==Program.mapsAmong Tryz.pinned.checked.prog Tryz.f4.resultTypes.toList)=true:=by kernel_rfl
theorem jf16:(Rows.mountJoinsRow.loops==(Tryz.f4.params.toList++Rows.mountJoinsSpec.plain.varTypes Tryz.pinned.checked.prog).any (Program.loopsFrom Tryz.pinned.checked.prog ·))=true:=by kernel_rfl
theorem jf17:(Rows.mountJoinsRow.wideKeys==(Tryz.f4.params.toList++Rows.mountJoinsSpec.plain.varTypes Tryz.pinned.checked.prog++Tryz.f4.resultTypes.toList).any (Program.wideKeysFrom Tryz.pinned.checked.prog ·))=true:=by kernel_rfl
theorem jf18:(Rows.mountJoinsSpec.vars.all (Program.varReadable Tryz.pinned.checked.prog ·))=true:=by kernel_rfl
theorem jf19:(Tryz.f4.resultTypes.all (fun t=>Program.readableRec Tryz.pinned.checked.prog t&&decide (t<Tryz.pinned.checked.prog.types.size)))=true:=by kernel_rfl
theorem jf20:(Rows.mountJoinsRow.ifacesOut==Tryz.f4.resultTypes.toList.any (Program.ifacesRec Tryz.pinned.checked.prog ·))=true:=by kernel_rfl
theorem jf21:(Rows.mountJoinsRow.loopsOut==Tryz.f4.resultTypes.toList.any (Program.loopsFrom Tryz.pinned.checked.prog ·))=true:=by kernel_rfl
theorem jf22:(Rows.mountJoinsRow.plainKeys==Program.plainKeys Tryz.pinned.checked.prog)=true:=by kernel_rfl
theorem jf23:(Rows.mountJoinsRow.shortTexts.isNone)=true:=by kernel_rfl
theorem jf24:(Program.stopsHeard Tryz.pinned.checked.prog)=true:=by kernel_rfl
theorem jf25:(Program.mayEnter Tryz.pinned.checked.prog)=true:=by kernel_rfl
theorem jf26:(Rows.mountJoinsRow.lifted==Program.liftsFinal Tryz.pinned.checked.prog)=true:=by kernel_rfl
theorem jf27:(Program.make Tryz.pinned.checked.prog==some Rows.mountJoinsRow.make)=true:=by kernel_rfl
theorem jf28:(Rows.mountJoinsRow.kinds==(if Rows.mountJoinsRow.domain.isEmpty then [] else Tryz.f4.params.toList.map fun t=>match Program.underlying Tryz.pinned.checked.prog t with | some (.int k)=>some k | _=>none))=true:=by kernel_rfl
theorem jf29:(Rows.mountJoinsRow.pinned==Rows.mountJoinsRow.pinnedBy)=true:=by kernel_rfl
theorem jf30:(Rows.mountJoinsRow.veiled==(Tryz.f4.params.toList++Rows.mountJoinsSpec.plain.varTypes Tryz.pinned.checked.prog++Tryz.f4.resultTypes.toList).any (Program.veiledRec Tryz.pinned.checked.prog ·))=true:=by kernel_rfl
theorem jf31:(Rows.mountJoinsRow.veiledFits Tryz.pinned.checked.prog Tryz.f4.params.toList (Tryz.f4.params.toList++Rows.mountJoinsSpec.plain.varTypes Tryz.pinned.checked.prog++Tryz.f4.resultTypes.toList))=true:=by kernel_rfl
theorem closed:joinedFacts Tryz.pinned.checked.prog 4 Tryz.f4 Rows.mountJoinsSpec Rows.mountJoinsRow=true:=(and_tt2 (and_tt2 (and_tt2 (and_tt2 (and_tt2 (and_tt2 (and_tt2 (and_tt2 (and_tt2 (and_tt2 (and_tt2 (and_tt2 (and_tt2 (and_tt2 (and_tt2 (and_tt2 (and_tt2 (and_tt2 (and_tt2 (and_tt2 (and_tt2 (and_tt2 (and_tt2 (and_tt2 (and_tt2 (and_tt2 (and_tt2 (and_tt2 (and_tt2 (and_tt2 (and_tt2 jf0 jf1) jf2) jf3) jf4) jf5) jf6) jf7) jf8) jf9) jf10) jf11) jf12) jf13) jf14) jf15) jf16) jf17) jf18) jf19) jf20) jf21) jf22) jf23) jf24) jf25) jf26) jf27) jf28) jf29) jf30) jf31)
end Go.Proofs.YtakljpcmbpaeaaaGreat.mountJoins
