/- The example: facts of level 1. -/
import Derived.Test.YtkjihmlighigjaaGreatRepairAliveM42
import Derived.Test.YtkjihmlighigjaaGreatRepairAliveM43
import Derived.Test.YtkjihmlighigjaaGreatRepairAliveM45
import Derived.Test.YtkjihmlighigjaaGreatRepairAliveM46
import Derived.Test.YtkjihmlighigjaaGreatRepairAliveM47
import Derived.Test.YtkjihmlighigjaaGreatRepairAliveM48
set_option linter.unusedSimpArgs false
set_option linter.unusedVariables false
namespace Go.Proofs.YtkjihmlighigjaaGreat
open Go.RowKit
set_option maxRecDepth 100000
set_option maxHeartbeats 16000000

abbrev wa8 : List V := [wv11, zI, wv14]
abbrev wr8 : V := .tup [wv16, wv1, zI]
theorem wf8 : Con Tryz.prog 45 wa8 (· = wr8) := con_of_xrun mixed (sp := tabS ((18, spQ [(wa7, wr7)]) :: spW)) (tabS_cons (spQ_ok (.cons wf7 (by kernel_rfl) .nil)) spW_ok) 1000 30 (by kernel_rfl)
abbrev wa24 : List V := [wv0, wv29]
abbrev wr24 : V := wv30
theorem wf24 : Con Tryz.prog 44 wa24 (· = wr24) := con_of_xrun mixed (sp := tabS ((82, spQ [(wa23, wr23)]) :: spW)) (tabS_cons (spQ_ok (.cons wf23 (by kernel_rfl) .nil)) spW_ok) 1000 30 (by kernel_rfl)
abbrev wa34 : List V := [wv0, wv38]
abbrev wr34 : V := wv39
theorem wf34 : Con Tryz.prog 44 wa34 (· = wr34) := con_of_xrun mixed (sp := tabS ((82, spQ [(wa33, wr33)]) :: spW)) (tabS_cons (spQ_ok (.cons wf33 (by kernel_rfl) .nil)) spW_ok) 1000 30 (by kernel_rfl)
abbrev wa45 : List V := [wv0, wv44]
abbrev wr45 : V := wv46
theorem wf45 : Con Tryz.prog 44 wa45 (· = wr45) := con_of_xrun mixed (sp := tabS ((82, spQ [(wa44, wr44)]) :: spW)) (tabS_cons (spQ_ok (.cons wf44 (by kernel_rfl) .nil)) spW_ok) 1000 30 (by kernel_rfl)
abbrev wa56 : List V := [wv0, wv52]
abbrev wr56 : V := wv42
theorem wf56 : Con Tryz.prog 44 wa56 (· = wr56) := con_of_xrun mixed (sp := tabS ((82, spQ [(wa55, wr55)]) :: spW)) (tabS_cons (spQ_ok (.cons wf55 (by kernel_rfl) .nil)) spW_ok) 1000 30 (by kernel_rfl)
abbrev wa71 : List V := [wv58, zI, wv63]
abbrev wr71 : V := .tup [wv58, wv2, zI]
theorem wf71 : Con Tryz.prog 45 wa71 (· = wr71) := con_of_xrun mixed (sp := tabS ((18, spQ [(wa70, wr70)]) :: spW)) (tabS_cons (spQ_ok (.cons wf70 (by kernel_rfl) .nil)) spW_ok) 1000 30 (by kernel_rfl)
abbrev wa97 : List V := [wv0, wv79, zS]
abbrev wr97 : V := .tup [.agg [zI, zI, .bool true, zI, zJ 32, zI, zJ 1, zF, zI, zI, zI, wv60, zL, zL, zJ 1, zI, zF, zL, zL, zL, zL, zF, .bool true, .int .i8 13, zI, zI, zK, zI, zS, zI, zI, zK, zI, zS, zK, zI, zI, zI, zI, zS, zI, zI, zI, zS, zI, zF, zF, zL, zI, zT, zI, zI, zK, zI, zI, zK, zI, zL, zL, zI, zI, zI, zI, zL], .agg [zI, zS, zF], .bool true]
theorem wf97 : Con Tryz.prog 46 wa97 (· = wr97) := con_of_xrun mixed (sp := tabS ((129, spQ [(wa96, wr96)]) :: spW)) (tabS_cons (spQ_ok (.cons wf96 (by kernel_rfl) .nil)) spW_ok) 1000 30 (by kernel_rfl)
abbrev wa115 : List V := [wv84, zI, wv30]
abbrev wr115 : V := .tup [wv84, wv45, zI]
theorem wf115 : Con Tryz.prog 45 wa115 (· = wr115) := con_of_xrun mixed (sp := tabS ((18, spQ [(wa107, wr107)]) :: spW)) (tabS_cons (spQ_ok (.cons wf107 (by kernel_rfl) .nil)) spW_ok) 1000 30 (by kernel_rfl)
abbrev wa128 : List V := [wv95, zI, wv39]
abbrev wr128 : V := wv96
theorem wf128 : Con Tryz.prog 45 wa128 (· = wr128) := con_of_xrun mixed (sp := tabS ((18, spQ [(wa127, wr127)]) :: spW)) (tabS_cons (spQ_ok (.cons wf127 (by kernel_rfl) .nil)) spW_ok) 1000 30 (by kernel_rfl)
abbrev wa140 : List V := [wv95, zI, wv104]
abbrev wr140 : V := wv106
theorem wf140 : Con Tryz.prog 45 wa140 (· = wr140) := con_of_xrun mixed (sp := tabS ((18, spQ [(wa127, wr127)]) :: spW)) (tabS_cons (spQ_ok (.cons wf127 (by kernel_rfl) .nil)) spW_ok) 1000 30 (by kernel_rfl)
abbrev wa153 : List V := [wv105, zI, wv42]
abbrev wr153 : V := wv106
theorem wf153 : Con Tryz.prog 45 wa153 (· = wr153) := con_of_xrun mixed (sp := tabS ((18, spQ [(wa146, wr146)]) :: spW)) (tabS_cons (spQ_ok (.cons wf146 (by kernel_rfl) .nil)) spW_ok) 1000 30 (by kernel_rfl)
abbrev wa167 : List V := [wv0, wv120]
abbrev wr167 : V := wv63
theorem wf167 : Con Tryz.prog 7 wa167 (· = wr167) := con_of_xrun mixed (sp := tabS ((26, spQ [(wa166, wr166)]) :: spW)) (tabS_cons (spQ_ok (.cons wf166 (by kernel_rfl) .nil)) spW_ok) 1000 30 (by kernel_rfl)
abbrev wa177 : List V := [wv0, wv122, zS]
abbrev wr177 : V := .tup [.agg [zI, zJ 16, .int .i8 3, zI, zL, zT, zI, zI], zF, zI]
theorem wf177 : Con Tryz.prog 65 wa177 (· = wr177) := con_of_xrun mixed (sp := tabS ((243, spQ [(wa176, wr176)]) :: spW)) (tabS_cons (spQ_ok (.cons wf176 (by kernel_rfl) .nil)) spW_ok) 1000 30 (by kernel_rfl)
abbrev wa188 : List V := [wv115, zI, wv119]
abbrev wr188 : V := wv116
theorem wf188 : Con Tryz.prog 45 wa188 (· = wr188) := con_of_xrun mixed (sp := tabS ((18, spQ [(wa168, wr168)]) :: spW)) (tabS_cons (spQ_ok (.cons wf168 (by kernel_rfl) .nil)) spW_ok) 1000 30 (by kernel_rfl)
abbrev wa201 : List V := [wv115, zI, wv136]
abbrev wr201 : V := wv138
theorem wf201 : Con Tryz.prog 45 wa201 (· = wr201) := con_of_xrun mixed (sp := tabS ((18, spQ [(wa168, wr168)]) :: spW)) (tabS_cons (spQ_ok (.cons wf168 (by kernel_rfl) .nil)) spW_ok) 1000 30 (by kernel_rfl)
abbrev wa214 : List V := [wv137, zI, wv42]
abbrev wr214 : V := wv138
theorem wf214 : Con Tryz.prog 45 wa214 (· = wr214) := con_of_xrun mixed (sp := tabS ((18, spQ [(wa207, wr207)]) :: spW)) (tabS_cons (spQ_ok (.cons wf207 (by kernel_rfl) .nil)) spW_ok) 1000 30 (by kernel_rfl)
abbrev wa227 : List V := [wv147, zI, wv39]
abbrev wr227 : V := wv148
theorem wf227 : Con Tryz.prog 45 wa227 (· = wr227) := con_of_xrun mixed (sp := tabS ((18, spQ [(wa226, wr226)]) :: spW)) (tabS_cons (spQ_ok (.cons wf226 (by kernel_rfl) .nil)) spW_ok) 1000 30 (by kernel_rfl)
abbrev wa239 : List V := [wv147, zI, wv156]
abbrev wr239 : V := .tup [wv157, zS, zI]
theorem wf239 : Con Tryz.prog 45 wa239 (· = wr239) := con_of_xrun mixed (sp := tabS ((18, spQ [(wa226, wr226)]) :: spW)) (tabS_cons (spQ_ok (.cons wf226 (by kernel_rfl) .nil)) spW_ok) 1000 30 (by kernel_rfl)
end Go.Proofs.YtkjihmlighigjaaGreat
