/- The example: facts of level 1. -/
import Derived.Test.YtkjihmlighigjaaGreatRepairAliveM42
import Derived.Test.YtkjihmlighigjaaGreatRepairAliveM43
import Derived.Test.YtkjihmlighigjaaGreatRepairAliveM45
import Derived.Test.YtkjihmlighigjaaGreatRepairAliveM46
import Derived.Test.YtkjihmlighigjaaGreatRepairAliveM47
import Derived.Test.YtkjihmlighigjaaGreatRepairAliveM48
set_option linter.unusedSimpArgs false
set_option linter.unusedVariables false
namespace Go.Proofs.YtkjihmlighigjaaGreat
open Go.RowKit
set_option maxRecDepth 100000
set_option maxHeartbeats 16000000

abbrev wa18 : List V := [wv0, wv22, zS]
abbrev wr18 : V := .tup [wv26, .agg [zI, zS, zF], zF]
theorem wf18 : Con Tryz.prog 46 wa18 (· = wr18) := con_of_xrun mixed (sp := tabS ((129, spQ [(wa17, wr17)]) :: spW)) (tabS_cons (spQ_ok (.cons wf17 (by kernel_rfl) .nil)) spW_ok) 1000 30 (by kernel_rfl)
abbrev wa29 : List V := [wv0, wv32]
abbrev wr29 : V := wv34
theorem wf29 : Con Tryz.prog 44 wa29 (· = wr29) := con_of_xrun mixed (sp := tabS ((82, spQ [(wa28, wr28)]) :: spW)) (tabS_cons (spQ_ok (.cons wf28 (by kernel_rfl) .nil)) spW_ok) 1000 30 (by kernel_rfl)
abbrev wa40 : List V := [wv0, wv41]
abbrev wr40 : V := wv42
theorem wf40 : Con Tryz.prog 44 wa40 (· = wr40) := con_of_xrun mixed (sp := tabS ((82, spQ [(wa39, wr39)]) :: spW)) (tabS_cons (spQ_ok (.cons wf39 (by kernel_rfl) .nil)) spW_ok) 1000 30 (by kernel_rfl)
abbrev wa50 : List V := [wv0, wv50]
abbrev wr50 : V := wv39
theorem wf50 : Con Tryz.prog 44 wa50 (· = wr50) := con_of_xrun mixed (sp := tabS ((82, spQ [(wa49, wr49)]) :: spW)) (tabS_cons (spQ_ok (.cons wf49 (by kernel_rfl) .nil)) spW_ok) 1000 30 (by kernel_rfl)
abbrev wa61 : List V := [wv0, wv54]
abbrev wr61 : V := wv56
theorem wf61 : Con Tryz.prog 44 wa61 (· = wr61) := con_of_xrun mixed (sp := tabS ((82, spQ [(wa60, wr60)]) :: spW)) (tabS_cons (spQ_ok (.cons wf60 (by kernel_rfl) .nil)) spW_ok) 1000 30 (by kernel_rfl)
abbrev wa87 : List V := [wv71, zI, wv74]
abbrev wr87 : V := wv77
theorem wf87 : Con Tryz.prog 45 wa87 (· = wr87) := con_of_xrun mixed (sp := tabS ((18, spQ [(wa86, wr86)]) :: spW)) (tabS_cons (spQ_ok (.cons wf86 (by kernel_rfl) .nil)) spW_ok) 1000 30 (by kernel_rfl)
abbrev wa108 : List V := [wv84, zI, wv80]
abbrev wr108 : V := wv85
theorem wf108 : Con Tryz.prog 45 wa108 (· = wr108) := con_of_xrun mixed (sp := tabS ((18, spQ [(wa107, wr107)]) :: spW)) (tabS_cons (spQ_ok (.cons wf107 (by kernel_rfl) .nil)) spW_ok) 1000 30 (by kernel_rfl)
abbrev wa121 : List V := [wv84, zI, wv94]
abbrev wr121 : V := wv96
theorem wf121 : Con Tryz.prog 45 wa121 (· = wr121) := con_of_xrun mixed (sp := tabS ((18, spQ [(wa107, wr107)]) :: spW)) (tabS_cons (spQ_ok (.cons wf107 (by kernel_rfl) .nil)) spW_ok) 1000 30 (by kernel_rfl)
abbrev wa134 : List V := [wv95, zI, wv42]
abbrev wr134 : V := wv96
theorem wf134 : Con Tryz.prog 45 wa134 (· = wr134) := con_of_xrun mixed (sp := tabS ((18, spQ [(wa127, wr127)]) :: spW)) (tabS_cons (spQ_ok (.cons wf127 (by kernel_rfl) .nil)) spW_ok) 1000 30 (by kernel_rfl)
abbrev wa147 : List V := [wv105, zI, wv39]
abbrev wr147 : V := wv106
theorem wf147 : Con Tryz.prog 45 wa147 (· = wr147) := con_of_xrun mixed (sp := tabS ((18, spQ [(wa146, wr146)]) :: spW)) (tabS_cons (spQ_ok (.cons wf146 (by kernel_rfl) .nil)) spW_ok) 1000 30 (by kernel_rfl)
abbrev wa159 : List V := [wv105, zI, wv114]
abbrev wr159 : V := wv116
theorem wf159 : Con Tryz.prog 45 wa159 (· = wr159) := con_of_xrun mixed (sp := tabS ((18, spQ [(wa146, wr146)]) :: spW)) (tabS_cons (spQ_ok (.cons wf146 (by kernel_rfl) .nil)) spW_ok) 1000 30 (by kernel_rfl)
abbrev wa172 : List V := [wv0, wv123]
abbrev wr172 : V := wv119
theorem wf172 : Con Tryz.prog 44 wa172 (· = wr172) := con_of_xrun mixed (sp := tabS ((82, spQ [(wa164, wr164)]) :: spW)) (tabS_cons (spQ_ok (.cons wf164 (by kernel_rfl) .nil)) spW_ok) 1000 30 (by kernel_rfl)
abbrev wa182 : List V := [wv115, zI, wv127]
abbrev wr182 : V := wv116
theorem wf182 : Con Tryz.prog 45 wa182 (· = wr182) := con_of_xrun mixed (sp := tabS ((18, spQ [(wa168, wr168)]) :: spW)) (tabS_cons (spQ_ok (.cons wf168 (by kernel_rfl) .nil)) spW_ok) 1000 30 (by kernel_rfl)
abbrev wa195 : List V := [wv115, zI, wv30]
abbrev wr195 : V := .tup [wv115, wv103, zI]
theorem wf195 : Con Tryz.prog 45 wa195 (· = wr195) := con_of_xrun mixed (sp := tabS ((18, spQ [(wa168, wr168)]) :: spW)) (tabS_cons (spQ_ok (.cons wf168 (by kernel_rfl) .nil)) spW_ok) 1000 30 (by kernel_rfl)
abbrev wa208 : List V := [wv137, zI, wv39]
abbrev wr208 : V := wv138
theorem wf208 : Con Tryz.prog 45 wa208 (· = wr208) := con_of_xrun mixed (sp := tabS ((18, spQ [(wa207, wr207)]) :: spW)) (tabS_cons (spQ_ok (.cons wf207 (by kernel_rfl) .nil)) spW_ok) 1000 30 (by kernel_rfl)
abbrev wa220 : List V := [wv137, zI, wv146]
abbrev wr220 : V := wv148
theorem wf220 : Con Tryz.prog 45 wa220 (· = wr220) := con_of_xrun mixed (sp := tabS ((18, spQ [(wa207, wr207)]) :: spW)) (tabS_cons (spQ_ok (.cons wf207 (by kernel_rfl) .nil)) spW_ok) 1000 30 (by kernel_rfl)
abbrev wa233 : List V := [wv147, zI, wv42]
abbrev wr233 : V := wv148
theorem wf233 : Con Tryz.prog 45 wa233 (· = wr233) := con_of_xrun mixed (sp := tabS ((18, spQ [(wa226, wr226)]) :: spW)) (tabS_cons (spQ_ok (.cons wf226 (by kernel_rfl) .nil)) spW_ok) 1000 30 (by kernel_rfl)
end Go.Proofs.YtkjihmlighigjaaGreat
