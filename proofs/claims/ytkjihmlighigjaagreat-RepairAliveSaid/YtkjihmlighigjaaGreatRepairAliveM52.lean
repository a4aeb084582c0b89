/- The example: facts of level 1. -/
import Derived.Test.YtkjihmlighigjaaGreatRepairAliveM42
import Derived.Test.YtkjihmlighigjaaGreatRepairAliveM43
import Derived.Test.YtkjihmlighigjaaGreatRepairAliveM45
import Derived.Test.YtkjihmlighigjaaGreatRepairAliveM46
import Derived.Test.YtkjihmlighigjaaGreatRepairAliveM47
import Derived.Test.YtkjihmlighigjaaGreatRepairAliveM48
set_option linter.unusedSimpArgs false
set_option linter.unusedVariables false
namespace Go.Proofs.YtkjihmlighigjaaGreat
open Go.RowKit
set_option maxRecDepth 100000
set_option maxHeartbeats 16000000

abbrev wa20 : List V := [wv0, wv26]
abbrev wr20 : V := wv23
theorem wf20 : Con Tryz.prog 44 wa20 (· = wr20) := con_of_xrun mixed (sp := tabS ((82, spQ [(wa19, wr19)]) :: spW)) (tabS_cons (spQ_ok (.cons wf19 (by kernel_rfl) .nil)) spW_ok) 1000 30 (by kernel_rfl)
abbrev wa30 : List V := [wv20, zI, wv34]
abbrev wr30 : V := wv36
theorem wf30 : Con Tryz.prog 45 wa30 (· = wr30) := con_of_xrun mixed (sp := tabS ((18, spQ [(wa15, wr15)]) :: spW)) (tabS_cons (spQ_ok (.cons wf15 (by kernel_rfl) .nil)) spW_ok) 1000 30 (by kernel_rfl)
abbrev wa41 : List V := [wv35, zI, wv42]
abbrev wr41 : V := wv36
theorem wf41 : Con Tryz.prog 45 wa41 (· = wr41) := con_of_xrun mixed (sp := tabS ((18, spQ [(wa35, wr35)]) :: spW)) (tabS_cons (spQ_ok (.cons wf35 (by kernel_rfl) .nil)) spW_ok) 1000 30 (by kernel_rfl)
abbrev wa52 : List V := [wv47, zI, wv39]
abbrev wr52 : V := wv48
theorem wf52 : Con Tryz.prog 45 wa52 (· = wr52) := con_of_xrun mixed (sp := tabS ((18, spQ [(wa51, wr51)]) :: spW)) (tabS_cons (spQ_ok (.cons wf51 (by kernel_rfl) .nil)) spW_ok) 1000 30 (by kernel_rfl)
abbrev wa62 : List V := [wv47, zI, wv56]
abbrev wr62 : V := .tup [wv58, zS, zI]
theorem wf62 : Con Tryz.prog 45 wa62 (· = wr62) := con_of_xrun mixed (sp := tabS ((18, spQ [(wa51, wr51)]) :: spW)) (tabS_cons (spQ_ok (.cons wf51 (by kernel_rfl) .nil)) spW_ok) 1000 30 (by kernel_rfl)
abbrev wa91 : List V := [wv76, zI, wv23]
abbrev wr91 : V := .tup [wv76, wv55, zI]
theorem wf91 : Con Tryz.prog 45 wa91 (· = wr91) := con_of_xrun mixed (sp := tabS ((18, spQ [(wa90, wr90)]) :: spW)) (tabS_cons (spQ_ok (.cons wf90 (by kernel_rfl) .nil)) spW_ok) 1000 30 (by kernel_rfl)
abbrev wa110 : List V := [wv0, wv88, wv61, zJ 1, zS]
abbrev wr110 : V := .tup [wv89, wv61, zJ 1, zF, zI]
theorem wf110 : Con Tryz.prog 63 wa110 (· = wr110) := con_of_xrun mixed (sp := tabS ((177, spQ [(wa109, wr109)]) :: spW)) (tabS_cons (spQ_ok (.cons wf109 (by kernel_rfl) .nil)) spW_ok) 1000 30 (by kernel_rfl)
abbrev wa123 : List V := [wv0, wv92, zS]
abbrev wr123 : V := .tup [wv98, .agg [zI, zS, zF], zF]
theorem wf123 : Con Tryz.prog 9 wa123 (· = wr123) := con_of_xrun mixed (sp := tabS ((63, spQ [(wa122, wr122)]) :: ((25, spQ [(wa119, wr119)]) :: spW))) (tabS_cons (spQ_ok (.cons wf122 (by kernel_rfl) .nil)) (tabS_cons (spQ_ok (.cons wf119 (by kernel_rfl) .nil)) spW_ok)) 1000 30 (by kernel_rfl)
abbrev wa136 : List V := [wv0, wv100, zS]
abbrev wr136 : V := .tup [wv102, .agg [zI, zS, zF], zF]
theorem wf136 : Con Tryz.prog 9 wa136 (· = wr136) := con_of_xrun mixed (sp := tabS ((63, spQ [(wa135, wr135)]) :: ((25, spQ [(wa132, wr132)]) :: spW))) (tabS_cons (spQ_ok (.cons wf135 (by kernel_rfl) .nil)) (tabS_cons (spQ_ok (.cons wf132 (by kernel_rfl) .nil)) spW_ok)) 1000 30 (by kernel_rfl)
abbrev wa149 : List V := [wv0, wv108, zS]
abbrev wr149 : V := .tup [wv110, .agg [zI, zS, zF], zF]
theorem wf149 : Con Tryz.prog 9 wa149 (· = wr149) := con_of_xrun mixed (sp := tabS ((63, spQ [(wa148, wr148)]) :: ((25, spQ [(wa144, wr144)]) :: spW))) (tabS_cons (spQ_ok (.cons wf148 (by kernel_rfl) .nil)) (tabS_cons (spQ_ok (.cons wf144 (by kernel_rfl) .nil)) spW_ok)) 1000 30 (by kernel_rfl)
abbrev wa161 : List V := [wv0, wv111, wv61, zJ 1, zS]
abbrev wr161 : V := .tup [.agg [zI, wv86, zK, zI, zI, zI, zI, zS, zI, zI, zI, zS, zJ 32, zF, zF], wv118, zJ 2, .bool true, zI]
theorem wf161 : Con Tryz.prog 63 wa161 (· = wr161) := con_of_xrun mixed (sp := tabS ((190, spQ [(wa160, wr160)]) :: spW)) (tabS_cons (spQ_ok (.cons wf160 (by kernel_rfl) .nil)) spW_ok) 1000 30 (by kernel_rfl)
abbrev wa174 : List V := [wv0, wv123]
abbrev wr174 : V := wv124
theorem wf174 : Con Tryz.prog 7 wa174 (· = wr174) := con_of_xrun mixed (sp := tabS ((26, spQ [(wa173, wr173)]) :: spW)) (tabS_cons (spQ_ok (.cons wf173 (by kernel_rfl) .nil)) spW_ok) 1000 30 (by kernel_rfl)
abbrev wa184 : List V := [wv0, wv125, zS]
abbrev wr184 : V := .tup [.agg [zI, zI, .bool true, zI, zJ 32, zI, zJ 1, zF, zI, zI, zI, wv117, zL, zL, zJ 2, zJ 2, zF, zL, zL, zL, zL, zF, .bool true, .int .i8 6, zI, zI, zK, zI, zS, zI, zJ 16, .int .i8 5, zI, wv128, zK, zI, zI, zI, zI, zS, zI, zI, zI, zS, zI, zF, zF, zL, zI, zL, zI, zI, zK, zI, zI, zK, zI, zT, zT, zI, zI, zI, zI, zL], .agg [zI, zS, zF], zF]
theorem wf184 : Con Tryz.prog 9 wa184 (· = wr184) := con_of_xrun mixed (sp := tabS ((65, spQ [(wa183, wr183)]) :: spW)) (tabS_cons (spQ_ok (.cons wf183 (by kernel_rfl) .nil)) spW_ok) 1000 30 (by kernel_rfl)
abbrev wa197 : List V := [wv0, wv132, wv103]
abbrev wr197 : V := .tup [wv134, .agg [zI, zS, zF], zF]
theorem wf197 : Con Tryz.prog 9 wa197 (· = wr197) := con_of_xrun mixed (sp := tabS ((63, spQ [(wa196, wr196)]) :: ((25, spQ [(wa193, wr193)]) :: spW))) (tabS_cons (spQ_ok (.cons wf196 (by kernel_rfl) .nil)) (tabS_cons (spQ_ok (.cons wf193 (by kernel_rfl) .nil)) spW_ok)) 1000 30 (by kernel_rfl)
abbrev wa210 : List V := [wv0, wv140, zS]
abbrev wr210 : V := .tup [wv142, .agg [zI, zS, zF], zF]
theorem wf210 : Con Tryz.prog 9 wa210 (· = wr210) := con_of_xrun mixed (sp := tabS ((63, spQ [(wa209, wr209)]) :: ((25, spQ [(wa205, wr205)]) :: spW))) (tabS_cons (spQ_ok (.cons wf209 (by kernel_rfl) .nil)) (tabS_cons (spQ_ok (.cons wf205 (by kernel_rfl) .nil)) spW_ok)) 1000 30 (by kernel_rfl)
abbrev wa222 : List V := [wv0, wv144, zS]
abbrev wr222 : V := .tup [wv150, .agg [zI, zS, zF], zF]
theorem wf222 : Con Tryz.prog 9 wa222 (· = wr222) := con_of_xrun mixed (sp := tabS ((63, spQ [(wa221, wr221)]) :: ((25, spQ [(wa218, wr218)]) :: spW))) (tabS_cons (spQ_ok (.cons wf221 (by kernel_rfl) .nil)) (tabS_cons (spQ_ok (.cons wf218 (by kernel_rfl) .nil)) spW_ok)) 1000 30 (by kernel_rfl)
abbrev wa235 : List V := [wv0, wv152, zS]
abbrev wr235 : V := .tup [wv154, .agg [zI, zS, zF], zF]
theorem wf235 : Con Tryz.prog 9 wa235 (· = wr235) := con_of_xrun mixed (sp := tabS ((63, spQ [(wa234, wr234)]) :: ((25, spQ [(wa231, wr231)]) :: spW))) (tabS_cons (spQ_ok (.cons wf234 (by kernel_rfl) .nil)) (tabS_cons (spQ_ok (.cons wf231 (by kernel_rfl) .nil)) spW_ok)) 1000 30 (by kernel_rfl)
end Go.Proofs.YtkjihmlighigjaaGreat

namespace Go.Proofs.YtkjihmlighigjaaGreat
open Go.RowKit
set_option maxRecDepth 100000
set_option maxHeartbeats 16000000

abbrev wa21 : List V := [wv0, wv27, wv24, zI, zS]
abbrev wr21 : V := .tup [wv28, wv24, zI, zF, zI]
theorem wf21 : Con Tryz.prog 130 wa21 (· = wr21) := con_of_xrun mixed (sp := tabS ((129, spQ [(wa17, wr17)]) :: spW)) (tabS_cons (spQ_ok (.cons wf17 (by kernel_rfl) .nil)) spW_ok) 1000 30 (by kernel_rfl)
abbrev wa32 : List V := [wv0, wv32, zS]
abbrev wr32 : V := .tup [wv38, .agg [zI, zS, zF], zF]
theorem wf32 : Con Tryz.prog 46 wa32 (· = wr32) := con_of_xrun mixed (sp := tabS ((130, spQ [(wa31, wr31)]) :: ((82, spQ [(wa28, wr28)]) :: spW))) (tabS_cons (spQ_ok (.cons wf31 (by kernel_rfl) .nil)) (tabS_cons (spQ_ok (.cons wf28 (by kernel_rfl) .nil)) spW_ok)) 1000 30 (by kernel_rfl)
abbrev wa43 : List V := [wv0, wv41, zS]
abbrev wr43 : V := .tup [wv44, .agg [zI, zS, zF], zF]
theorem wf43 : Con Tryz.prog 46 wa43 (· = wr43) := con_of_xrun mixed (sp := tabS ((130, spQ [(wa42, wr42)]) :: ((82, spQ [(wa39, wr39)]) :: spW))) (tabS_cons (spQ_ok (.cons wf42 (by kernel_rfl) .nil)) (tabS_cons (spQ_ok (.cons wf39 (by kernel_rfl) .nil)) spW_ok)) 1000 30 (by kernel_rfl)
abbrev wa54 : List V := [wv0, wv50, zS]
abbrev wr54 : V := .tup [wv52, .agg [zI, zS, zF], zF]
theorem wf54 : Con Tryz.prog 46 wa54 (· = wr54) := con_of_xrun mixed (sp := tabS ((130, spQ [(wa53, wr53)]) :: ((82, spQ [(wa49, wr49)]) :: spW))) (tabS_cons (spQ_ok (.cons wf53 (by kernel_rfl) .nil)) (tabS_cons (spQ_ok (.cons wf49 (by kernel_rfl) .nil)) spW_ok)) 1000 30 (by kernel_rfl)
abbrev wa65 : List V := [wv0, wv24, wv59]
abbrev wr65 : V := wv61
theorem wf65 : Con Tryz.prog 167 wa65 (· = wr65) := con_of_xrun mixed (sp := tabS ((17, spQ [(wa63, wr63), (wa64, wr64)]) :: spW)) (tabS_cons (spQ_ok (.cons wf63 (by kernel_rfl) (.cons wf64 (by kernel_rfl) .nil))) spW_ok) 1000 30 (by kernel_rfl)
abbrev wa95 : List V := [wv76, zI, wv80]
abbrev wr95 : V := wv77
theorem wf95 : Con Tryz.prog 45 wa95 (· = wr95) := con_of_xrun mixed (sp := tabS ((18, spQ [(wa90, wr90)]) :: spW)) (tabS_cons (spQ_ok (.cons wf90 (by kernel_rfl) .nil)) spW_ok) 1000 30 (by kernel_rfl)
abbrev wa114 : List V := [wv0, wv90]
abbrev wr114 : V := wv30
theorem wf114 : Con Tryz.prog 7 wa114 (· = wr114) := con_of_xrun mixed (sp := tabS ((25, spQ [(wa113, wr113)]) :: spW)) (tabS_cons (spQ_ok (.cons wf113 (by kernel_rfl) .nil)) spW_ok) 1000 30 (by kernel_rfl)
abbrev wa126 : List V := [wv0, wv98]
abbrev wr126 : V := wv39
theorem wf126 : Con Tryz.prog 7 wa126 (· = wr126) := con_of_xrun mixed (sp := tabS ((25, spQ [(wa125, wr125)]) :: spW)) (tabS_cons (spQ_ok (.cons wf125 (by kernel_rfl) .nil)) spW_ok) 1000 30 (by kernel_rfl)
abbrev wa139 : List V := [wv0, wv102]
abbrev wr139 : V := wv104
theorem wf139 : Con Tryz.prog 7 wa139 (· = wr139) := con_of_xrun mixed (sp := tabS ((25, spQ [(wa138, wr138)]) :: spW)) (tabS_cons (spQ_ok (.cons wf138 (by kernel_rfl) .nil)) spW_ok) 1000 30 (by kernel_rfl)
abbrev wa152 : List V := [wv0, wv110]
abbrev wr152 : V := wv42
theorem wf152 : Con Tryz.prog 7 wa152 (· = wr152) := con_of_xrun mixed (sp := tabS ((25, spQ [(wa151, wr151)]) :: spW)) (tabS_cons (spQ_ok (.cons wf151 (by kernel_rfl) .nil)) spW_ok) 1000 30 (by kernel_rfl)
abbrev wa165 : List V := [wv0, wv120]
abbrev wr165 : V := wv119
theorem wf165 : Con Tryz.prog 44 wa165 (· = wr165) := con_of_xrun mixed (sp := tabS ((82, spQ [(wa164, wr164)]) :: spW)) (tabS_cons (spQ_ok (.cons wf164 (by kernel_rfl) .nil)) spW_ok) 1000 30 (by kernel_rfl)
abbrev wa175 : List V := [wv115, zI, wv124]
abbrev wr175 : V := wv116
theorem wf175 : Con Tryz.prog 45 wa175 (· = wr175) := con_of_xrun mixed (sp := tabS ((18, spQ [(wa168, wr168)]) :: spW)) (tabS_cons (spQ_ok (.cons wf168 (by kernel_rfl) .nil)) spW_ok) 1000 30 (by kernel_rfl)
abbrev wa187 : List V := [wv0, wv129]
abbrev wr187 : V := wv119
theorem wf187 : Con Tryz.prog 7 wa187 (· = wr187) := con_of_xrun mixed (sp := tabS ((25, spQ [(wa186, wr186)]) :: spW)) (tabS_cons (spQ_ok (.cons wf186 (by kernel_rfl) .nil)) spW_ok) 1000 30 (by kernel_rfl)
abbrev wa200 : List V := [wv0, wv134]
abbrev wr200 : V := wv136
theorem wf200 : Con Tryz.prog 7 wa200 (· = wr200) := con_of_xrun mixed (sp := tabS ((25, spQ [(wa199, wr199)]) :: spW)) (tabS_cons (spQ_ok (.cons wf199 (by kernel_rfl) .nil)) spW_ok) 1000 30 (by kernel_rfl)
abbrev wa213 : List V := [wv0, wv142]
abbrev wr213 : V := wv42
theorem wf213 : Con Tryz.prog 7 wa213 (· = wr213) := con_of_xrun mixed (sp := tabS ((25, spQ [(wa212, wr212)]) :: spW)) (tabS_cons (spQ_ok (.cons wf212 (by kernel_rfl) .nil)) spW_ok) 1000 30 (by kernel_rfl)
abbrev wa225 : List V := [wv0, wv150]
abbrev wr225 : V := wv39
theorem wf225 : Con Tryz.prog 7 wa225 (· = wr225) := con_of_xrun mixed (sp := tabS ((25, spQ [(wa224, wr224)]) :: spW)) (tabS_cons (spQ_ok (.cons wf224 (by kernel_rfl) .nil)) spW_ok) 1000 30 (by kernel_rfl)
abbrev wa238 : List V := [wv0, wv154]
abbrev wr238 : V := wv156
theorem wf238 : Con Tryz.prog 7 wa238 (· = wr238) := con_of_xrun mixed (sp := tabS ((25, spQ [(wa237, wr237)]) :: spW)) (tabS_cons (spQ_ok (.cons wf237 (by kernel_rfl) .nil)) spW_ok) 1000 30 (by kernel_rfl)
end Go.Proofs.YtkjihmlighigjaaGreat
