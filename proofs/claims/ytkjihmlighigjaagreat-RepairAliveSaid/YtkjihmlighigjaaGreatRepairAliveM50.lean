/- The example: facts of level 1. -/
import Derived.Test.YtkjihmlighigjaaGreatRepairAliveM42
import Derived.Test.YtkjihmlighigjaaGreatRepairAliveM43
import Derived.Test.YtkjihmlighigjaaGreatRepairAliveM45
import Derived.Test.YtkjihmlighigjaaGreatRepairAliveM46
import Derived.Test.YtkjihmlighigjaaGreatRepairAliveM47
import Derived.Test.YtkjihmlighigjaaGreatRepairAliveM48
set_option linter.unusedSimpArgs false
set_option linter.unusedVariables false
namespace Go.Proofs.YtkjihmlighigjaaGreat
open Go.RowKit
set_option maxRecDepth 100000
set_option maxHeartbeats 16000000

abbrev wa12 : List V := [wv16, zI, wv19]
abbrev wr12 : V := wv21
theorem wf12 : Con Tryz.prog 45 wa12 (· = wr12) := con_of_xrun mixed (sp := tabS ((18, spQ [(wa11, wr11)]) :: spW)) (tabS_cons (spQ_ok (.cons wf11 (by kernel_rfl) .nil)) spW_ok) 1000 30 (by kernel_rfl)
abbrev wa25 : List V := [wv20, zI, wv30]
abbrev wr25 : V := wv21
theorem wf25 : Con Tryz.prog 45 wa25 (· = wr25) := con_of_xrun mixed (sp := tabS ((18, spQ [(wa15, wr15)]) :: spW)) (tabS_cons (spQ_ok (.cons wf15 (by kernel_rfl) .nil)) spW_ok) 1000 30 (by kernel_rfl)
abbrev wa36 : List V := [wv35, zI, wv39]
abbrev wr36 : V := wv36
theorem wf36 : Con Tryz.prog 45 wa36 (· = wr36) := con_of_xrun mixed (sp := tabS ((18, spQ [(wa35, wr35)]) :: spW)) (tabS_cons (spQ_ok (.cons wf35 (by kernel_rfl) .nil)) spW_ok) 1000 30 (by kernel_rfl)
abbrev wa46 : List V := [wv35, zI, wv46]
abbrev wr46 : V := wv48
theorem wf46 : Con Tryz.prog 45 wa46 (· = wr46) := con_of_xrun mixed (sp := tabS ((18, spQ [(wa35, wr35)]) :: spW)) (tabS_cons (spQ_ok (.cons wf35 (by kernel_rfl) .nil)) spW_ok) 1000 30 (by kernel_rfl)
abbrev wa57 : List V := [wv47, zI, wv42]
abbrev wr57 : V := wv48
theorem wf57 : Con Tryz.prog 45 wa57 (· = wr57) := con_of_xrun mixed (sp := tabS ((18, spQ [(wa51, wr51)]) :: spW)) (tabS_cons (spQ_ok (.cons wf51 (by kernel_rfl) .nil)) spW_ok) 1000 30 (by kernel_rfl)
abbrev wa75 : List V := [wv0, wv58, .agg [zI, zI, .bool true, zI, zJ 16, zI, zJ 1, .bool true, zI, zI, zI, wv60, zL, zL, zJ 1, zJ 1, zF, zL, zL, zL, zL, zF, zF, zK, zI, zI, zK, zI, zS, zI, zI, zK, zI, zS, zK, zI, zI, zI, zI, zS, zI, zI, zI, zS, zI, zF, zF, zL, zI, zL, zI, zI, zK, zI, zI, zK, zI, zL, zL, zI, zI, zI, zI, zL], wv65, zJ 60]
abbrev wr75 : V := .tup [wv58, .agg [zI, zI, .bool true, zI, zJ 16, zI, zJ 1, .bool true, zI, zI, zI, wv60, zL, zL, zJ 1, zJ 1, zF, zL, zL, zL, zL, zF, zF, .int .i8 6, zI, zI, zK, zI, zS, zI, zJ 16, zK, zI, zS, zK, zI, zI, zI, zI, zS, zI, zI, zI, zS, zI, zF, zF, zL, zI, zL, zI, zI, zK, zI, zI, zK, zI, zT, zT, zI, zI, zI, zI, zL], .agg [zJ 261, zS, zF], zI, .bool true]
theorem wf75 : Con Tryz.prog 15 wa75 (· = wr75) := con_of_xrun mixed (sp := tabS ((6, spQ [(wa74, wr74)]) :: spW)) (tabS_cons (spQ_ok (.cons wf74 (by kernel_rfl) .nil)) spW_ok) 1000 30 (by kernel_rfl)
abbrev wa102 : List V := [wv76, zI, wv83]
abbrev wr102 : V := wv85
theorem wf102 : Con Tryz.prog 45 wa102 (· = wr102) := con_of_xrun mixed (sp := tabS ((18, spQ [(wa90, wr90)]) :: spW)) (tabS_cons (spQ_ok (.cons wf90 (by kernel_rfl) .nil)) spW_ok) 1000 30 (by kernel_rfl)
abbrev wa117 : List V := [wv0, wv90, wv45]
abbrev wr117 : V := .tup [wv92, .agg [zI, zS, zF], zF]
theorem wf117 : Con Tryz.prog 9 wa117 (· = wr117) := con_of_xrun mixed (sp := tabS ((63, spQ [(wa116, wr116)]) :: ((25, spQ [(wa113, wr113)]) :: spW))) (tabS_cons (spQ_ok (.cons wf116 (by kernel_rfl) .nil)) (tabS_cons (spQ_ok (.cons wf113 (by kernel_rfl) .nil)) spW_ok)) 1000 30 (by kernel_rfl)
abbrev wa130 : List V := [wv0, wv98, zS]
abbrev wr130 : V := .tup [wv100, .agg [zI, zS, zF], zF]
theorem wf130 : Con Tryz.prog 9 wa130 (· = wr130) := con_of_xrun mixed (sp := tabS ((63, spQ [(wa129, wr129)]) :: ((25, spQ [(wa125, wr125)]) :: spW))) (tabS_cons (spQ_ok (.cons wf129 (by kernel_rfl) .nil)) (tabS_cons (spQ_ok (.cons wf125 (by kernel_rfl) .nil)) spW_ok)) 1000 30 (by kernel_rfl)
abbrev wa142 : List V := [wv0, wv102, zS]
abbrev wr142 : V := .tup [wv108, .agg [zI, zS, zF], zF]
theorem wf142 : Con Tryz.prog 9 wa142 (· = wr142) := con_of_xrun mixed (sp := tabS ((63, spQ [(wa141, wr141)]) :: ((25, spQ [(wa138, wr138)]) :: spW))) (tabS_cons (spQ_ok (.cons wf141 (by kernel_rfl) .nil)) (tabS_cons (spQ_ok (.cons wf138 (by kernel_rfl) .nil)) spW_ok)) 1000 30 (by kernel_rfl)
abbrev wa155 : List V := [wv0, wv110, zS]
abbrev wr155 : V := .tup [wv112, .agg [zI, zS, zF], zF]
theorem wf155 : Con Tryz.prog 9 wa155 (· = wr155) := con_of_xrun mixed (sp := tabS ((63, spQ [(wa154, wr154)]) :: ((25, spQ [(wa151, wr151)]) :: spW))) (tabS_cons (spQ_ok (.cons wf154 (by kernel_rfl) .nil)) (tabS_cons (spQ_ok (.cons wf151 (by kernel_rfl) .nil)) spW_ok)) 1000 30 (by kernel_rfl)
abbrev wa169 : List V := [wv115, zI, wv63]
abbrev wr169 : V := .tup [wv115, wv2, zI]
theorem wf169 : Con Tryz.prog 45 wa169 (· = wr169) := con_of_xrun mixed (sp := tabS ((18, spQ [(wa168, wr168)]) :: spW)) (tabS_cons (spQ_ok (.cons wf168 (by kernel_rfl) .nil)) spW_ok) 1000 30 (by kernel_rfl)
abbrev wa179 : List V := [wv0, wv125]
abbrev wr179 : V := wv119
theorem wf179 : Con Tryz.prog 44 wa179 (· = wr179) := con_of_xrun mixed (sp := tabS ((82, spQ [(wa164, wr164)]) :: spW)) (tabS_cons (spQ_ok (.cons wf164 (by kernel_rfl) .nil)) spW_ok) 1000 30 (by kernel_rfl)
abbrev wa190 : List V := [wv0, wv130, wv118, zJ 2, zS]
abbrev wr190 : V := .tup [wv131, wv118, zJ 2, zF, zI]
theorem wf190 : Con Tryz.prog 63 wa190 (· = wr190) := con_of_xrun mixed (sp := tabS ((177, spQ [(wa189, wr189)]) :: spW)) (tabS_cons (spQ_ok (.cons wf189 (by kernel_rfl) .nil)) spW_ok) 1000 30 (by kernel_rfl)
abbrev wa203 : List V := [wv0, wv134, zS]
abbrev wr203 : V := .tup [wv140, .agg [zI, zS, zF], zF]
theorem wf203 : Con Tryz.prog 9 wa203 (· = wr203) := con_of_xrun mixed (sp := tabS ((63, spQ [(wa202, wr202)]) :: ((25, spQ [(wa199, wr199)]) :: spW))) (tabS_cons (spQ_ok (.cons wf202 (by kernel_rfl) .nil)) (tabS_cons (spQ_ok (.cons wf199 (by kernel_rfl) .nil)) spW_ok)) 1000 30 (by kernel_rfl)
abbrev wa216 : List V := [wv0, wv142, zS]
abbrev wr216 : V := .tup [wv144, .agg [zI, zS, zF], zF]
theorem wf216 : Con Tryz.prog 9 wa216 (· = wr216) := con_of_xrun mixed (sp := tabS ((63, spQ [(wa215, wr215)]) :: ((25, spQ [(wa212, wr212)]) :: spW))) (tabS_cons (spQ_ok (.cons wf215 (by kernel_rfl) .nil)) (tabS_cons (spQ_ok (.cons wf212 (by kernel_rfl) .nil)) spW_ok)) 1000 30 (by kernel_rfl)
abbrev wa229 : List V := [wv0, wv150, zS]
abbrev wr229 : V := .tup [wv152, .agg [zI, zS, zF], zF]
theorem wf229 : Con Tryz.prog 9 wa229 (· = wr229) := con_of_xrun mixed (sp := tabS ((63, spQ [(wa228, wr228)]) :: ((25, spQ [(wa224, wr224)]) :: spW))) (tabS_cons (spQ_ok (.cons wf228 (by kernel_rfl) .nil)) (tabS_cons (spQ_ok (.cons wf224 (by kernel_rfl) .nil)) spW_ok)) 1000 30 (by kernel_rfl)
abbrev wa241 : List V := [wv0, wv153, wv118, zJ 2, zS]
abbrev wr241 : V := .tup [.agg [zI, wv128, zK, zI, zI, zI, zI, zS, zI, zI, zI, zS, zJ 48, zF, zF], wv158, zJ 3, .bool true, zI]
theorem wf241 : Con Tryz.prog 63 wa241 (· = wr241) := con_of_xrun mixed (sp := tabS ((190, spQ [(wa240, wr240)]) :: spW)) (tabS_cons (spQ_ok (.cons wf240 (by kernel_rfl) .nil)) spW_ok) 1000 30 (by kernel_rfl)
end Go.Proofs.YtkjihmlighigjaaGreat

namespace Go.Proofs.YtkjihmlighigjaaGreat
open Go.RowKit
set_option maxRecDepth 100000
set_option maxHeartbeats 16000000

abbrev wa16 : List V := [wv20, zI, wv23]
abbrev wr16 : V := wv21
theorem wf16 : Con Tryz.prog 45 wa16 (· = wr16) := con_of_xrun mixed (sp := tabS ((18, spQ [(wa15, wr15)]) :: spW)) (tabS_cons (spQ_ok (.cons wf15 (by kernel_rfl) .nil)) spW_ok) 1000 30 (by kernel_rfl)
abbrev wa27 : List V := [wv0, wv29, zS]
abbrev wr27 : V := .tup [wv32, .agg [zI, zS, zF], zF]
theorem wf27 : Con Tryz.prog 46 wa27 (· = wr27) := con_of_xrun mixed (sp := tabS ((130, spQ [(wa26, wr26)]) :: ((82, spQ [(wa23, wr23)]) :: spW))) (tabS_cons (spQ_ok (.cons wf26 (by kernel_rfl) .nil)) (tabS_cons (spQ_ok (.cons wf23 (by kernel_rfl) .nil)) spW_ok)) 1000 30 (by kernel_rfl)
abbrev wa38 : List V := [wv0, wv38, zS]
abbrev wr38 : V := .tup [wv41, .agg [zI, zS, zF], zF]
theorem wf38 : Con Tryz.prog 46 wa38 (· = wr38) := con_of_xrun mixed (sp := tabS ((130, spQ [(wa37, wr37)]) :: ((82, spQ [(wa33, wr33)]) :: spW))) (tabS_cons (spQ_ok (.cons wf37 (by kernel_rfl) .nil)) (tabS_cons (spQ_ok (.cons wf33 (by kernel_rfl) .nil)) spW_ok)) 1000 30 (by kernel_rfl)
abbrev wa48 : List V := [wv0, wv44, zS]
abbrev wr48 : V := .tup [wv50, .agg [zI, zS, zF], zF]
theorem wf48 : Con Tryz.prog 46 wa48 (· = wr48) := con_of_xrun mixed (sp := tabS ((130, spQ [(wa47, wr47)]) :: ((82, spQ [(wa44, wr44)]) :: spW))) (tabS_cons (spQ_ok (.cons wf47 (by kernel_rfl) .nil)) (tabS_cons (spQ_ok (.cons wf44 (by kernel_rfl) .nil)) spW_ok)) 1000 30 (by kernel_rfl)
abbrev wa59 : List V := [wv0, wv52, zS]
abbrev wr59 : V := .tup [wv54, .agg [zI, zS, zF], zF]
theorem wf59 : Con Tryz.prog 46 wa59 (· = wr59) := con_of_xrun mixed (sp := tabS ((130, spQ [(wa58, wr58)]) :: ((82, spQ [(wa55, wr55)]) :: spW))) (tabS_cons (spQ_ok (.cons wf58 (by kernel_rfl) .nil)) (tabS_cons (spQ_ok (.cons wf55 (by kernel_rfl) .nil)) spW_ok)) 1000 30 (by kernel_rfl)
abbrev wa83 : List V := [wv69, zI, wv14]
abbrev wr83 : V := .tup [wv71, wv1, zI]
theorem wf83 : Con Tryz.prog 45 wa83 (· = wr83) := con_of_xrun mixed (sp := tabS ((18, spQ [(wa82, wr82)]) :: spW)) (tabS_cons (spQ_ok (.cons wf82 (by kernel_rfl) .nil)) spW_ok) 1000 30 (by kernel_rfl)
abbrev wa106 : List V := [wv0, wv87]
abbrev wr106 : V := wv80
theorem wf106 : Con Tryz.prog 7 wa106 (· = wr106) := con_of_xrun mixed (sp := tabS ((25, spQ [(wa105, wr105)]) :: spW)) (tabS_cons (spQ_ok (.cons wf105 (by kernel_rfl) .nil)) spW_ok) 1000 30 (by kernel_rfl)
abbrev wa120 : List V := [wv0, wv92]
abbrev wr120 : V := wv94
theorem wf120 : Con Tryz.prog 7 wa120 (· = wr120) := con_of_xrun mixed (sp := tabS ((25, spQ [(wa119, wr119)]) :: spW)) (tabS_cons (spQ_ok (.cons wf119 (by kernel_rfl) .nil)) spW_ok) 1000 30 (by kernel_rfl)
abbrev wa133 : List V := [wv0, wv100]
abbrev wr133 : V := wv42
theorem wf133 : Con Tryz.prog 7 wa133 (· = wr133) := con_of_xrun mixed (sp := tabS ((25, spQ [(wa132, wr132)]) :: spW)) (tabS_cons (spQ_ok (.cons wf132 (by kernel_rfl) .nil)) spW_ok) 1000 30 (by kernel_rfl)
abbrev wa145 : List V := [wv0, wv108]
abbrev wr145 : V := wv39
theorem wf145 : Con Tryz.prog 7 wa145 (· = wr145) := con_of_xrun mixed (sp := tabS ((25, spQ [(wa144, wr144)]) :: spW)) (tabS_cons (spQ_ok (.cons wf144 (by kernel_rfl) .nil)) spW_ok) 1000 30 (by kernel_rfl)
abbrev wa158 : List V := [wv0, wv112]
abbrev wr158 : V := wv114
theorem wf158 : Con Tryz.prog 7 wa158 (· = wr158) := con_of_xrun mixed (sp := tabS ((25, spQ [(wa157, wr157)]) :: spW)) (tabS_cons (spQ_ok (.cons wf157 (by kernel_rfl) .nil)) spW_ok) 1000 30 (by kernel_rfl)
abbrev wa171 : List V := [wv0, wv120, wv2]
abbrev wr171 : V := .tup [wv123, .agg [zI, zS, zF], zF]
theorem wf171 : Con Tryz.prog 9 wa171 (· = wr171) := con_of_xrun mixed (sp := tabS ((65, spQ [(wa170, wr170)]) :: spW)) (tabS_cons (spQ_ok (.cons wf170 (by kernel_rfl) .nil)) spW_ok) 1000 30 (by kernel_rfl)
abbrev wa181 : List V := [wv0, wv125]
abbrev wr181 : V := wv127
theorem wf181 : Con Tryz.prog 7 wa181 (· = wr181) := con_of_xrun mixed (sp := tabS ((26, spQ [(wa180, wr180)]) :: spW)) (tabS_cons (spQ_ok (.cons wf180 (by kernel_rfl) .nil)) spW_ok) 1000 30 (by kernel_rfl)
abbrev wa194 : List V := [wv0, wv132]
abbrev wr194 : V := wv30
theorem wf194 : Con Tryz.prog 7 wa194 (· = wr194) := con_of_xrun mixed (sp := tabS ((25, spQ [(wa193, wr193)]) :: spW)) (tabS_cons (spQ_ok (.cons wf193 (by kernel_rfl) .nil)) spW_ok) 1000 30 (by kernel_rfl)
abbrev wa206 : List V := [wv0, wv140]
abbrev wr206 : V := wv39
theorem wf206 : Con Tryz.prog 7 wa206 (· = wr206) := con_of_xrun mixed (sp := tabS ((25, spQ [(wa205, wr205)]) :: spW)) (tabS_cons (spQ_ok (.cons wf205 (by kernel_rfl) .nil)) spW_ok) 1000 30 (by kernel_rfl)
abbrev wa219 : List V := [wv0, wv144]
abbrev wr219 : V := wv146
theorem wf219 : Con Tryz.prog 7 wa219 (· = wr219) := con_of_xrun mixed (sp := tabS ((25, spQ [(wa218, wr218)]) :: spW)) (tabS_cons (spQ_ok (.cons wf218 (by kernel_rfl) .nil)) spW_ok) 1000 30 (by kernel_rfl)
abbrev wa232 : List V := [wv0, wv152]
abbrev wr232 : V := wv42
theorem wf232 : Con Tryz.prog 7 wa232 (· = wr232) := con_of_xrun mixed (sp := tabS ((25, spQ [(wa231, wr231)]) :: spW)) (tabS_cons (spQ_ok (.cons wf231 (by kernel_rfl) .nil)) spW_ok) 1000 30 (by kernel_rfl)
end Go.Proofs.YtkjihmlighigjaaGreat
