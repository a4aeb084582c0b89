/- The example: facts of level 0. -/
import Derived.Test.YtkjihmlighigjaaGreatRepairAliveM42
import Derived.Test.YtkjihmlighigjaaGreatRepairAliveM43
import Derived.Test.YtkjihmlighigjaaGreatRepairAliveM45
import Derived.Test.YtkjihmlighigjaaGreatRepairAliveM46
set_option linter.unusedSimpArgs false
set_option linter.unusedVariables false
namespace Go.Proofs.YtkjihmlighigjaaGreat
open Go.RowKit
set_option maxRecDepth 100000
set_option maxHeartbeats 16000000

abbrev wa3 : List V := [wv0, wv6]
abbrev wr3 : V := wv7
theorem wf3 : Con Tryz.prog 44 wa3 (· = wr3) := con_of_xrun mixed (sp := tabS spW) spW_ok 1000 30 (by kernel_rfl)
abbrev wa10 : List V := [wv0, wv17]
abbrev wr10 : V := wv19
theorem wf10 : Con Tryz.prog 44 wa10 (· = wr10) := con_of_xrun mixed (sp := tabS spW) spW_ok 1000 30 (by kernel_rfl)
abbrev wa19 : List V := [wv0, wv27, zI]
abbrev wr19 : V := .tup [wv23, zI]
theorem wf19 : Con Tryz.prog 82 wa19 (· = wr19) := con_of_xrun mixed (sp := tabS spW) spW_ok 1000 30 (by kernel_rfl)
abbrev wa35 : List V := [wv35, .sl [[zJ 16]] false]
abbrev wr35 : V := zF
theorem wf35 : Con Tryz.prog 18 wa35 (· = wr35) := con_of_xrun mixed (sp := tabS spW) spW_ok 1000 30 (by kernel_rfl)
abbrev wa49 : List V := [wv0, wv49, zI]
abbrev wr49 : V := .tup [wv39, zI]
theorem wf49 : Con Tryz.prog 82 wa49 (· = wr49) := con_of_xrun mixed (sp := tabS spW) spW_ok 1000 30 (by kernel_rfl)
abbrev wa63 : List V := [wv24, zJ 16]
abbrev wr63 : V := .tup [zI, zF]
theorem wf63 : Con Tryz.prog 17 wa63 (· = wr63) := con_of_xrun mixed (sp := tabS spW) spW_ok 1000 30 (by kernel_rfl)
abbrev wa74 : List V := [wv0, .agg [zI, zI, .bool true, zI, zJ 16, zI, zJ 1, .bool true, zI, zI, zI, wv60, zL, zL, zJ 1, zJ 1, zF, zL, zL, zL, zL, zF, .bool true, .int .i8 6, zI, zI, zK, zI, zS, zI, zJ 16, zK, zI, zS, zK, zI, zI, zI, zI, zS, zI, zI, zI, zS, zI, zF, zF, zL, zI, zL, zI, zI, zK, zI, zI, zK, zI, zL, zL, zI, zI, zI, zI, zL]]
abbrev wr74 : V := .tup [.agg [zI, zI, .bool true, zI, zJ 16, zI, zJ 1, .bool true, zI, zI, zI, wv60, zL, zL, zJ 1, zJ 1, zF, zL, zL, zL, zL, zF, .bool true, .int .i8 6, zI, zI, zK, zI, zS, zI, zJ 16, zK, zI, zS, zK, zI, zI, zI, zI, zS, zI, zI, zI, zS, zI, zF, zF, zL, zI, zL, zI, zI, zK, zI, zI, zK, zI, zT, zT, zI, zI, zI, zI, zL], .agg [zJ 261, zS, zF], .bool true]
theorem wf74 : Con Tryz.prog 6 wa74 (· = wr74) := con_of_xrun mixed (sp := tabS spW) spW_ok 1000 30 (by kernel_rfl)
abbrev wa81 : List V := [wv0, wv70]
abbrev wr81 : V := wv14
theorem wf81 : Con Tryz.prog 44 wa81 (· = wr81) := con_of_xrun mixed (sp := tabS spW) spW_ok 1000 30 (by kernel_rfl)
abbrev wa89 : List V := [wv0, wv78]
abbrev wr89 : V := wv23
theorem wf89 : Con Tryz.prog 44 wa89 (· = wr89) := con_of_xrun mixed (sp := tabS spW) spW_ok 1000 30 (by kernel_rfl)
abbrev wa101 : List V := [wv0, wv82]
abbrev wr101 : V := wv83
theorem wf101 : Con Tryz.prog 7 wa101 (· = wr101) := con_of_xrun mixed (sp := tabS spW) spW_ok 1000 30 (by kernel_rfl)
abbrev wa112 : List V := [wv0, wv90]
abbrev wr112 : V := wv80
theorem wf112 : Con Tryz.prog 44 wa112 (· = wr112) := con_of_xrun mixed (sp := tabS spW) spW_ok 1000 30 (by kernel_rfl)
abbrev wa124 : List V := [wv0, wv98]
abbrev wr124 : V := wv80
theorem wf124 : Con Tryz.prog 44 wa124 (· = wr124) := con_of_xrun mixed (sp := tabS spW) spW_ok 1000 30 (by kernel_rfl)
abbrev wa135 : List V := [wv0, wv99, wv61, zJ 1, zS]
abbrev wr135 : V := .tup [wv101, wv61, zJ 1, zF, zI]
theorem wf135 : Con Tryz.prog 63 wa135 (· = wr135) := con_of_xrun mixed (sp := tabS spW) spW_ok 1000 30 (by kernel_rfl)
abbrev wa146 : List V := [wv105, .sl [[zJ 32]] false]
abbrev wr146 : V := zF
theorem wf146 : Con Tryz.prog 18 wa146 (· = wr146) := con_of_xrun mixed (sp := tabS spW) spW_ok 1000 30 (by kernel_rfl)
abbrev wa157 : List V := [wv0, wv111, zJ 1]
abbrev wr157 : V := .tup [wv114, zI]
theorem wf157 : Con Tryz.prog 25 wa157 (· = wr157) := con_of_xrun mixed (sp := tabS spW) spW_ok 1000 30 (by kernel_rfl)
abbrev wa170 : List V := [wv0, wv121, wv2]
abbrev wr170 : V := .tup [wv122, zF, zI]
theorem wf170 : Con Tryz.prog 65 wa170 (· = wr170) := con_of_xrun mixed (sp := tabS spW) spW_ok 1000 30 (by kernel_rfl)
abbrev wa186 : List V := [wv0, wv130, zJ 2]
abbrev wr186 : V := .tup [wv119, zI]
theorem wf186 : Con Tryz.prog 25 wa186 (· = wr186) := con_of_xrun mixed (sp := tabS spW) spW_ok 1000 30 (by kernel_rfl)
abbrev wa199 : List V := [wv0, wv133, zJ 2]
abbrev wr199 : V := .tup [wv136, zI]
theorem wf199 : Con Tryz.prog 25 wa199 (· = wr199) := con_of_xrun mixed (sp := tabS spW) spW_ok 1000 30 (by kernel_rfl)
abbrev wa211 : List V := [wv0, wv142]
abbrev wr211 : V := wv63
theorem wf211 : Con Tryz.prog 44 wa211 (· = wr211) := con_of_xrun mixed (sp := tabS spW) spW_ok 1000 30 (by kernel_rfl)
abbrev wa223 : List V := [wv0, wv150]
abbrev wr223 : V := wv63
theorem wf223 : Con Tryz.prog 44 wa223 (· = wr223) := con_of_xrun mixed (sp := tabS spW) spW_ok 1000 30 (by kernel_rfl)
abbrev wa234 : List V := [wv0, wv151, wv118, zJ 2, zS]
abbrev wr234 : V := .tup [wv153, wv118, zJ 2, zF, zI]
theorem wf234 : Con Tryz.prog 63 wa234 (· = wr234) := con_of_xrun mixed (sp := tabS spW) spW_ok 1000 30 (by kernel_rfl)
abbrev wa246 : List V := [wv0, wv159, .sl [[zJ 32]] false]
abbrev wr246 : V := zF
theorem wf246 : Con Tryz.prog 19 wa246 (· = wr246) := con_of_xrun mixed (sp := tabS spW) spW_ok 1000 30 (by kernel_rfl)
end Go.Proofs.YtkjihmlighigjaaGreat

namespace Go.Proofs.YtkjihmlighigjaaGreat
open Go.RowKit
set_option maxRecDepth 100000
set_option maxHeartbeats 16000000

abbrev wa4 : List V := [wv8, zI, wv7]
abbrev wr4 : V := .tup [wv11, .str ⟨#[16, 0, 0, 0, 0, 0]⟩, zI]
theorem wf4 : Con Tryz.prog 45 wa4 (· = wr4) := con_of_xrun mixed (sp := tabS spW) spW_ok 1000 30 (by kernel_rfl)
abbrev wa11 : List V := [wv16, .sl [[zJ 16]] false]
abbrev wr11 : V := zF
theorem wf11 : Con Tryz.prog 18 wa11 (· = wr11) := con_of_xrun mixed (sp := tabS spW) spW_ok 1000 30 (by kernel_rfl)
abbrev wa23 : List V := [wv0, wv28, zI]
abbrev wr23 : V := .tup [wv30, zI]
theorem wf23 : Con Tryz.prog 82 wa23 (· = wr23) := con_of_xrun mixed (sp := tabS spW) spW_ok 1000 30 (by kernel_rfl)
abbrev wa37 : List V := [wv0, wv37, wv24, zI, zS]
abbrev wr37 : V := .tup [wv40, wv24, zI, zF, zI]
theorem wf37 : Con Tryz.prog 130 wa37 (· = wr37) := con_of_xrun mixed (sp := tabS spW) spW_ok 1000 30 (by kernel_rfl)
abbrev wa51 : List V := [wv47, .sl [[zJ 16]] false]
abbrev wr51 : V := zF
theorem wf51 : Con Tryz.prog 18 wa51 (· = wr51) := con_of_xrun mixed (sp := tabS spW) spW_ok 1000 30 (by kernel_rfl)
abbrev wa64 : List V := [wv24, zI]
abbrev wr64 : V := .tup [zI, zF]
theorem wf64 : Con Tryz.prog 17 wa64 (· = wr64) := con_of_xrun mixed (sp := tabS spW) spW_ok 1000 30 (by kernel_rfl)
abbrev wa76 : List V := [wv58, zI]
abbrev wr76 : V := .tup [wv66, zI]
theorem wf76 : Con Tryz.prog 16 wa76 (· = wr76) := con_of_xrun mixed (sp := tabS spW) spW_ok 1000 30 (by kernel_rfl)
abbrev wa82 : List V := [wv69, .sl [[zJ 32]] false]
abbrev wr82 : V := zF
theorem wf82 : Con Tryz.prog 18 wa82 (· = wr82) := con_of_xrun mixed (sp := tabS spW) spW_ok 1000 30 (by kernel_rfl)
abbrev wa90 : List V := [wv76, .sl [[zJ 32]] false]
abbrev wr90 : V := zF
theorem wf90 : Con Tryz.prog 18 wa90 (· = wr90) := con_of_xrun mixed (sp := tabS spW) spW_ok 1000 30 (by kernel_rfl)
abbrev wa103 : List V := [wv0, wv82, zS]
abbrev wr103 : V := .tup [wv87, .agg [zI, zS, zF], zF]
theorem wf103 : Con Tryz.prog 9 wa103 (· = wr103) := con_of_xrun mixed (sp := tabS spW) spW_ok 1000 30 (by kernel_rfl)
abbrev wa113 : List V := [wv0, wv89, zJ 1]
abbrev wr113 : V := .tup [wv30, zI]
theorem wf113 : Con Tryz.prog 25 wa113 (· = wr113) := con_of_xrun mixed (sp := tabS spW) spW_ok 1000 30 (by kernel_rfl)
abbrev wa125 : List V := [wv0, wv97, zJ 1]
abbrev wr125 : V := .tup [wv39, zI]
theorem wf125 : Con Tryz.prog 25 wa125 (· = wr125) := con_of_xrun mixed (sp := tabS spW) spW_ok 1000 30 (by kernel_rfl)
abbrev wa137 : List V := [wv0, wv102]
abbrev wr137 : V := wv80
theorem wf137 : Con Tryz.prog 44 wa137 (· = wr137) := con_of_xrun mixed (sp := tabS spW) spW_ok 1000 30 (by kernel_rfl)
abbrev wa148 : List V := [wv0, wv107, wv61, zJ 1, zS]
abbrev wr148 : V := .tup [wv109, wv61, zJ 1, zF, zI]
theorem wf148 : Con Tryz.prog 63 wa148 (· = wr148) := con_of_xrun mixed (sp := tabS spW) spW_ok 1000 30 (by kernel_rfl)
abbrev wa160 : List V := [wv0, wv61, .agg [.int .i8 4, zJ 32, zJ 1, zJ 16, zI, zI, zI, zK]]
abbrev wr160 : V := wv118
theorem wf160 : Con Tryz.prog 190 wa160 (· = wr160) := con_of_xrun mixed (sp := tabS spW) spW_ok 1000 30 (by kernel_rfl)
abbrev wa173 : List V := [wv0, wv122]
abbrev wr173 : V := wv124
theorem wf173 : Con Tryz.prog 26 wa173 (· = wr173) := con_of_xrun mixed (sp := tabS spW) spW_ok 1000 30 (by kernel_rfl)
abbrev wa189 : List V := [wv0, wv118, zJ 2, zS]
abbrev wr189 : V := .tup [wv118, zJ 2, wv25, zF, zI]
theorem wf189 : Con Tryz.prog 177 wa189 (· = wr189) := con_of_xrun mixed (sp := tabS spW) spW_ok 1000 30 (by kernel_rfl)
abbrev wa202 : List V := [wv0, wv133, wv118, zJ 2, zS]
abbrev wr202 : V := .tup [wv139, wv118, zJ 2, zF, zI]
theorem wf202 : Con Tryz.prog 63 wa202 (· = wr202) := con_of_xrun mixed (sp := tabS spW) spW_ok 1000 30 (by kernel_rfl)
abbrev wa212 : List V := [wv0, wv141, zJ 2]
abbrev wr212 : V := .tup [wv42, zI]
theorem wf212 : Con Tryz.prog 25 wa212 (· = wr212) := con_of_xrun mixed (sp := tabS spW) spW_ok 1000 30 (by kernel_rfl)
abbrev wa224 : List V := [wv0, wv149, zJ 2]
abbrev wr224 : V := .tup [wv39, zI]
theorem wf224 : Con Tryz.prog 25 wa224 (· = wr224) := con_of_xrun mixed (sp := tabS spW) spW_ok 1000 30 (by kernel_rfl)
abbrev wa236 : List V := [wv0, wv154]
abbrev wr236 : V := wv63
theorem wf236 : Con Tryz.prog 44 wa236 (· = wr236) := con_of_xrun mixed (sp := tabS spW) spW_ok 1000 30 (by kernel_rfl)
end Go.Proofs.YtkjihmlighigjaaGreat

namespace Go.Proofs.YtkjihmlighigjaaGreat
open Go.RowKit
set_option maxRecDepth 100000
set_option maxHeartbeats 16000000

abbrev wa5 : List V := [wv0, wv6, .str ⟨#[16, 0, 0, 0, 0, 0]⟩]
abbrev wr5 : V := .tup [.agg [zI, zI, .bool true, zI, zJ 16, zI, zI, zF, zI, zI, zI, wv12, zT, zT, zI, zI, zF, zL, zL, zL, zL, zF, .bool true, zK, zI, zI, zK, zI, zS, zI, zI, .int .i8 1, zI, zS, zK, zI, zI, zI, zI, zS, zI, zI, zI, zS, zI, zF, zF, zL, zI, zL, zI, zI, zK, zI, zI, zK, zI, zL, zL, zI, zI, zI, zI, zL], .agg [zI, zS, zF], zF]
theorem wf5 : Con Tryz.prog 46 wa5 (· = wr5) := con_of_xrun mixed (sp := tabS spW) spW_ok 1000 30 (by kernel_rfl)
abbrev wa13 : List V := [wv0, wv17, zS]
abbrev wr13 : V := .tup [wv22, .agg [zI, zS, zF], zF]
theorem wf13 : Con Tryz.prog 46 wa13 (· = wr13) := con_of_xrun mixed (sp := tabS spW) spW_ok 1000 30 (by kernel_rfl)
abbrev wa26 : List V := [wv0, wv28, wv24, zI, zS]
abbrev wr26 : V := .tup [wv31, wv24, zI, zF, zI]
theorem wf26 : Con Tryz.prog 130 wa26 (· = wr26) := con_of_xrun mixed (sp := tabS spW) spW_ok 1000 30 (by kernel_rfl)
abbrev wa39 : List V := [wv0, wv40, zI]
abbrev wr39 : V := .tup [wv42, zI]
theorem wf39 : Con Tryz.prog 82 wa39 (· = wr39) := con_of_xrun mixed (sp := tabS spW) spW_ok 1000 30 (by kernel_rfl)
abbrev wa53 : List V := [wv0, wv49, wv24, zI, zS]
abbrev wr53 : V := .tup [wv51, wv24, zI, zF, zI]
theorem wf53 : Con Tryz.prog 130 wa53 (· = wr53) := con_of_xrun mixed (sp := tabS spW) spW_ok 1000 30 (by kernel_rfl)
abbrev wa67 : List V := [wv61, zJ 16]
abbrev wr67 : V := .tup [zI, .bool true]
theorem wf67 : Con Tryz.prog 17 wa67 (· = wr67) := con_of_xrun mixed (sp := tabS spW) spW_ok 1000 30 (by kernel_rfl)
abbrev wa77 : List V := [wv0, wv67]
abbrev wr77 : V := .tup [wv67, .agg [zI, zS, zF], zF]
theorem wf77 : Con Tryz.prog 43 wa77 (· = wr77) := con_of_xrun mixed (sp := tabS spW) spW_ok 1000 30 (by kernel_rfl)
abbrev wa84 : List V := [wv0, wv70, wv1]
abbrev wr84 : V := .tup [wv72, .agg [zI, zS, zF], zF]
theorem wf84 : Con Tryz.prog 46 wa84 (· = wr84) := con_of_xrun mixed (sp := tabS spW) spW_ok 1000 30 (by kernel_rfl)
abbrev wa94 : List V := [wv0, wv79]
abbrev wr94 : V := wv80
theorem wf94 : Con Tryz.prog 44 wa94 (· = wr94) := con_of_xrun mixed (sp := tabS spW) spW_ok 1000 30 (by kernel_rfl)
abbrev wa104 : List V := [wv0, wv87]
abbrev wr104 : V := wv80
theorem wf104 : Con Tryz.prog 44 wa104 (· = wr104) := con_of_xrun mixed (sp := tabS spW) spW_ok 1000 30 (by kernel_rfl)
abbrev wa116 : List V := [wv0, wv89, wv61, zJ 1, wv45]
abbrev wr116 : V := .tup [wv91, wv61, zJ 1, zF, zI]
theorem wf116 : Con Tryz.prog 63 wa116 (· = wr116) := con_of_xrun mixed (sp := tabS spW) spW_ok 1000 30 (by kernel_rfl)
abbrev wa127 : List V := [wv95, .sl [[zJ 32]] false]
abbrev wr127 : V := zF
theorem wf127 : Con Tryz.prog 18 wa127 (· = wr127) := con_of_xrun mixed (sp := tabS spW) spW_ok 1000 30 (by kernel_rfl)
abbrev wa138 : List V := [wv0, wv101, zJ 1]
abbrev wr138 : V := .tup [wv104, zI]
theorem wf138 : Con Tryz.prog 25 wa138 (· = wr138) := con_of_xrun mixed (sp := tabS spW) spW_ok 1000 30 (by kernel_rfl)
abbrev wa150 : List V := [wv0, wv110]
abbrev wr150 : V := wv80
theorem wf150 : Con Tryz.prog 44 wa150 (· = wr150) := con_of_xrun mixed (sp := tabS spW) spW_ok 1000 30 (by kernel_rfl)
abbrev wa162 : List V := [wv0, zI, zJ 16]
abbrev wr162 : V := .tup [.agg [zI, zJ 16, zK, zI, zT, zT, zI, zI], zI]
theorem wf162 : Con Tryz.prog 64 wa162 (· = wr162) := con_of_xrun mixed (sp := tabS spW) spW_ok 1000 30 (by kernel_rfl)
abbrev wa176 : List V := [zL]
abbrev wr176 : V := zT
theorem wf176 : Con Tryz.prog 243 wa176 (· = wr176) := con_of_xrun mixed (sp := tabS spW) spW_ok 1000 30 (by kernel_rfl)
abbrev wa192 : List V := [wv0, wv132]
abbrev wr192 : V := wv63
theorem wf192 : Con Tryz.prog 44 wa192 (· = wr192) := con_of_xrun mixed (sp := tabS spW) spW_ok 1000 30 (by kernel_rfl)
abbrev wa204 : List V := [wv0, wv140]
abbrev wr204 : V := wv63
theorem wf204 : Con Tryz.prog 44 wa204 (· = wr204) := con_of_xrun mixed (sp := tabS spW) spW_ok 1000 30 (by kernel_rfl)
abbrev wa215 : List V := [wv0, wv141, wv118, zJ 2, zS]
abbrev wr215 : V := .tup [wv143, wv118, zJ 2, zF, zI]
theorem wf215 : Con Tryz.prog 63 wa215 (· = wr215) := con_of_xrun mixed (sp := tabS spW) spW_ok 1000 30 (by kernel_rfl)
abbrev wa226 : List V := [wv147, .sl [[zJ 32]] false]
abbrev wr226 : V := zF
theorem wf226 : Con Tryz.prog 18 wa226 (· = wr226) := con_of_xrun mixed (sp := tabS spW) spW_ok 1000 30 (by kernel_rfl)
abbrev wa237 : List V := [wv0, wv153, zJ 2]
abbrev wr237 : V := .tup [wv156, zI]
theorem wf237 : Con Tryz.prog 25 wa237 (· = wr237) := con_of_xrun mixed (sp := tabS spW) spW_ok 1000 30 (by kernel_rfl)
end Go.Proofs.YtkjihmlighigjaaGreat
