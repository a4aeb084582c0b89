/- The example: facts of level 0. -/
import Derived.Test.YtkjihmlighigjaaGreatRepairAliveM42
import Derived.Test.YtkjihmlighigjaaGreatRepairAliveM43
import Derived.Test.YtkjihmlighigjaaGreatRepairAliveM45
import Derived.Test.YtkjihmlighigjaaGreatRepairAliveM46
set_option linter.unusedSimpArgs false
set_option linter.unusedVariables false
namespace Go.Proofs.YtkjihmlighigjaaGreat
open Go.RowKit
set_option maxRecDepth 100000
set_option maxHeartbeats 16000000

abbrev wa0 : List V := [wv0]
abbrev wr0 : V := .tup [wv3, zI]
theorem wf0 : Con Tryz.prog 13 wa0 (· = wr0) := con_of_xrun mixed (sp := tabS spW) spW_ok 1000 30 (by kernel_rfl)
abbrev wa6 : List V := [wv0, wv13]
abbrev wr6 : V := wv14
theorem wf6 : Con Tryz.prog 44 wa6 (· = wr6) := con_of_xrun mixed (sp := tabS spW) spW_ok 1000 30 (by kernel_rfl)
abbrev wa14 : List V := [wv0, wv22]
abbrev wr14 : V := wv23
theorem wf14 : Con Tryz.prog 44 wa14 (· = wr14) := con_of_xrun mixed (sp := tabS spW) spW_ok 1000 30 (by kernel_rfl)
abbrev wa28 : List V := [wv0, wv31, zI]
abbrev wr28 : V := .tup [wv34, zI]
theorem wf28 : Con Tryz.prog 82 wa28 (· = wr28) := con_of_xrun mixed (sp := tabS spW) spW_ok 1000 30 (by kernel_rfl)
abbrev wa42 : List V := [wv0, wv40, wv24, zI, zS]
abbrev wr42 : V := .tup [wv43, wv24, zI, zF, zI]
theorem wf42 : Con Tryz.prog 130 wa42 (· = wr42) := con_of_xrun mixed (sp := tabS spW) spW_ok 1000 30 (by kernel_rfl)
abbrev wa55 : List V := [wv0, wv51, zI]
abbrev wr55 : V := .tup [wv42, zI]
theorem wf55 : Con Tryz.prog 82 wa55 (· = wr55) := con_of_xrun mixed (sp := tabS spW) spW_ok 1000 30 (by kernel_rfl)
abbrev wa69 : List V := [wv0, wv62]
abbrev wr69 : V := wv63
theorem wf69 : Con Tryz.prog 44 wa69 (· = wr69) := con_of_xrun mixed (sp := tabS spW) spW_ok 1000 30 (by kernel_rfl)
abbrev wa78 : List V := [wv0, wv67]
abbrev wr78 : V := wv7
theorem wf78 : Con Tryz.prog 44 wa78 (· = wr78) := con_of_xrun mixed (sp := tabS spW) spW_ok 1000 30 (by kernel_rfl)
abbrev wa85 : List V := [wv0, wv72]
abbrev wr85 : V := wv74
theorem wf85 : Con Tryz.prog 44 wa85 (· = wr85) := con_of_xrun mixed (sp := tabS spW) spW_ok 1000 30 (by kernel_rfl)
abbrev wa96 : List V := [wv0, wv61, zJ 1, zS]
abbrev wr96 : V := wv81
theorem wf96 : Con Tryz.prog 129 wa96 (· = wr96) := con_of_xrun mixed (sp := tabS spW) spW_ok 1000 30 (by kernel_rfl)
abbrev wa105 : List V := [wv0, wv88, zJ 1]
abbrev wr105 : V := .tup [wv80, zI]
theorem wf105 : Con Tryz.prog 25 wa105 (· = wr105) := con_of_xrun mixed (sp := tabS spW) spW_ok 1000 30 (by kernel_rfl)
abbrev wa118 : List V := [wv0, wv92]
abbrev wr118 : V := wv80
theorem wf118 : Con Tryz.prog 44 wa118 (· = wr118) := con_of_xrun mixed (sp := tabS spW) spW_ok 1000 30 (by kernel_rfl)
abbrev wa129 : List V := [wv0, wv97, wv61, zJ 1, zS]
abbrev wr129 : V := .tup [wv99, wv61, zJ 1, zF, zI]
theorem wf129 : Con Tryz.prog 63 wa129 (· = wr129) := con_of_xrun mixed (sp := tabS spW) spW_ok 1000 30 (by kernel_rfl)
abbrev wa141 : List V := [wv0, wv101, wv61, zJ 1, zS]
abbrev wr141 : V := .tup [wv107, wv61, zJ 1, zF, zI]
theorem wf141 : Con Tryz.prog 63 wa141 (· = wr141) := con_of_xrun mixed (sp := tabS spW) spW_ok 1000 30 (by kernel_rfl)
abbrev wa151 : List V := [wv0, wv109, zJ 1]
abbrev wr151 : V := .tup [wv42, zI]
theorem wf151 : Con Tryz.prog 25 wa151 (· = wr151) := con_of_xrun mixed (sp := tabS spW) spW_ok 1000 30 (by kernel_rfl)
abbrev wa164 : List V := [wv0, .agg [zI, zS, zK, zI, zI, zI, zI, zS, zI, zI, zI, zS, zI, zF, zF], zJ 2]
abbrev wr164 : V := .tup [wv119, zI]
theorem wf164 : Con Tryz.prog 82 wa164 (· = wr164) := con_of_xrun mixed (sp := tabS spW) spW_ok 1000 30 (by kernel_rfl)
abbrev wa180 : List V := [wv0, wv126]
abbrev wr180 : V := wv127
theorem wf180 : Con Tryz.prog 26 wa180 (· = wr180) := con_of_xrun mixed (sp := tabS spW) spW_ok 1000 30 (by kernel_rfl)
abbrev wa193 : List V := [wv0, wv131, zJ 2]
abbrev wr193 : V := .tup [wv30, zI]
theorem wf193 : Con Tryz.prog 25 wa193 (· = wr193) := con_of_xrun mixed (sp := tabS spW) spW_ok 1000 30 (by kernel_rfl)
abbrev wa205 : List V := [wv0, wv139, zJ 2]
abbrev wr205 : V := .tup [wv39, zI]
theorem wf205 : Con Tryz.prog 25 wa205 (· = wr205) := con_of_xrun mixed (sp := tabS spW) spW_ok 1000 30 (by kernel_rfl)
abbrev wa217 : List V := [wv0, wv144]
abbrev wr217 : V := wv63
theorem wf217 : Con Tryz.prog 44 wa217 (· = wr217) := con_of_xrun mixed (sp := tabS spW) spW_ok 1000 30 (by kernel_rfl)
abbrev wa228 : List V := [wv0, wv149, wv118, zJ 2, zS]
abbrev wr228 : V := .tup [wv151, wv118, zJ 2, zF, zI]
theorem wf228 : Con Tryz.prog 63 wa228 (· = wr228) := con_of_xrun mixed (sp := tabS spW) spW_ok 1000 30 (by kernel_rfl)
abbrev wa240 : List V := [wv0, wv118, .agg [.int .i8 5, zJ 32, zJ 2, zJ 16, zI, zI, zI, zK]]
abbrev wr240 : V := wv158
theorem wf240 : Con Tryz.prog 190 wa240 (· = wr240) := con_of_xrun mixed (sp := tabS spW) spW_ok 1000 30 (by kernel_rfl)
end Go.Proofs.YtkjihmlighigjaaGreat

namespace Go.Proofs.YtkjihmlighigjaaGreat
open Go.RowKit
set_option maxRecDepth 100000
set_option maxHeartbeats 16000000

abbrev wa1 : List V := [zJ 3, wv3]
abbrev wr1 : V := .tup [.agg [wv3, wv4, wv5, zJ 1, zT], zI]
theorem wf1 : Con Tryz.prog 14 wa1 (· = wr1) := con_of_xrun mixed (sp := tabS spW) spW_ok 1000 30 (by kernel_rfl)
abbrev wa7 : List V := [wv11, .sl [[zJ 16]] false]
abbrev wr7 : V := zF
theorem wf7 : Con Tryz.prog 18 wa7 (· = wr7) := con_of_xrun mixed (sp := tabS spW) spW_ok 1000 30 (by kernel_rfl)
abbrev wa15 : List V := [wv20, .sl [[zJ 16]] false]
abbrev wr15 : V := zF
theorem wf15 : Con Tryz.prog 18 wa15 (· = wr15) := con_of_xrun mixed (sp := tabS spW) spW_ok 1000 30 (by kernel_rfl)
abbrev wa31 : List V := [wv0, wv31, wv24, zI, zS]
abbrev wr31 : V := .tup [wv37, wv24, zI, zF, zI]
theorem wf31 : Con Tryz.prog 130 wa31 (· = wr31) := con_of_xrun mixed (sp := tabS spW) spW_ok 1000 30 (by kernel_rfl)
abbrev wa44 : List V := [wv0, wv43, zI]
abbrev wr44 : V := .tup [wv46, zI]
theorem wf44 : Con Tryz.prog 82 wa44 (· = wr44) := con_of_xrun mixed (sp := tabS spW) spW_ok 1000 30 (by kernel_rfl)
abbrev wa58 : List V := [wv0, wv51, wv24, zI, zS]
abbrev wr58 : V := .tup [wv53, wv24, zI, zF, zI]
theorem wf58 : Con Tryz.prog 130 wa58 (· = wr58) := con_of_xrun mixed (sp := tabS spW) spW_ok 1000 30 (by kernel_rfl)
abbrev wa70 : List V := [wv58, .sl [[zJ 16]] false]
abbrev wr70 : V := zF
theorem wf70 : Con Tryz.prog 18 wa70 (· = wr70) := con_of_xrun mixed (sp := tabS spW) spW_ok 1000 30 (by kernel_rfl)
abbrev wa79 : List V := [wv66, zI, wv7]
abbrev wr79 : V := .tup [wv69, .str ⟨#[32, 0, 0, 0, 0, 0]⟩, zI]
theorem wf79 : Con Tryz.prog 45 wa79 (· = wr79) := con_of_xrun mixed (sp := tabS spW) spW_ok 1000 30 (by kernel_rfl)
abbrev wa86 : List V := [wv71, .sl [[zJ 32]] false]
abbrev wr86 : V := zF
theorem wf86 : Con Tryz.prog 18 wa86 (· = wr86) := con_of_xrun mixed (sp := tabS spW) spW_ok 1000 30 (by kernel_rfl)
abbrev wa99 : List V := [wv0, .agg [zI, zI, .bool true, zI, zJ 32, zI, zJ 1, zF, zI, zI, zI, wv60, zL, zL, zJ 1, zI, zF, zL, zL, zL, zL, zF, .bool true, .int .i8 6, zI, zI, zK, zI, zS, zI, zJ 16, zK, zI, zS, zK, zI, zI, zI, zI, zS, zI, zI, zI, zS, zI, zF, zF, zL, zI, zL, zI, zI, zK, zI, zI, zK, zI, zL, zL, zI, zI, zI, zI, zL]]
abbrev wr99 : V := .tup [wv82, .agg [zI, zS, zF], zF]
theorem wf99 : Con Tryz.prog 6 wa99 (· = wr99) := con_of_xrun mixed (sp := tabS spW) spW_ok 1000 30 (by kernel_rfl)
abbrev wa107 : List V := [wv84, .sl [[zJ 32]] false]
abbrev wr107 : V := zF
theorem wf107 : Con Tryz.prog 18 wa107 (· = wr107) := con_of_xrun mixed (sp := tabS spW) spW_ok 1000 30 (by kernel_rfl)
abbrev wa119 : List V := [wv0, wv91, zJ 1]
abbrev wr119 : V := .tup [wv94, zI]
theorem wf119 : Con Tryz.prog 25 wa119 (· = wr119) := con_of_xrun mixed (sp := tabS spW) spW_ok 1000 30 (by kernel_rfl)
abbrev wa131 : List V := [wv0, wv100]
abbrev wr131 : V := wv80
theorem wf131 : Con Tryz.prog 44 wa131 (· = wr131) := con_of_xrun mixed (sp := tabS spW) spW_ok 1000 30 (by kernel_rfl)
abbrev wa143 : List V := [wv0, wv108]
abbrev wr143 : V := wv80
theorem wf143 : Con Tryz.prog 44 wa143 (· = wr143) := con_of_xrun mixed (sp := tabS spW) spW_ok 1000 30 (by kernel_rfl)
abbrev wa154 : List V := [wv0, wv109, wv61, zJ 1, zS]
abbrev wr154 : V := .tup [wv111, wv61, zJ 1, zF, zI]
theorem wf154 : Con Tryz.prog 63 wa154 (· = wr154) := con_of_xrun mixed (sp := tabS spW) spW_ok 1000 30 (by kernel_rfl)
abbrev wa166 : List V := [wv0, wv121]
abbrev wr166 : V := wv63
theorem wf166 : Con Tryz.prog 26 wa166 (· = wr166) := con_of_xrun mixed (sp := tabS spW) spW_ok 1000 30 (by kernel_rfl)
abbrev wa183 : List V := [wv0, wv126, zS]
abbrev wr183 : V := .tup [.agg [zI, zJ 16, .int .i8 4, zI, zL, zL, zI, zI], .bool true, zI]
theorem wf183 : Con Tryz.prog 65 wa183 (· = wr183) := con_of_xrun mixed (sp := tabS spW) spW_ok 1000 30 (by kernel_rfl)
abbrev wa196 : List V := [wv0, wv131, wv118, zJ 2, wv103]
abbrev wr196 : V := .tup [wv133, wv118, zJ 2, zF, zI]
theorem wf196 : Con Tryz.prog 63 wa196 (· = wr196) := con_of_xrun mixed (sp := tabS spW) spW_ok 1000 30 (by kernel_rfl)
abbrev wa207 : List V := [wv137, .sl [[zJ 32]] false]
abbrev wr207 : V := zF
theorem wf207 : Con Tryz.prog 18 wa207 (· = wr207) := con_of_xrun mixed (sp := tabS spW) spW_ok 1000 30 (by kernel_rfl)
abbrev wa218 : List V := [wv0, wv143, zJ 2]
abbrev wr218 : V := .tup [wv146, zI]
theorem wf218 : Con Tryz.prog 25 wa218 (· = wr218) := con_of_xrun mixed (sp := tabS spW) spW_ok 1000 30 (by kernel_rfl)
abbrev wa230 : List V := [wv0, wv152]
abbrev wr230 : V := wv63
theorem wf230 : Con Tryz.prog 44 wa230 (· = wr230) := con_of_xrun mixed (sp := tabS spW) spW_ok 1000 30 (by kernel_rfl)
abbrev wa244 : List V := [wv157, .sl [[zJ 16]] false]
abbrev wr244 : V := .bool true
theorem wf244 : Con Tryz.prog 18 wa244 (· = wr244) := con_of_xrun mixed (sp := tabS spW) spW_ok 1000 30 (by kernel_rfl)
end Go.Proofs.YtkjihmlighigjaaGreat

namespace Go.Proofs.YtkjihmlighigjaaGreat
open Go.RowKit
set_option maxRecDepth 100000
set_option maxHeartbeats 16000000

abbrev wa2 : List V := [wv0, wv6]
abbrev wr2 : V := .tup [wv6, .agg [zI, zS, zF], zF]
theorem wf2 : Con Tryz.prog 43 wa2 (· = wr2) := con_of_xrun mixed (sp := tabS spW) spW_ok 1000 30 (by kernel_rfl)
abbrev wa9 : List V := [wv0, wv13, wv1]
abbrev wr9 : V := .tup [wv17, .agg [zI, zS, zF], zF]
theorem wf9 : Con Tryz.prog 46 wa9 (· = wr9) := con_of_xrun mixed (sp := tabS spW) spW_ok 1000 30 (by kernel_rfl)
abbrev wa17 : List V := [wv0, wv24, zI, zS]
abbrev wr17 : V := .tup [wv24, zI, wv25, zF, zI]
theorem wf17 : Con Tryz.prog 129 wa17 (· = wr17) := con_of_xrun mixed (sp := tabS spW) spW_ok 1000 30 (by kernel_rfl)
abbrev wa33 : List V := [wv0, wv37, zI]
abbrev wr33 : V := .tup [wv39, zI]
theorem wf33 : Con Tryz.prog 82 wa33 (· = wr33) := con_of_xrun mixed (sp := tabS spW) spW_ok 1000 30 (by kernel_rfl)
abbrev wa47 : List V := [wv0, wv43, wv24, zI, zS]
abbrev wr47 : V := .tup [wv49, wv24, zI, zF, zI]
theorem wf47 : Con Tryz.prog 130 wa47 (· = wr47) := con_of_xrun mixed (sp := tabS spW) spW_ok 1000 30 (by kernel_rfl)
abbrev wa60 : List V := [wv0, wv53, zI]
abbrev wr60 : V := .tup [wv56, zI]
theorem wf60 : Con Tryz.prog 82 wa60 (· = wr60) := con_of_xrun mixed (sp := tabS spW) spW_ok 1000 30 (by kernel_rfl)
abbrev wa72 : List V := [wv0, wv62, wv2]
abbrev wr72 : V := .tup [.agg [zI, zI, .bool true, zI, zJ 16, zI, zJ 1, .bool true, zI, zI, zI, wv60, zL, zL, zJ 1, zJ 1, zF, zL, zL, zL, zL, zF, .bool true, zK, zI, zI, zK, zI, zS, zI, zI, zK, zI, zS, zK, zI, zI, zI, zI, zS, zI, zI, zI, zS, zI, zF, zF, zL, zI, zT, zI, zI, zK, zI, zI, zK, zI, zL, zL, zI, zI, zI, zI, zL], .agg [zI, zS, zF], .bool true]
theorem wf72 : Con Tryz.prog 46 wa72 (· = wr72) := con_of_xrun mixed (sp := tabS spW) spW_ok 1000 30 (by kernel_rfl)
abbrev wa80 : List V := [wv0, wv67, .str ⟨#[32, 0, 0, 0, 0, 0]⟩]
abbrev wr80 : V := .tup [.agg [zI, zI, .bool true, zI, zJ 32, zI, zI, zF, zI, zI, zI, wv12, zT, zT, zI, zI, zF, zL, zL, zL, zL, zF, .bool true, .int .i8 13, zI, zI, zK, zI, zS, zI, zI, .int .i8 1, zI, zS, zK, zI, zI, zI, zI, zS, zI, zI, zI, zS, zI, zF, zF, zL, zI, zL, zI, zI, zK, zI, zI, zK, zI, zL, zL, zI, zI, zI, zI, zL], .agg [zI, zS, zF], zF]
theorem wf80 : Con Tryz.prog 46 wa80 (· = wr80) := con_of_xrun mixed (sp := tabS spW) spW_ok 1000 30 (by kernel_rfl)
abbrev wa88 : List V := [wv0, wv72, zS]
abbrev wr88 : V := .tup [wv78, .agg [zI, zS, zF], zF]
theorem wf88 : Con Tryz.prog 46 wa88 (· = wr88) := con_of_xrun mixed (sp := tabS spW) spW_ok 1000 30 (by kernel_rfl)
abbrev wa100 : List V := [wv0, wv82]
abbrev wr100 : V := wv14
theorem wf100 : Con Tryz.prog 44 wa100 (· = wr100) := con_of_xrun mixed (sp := tabS spW) spW_ok 1000 30 (by kernel_rfl)
abbrev wa109 : List V := [wv0, wv61, zJ 1, zS]
abbrev wr109 : V := wv81
theorem wf109 : Con Tryz.prog 177 wa109 (· = wr109) := con_of_xrun mixed (sp := tabS spW) spW_ok 1000 30 (by kernel_rfl)
abbrev wa122 : List V := [wv0, wv91, wv61, zJ 1, zS]
abbrev wr122 : V := .tup [wv97, wv61, zJ 1, zF, zI]
theorem wf122 : Con Tryz.prog 63 wa122 (· = wr122) := con_of_xrun mixed (sp := tabS spW) spW_ok 1000 30 (by kernel_rfl)
abbrev wa132 : List V := [wv0, wv99, zJ 1]
abbrev wr132 : V := .tup [wv42, zI]
theorem wf132 : Con Tryz.prog 25 wa132 (· = wr132) := con_of_xrun mixed (sp := tabS spW) spW_ok 1000 30 (by kernel_rfl)
abbrev wa144 : List V := [wv0, wv107, zJ 1]
abbrev wr144 : V := .tup [wv39, zI]
theorem wf144 : Con Tryz.prog 25 wa144 (· = wr144) := con_of_xrun mixed (sp := tabS spW) spW_ok 1000 30 (by kernel_rfl)
abbrev wa156 : List V := [wv0, wv112]
abbrev wr156 : V := wv80
theorem wf156 : Con Tryz.prog 44 wa156 (· = wr156) := con_of_xrun mixed (sp := tabS spW) spW_ok 1000 30 (by kernel_rfl)
abbrev wa168 : List V := [wv115, .sl [[zJ 32]] false]
abbrev wr168 : V := zF
theorem wf168 : Con Tryz.prog 18 wa168 (· = wr168) := con_of_xrun mixed (sp := tabS spW) spW_ok 1000 30 (by kernel_rfl)
abbrev wa185 : List V := [wv0, wv129]
abbrev wr185 : V := wv63
theorem wf185 : Con Tryz.prog 44 wa185 (· = wr185) := con_of_xrun mixed (sp := tabS spW) spW_ok 1000 30 (by kernel_rfl)
abbrev wa198 : List V := [wv0, wv134]
abbrev wr198 : V := wv63
theorem wf198 : Con Tryz.prog 44 wa198 (· = wr198) := con_of_xrun mixed (sp := tabS spW) spW_ok 1000 30 (by kernel_rfl)
abbrev wa209 : List V := [wv0, wv139, wv118, zJ 2, zS]
abbrev wr209 : V := .tup [wv141, wv118, zJ 2, zF, zI]
theorem wf209 : Con Tryz.prog 63 wa209 (· = wr209) := con_of_xrun mixed (sp := tabS spW) spW_ok 1000 30 (by kernel_rfl)
abbrev wa221 : List V := [wv0, wv143, wv118, zJ 2, zS]
abbrev wr221 : V := .tup [wv149, wv118, zJ 2, zF, zI]
theorem wf221 : Con Tryz.prog 63 wa221 (· = wr221) := con_of_xrun mixed (sp := tabS spW) spW_ok 1000 30 (by kernel_rfl)
abbrev wa231 : List V := [wv0, wv151, zJ 2]
abbrev wr231 : V := .tup [wv42, zI]
theorem wf231 : Con Tryz.prog 25 wa231 (· = wr231) := con_of_xrun mixed (sp := tabS spW) spW_ok 1000 30 (by kernel_rfl)
abbrev wa245 : List V := [wv0, wv159, .sl [[zJ 16]] false]
abbrev wr245 : V := .bool true
theorem wf245 : Con Tryz.prog 19 wa245 (· = wr245) := con_of_xrun mixed (sp := tabS spW) spW_ok 1000 30 (by kernel_rfl)
end Go.Proofs.YtkjihmlighigjaaGreat
