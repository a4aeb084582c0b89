/- The example: facts of level 2. -/
import Derived.Test.YtkjihmlighigjaaGreatRepairAliveM42
import Derived.Test.YtkjihmlighigjaaGreatRepairAliveM43
import Derived.Test.YtkjihmlighigjaaGreatRepairAliveM45
import Derived.Test.YtkjihmlighigjaaGreatRepairAliveM46
import Derived.Test.YtkjihmlighigjaaGreatRepairAliveM47
import Derived.Test.YtkjihmlighigjaaGreatRepairAliveM48
import Derived.Test.YtkjihmlighigjaaGreatRepairAliveM49
import Derived.Test.YtkjihmlighigjaaGreatRepairAliveM50
import Derived.Test.YtkjihmlighigjaaGreatRepairAliveM51
import Derived.Test.YtkjihmlighigjaaGreatRepairAliveM52
import Derived.Test.YtkjihmlighigjaaGreatRepairAliveM31
set_option linter.unusedSimpArgs false
set_option linter.unusedVariables false
namespace Go.Proofs.YtkjihmlighigjaaGreat
open Go.RowKit
set_option maxRecDepth 100000
set_option maxHeartbeats 16000000

abbrev wa22 : List V := [wv0, wv26, zS]
abbrev wr22 : V := .tup [wv29, .agg [zI, zS, zF], zF]
theorem wf22 : Con Tryz.prog 46 wa22 (· = wr22) := con_of_xrun mixed (sp := tabS ((130, spQ [(wa21, wr21)]) :: ((82, spQ [(wa19, wr19)]) :: spW))) (tabS_cons (spQ_ok (.cons wf21 (by kernel_rfl) .nil)) (tabS_cons (spQ_ok (.cons wf19 (by kernel_rfl) .nil)) spW_ok)) 1000 30 (by kernel_rfl)
abbrev wa66 : List V := [wv0, wv53, wv24, zI, zS]
abbrev wr66 : V := .tup [.agg [zI, .str ⟨#[0, 16, 0, 0, 0, 0, 0, 1, 0, 0, 0]⟩, zK, zI, zI, zI, zI, zS, zI, zI, zI, zS, zJ 16, zF, zF], wv61, zJ 1, .bool true, zI]
theorem wf66 : Con Tryz.prog 130 wa66 (· = wr66) := con_of_xrun mixed (sp := tabS ((167, spQ [(wa65, wr65)]) :: spW)) (tabS_cons (spQ_ok (.cons wf65 (by kernel_rfl) .nil)) spW_ok) 1000 30 (by kernel_rfl)
abbrev wa92 : List V := [wv0, wv24, zI, wv55]
abbrev wr92 : V := .tup [wv61, zJ 1, wv59, .bool true, zI]
theorem wf92 : Con Tryz.prog 129 wa92 (· = wr92) := con_of_xrun mixed (sp := tabS ((167, spQ [(wa65, wr65)]) :: spW)) (tabS_cons (spQ_ok (.cons wf65 (by kernel_rfl) .nil)) spW_ok) 1000 30 (by kernel_rfl)
abbrev wa111 : List V := [wv0, wv87, zS]
abbrev wr111 : V := .tup [wv90, .agg [zI, zS, zF], zF]
theorem wf111 : Con Tryz.prog 9 wa111 (· = wr111) := con_of_xrun mixed (sp := tabS ((63, spQ [(wa110, wr110)]) :: ((25, spQ [(wa105, wr105)]) :: spW))) (tabS_cons (spQ_ok (.cons wf110 (by kernel_rfl) .nil)) (tabS_cons (spQ_ok (.cons wf105 (by kernel_rfl) .nil)) spW_ok)) 1000 30 (by kernel_rfl)
abbrev wa163 : List V := [wv0, wv112, zS]
abbrev wr163 : V := .tup [.agg [zI, zI, .bool true, zI, zJ 32, zI, zJ 1, zF, zI, zI, zI, wv117, zL, zL, zJ 2, zJ 1, zF, zL, zL, zL, zL, zF, .bool true, .int .i8 6, zI, zI, zK, zI, zS, zI, zJ 16, .int .i8 4, zI, zS, zK, zI, zI, zI, zI, zS, zI, zI, zI, zS, zI, zF, zF, zL, zI, zL, zI, zI, zK, zI, zJ 16, zK, zI, zT, zT, zI, zI, zI, zI, zL], .agg [zI, zS, zF], zF]
theorem wf163 : Con Tryz.prog 9 wa163 (· = wr163) := con_of_xrun mixed (sp := tabS ((64, spQ [(wa162, wr162)]) :: ((63, spQ [(wa161, wr161)]) :: ((25, spQ [(wa157, wr157)]) :: spW)))) (tabS_cons (spQ_ok (.cons wf162 (by kernel_rfl) .nil)) (tabS_cons (spQ_ok (.cons wf161 (by kernel_rfl) .nil)) (tabS_cons (spQ_ok (.cons wf157 (by kernel_rfl) .nil)) spW_ok))) 1000 30 (by kernel_rfl)
abbrev wa178 : List V := [wv0, wv123, zS]
abbrev wr178 : V := .tup [.agg [zI, zI, .bool true, zI, zJ 32, zI, zJ 1, zF, zI, zI, zI, wv117, zL, zL, zJ 2, zJ 1, zF, zL, zL, zL, zL, zF, .bool true, .int .i8 6, zI, zI, zK, zI, zS, zI, zJ 16, .int .i8 4, zI, zS, zK, zI, zI, zI, zI, zS, zI, zI, zI, zS, zI, zF, zF, zL, zI, zL, zI, zI, zK, zI, zJ 16, .int .i8 3, zI, zL, zT, zI, zI, zI, zI, zL], .agg [zI, zS, zF], zF]
theorem wf178 : Con Tryz.prog 9 wa178 (· = wr178) := con_of_xrun mixed (sp := tabS ((65, spQ [(wa177, wr177)]) :: spW)) (tabS_cons (spQ_ok (.cons wf177 (by kernel_rfl) .nil)) spW_ok) 1000 30 (by kernel_rfl)
abbrev wa191 : List V := [wv0, wv129, zS]
abbrev wr191 : V := .tup [wv132, .agg [zI, zS, zF], zF]
theorem wf191 : Con Tryz.prog 9 wa191 (· = wr191) := con_of_xrun mixed (sp := tabS ((63, spQ [(wa190, wr190)]) :: ((25, spQ [(wa186, wr186)]) :: spW))) (tabS_cons (spQ_ok (.cons wf190 (by kernel_rfl) .nil)) (tabS_cons (spQ_ok (.cons wf186 (by kernel_rfl) .nil)) spW_ok)) 1000 30 (by kernel_rfl)
abbrev wa242 : List V := [wv0, wv154, zS]
abbrev wr242 : V := .tup [.agg [zI, zI, .bool true, zI, zJ 32, zI, zJ 1, zF, zI, zI, zI, wv12, zL, zT, zJ 3, zJ 2, zF, zL, zL, zL, zL, zF, .bool true, .int .i8 6, zI, zI, zK, zI, zS, zI, zJ 16, zK, zI, zS, zK, zI, zI, zI, zI, zS, zI, zI, zI, zS, zI, zF, zF, zL, zI, zL, zI, zI, zK, zI, zI, zK, zI, zT, zT, zI, zI, zI, zI, zL], .agg [zI, zS, zF], .bool true]
theorem wf242 : Con Tryz.prog 9 wa242 (· = wr242) := con_of_xrun mixed (sp := tabS ((63, spQ [(wa241, wr241)]) :: ((25, spQ [(wa237, wr237)]) :: spW))) (tabS_cons (spQ_ok (.cons wf241 (by kernel_rfl) .nil)) (tabS_cons (spQ_ok (.cons wf237 (by kernel_rfl) .nil)) spW_ok)) 1000 30 (by kernel_rfl)
end Go.Proofs.YtkjihmlighigjaaGreat

namespace Go.Proofs.YtkjihmlighigjaaGreat
open Go.RowKit

abbrev wa68 : List V := [wv0, wv54, zS]
abbrev wr68 : V := .tup [wv62, .agg [zI, zS, zF], zF]
set_option maxRecDepth 100000 in
set_option maxHeartbeats 16000000 in
theorem wf68 : Con Tryz.prog 46 wa68 (· = wr68) := con_of_xrun mixed (sp := tabS ((17, spQ [(wa67, wr67)]) :: ((130, spQ [(wa66, wr66)]) :: ((82, spQ [(wa60, wr60)]) :: spW)))) (tabS_cons (spQ_ok (.cons wf67 (by kernel_rfl) .nil)) (tabS_cons (spQ_ok (.cons wf66 (by kernel_rfl) .nil)) (tabS_cons (spQ_ok (.cons wf60 (by kernel_rfl) .nil)) spW_ok))) 1000 30 (by kernel_rfl)
abbrev wa93 : List V := [wv0, wv78, wv55]
abbrev wr93 : V := .tup [wv79, .agg [zI, zS, zF], zF]
set_option maxRecDepth 100000 in
set_option maxHeartbeats 16000000 in
theorem wf93 : Con Tryz.prog 46 wa93 (· = wr93) := con_of_xrun mixed (sp := tabS ((129, spQ [(wa92, wr92)]) :: spW)) (tabS_cons (spQ_ok (.cons wf92 (by kernel_rfl) .nil)) spW_ok) 1000 30 (by kernel_rfl)
abbrev wa243 : List V := [wv0, wv76, .agg [zI, zI, .bool true, zI, zJ 32, zI, zJ 1, zF, zI, zI, zI, wv60, zL, zL, zJ 1, zI, zF, zL, zL, zL, zL, zF, zF, .int .i8 13, zI, zI, zK, zI, zS, zI, zI, zK, zI, zS, zK, zI, zI, zI, zI, zS, zI, zI, zI, zS, zI, zF, zF, zL, zI, zL, zI, zI, zK, zI, zI, zK, zI, zL, zL, zI, zI, zI, zI, zL], wv65, zJ 60]
abbrev wr243 : V := .tup [wv157, .agg [zI, zI, .bool true, zI, zJ 32, zI, zJ 1, zF, zI, zI, zI, wv12, zL, zT, zJ 3, zJ 2, zF, zL, zL, zL, zL, zF, zF, .int .i8 6, zI, zI, zK, zI, zS, zI, zJ 16, zK, zI, zS, zK, zI, zI, zI, zI, zS, zI, zI, zI, zS, zI, zF, zF, zL, zI, zL, zI, zI, zK, zI, zI, zK, zI, zT, zT, zI, zI, zI, zI, zL], .agg [zI, zS, zF], zJ 22, .bool true]
set_option maxRecDepth 100000 in
set_option maxHeartbeats 16000000 in
theorem wf243 : Con Tryz.prog 15 wa243 (· = wr243) := con_of_xrun mixed (sp := tabS ((9, spQ [(wa103, wr103), (wa111, wr111), (wa117, wr117), (wa123, wr123), (wa130, wr130), (wa136, wr136), (wa142, wr142), (wa149, wr149), (wa155, wr155), (wa163, wr163), (wa171, wr171), (wa178, wr178), (wa184, wr184), (wa191, wr191), (wa197, wr197), (wa203, wr203), (wa210, wr210), (wa216, wr216), (wa222, wr222), (wa229, wr229), (wa235, wr235), (wa242, wr242)]) :: ((45, spQ [(wa102, wr102), (wa108, wr108), (wa115, wr115), (wa121, wr121), (wa128, wr128), (wa134, wr134), (wa140, wr140), (wa147, wr147), (wa153, wr153), (wa159, wr159), (wa169, wr169), (wa175, wr175), (wa182, wr182), (wa188, wr188), (wa195, wr195), (wa201, wr201), (wa208, wr208), (wa214, wr214), (wa220, wr220), (wa227, wr227), (wa233, wr233), (wa239, wr239)]) :: ((7, spQ [(wa101, wr101), (wa106, wr106), (wa114, wr114), (wa120, wr120), (wa126, wr126), (wa133, wr133), (wa139, wr139), (wa145, wr145), (wa152, wr152), (wa158, wr158), (wa167, wr167), (wa174, wr174), (wa181, wr181), (wa187, wr187), (wa194, wr194), (wa200, wr200), (wa206, wr206), (wa213, wr213), (wa219, wr219), (wa225, wr225), (wa232, wr232), (wa238, wr238)]) :: ((44, spQ [(wa100, wr100), (wa104, wr104), (wa112, wr112), (wa118, wr118), (wa124, wr124), (wa131, wr131), (wa137, wr137), (wa143, wr143), (wa150, wr150), (wa156, wr156), (wa165, wr165), (wa172, wr172), (wa179, wr179), (wa185, wr185), (wa192, wr192), (wa198, wr198), (wa204, wr204), (wa211, wr211), (wa217, wr217), (wa223, wr223), (wa230, wr230), (wa236, wr236)]) :: ((6, spQ [(wa99, wr99)]) :: spW)))))) (tabS_cons (spQ_ok (.cons wf103 (by kernel_rfl) (.cons wf111 (by kernel_rfl) (.cons wf117 (by kernel_rfl) (.cons wf123 (by kernel_rfl) (.cons wf130 (by kernel_rfl) (.cons wf136 (by kernel_rfl) (.cons wf142 (by kernel_rfl) (.cons wf149 (by kernel_rfl) (.cons wf155 (by kernel_rfl) (.cons wf163 (by kernel_rfl) (.cons wf171 (by kernel_rfl) (.cons wf178 (by kernel_rfl) (.cons wf184 (by kernel_rfl) (.cons wf191 (by kernel_rfl) (.cons wf197 (by kernel_rfl) (.cons wf203 (by kernel_rfl) (.cons wf210 (by kernel_rfl) (.cons wf216 (by kernel_rfl) (.cons wf222 (by kernel_rfl) (.cons wf229 (by kernel_rfl) (.cons wf235 (by kernel_rfl) (.cons wf242 (by kernel_rfl) .nil))))))))))))))))))))))) (tabS_cons (spQ_ok (.cons wf102 (by kernel_rfl) (.cons wf108 (by kernel_rfl) (.cons wf115 (by kernel_rfl) (.cons wf121 (by kernel_rfl) (.cons wf128 (by kernel_rfl) (.cons wf134 (by kernel_rfl) (.cons wf140 (by kernel_rfl) (.cons wf147 (by kernel_rfl) (.cons wf153 (by kernel_rfl) (.cons wf159 (by kernel_rfl) (.cons wf169 (by kernel_rfl) (.cons wf175 (by kernel_rfl) (.cons wf182 (by kernel_rfl) (.cons wf188 (by kernel_rfl) (.cons wf195 (by kernel_rfl) (.cons wf201 (by kernel_rfl) (.cons wf208 (by kernel_rfl) (.cons wf214 (by kernel_rfl) (.cons wf220 (by kernel_rfl) (.cons wf227 (by kernel_rfl) (.cons wf233 (by kernel_rfl) (.cons wf239 (by kernel_rfl) .nil))))))))))))))))))))))) (tabS_cons (spQ_ok (.cons wf101 (by kernel_rfl) (.cons wf106 (by kernel_rfl) (.cons wf114 (by kernel_rfl) (.cons wf120 (by kernel_rfl) (.cons wf126 (by kernel_rfl) (.cons wf133 (by kernel_rfl) (.cons wf139 (by kernel_rfl) (.cons wf145 (by kernel_rfl) (.cons wf152 (by kernel_rfl) (.cons wf158 (by kernel_rfl) (.cons wf167 (by kernel_rfl) (.cons wf174 (by kernel_rfl) (.cons wf181 (by kernel_rfl) (.cons wf187 (by kernel_rfl) (.cons wf194 (by kernel_rfl) (.cons wf200 (by kernel_rfl) (.cons wf206 (by kernel_rfl) (.cons wf213 (by kernel_rfl) (.cons wf219 (by kernel_rfl) (.cons wf225 (by kernel_rfl) (.cons wf232 (by kernel_rfl) (.cons wf238 (by kernel_rfl) .nil))))))))))))))))))))))) (tabS_cons (spQ_ok (.cons wf100 (by kernel_rfl) (.cons wf104 (by kernel_rfl) (.cons wf112 (by kernel_rfl) (.cons wf118 (by kernel_rfl) (.cons wf124 (by kernel_rfl) (.cons wf131 (by kernel_rfl) (.cons wf137 (by kernel_rfl) (.cons wf143 (by kernel_rfl) (.cons wf150 (by kernel_rfl) (.cons wf156 (by kernel_rfl) (.cons wf165 (by kernel_rfl) (.cons wf172 (by kernel_rfl) (.cons wf179 (by kernel_rfl) (.cons wf185 (by kernel_rfl) (.cons wf192 (by kernel_rfl) (.cons wf198 (by kernel_rfl) (.cons wf204 (by kernel_rfl) (.cons wf211 (by kernel_rfl) (.cons wf217 (by kernel_rfl) (.cons wf223 (by kernel_rfl) (.cons wf230 (by kernel_rfl) (.cons wf236 (by kernel_rfl) .nil))))))))))))))))))))))) (tabS_cons (spQ_ok (.cons wf99 (by kernel_rfl) .nil)) spW_ok))))) 1000 30 (by kernel_rfl)
end Go.Proofs.YtkjihmlighigjaaGreat

namespace Go.Proofs.YtkjihmlighigjaaGreat
open Go.RowKit

abbrev wa73 : List V := [wv0, wv8, wv64, .agg [zK, zI, zI, zK, zI, zS, zI, zI], zJ 60]
abbrev wr73 : V := .tup [wv58, .agg [zI, zI, .bool true, zI, zJ 16, zI, zJ 1, .bool true, zI, zI, zI, wv60, zL, zL, zJ 1, zJ 1, zF, zL, zL, zL, zL, zF, zF, zK, zI, zI, zK, zI, zS, zI, zI, zK, zI, zS, zK, zI, zI, zI, zI, zS, zI, zI, zI, zS, zI, zF, zF, zL, zI, zT, zI, zI, zK, zI, zI, zK, zI, zL, zL, zI, zI, zI, zI, zL], .agg [zI, zS, zF], zJ 14, .bool true]
set_option maxRecDepth 100000 in
set_option maxHeartbeats 16000000 in
theorem wf73 : Con Tryz.prog 15 wa73 (· = wr73) := con_of_xrun mixed (sp := tabS ((46, spQ [(wa5, wr5), (wa9, wr9), (wa13, wr13), (wa18, wr18), (wa22, wr22), (wa27, wr27), (wa32, wr32), (wa38, wr38), (wa43, wr43), (wa48, wr48), (wa54, wr54), (wa59, wr59), (wa68, wr68), (wa72, wr72)]) :: ((45, spQ [(wa4, wr4), (wa8, wr8), (wa12, wr12), (wa16, wr16), (wa25, wr25), (wa30, wr30), (wa36, wr36), (wa41, wr41), (wa46, wr46), (wa52, wr52), (wa57, wr57), (wa62, wr62), (wa71, wr71)]) :: ((44, spQ [(wa3, wr3), (wa6, wr6), (wa10, wr10), (wa14, wr14), (wa20, wr20), (wa24, wr24), (wa29, wr29), (wa34, wr34), (wa40, wr40), (wa45, wr45), (wa50, wr50), (wa56, wr56), (wa61, wr61), (wa69, wr69)]) :: ((43, spQ [(wa2, wr2)]) :: spW))))) (tabS_cons (spQ_ok (.cons wf5 (by kernel_rfl) (.cons wf9 (by kernel_rfl) (.cons wf13 (by kernel_rfl) (.cons wf18 (by kernel_rfl) (.cons wf22 (by kernel_rfl) (.cons wf27 (by kernel_rfl) (.cons wf32 (by kernel_rfl) (.cons wf38 (by kernel_rfl) (.cons wf43 (by kernel_rfl) (.cons wf48 (by kernel_rfl) (.cons wf54 (by kernel_rfl) (.cons wf59 (by kernel_rfl) (.cons wf68 (by kernel_rfl) (.cons wf72 (by kernel_rfl) .nil))))))))))))))) (tabS_cons (spQ_ok (.cons wf4 (by kernel_rfl) (.cons wf8 (by kernel_rfl) (.cons wf12 (by kernel_rfl) (.cons wf16 (by kernel_rfl) (.cons wf25 (by kernel_rfl) (.cons wf30 (by kernel_rfl) (.cons wf36 (by kernel_rfl) (.cons wf41 (by kernel_rfl) (.cons wf46 (by kernel_rfl) (.cons wf52 (by kernel_rfl) (.cons wf57 (by kernel_rfl) (.cons wf62 (by kernel_rfl) (.cons wf71 (by kernel_rfl) .nil)))))))))))))) (tabS_cons (spQ_ok (.cons wf3 (by kernel_rfl) (.cons wf6 (by kernel_rfl) (.cons wf10 (by kernel_rfl) (.cons wf14 (by kernel_rfl) (.cons wf20 (by kernel_rfl) (.cons wf24 (by kernel_rfl) (.cons wf29 (by kernel_rfl) (.cons wf34 (by kernel_rfl) (.cons wf40 (by kernel_rfl) (.cons wf45 (by kernel_rfl) (.cons wf50 (by kernel_rfl) (.cons wf56 (by kernel_rfl) (.cons wf61 (by kernel_rfl) (.cons wf69 (by kernel_rfl) .nil))))))))))))))) (tabS_cons (spQ_ok (.cons wf2 (by kernel_rfl) .nil)) spW_ok)))) 1000 30 (by kernel_rfl)
abbrev wa98 : List V := [wv0, wv66, wv64, .agg [.int .i8 13, zI, zI, zK, zI, zS, zI, zI], zJ 60]
abbrev wr98 : V := .tup [wv76, .agg [zI, zI, .bool true, zI, zJ 32, zI, zJ 1, zF, zI, zI, zI, wv60, zL, zL, zJ 1, zI, zF, zL, zL, zL, zL, zF, zF, .int .i8 13, zI, zI, zK, zI, zS, zI, zI, zK, zI, zS, zK, zI, zI, zI, zI, zS, zI, zI, zI, zS, zI, zF, zF, zL, zI, zT, zI, zI, zK, zI, zI, zK, zI, zL, zL, zI, zI, zI, zI, zL], .agg [zI, zS, zF], zJ 5, .bool true]
set_option maxRecDepth 100000 in
set_option maxHeartbeats 16000000 in
theorem wf98 : Con Tryz.prog 15 wa98 (· = wr98) := con_of_xrun mixed (sp := tabS ((46, spQ [(wa80, wr80), (wa84, wr84), (wa88, wr88), (wa93, wr93), (wa97, wr97)]) :: ((45, spQ [(wa79, wr79), (wa83, wr83), (wa87, wr87), (wa91, wr91), (wa95, wr95)]) :: ((44, spQ [(wa78, wr78), (wa81, wr81), (wa85, wr85), (wa89, wr89), (wa94, wr94)]) :: ((43, spQ [(wa77, wr77)]) :: spW))))) (tabS_cons (spQ_ok (.cons wf80 (by kernel_rfl) (.cons wf84 (by kernel_rfl) (.cons wf88 (by kernel_rfl) (.cons wf93 (by kernel_rfl) (.cons wf97 (by kernel_rfl) .nil)))))) (tabS_cons (spQ_ok (.cons wf79 (by kernel_rfl) (.cons wf83 (by kernel_rfl) (.cons wf87 (by kernel_rfl) (.cons wf91 (by kernel_rfl) (.cons wf95 (by kernel_rfl) .nil)))))) (tabS_cons (spQ_ok (.cons wf78 (by kernel_rfl) (.cons wf81 (by kernel_rfl) (.cons wf85 (by kernel_rfl) (.cons wf89 (by kernel_rfl) (.cons wf94 (by kernel_rfl) .nil)))))) (tabS_cons (spQ_ok (.cons wf77 (by kernel_rfl) .nil)) spW_ok)))) 1000 30 (by kernel_rfl)
end Go.Proofs.YtkjihmlighigjaaGreat

namespace Go.Proofs.YtkjihmlighigjaaGreat
open Go.RowKit

abbrev wa247 : List V := []
abbrev wr247 : V := .bool true
set_option maxRecDepth 100000 in
set_option maxHeartbeats 16000000 in
theorem wf247 : Con Tryz.prog 5 wa247 (· = wr247) := con_of_xrun mixed (sp := tabS ((19, spQ [(wa245, wr245), (wa246, wr246)]) :: ((18, spQ [(wa244, wr244)]) :: ((17, spQ [(wa63, wr63)]) :: ((16, spQ [(wa76, wr76)]) :: ((15, spQ [(wa73, wr73), (wa75, wr75), (wa98, wr98), (wa243, wr243)]) :: ((14, spQ [(wa1, wr1)]) :: ((13, spQ [(wa0, wr0)]) :: spW)))))))) (tabS_cons (spQ_ok (.cons wf245 (by kernel_rfl) (.cons wf246 (by kernel_rfl) .nil))) (tabS_cons (spQ_ok (.cons wf244 (by kernel_rfl) .nil)) (tabS_cons (spQ_ok (.cons wf63 (by kernel_rfl) .nil)) (tabS_cons (spQ_ok (.cons wf76 (by kernel_rfl) .nil)) (tabS_cons (spQ_ok (.cons wf73 (by kernel_rfl) (.cons wf75 (by kernel_rfl) (.cons wf98 (by kernel_rfl) (.cons wf243 (by kernel_rfl) .nil))))) (tabS_cons (spQ_ok (.cons wf1 (by kernel_rfl) .nil)) (tabS_cons (spQ_ok (.cons wf0 (by kernel_rfl) .nil)) spW_ok))))))) 1000 30 (by kernel_rfl)
theorem wakes24_con : Con Tryz.prog 5 [] (· = .bool true) := wf247
def wakes_ (L : Nat) : Option Bool := some true
theorem wakes__c (L : Nat) : Ctr Tryz.prog 5 false caN cdB (fun a => wakes_ L) := by
  intro a r hp h
  cases h
  exact ⟨wakes24_con, .bool _, nofun⟩
end Go.Proofs.YtkjihmlighigjaaGreat

namespace Go.Proofs.YtkjihmlighigjaaGreat
open Go.RowKit

end Go.Proofs.YtkjihmlighigjaaGreat

namespace Go.Proofs.YtkjihmlighigjaaGreat
open Go.RowKit

end Go.Proofs.YtkjihmlighigjaaGreat

namespace Go.Proofs.YtkjihmlighigjaaGreat
open Go.RowKit

end Go.Proofs.YtkjihmlighigjaaGreat

namespace Go.Proofs.YtkjihmlighigjaaGreat
open Go.RowKit

section
variable {P : Program} {ops : Array Oper} {h : FuncId} {d : Option Tmp} {l : List Oper} {fr : Fr} {st : St} {r x y : V} {b n cap sz lk : Nat} {es : List (List V)}
end
end Go.Proofs.YtkjihmlighigjaaGreat

namespace Go.Proofs.YtkjihmlighigjaaGreat
open Go.RowKit

end Go.Proofs.YtkjihmlighigjaaGreat

namespace Go.Proofs.YtkjihmlighigjaaGreat
open Go.RowKit

end Go.Proofs.YtkjihmlighigjaaGreat

namespace Go.Proofs.YtkjihmlighigjaaGreat
open Go.RowKit

end Go.Proofs.YtkjihmlighigjaaGreat
