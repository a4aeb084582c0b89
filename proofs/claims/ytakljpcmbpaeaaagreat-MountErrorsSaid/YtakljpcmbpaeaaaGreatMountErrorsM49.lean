/- The example of law24: what is taken. -/
import Derived.Test.YtakljpcmbpaeaaaGreatMountErrorsM43
import Derived.Test.YtakljpcmbpaeaaaGreatMountErrorsM44
import Derived.Test.YtakljpcmbpaeaaaGreatMountErrorsM45
import Derived.Test.YtakljpcmbpaeaaaGreatMountErrorsM46
namespace Go.Proofs.YtakljpcmbpaeaaaGreat
open Go.RowKit
set_option maxRecDepth 100000
set_option maxHeartbeats 16000000
set_option linter.unusedSimpArgs false
set_option linter.unusedVariables false

abbrev wa6 : List V := [wv0, wv5, .str ⟨#[16, 0, 0, 0, 0, 0]⟩]
abbrev wr6 : V := .tup [.agg [.int .i64 0, .int .i64 0, .bool true, .int .i64 0, .int .i64 16, .int .i64 0, .int .i64 0, .bool false, .int .i64 0, .int .i64 0, .int .i64 0, .sl [[.int .i64 0, .int .i64 0]] false, .sl [] true, .sl [] true, .int .i64 0, .int .i64 0, .bool false, .sl [] false, .sl [] false, .sl [] false, .sl [] false, .bool false, .bool true, .int .i8 13, .int .i64 0, .int .i64 0, .int .i8 0, .int .i64 0, .str ⟨#[]⟩, .int .i64 0, .int .i64 0, .int .i8 1, .int .i64 0, .str ⟨#[]⟩, .int .i8 0, .int .i64 0, .int .i64 0, .int .i64 0, .int .i64 0, .str ⟨#[]⟩, .int .i64 0, .int .i64 0, .int .i64 0, .str ⟨#[]⟩, .int .i64 0, .bool false, .bool false, .sl [] false, .int .i64 0, .sl [] false, .int .i64 0, .int .i64 0, .int .i8 0, .int .i64 0, .int .i64 0, .int .i8 0, .int .i64 0, .sl [] false, .sl [] false, .int .i64 0, .int .i64 0, .int .i64 0, .int .i64 0, .sl [] false], .agg [.int .i64 0, .str ⟨#[]⟩, .bool false], .bool false]
theorem wf6 : Con Tryz.prog 19 wa6 (· = wr6) := con_of_xrun mixed (sp := tabS spW) spW_ok 1000 30 (by kernel_rfl)
abbrev qt19_1 : List (List V × V) := (wa6, wr6) :: []
theorem qo19_1 : QOk Tryz.prog 19 qt19_1 := .cons wf6 (by kernel_rfl) .nil
abbrev wa9 : List V := [wv0, wv9, wv1]
abbrev wr9 : V := .tup [wv12, .agg [.int .i64 0, .str ⟨#[]⟩, .bool false], .bool false]
theorem wf9 : Con Tryz.prog 19 wa9 (· = wr9) := con_of_xrun mixed (sp := tabS spW) spW_ok 1000 30 (by kernel_rfl)
abbrev qt19_2 : List (List V × V) := (wa9, wr9) :: qt19_1
theorem qo19_2 : QOk Tryz.prog 19 qt19_2 := .cons wf9 (by kernel_rfl) qo19_1
abbrev wa12 : List V := [wv0, wv12, .str ⟨#[]⟩]
abbrev wr12 : V := .tup [wv17, .agg [.int .i64 0, .str ⟨#[]⟩, .bool false], .bool false]
theorem wf12 : Con Tryz.prog 19 wa12 (· = wr12) := con_of_xrun mixed (sp := tabS spW) spW_ok 1000 30 (by kernel_rfl)
abbrev qt19_3 : List (List V × V) := (wa12, wr12) :: qt19_2
theorem qo19_3 : QOk Tryz.prog 19 qt19_3 := .cons wf12 (by kernel_rfl) qo19_2
abbrev wa15 : List V := [wv0, wv19, .int .i64 0, .str ⟨#[]⟩]
abbrev wr15 : V := .tup [wv19, .int .i64 0, .agg [.int .i8 0, .int .i64 0, .int .i64 0, .int .i64 0, .int .i64 0, .int .i64 0, .int .i64 0, .int .i8 0], .bool false, .int .i64 0]
theorem wf15 : Con Tryz.prog 196 wa15 (· = wr15) := con_of_xrun mixed (sp := tabS spW) spW_ok 1000 30 (by kernel_rfl)
abbrev qt196_1 : List (List V × V) := (wa15, wr15) :: []
theorem qo196_1 : QOk Tryz.prog 196 qt196_1 := .cons wf15 (by kernel_rfl) .nil
abbrev wa16 : List V := [wv0, wv17, .str ⟨#[]⟩]
abbrev wr16 : V := .tup [wv20, .agg [.int .i64 0, .str ⟨#[]⟩, .bool false], .bool true]
theorem wf16 : Con Tryz.prog 19 wa16 (· = wr16) := con_of_xrun mixed (sp := tabS ((196, spQ qt196_1) :: spW)) (tabS_cons (spQ_ok qo196_1) spW_ok) 1000 30 (by kernel_rfl)
abbrev qt19_4 : List (List V × V) := (wa16, wr16) :: qt19_3
theorem qo19_4 : QOk Tryz.prog 19 qt19_4 := .cons wf16 (by kernel_rfl) qo19_3
abbrev wa20 : List V := [wv0, .agg [.int .i64 0, .str ⟨#[0, 16, 0, 0, 0, 0, 0, 1, 0, 0, 0]⟩, .int .i8 0, .int .i64 0, .int .i64 0, .int .i64 0, .int .i64 0, .str ⟨#[]⟩, .int .i64 0, .int .i64 0, .int .i64 0, .str ⟨#[]⟩, .int .i64 0, .bool false, .bool false], wv19, .int .i64 0, .str ⟨#[]⟩]
abbrev wr20 : V := .tup [wv22, wv19, .int .i64 0, .bool false, .int .i64 0]
theorem wf20 : Con Tryz.prog 111 wa20 (· = wr20) := con_of_xrun mixed (sp := tabS ((196, spQ qt196_1) :: spW)) (tabS_cons (spQ_ok qo196_1) spW_ok) 1000 30 (by kernel_rfl)
abbrev qt111_1 : List (List V × V) := (wa20, wr20) :: []
theorem qo111_1 : QOk Tryz.prog 111 qt111_1 := .cons wf20 (by kernel_rfl) .nil
abbrev wa21 : List V := [wv0, wv21, .str ⟨#[]⟩]
abbrev wr21 : V := .tup [wv23, .agg [.int .i64 0, .str ⟨#[]⟩, .bool false], .bool false]
theorem wf21 : Con Tryz.prog 19 wa21 (· = wr21) := con_of_xrun mixed (sp := tabS ((111, spQ qt111_1) :: ((196, spQ qt196_1) :: spW))) (tabS_cons (spQ_ok qo111_1) (tabS_cons (spQ_ok qo196_1) spW_ok)) 1000 30 (by kernel_rfl)
abbrev qt19_5 : List (List V × V) := (wa21, wr21) :: qt19_4
theorem qo19_5 : QOk Tryz.prog 19 qt19_5 := .cons wf21 (by kernel_rfl) qo19_4
abbrev wa24 : List V := [wv0, wv22, wv19, .int .i64 0, .str ⟨#[]⟩]
abbrev wr24 : V := .tup [wv25, wv19, .int .i64 0, .bool false, .int .i64 0]
theorem wf24 : Con Tryz.prog 111 wa24 (· = wr24) := con_of_xrun mixed (sp := tabS ((196, spQ qt196_1) :: spW)) (tabS_cons (spQ_ok qo196_1) spW_ok) 1000 30 (by kernel_rfl)
abbrev qt111_2 : List (List V × V) := (wa24, wr24) :: qt111_1
theorem qo111_2 : QOk Tryz.prog 111 qt111_2 := .cons wf24 (by kernel_rfl) qo111_1
abbrev wa25 : List V := [wv0, wv23, .str ⟨#[]⟩]
abbrev wr25 : V := .tup [wv26, .agg [.int .i64 0, .str ⟨#[]⟩, .bool false], .bool false]
theorem wf25 : Con Tryz.prog 19 wa25 (· = wr25) := con_of_xrun mixed (sp := tabS ((111, spQ qt111_2) :: ((196, spQ qt196_1) :: spW))) (tabS_cons (spQ_ok qo111_2) (tabS_cons (spQ_ok qo196_1) spW_ok)) 1000 30 (by kernel_rfl)
abbrev qt19_6 : List (List V × V) := (wa25, wr25) :: qt19_5
theorem qo19_6 : QOk Tryz.prog 19 qt19_6 := .cons wf25 (by kernel_rfl) qo19_5
abbrev wa28 : List V := [wv0, wv25, wv19, .int .i64 0, .str ⟨#[]⟩]
abbrev wr28 : V := .tup [wv30, wv19, .int .i64 0, .bool false, .int .i64 0]
theorem wf28 : Con Tryz.prog 111 wa28 (· = wr28) := con_of_xrun mixed (sp := tabS ((196, spQ qt196_1) :: spW)) (tabS_cons (spQ_ok qo196_1) spW_ok) 1000 30 (by kernel_rfl)
abbrev qt111_3 : List (List V × V) := (wa28, wr28) :: qt111_2
theorem qo111_3 : QOk Tryz.prog 111 qt111_3 := .cons wf28 (by kernel_rfl) qo111_2
abbrev wa29 : List V := [wv0, wv26, .str ⟨#[]⟩]
abbrev wr29 : V := .tup [wv31, .agg [.int .i64 0, .str ⟨#[]⟩, .bool false], .bool false]
theorem wf29 : Con Tryz.prog 19 wa29 (· = wr29) := con_of_xrun mixed (sp := tabS ((111, spQ qt111_3) :: ((196, spQ qt196_1) :: spW))) (tabS_cons (spQ_ok qo111_3) (tabS_cons (spQ_ok qo196_1) spW_ok)) 1000 30 (by kernel_rfl)
abbrev qt19_7 : List (List V × V) := (wa29, wr29) :: qt19_6
theorem qo19_7 : QOk Tryz.prog 19 qt19_7 := .cons wf29 (by kernel_rfl) qo19_6
abbrev wa32 : List V := [wv0, wv30, wv19, .int .i64 0, .str ⟨#[]⟩]
abbrev wr32 : V := .tup [wv35, wv19, .int .i64 0, .bool false, .int .i64 0]
theorem wf32 : Con Tryz.prog 111 wa32 (· = wr32) := con_of_xrun mixed (sp := tabS ((196, spQ qt196_1) :: spW)) (tabS_cons (spQ_ok qo196_1) spW_ok) 1000 30 (by kernel_rfl)
abbrev qt111_4 : List (List V × V) := (wa32, wr32) :: qt111_3
theorem qo111_4 : QOk Tryz.prog 111 qt111_4 := .cons wf32 (by kernel_rfl) qo111_3
abbrev wa33 : List V := [wv0, wv31, .str ⟨#[]⟩]
abbrev wr33 : V := .tup [wv36, .agg [.int .i64 0, .str ⟨#[]⟩, .bool false], .bool false]
theorem wf33 : Con Tryz.prog 19 wa33 (· = wr33) := con_of_xrun mixed (sp := tabS ((111, spQ qt111_4) :: ((196, spQ qt196_1) :: spW))) (tabS_cons (spQ_ok qo111_4) (tabS_cons (spQ_ok qo196_1) spW_ok)) 1000 30 (by kernel_rfl)
abbrev qt19_8 : List (List V × V) := (wa33, wr33) :: qt19_7
theorem qo19_8 : QOk Tryz.prog 19 qt19_8 := .cons wf33 (by kernel_rfl) qo19_7
abbrev wa36 : List V := [wv0, wv19, .agg [.int .i8 0, .int .i64 16, .int .i64 1, .int .i64 0, .int .i64 0, .int .i64 0, .int .i64 0, .int .i8 0]]
abbrev wr36 : V := wv40
theorem wf36 : Con Tryz.prog 298 wa36 (· = wr36) := con_of_xrun mixed (sp := tabS spW) spW_ok 1000 30 (by kernel_rfl)
abbrev qt298_1 : List (List V × V) := (wa36, wr36) :: []
theorem qo298_1 : QOk Tryz.prog 298 qt298_1 := .cons wf36 (by kernel_rfl) .nil
abbrev wa37 : List V := [wv0, wv35, wv19, .int .i64 0, .str ⟨#[]⟩]
abbrev wr37 : V := .tup [.agg [.int .i64 0, .str ⟨#[0, 16, 0, 0, 0, 0, 0, 1, 0, 0, 0]⟩, .int .i8 0, .int .i64 0, .int .i64 0, .int .i64 0, .int .i64 0, .str ⟨#[]⟩, .int .i64 0, .int .i64 0, .int .i64 0, .str ⟨#[]⟩, .int .i64 16, .bool false, .bool false], wv40, .int .i64 1, .bool true, .int .i64 0]
theorem wf37 : Con Tryz.prog 111 wa37 (· = wr37) := con_of_xrun mixed (sp := tabS ((196, spQ qt196_1) :: ((298, spQ qt298_1) :: spW))) (tabS_cons (spQ_ok qo196_1) (tabS_cons (spQ_ok qo298_1) spW_ok)) 1000 30 (by kernel_rfl)
abbrev qt111_5 : List (List V × V) := (wa37, wr37) :: qt111_4
theorem qo111_5 : QOk Tryz.prog 111 qt111_5 := .cons wf37 (by kernel_rfl) qo111_4
abbrev wa38 : List V := [wv0, wv36, .str ⟨#[]⟩]
abbrev wr38 : V := .tup [wv41, .agg [.int .i64 0, .str ⟨#[]⟩, .bool false], .bool false]
theorem wf38 : Con Tryz.prog 19 wa38 (· = wr38) := con_of_xrun mixed (sp := tabS ((111, spQ qt111_5) :: ((196, spQ qt196_1) :: ((298, spQ qt298_1) :: spW)))) (tabS_cons (spQ_ok qo111_5) (tabS_cons (spQ_ok qo196_1) (tabS_cons (spQ_ok qo298_1) spW_ok))) 1000 30 (by kernel_rfl)
abbrev qt19_9 : List (List V × V) := (wa38, wr38) :: qt19_8
theorem qo19_9 : QOk Tryz.prog 19 qt19_9 := .cons wf38 (by kernel_rfl) qo19_8
abbrev wa41 : List V := [wv0, wv41, wv2]
abbrev wr41 : V := .tup [wv43, .agg [.int .i64 0, .str ⟨#[]⟩, .bool false], .bool true]
theorem wf41 : Con Tryz.prog 19 wa41 (· = wr41) := con_of_xrun mixed (sp := tabS ((111, spQ qt111_5) :: ((196, spQ qt196_1) :: ((298, spQ qt298_1) :: spW)))) (tabS_cons (spQ_ok qo111_5) (tabS_cons (spQ_ok qo196_1) (tabS_cons (spQ_ok qo298_1) spW_ok))) 1000 30 (by kernel_rfl)
abbrev qt19_10 : List (List V × V) := (wa41, wr41) :: qt19_9
theorem qo19_10 : QOk Tryz.prog 19 qt19_10 := .cons wf41 (by kernel_rfl) qo19_9
end Go.Proofs.YtakljpcmbpaeaaaGreat
