/- The example of law24: a new device, and deeds. -/
import Derived.Test.YtakljpcmbpaeaaaGreatMountErrorsM43
import Derived.Test.YtakljpcmbpaeaaaGreatMountErrorsM44
import Derived.Test.YtakljpcmbpaeaaaGreatMountErrorsM45
import Derived.Test.YtakljpcmbpaeaaaGreatMountErrorsM46
namespace Go.Proofs.YtakljpcmbpaeaaaGreat
open Go.RowKit
set_option maxRecDepth 100000
set_option maxHeartbeats 16000000
set_option linter.unusedSimpArgs false
set_option linter.unusedVariables false

abbrev wa0 : List V := [wv0]
abbrev wr0 : V := .tup [wv3, .int .i64 0]
theorem wf0 : Con Tryz.prog 54 wa0 (· = wr0) := con_of_xrun mixed (sp := tabS spW) spW_ok 1000 30 (by kernel_rfl)
abbrev qt54_1 : List (List V × V) := (wa0, wr0) :: []
theorem qo54_1 : QOk Tryz.prog 54 qt54_1 := .cons wf0 (by kernel_rfl) .nil
abbrev wa1 : List V := [.int .i64 1, wv3]
abbrev wr1 : V := .tup [wv4, .int .i64 0]
theorem wf1 : Con Tryz.prog 55 wa1 (· = wr1) := con_of_xrun mixed (sp := tabS spW) spW_ok 1000 30 (by kernel_rfl)
abbrev qt55_1 : List (List V × V) := (wa1, wr1) :: []
theorem qo55_1 : QOk Tryz.prog 55 qt55_1 := .cons wf1 (by kernel_rfl) .nil
abbrev wa2 : List V := [wv0]
abbrev wr2 : V := .tup [wv4, .bool true]
theorem wf2 : Con Tryz.prog 12 wa2 (· = wr2) := con_of_xrun mixed (sp := tabS ((55, spQ qt55_1) :: ((54, spQ qt54_1) :: spW))) (tabS_cons (spQ_ok qo55_1) (tabS_cons (spQ_ok qo54_1) spW_ok)) 1000 30 (by kernel_rfl)
abbrev qt12_1 : List (List V × V) := (wa2, wr2) :: []
theorem qo12_1 : QOk Tryz.prog 12 qt12_1 := .cons wf2 (by kernel_rfl) .nil
abbrev wa5 : List V := [wv7, .int .i64 0, wv6]
abbrev wr5 : V := .tup [wv8, .str ⟨#[16, 0, 0, 0, 0, 0]⟩, .int .i64 0]
theorem wf5 : Con Tryz.prog 18 wa5 (· = wr5) := con_of_xrun mixed (sp := tabS spW) spW_ok 1000 30 (by kernel_rfl)
abbrev qt18_1 : List (List V × V) := (wa5, wr5) :: []
theorem qo18_1 : QOk Tryz.prog 18 qt18_1 := .cons wf5 (by kernel_rfl) .nil
abbrev wa8 : List V := [wv8, .int .i64 0, wv10]
abbrev wr8 : V := .tup [wv11, wv1, .int .i64 0]
theorem wf8 : Con Tryz.prog 18 wa8 (· = wr8) := con_of_xrun mixed (sp := tabS spW) spW_ok 1000 30 (by kernel_rfl)
abbrev qt18_2 : List (List V × V) := (wa8, wr8) :: qt18_1
theorem qo18_2 : QOk Tryz.prog 18 qt18_2 := .cons wf8 (by kernel_rfl) qo18_1
abbrev wa11 : List V := [wv11, .int .i64 0, wv14]
abbrev wr11 : V := wv16
theorem wf11 : Con Tryz.prog 18 wa11 (· = wr11) := con_of_xrun mixed (sp := tabS spW) spW_ok 1000 30 (by kernel_rfl)
abbrev qt18_3 : List (List V × V) := (wa11, wr11) :: qt18_2
theorem qo18_3 : QOk Tryz.prog 18 qt18_3 := .cons wf11 (by kernel_rfl) qo18_2
abbrev wa14 : List V := [wv15, .int .i64 0, wv18]
abbrev wr14 : V := wv16
theorem wf14 : Con Tryz.prog 18 wa14 (· = wr14) := con_of_xrun mixed (sp := tabS spW) spW_ok 1000 30 (by kernel_rfl)
abbrev qt18_4 : List (List V × V) := (wa14, wr14) :: qt18_3
theorem qo18_4 : QOk Tryz.prog 18 qt18_4 := .cons wf14 (by kernel_rfl) qo18_3
abbrev wa23 : List V := [wv15, .int .i64 0, wv24]
abbrev wr23 : V := wv16
theorem wf23 : Con Tryz.prog 18 wa23 (· = wr23) := con_of_xrun mixed (sp := tabS spW) spW_ok 1000 30 (by kernel_rfl)
abbrev qt18_5 : List (List V × V) := (wa23, wr23) :: qt18_4
theorem qo18_5 : QOk Tryz.prog 18 qt18_5 := .cons wf23 (by kernel_rfl) qo18_4
abbrev wa27 : List V := [wv15, .int .i64 0, wv28]
abbrev wr27 : V := .tup [wv29, .str ⟨#[]⟩, .int .i64 0]
theorem wf27 : Con Tryz.prog 18 wa27 (· = wr27) := con_of_xrun mixed (sp := tabS spW) spW_ok 1000 30 (by kernel_rfl)
abbrev qt18_6 : List (List V × V) := (wa27, wr27) :: qt18_5
theorem qo18_6 : QOk Tryz.prog 18 qt18_6 := .cons wf27 (by kernel_rfl) qo18_5
abbrev wa31 : List V := [wv29, .int .i64 0, wv33]
abbrev wr31 : V := .tup [wv34, .str ⟨#[]⟩, .int .i64 0]
theorem wf31 : Con Tryz.prog 18 wa31 (· = wr31) := con_of_xrun mixed (sp := tabS spW) spW_ok 1000 30 (by kernel_rfl)
abbrev qt18_7 : List (List V × V) := (wa31, wr31) :: qt18_6
theorem qo18_7 : QOk Tryz.prog 18 qt18_7 := .cons wf31 (by kernel_rfl) qo18_6
abbrev wa35 : List V := [wv34, .int .i64 0, wv38]
abbrev wr35 : V := .tup [wv39, .str ⟨#[]⟩, .int .i64 0]
theorem wf35 : Con Tryz.prog 18 wa35 (· = wr35) := con_of_xrun mixed (sp := tabS spW) spW_ok 1000 30 (by kernel_rfl)
abbrev qt18_8 : List (List V × V) := (wa35, wr35) :: qt18_7
theorem qo18_8 : QOk Tryz.prog 18 qt18_8 := .cons wf35 (by kernel_rfl) qo18_7
abbrev wa40 : List V := [wv39, .int .i64 0, wv42]
abbrev wr40 : V := .tup [wv39, wv2, .int .i64 0]
theorem wf40 : Con Tryz.prog 18 wa40 (· = wr40) := con_of_xrun mixed (sp := tabS spW) spW_ok 1000 30 (by kernel_rfl)
abbrev qt18_9 : List (List V × V) := (wa40, wr40) :: qt18_8
theorem qo18_9 : QOk Tryz.prog 18 qt18_9 := .cons wf40 (by kernel_rfl) qo18_8
end Go.Proofs.YtakljpcmbpaeaaaGreat
