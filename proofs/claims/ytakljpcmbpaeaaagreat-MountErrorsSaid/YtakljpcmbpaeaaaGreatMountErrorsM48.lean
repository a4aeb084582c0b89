/- The example of law24: what is begun and wanted. -/
import Derived.Test.YtakljpcmbpaeaaaGreatMountErrorsM43
import Derived.Test.YtakljpcmbpaeaaaGreatMountErrorsM44
import Derived.Test.YtakljpcmbpaeaaaGreatMountErrorsM45
import Derived.Test.YtakljpcmbpaeaaaGreatMountErrorsM46
namespace Go.Proofs.YtakljpcmbpaeaaaGreat
open Go.RowKit
set_option maxRecDepth 100000
set_option maxHeartbeats 16000000
set_option linter.unusedSimpArgs false
set_option linter.unusedVariables false

abbrev wa3 : List V := [wv0, wv5]
abbrev wr3 : V := .tup [wv5, .agg [.int .i64 0, .str ⟨#[]⟩, .bool false], .bool false]
theorem wf3 : Con Tryz.prog 13 wa3 (· = wr3) := con_of_xrun mixed (sp := tabS spW) spW_ok 1000 30 (by kernel_rfl)
abbrev qt13_1 : List (List V × V) := (wa3, wr3) :: []
theorem qo13_1 : QOk Tryz.prog 13 qt13_1 := .cons wf3 (by kernel_rfl) .nil
abbrev wa4 : List V := [wv0, wv5]
abbrev wr4 : V := wv6
theorem wf4 : Con Tryz.prog 17 wa4 (· = wr4) := con_of_xrun mixed (sp := tabS spW) spW_ok 1000 30 (by kernel_rfl)
abbrev qt17_1 : List (List V × V) := (wa4, wr4) :: []
theorem qo17_1 : QOk Tryz.prog 17 qt17_1 := .cons wf4 (by kernel_rfl) .nil
abbrev wa7 : List V := [wv0, wv9]
abbrev wr7 : V := wv10
theorem wf7 : Con Tryz.prog 17 wa7 (· = wr7) := con_of_xrun mixed (sp := tabS spW) spW_ok 1000 30 (by kernel_rfl)
abbrev qt17_2 : List (List V × V) := (wa7, wr7) :: qt17_1
theorem qo17_2 : QOk Tryz.prog 17 qt17_2 := .cons wf7 (by kernel_rfl) qo17_1
abbrev wa10 : List V := [wv0, wv12]
abbrev wr10 : V := wv14
theorem wf10 : Con Tryz.prog 17 wa10 (· = wr10) := con_of_xrun mixed (sp := tabS spW) spW_ok 1000 30 (by kernel_rfl)
abbrev qt17_3 : List (List V × V) := (wa10, wr10) :: qt17_2
theorem qo17_3 : QOk Tryz.prog 17 qt17_3 := .cons wf10 (by kernel_rfl) qo17_2
abbrev wa13 : List V := [wv0, wv17]
abbrev wr13 : V := wv18
theorem wf13 : Con Tryz.prog 17 wa13 (· = wr13) := con_of_xrun mixed (sp := tabS spW) spW_ok 1000 30 (by kernel_rfl)
abbrev qt17_4 : List (List V × V) := (wa13, wr13) :: qt17_3
theorem qo17_4 : QOk Tryz.prog 17 qt17_4 := .cons wf13 (by kernel_rfl) qo17_3
abbrev wa18 : List V := [wv0, .agg [.int .i64 0, .int .i64 0, .bool true, .int .i64 0, .int .i64 16, .int .i64 0, .int .i64 1, .bool false, .int .i64 0, .int .i64 0, .int .i64 0, .sl [[.int .i64 0, .int .i64 0]] false, .sl [] false, .sl [] false, .int .i64 0, .int .i64 0, .bool false, .sl [] false, .sl [] false, .sl [] false, .sl [] false, .bool false, .bool true, .int .i8 0, .int .i64 0, .int .i64 0, .int .i8 0, .int .i64 0, .str ⟨#[]⟩, .int .i64 0, .int .i64 0, .int .i8 0, .int .i64 0, .str ⟨#[]⟩, .int .i8 0, .int .i64 0, .int .i64 0, .int .i64 0, .int .i64 0, .str ⟨#[]⟩, .int .i64 0, .int .i64 0, .int .i64 0, .str ⟨#[]⟩, .int .i64 0, .bool false, .bool false, .sl [] false, .int .i64 0, .sl [] false, .int .i64 0, .int .i64 0, .int .i8 0, .int .i64 0, .int .i64 0, .int .i8 0, .int .i64 0, .sl [] false, .sl [] false, .int .i64 0, .int .i64 0, .int .i64 0, .int .i64 0, .sl [] false]]
abbrev wr18 : V := .tup [wv21, .agg [.int .i64 0, .str ⟨#[]⟩, .bool false], .bool false]
theorem wf18 : Con Tryz.prog 13 wa18 (· = wr18) := con_of_xrun mixed (sp := tabS spW) spW_ok 1000 30 (by kernel_rfl)
abbrev qt13_2 : List (List V × V) := (wa18, wr18) :: qt13_1
theorem qo13_2 : QOk Tryz.prog 13 qt13_2 := .cons wf18 (by kernel_rfl) qo13_1
abbrev wa19 : List V := [wv0, wv21]
abbrev wr19 : V := wv18
theorem wf19 : Con Tryz.prog 17 wa19 (· = wr19) := con_of_xrun mixed (sp := tabS spW) spW_ok 1000 30 (by kernel_rfl)
abbrev qt17_5 : List (List V × V) := (wa19, wr19) :: qt17_4
theorem qo17_5 : QOk Tryz.prog 17 qt17_5 := .cons wf19 (by kernel_rfl) qo17_4
abbrev wa22 : List V := [wv0, wv23]
abbrev wr22 : V := wv24
theorem wf22 : Con Tryz.prog 17 wa22 (· = wr22) := con_of_xrun mixed (sp := tabS spW) spW_ok 1000 30 (by kernel_rfl)
abbrev qt17_6 : List (List V × V) := (wa22, wr22) :: qt17_5
theorem qo17_6 : QOk Tryz.prog 17 qt17_6 := .cons wf22 (by kernel_rfl) qo17_5
abbrev wa26 : List V := [wv0, wv26]
abbrev wr26 : V := wv28
theorem wf26 : Con Tryz.prog 17 wa26 (· = wr26) := con_of_xrun mixed (sp := tabS spW) spW_ok 1000 30 (by kernel_rfl)
abbrev qt17_7 : List (List V × V) := (wa26, wr26) :: qt17_6
theorem qo17_7 : QOk Tryz.prog 17 qt17_7 := .cons wf26 (by kernel_rfl) qo17_6
abbrev wa30 : List V := [wv0, wv31]
abbrev wr30 : V := wv33
theorem wf30 : Con Tryz.prog 17 wa30 (· = wr30) := con_of_xrun mixed (sp := tabS spW) spW_ok 1000 30 (by kernel_rfl)
abbrev qt17_8 : List (List V × V) := (wa30, wr30) :: qt17_7
theorem qo17_8 : QOk Tryz.prog 17 qt17_8 := .cons wf30 (by kernel_rfl) qo17_7
abbrev wa34 : List V := [wv0, wv36]
abbrev wr34 : V := wv38
theorem wf34 : Con Tryz.prog 17 wa34 (· = wr34) := con_of_xrun mixed (sp := tabS spW) spW_ok 1000 30 (by kernel_rfl)
abbrev qt17_9 : List (List V × V) := (wa34, wr34) :: qt17_8
theorem qo17_9 : QOk Tryz.prog 17 qt17_9 := .cons wf34 (by kernel_rfl) qo17_8
abbrev wa39 : List V := [wv0, wv41]
abbrev wr39 : V := wv42
theorem wf39 : Con Tryz.prog 17 wa39 (· = wr39) := con_of_xrun mixed (sp := tabS spW) spW_ok 1000 30 (by kernel_rfl)
abbrev qt17_10 : List (List V × V) := (wa39, wr39) :: qt17_9
theorem qo17_10 : QOk Tryz.prog 17 qt17_10 := .cons wf39 (by kernel_rfl) qo17_9
end Go.Proofs.YtakljpcmbpaeaaaGreat
