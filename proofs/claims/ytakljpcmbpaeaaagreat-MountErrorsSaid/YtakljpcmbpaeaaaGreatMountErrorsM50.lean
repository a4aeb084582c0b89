/- The example of law24: the runs. -/
import Derived.Test.YtakljpcmbpaeaaaGreatMountErrorsM43
import Derived.Test.YtakljpcmbpaeaaaGreatMountErrorsM44
import Derived.Test.YtakljpcmbpaeaaaGreatMountErrorsM45
import Derived.Test.YtakljpcmbpaeaaaGreatMountErrorsM46
import Derived.Test.YtakljpcmbpaeaaaGreatMountErrorsM47
import Derived.Test.YtakljpcmbpaeaaaGreatMountErrorsM48
import Derived.Test.YtakljpcmbpaeaaaGreatMountErrorsM49
namespace Go.Proofs.YtakljpcmbpaeaaaGreat
open Go.RowKit
set_option linter.unusedSimpArgs false
set_option linter.unusedVariables false

abbrev wa17 : List V := [wv0, wv7, .agg [.int .i64 0, .int .i64 0, .bool true, .int .i64 0, .int .i64 0, .int .i64 0, .int .i64 0, .bool false, .int .i64 0, .int .i64 0, .int .i64 0, .sl [] false, .sl [] false, .sl [] false, .int .i64 0, .int .i64 0, .bool false, .sl [] false, .sl [] false, .sl [] false, .sl [] false, .bool false, .bool false, .int .i8 0, .int .i64 0, .int .i64 0, .int .i8 0, .int .i64 0, .str ⟨#[]⟩, .int .i64 0, .int .i64 0, .int .i8 0, .int .i64 0, .str ⟨#[]⟩, .int .i8 0, .int .i64 0, .int .i64 0, .int .i64 0, .int .i64 0, .str ⟨#[]⟩, .int .i64 0, .int .i64 0, .int .i64 0, .str ⟨#[]⟩, .int .i64 0, .bool false, .bool false, .sl [] false, .int .i64 0, .sl [] false, .int .i64 0, .int .i64 0, .int .i8 0, .int .i64 0, .int .i64 0, .int .i8 0, .int .i64 0, .sl [] false, .sl [] false, .int .i64 0, .int .i64 0, .int .i64 0, .int .i64 0, .sl [] false], .int .i8 13, .int .i64 20]
abbrev wr17 : V := .tup [wv15, wv20, .agg [.int .i64 0, .str ⟨#[]⟩, .bool false], .int .i64 4, .bool true]
set_option maxRecDepth 100000 in
set_option maxHeartbeats 16000000 in
theorem wf17 : Con Tryz.prog 24 wa17 (· = wr17) := con_of_xrun mixed (sp := tabS ((19, spQ qt19_4) :: ((18, spQ qt18_4) :: ((17, spQ qt17_4) :: ((13, spQ qt13_1) :: spW))))) (tabS_cons (spQ_ok qo19_4) (tabS_cons (spQ_ok qo18_4) (tabS_cons (spQ_ok qo17_4) (tabS_cons (spQ_ok qo13_1) spW_ok)))) 1000 30 (by kernel_rfl)
abbrev qt24_1 : List (List V × V) := (wa17, wr17) :: []
theorem qo24_1 : QOk Tryz.prog 24 qt24_1 := .cons wf17 (by kernel_rfl) .nil
abbrev wa42 : List V := [wv0, wv15, .agg [.int .i64 0, .int .i64 0, .bool true, .int .i64 0, .int .i64 16, .int .i64 0, .int .i64 1, .bool false, .int .i64 0, .int .i64 0, .int .i64 0, .sl [[.int .i64 0, .int .i64 0]] false, .sl [] false, .sl [] false, .int .i64 0, .int .i64 0, .bool false, .sl [] false, .sl [] false, .sl [] false, .sl [] false, .bool false, .bool true, .int .i8 13, .int .i64 0, .int .i64 0, .int .i8 0, .int .i64 0, .str ⟨#[]⟩, .int .i64 0, .int .i64 0, .int .i8 0, .int .i64 0, .str ⟨#[]⟩, .int .i8 0, .int .i64 0, .int .i64 0, .int .i64 0, .int .i64 0, .str ⟨#[]⟩, .int .i64 0, .int .i64 0, .int .i64 0, .str ⟨#[]⟩, .int .i64 0, .bool false, .bool false, .sl [] false, .int .i64 0, .sl [] false, .int .i64 0, .int .i64 0, .int .i8 0, .int .i64 0, .int .i64 0, .int .i8 0, .int .i64 0, .sl [] false, .sl [] false, .int .i64 0, .int .i64 0, .int .i64 0, .int .i64 0, .sl [] false], .int .i8 0, .int .i64 20]
abbrev wr42 : V := .tup [wv39, wv43, .agg [.int .i64 0, .str ⟨#[]⟩, .bool false], .int .i64 6, .bool true]
set_option maxRecDepth 100000 in
set_option maxHeartbeats 16000000 in
theorem wf42 : Con Tryz.prog 24 wa42 (· = wr42) := con_of_xrun mixed (sp := tabS ((19, spQ qt19_10) :: ((18, spQ qt18_9) :: ((17, spQ qt17_10) :: ((13, spQ qt13_2) :: spW))))) (tabS_cons (spQ_ok qo19_10) (tabS_cons (spQ_ok qo18_9) (tabS_cons (spQ_ok qo17_10) (tabS_cons (spQ_ok qo13_2) spW_ok)))) 1000 30 (by kernel_rfl)
abbrev qt24_2 : List (List V × V) := (wa42, wr42) :: qt24_1
theorem qo24_2 : QOk Tryz.prog 24 qt24_2 := .cons wf42 (by kernel_rfl) qo24_1
abbrev wa43 : List V := []
abbrev wr43 : V := .bool true
set_option maxRecDepth 100000 in
set_option maxHeartbeats 16000000 in
theorem wf43 : Con Tryz.prog 11 wa43 (· = wr43) := con_of_xrun mixed (sp := tabS ((24, spQ qt24_2) :: ((12, spQ qt12_1) :: spW))) (tabS_cons (spQ_ok qo24_2) (tabS_cons (spQ_ok qo12_1) spW_ok)) 1000 30 (by kernel_rfl)
theorem wakes24_con : Con Tryz.prog 11 [] (· = .bool true) := wf43
def wakes_ (L : Nat) : Option Bool := some true
theorem wakes__c (L : Nat) : Ctr Tryz.prog 11 false caN cdB (fun a => wakes_ L) := by
  intro a r hp h
  cases h
  exact ⟨wakes24_con, .bool _, nofun⟩
end Go.Proofs.YtakljpcmbpaeaaaGreat
