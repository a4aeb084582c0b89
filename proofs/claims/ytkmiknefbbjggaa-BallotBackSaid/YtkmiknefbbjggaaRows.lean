/-
  No cell of these rows narrows 'for every input' (looked for: loops, veiled, ifaces, maps, wideKeys, modest, calm, conditions, laid).
  DERIVED. THE GIVEN ROWS OF THIS SEAT. 10 by the template 'for every input the law returns true; each argument reads behind the call as it read before'; 0 by the template 'total and deterministic' (their statements: YtkmiknefbbjggaaTotals.lean).
  GIVEN WITH THE SEED: the statements are not yours to turn. If you find one false, say at which input.
  Laid BY PROGRAM, IN A SANDBOX (cutbox-rows.mjs): the forced cells as the released guide's own fill.sh prints them over the translation a062287bab5c41c8… (all of the seat's roots in one cut). By AI agents, Wed Nov 11 2026. No macro, syntax, notation, axiom, sorry.
-/
import Derived.Test.YtkmiknefbbjggaaChecked
import GoSem.Claim
import GoSem.ClaimJoined
import GoSem.ClaimMapViews
import Derived.JoinedTies
import Derived.KernelRfl
namespace Go.Proofs.Ytkmiknefbbjggaa
/- THE CELL 'sum', in the pinned program and in every row, IS THE sha256 OF THE DUMP (.gsa) THAT YtkmiknefbbjggaaProg.lean LOADS. Nothing in Lean hashes anything: it is a label: what it is worth is what the hold of that sum in a sandbox is worth. -/
noncomputable def Try.pinned : Pinned := { name := "ytkmiknefbbjggaa", sum := "a062287bab5c41c885c43439edbffc81fe9ae15b057e57b2f2723ede489f2494", checked := Try.checked }
namespace Rows
def none {H : Type} : Left H := { results := [], args := [] }

/-- 'breakwaterlaw03.SealHarm': WHATEVER THE INPUT: true; the input reads as it did. -/
def sealHarmSpec : ChangeSpec := { name := "sealHarm", fn := fun _ => fun
  | [d1, d2, d3, d4] => { results := [.lit (.bool true)], args := [d1, d2, d3, d4] }
  | _ => none }
def sealHarmRow : OpenClaim := { program := "ytkmiknefbbjggaa", sum := "a062287bab5c41c885c43439edbffc81fe9ae15b057e57b2f2723ede489f2494", func := "breakwater/breakwaterlaw03.SealHarm", spec := "sealHarm", apart := false }
def SealHarmSaid : Prop := sealHarmRow.holds Try.pinned (OpenSpec.ofChange sealHarmSpec)

/-- ITS FALSE NEIGHBOUR: 'it returns false'. Refute it at one input. -/
def sealHarmWrong : ChangeSpec := { name := "sealHarm", fn := fun _ => fun
  | [d1, d2, d3, d4] => { results := [.lit (.bool false)], args := [d1, d2, d3, d4] }
  | _ => none }
def SealHarmWrongFalsely : Prop := sealHarmRow.holds Try.pinned (OpenSpec.ofChange sealHarmWrong)

/-- 'breakwaterlaw03.SealLong': WHATEVER THE INPUT: true; the input reads as it did. -/
def sealLongSpec : ChangeSpec := { name := "sealLong", fn := fun _ => fun
  | [d1, d2, d3] => { results := [.lit (.bool true)], args := [d1, d2, d3] }
  | _ => none }
def sealLongRow : OpenClaim := { program := "ytkmiknefbbjggaa", sum := "a062287bab5c41c885c43439edbffc81fe9ae15b057e57b2f2723ede489f2494", func := "breakwater/breakwaterlaw03.SealLong", spec := "sealLong", apart := false }
def SealLongSaid : Prop := sealLongRow.holds Try.pinned (OpenSpec.ofChange sealLongSpec)

/-- ITS FALSE NEIGHBOUR: 'it returns false'. Refute it at one input. -/
def sealLongWrong : ChangeSpec := { name := "sealLong", fn := fun _ => fun
  | [d1, d2, d3] => { results := [.lit (.bool false)], args := [d1, d2, d3] }
  | _ => none }
def SealLongWrongFalsely : Prop := sealLongRow.holds Try.pinned (OpenSpec.ofChange sealLongWrong)

/-- 'breakwaterlaw03.SealTells': WHATEVER THE INPUT: true; the input reads as it did. -/
def sealTellsSpec : ChangeSpec := { name := "sealTells", fn := fun _ => fun
  | [d1, d2, d3] => { results := [.lit (.bool true)], args := [d1, d2, d3] }
  | _ => none }
def sealTellsRow : OpenClaim := { program := "ytkmiknefbbjggaa", sum := "a062287bab5c41c885c43439edbffc81fe9ae15b057e57b2f2723ede489f2494", func := "breakwater/breakwaterlaw03.SealTells", spec := "sealTells", apart := false }
def SealTellsSaid : Prop := sealTellsRow.holds Try.pinned (OpenSpec.ofChange sealTellsSpec)

/-- ITS FALSE NEIGHBOUR: 'it returns false'. Refute it at one input. -/
def sealTellsWrong : ChangeSpec := { name := "sealTells", fn := fun _ => fun
  | [d1, d2, d3] => { results := [.lit (.bool false)], args := [d1, d2, d3] }
  | _ => none }
def SealTellsWrongFalsely : Prop := sealTellsRow.holds Try.pinned (OpenSpec.ofChange sealTellsWrong)

/-- 'breakwaterlaw03.SealFields': WHATEVER THE INPUT: true; the input reads as it did. -/
def sealFieldsSpec : ChangeSpec := { name := "sealFields", fn := fun _ => fun
  | [d1, d2, d3, d4, d5] => { results := [.lit (.bool true)], args := [d1, d2, d3, d4, d5] }
  | _ => none }
def sealFieldsRow : OpenClaim := { program := "ytkmiknefbbjggaa", sum := "a062287bab5c41c885c43439edbffc81fe9ae15b057e57b2f2723ede489f2494", func := "breakwater/breakwaterlaw03.SealFields", spec := "sealFields", apart := false }
def SealFieldsSaid : Prop := sealFieldsRow.holds Try.pinned (OpenSpec.ofChange sealFieldsSpec)

/-- ITS FALSE NEIGHBOUR: 'it returns false'. Refute it at one input. -/
def sealFieldsWrong : ChangeSpec := { name := "sealFields", fn := fun _ => fun
  | [d1, d2, d3, d4, d5] => { results := [.lit (.bool false)], args := [d1, d2, d3, d4, d5] }
  | _ => none }
def SealFieldsWrongFalsely : Prop := sealFieldsRow.holds Try.pinned (OpenSpec.ofChange sealFieldsWrong)

/-- 'breakwaterlaw03.SealBack': WHATEVER THE INPUT: true; the input reads as it did. -/
def sealBackSpec : ChangeSpec := { name := "sealBack", fn := fun _ => fun
  | [d1, d2, d3, d4, d5] => { results := [.lit (.bool true)], args := [d1, d2, d3, d4, d5] }
  | _ => none }
def sealBackRow : OpenClaim := { program := "ytkmiknefbbjggaa", sum := "a062287bab5c41c885c43439edbffc81fe9ae15b057e57b2f2723ede489f2494", func := "breakwater/breakwaterlaw03.SealBack", spec := "sealBack", apart := false }
def SealBackSaid : Prop := sealBackRow.holds Try.pinned (OpenSpec.ofChange sealBackSpec)

/-- ITS FALSE NEIGHBOUR: 'it returns false'. Refute it at one input. -/
def sealBackWrong : ChangeSpec := { name := "sealBack", fn := fun _ => fun
  | [d1, d2, d3, d4, d5] => { results := [.lit (.bool false)], args := [d1, d2, d3, d4, d5] }
  | _ => none }
def SealBackWrongFalsely : Prop := sealBackRow.holds Try.pinned (OpenSpec.ofChange sealBackWrong)

/-- 'breakwaterlaw07.BeatAlive': WHATEVER THE INPUT: true; the input reads as it did. -/
def beatAliveSpec : ChangeSpec := { name := "beatAlive", fn := fun _ => fun
  | [d1, d2, d3] => { results := [.lit (.bool true)], args := [d1, d2, d3] }
  | _ => none }
def beatAliveRow : OpenClaim := { program := "ytkmiknefbbjggaa", sum := "a062287bab5c41c885c43439edbffc81fe9ae15b057e57b2f2723ede489f2494", func := "breakwater/breakwaterlaw07.BeatAlive", spec := "beatAlive", apart := false }
def BeatAliveSaid : Prop := beatAliveRow.holds Try.pinned (OpenSpec.ofChange beatAliveSpec)

/-- ITS FALSE NEIGHBOUR: 'it returns false'. Refute it at one input. -/
def beatAliveWrong : ChangeSpec := { name := "beatAlive", fn := fun _ => fun
  | [d1, d2, d3] => { results := [.lit (.bool false)], args := [d1, d2, d3] }
  | _ => none }
def BeatAliveWrongFalsely : Prop := beatAliveRow.holds Try.pinned (OpenSpec.ofChange beatAliveWrong)

/-- 'breakwaterlaw07.BeatOver': WHATEVER THE INPUT: true; the input reads as it did. -/
def beatOverSpec : ChangeSpec := { name := "beatOver", fn := fun _ => fun
  | [d1, d2, d3, d4, d5] => { results := [.lit (.bool true)], args := [d1, d2, d3, d4, d5] }
  | _ => none }
def beatOverRow : OpenClaim := { program := "ytkmiknefbbjggaa", sum := "a062287bab5c41c885c43439edbffc81fe9ae15b057e57b2f2723ede489f2494", func := "breakwater/breakwaterlaw07.BeatOver", spec := "beatOver", apart := false }
def BeatOverSaid : Prop := beatOverRow.holds Try.pinned (OpenSpec.ofChange beatOverSpec)

/-- ITS FALSE NEIGHBOUR: 'it returns false'. Refute it at one input. -/
def beatOverWrong : ChangeSpec := { name := "beatOver", fn := fun _ => fun
  | [d1, d2, d3, d4, d5] => { results := [.lit (.bool false)], args := [d1, d2, d3, d4, d5] }
  | _ => none }
def BeatOverWrongFalsely : Prop := beatOverRow.holds Try.pinned (OpenSpec.ofChange beatOverWrong)

/-- 'breakwaterlaw08.BallotReads': WHATEVER THE INPUT: true; the input reads as it did. -/
def ballotReadsSpec : ChangeSpec := { name := "ballotReads", fn := fun _ => fun
  | [d] => { results := [.lit (.bool true)], args := [d] }
  | _ => none }
def ballotReadsRow : OpenClaim := { program := "ytkmiknefbbjggaa", sum := "a062287bab5c41c885c43439edbffc81fe9ae15b057e57b2f2723ede489f2494", func := "breakwater/breakwaterlaw08.BallotReads", spec := "ballotReads", apart := false }
def BallotReadsSaid : Prop := ballotReadsRow.holds Try.pinned (OpenSpec.ofChange ballotReadsSpec)

/-- ITS FALSE NEIGHBOUR: 'it returns false'. Refute it at one input. -/
def ballotReadsWrong : ChangeSpec := { name := "ballotReads", fn := fun _ => fun
  | [d] => { results := [.lit (.bool false)], args := [d] }
  | _ => none }
def BallotReadsWrongFalsely : Prop := ballotReadsRow.holds Try.pinned (OpenSpec.ofChange ballotReadsWrong)

/-- 'breakwaterlaw08.BallotBack': WHATEVER THE INPUT: true; the input reads as it did. -/
def ballotBackSpec : ChangeSpec := { name := "ballotBack", fn := fun _ => fun
  | [d1, d2, d3] => { results := [.lit (.bool true)], args := [d1, d2, d3] }
  | _ => none }
def ballotBackRow : OpenClaim := { program := "ytkmiknefbbjggaa", sum := "a062287bab5c41c885c43439edbffc81fe9ae15b057e57b2f2723ede489f2494", func := "breakwater/breakwaterlaw08.BallotBack", spec := "ballotBack", apart := false }
def BallotBackSaid : Prop := ballotBackRow.holds Try.pinned (OpenSpec.ofChange ballotBackSpec)

/-- ITS FALSE NEIGHBOUR: 'it returns false'. Refute it at one input. -/
def ballotBackWrong : ChangeSpec := { name := "ballotBack", fn := fun _ => fun
  | [d1, d2, d3] => { results := [.lit (.bool false)], args := [d1, d2, d3] }
  | _ => none }
def BallotBackWrongFalsely : Prop := ballotBackRow.holds Try.pinned (OpenSpec.ofChange ballotBackWrong)

/-- 'breakwaterlaw08.BallotNext': WHATEVER THE INPUT: true; the input reads as it did. -/
def ballotNextSpec : ChangeSpec := { name := "ballotNext", fn := fun _ => fun
  | [d1, d2, d3] => { results := [.lit (.bool true)], args := [d1, d2, d3] }
  | _ => none }
def ballotNextRow : OpenClaim := { program := "ytkmiknefbbjggaa", sum := "a062287bab5c41c885c43439edbffc81fe9ae15b057e57b2f2723ede489f2494", func := "breakwater/breakwaterlaw08.BallotNext", spec := "ballotNext", apart := false }
def BallotNextSaid : Prop := ballotNextRow.holds Try.pinned (OpenSpec.ofChange ballotNextSpec)

/-- ITS FALSE NEIGHBOUR: 'it returns false'. Refute it at one input. -/
def ballotNextWrong : ChangeSpec := { name := "ballotNext", fn := fun _ => fun
  | [d1, d2, d3] => { results := [.lit (.bool false)], args := [d1, d2, d3] }
  | _ => none }
def BallotNextWrongFalsely : Prop := ballotNextRow.holds Try.pinned (OpenSpec.ofChange ballotNextWrong)

/- THE SECOND FORM. 'bulk': how many values and letters a reading holds, each counted each time it is reached (what is shared counts as often as it is met; a slice's spare places count too). A statement '..UptoSaid' is the law's where the arguments, and the package variables that the reading takes, are together of bulk at most 1048576: NARROWER than '..Said'. Prove '..Said' where nothing that the law and all that it calls make is longer than what came in: it says more and counts as full. Else prove '..UptoSaid'. A law counts once. -/
mutual
def uptoBulk {H : Type} : DataW H → Nat
  | .lit (.string bytes) => bytes.length + 1
  | .lit _ => 1
  | .nil => 1
  | .ptr d => uptoBulk d + 1
  | .slice elems spare => uptoBulkAll elems + uptoBulkAll spare + 1
  | .agg parts => uptoBulkAll parts + 1
  | .iface _ d => uptoBulk d + 1
  | .map entries => uptoBulkEntries entries + 1
  | .held _ => 1
def uptoBulkAll {H : Type} : List (DataW H) → Nat
  | [] => 0
  | d :: r => uptoBulk d + uptoBulkAll r
def uptoBulkEntries {H : Type} : List (Lit × DataW H) → Nat
  | [] => 0
  | x :: r => uptoBulkEntry x + uptoBulkEntries r
def uptoBulkEntry {H : Type} : Lit × DataW H → Nat
  | (.string bytes, d) => bytes.length + uptoBulk d + 1
  | (_, d) => uptoBulk d + 1
 end
def uptoSmall : (H : Type) → List (DataW H) → Bool := fun _ ds => decide (uptoBulkAll ds ≤ 1048576)
def OpenSpec.upto (s : _root_.Go.ChangeSpec) : _root_.Go.OpenSpec := { _root_.Go.OpenSpec.ofChange s with cond := some uptoSmall }

/-- 'breakwaterlaw03.SealHarm', WHERE WHAT IT READS IS OF BULK AT MOST 1048576: true; the input reads as it did. -/
def sealHarmUptoRow : OpenClaim := { program := "ytkmiknefbbjggaa", sum := "a062287bab5c41c885c43439edbffc81fe9ae15b057e57b2f2723ede489f2494", func := "breakwater/breakwaterlaw03.SealHarm", spec := "sealHarm", apart := false, narrowed := true }
def SealHarmUptoSaid : Prop := sealHarmUptoRow.holds Try.pinned (OpenSpec.upto sealHarmSpec)

/-- 'breakwaterlaw03.SealLong', WHERE WHAT IT READS IS OF BULK AT MOST 1048576: true; the input reads as it did. -/
def sealLongUptoRow : OpenClaim := { program := "ytkmiknefbbjggaa", sum := "a062287bab5c41c885c43439edbffc81fe9ae15b057e57b2f2723ede489f2494", func := "breakwater/breakwaterlaw03.SealLong", spec := "sealLong", apart := false, narrowed := true }
def SealLongUptoSaid : Prop := sealLongUptoRow.holds Try.pinned (OpenSpec.upto sealLongSpec)

/-- 'breakwaterlaw03.SealTells', WHERE WHAT IT READS IS OF BULK AT MOST 1048576: true; the input reads as it did. -/
def sealTellsUptoRow : OpenClaim := { program := "ytkmiknefbbjggaa", sum := "a062287bab5c41c885c43439edbffc81fe9ae15b057e57b2f2723ede489f2494", func := "breakwater/breakwaterlaw03.SealTells", spec := "sealTells", apart := false, narrowed := true }
def SealTellsUptoSaid : Prop := sealTellsUptoRow.holds Try.pinned (OpenSpec.upto sealTellsSpec)

/-- 'breakwaterlaw03.SealFields', WHERE WHAT IT READS IS OF BULK AT MOST 1048576: true; the input reads as it did. -/
def sealFieldsUptoRow : OpenClaim := { program := "ytkmiknefbbjggaa", sum := "a062287bab5c41c885c43439edbffc81fe9ae15b057e57b2f2723ede489f2494", func := "breakwater/breakwaterlaw03.SealFields", spec := "sealFields", apart := false, narrowed := true }
def SealFieldsUptoSaid : Prop := sealFieldsUptoRow.holds Try.pinned (OpenSpec.upto sealFieldsSpec)

/-- 'breakwaterlaw03.SealBack', WHERE WHAT IT READS IS OF BULK AT MOST 1048576: true; the input reads as it did. -/
def sealBackUptoRow : OpenClaim := { program := "ytkmiknefbbjggaa", sum := "a062287bab5c41c885c43439edbffc81fe9ae15b057e57b2f2723ede489f2494", func := "breakwater/breakwaterlaw03.SealBack", spec := "sealBack", apart := false, narrowed := true }
def SealBackUptoSaid : Prop := sealBackUptoRow.holds Try.pinned (OpenSpec.upto sealBackSpec)

/-- 'breakwaterlaw07.BeatAlive', WHERE WHAT IT READS IS OF BULK AT MOST 1048576: true; the input reads as it did. -/
def beatAliveUptoRow : OpenClaim := { program := "ytkmiknefbbjggaa", sum := "a062287bab5c41c885c43439edbffc81fe9ae15b057e57b2f2723ede489f2494", func := "breakwater/breakwaterlaw07.BeatAlive", spec := "beatAlive", apart := false, narrowed := true }
def BeatAliveUptoSaid : Prop := beatAliveUptoRow.holds Try.pinned (OpenSpec.upto beatAliveSpec)

/-- 'breakwaterlaw07.BeatOver', WHERE WHAT IT READS IS OF BULK AT MOST 1048576: true; the input reads as it did. -/
def beatOverUptoRow : OpenClaim := { program := "ytkmiknefbbjggaa", sum := "a062287bab5c41c885c43439edbffc81fe9ae15b057e57b2f2723ede489f2494", func := "breakwater/breakwaterlaw07.BeatOver", spec := "beatOver", apart := false, narrowed := true }
def BeatOverUptoSaid : Prop := beatOverUptoRow.holds Try.pinned (OpenSpec.upto beatOverSpec)

/-- 'breakwaterlaw08.BallotReads', WHERE WHAT IT READS IS OF BULK AT MOST 1048576: true; the input reads as it did. -/
def ballotReadsUptoRow : OpenClaim := { program := "ytkmiknefbbjggaa", sum := "a062287bab5c41c885c43439edbffc81fe9ae15b057e57b2f2723ede489f2494", func := "breakwater/breakwaterlaw08.BallotReads", spec := "ballotReads", apart := false, narrowed := true }
def BallotReadsUptoSaid : Prop := ballotReadsUptoRow.holds Try.pinned (OpenSpec.upto ballotReadsSpec)

/-- 'breakwaterlaw08.BallotBack', WHERE WHAT IT READS IS OF BULK AT MOST 1048576: true; the input reads as it did. -/
def ballotBackUptoRow : OpenClaim := { program := "ytkmiknefbbjggaa", sum := "a062287bab5c41c885c43439edbffc81fe9ae15b057e57b2f2723ede489f2494", func := "breakwater/breakwaterlaw08.BallotBack", spec := "ballotBack", apart := false, narrowed := true }
def BallotBackUptoSaid : Prop := ballotBackUptoRow.holds Try.pinned (OpenSpec.upto ballotBackSpec)

/-- 'breakwaterlaw08.BallotNext', WHERE WHAT IT READS IS OF BULK AT MOST 1048576: true; the input reads as it did. -/
def ballotNextUptoRow : OpenClaim := { program := "ytkmiknefbbjggaa", sum := "a062287bab5c41c885c43439edbffc81fe9ae15b057e57b2f2723ede489f2494", func := "breakwater/breakwaterlaw08.BallotNext", spec := "ballotNext", apart := false, narrowed := true }
def BallotNextUptoSaid : Prop := ballotNextUptoRow.holds Try.pinned (OpenSpec.upto ballotNextSpec)

end Rows
end Go.Proofs.Ytkmiknefbbjggaa
