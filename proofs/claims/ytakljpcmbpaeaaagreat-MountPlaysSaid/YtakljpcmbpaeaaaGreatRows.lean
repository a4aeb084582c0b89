/-
  No cell of these rows narrows 'for every input' (looked for: loops, veiled, ifaces, maps, wideKeys, modest, calm, conditions, laid).
  DERIVED. THE GIVEN ROWS OF THIS SEAT. 7 by the template 'for every input the law returns true; each argument reads behind the call as it read before'; 0 by the template 'total and deterministic' (their statements: YtakljpcmbpaeaaaGreatTotals.lean).
  GIVEN WITH THE SEED: the statements are not yours to turn. If you find one false, say at which input.
  Laid BY PROGRAM, IN A SANDBOX (cutbox-rows.mjs): the forced cells as the released guide's own fill.sh prints them over the translation c5151180749a5d86… (all of the seat's roots in one cut). By AI agents, Wed Nov 11 2026. No macro, syntax, notation, axiom, sorry.
-/
import Derived.Test.YtakljpcmbpaeaaaGreatChecked
import GoSem.Claim
import GoSem.ClaimJoined
import GoSem.ClaimMapViews
import Derived.JoinedTies
import Derived.KernelRfl
namespace Go.Proofs.YtakljpcmbpaeaaaGreat
/- THE CELL 'sum', in the pinned program and in every row, IS THE sha256 OF THE DUMP (.gsa) THAT YtakljpcmbpaeaaaGreatProg.lean LOADS. Nothing in Lean hashes anything: it is a label: what it is worth is what the hold of that sum in a sandbox is worth. -/
noncomputable def Tryz.pinned : Pinned := { name := "ytakljpcmbpaeaaagreat", sum := "c5151180749a5d86ac09ccf7fa2baffe89b2b4c972c6fbf1ad11d28b89f93b0a", checked := Tryz.checked }
namespace Rows
def none {H : Type} : Left H := { results := [], args := [] }

/-- 'breakwaterlaw24.MountPlays': WHATEVER THE INPUT: true; the input reads as it did. -/
def mountPlaysSpec : ChangeSpec := { name := "mountPlays", fn := fun _ => fun
  | [d1, d2] => { results := [.lit (.bool true)], args := [d1, d2] }
  | _ => none }
def mountPlaysRow : OpenClaim := { program := "ytakljpcmbpaeaaagreat", sum := "c5151180749a5d86ac09ccf7fa2baffe89b2b4c972c6fbf1ad11d28b89f93b0a", func := "breakwater/breakwaterlaw24.MountPlays", spec := "mountPlays", unfollowed := true, recurses := true, apart := false }
def MountPlaysSaid : Prop := mountPlaysRow.holds Tryz.pinned (OpenSpec.ofChange mountPlaysSpec)

/-- ITS FALSE NEIGHBOUR: 'it returns false'. Refute it at one input. -/
def mountPlaysWrong : ChangeSpec := { name := "mountPlays", fn := fun _ => fun
  | [d1, d2] => { results := [.lit (.bool false)], args := [d1, d2] }
  | _ => none }
def MountPlaysWrongFalsely : Prop := mountPlaysRow.holds Tryz.pinned (OpenSpec.ofChange mountPlaysWrong)

/-- 'breakwaterlaw24.MountJoins': WHATEVER THE INPUT: true; the input reads as it did. -/
def mountJoinsSpec : ChangeSpec := { name := "mountJoins", fn := fun _ => fun
  | [d1, d2, d3, d4] => { results := [.lit (.bool true)], args := [d1, d2, d3, d4] }
  | _ => none }
def mountJoinsRow : OpenClaim := { program := "ytakljpcmbpaeaaagreat", sum := "c5151180749a5d86ac09ccf7fa2baffe89b2b4c972c6fbf1ad11d28b89f93b0a", func := "breakwater/breakwaterlaw24.MountJoins", spec := "mountJoins", unfollowed := true, recurses := true, apart := false }
def MountJoinsSaid : Prop := mountJoinsRow.holds Tryz.pinned (OpenSpec.ofChange mountJoinsSpec)

/-- ITS FALSE NEIGHBOUR: 'it returns false'. Refute it at one input. -/
def mountJoinsWrong : ChangeSpec := { name := "mountJoins", fn := fun _ => fun
  | [d1, d2, d3, d4] => { results := [.lit (.bool false)], args := [d1, d2, d3, d4] }
  | _ => none }
def MountJoinsWrongFalsely : Prop := mountJoinsRow.holds Tryz.pinned (OpenSpec.ofChange mountJoinsWrong)

/-- 'breakwaterlaw24.MountAlone': WHATEVER THE INPUT: true; the input reads as it did. -/
def mountAloneSpec : ChangeSpec := { name := "mountAlone", fn := fun _ => fun
  | [d1, d2, d3] => { results := [.lit (.bool true)], args := [d1, d2, d3] }
  | _ => none }
def mountAloneRow : OpenClaim := { program := "ytakljpcmbpaeaaagreat", sum := "c5151180749a5d86ac09ccf7fa2baffe89b2b4c972c6fbf1ad11d28b89f93b0a", func := "breakwater/breakwaterlaw24.MountAlone", spec := "mountAlone", unfollowed := true, recurses := true, apart := false }
def MountAloneSaid : Prop := mountAloneRow.holds Tryz.pinned (OpenSpec.ofChange mountAloneSpec)

/-- ITS FALSE NEIGHBOUR: 'it returns false'. Refute it at one input. -/
def mountAloneWrong : ChangeSpec := { name := "mountAlone", fn := fun _ => fun
  | [d1, d2, d3] => { results := [.lit (.bool false)], args := [d1, d2, d3] }
  | _ => none }
def MountAloneWrongFalsely : Prop := mountAloneRow.holds Tryz.pinned (OpenSpec.ofChange mountAloneWrong)

/-- 'breakwaterlaw24.MountErrors': WHATEVER THE INPUT: true; the input reads as it did. -/
def mountErrorsSpec : ChangeSpec := { name := "mountErrors", fn := fun _ => fun
  | [d1, d2] => { results := [.lit (.bool true)], args := [d1, d2] }
  | _ => none }
def mountErrorsRow : OpenClaim := { program := "ytakljpcmbpaeaaagreat", sum := "c5151180749a5d86ac09ccf7fa2baffe89b2b4c972c6fbf1ad11d28b89f93b0a", func := "breakwater/breakwaterlaw24.MountErrors", spec := "mountErrors", unfollowed := true, recurses := true, apart := false }
def MountErrorsSaid : Prop := mountErrorsRow.holds Tryz.pinned (OpenSpec.ofChange mountErrorsSpec)

/-- ITS FALSE NEIGHBOUR: 'it returns false'. Refute it at one input. -/
def mountErrorsWrong : ChangeSpec := { name := "mountErrors", fn := fun _ => fun
  | [d1, d2] => { results := [.lit (.bool false)], args := [d1, d2] }
  | _ => none }
def MountErrorsWrongFalsely : Prop := mountErrorsRow.holds Tryz.pinned (OpenSpec.ofChange mountErrorsWrong)

/-- 'breakwaterlaw15.PaxosOne': WHATEVER THE INPUT: true; the input reads as it did. -/
def paxosOneSpec : ChangeSpec := { name := "paxosOne", fn := fun _ => fun
  | [d1, d2] => { results := [.lit (.bool true)], args := [d1, d2] }
  | _ => none }
def paxosOneRow : OpenClaim := { program := "ytakljpcmbpaeaaagreat", sum := "c5151180749a5d86ac09ccf7fa2baffe89b2b4c972c6fbf1ad11d28b89f93b0a", func := "breakwater/breakwaterlaw15.PaxosOne", spec := "paxosOne", unfollowed := true, recurses := true, apart := false }
def PaxosOneSaid : Prop := paxosOneRow.holds Tryz.pinned (OpenSpec.ofChange paxosOneSpec)

/-- ITS FALSE NEIGHBOUR: 'it returns false'. Refute it at one input. -/
def paxosOneWrong : ChangeSpec := { name := "paxosOne", fn := fun _ => fun
  | [d1, d2] => { results := [.lit (.bool false)], args := [d1, d2] }
  | _ => none }
def PaxosOneWrongFalsely : Prop := paxosOneRow.holds Tryz.pinned (OpenSpec.ofChange paxosOneWrong)

/-- 'breakwaterlaw15.PaxosEnds': WHATEVER THE INPUT: true; the input reads as it did. -/
def paxosEndsSpec : ChangeSpec := { name := "paxosEnds", fn := fun _ => fun
  | [d1, d2, d3] => { results := [.lit (.bool true)], args := [d1, d2, d3] }
  | _ => none }
def paxosEndsRow : OpenClaim := { program := "ytakljpcmbpaeaaagreat", sum := "c5151180749a5d86ac09ccf7fa2baffe89b2b4c972c6fbf1ad11d28b89f93b0a", func := "breakwater/breakwaterlaw15.PaxosEnds", spec := "paxosEnds", unfollowed := true, recurses := true, apart := false }
def PaxosEndsSaid : Prop := paxosEndsRow.holds Tryz.pinned (OpenSpec.ofChange paxosEndsSpec)

/-- ITS FALSE NEIGHBOUR: 'it returns false'. Refute it at one input. -/
def paxosEndsWrong : ChangeSpec := { name := "paxosEnds", fn := fun _ => fun
  | [d1, d2, d3] => { results := [.lit (.bool false)], args := [d1, d2, d3] }
  | _ => none }
def PaxosEndsWrongFalsely : Prop := paxosEndsRow.holds Tryz.pinned (OpenSpec.ofChange paxosEndsWrong)

/-- 'breakwaterlaw15.PaxosKeeps': WHATEVER THE INPUT: true; the input reads as it did. -/
def paxosKeepsSpec : ChangeSpec := { name := "paxosKeeps", fn := fun _ => fun
  | [d1, d2, d3] => { results := [.lit (.bool true)], args := [d1, d2, d3] }
  | _ => none }
def paxosKeepsRow : OpenClaim := { program := "ytakljpcmbpaeaaagreat", sum := "c5151180749a5d86ac09ccf7fa2baffe89b2b4c972c6fbf1ad11d28b89f93b0a", func := "breakwater/breakwaterlaw15.PaxosKeeps", spec := "paxosKeeps", unfollowed := true, recurses := true, apart := false }
def PaxosKeepsSaid : Prop := paxosKeepsRow.holds Tryz.pinned (OpenSpec.ofChange paxosKeepsSpec)

/-- ITS FALSE NEIGHBOUR: 'it returns false'. Refute it at one input. -/
def paxosKeepsWrong : ChangeSpec := { name := "paxosKeeps", fn := fun _ => fun
  | [d1, d2, d3] => { results := [.lit (.bool false)], args := [d1, d2, d3] }
  | _ => none }
def PaxosKeepsWrongFalsely : Prop := paxosKeepsRow.holds Tryz.pinned (OpenSpec.ofChange paxosKeepsWrong)

/- THE SECOND FORM. 'bulk': how many values and letters a reading holds, each counted each time it is reached (what is shared counts as often as it is met; a slice's spare places count too). A statement '..UptoSaid' is the law's where the arguments, and the package variables that the reading takes, are together of bulk at most 1048576: NARROWER than '..Said'. Prove '..Said' where nothing that the law and all that it calls make is longer than what came in: it says more and counts as full. Else prove '..UptoSaid'. A law counts once. -/
mutual
def uptoBulk {H : Type} : DataW H → Nat
  | .lit (.string bytes) => bytes.length + 1
  | .lit _ => 1
  | .nil => 1
  | .ptr d => uptoBulk d + 1
  | .slice elems spare => uptoBulkAll elems + uptoBulkAll spare + 1
  | .agg parts => uptoBulkAll parts + 1
  | .iface _ d => uptoBulk d + 1
  | .map entries => uptoBulkEntries entries + 1
  | .held _ => 1
def uptoBulkAll {H : Type} : List (DataW H) → Nat
  | [] => 0
  | d :: r => uptoBulk d + uptoBulkAll r
def uptoBulkEntries {H : Type} : List (Lit × DataW H) → Nat
  | [] => 0
  | x :: r => uptoBulkEntry x + uptoBulkEntries r
def uptoBulkEntry {H : Type} : Lit × DataW H → Nat
  | (.string bytes, d) => bytes.length + uptoBulk d + 1
  | (_, d) => uptoBulk d + 1
 end
def uptoSmall : (H : Type) → List (DataW H) → Bool := fun _ ds => decide (uptoBulkAll ds ≤ 1048576)
def OpenSpec.upto (s : _root_.Go.ChangeSpec) : _root_.Go.OpenSpec := { _root_.Go.OpenSpec.ofChange s with cond := some uptoSmall }

/-- 'breakwaterlaw24.MountPlays', WHERE WHAT IT READS IS OF BULK AT MOST 1048576: true; the input reads as it did. -/
def mountPlaysUptoRow : OpenClaim := { program := "ytakljpcmbpaeaaagreat", sum := "c5151180749a5d86ac09ccf7fa2baffe89b2b4c972c6fbf1ad11d28b89f93b0a", func := "breakwater/breakwaterlaw24.MountPlays", spec := "mountPlays", unfollowed := true, recurses := true, apart := false, narrowed := true }
def MountPlaysUptoSaid : Prop := mountPlaysUptoRow.holds Tryz.pinned (OpenSpec.upto mountPlaysSpec)

/-- 'breakwaterlaw24.MountJoins', WHERE WHAT IT READS IS OF BULK AT MOST 1048576: true; the input reads as it did. -/
def mountJoinsUptoRow : OpenClaim := { program := "ytakljpcmbpaeaaagreat", sum := "c5151180749a5d86ac09ccf7fa2baffe89b2b4c972c6fbf1ad11d28b89f93b0a", func := "breakwater/breakwaterlaw24.MountJoins", spec := "mountJoins", unfollowed := true, recurses := true, apart := false, narrowed := true }
def MountJoinsUptoSaid : Prop := mountJoinsUptoRow.holds Tryz.pinned (OpenSpec.upto mountJoinsSpec)

/-- 'breakwaterlaw24.MountAlone', WHERE WHAT IT READS IS OF BULK AT MOST 1048576: true; the input reads as it did. -/
def mountAloneUptoRow : OpenClaim := { program := "ytakljpcmbpaeaaagreat", sum := "c5151180749a5d86ac09ccf7fa2baffe89b2b4c972c6fbf1ad11d28b89f93b0a", func := "breakwater/breakwaterlaw24.MountAlone", spec := "mountAlone", unfollowed := true, recurses := true, apart := false, narrowed := true }
def MountAloneUptoSaid : Prop := mountAloneUptoRow.holds Tryz.pinned (OpenSpec.upto mountAloneSpec)

/-- 'breakwaterlaw24.MountErrors', WHERE WHAT IT READS IS OF BULK AT MOST 1048576: true; the input reads as it did. -/
def mountErrorsUptoRow : OpenClaim := { program := "ytakljpcmbpaeaaagreat", sum := "c5151180749a5d86ac09ccf7fa2baffe89b2b4c972c6fbf1ad11d28b89f93b0a", func := "breakwater/breakwaterlaw24.MountErrors", spec := "mountErrors", unfollowed := true, recurses := true, apart := false, narrowed := true }
def MountErrorsUptoSaid : Prop := mountErrorsUptoRow.holds Tryz.pinned (OpenSpec.upto mountErrorsSpec)

/-- 'breakwaterlaw15.PaxosOne', WHERE WHAT IT READS IS OF BULK AT MOST 1048576: true; the input reads as it did. -/
def paxosOneUptoRow : OpenClaim := { program := "ytakljpcmbpaeaaagreat", sum := "c5151180749a5d86ac09ccf7fa2baffe89b2b4c972c6fbf1ad11d28b89f93b0a", func := "breakwater/breakwaterlaw15.PaxosOne", spec := "paxosOne", unfollowed := true, recurses := true, apart := false, narrowed := true }
def PaxosOneUptoSaid : Prop := paxosOneUptoRow.holds Tryz.pinned (OpenSpec.upto paxosOneSpec)

/-- 'breakwaterlaw15.PaxosEnds', WHERE WHAT IT READS IS OF BULK AT MOST 1048576: true; the input reads as it did. -/
def paxosEndsUptoRow : OpenClaim := { program := "ytakljpcmbpaeaaagreat", sum := "c5151180749a5d86ac09ccf7fa2baffe89b2b4c972c6fbf1ad11d28b89f93b0a", func := "breakwater/breakwaterlaw15.PaxosEnds", spec := "paxosEnds", unfollowed := true, recurses := true, apart := false, narrowed := true }
def PaxosEndsUptoSaid : Prop := paxosEndsUptoRow.holds Tryz.pinned (OpenSpec.upto paxosEndsSpec)

/-- 'breakwaterlaw15.PaxosKeeps', WHERE WHAT IT READS IS OF BULK AT MOST 1048576: true; the input reads as it did. -/
def paxosKeepsUptoRow : OpenClaim := { program := "ytakljpcmbpaeaaagreat", sum := "c5151180749a5d86ac09ccf7fa2baffe89b2b4c972c6fbf1ad11d28b89f93b0a", func := "breakwater/breakwaterlaw15.PaxosKeeps", spec := "paxosKeeps", unfollowed := true, recurses := true, apart := false, narrowed := true }
def PaxosKeepsUptoSaid : Prop := paxosKeepsUptoRow.holds Tryz.pinned (OpenSpec.upto paxosKeepsSpec)

end Rows
end Go.Proofs.YtakljpcmbpaeaaaGreat
