/-
  No cell of these rows narrows 'for every input' (looked for: loops, veiled, ifaces, maps, wideKeys, modest, calm, conditions, laid).
  DERIVED. THE GIVEN ROWS OF THIS SEAT. 2 by the template 'for every input the law returns true; each argument reads behind the call as it read before'; 0 by the template 'total and deterministic' (their statements: YtfonaceldfjneaaTotals.lean).
  GIVEN WITH THE SEED: the statements are not yours to turn. If you find one false, say at which input.
  Laid BY PROGRAM, IN A SANDBOX (cutbox-rows.mjs): the forced cells as the released guide's own fill.sh prints them over the translation 653306a4f7bda05e… (all of the seat's roots in one cut). By AI agents, Wed Nov 11 2026. No macro, syntax, notation, axiom, sorry.
-/
import Derived.Test.YtfonaceldfjneaaChecked
import GoSem.Claim
import GoSem.ClaimJoined
import GoSem.ClaimMapViews
import Derived.JoinedTies
import Derived.KernelRfl
namespace Go.Proofs.Ytfonaceldfjneaa
/- THE CELL 'sum', in the pinned program and in every row, IS THE sha256 OF THE DUMP (.gsa) THAT YtfonaceldfjneaaProg.lean LOADS. Nothing in Lean hashes anything: it is a label: what it is worth is what the hold of that sum in a sandbox is worth. -/
noncomputable def Try.pinned : Pinned := { name := "ytfonaceldfjneaa", sum := "653306a4f7bda05e43638211922bf9b28251344f4522e9f72c8cf5b6c065f9bc", checked := Try.checked }
namespace Rows
def none {H : Type} : Left H := { results := [], args := [] }

/-- 'breakwaterlaw20.SettleStands': WHATEVER THE INPUT: true; the input reads as it did. -/
def settleStandsSpec : ChangeSpec := { name := "settleStands", fn := fun _ => fun
  | [d1, d2, d3, d4, d5, d6] => { results := [.lit (.bool true)], args := [d1, d2, d3, d4, d5, d6] }
  | _ => none }
def settleStandsRow : OpenClaim := { program := "ytfonaceldfjneaa", sum := "653306a4f7bda05e43638211922bf9b28251344f4522e9f72c8cf5b6c065f9bc", func := "breakwater/breakwaterlaw20.SettleStands", spec := "settleStands", unfollowed := true, recurses := true, apart := false }
def SettleStandsSaid : Prop := settleStandsRow.holds Try.pinned (OpenSpec.ofChange settleStandsSpec)

/-- ITS FALSE NEIGHBOUR: 'it returns false'. Refute it at one input. -/
def settleStandsWrong : ChangeSpec := { name := "settleStands", fn := fun _ => fun
  | [d1, d2, d3, d4, d5, d6] => { results := [.lit (.bool false)], args := [d1, d2, d3, d4, d5, d6] }
  | _ => none }
def SettleStandsWrongFalsely : Prop := settleStandsRow.holds Try.pinned (OpenSpec.ofChange settleStandsWrong)

/-- 'breakwaterlaw20.SettleSteps': WHATEVER THE INPUT: true; the input reads as it did. -/
def settleStepsSpec : ChangeSpec := { name := "settleSteps", fn := fun _ => fun
  | [d1, d2, d3, d4] => { results := [.lit (.bool true)], args := [d1, d2, d3, d4] }
  | _ => none }
def settleStepsRow : OpenClaim := { program := "ytfonaceldfjneaa", sum := "653306a4f7bda05e43638211922bf9b28251344f4522e9f72c8cf5b6c065f9bc", func := "breakwater/breakwaterlaw20.SettleSteps", spec := "settleSteps", unfollowed := true, recurses := true, apart := false }
def SettleStepsSaid : Prop := settleStepsRow.holds Try.pinned (OpenSpec.ofChange settleStepsSpec)

/-- ITS FALSE NEIGHBOUR: 'it returns false'. Refute it at one input. -/
def settleStepsWrong : ChangeSpec := { name := "settleSteps", fn := fun _ => fun
  | [d1, d2, d3, d4] => { results := [.lit (.bool false)], args := [d1, d2, d3, d4] }
  | _ => none }
def SettleStepsWrongFalsely : Prop := settleStepsRow.holds Try.pinned (OpenSpec.ofChange settleStepsWrong)

/- THE SECOND FORM. 'bulk': how many values and letters a reading holds, each counted each time it is reached (what is shared counts as often as it is met; a slice's spare places count too). A statement '..UptoSaid' is the law's where the arguments, and the package variables that the reading takes, are together of bulk at most 1048576: NARROWER than '..Said'. Prove '..Said' where nothing that the law and all that it calls make is longer than what came in: it says more and counts as full. Else prove '..UptoSaid'. A law counts once. -/
mutual
def uptoBulk {H : Type} : DataW H → Nat
  | .lit (.string bytes) => bytes.length + 1
  | .lit _ => 1
  | .nil => 1
  | .ptr d => uptoBulk d + 1
  | .slice elems spare => uptoBulkAll elems + uptoBulkAll spare + 1
  | .agg parts => uptoBulkAll parts + 1
  | .iface _ d => uptoBulk d + 1
  | .map entries => uptoBulkEntries entries + 1
  | .held _ => 1
def uptoBulkAll {H : Type} : List (DataW H) → Nat
  | [] => 0
  | d :: r => uptoBulk d + uptoBulkAll r
def uptoBulkEntries {H : Type} : List (Lit × DataW H) → Nat
  | [] => 0
  | x :: r => uptoBulkEntry x + uptoBulkEntries r
def uptoBulkEntry {H : Type} : Lit × DataW H → Nat
  | (.string bytes, d) => bytes.length + uptoBulk d + 1
  | (_, d) => uptoBulk d + 1
 end
def uptoSmall : (H : Type) → List (DataW H) → Bool := fun _ ds => decide (uptoBulkAll ds ≤ 1048576)
def OpenSpec.upto (s : _root_.Go.ChangeSpec) : _root_.Go.OpenSpec := { _root_.Go.OpenSpec.ofChange s with cond := some uptoSmall }

/-- 'breakwaterlaw20.SettleStands', WHERE WHAT IT READS IS OF BULK AT MOST 1048576: true; the input reads as it did. -/
def settleStandsUptoRow : OpenClaim := { program := "ytfonaceldfjneaa", sum := "653306a4f7bda05e43638211922bf9b28251344f4522e9f72c8cf5b6c065f9bc", func := "breakwater/breakwaterlaw20.SettleStands", spec := "settleStands", unfollowed := true, recurses := true, apart := false, narrowed := true }
def SettleStandsUptoSaid : Prop := settleStandsUptoRow.holds Try.pinned (OpenSpec.upto settleStandsSpec)

/-- 'breakwaterlaw20.SettleSteps', WHERE WHAT IT READS IS OF BULK AT MOST 1048576: true; the input reads as it did. -/
def settleStepsUptoRow : OpenClaim := { program := "ytfonaceldfjneaa", sum := "653306a4f7bda05e43638211922bf9b28251344f4522e9f72c8cf5b6c065f9bc", func := "breakwater/breakwaterlaw20.SettleSteps", spec := "settleSteps", unfollowed := true, recurses := true, apart := false, narrowed := true }
def SettleStepsUptoSaid : Prop := settleStepsUptoRow.holds Try.pinned (OpenSpec.upto settleStepsSpec)

end Rows
end Go.Proofs.Ytfonaceldfjneaa
