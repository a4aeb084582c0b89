/- Structures. (printed by wip/sx) -/
import Derived.Test.YtkjihmlighigjaaGreatRepairAliveM39
import Derived.Test.YtkjihmlighigjaaGreatChecked
import Derived.Test.YtkjihmlighigjaaGreatRepairAliveM30
import Derived.Test.YtkjihmlighigjaaGreatRepairAliveM01
import Derived.Test.YtkjihmlighigjaaGreatRepairAliveM02
set_option linter.unusedSimpArgs false
set_option linter.unusedVariables false
namespace Go.Proofs.YtkjihmlighigjaaGreat
open Go.RowKit

structure G_Geo where
 Nodes : Int
 Slots : Int
 Blocks : Int
 Per : Int
 Journal : Int
 Log : Int
 Lease : Int
 Wait : Int
def G_Geo.cs (x : G_Geo) : List V := [V.int .i64 x.Nodes, V.int .i64 x.Slots, V.int .i64 x.Blocks, V.int .i64 x.Per, V.int .i64 x.Journal, V.int .i64 x.Log, V.int .i64 x.Lease, V.int .i64 x.Wait]
def G_Geo.of (l : List V) : G_Geo := ⟨asI (cell [l] 0 0), asI (cell [l] 0 1), asI (cell [l] 0 2), asI (cell [l] 0 3), asI (cell [l] 0 4), asI (cell [l] 0 5), asI (cell [l] 0 6), asI (cell [l] 0 7)⟩
def G_Geo.ks : List Kc := [.i .i64, .i .i64, .i .i64, .i .i64, .i .i64, .i .i64, .i .i64, .i .i64]
theorem G_Geo.h (l : List V) : G_Geo.cs (G_Geo.of l) = etaSeg G_Geo.ks [l] 0 0 := rfl
def cd_Geo : Cd G_Geo := cdA G_Geo.ks G_Geo.cs G_Geo.of G_Geo.h
def G_Geo.z : G_Geo := ⟨0, 0, 0, 0, 0, 0, 0, 0⟩
structure G_Table where
 Slots : List (List V)
 Holds : List (List V)
 Queue : List (List V)
def G_Table.cs (x : G_Table) : List V := [V.sl x.Slots false, V.sl x.Holds false, V.sl x.Queue false]
def G_Table.of (l : List V) : G_Table := ⟨asR (cell [l] 0 0), asR (cell [l] 0 1), asR (cell [l] 0 2)⟩
def G_Table.ks : List Kc := [.m, .m, .m]
theorem G_Table.h (l : List V) : G_Table.cs (G_Table.of l) = etaSeg G_Table.ks [l] 0 0 := rfl
def cd_Table : Cd G_Table := cdA G_Table.ks G_Table.cs G_Table.of G_Table.h
def G_Table.z : G_Table := ⟨[], [], []⟩
structure G_Txn where
 Open : Bool
 Writes : List (List V)
def G_Txn.cs (x : G_Txn) : List V := [V.bool x.Open, V.sl x.Writes false]
def G_Txn.of (l : List V) : G_Txn := ⟨asB (cell [l] 0 0), asR (cell [l] 0 1)⟩
def G_Txn.ks : List Kc := [.b, .m]
theorem G_Txn.h (l : List V) : G_Txn.cs (G_Txn.of l) = etaSeg G_Txn.ks [l] 0 0 := rfl
def G_Txn.z : G_Txn := ⟨false, []⟩
structure G_Span where
 Lo : Int
 Hi : Int
def G_Span.cs (x : G_Span) : List V := [V.int .i64 x.Lo, V.int .i64 x.Hi]
def G_Span.of (l : List V) : G_Span := ⟨asI (cell [l] 0 0), asI (cell [l] 0 1)⟩
def G_Span.ks : List Kc := [.i .i64, .i .i64]
theorem G_Span.h (l : List V) : G_Span.cs (G_Span.of l) = etaSeg G_Span.ks [l] 0 0 := rfl
def G_Span.z : G_Span := ⟨0, 0⟩
structure G_Op where
 Kind : Int
 Span : G_Span
 Mode : Int
 Block : Int
 Text : ByteArray
 Node : Int
 Key : Int
def G_Op.cs (x : G_Op) : List V := [V.int .i8 x.Kind, V.int .i64 x.Span.Lo, V.int .i64 x.Span.Hi, V.int .i8 x.Mode, V.int .i64 x.Block, V.str x.Text, V.int .i64 x.Node, V.int .i64 x.Key]
def G_Op.of (l : List V) : G_Op := ⟨asI (cell [l] 0 0), ⟨asI (cell [l] 0 1), asI (cell [l] 0 2)⟩, asI (cell [l] 0 3), asI (cell [l] 0 4), asS (cell [l] 0 5), asI (cell [l] 0 6), asI (cell [l] 0 7)⟩
def G_Op.ks : List Kc := [.i .i8, .i .i64, .i .i64, .i .i8, .i .i64, .s, .i .i64, .i .i64]
theorem G_Op.h (l : List V) : G_Op.cs (G_Op.of l) = etaSeg G_Op.ks [l] 0 0 := rfl
def G_Op.z : G_Op := ⟨0, ⟨0, 0⟩, 0, 0, noS, 0, 0⟩
structure G_Rec where
 Inst : Int
 Mbal : Int
 Bal : Int
 Val : ByteArray
def G_Rec.cs (x : G_Rec) : List V := [V.int .i64 x.Inst, V.int .i64 x.Mbal, V.int .i64 x.Bal, V.str x.Val]
def G_Rec.of (l : List V) : G_Rec := ⟨asI (cell [l] 0 0), asI (cell [l] 0 1), asI (cell [l] 0 2), asS (cell [l] 0 3)⟩
def G_Rec.ks : List Kc := [.i .i64, .i .i64, .i .i64, .s]
theorem G_Rec.h (l : List V) : G_Rec.cs (G_Rec.of l) = etaSeg G_Rec.ks [l] 0 0 := rfl
def cd_Rec : Cd G_Rec := cdA G_Rec.ks G_Rec.cs G_Rec.of G_Rec.h
def G_Rec.z : G_Rec := ⟨0, 0, 0, noS⟩
structure G_Tally where
 Inst : Int
 Mbal : Int
 Best : Int
 Val : ByteArray
 Seen : Int
 Ahead : Bool
 Lost : Bool
def G_Tally.cs (x : G_Tally) : List V := [V.int .i64 x.Inst, V.int .i64 x.Mbal, V.int .i64 x.Best, V.str x.Val, V.int .i64 x.Seen, V.bool x.Ahead, V.bool x.Lost]
def G_Tally.of (l : List V) : G_Tally := ⟨asI (cell [l] 0 0), asI (cell [l] 0 1), asI (cell [l] 0 2), asS (cell [l] 0 3), asI (cell [l] 0 4), asB (cell [l] 0 5), asB (cell [l] 0 6)⟩
def G_Tally.ks : List Kc := [.i .i64, .i .i64, .i .i64, .s, .i .i64, .b, .b]
theorem G_Tally.h (l : List V) : G_Tally.cs (G_Tally.of l) = etaSeg G_Tally.ks [l] 0 0 := rfl
def G_Tally.z : G_Tally := ⟨0, 0, 0, noS, 0, false, false⟩
structure G_Prop where
 Node : Int
 Cmd : ByteArray
 At : Int
 I : Int
 Own : G_Rec
 T : G_Tally
def G_Prop.cs (x : G_Prop) : List V := [V.int .i64 x.Node, V.str x.Cmd, V.int .i8 x.At, V.int .i64 x.I, V.int .i64 x.Own.Inst, V.int .i64 x.Own.Mbal, V.int .i64 x.Own.Bal, V.str x.Own.Val, V.int .i64 x.T.Inst, V.int .i64 x.T.Mbal, V.int .i64 x.T.Best, V.str x.T.Val, V.int .i64 x.T.Seen, V.bool x.T.Ahead, V.bool x.T.Lost]
def G_Prop.of (l : List V) : G_Prop := ⟨asI (cell [l] 0 0), asS (cell [l] 0 1), asI (cell [l] 0 2), asI (cell [l] 0 3), ⟨asI (cell [l] 0 4), asI (cell [l] 0 5), asI (cell [l] 0 6), asS (cell [l] 0 7)⟩, ⟨asI (cell [l] 0 8), asI (cell [l] 0 9), asI (cell [l] 0 10), asS (cell [l] 0 11), asI (cell [l] 0 12), asB (cell [l] 0 13), asB (cell [l] 0 14)⟩⟩
def G_Prop.ks : List Kc := [.i .i64, .s, .i .i8, .i .i64, .i .i64, .i .i64, .i .i64, .s, .i .i64, .i .i64, .i .i64, .s, .i .i64, .b, .b]
theorem G_Prop.h (l : List V) : G_Prop.cs (G_Prop.of l) = etaSeg G_Prop.ks [l] 0 0 := rfl
def G_Prop.z : G_Prop := ⟨0, noS, 0, 0, ⟨0, 0, 0, noS⟩, ⟨0, 0, 0, noS, 0, false, false⟩⟩
structure G_Putting where
 L : List (List V)
 I : Int
def G_Putting.cs (x : G_Putting) : List V := [V.sl x.L false, V.int .i64 x.I]
def G_Putting.of (l : List V) : G_Putting := ⟨asR (cell [l] 0 0), asI (cell [l] 0 1)⟩
def G_Putting.ks : List Kc := [.m, .i .i64]
theorem G_Putting.h (l : List V) : G_Putting.cs (G_Putting.of l) = etaSeg G_Putting.ks [l] 0 0 := rfl
def G_Putting.z : G_Putting := ⟨[], 0⟩
structure G_Settling where
 Cells : List (List V)
 I : Int
 Left : Int
 At : Int
def G_Settling.cs (x : G_Settling) : List V := [V.sl x.Cells false, V.int .i64 x.I, V.int .i64 x.Left, V.int .i8 x.At]
def G_Settling.of (l : List V) : G_Settling := ⟨asR (cell [l] 0 0), asI (cell [l] 0 1), asI (cell [l] 0 2), asI (cell [l] 0 3)⟩
def G_Settling.ks : List Kc := [.m, .i .i64, .i .i64, .i .i8]
theorem G_Settling.h (l : List V) : G_Settling.cs (G_Settling.of l) = etaSeg G_Settling.ks [l] 0 0 := rfl
def G_Settling.z : G_Settling := ⟨[], 0, 0, 0⟩
structure G_Replaying where
 Slot : Int
 Key : Int
 At : Int
 Tail : Int
 L : List (List V)
 Cells : List (List V)
 I : Int
 End : Int
def G_Replaying.cs (x : G_Replaying) : List V := [V.int .i64 x.Slot, V.int .i64 x.Key, V.int .i8 x.At, V.int .i64 x.Tail, V.sl x.L false, V.sl x.Cells false, V.int .i64 x.I, V.int .i64 x.End]
def G_Replaying.of (l : List V) : G_Replaying := ⟨asI (cell [l] 0 0), asI (cell [l] 0 1), asI (cell [l] 0 2), asI (cell [l] 0 3), asR (cell [l] 0 4), asR (cell [l] 0 5), asI (cell [l] 0 6), asI (cell [l] 0 7)⟩
def G_Replaying.ks : List Kc := [.i .i64, .i .i64, .i .i8, .i .i64, .m, .m, .i .i64, .i .i64]
theorem G_Replaying.h (l : List V) : G_Replaying.cs (G_Replaying.of l) = etaSeg G_Replaying.ks [l] 0 0 := rfl
def G_Replaying.z : G_Replaying := ⟨0, 0, 0, 0, [], [], 0, 0⟩
structure G_Fetching where
 Block : Int
 K : Int
 Parts : List (List V)
def G_Fetching.cs (x : G_Fetching) : List V := [V.int .i64 x.Block, V.int .i64 x.K, V.sl x.Parts false]
def G_Fetching.of (l : List V) : G_Fetching := ⟨asI (cell [l] 0 0), asI (cell [l] 0 1), asR (cell [l] 0 2)⟩
def G_Fetching.ks : List Kc := [.i .i64, .i .i64, .m]
theorem G_Fetching.h (l : List V) : G_Fetching.cs (G_Fetching.of l) = etaSeg G_Fetching.ks [l] 0 0 := rfl
def G_Fetching.z : G_Fetching := ⟨0, 0, []⟩
structure G_Node where
 Num : Int
 Clock : Int
 Up : Bool
 Over : Int
 Key : Int
 Asked : Int
 Count : Int
 Mounted : Bool
 Slot : Int
 Head : Int
 Tail : Int
 Table : G_Table
 Done : Int
 Serial : Int
 Txn : G_Txn
 Pend : List (List V)
 Watch : List (List V)
 Giving : List (List V)
 GivingAll : Bool
 Busy : Bool
 Op : G_Op
 At : Int
 P : G_Prop
 Pu : G_Putting
 St : G_Settling
 R : G_Replaying
 F : G_Fetching
def G_Node.cs (x : G_Node) : List V := [V.int .i64 x.Num, V.int .i64 x.Clock, V.bool x.Up, V.int .i64 x.Over, V.int .i64 x.Key, V.int .i64 x.Asked, V.int .i64 x.Count, V.bool x.Mounted, V.int .i64 x.Slot, V.int .i64 x.Head, V.int .i64 x.Tail, V.sl x.Table.Slots false, V.sl x.Table.Holds false, V.sl x.Table.Queue false, V.int .i64 x.Done, V.int .i64 x.Serial, V.bool x.Txn.Open, V.sl x.Txn.Writes false, V.sl x.Pend false, V.sl x.Watch false, V.sl x.Giving false, V.bool x.GivingAll, V.bool x.Busy, V.int .i8 x.Op.Kind, V.int .i64 x.Op.Span.Lo, V.int .i64 x.Op.Span.Hi, V.int .i8 x.Op.Mode, V.int .i64 x.Op.Block, V.str x.Op.Text, V.int .i64 x.Op.Node, V.int .i64 x.Op.Key, V.int .i8 x.At, V.int .i64 x.P.Node, V.str x.P.Cmd, V.int .i8 x.P.At, V.int .i64 x.P.I, V.int .i64 x.P.Own.Inst, V.int .i64 x.P.Own.Mbal, V.int .i64 x.P.Own.Bal, V.str x.P.Own.Val, V.int .i64 x.P.T.Inst, V.int .i64 x.P.T.Mbal, V.int .i64 x.P.T.Best, V.str x.P.T.Val, V.int .i64 x.P.T.Seen, V.bool x.P.T.Ahead, V.bool x.P.T.Lost, V.sl x.Pu.L false, V.int .i64 x.Pu.I, V.sl x.St.Cells false, V.int .i64 x.St.I, V.int .i64 x.St.Left, V.int .i8 x.St.At, V.int .i64 x.R.Slot, V.int .i64 x.R.Key, V.int .i8 x.R.At, V.int .i64 x.R.Tail, V.sl x.R.L false, V.sl x.R.Cells false, V.int .i64 x.R.I, V.int .i64 x.R.End, V.int .i64 x.F.Block, V.int .i64 x.F.K, V.sl x.F.Parts false]
def G_Node.of (l : List V) : G_Node := ⟨asI (cell [l] 0 0), asI (cell [l] 0 1), asB (cell [l] 0 2), asI (cell [l] 0 3), asI (cell [l] 0 4), asI (cell [l] 0 5), asI (cell [l] 0 6), asB (cell [l] 0 7), asI (cell [l] 0 8), asI (cell [l] 0 9), asI (cell [l] 0 10), ⟨asR (cell [l] 0 11), asR (cell [l] 0 12), asR (cell [l] 0 13)⟩, asI (cell [l] 0 14), asI (cell [l] 0 15), ⟨asB (cell [l] 0 16), asR (cell [l] 0 17)⟩, asR (cell [l] 0 18), asR (cell [l] 0 19), asR (cell [l] 0 20), asB (cell [l] 0 21), asB (cell [l] 0 22), ⟨asI (cell [l] 0 23), ⟨asI (cell [l] 0 24), asI (cell [l] 0 25)⟩, asI (cell [l] 0 26), asI (cell [l] 0 27), asS (cell [l] 0 28), asI (cell [l] 0 29), asI (cell [l] 0 30)⟩, asI (cell [l] 0 31), ⟨asI (cell [l] 0 32), asS (cell [l] 0 33), asI (cell [l] 0 34), asI (cell [l] 0 35), ⟨asI (cell [l] 0 36), asI (cell [l] 0 37), asI (cell [l] 0 38), asS (cell [l] 0 39)⟩, ⟨asI (cell [l] 0 40), asI (cell [l] 0 41), asI (cell [l] 0 42), asS (cell [l] 0 43), asI (cell [l] 0 44), asB (cell [l] 0 45), asB (cell [l] 0 46)⟩⟩, ⟨asR (cell [l] 0 47), asI (cell [l] 0 48)⟩, ⟨asR (cell [l] 0 49), asI (cell [l] 0 50), asI (cell [l] 0 51), asI (cell [l] 0 52)⟩, ⟨asI (cell [l] 0 53), asI (cell [l] 0 54), asI (cell [l] 0 55), asI (cell [l] 0 56), asR (cell [l] 0 57), asR (cell [l] 0 58), asI (cell [l] 0 59), asI (cell [l] 0 60)⟩, ⟨asI (cell [l] 0 61), asI (cell [l] 0 62), asR (cell [l] 0 63)⟩⟩
def G_Node.ks : List Kc := [.i .i64, .i .i64, .b, .i .i64, .i .i64, .i .i64, .i .i64, .b, .i .i64, .i .i64, .i .i64, .m, .m, .m, .i .i64, .i .i64, .b, .m, .m, .m, .m, .b, .b, .i .i8, .i .i64, .i .i64, .i .i8, .i .i64, .s, .i .i64, .i .i64, .i .i8, .i .i64, .s, .i .i8, .i .i64, .i .i64, .i .i64, .i .i64, .s, .i .i64, .i .i64, .i .i64, .s, .i .i64, .b, .b, .m, .i .i64, .m, .i .i64, .i .i64, .i .i8, .i .i64, .i .i64, .i .i8, .i .i64, .m, .m, .i .i64, .i .i64, .i .i64, .i .i64, .m]
theorem G_Node.h (l : List V) : G_Node.cs (G_Node.of l) = etaSeg G_Node.ks [l] 0 0 := rfl
def cd_Node : Cd G_Node := cdA G_Node.ks G_Node.cs G_Node.of G_Node.h
def G_Node.z : G_Node := ⟨0, 0, false, 0, 0, 0, 0, false, 0, 0, 0, ⟨[], [], []⟩, 0, 0, ⟨false, []⟩, [], [], [], false, false, ⟨0, ⟨0, 0⟩, 0, 0, noS, 0, 0⟩, 0, ⟨0, noS, 0, 0, ⟨0, 0, 0, noS⟩, ⟨0, 0, 0, noS, 0, false, false⟩⟩, ⟨[], 0⟩, ⟨[], 0, 0, 0⟩, ⟨0, 0, 0, 0, [], [], 0, 0⟩, ⟨0, 0, []⟩⟩
structure G_Answer where
 E : Int
 Text : ByteArray
 Yes : Bool
def G_Answer.cs (x : G_Answer) : List V := [V.int .i64 x.E, V.str x.Text, V.bool x.Yes]
def G_Answer.of (l : List V) : G_Answer := ⟨asI (cell [l] 0 0), asS (cell [l] 0 1), asB (cell [l] 0 2)⟩
def G_Answer.ks : List Kc := [.i .i64, .s, .b]
theorem G_Answer.h (l : List V) : G_Answer.cs (G_Answer.of l) = etaSeg G_Answer.ks [l] 0 0 := rfl
def G_Answer.z : G_Answer := ⟨0, noS, false⟩
structure G_Act where
 Kind : Int
 Sector : Int
 B : ByteArray
 Key : Int
def G_Act.cs (x : G_Act) : List V := [V.int .i8 x.Kind, V.int .i64 x.Sector, V.str x.B, V.int .i64 x.Key]
def G_Act.of (l : List V) : G_Act := ⟨asI (cell [l] 0 0), asI (cell [l] 0 1), asS (cell [l] 0 2), asI (cell [l] 0 3)⟩
def G_Act.ks : List Kc := [.i .i8, .i .i64, .s, .i .i64]
theorem G_Act.h (l : List V) : G_Act.cs (G_Act.of l) = etaSeg G_Act.ks [l] 0 0 := rfl
def cd_Act : Cd G_Act := cdA G_Act.ks G_Act.cs G_Act.of G_Act.h
def G_Act.z : G_Act := ⟨0, 0, noS, 0⟩
structure G_repair_course where
 Node : G_Node
 g_ : G_Geo
 a_ : G_Answer
 over_ : Bool
def G_repair_course.cs (x : G_repair_course) : List V := [V.int .i64 x.Node.Num, V.int .i64 x.Node.Clock, V.bool x.Node.Up, V.int .i64 x.Node.Over, V.int .i64 x.Node.Key, V.int .i64 x.Node.Asked, V.int .i64 x.Node.Count, V.bool x.Node.Mounted, V.int .i64 x.Node.Slot, V.int .i64 x.Node.Head, V.int .i64 x.Node.Tail, V.sl x.Node.Table.Slots false, V.sl x.Node.Table.Holds false, V.sl x.Node.Table.Queue false, V.int .i64 x.Node.Done, V.int .i64 x.Node.Serial, V.bool x.Node.Txn.Open, V.sl x.Node.Txn.Writes false, V.sl x.Node.Pend false, V.sl x.Node.Watch false, V.sl x.Node.Giving false, V.bool x.Node.GivingAll, V.bool x.Node.Busy, V.int .i8 x.Node.Op.Kind, V.int .i64 x.Node.Op.Span.Lo, V.int .i64 x.Node.Op.Span.Hi, V.int .i8 x.Node.Op.Mode, V.int .i64 x.Node.Op.Block, V.str x.Node.Op.Text, V.int .i64 x.Node.Op.Node, V.int .i64 x.Node.Op.Key, V.int .i8 x.Node.At, V.int .i64 x.Node.P.Node, V.str x.Node.P.Cmd, V.int .i8 x.Node.P.At, V.int .i64 x.Node.P.I, V.int .i64 x.Node.P.Own.Inst, V.int .i64 x.Node.P.Own.Mbal, V.int .i64 x.Node.P.Own.Bal, V.str x.Node.P.Own.Val, V.int .i64 x.Node.P.T.Inst, V.int .i64 x.Node.P.T.Mbal, V.int .i64 x.Node.P.T.Best, V.str x.Node.P.T.Val, V.int .i64 x.Node.P.T.Seen, V.bool x.Node.P.T.Ahead, V.bool x.Node.P.T.Lost, V.sl x.Node.Pu.L false, V.int .i64 x.Node.Pu.I, V.sl x.Node.St.Cells false, V.int .i64 x.Node.St.I, V.int .i64 x.Node.St.Left, V.int .i8 x.Node.St.At, V.int .i64 x.Node.R.Slot, V.int .i64 x.Node.R.Key, V.int .i8 x.Node.R.At, V.int .i64 x.Node.R.Tail, V.sl x.Node.R.L false, V.sl x.Node.R.Cells false, V.int .i64 x.Node.R.I, V.int .i64 x.Node.R.End, V.int .i64 x.Node.F.Block, V.int .i64 x.Node.F.K, V.sl x.Node.F.Parts false, V.int .i64 x.g_.Nodes, V.int .i64 x.g_.Slots, V.int .i64 x.g_.Blocks, V.int .i64 x.g_.Per, V.int .i64 x.g_.Journal, V.int .i64 x.g_.Log, V.int .i64 x.g_.Lease, V.int .i64 x.g_.Wait, V.int .i64 x.a_.E, V.str x.a_.Text, V.bool x.a_.Yes, V.bool x.over_]
def G_repair_course.of (l : List V) : G_repair_course := ⟨⟨asI (cell [l] 0 0), asI (cell [l] 0 1), asB (cell [l] 0 2), asI (cell [l] 0 3), asI (cell [l] 0 4), asI (cell [l] 0 5), asI (cell [l] 0 6), asB (cell [l] 0 7), asI (cell [l] 0 8), asI (cell [l] 0 9), asI (cell [l] 0 10), ⟨asR (cell [l] 0 11), asR (cell [l] 0 12), asR (cell [l] 0 13)⟩, asI (cell [l] 0 14), asI (cell [l] 0 15), ⟨asB (cell [l] 0 16), asR (cell [l] 0 17)⟩, asR (cell [l] 0 18), asR (cell [l] 0 19), asR (cell [l] 0 20), asB (cell [l] 0 21), asB (cell [l] 0 22), ⟨asI (cell [l] 0 23), ⟨asI (cell [l] 0 24), asI (cell [l] 0 25)⟩, asI (cell [l] 0 26), asI (cell [l] 0 27), asS (cell [l] 0 28), asI (cell [l] 0 29), asI (cell [l] 0 30)⟩, asI (cell [l] 0 31), ⟨asI (cell [l] 0 32), asS (cell [l] 0 33), asI (cell [l] 0 34), asI (cell [l] 0 35), ⟨asI (cell [l] 0 36), asI (cell [l] 0 37), asI (cell [l] 0 38), asS (cell [l] 0 39)⟩, ⟨asI (cell [l] 0 40), asI (cell [l] 0 41), asI (cell [l] 0 42), asS (cell [l] 0 43), asI (cell [l] 0 44), asB (cell [l] 0 45), asB (cell [l] 0 46)⟩⟩, ⟨asR (cell [l] 0 47), asI (cell [l] 0 48)⟩, ⟨asR (cell [l] 0 49), asI (cell [l] 0 50), asI (cell [l] 0 51), asI (cell [l] 0 52)⟩, ⟨asI (cell [l] 0 53), asI (cell [l] 0 54), asI (cell [l] 0 55), asI (cell [l] 0 56), asR (cell [l] 0 57), asR (cell [l] 0 58), asI (cell [l] 0 59), asI (cell [l] 0 60)⟩, ⟨asI (cell [l] 0 61), asI (cell [l] 0 62), asR (cell [l] 0 63)⟩⟩, ⟨asI (cell [l] 0 64), asI (cell [l] 0 65), asI (cell [l] 0 66), asI (cell [l] 0 67), asI (cell [l] 0 68), asI (cell [l] 0 69), asI (cell [l] 0 70), asI (cell [l] 0 71)⟩, ⟨asI (cell [l] 0 72), asS (cell [l] 0 73), asB (cell [l] 0 74)⟩, asB (cell [l] 0 75)⟩
def G_repair_course.ks : List Kc := [.i .i64, .i .i64, .b, .i .i64, .i .i64, .i .i64, .i .i64, .b, .i .i64, .i .i64, .i .i64, .m, .m, .m, .i .i64, .i .i64, .b, .m, .m, .m, .m, .b, .b, .i .i8, .i .i64, .i .i64, .i .i8, .i .i64, .s, .i .i64, .i .i64, .i .i8, .i .i64, .s, .i .i8, .i .i64, .i .i64, .i .i64, .i .i64, .s, .i .i64, .i .i64, .i .i64, .s, .i .i64, .b, .b, .m, .i .i64, .m, .i .i64, .i .i64, .i .i8, .i .i64, .i .i64, .i .i8, .i .i64, .m, .m, .i .i64, .i .i64, .i .i64, .i .i64, .m, .i .i64, .i .i64, .i .i64, .i .i64, .i .i64, .i .i64, .i .i64, .i .i64, .i .i64, .s, .b, .b]
theorem G_repair_course.h (l : List V) : G_repair_course.cs (G_repair_course.of l) = etaSeg G_repair_course.ks [l] 0 0 := rfl
def G_repair_course.z : G_repair_course := ⟨⟨0, 0, false, 0, 0, 0, 0, false, 0, 0, 0, ⟨[], [], []⟩, 0, 0, ⟨false, []⟩, [], [], [], false, false, ⟨0, ⟨0, 0⟩, 0, 0, noS, 0, 0⟩, 0, ⟨0, noS, 0, 0, ⟨0, 0, 0, noS⟩, ⟨0, 0, 0, noS, 0, false, false⟩⟩, ⟨[], 0⟩, ⟨[], 0, 0, 0⟩, ⟨0, 0, 0, 0, [], [], 0, 0⟩, ⟨0, 0, []⟩⟩, ⟨0, 0, 0, 0, 0, 0, 0, 0⟩, ⟨0, noS, false⟩, false⟩
structure G_Watch where
 Key : Int
 Count : Int
 Since : Int
 Looked : Bool
def G_Watch.cs (x : G_Watch) : List V := [V.int .i64 x.Key, V.int .i64 x.Count, V.int .i64 x.Since, V.bool x.Looked]
def G_Watch.of (l : List V) : G_Watch := ⟨asI (cell [l] 0 0), asI (cell [l] 0 1), asI (cell [l] 0 2), asB (cell [l] 0 3)⟩
def G_Watch.ks : List Kc := [.i .i64, .i .i64, .i .i64, .b]
theorem G_Watch.h (l : List V) : G_Watch.cs (G_Watch.of l) = etaSeg G_Watch.ks [l] 0 0 := rfl
def cd_Watch : Cd G_Watch := cdA G_Watch.ks G_Watch.cs G_Watch.of G_Watch.h
def G_Watch.z : G_Watch := ⟨0, 0, 0, false⟩
structure G_paxos_run where
 Prop_ : G_Prop
 g_ : G_Geo
 t_ : G_Table
 done_ : Int
 over_ : Bool
def G_paxos_run.cs (x : G_paxos_run) : List V := [V.int .i64 x.Prop_.Node, V.str x.Prop_.Cmd, V.int .i8 x.Prop_.At, V.int .i64 x.Prop_.I, V.int .i64 x.Prop_.Own.Inst, V.int .i64 x.Prop_.Own.Mbal, V.int .i64 x.Prop_.Own.Bal, V.str x.Prop_.Own.Val, V.int .i64 x.Prop_.T.Inst, V.int .i64 x.Prop_.T.Mbal, V.int .i64 x.Prop_.T.Best, V.str x.Prop_.T.Val, V.int .i64 x.Prop_.T.Seen, V.bool x.Prop_.T.Ahead, V.bool x.Prop_.T.Lost, V.int .i64 x.g_.Nodes, V.int .i64 x.g_.Slots, V.int .i64 x.g_.Blocks, V.int .i64 x.g_.Per, V.int .i64 x.g_.Journal, V.int .i64 x.g_.Log, V.int .i64 x.g_.Lease, V.int .i64 x.g_.Wait, V.sl x.t_.Slots false, V.sl x.t_.Holds false, V.sl x.t_.Queue false, V.int .i64 x.done_, V.bool x.over_]
def G_paxos_run.of (l : List V) : G_paxos_run := ⟨⟨asI (cell [l] 0 0), asS (cell [l] 0 1), asI (cell [l] 0 2), asI (cell [l] 0 3), ⟨asI (cell [l] 0 4), asI (cell [l] 0 5), asI (cell [l] 0 6), asS (cell [l] 0 7)⟩, ⟨asI (cell [l] 0 8), asI (cell [l] 0 9), asI (cell [l] 0 10), asS (cell [l] 0 11), asI (cell [l] 0 12), asB (cell [l] 0 13), asB (cell [l] 0 14)⟩⟩, ⟨asI (cell [l] 0 15), asI (cell [l] 0 16), asI (cell [l] 0 17), asI (cell [l] 0 18), asI (cell [l] 0 19), asI (cell [l] 0 20), asI (cell [l] 0 21), asI (cell [l] 0 22)⟩, ⟨asR (cell [l] 0 23), asR (cell [l] 0 24), asR (cell [l] 0 25)⟩, asI (cell [l] 0 26), asB (cell [l] 0 27)⟩
def G_paxos_run.ks : List Kc := [.i .i64, .s, .i .i8, .i .i64, .i .i64, .i .i64, .i .i64, .s, .i .i64, .i .i64, .i .i64, .s, .i .i64, .b, .b, .i .i64, .i .i64, .i .i64, .i .i64, .i .i64, .i .i64, .i .i64, .i .i64, .m, .m, .m, .i .i64, .b]
theorem G_paxos_run.h (l : List V) : G_paxos_run.cs (G_paxos_run.of l) = etaSeg G_paxos_run.ks [l] 0 0 := rfl
def G_paxos_run.z : G_paxos_run := ⟨⟨0, noS, 0, 0, ⟨0, 0, 0, noS⟩, ⟨0, 0, 0, noS, 0, false, false⟩⟩, ⟨0, 0, 0, 0, 0, 0, 0, 0⟩, ⟨[], [], []⟩, 0, false⟩
structure G_Cmd where
 Kind : Int
 By : Int
 Serial : Int
 Dead : Int
 Was : Int
 Span : G_Span
 Mode : Int
def G_Cmd.cs (x : G_Cmd) : List V := [V.int .i8 x.Kind, V.int .i64 x.By, V.int .i64 x.Serial, V.int .i64 x.Dead, V.int .i64 x.Was, V.int .i64 x.Span.Lo, V.int .i64 x.Span.Hi, V.int .i8 x.Mode]
def G_Cmd.of (l : List V) : G_Cmd := ⟨asI (cell [l] 0 0), asI (cell [l] 0 1), asI (cell [l] 0 2), asI (cell [l] 0 3), asI (cell [l] 0 4), ⟨asI (cell [l] 0 5), asI (cell [l] 0 6)⟩, asI (cell [l] 0 7)⟩
def G_Cmd.ks : List Kc := [.i .i8, .i .i64, .i .i64, .i .i64, .i .i64, .i .i64, .i .i64, .i .i8]
theorem G_Cmd.h (l : List V) : G_Cmd.cs (G_Cmd.of l) = etaSeg G_Cmd.ks [l] 0 0 := rfl
def cd_Cmd : Cd G_Cmd := cdA G_Cmd.ks G_Cmd.cs G_Cmd.of G_Cmd.h
def G_Cmd.z : G_Cmd := ⟨0, 0, 0, 0, 0, ⟨0, 0⟩, 0⟩
structure G_geo_stretch where
 first_ : Int
 many_ : Int
def G_geo_stretch.cs (x : G_geo_stretch) : List V := [V.int .i64 x.first_, V.int .i64 x.many_]
def G_geo_stretch.of (l : List V) : G_geo_stretch := ⟨asI (cell [l] 0 0), asI (cell [l] 0 1)⟩
def G_geo_stretch.ks : List Kc := [.i .i64, .i .i64]
theorem G_geo_stretch.h (l : List V) : G_geo_stretch.cs (G_geo_stretch.of l) = etaSeg G_geo_stretch.ks [l] 0 0 := rfl
def cd_geo_stretch : Cd G_geo_stretch := cdA G_geo_stretch.ks G_geo_stretch.cs G_geo_stretch.of G_geo_stretch.h
def G_geo_stretch.z : G_geo_stretch := ⟨0, 0⟩
structure G_geo_region where
 stretch_ : G_geo_stretch
 kind_ : Int
 per_ : Int
def G_geo_region.cs (x : G_geo_region) : List V := [V.int .i64 x.stretch_.first_, V.int .i64 x.stretch_.many_, V.int .i8 x.kind_, V.int .i64 x.per_]
def G_geo_region.of (l : List V) : G_geo_region := ⟨⟨asI (cell [l] 0 0), asI (cell [l] 0 1)⟩, asI (cell [l] 0 2), asI (cell [l] 0 3)⟩
def G_geo_region.ks : List Kc := [.i .i64, .i .i64, .i .i8, .i .i64]
theorem G_geo_region.h (l : List V) : G_geo_region.cs (G_geo_region.of l) = etaSeg G_geo_region.ks [l] 0 0 := rfl
def cd_geo_region : Cd G_geo_region := cdA G_geo_region.ks G_geo_region.cs G_geo_region.of G_geo_region.h
def G_geo_region.z : G_geo_region := ⟨⟨0, 0⟩, 0, 0⟩
structure G_command_order where
 Cmd : G_Cmd
 b_ : List (List V)
def G_command_order.cs (x : G_command_order) : List V := [V.int .i8 x.Cmd.Kind, V.int .i64 x.Cmd.By, V.int .i64 x.Cmd.Serial, V.int .i64 x.Cmd.Dead, V.int .i64 x.Cmd.Was, V.int .i64 x.Cmd.Span.Lo, V.int .i64 x.Cmd.Span.Hi, V.int .i8 x.Cmd.Mode, V.sl x.b_ false]
def G_command_order.of (l : List V) : G_command_order := ⟨⟨asI (cell [l] 0 0), asI (cell [l] 0 1), asI (cell [l] 0 2), asI (cell [l] 0 3), asI (cell [l] 0 4), ⟨asI (cell [l] 0 5), asI (cell [l] 0 6)⟩, asI (cell [l] 0 7)⟩, asR (cell [l] 0 8)⟩
def G_command_order.ks : List Kc := [.i .i8, .i .i64, .i .i64, .i .i64, .i .i64, .i .i64, .i .i64, .i .i8, .m]
theorem G_command_order.h (l : List V) : G_command_order.cs (G_command_order.of l) = etaSeg G_command_order.ks [l] 0 0 := rfl
def G_command_order.z : G_command_order := ⟨⟨0, 0, 0, 0, 0, ⟨0, 0⟩, 0⟩, []⟩
structure G_command_taker where
 s_ : ByteArray
 bad_ : Bool
def G_command_taker.cs (x : G_command_taker) : List V := [V.str x.s_, V.bool x.bad_]
def G_command_taker.of (l : List V) : G_command_taker := ⟨asS (cell [l] 0 0), asB (cell [l] 0 1)⟩
def G_command_taker.ks : List Kc := [.s, .b]
theorem G_command_taker.h (l : List V) : G_command_taker.cs (G_command_taker.of l) = etaSeg G_command_taker.ks [l] 0 0 := rfl
def G_command_taker.z : G_command_taker := ⟨noS, false⟩
end Go.Proofs.YtkjihmlighigjaaGreat

namespace Go.Proofs.YtkjihmlighigjaaGreat
open Go.RowKit

theorem add_none (g o n : Nat) : (⟨g, o, none⟩ : Addr).add n = ⟨g, o + n, none⟩ := by
  unfold Addr.add
  split
  · rename_i h; subst h; rfl
  · rfl
section
variable {mu : Mu} {S : Stab} {w : World} {v : Value}
theorem vr_int {k : IntKind} {n : Int} (h : VR mu S w (.int k n) v) : v = .int k n := VR.int_inv h
theorem vrs_nil {cs : List Value} (h : VRs mu S w [] cs) : cs = [] := by
  have := h.1
  cases cs with
  | nil => rfl
  | cons a l => simp at this
theorem vrs_cons {x : V} {xs : List V} {cs : List Value} (h : VRs mu S w (x :: xs) cs) : ∃ u us, cs = u :: us ∧ VR mu S w x u ∧ VRs mu S w xs us := by
  obtain ⟨h1, h2⟩ := h
  cases cs with
  | nil => simp at h1
  | cons a l => exact ⟨a, l, rfl, h2 0 (by simp) (by simp), by simpa using h1, fun j hj hj' => h2 (j + 1) (by simpa using hj) (by simpa using hj')⟩
theorem vr_row {es : List (List V)} {fl : Bool} {sz : Nat} (hb : ∀ g i, S g i → g < w.heap.size) (h : VR mu S w (.sl es fl) v) (hsz : ∀ r ∈ es, r.length = sz) (h0 : 0 < sz) :
    ∃ A c, v = .slice A es.length c ∧ (0 < es.length → ∃ ad, A = some ad ∧ ad.block < w.heap.size ∧ ∀ i (hi : i < es.length) j (hj : j < es[i].length), ∃ u, w.cell? (ad.add (i * sz + j)) = some u ∧ VR mu S w es[i][j] u) := by
  generalize hx : V.sl es fl = x at h
  cases h with
  | sl0 full A c hf => cases hx; exact ⟨A, c, rfl, fun h => absurd h (by simp)⟩
  | sl1 es' full g o c sz' vals hne hc hf hlen hS hcell hone hv =>
    cases hx
    have hs : sz = sz' := by rw [← hsz _ (List.getElem_mem hne), hlen 0 hne]
    subst hs
    refine ⟨_, _, rfl, fun _ => ⟨_, rfl, hb g _ (hS 0 0 hne h0), fun i hi j hj => ⟨vals i j, ?_, hv i hi j hj⟩⟩⟩
    rw [add_none, ← Nat.add_assoc]
    exact hcell i j hi (by rw [← hlen i hi]; exact hj)
  | _ => cases hx
theorem vr_in {l : List Int} {fl : Bool} (hb : ∀ g i, S g i → g < w.heap.size) (h : VR mu S w (.sl (l.map inV) fl) v) : ∃ A c, v = .slice A l.length c ∧ Reads w w.heap.size 1 A l.length (icells l) := by
  obtain ⟨A, c, hv, hr⟩ := vr_row (sz := 1) hb h (fun r hr => by obtain ⟨p, _, rfl⟩ := List.mem_map.1 hr; rfl) (by omega)
  replace hv : v = .slice A l.length c := by rw [hv, List.length_map]
  refine ⟨A, c, hv, by simp [icells], fun hn => ?_⟩
  obtain ⟨ad, hA, hlt, hc⟩ := hr (by simpa using hn)
  refine ⟨ad, hA, hlt, fun j u hu => ?_⟩
  have hj : j < l.length := by
    rcases Nat.lt_or_ge j l.length with h | h
    · exact h
    · rw [List.getElem?_eq_none (by simpa [icells] using h)] at hu; cases hu
  have hu' : u = .int .i64 l[j] := by
    simp [icells, hj] at hu
    exact hu.symm
  subst hu'
  obtain ⟨u, h1, h2⟩ := hc j (by simpa using hj) 0 (by simp [inV])
  rw [show ad.add j = ad.add (j * 1 + 0) from congrArg _ (by omega), h1]
  simp only [List.getElem_map] at h2
  rw [VR.int_inv h2]
theorem vr_geo {g : Geo} (h : VR mu S w (.agg [.int .i64 g.nodes, .int .i64 g.slots, .int .i64 g.blocks, .int .i64 g.per, .int .i64 g.journal, .int .i64 g.log, .int .i64 g.lease, .int .i64 g.wait]) v) : v = g.v := by
  obtain ⟨vs, rfl, h1, _⟩ := VR.agg_inv h
  obtain ⟨u, us, rfl, e1, h1⟩ := vrs_cons h1
  obtain ⟨u2, us, rfl, e2, h1⟩ := vrs_cons h1
  obtain ⟨u3, us, rfl, e3, h1⟩ := vrs_cons h1
  obtain ⟨u4, us, rfl, e4, h1⟩ := vrs_cons h1
  obtain ⟨u5, us, rfl, e5, h1⟩ := vrs_cons h1
  obtain ⟨u6, us, rfl, e6, h1⟩ := vrs_cons h1
  obtain ⟨u7, us, rfl, e7, h1⟩ := vrs_cons h1
  obtain ⟨u8, us, rfl, e8, h1⟩ := vrs_cons h1
  rw [vrs_nil h1, vr_int e1, vr_int e2, vr_int e3, vr_int e4, vr_int e5, vr_int e6, vr_int e7, vr_int e8]
theorem vr_own {base : Nat} {e : TypeId} {size n : Nat} {xs : List Value} (h : w.ownsRow base e size v n xs) (es : List (List V)) (hn : es.length = n) (hrow : ∀ r ∈ es, r.length = size)
    (hx : ∀ i (hi : i < es.length) j (hj : j < es[i].length), ∃ u, xs[i * size + j]? = some u ∧ u.oneCell' = true ∧ VR mu S w es[i][j] u) (hS : ∀ g i, base ≤ g → g < w.heap.size → S g i) : VR mu S w (.sl es false) v := by
  obtain ⟨hlen, h⟩ := h
  rcases h with ⟨rfl, h0⟩ | ⟨g, cap, cur, rfl, hb, hh, hnc, hcap, hsz, htk⟩
  · have : es = [] := List.length_eq_zero_iff.1 (by omega)
    subst this
    exact .sl0 false none 0 (by simp)
  · have hg : g < w.heap.size := by
      rcases Nat.lt_or_ge g w.heap.size with h | h
      · exact h
      · rw [Array.getElem?_eq_none h] at hh; cases hh
    subst hn
    rcases Nat.eq_zero_or_pos es.length with h0 | h0
    · have : es = [] := List.length_eq_zero_iff.1 h0
      subst this
      exact .sl0 false _ _ (by simp)
    · have hin : ∀ i j, i < es.length → j < size → i * size + j < es.length * size := fun i j hi hj => by
        have : (i + 1) * size ≤ es.length * size := Nat.mul_le_mul_right _ hi
        rw [Nat.add_mul] at this
        omega
      have hcell : ∀ k, w.cell? ⟨g, k, none⟩ = cur[k]? := fun k => by
        unfold World.cell?
        simp [hh]
      refine .sl1 es false g 0 cap size (fun i j => (xs[i * size + j]?).getD Go.undef) h0 hnc (by simp) (fun i hi => hrow _ (List.getElem_mem hi)) (fun i j _ _ => hS g _ hb hg) (fun i j hi hj => ?_) (fun i j hi hj => ?_) (fun i hi j hj => ?_)
      · obtain ⟨u, h1, h2, h3⟩ := hx i hi j (by rw [hrow _ (List.getElem_mem hi)]; exact hj)
        rw [hcell, Nat.zero_add, h1]
        rw [← htk, List.getElem?_take, if_pos (hin i j hi hj)] at h1
        rw [Array.getElem?_toList] at h1
        exact h1
      · obtain ⟨u, h1, h2, h3⟩ := hx i hi j (by rw [hrow _ (List.getElem_mem hi)]; exact hj)
        rw [h1]; exact h2
      · obtain ⟨u, h1, h2, h3⟩ := hx i hi j hj
        rw [h1]; exact h3
end
theorem con_of_calls {P : Program} {g : FuncId} {args : List V} {r : V} {fn : Func} (hf : P.funcs[g]? = some fn) (hn : (fn.name == "runtime.NumGoroutine") = false) (hb : fn.body.isNone = false) (hp : Plain r)
    (h : ∀ (w : World) (S : Stab) (vargs : List Value), (∀ g i, S g i → g < w.heap.size) → VRs noMu S w args vargs → Calls P g vargs.toArray w fun e w' => ∃ v, e = .returned v ∧ VR noMu (fun g i => S g i ∨ (w.heap.size ≤ g ∧ g < w'.heap.size)) w' r v ∧ Below w.heap.size w w') : Con P g args (· = r) := by
  refine ⟨⟨fn, hf, hn, hb⟩, fun w S vargs hS hv => (h w S vargs hS hv).mono ?_⟩
  rintro e w' ⟨v, rfl, hr, hB⟩
  exact ⟨v, r, _, rfl, rfl, hp, hr, fun _ _ h => .inl h, fun _ _ h => h.imp id fun h => h.1, fun g i h => h.elim (fun h => Nat.lt_of_lt_of_le (hS g i h) hB.size) fun h => h.2, hB⟩
section
variable {P : Program} {ops : Array Oper} {h : FuncId} {d : Option Tmp} {l : List Oper} {fr : Fr} {st : St} {args : List V}
end
end Go.Proofs.YtkjihmlighigjaaGreat

namespace Go.Proofs.YtkjihmlighigjaaGreat
open Go.RowKit

section
variable {mu : Mu} {S : Stab} {w : World} {x y : V} {u v : Value}
theorem vr_tup2 (h1 : VR mu S w x u) (h2 : VR mu S w y v) : VR mu S w (.tup [x, y]) (.tuple #[u, v]) := .tup [x, y] [u, v] rfl fun j hj hj' => by
  match j, hj with
  | 0, _ => exact h1
  | 1, _ => exact h2
end
end Go.Proofs.YtkjihmlighigjaaGreat

namespace Go.Proofs.YtkjihmlighigjaaGreat
open Go.RowKit

def allS (w : World) : Stab := fun g _ => g < w.heap.size
end Go.Proofs.YtkjihmlighigjaaGreat
