/- Structures. (printed by wip/sx) -/
import Derived.Test.YtakljpcmbpaeaaaGreatMountPlaysM32
import Derived.Test.YtakljpcmbpaeaaaGreatChecked
import Derived.Test.YtakljpcmbpaeaaaGreatMountPlaysM22
import Derived.Test.YtakljpcmbpaeaaaGreatMountPlaysM01
set_option linter.unusedSimpArgs false
set_option linter.unusedVariables false
namespace Go.Proofs.YtakljpcmbpaeaaaGreat
open Go.RowKit
structure yAJ where
 Nodes:Int
 Slots:Int
 Blocks:Int
 Per:Int
 Journal:Int
 Log:Int
 Lease:Int
 Wait:Int
def yAJ.cs(x:yAJ):List V:= [V.int .i64 x.Nodes,V.int .i64 x.Slots,V.int .i64 x.Blocks,V.int .i64 x.Per,V.int .i64 x.Journal,V.int .i64 x.Log,V.int .i64 x.Lease,V.int .i64 x.Wait]
def yAJ.of(l:List V):yAJ:=⟨asI (cell [l] 0 0),asI (cell [l] 0 1),asI (cell [l] 0 2),asI (cell [l] 0 3),asI (cell [l] 0 4),asI (cell [l] 0 5),asI (cell [l] 0 6),asI (cell [l] 0 7)⟩
def yAJ.ks:List Kc:= [.i .i64,.i .i64,.i .i64,.i .i64,.i .i64,.i .i64,.i .i64,.i .i64]
abbrev yAJ.at(l:List (List V))(i j:Nat):yAJ:=⟨aI l i (j+0),aI l i (j+1),aI l i (j+2),aI l i (j+3),aI l i (j+4),aI l i (j+5),aI l i (j+6),aI l i (j+7)⟩
theorem yAJ.h(l:List V):yAJ.cs (yAJ.of l)=etaSeg yAJ.ks [l] 0 0:=rfl
def yBQ:Cd yAJ:=cdA yAJ.ks yAJ.cs yAJ.of yAJ.h
abbrev xSD:Ca yAJ:=caA yAJ.ks yAJ.cs yAJ.of yAJ.h
abbrev yOI:Mx yAJ:=mO (zS 8 xSD) 8
def yAJ.z:yAJ:=⟨0,0,0,0,0,0,0,0⟩
structure yAD where
 S:List (List V)
 Cache:List (List V)
 Keys:List (List V)
 Next:Int
 Fenced:List (List V)
def yAD.cs(x:yAD):List V:= [V.sl x.S false,V.sl x.Cache false,V.sl x.Keys false,V.int .i64 x.Next,V.sl x.Fenced false]
def yAD.of(l:List V):yAD:=⟨asR (cell [l] 0 0),asR (cell [l] 0 1),asR (cell [l] 0 2),asI (cell [l] 0 3),asR (cell [l] 0 4)⟩
def yAD.ks:List Kc:= [.m,.m,.m,.i .i64,.m]
abbrev yAD.at(l:List (List V))(i j:Nat):yAD:=⟨aR l i (j+0),aR l i (j+1),aR l i (j+2),aI l i (j+3),aR l i (j+4)⟩
theorem yAD.h(l:List V):yAD.cs (yAD.of l)=etaSeg yAD.ks [l] 0 0:=rfl
def yNE:Cd yAD:=cdA yAD.ks yAD.cs yAD.of yAD.h
abbrev xMd:Ca yAD:=caA yAD.ks yAD.cs yAD.of yAD.h
abbrev yAM:Mx yAD:=mO (zS 5 xMd) 5
def yAD.z:yAD:=⟨[],[],[],0,[]⟩
structure yAG where
 Slots:List (List V)
 Holds:List (List V)
 Queue:List (List V)
def yAG.cs(x:yAG):List V:= [V.sl x.Slots false,V.sl x.Holds false,V.sl x.Queue false]
def yAG.of(l:List V):yAG:=⟨asR (cell [l] 0 0),asR (cell [l] 0 1),asR (cell [l] 0 2)⟩
def yAG.ks:List Kc:= [.m,.m,.m]
abbrev yAG.at(l:List (List V))(i j:Nat):yAG:=⟨aR l i (j+0),aR l i (j+1),aR l i (j+2)⟩
theorem yAG.h(l:List V):yAG.cs (yAG.of l)=etaSeg yAG.ks [l] 0 0:=rfl
def yCf:Cd yAG:=cdA yAG.ks yAG.cs yAG.of yAG.h
abbrev xOs:Ca yAG:=caA yAG.ks yAG.cs yAG.of yAG.h
abbrev yH5:Mx yAG:=mO (zS 3 xOs) 3
def yAG.z:yAG:=⟨[],[],[]⟩
structure yQE where
 Open:Bool
 Writes:List (List V)
def yQE.cs(x:yQE):List V:= [V.bool x.Open,V.sl x.Writes false]
def yQE.of(l:List V):yQE:=⟨asB (cell [l] 0 0),asR (cell [l] 0 1)⟩
def yQE.ks:List Kc:= [.b,.m]
abbrev yQE.at(l:List (List V))(i j:Nat):yQE:=⟨aB l i (j+0),aR l i (j+1)⟩
theorem yQE.h(l:List V):yQE.cs (yQE.of l)=etaSeg yQE.ks [l] 0 0:=rfl
def yQE.z:yQE:=⟨false,[]⟩
structure yAr where
 Lo:Int
 Hi:Int
def yAr.cs(x:yAr):List V:= [V.int .i64 x.Lo,V.int .i64 x.Hi]
def yAr.of(l:List V):yAr:=⟨asI (cell [l] 0 0),asI (cell [l] 0 1)⟩
def yAr.ks:List Kc:= [.i .i64,.i .i64]
abbrev yAr.at(l:List (List V))(i j:Nat):yAr:=⟨aI l i (j+0),aI l i (j+1)⟩
theorem yAr.h(l:List V):yAr.cs (yAr.of l)=etaSeg yAr.ks [l] 0 0:=rfl
def yXU:Cd yAr:=cdA yAr.ks yAr.cs yAr.of yAr.h
abbrev xDz:Ca yAr:=caA yAr.ks yAr.cs yAr.of yAr.h
def yAr.z:yAr:=⟨0,0⟩
structure xB2 where
 Kind:Int
 Span:yAr
 Mode:Int
 Block:Int
 Text:ByteArray
 Node:Int
 Key:Int
def xB2.cs(x:xB2):List V:= [V.int .i8 x.Kind,V.int .i64 x.Span.Lo,V.int .i64 x.Span.Hi,V.int .i8 x.Mode,V.int .i64 x.Block,V.str x.Text,V.int .i64 x.Node,V.int .i64 x.Key]
def xB2.of(l:List V):xB2:=⟨asI (cell [l] 0 0),⟨asI (cell [l] 0 1),asI (cell [l] 0 2)⟩,asI (cell [l] 0 3),asI (cell [l] 0 4),asS (cell [l] 0 5),asI (cell [l] 0 6),asI (cell [l] 0 7)⟩
def xB2.ks:List Kc:= [.i .i8,.i .i64,.i .i64,.i .i8,.i .i64,.s,.i .i64,.i .i64]
abbrev xB2.at(l:List (List V))(i j:Nat):xB2:=⟨aI l i (j+0),⟨aI l i (j+1),aI l i (j+2)⟩,aI l i (j+3),aI l i (j+4),aS l i (j+5),aI l i (j+6),aI l i (j+7)⟩
theorem xB2.h(l:List V):xB2.cs (xB2.of l)=etaSeg xB2.ks [l] 0 0:=rfl
def xB2.z:xB2:=⟨0,⟨0,0⟩,0,0,noS,0,0⟩
structure yAp where
 Inst:Int
 Mbal:Int
 Bal:Int
 Val:ByteArray
def yAp.cs(x:yAp):List V:= [V.int .i64 x.Inst,V.int .i64 x.Mbal,V.int .i64 x.Bal,V.str x.Val]
def yAp.of(l:List V):yAp:=⟨asI (cell [l] 0 0),asI (cell [l] 0 1),asI (cell [l] 0 2),asS (cell [l] 0 3)⟩
def yAp.ks:List Kc:= [.i .i64,.i .i64,.i .i64,.s]
abbrev yAp.at(l:List (List V))(i j:Nat):yAp:=⟨aI l i (j+0),aI l i (j+1),aI l i (j+2),aS l i (j+3)⟩
theorem yAp.h(l:List V):yAp.cs (yAp.of l)=etaSeg yAp.ks [l] 0 0:=rfl
def yTH:Cd yAp:=cdA yAp.ks yAp.cs yAp.of yAp.h
def yAp.z:yAp:=⟨0,0,0,noS⟩
structure yAP where
 Inst:Int
 Mbal:Int
 Best:Int
 Val:ByteArray
 Seen:Int
 Ahead:Bool
 Lost:Bool
def yAP.cs(x:yAP):List V:= [V.int .i64 x.Inst,V.int .i64 x.Mbal,V.int .i64 x.Best,V.str x.Val,V.int .i64 x.Seen,V.bool x.Ahead,V.bool x.Lost]
def yAP.of(l:List V):yAP:=⟨asI (cell [l] 0 0),asI (cell [l] 0 1),asI (cell [l] 0 2),asS (cell [l] 0 3),asI (cell [l] 0 4),asB (cell [l] 0 5),asB (cell [l] 0 6)⟩
def yAP.ks:List Kc:= [.i .i64,.i .i64,.i .i64,.s,.i .i64,.b,.b]
abbrev yAP.at(l:List (List V))(i j:Nat):yAP:=⟨aI l i (j+0),aI l i (j+1),aI l i (j+2),aS l i (j+3),aI l i (j+4),aB l i (j+5),aB l i (j+6)⟩
theorem yAP.h(l:List V):yAP.cs (yAP.of l)=etaSeg yAP.ks [l] 0 0:=rfl
def yPw:Cd yAP:=cdA yAP.ks yAP.cs yAP.of yAP.h
abbrev xOt:Ca yAP:=caA yAP.ks yAP.cs yAP.of yAP.h
abbrev yZ4:Mx yAP:=mO (zS 7 xOt) 7
def yAP.z:yAP:=⟨0,0,0,noS,0,false,false⟩
structure yAH where
 Node:Int
 Cmd:ByteArray
 At:Int
 I:Int
 Own:yAp
 T:yAP
def yAH.cs(x:yAH):List V:= [V.int .i64 x.Node,V.str x.Cmd,V.int .i8 x.At,V.int .i64 x.I,V.int .i64 x.Own.Inst,V.int .i64 x.Own.Mbal,V.int .i64 x.Own.Bal,V.str x.Own.Val,V.int .i64 x.T.Inst,V.int .i64 x.T.Mbal,V.int .i64 x.T.Best,V.str x.T.Val,V.int .i64 x.T.Seen,V.bool x.T.Ahead,V.bool x.T.Lost]
def yAH.of(l:List V):yAH:=⟨asI (cell [l] 0 0),asS (cell [l] 0 1),asI (cell [l] 0 2),asI (cell [l] 0 3),⟨asI (cell [l] 0 4),asI (cell [l] 0 5),asI (cell [l] 0 6),asS (cell [l] 0 7)⟩,⟨asI (cell [l] 0 8),asI (cell [l] 0 9),asI (cell [l] 0 10),asS (cell [l] 0 11),asI (cell [l] 0 12),asB (cell [l] 0 13),asB (cell [l] 0 14)⟩⟩
def yAH.ks:List Kc:= [.i .i64,.s,.i .i8,.i .i64,.i .i64,.i .i64,.i .i64,.s,.i .i64,.i .i64,.i .i64,.s,.i .i64,.b,.b]
abbrev yAH.at(l:List (List V))(i j:Nat):yAH:=⟨aI l i (j+0),aS l i (j+1),aI l i (j+2),aI l i (j+3),⟨aI l i (j+4),aI l i (j+5),aI l i (j+6),aS l i (j+7)⟩,⟨aI l i (j+8),aI l i (j+9),aI l i (j+10),aS l i (j+11),aI l i (j+12),aB l i (j+13),aB l i (j+14)⟩⟩
theorem yAH.h(l:List V):yAH.cs (yAH.of l)=etaSeg yAH.ks [l] 0 0:=rfl
def yGv:Cd yAH:=cdA yAH.ks yAH.cs yAH.of yAH.h
def yAH.z:yAH:=⟨0,noS,0,0,⟨0,0,0,noS⟩,⟨0,0,0,noS,0,false,false⟩⟩
structure yCx where
 L:List (List V)
 I:Int
def yCx.cs(x:yCx):List V:= [V.sl x.L false,V.int .i64 x.I]
def yCx.of(l:List V):yCx:=⟨asR (cell [l] 0 0),asI (cell [l] 0 1)⟩
def yCx.ks:List Kc:= [.m,.i .i64]
abbrev yCx.at(l:List (List V))(i j:Nat):yCx:=⟨aR l i (j+0),aI l i (j+1)⟩
theorem yCx.h(l:List V):yCx.cs (yCx.of l)=etaSeg yCx.ks [l] 0 0:=rfl
def yCx.z:yCx:=⟨[],0⟩
structure yAE where
 Cells:List (List V)
 I:Int
 Left:Int
 At:Int
def yAE.cs(x:yAE):List V:= [V.sl x.Cells false,V.int .i64 x.I,V.int .i64 x.Left,V.int .i8 x.At]
def yAE.of(l:List V):yAE:=⟨asR (cell [l] 0 0),asI (cell [l] 0 1),asI (cell [l] 0 2),asI (cell [l] 0 3)⟩
def yAE.ks:List Kc:= [.m,.i .i64,.i .i64,.i .i8]
abbrev yAE.at(l:List (List V))(i j:Nat):yAE:=⟨aR l i (j+0),aI l i (j+1),aI l i (j+2),aI l i (j+3)⟩
theorem yAE.h(l:List V):yAE.cs (yAE.of l)=etaSeg yAE.ks [l] 0 0:=rfl
def yHN:Cd yAE:=cdA yAE.ks yAE.cs yAE.of yAE.h
def yAE.z:yAE:=⟨[],0,0,0⟩
structure yBx where
 Slot:Int
 Key:Int
 At:Int
 Tail:Int
 L:List (List V)
 Cells:List (List V)
 I:Int
 End:Int
def yBx.cs(x:yBx):List V:= [V.int .i64 x.Slot,V.int .i64 x.Key,V.int .i8 x.At,V.int .i64 x.Tail,V.sl x.L false,V.sl x.Cells false,V.int .i64 x.I,V.int .i64 x.End]
def yBx.of(l:List V):yBx:=⟨asI (cell [l] 0 0),asI (cell [l] 0 1),asI (cell [l] 0 2),asI (cell [l] 0 3),asR (cell [l] 0 4),asR (cell [l] 0 5),asI (cell [l] 0 6),asI (cell [l] 0 7)⟩
def yBx.ks:List Kc:= [.i .i64,.i .i64,.i .i8,.i .i64,.m,.m,.i .i64,.i .i64]
abbrev yBx.at(l:List (List V))(i j:Nat):yBx:=⟨aI l i (j+0),aI l i (j+1),aI l i (j+2),aI l i (j+3),aR l i (j+4),aR l i (j+5),aI l i (j+6),aI l i (j+7)⟩
theorem yBx.h(l:List V):yBx.cs (yBx.of l)=etaSeg yBx.ks [l] 0 0:=rfl
def yBx.z:yBx:=⟨0,0,0,0,[],[],0,0⟩
structure yCO where
 Block:Int
 K:Int
 Parts:List (List V)
def yCO.cs(x:yCO):List V:= [V.int .i64 x.Block,V.int .i64 x.K,V.sl x.Parts false]
def yCO.of(l:List V):yCO:=⟨asI (cell [l] 0 0),asI (cell [l] 0 1),asR (cell [l] 0 2)⟩
def yCO.ks:List Kc:= [.i .i64,.i .i64,.m]
abbrev yCO.at(l:List (List V))(i j:Nat):yCO:=⟨aI l i (j+0),aI l i (j+1),aR l i (j+2)⟩
theorem yCO.h(l:List V):yCO.cs (yCO.of l)=etaSeg yCO.ks [l] 0 0:=rfl
def yCO.z:yCO:=⟨0,0,[]⟩
structure yAL where
 Num:Int
 Clock:Int
 Up:Bool
 Over:Int
 Key:Int
 Asked:Int
 Count:Int
 Mounted:Bool
 Slot:Int
 Head:Int
 Tail:Int
 Table:yAG
 Done:Int
 Serial:Int
 Txn:yQE
 Pend:List (List V)
 Watch:List (List V)
 Giving:List (List V)
 GivingAll:Bool
 Busy:Bool
 Op:xB2
 At:Int
 P:yAH
 Pu:yCx
 St:yAE
 R:yBx
 F:yCO
def yAL.cs(x:yAL):List V:= [V.int .i64 x.Num,V.int .i64 x.Clock,V.bool x.Up,V.int .i64 x.Over,V.int .i64 x.Key,V.int .i64 x.Asked,V.int .i64 x.Count,V.bool x.Mounted,V.int .i64 x.Slot,V.int .i64 x.Head,V.int .i64 x.Tail,V.sl x.Table.Slots false,V.sl x.Table.Holds false,V.sl x.Table.Queue false,V.int .i64 x.Done,V.int .i64 x.Serial,V.bool x.Txn.Open,V.sl x.Txn.Writes false,V.sl x.Pend false,V.sl x.Watch false,V.sl x.Giving false,V.bool x.GivingAll,V.bool x.Busy,V.int .i8 x.Op.Kind,V.int .i64 x.Op.Span.Lo,V.int .i64 x.Op.Span.Hi,V.int .i8 x.Op.Mode,V.int .i64 x.Op.Block,V.str x.Op.Text,V.int .i64 x.Op.Node,V.int .i64 x.Op.Key,V.int .i8 x.At,V.int .i64 x.P.Node,V.str x.P.Cmd,V.int .i8 x.P.At,V.int .i64 x.P.I,V.int .i64 x.P.Own.Inst,V.int .i64 x.P.Own.Mbal,V.int .i64 x.P.Own.Bal,V.str x.P.Own.Val,V.int .i64 x.P.T.Inst,V.int .i64 x.P.T.Mbal,V.int .i64 x.P.T.Best,V.str x.P.T.Val,V.int .i64 x.P.T.Seen,V.bool x.P.T.Ahead,V.bool x.P.T.Lost,V.sl x.Pu.L false,V.int .i64 x.Pu.I,V.sl x.St.Cells false,V.int .i64 x.St.I,V.int .i64 x.St.Left,V.int .i8 x.St.At,V.int .i64 x.R.Slot,V.int .i64 x.R.Key,V.int .i8 x.R.At,V.int .i64 x.R.Tail,V.sl x.R.L false,V.sl x.R.Cells false,V.int .i64 x.R.I,V.int .i64 x.R.End,V.int .i64 x.F.Block,V.int .i64 x.F.K,V.sl x.F.Parts false]
def yAL.of(l:List V):yAL:=⟨asI (cell [l] 0 0),asI (cell [l] 0 1),asB (cell [l] 0 2),asI (cell [l] 0 3),asI (cell [l] 0 4),asI (cell [l] 0 5),asI (cell [l] 0 6),asB (cell [l] 0 7),asI (cell [l] 0 8),asI (cell [l] 0 9),asI (cell [l] 0 10),⟨asR (cell [l] 0 11),asR (cell [l] 0 12),asR (cell [l] 0 13)⟩,asI (cell [l] 0 14),asI (cell [l] 0 15),⟨asB (cell [l] 0 16),asR (cell [l] 0 17)⟩,asR (cell [l] 0 18),asR (cell [l] 0 19),asR (cell [l] 0 20),asB (cell [l] 0 21),asB (cell [l] 0 22),⟨asI (cell [l] 0 23),⟨asI (cell [l] 0 24),asI (cell [l] 0 25)⟩,asI (cell [l] 0 26),asI (cell [l] 0 27),asS (cell [l] 0 28),asI (cell [l] 0 29),asI (cell [l] 0 30)⟩,asI (cell [l] 0 31),⟨asI (cell [l] 0 32),asS (cell [l] 0 33),asI (cell [l] 0 34),asI (cell [l] 0 35),⟨asI (cell [l] 0 36),asI (cell [l] 0 37),asI (cell [l] 0 38),asS (cell [l] 0 39)⟩,⟨asI (cell [l] 0 40),asI (cell [l] 0 41),asI (cell [l] 0 42),asS (cell [l] 0 43),asI (cell [l] 0 44),asB (cell [l] 0 45),asB (cell [l] 0 46)⟩⟩,⟨asR (cell [l] 0 47),asI (cell [l] 0 48)⟩,⟨asR (cell [l] 0 49),asI (cell [l] 0 50),asI (cell [l] 0 51),asI (cell [l] 0 52)⟩,⟨asI (cell [l] 0 53),asI (cell [l] 0 54),asI (cell [l] 0 55),asI (cell [l] 0 56),asR (cell [l] 0 57),asR (cell [l] 0 58),asI (cell [l] 0 59),asI (cell [l] 0 60)⟩,⟨asI (cell [l] 0 61),asI (cell [l] 0 62),asR (cell [l] 0 63)⟩⟩
def yAL.ks:List Kc:= [.i .i64,.i .i64,.b,.i .i64,.i .i64,.i .i64,.i .i64,.b,.i .i64,.i .i64,.i .i64,.m,.m,.m,.i .i64,.i .i64,.b,.m,.m,.m,.m,.b,.b,.i .i8,.i .i64,.i .i64,.i .i8,.i .i64,.s,.i .i64,.i .i64,.i .i8,.i .i64,.s,.i .i8,.i .i64,.i .i64,.i .i64,.i .i64,.s,.i .i64,.i .i64,.i .i64,.s,.i .i64,.b,.b,.m,.i .i64,.m,.i .i64,.i .i64,.i .i8,.i .i64,.i .i64,.i .i8,.i .i64,.m,.m,.i .i64,.i .i64,.i .i64,.i .i64,.m]
abbrev xI3:List Kc:= [.i .i64,.i .i64,.b,.i .i64,.i .i64,.i .i64,.i .i64,.b,.i .i64,.i .i64,.i .i64,.l,.l,.l,.i .i64,.i .i64,.b,.l,.l,.l,.l,.b,.b,.i .i8,.i .i64,.i .i64,.i .i8,.i .i64,.s,.i .i64,.i .i64,.i .i8,.i .i64,.s,.i .i8,.i .i64,.i .i64,.i .i64,.i .i64,.s,.i .i64,.i .i64,.i .i64,.s,.i .i64,.b,.b,.l,.i .i64,.l,.i .i64,.i .i64,.i .i8,.i .i64,.i .i64,.i .i8,.i .i64,.l,.l,.i .i64,.i .i64,.i .i64,.i .i64,.l]
abbrev yAL.at(l:List (List V))(i j:Nat):yAL:=⟨aI l i (j+0),aI l i (j+1),aB l i (j+2),aI l i (j+3),aI l i (j+4),aI l i (j+5),aI l i (j+6),aB l i (j+7),aI l i (j+8),aI l i (j+9),aI l i (j+10),⟨aR l i (j+11),aR l i (j+12),aR l i (j+13)⟩,aI l i (j+14),aI l i (j+15),⟨aB l i (j+16),aR l i (j+17)⟩,aR l i (j+18),aR l i (j+19),aR l i (j+20),aB l i (j+21),aB l i (j+22),⟨aI l i (j+23),⟨aI l i (j+24),aI l i (j+25)⟩,aI l i (j+26),aI l i (j+27),aS l i (j+28),aI l i (j+29),aI l i (j+30)⟩,aI l i (j+31),⟨aI l i (j+32),aS l i (j+33),aI l i (j+34),aI l i (j+35),⟨aI l i (j+36),aI l i (j+37),aI l i (j+38),aS l i (j+39)⟩,⟨aI l i (j+40),aI l i (j+41),aI l i (j+42),aS l i (j+43),aI l i (j+44),aB l i (j+45),aB l i (j+46)⟩⟩,⟨aR l i (j+47),aI l i (j+48)⟩,⟨aR l i (j+49),aI l i (j+50),aI l i (j+51),aI l i (j+52)⟩,⟨aI l i (j+53),aI l i (j+54),aI l i (j+55),aI l i (j+56),aR l i (j+57),aR l i (j+58),aI l i (j+59),aI l i (j+60)⟩,⟨aI l i (j+61),aI l i (j+62),aR l i (j+63)⟩⟩
theorem yAL.h(l:List V):yAL.cs (yAL.of l)=etaSeg yAL.ks [l] 0 0:=rfl
def yDS:Cd yAL:=cdA yAL.ks yAL.cs yAL.of yAL.h
abbrev xQu:Ca yAL:=caA yAL.ks yAL.cs yAL.of yAL.h
abbrev yNp:Mx yAL:=mO (zS 64 xQu) 64
def yAL.z:yAL:=⟨0,0,false,0,0,0,0,false,0,0,0,⟨[],[],[]⟩,0,0,⟨false,[]⟩,[],[],[],false,false,⟨0,⟨0,0⟩,0,0,noS,0,0⟩,0,⟨0,noS,0,0,⟨0,0,0,noS⟩,⟨0,0,0,noS,0,false,false⟩⟩,⟨[],0⟩,⟨[],0,0,0⟩,⟨0,0,0,0,[],[],0,0⟩,⟨0,0,[]⟩⟩
structure yAx where
 Node:Int
 Do:Int
def yAx.cs(x:yAx):List V:= [V.int .i64 x.Node,V.int .i8 x.Do]
def yAx.of(l:List V):yAx:=⟨asI (cell [l] 0 0),asI (cell [l] 0 1)⟩
def yAx.ks:List Kc:= [.i .i64,.i .i8]
abbrev yAx.at(l:List (List V))(i j:Nat):yAx:=⟨aI l i (j+0),aI l i (j+1)⟩
theorem yAx.h(l:List V):yAx.cs (yAx.of l)=etaSeg yAx.ks [l] 0 0:=rfl
def yAx.z:yAx:=⟨0,0⟩
structure yAC where
 E:Int
 Text:ByteArray
 Yes:Bool
def yAC.cs(x:yAC):List V:= [V.int .i64 x.E,V.str x.Text,V.bool x.Yes]
def yAC.of(l:List V):yAC:=⟨asI (cell [l] 0 0),asS (cell [l] 0 1),asB (cell [l] 0 2)⟩
def yAC.ks:List Kc:= [.i .i64,.s,.b]
abbrev yAC.at(l:List (List V))(i j:Nat):yAC:=⟨aI l i (j+0),aS l i (j+1),aB l i (j+2)⟩
theorem yAC.h(l:List V):yAC.cs (yAC.of l)=etaSeg yAC.ks [l] 0 0:=rfl
def yKr:Cd yAC:=cdA yAC.ks yAC.cs yAC.of yAC.h
abbrev xMc:Ca yAC:=caA yAC.ks yAC.cs yAC.of yAC.h
abbrev yHX:Mx yAC:=mO (zS 3 xMc) 3
def yAC.z:yAC:=⟨0,noS,false⟩
structure yAV where
 Kind:Int
 Sector:Int
 B:ByteArray
 Key:Int
def yAV.cs(x:yAV):List V:= [V.int .i8 x.Kind,V.int .i64 x.Sector,V.str x.B,V.int .i64 x.Key]
def yAV.of(l:List V):yAV:=⟨asI (cell [l] 0 0),asI (cell [l] 0 1),asS (cell [l] 0 2),asI (cell [l] 0 3)⟩
def yAV.ks:List Kc:= [.i .i8,.i .i64,.s,.i .i64]
abbrev yAV.at(l:List (List V))(i j:Nat):yAV:=⟨aI l i (j+0),aI l i (j+1),aS l i (j+2),aI l i (j+3)⟩
theorem yAV.h(l:List V):yAV.cs (yAV.of l)=etaSeg yAV.ks [l] 0 0:=rfl
def yKq:Cd yAV:=cdA yAV.ks yAV.cs yAV.of yAV.h
abbrev xSC:Ca yAV:=caA yAV.ks yAV.cs yAV.of yAV.h
abbrev yKB:Mx yAV:=mO (zS 4 xSC) 4
def yAV.z:yAV:=⟨0,0,noS,0⟩
structure yAc where
 Kind:Int
 By:Int
 Serial:Int
 Dead:Int
 Was:Int
 Span:yAr
 Mode:Int
def yAc.cs(x:yAc):List V:= [V.int .i8 x.Kind,V.int .i64 x.By,V.int .i64 x.Serial,V.int .i64 x.Dead,V.int .i64 x.Was,V.int .i64 x.Span.Lo,V.int .i64 x.Span.Hi,V.int .i8 x.Mode]
def yAc.of(l:List V):yAc:=⟨asI (cell [l] 0 0),asI (cell [l] 0 1),asI (cell [l] 0 2),asI (cell [l] 0 3),asI (cell [l] 0 4),⟨asI (cell [l] 0 5),asI (cell [l] 0 6)⟩,asI (cell [l] 0 7)⟩
def yAc.ks:List Kc:= [.i .i8,.i .i64,.i .i64,.i .i64,.i .i64,.i .i64,.i .i64,.i .i8]
abbrev yAc.at(l:List (List V))(i j:Nat):yAc:=⟨aI l i (j+0),aI l i (j+1),aI l i (j+2),aI l i (j+3),aI l i (j+4),⟨aI l i (j+5),aI l i (j+6)⟩,aI l i (j+7)⟩
theorem yAc.h(l:List V):yAc.cs (yAc.of l)=etaSeg yAc.ks [l] 0 0:=rfl
def yJ5:Cd yAc:=cdA yAc.ks yAc.cs yAc.of yAc.h
abbrev xGI:Ca yAc:=caA yAc.ks yAc.cs yAc.of yAc.h
abbrev xNO:Mx yAc:=mO (zS 8 xGI) 8
def yAc.z:yAc:=⟨0,0,0,0,0,⟨0,0⟩,0⟩
structure yCw where
 Sector:Int
 B:ByteArray
def yCw.cs(x:yCw):List V:= [V.int .i64 x.Sector,V.str x.B]
def yCw.of(l:List V):yCw:=⟨asI (cell [l] 0 0),asS (cell [l] 0 1)⟩
def yCw.ks:List Kc:= [.i .i64,.s]
abbrev yCw.at(l:List (List V))(i j:Nat):yCw:=⟨aI l i (j+0),aS l i (j+1)⟩
theorem yCw.h(l:List V):yCw.cs (yCw.of l)=etaSeg yCw.ks [l] 0 0:=rfl
def yCw.z:yCw:=⟨0,noS⟩
structure yJ0 where
 Key:Int
 Claim:Int
def yJ0.cs(x:yJ0):List V:= [V.int .i64 x.Key,V.int .i64 x.Claim]
def yJ0.of(l:List V):yJ0:=⟨asI (cell [l] 0 0),asI (cell [l] 0 1)⟩
def yJ0.ks:List Kc:= [.i .i64,.i .i64]
abbrev yJ0.at(l:List (List V))(i j:Nat):yJ0:=⟨aI l i (j+0),aI l i (j+1)⟩
theorem yJ0.h(l:List V):yJ0.cs (yJ0.of l)=etaSeg yJ0.ks [l] 0 0:=rfl
def xQx:Cd yJ0:=cdA yJ0.ks yJ0.cs yJ0.of yJ0.h
def yJ0.z:yJ0:=⟨0,0⟩
structure yEm where
 N:Int
 Text:ByteArray
def yEm.cs(x:yEm):List V:= [V.int .i64 x.N,V.str x.Text]
def yEm.of(l:List V):yEm:=⟨asI (cell [l] 0 0),asS (cell [l] 0 1)⟩
def yEm.ks:List Kc:= [.i .i64,.s]
abbrev yEm.at(l:List (List V))(i j:Nat):yEm:=⟨aI l i (j+0),aS l i (j+1)⟩
theorem yEm.h(l:List V):yEm.cs (yEm.of l)=etaSeg yEm.ks [l] 0 0:=rfl
abbrev xOr:Ca yEm:=caA yEm.ks yEm.cs yEm.of yEm.h
abbrev xPF:Mx yEm:=mO (zS 2 xOr) 2
def yEm.z:yEm:=⟨0,noS⟩
structure yJo where
 Key:Int
 Count:Int
 Since:Int
 Looked:Bool
def yJo.cs(x:yJo):List V:= [V.int .i64 x.Key,V.int .i64 x.Count,V.int .i64 x.Since,V.bool x.Looked]
def yJo.of(l:List V):yJo:=⟨asI (cell [l] 0 0),asI (cell [l] 0 1),asI (cell [l] 0 2),asB (cell [l] 0 3)⟩
def yJo.ks:List Kc:= [.i .i64,.i .i64,.i .i64,.b]
abbrev yJo.at(l:List (List V))(i j:Nat):yJo:=⟨aI l i (j+0),aI l i (j+1),aI l i (j+2),aB l i (j+3)⟩
theorem yJo.h(l:List V):yJo.cs (yJo.of l)=etaSeg yJo.ks [l] 0 0:=rfl
def yJo.z:yJo:=⟨0,0,0,false⟩
structure yAQ where
 Prop_:yAH
 g_:yAJ
 t_:yAG
 done_:Int
 over_:Bool
def yAQ.cs(x:yAQ):List V:= [V.int .i64 x.Prop_.Node,V.str x.Prop_.Cmd,V.int .i8 x.Prop_.At,V.int .i64 x.Prop_.I,V.int .i64 x.Prop_.Own.Inst,V.int .i64 x.Prop_.Own.Mbal,V.int .i64 x.Prop_.Own.Bal,V.str x.Prop_.Own.Val,V.int .i64 x.Prop_.T.Inst,V.int .i64 x.Prop_.T.Mbal,V.int .i64 x.Prop_.T.Best,V.str x.Prop_.T.Val,V.int .i64 x.Prop_.T.Seen,V.bool x.Prop_.T.Ahead,V.bool x.Prop_.T.Lost,V.int .i64 x.g_.Nodes,V.int .i64 x.g_.Slots,V.int .i64 x.g_.Blocks,V.int .i64 x.g_.Per,V.int .i64 x.g_.Journal,V.int .i64 x.g_.Log,V.int .i64 x.g_.Lease,V.int .i64 x.g_.Wait,V.sl x.t_.Slots false,V.sl x.t_.Holds false,V.sl x.t_.Queue false,V.int .i64 x.done_,V.bool x.over_]
def yAQ.of(l:List V):yAQ:=⟨⟨asI (cell [l] 0 0),asS (cell [l] 0 1),asI (cell [l] 0 2),asI (cell [l] 0 3),⟨asI (cell [l] 0 4),asI (cell [l] 0 5),asI (cell [l] 0 6),asS (cell [l] 0 7)⟩,⟨asI (cell [l] 0 8),asI (cell [l] 0 9),asI (cell [l] 0 10),asS (cell [l] 0 11),asI (cell [l] 0 12),asB (cell [l] 0 13),asB (cell [l] 0 14)⟩⟩,⟨asI (cell [l] 0 15),asI (cell [l] 0 16),asI (cell [l] 0 17),asI (cell [l] 0 18),asI (cell [l] 0 19),asI (cell [l] 0 20),asI (cell [l] 0 21),asI (cell [l] 0 22)⟩,⟨asR (cell [l] 0 23),asR (cell [l] 0 24),asR (cell [l] 0 25)⟩,asI (cell [l] 0 26),asB (cell [l] 0 27)⟩
def yAQ.ks:List Kc:= [.i .i64,.s,.i .i8,.i .i64,.i .i64,.i .i64,.i .i64,.s,.i .i64,.i .i64,.i .i64,.s,.i .i64,.b,.b,.i .i64,.i .i64,.i .i64,.i .i64,.i .i64,.i .i64,.i .i64,.i .i64,.m,.m,.m,.i .i64,.b]
abbrev yAQ.at(l:List (List V))(i j:Nat):yAQ:=⟨⟨aI l i (j+0),aS l i (j+1),aI l i (j+2),aI l i (j+3),⟨aI l i (j+4),aI l i (j+5),aI l i (j+6),aS l i (j+7)⟩,⟨aI l i (j+8),aI l i (j+9),aI l i (j+10),aS l i (j+11),aI l i (j+12),aB l i (j+13),aB l i (j+14)⟩⟩,⟨aI l i (j+15),aI l i (j+16),aI l i (j+17),aI l i (j+18),aI l i (j+19),aI l i (j+20),aI l i (j+21),aI l i (j+22)⟩,⟨aR l i (j+23),aR l i (j+24),aR l i (j+25)⟩,aI l i (j+26),aB l i (j+27)⟩
theorem yAQ.h(l:List V):yAQ.cs (yAQ.of l)=etaSeg yAQ.ks [l] 0 0:=rfl
abbrev yHL:Ca yAQ:=caA yAQ.ks yAQ.cs yAQ.of yAQ.h
def yAQ.z:yAQ:=⟨⟨0,noS,0,0,⟨0,0,0,noS⟩,⟨0,0,0,noS,0,false,false⟩⟩,⟨0,0,0,0,0,0,0,0⟩,⟨[],[],[]⟩,0,false⟩
structure yAe where
 Settling:yAE
 sector_:Int
 header_:ByteArray
def yAe.cs(x:yAe):List V:= [V.sl x.Settling.Cells false,V.int .i64 x.Settling.I,V.int .i64 x.Settling.Left,V.int .i8 x.Settling.At,V.int .i64 x.sector_,V.str x.header_]
def yAe.of(l:List V):yAe:=⟨⟨asR (cell [l] 0 0),asI (cell [l] 0 1),asI (cell [l] 0 2),asI (cell [l] 0 3)⟩,asI (cell [l] 0 4),asS (cell [l] 0 5)⟩
def yAe.ks:List Kc:= [.m,.i .i64,.i .i64,.i .i8,.i .i64,.s]
abbrev yAe.at(l:List (List V))(i j:Nat):yAe:=⟨⟨aR l i (j+0),aI l i (j+1),aI l i (j+2),aI l i (j+3)⟩,aI l i (j+4),aS l i (j+5)⟩
theorem yAe.h(l:List V):yAe.cs (yAe.of l)=etaSeg yAe.ks [l] 0 0:=rfl
abbrev ySp:Ca yAe:=caA yAe.ks yAe.cs yAe.of yAe.h
def yAe.z:yAe:=⟨⟨[],0,0,0⟩,0,noS⟩
structure yAd where
 Key:Int
 Span:yAr
 Mode:Int
def yAd.cs(x:yAd):List V:= [V.int .i64 x.Key,V.int .i64 x.Span.Lo,V.int .i64 x.Span.Hi,V.int .i8 x.Mode]
def yAd.of(l:List V):yAd:=⟨asI (cell [l] 0 0),⟨asI (cell [l] 0 1),asI (cell [l] 0 2)⟩,asI (cell [l] 0 3)⟩
def yAd.ks:List Kc:= [.i .i64,.i .i64,.i .i64,.i .i8]
abbrev yAd.at(l:List (List V))(i j:Nat):yAd:=⟨aI l i (j+0),⟨aI l i (j+1),aI l i (j+2)⟩,aI l i (j+3)⟩
theorem yAd.h(l:List V):yAd.cs (yAd.of l)=etaSeg yAd.ks [l] 0 0:=rfl
def yVF:Cd yAd:=cdA yAd.ks yAd.cs yAd.of yAd.h
abbrev xAO:Ca yAd:=caA yAd.ks yAd.cs yAd.of yAd.h
abbrev xI9:Mx yAd:=mO (zS 4 xAO) 4
def yAd.z:yAd:=⟨0,⟨0,0⟩,0⟩
structure yAs where
 first_:Int
 many_:Int
def yAs.cs(x:yAs):List V:= [V.int .i64 x.first_,V.int .i64 x.many_]
def yAs.of(l:List V):yAs:=⟨asI (cell [l] 0 0),asI (cell [l] 0 1)⟩
def yAs.ks:List Kc:= [.i .i64,.i .i64]
abbrev yAs.at(l:List (List V))(i j:Nat):yAs:=⟨aI l i (j+0),aI l i (j+1)⟩
theorem yAs.h(l:List V):yAs.cs (yAs.of l)=etaSeg yAs.ks [l] 0 0:=rfl
def xB9:Cd yAs:=cdA yAs.ks yAs.cs yAs.of yAs.h
def yAs.z:yAs:=⟨0,0⟩
structure yAK where
 stretch_:yAs
 kind_:Int
 per_:Int
def yAK.cs(x:yAK):List V:= [V.int .i64 x.stretch_.first_,V.int .i64 x.stretch_.many_,V.int .i8 x.kind_,V.int .i64 x.per_]
def yAK.of(l:List V):yAK:=⟨⟨asI (cell [l] 0 0),asI (cell [l] 0 1)⟩,asI (cell [l] 0 2),asI (cell [l] 0 3)⟩
def yAK.ks:List Kc:= [.i .i64,.i .i64,.i .i8,.i .i64]
abbrev yAK.at(l:List (List V))(i j:Nat):yAK:=⟨⟨aI l i (j+0),aI l i (j+1)⟩,aI l i (j+2),aI l i (j+3)⟩
theorem yAK.h(l:List V):yAK.cs (yAK.of l)=etaSeg yAK.ks [l] 0 0:=rfl
def xD1:Cd yAK:=cdA yAK.ks yAK.cs yAK.of yAK.h
abbrev xD0:Ca yAK:=caA yAK.ks yAK.cs yAK.of yAK.h
abbrev yRm:Mx yAK:=mO (zS 4 xD0) 4
def yAK.z:yAK:=⟨⟨0,0⟩,0,0⟩
structure yAm where
 Cmd:yAc
 b_:List (List V)
def yAm.cs(x:yAm):List V:= [V.int .i8 x.Cmd.Kind,V.int .i64 x.Cmd.By,V.int .i64 x.Cmd.Serial,V.int .i64 x.Cmd.Dead,V.int .i64 x.Cmd.Was,V.int .i64 x.Cmd.Span.Lo,V.int .i64 x.Cmd.Span.Hi,V.int .i8 x.Cmd.Mode,V.sl x.b_ false]
def yAm.of(l:List V):yAm:=⟨⟨asI (cell [l] 0 0),asI (cell [l] 0 1),asI (cell [l] 0 2),asI (cell [l] 0 3),asI (cell [l] 0 4),⟨asI (cell [l] 0 5),asI (cell [l] 0 6)⟩,asI (cell [l] 0 7)⟩,asR (cell [l] 0 8)⟩
def yAm.ks:List Kc:= [.i .i8,.i .i64,.i .i64,.i .i64,.i .i64,.i .i64,.i .i64,.i .i8,.m]
abbrev yAm.at(l:List (List V))(i j:Nat):yAm:=⟨⟨aI l i (j+0),aI l i (j+1),aI l i (j+2),aI l i (j+3),aI l i (j+4),⟨aI l i (j+5),aI l i (j+6)⟩,aI l i (j+7)⟩,aR l i (j+8)⟩
theorem yAm.h(l:List V):yAm.cs (yAm.of l)=etaSeg yAm.ks [l] 0 0:=rfl
abbrev yY3:Ca yAm:=caA yAm.ks yAm.cs yAm.of yAm.h
def yAm.z:yAm:=⟨⟨0,0,0,0,0,⟨0,0⟩,0⟩,[]⟩
structure yF8 where
 Key:Int
 Lsn:Int
 Block:Int
 K:Int
 Text:ByteArray
 Count:Int
def yF8.cs(x:yF8):List V:= [V.int .i64 x.Key,V.int .i64 x.Lsn,V.int .i64 x.Block,V.int .i64 x.K,V.str x.Text,V.int .i64 x.Count]
def yF8.of(l:List V):yF8:=⟨asI (cell [l] 0 0),asI (cell [l] 0 1),asI (cell [l] 0 2),asI (cell [l] 0 3),asS (cell [l] 0 4),asI (cell [l] 0 5)⟩
def yF8.ks:List Kc:= [.i .i64,.i .i64,.i .i64,.i .i64,.s,.i .i64]
abbrev yF8.at(l:List (List V))(i j:Nat):yF8:=⟨aI l i (j+0),aI l i (j+1),aI l i (j+2),aI l i (j+3),aS l i (j+4),aI l i (j+5)⟩
theorem yF8.h(l:List V):yF8.cs (yF8.of l)=etaSeg yF8.ks [l] 0 0:=rfl
def yF8.z:yF8:=⟨0,0,0,0,noS,0⟩
structure yA5 where
 Geo:yAJ
def yA5.cs(x:yA5):List V:= [V.int .i64 x.Geo.Nodes,V.int .i64 x.Geo.Slots,V.int .i64 x.Geo.Blocks,V.int .i64 x.Geo.Per,V.int .i64 x.Geo.Journal,V.int .i64 x.Geo.Log,V.int .i64 x.Geo.Lease,V.int .i64 x.Geo.Wait]
def yA5.of(l:List V):yA5:=⟨⟨asI (cell [l] 0 0),asI (cell [l] 0 1),asI (cell [l] 0 2),asI (cell [l] 0 3),asI (cell [l] 0 4),asI (cell [l] 0 5),asI (cell [l] 0 6),asI (cell [l] 0 7)⟩⟩
def yA5.ks:List Kc:= [.i .i64,.i .i64,.i .i64,.i .i64,.i .i64,.i .i64,.i .i64,.i .i64]
abbrev yA5.at(l:List (List V))(i j:Nat):yA5:=⟨⟨aI l i (j+0),aI l i (j+1),aI l i (j+2),aI l i (j+3),aI l i (j+4),aI l i (j+5),aI l i (j+6),aI l i (j+7)⟩⟩
theorem yA5.h(l:List V):yA5.cs (yA5.of l)=etaSeg yA5.ks [l] 0 0:=rfl
abbrev xB8:Ca yA5:=caA yA5.ks yA5.cs yA5.of yA5.h
def yA5.z:yA5:=⟨⟨0,0,0,0,0,0,0,0⟩⟩
structure yB8 where
 l_:List (List V)
def yB8.cs(x:yB8):List V:= [V.sl x.l_ false]
def yB8.of(l:List V):yB8:=⟨asR (cell [l] 0 0)⟩
def yB8.ks:List Kc:= [.m]
abbrev yB8.at(l:List (List V))(i j:Nat):yB8:=⟨aR l i (j+0)⟩
theorem yB8.h(l:List V):yB8.cs (yB8.of l)=etaSeg yB8.ks [l] 0 0:=rfl
def yB8.z:yB8:=⟨[]⟩
structure yAt where
 row_:yB8
 g_:yAJ
def yAt.cs(x:yAt):List V:= [V.sl x.row_.l_ false,V.int .i64 x.g_.Nodes,V.int .i64 x.g_.Slots,V.int .i64 x.g_.Blocks,V.int .i64 x.g_.Per,V.int .i64 x.g_.Journal,V.int .i64 x.g_.Log,V.int .i64 x.g_.Lease,V.int .i64 x.g_.Wait]
def yAt.of(l:List V):yAt:=⟨⟨asR (cell [l] 0 0)⟩,⟨asI (cell [l] 0 1),asI (cell [l] 0 2),asI (cell [l] 0 3),asI (cell [l] 0 4),asI (cell [l] 0 5),asI (cell [l] 0 6),asI (cell [l] 0 7),asI (cell [l] 0 8)⟩⟩
def yAt.ks:List Kc:= [.m,.i .i64,.i .i64,.i .i64,.i .i64,.i .i64,.i .i64,.i .i64,.i .i64]
abbrev yAt.at(l:List (List V))(i j:Nat):yAt:=⟨⟨aR l i (j+0)⟩,⟨aI l i (j+1),aI l i (j+2),aI l i (j+3),aI l i (j+4),aI l i (j+5),aI l i (j+6),aI l i (j+7),aI l i (j+8)⟩⟩
theorem yAt.h(l:List V):yAt.cs (yAt.of l)=etaSeg yAt.ks [l] 0 0:=rfl
abbrev yTF:Ca yAt:=caA yAt.ks yAt.cs yAt.of yAt.h
def yAt.z:yAt:=⟨⟨[]⟩,⟨0,0,0,0,0,0,0,0⟩⟩
structure yAX where
 Rec:yAp
def yAX.cs(x:yAX):List V:= [V.int .i64 x.Rec.Inst,V.int .i64 x.Rec.Mbal,V.int .i64 x.Rec.Bal,V.str x.Rec.Val]
def yAX.of(l:List V):yAX:=⟨⟨asI (cell [l] 0 0),asI (cell [l] 0 1),asI (cell [l] 0 2),asS (cell [l] 0 3)⟩⟩
def yAX.ks:List Kc:= [.i .i64,.i .i64,.i .i64,.s]
abbrev yAX.at(l:List (List V))(i j:Nat):yAX:=⟨⟨aI l i (j+0),aI l i (j+1),aI l i (j+2),aS l i (j+3)⟩⟩
theorem yAX.h(l:List V):yAX.cs (yAX.of l)=etaSeg yAX.ks [l] 0 0:=rfl
abbrev yNc:Ca yAX:=caA yAX.ks yAX.cs yAX.of yAX.h
def yAX.z:yAX:=⟨⟨0,0,0,noS⟩⟩
structure yAR where
 Tally:yAP
def yAR.cs(x:yAR):List V:= [V.int .i64 x.Tally.Inst,V.int .i64 x.Tally.Mbal,V.int .i64 x.Tally.Best,V.str x.Tally.Val,V.int .i64 x.Tally.Seen,V.bool x.Tally.Ahead,V.bool x.Tally.Lost]
def yAR.of(l:List V):yAR:=⟨⟨asI (cell [l] 0 0),asI (cell [l] 0 1),asI (cell [l] 0 2),asS (cell [l] 0 3),asI (cell [l] 0 4),asB (cell [l] 0 5),asB (cell [l] 0 6)⟩⟩
def yAR.ks:List Kc:= [.i .i64,.i .i64,.i .i64,.s,.i .i64,.b,.b]
abbrev yAR.at(l:List (List V))(i j:Nat):yAR:=⟨⟨aI l i (j+0),aI l i (j+1),aI l i (j+2),aS l i (j+3),aI l i (j+4),aB l i (j+5),aB l i (j+6)⟩⟩
theorem yAR.h(l:List V):yAR.cs (yAR.of l)=etaSeg yAR.ks [l] 0 0:=rfl
abbrev yTG:Ca yAR:=caA yAR.ks yAR.cs yAR.of yAR.h
abbrev yTT:Mx yAR:=mR (zS 7 yTG) 7
def yAR.z:yAR:=⟨⟨0,0,0,noS,0,false,false⟩⟩
structure yAo where
 Table:yAG
 g_:yAJ
def yAo.cs(x:yAo):List V:= [V.sl x.Table.Slots false,V.sl x.Table.Holds false,V.sl x.Table.Queue false,V.int .i64 x.g_.Nodes,V.int .i64 x.g_.Slots,V.int .i64 x.g_.Blocks,V.int .i64 x.g_.Per,V.int .i64 x.g_.Journal,V.int .i64 x.g_.Log,V.int .i64 x.g_.Lease,V.int .i64 x.g_.Wait]
def yAo.of(l:List V):yAo:=⟨⟨asR (cell [l] 0 0),asR (cell [l] 0 1),asR (cell [l] 0 2)⟩,⟨asI (cell [l] 0 3),asI (cell [l] 0 4),asI (cell [l] 0 5),asI (cell [l] 0 6),asI (cell [l] 0 7),asI (cell [l] 0 8),asI (cell [l] 0 9),asI (cell [l] 0 10)⟩⟩
def yAo.ks:List Kc:= [.m,.m,.m,.i .i64,.i .i64,.i .i64,.i .i64,.i .i64,.i .i64,.i .i64,.i .i64]
abbrev yAo.at(l:List (List V))(i j:Nat):yAo:=⟨⟨aR l i (j+0),aR l i (j+1),aR l i (j+2)⟩,⟨aI l i (j+3),aI l i (j+4),aI l i (j+5),aI l i (j+6),aI l i (j+7),aI l i (j+8),aI l i (j+9),aI l i (j+10)⟩⟩
theorem yAo.h(l:List V):yAo.cs (yAo.of l)=etaSeg yAo.ks [l] 0 0:=rfl
abbrev yOM:Ca yAo:=caA yAo.ks yAo.cs yAo.of yAo.h
def yAo.z:yAo:=⟨⟨[],[],[]⟩,⟨0,0,0,0,0,0,0,0⟩⟩
structure yAg where
 Span:yAr
def yAg.cs(x:yAg):List V:= [V.int .i64 x.Span.Lo,V.int .i64 x.Span.Hi]
def yAg.of(l:List V):yAg:=⟨⟨asI (cell [l] 0 0),asI (cell [l] 0 1)⟩⟩
def yAg.ks:List Kc:= [.i .i64,.i .i64]
abbrev yAg.at(l:List (List V))(i j:Nat):yAg:=⟨⟨aI l i (j+0),aI l i (j+1)⟩⟩
theorem yAg.h(l:List V):yAg.cs (yAg.of l)=etaSeg yAg.ks [l] 0 0:=rfl
def yQI:Cd yAg:=cdA yAg.ks yAg.cs yAg.of yAg.h
def yAg.z:yAg:=⟨⟨0,0⟩⟩
structure yBX where
 blocks_:yAg
 key_:Int
 mode_:Int
def yBX.cs(x:yBX):List V:= [V.int .i64 x.blocks_.Span.Lo,V.int .i64 x.blocks_.Span.Hi,V.int .i64 x.key_,V.int .i8 x.mode_]
def yBX.of(l:List V):yBX:=⟨⟨⟨asI (cell [l] 0 0),asI (cell [l] 0 1)⟩⟩,asI (cell [l] 0 2),asI (cell [l] 0 3)⟩
def yBX.ks:List Kc:= [.i .i64,.i .i64,.i .i64,.i .i8]
abbrev yBX.at(l:List (List V))(i j:Nat):yBX:=⟨⟨⟨aI l i (j+0),aI l i (j+1)⟩⟩,aI l i (j+2),aI l i (j+3)⟩
theorem yBX.h(l:List V):yBX.cs (yBX.of l)=etaSeg yBX.ks [l] 0 0:=rfl
def yYV:Cd yBX:=cdA yBX.ks yBX.cs yBX.of yBX.h
def yBX.z:yBX:=⟨⟨⟨0,0⟩⟩,0,0⟩
def xLS(a:Int):Bool:=decide (-9223372036854775808<=a)&&decide (a<=9223372036854775807)
theorem xSQ{a:Int}(h:xLS a=true): -9223372036854775808<=a/\a<=9223372036854775807:=by
 obtain⟨h1,h2⟩:=yBE h
 exact⟨of_decide_eq_true h1,of_decide_eq_true h2⟩
def xOd(r:List V):Int:=asI (r.headD .undef)
def xMZ(r:List V):UInt8:=UInt8.ofNat (xOd r).toNat
def inRB(r:List V):Bool:=match r with
 | [.int .i64 _]=>true
 | _=>false
def byRB(r:List V):Bool:=match r with
 | [.int .u8 n]=>decide (0<=n)&&decide (n<256)
 | _=>false
theorem xSR{r:List V}(h:inRB r=true):inV (xOd r)=r:=by
 unfold inRB at h;split at h
 ·rfl
 ·cases h
theorem xP9{r:List V}(h:byRB r=true):byV (xMZ r)=r:=by
 unfold byRB at h;split at h
 ·rename_i n
  obtain⟨h1,h2⟩:=yBE h
  have h1:=of_decide_eq_true h1
  have h2:=of_decide_eq_true h2
  show [V.int .u8 ((UInt8.ofNat n.toNat).toNat:Int)]=_
  have:(UInt8.ofNat n.toNat).toNat=n.toNat:=by
   rw[UInt8.toNat_ofNat'];omega
  rw[this,Int.toNat_of_nonneg h1]
 ·cases h
theorem xNv{α:Type}{enc:α->List V}{d:List V->α}{b:List V->Bool}(hb:∀r,b r=true->enc (d r)=r){rs:List (List V)}(h:rs.all b=true):(rs.map d).map enc=rs:=by
 rw[List.map_map]
 conv=>rhs;rw[←List.map_id rs]
 exact List.map_congr_left fun r hr=>hb r (List.all_eq_true.1 h r hr)
theorem xFa{α:Type}{enc:α->List V}{b:List V->Bool}(hb:∀a,b (enc a)=true)(l:List α):(l.map enc).all b=true:=List.all_eq_true.2 fun r hr=>by obtain⟨a,_,rfl⟩:=List.mem_map.1 hr;exact hb a
theorem xKi{α:Type}{enc:α->List V}{d:List V->α}(hd:∀a,d (enc a)=a)(l:List α):(l.map enc).map d=l:=by
 rw[List.map_map]
 conv=>rhs;rw[←List.map_id l]
 exact List.map_congr_left fun a _=>hd a
theorem xSS(a:Int):inRB (inV a)=true:=rfl
theorem xQA(a:UInt8):byRB (byV a)=true:=by
 show(decide (0<=(a.toNat:Int))&&decide ((a.toNat:Int)<256))=true
 have:=a.toNat_lt
 rw[decide_eq_true (by omega),decide_eq_true (by omega)];rfl
theorem xST(a:Int):xOd (inV a)=a:=rfl
theorem xMa(a:UInt8):xMZ (byV a)=a:=by
 show UInt8.ofNat ((a.toNat:Int)).toNat=a
 rw[Int.toNat_natCast];exact UInt8.ofNat_toNat
def yAq(x:yAJ):Geo:=⟨x.Nodes,x.Slots,x.Blocks,x.Per,x.Journal,x.Log,x.Lease,x.Wait⟩
theorem yAO{α:Type}{c:Bool}{x y:α}(h:c=true):(bif c then x else y)=x:=by rw[h];rfl
theorem yAF{α:Type}{c:Bool}{x y:α}(h:c=false):(bif c then x else y)=y:=by rw[h];rfl
theorem yAA{α β:Type}{b:β}{f:β->Option α}:yAB (some b) f=f b:=rfl
theorem wrap64{n:Int}(h1: -9223372036854775808<=n)(h2:n<=9223372036854775807):IntKind.i64.wrap n=n:=by
 unfold IntKind.wrap
 simp[IntKind.bits,IntKind.signed]
 omega
theorem yAh{n:Int}(h1: -9223372036854775808<=n)(h2:n<=9223372036854775807):w64 n=n:=wrap64 h1 h2
section
variable {α:Type} {c:Bool} {x:Option α} {es:List (List V)} {ks:List Kc}
theorem yCJ(h:c=true):gd c x=x:=by subst h;rfl
theorem xDN{n:Int}{m:Nat}(h0:0<=n)(h1:n<m):gB n m x=x:=by
 unfold gB
 rw[yCJ (decide_eq_true h0),yCJ (decide_eq_true h1)]
theorem xQ7{n:Int}(h0:0<=n)(h1:n<es.length)(h:rowIs ks es n.toNat=true):gI es ks n x=x:=by
 unfold gI
 rw[yCJ (decide_eq_true h0),yCJ (decide_eq_true h1),yCJ h]
theorem yU1{i j:Nat}(h1:i<es.length)(h:yW9 ks es i j=true):gL es ks i j x=x:=by
 unfold gL
 rw[yCJ (decide_eq_true h1),yCJ h]
theorem yU0{n:Nat}(h1:n<=es.length)(h2:n<=2000000)(h:yCL es=true):gF es n x=x:=by
 unfold gF
 rw[yCJ (Nat.ble_eq_true_of_le h1),yCJ (Nat.ble_eq_true_of_le h2),yCJ h]
theorem yHo{n:Nat}(h1:n=es.length)(h:yCL es=true):gW es n x=x:=by
 unfold gW
 rw[yCJ (by rw[h1];exact Nat.beq_refl _),yCJ h]
theorem xTJ{n:Nat}(h1:n=es.length)(h2:n<=2000000)(h:yCL es=true):gA es n x=x:=by
 subst h1
 unfold gA
 rw[yCJ (Nat.beq_refl _),yCJ (Nat.ble_eq_true_of_le h2),yCJ h]
theorem xIZ{m b:Nat}(h1:m*b<=140737488355328)(h2:m<=9223372036854775807):gM m b x=x:=by
 unfold gM
 rw[yCJ (decide_eq_true h1),yCJ (decide_eq_true h2)]
end
theorem yE2{es:List (List V)}{i:Nat}{r:List V}(h:es[i]?=some r):es.getD i []=r:=by
 rw[List.getD_eq_getElem?_getD,h];rfl
theorem xD2{es:List (List V)}{i j:Nat}{r:List V}(h:es[i]?=some r):cell es i j=cell [r] 0 j:=by
 unfold cell
 rw[yE2 h];rfl
theorem yNA{es:List (List V)}{i:Nat}{r:List V}(h:es[i]?=some r):∀(ks:List Kc) (j:Nat),yW9 ks es i j=yW9 ks [r] 0 j
 | [],j=>by unfold yW9;rw[yE2 h];rfl
 | k::ks,j=>by unfold yW9;rw[xD2 h,yNA h ks]
theorem xFX{es:List (List V)}{i:Nat}{r:List V}(ks:List Kc)(h:es[i]?=some r):rowIs ks es i=rowIs ks [r] 0:=by
 unfold rowIs
 rw[yNA h,yE2 h];rfl
section
variable {β:Type} {enc:β->List V} {l:List β}
theorem yNJ{i:Nat}(h:i<l.length):(l.map enc)[i]?=some (enc l[i]):=by
 rw[List.getElem?_map,List.getElem?_eq_getElem h];rfl
theorem xFb(ks:List Kc)(he:∀a,rowIs ks [enc a] 0=true){i:Nat}(h:i<l.length):rowIs ks (l.map enc) i=true:=by
 rw[xFX ks (yNJ h)];exact he _
theorem yW2{i j:Nat}(h:i<l.length):cell (l.map enc) i j=cell [enc l[i]] 0 j:=xD2 (yNJ h)
theorem xJo(he:∀a,yCL [enc a]=true):yCL (l.map enc)=true:=List.all_eq_true.2 fun r hr=>by
 obtain⟨a,_,rfl⟩:=List.mem_map.1 hr
 exact List.all_eq_true.1 (he a) _ (by simp)
theorem xBh(n:Nat)(he:∀a,(enc a).length=n):((l.map enc).all fun r=>Nat.beq r.length n)=true:=List.all_eq_true.2 fun r hr=>by
 obtain⟨a,_,rfl⟩:=List.mem_map.1 hr
 rw[he a];exact Nat.beq_refl _
end
theorem yS0{α:Type}{x:Option α}{l:List Int}{n:Int}(h0:0<=n)(h1:n<l.length):gI (l.map inV) kI n x=x:=xQ7 h0 (by rw[List.length_map];exact h1) (xFb kI (fun _=>rfl) (by omega))
theorem xTV{α:Type}{x:Option α}{l:Bs}{n:Int}(h0:0<=n)(h1:n<l.length):gI (l.map byV) kU n x=x:=xQ7 h0 (by rw[List.length_map];exact h1) (xFb kU (fun _=>rfl) (by omega))
theorem xTW{α:Type}{x:Option α}{l:List ByteArray}{n:Int}(h0:0<=n)(h1:n<l.length):gI (l.map txV) kS n x=x:=xQ7 h0 (by rw[List.length_map];exact h1) (xFb kS (fun _=>rfl) (by omega))
theorem yV3{l:List Int}{n:Nat}(h:n<l.length):aI (l.map inV) n 0=l[n]:=by
 unfold aI
 rw[yW2 h];rfl
theorem xTQ{l:Bs}{n:Nat}(h:n<l.length):aI (l.map byV) n 0=(l[n].toNat:Int):=by
 unfold aI
 rw[yW2 h];rfl
theorem xR6{l:List ByteArray}{n:Nat}(h:n<l.length):aS (l.map txV) n 0=l[n]:=by
 unfold aS
 rw[yW2 h];rfl
theorem yLd(l:List Int):yCL (l.map inV)=true:=xJo fun _=>rfl
theorem yRp(l:Bs):yCL (l.map byV)=true:=xJo fun _=>rfl
theorem yQ2(l:List ByteArray):yCL (l.map txV)=true:=xJo fun _=>rfl
theorem xAC(s:ByteArray):yCj s=s.data.toList.map byV:=rfl
theorem yO0(b:Bs):yPv (b.map byV)=mkS b:=by
 unfold yPv mkS
 rw[yUQ,Option.getD_some,List.map_map]
 congr 2
 conv=>rhs;rw[←List.map_id b]
 refine List.map_congr_left fun c _=>?_
 show UInt8.ofNat ((c.toNat:Int)).toNat=c
 rw[Int.toNat_natCast];exact UInt8.ofNat_toNat
theorem yQr(b:Bs):(bytesOf (b.map byV)).isSome=true:=by rw[yUQ];rfl
theorem xIf{s:ByteArray}{i:Nat}(h:i<s.size):(((s[i]?).getD 0).toNat:Int)=(s.data.toList[i]'(by simpa using h)).toNat:=by
 rw[yWB s i h]
 simp[h]
section
variable {α σ A B:Type}
theorem yHW{F:σ->(σ->Option α)->(A->Option α)->Option α}(I:σ->Prop)(m:σ->Nat)(PA:A->Prop)
  (h:∀s,I s->(∃s',I s'/\m s'<m s/\∀kn ka,F s kn ka=kn s')\/(∃a,PA a/\∀kn ka,F s kn ka=ka a)):
  ∀(L:Nat) (s:σ),I s->m s<L->∃a,PA a/\∀ka,yAb F L s ka=ka a
 | 0,_,_,hm=>absurd hm (Nat.not_lt_zero _)
 | L+1,s,hs,hm=>by
   rcases h s hs with ⟨s',h1,h2,h3⟩ | ⟨a,h1,h2⟩
   ·obtain⟨a,k1,k2⟩:=yHW I m PA h L s' h1 (by omega)
    exact⟨a,k1,fun ka=>(h3 _ ka).trans (k2 ka)⟩
   ·exact⟨a,h1,fun ka=>h2 _ ka⟩
theorem yQz{F:σ->(σ->Option α)->(A->Option α)->(B->Option α)->Option α}(I:σ->Prop)(m:σ->Nat)(PA:A->Prop)(PB:B->Prop)
  (h:∀s,I s->(∃s',I s'/\m s'<m s/\∀kn ka kb,F s kn ka kb=kn s')\/(∃a,PA a/\∀kn ka kb,F s kn ka kb=ka a)\/(∃b,PB b/\∀kn ka kb,F s kn ka kb=kb b)):
  ∀(L:Nat) (s:σ),I s->m s<L->(∃a,PA a/\∀ka kb,yAf F L s ka kb=ka a)\/(∃b,PB b/\∀ka kb,yAf F L s ka kb=kb b)
 | 0,_,_,hm=>absurd hm (Nat.not_lt_zero _)
 | L+1,s,hs,hm=>by
   rcases h s hs with ⟨s',h1,h2,h3⟩ | ⟨a,h1,h2⟩ | ⟨b,h1,h2⟩
   ·rcases yQz I m PA PB h L s' h1 (by omega) with ⟨a,k1,k2⟩ | ⟨b,k1,k2⟩
    ·exact .inl ⟨a,k1,fun ka kb=>(h3 _ ka kb).trans (k2 ka kb)⟩
    ·exact .inr ⟨b,k1,fun ka kb=>(h3 _ ka kb).trans (k2 ka kb)⟩
   ·exact .inl ⟨a,h1,fun ka kb=>h2 _ ka kb⟩
   ·exact .inr ⟨b,h1,fun ka kb=>h2 _ ka kb⟩
end
end Go.Proofs.YtakljpcmbpaeaaaGreat
