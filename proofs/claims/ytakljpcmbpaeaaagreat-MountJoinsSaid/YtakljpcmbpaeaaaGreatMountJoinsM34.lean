/- Structures. (printed by wip/sx) -/
import Derived.Test.YtakljpcmbpaeaaaGreatMountJoinsM33
import Derived.Test.YtakljpcmbpaeaaaGreatChecked
import Derived.Test.YtakljpcmbpaeaaaGreatMountJoinsM23
import Derived.Test.YtakljpcmbpaeaaaGreatMountJoinsM01
set_option linter.unusedSimpArgs false
set_option linter.unusedVariables false
namespace Go.Proofs.YtakljpcmbpaeaaaGreat
open Go.RowKit
structure yAR where
 Nodes:Int
 Slots:Int
 Blocks:Int
 Per:Int
 Journal:Int
 Log:Int
 Lease:Int
 Wait:Int
def yAR.cs(x:yAR):List V:= [V.int .i64 x.Nodes,V.int .i64 x.Slots,V.int .i64 x.Blocks,V.int .i64 x.Per,V.int .i64 x.Journal,V.int .i64 x.Log,V.int .i64 x.Lease,V.int .i64 x.Wait]
def yAR.of(l:List V):yAR:=⟨asI (cell [l] 0 0),asI (cell [l] 0 1),asI (cell [l] 0 2),asI (cell [l] 0 3),asI (cell [l] 0 4),asI (cell [l] 0 5),asI (cell [l] 0 6),asI (cell [l] 0 7)⟩
def yAR.ks:List Kc:= [.i .i64,.i .i64,.i .i64,.i .i64,.i .i64,.i .i64,.i .i64,.i .i64]
theorem yAR.h(l:List V):yAR.cs (yAR.of l)=etaSeg yAR.ks [l] 0 0:=rfl
def yCI:Cd yAR:=cdA yAR.ks yAR.cs yAR.of yAR.h
abbrev xNH:Ca yAR:=caA yAR.ks yAR.cs yAR.of yAR.h
abbrev yQR:Mx yAR:=mO (zS 8 xNH) 8
def yAR.z:yAR:=⟨0,0,0,0,0,0,0,0⟩
structure yAC where
 S:List (List V)
 Cache:List (List V)
 Keys:List (List V)
 Next:Int
 Fenced:List (List V)
def yAC.cs(x:yAC):List V:= [V.sl x.S false,V.sl x.Cache false,V.sl x.Keys false,V.int .i64 x.Next,V.sl x.Fenced false]
def yAC.of(l:List V):yAC:=⟨asR (cell [l] 0 0),asR (cell [l] 0 1),asR (cell [l] 0 2),asI (cell [l] 0 3),asR (cell [l] 0 4)⟩
def yAC.ks:List Kc:= [.m,.m,.m,.i .i64,.m]
theorem yAC.h(l:List V):yAC.cs (yAC.of l)=etaSeg yAC.ks [l] 0 0:=rfl
def yHy:Cd yAC:=cdA yAC.ks yAC.cs yAC.of yAC.h
abbrev xIK:Ca yAC:=caA yAC.ks yAC.cs yAC.of yAC.h
abbrev yAM:Mx yAC:=mO (zS 5 xIK) 5
def yAC.z:yAC:=⟨[],[],[],0,[]⟩
structure yAF where
 Slots:List (List V)
 Holds:List (List V)
 Queue:List (List V)
def yAF.cs(x:yAF):List V:= [V.sl x.Slots false,V.sl x.Holds false,V.sl x.Queue false]
def yAF.of(l:List V):yAF:=⟨asR (cell [l] 0 0),asR (cell [l] 0 1),asR (cell [l] 0 2)⟩
def yAF.ks:List Kc:= [.m,.m,.m]
theorem yAF.h(l:List V):yAF.cs (yAF.of l)=etaSeg yAF.ks [l] 0 0:=rfl
def yC1:Cd yAF:=cdA yAF.ks yAF.cs yAF.of yAF.h
abbrev xKC:Ca yAF:=caA yAF.ks yAF.cs yAF.of yAF.h
abbrev yDO:Mx yAF:=mO (zS 3 xKC) 3
def yAF.z:yAF:=⟨[],[],[]⟩
structure ySe where
 Open:Bool
 Writes:List (List V)
def ySe.cs(x:ySe):List V:= [V.bool x.Open,V.sl x.Writes false]
def ySe.of(l:List V):ySe:=⟨asB (cell [l] 0 0),asR (cell [l] 0 1)⟩
def ySe.ks:List Kc:= [.b,.m]
theorem ySe.h(l:List V):ySe.cs (ySe.of l)=etaSeg ySe.ks [l] 0 0:=rfl
def ySe.z:ySe:=⟨false,[]⟩
structure yAK where
 Lo:Int
 Hi:Int
def yAK.cs(x:yAK):List V:= [V.int .i64 x.Lo,V.int .i64 x.Hi]
def yAK.of(l:List V):yAK:=⟨asI (cell [l] 0 0),asI (cell [l] 0 1)⟩
def yAK.ks:List Kc:= [.i .i64,.i .i64]
theorem yAK.h(l:List V):yAK.cs (yAK.of l)=etaSeg yAK.ks [l] 0 0:=rfl
def yOF:Cd yAK:=cdA yAK.ks yAK.cs yAK.of yAK.h
abbrev yXU:Ca yAK:=caA yAK.ks yAK.cs yAK.of yAK.h
abbrev xI3:Mx yAK:=mO (zS 2 yXU) 2
def yAK.z:yAK:=⟨0,0⟩
structure xCH where
 Kind:Int
 Span:yAK
 Mode:Int
 Block:Int
 Text:ByteArray
 Node:Int
 Key:Int
def xCH.cs(x:xCH):List V:= [V.int .i8 x.Kind,V.int .i64 x.Span.Lo,V.int .i64 x.Span.Hi,V.int .i8 x.Mode,V.int .i64 x.Block,V.str x.Text,V.int .i64 x.Node,V.int .i64 x.Key]
def xCH.of(l:List V):xCH:=⟨asI (cell [l] 0 0),⟨asI (cell [l] 0 1),asI (cell [l] 0 2)⟩,asI (cell [l] 0 3),asI (cell [l] 0 4),asS (cell [l] 0 5),asI (cell [l] 0 6),asI (cell [l] 0 7)⟩
def xCH.ks:List Kc:= [.i .i8,.i .i64,.i .i64,.i .i8,.i .i64,.s,.i .i64,.i .i64]
theorem xCH.h(l:List V):xCH.cs (xCH.of l)=etaSeg xCH.ks [l] 0 0:=rfl
def xCH.z:xCH:=⟨0,⟨0,0⟩,0,0,noS,0,0⟩
structure yCn where
 Inst:Int
 Mbal:Int
 Bal:Int
 Val:ByteArray
def yCn.cs(x:yCn):List V:= [V.int .i64 x.Inst,V.int .i64 x.Mbal,V.int .i64 x.Bal,V.str x.Val]
def yCn.of(l:List V):yCn:=⟨asI (cell [l] 0 0),asI (cell [l] 0 1),asI (cell [l] 0 2),asS (cell [l] 0 3)⟩
def yCn.ks:List Kc:= [.i .i64,.i .i64,.i .i64,.s]
theorem yCn.h(l:List V):yCn.cs (yCn.of l)=etaSeg yCn.ks [l] 0 0:=rfl
def xCa:Cd yCn:=cdA yCn.ks yCn.cs yCn.of yCn.h
def yCn.z:yCn:=⟨0,0,0,noS⟩
structure yBh where
 Inst:Int
 Mbal:Int
 Best:Int
 Val:ByteArray
 Seen:Int
 Ahead:Bool
 Lost:Bool
def yBh.cs(x:yBh):List V:= [V.int .i64 x.Inst,V.int .i64 x.Mbal,V.int .i64 x.Best,V.str x.Val,V.int .i64 x.Seen,V.bool x.Ahead,V.bool x.Lost]
def yBh.of(l:List V):yBh:=⟨asI (cell [l] 0 0),asI (cell [l] 0 1),asI (cell [l] 0 2),asS (cell [l] 0 3),asI (cell [l] 0 4),asB (cell [l] 0 5),asB (cell [l] 0 6)⟩
def yBh.ks:List Kc:= [.i .i64,.i .i64,.i .i64,.s,.i .i64,.b,.b]
theorem yBh.h(l:List V):yBh.cs (yBh.of l)=etaSeg yBh.ks [l] 0 0:=rfl
def xF3:Cd yBh:=cdA yBh.ks yBh.cs yBh.of yBh.h
def yBh.z:yBh:=⟨0,0,0,noS,0,false,false⟩
structure yAP where
 Node:Int
 Cmd:ByteArray
 At:Int
 I:Int
 Own:yCn
 T:yBh
def yAP.cs(x:yAP):List V:= [V.int .i64 x.Node,V.str x.Cmd,V.int .i8 x.At,V.int .i64 x.I,V.int .i64 x.Own.Inst,V.int .i64 x.Own.Mbal,V.int .i64 x.Own.Bal,V.str x.Own.Val,V.int .i64 x.T.Inst,V.int .i64 x.T.Mbal,V.int .i64 x.T.Best,V.str x.T.Val,V.int .i64 x.T.Seen,V.bool x.T.Ahead,V.bool x.T.Lost]
def yAP.of(l:List V):yAP:=⟨asI (cell [l] 0 0),asS (cell [l] 0 1),asI (cell [l] 0 2),asI (cell [l] 0 3),⟨asI (cell [l] 0 4),asI (cell [l] 0 5),asI (cell [l] 0 6),asS (cell [l] 0 7)⟩,⟨asI (cell [l] 0 8),asI (cell [l] 0 9),asI (cell [l] 0 10),asS (cell [l] 0 11),asI (cell [l] 0 12),asB (cell [l] 0 13),asB (cell [l] 0 14)⟩⟩
def yAP.ks:List Kc:= [.i .i64,.s,.i .i8,.i .i64,.i .i64,.i .i64,.i .i64,.s,.i .i64,.i .i64,.i .i64,.s,.i .i64,.b,.b]
theorem yAP.h(l:List V):yAP.cs (yAP.of l)=etaSeg yAP.ks [l] 0 0:=rfl
def xAk:Cd yAP:=cdA yAP.ks yAP.cs yAP.of yAP.h
def yAP.z:yAP:=⟨0,noS,0,0,⟨0,0,0,noS⟩,⟨0,0,0,noS,0,false,false⟩⟩
structure yDe where
 L:List (List V)
 I:Int
def yDe.cs(x:yDe):List V:= [V.sl x.L false,V.int .i64 x.I]
def yDe.of(l:List V):yDe:=⟨asR (cell [l] 0 0),asI (cell [l] 0 1)⟩
def yDe.ks:List Kc:= [.m,.i .i64]
theorem yDe.h(l:List V):yDe.cs (yDe.of l)=etaSeg yDe.ks [l] 0 0:=rfl
def yDe.z:yDe:=⟨[],0⟩
structure yAG where
 Cells:List (List V)
 I:Int
 Left:Int
 At:Int
def yAG.cs(x:yAG):List V:= [V.sl x.Cells false,V.int .i64 x.I,V.int .i64 x.Left,V.int .i8 x.At]
def yAG.of(l:List V):yAG:=⟨asR (cell [l] 0 0),asI (cell [l] 0 1),asI (cell [l] 0 2),asI (cell [l] 0 3)⟩
def yAG.ks:List Kc:= [.m,.i .i64,.i .i64,.i .i8]
theorem yAG.h(l:List V):yAG.cs (yAG.of l)=etaSeg yAG.ks [l] 0 0:=rfl
def yNG:Cd yAG:=cdA yAG.ks yAG.cs yAG.of yAG.h
def yAG.z:yAG:=⟨[],0,0,0⟩
structure yCV where
 Slot:Int
 Key:Int
 At:Int
 Tail:Int
 L:List (List V)
 Cells:List (List V)
 I:Int
 End:Int
def yCV.cs(x:yCV):List V:= [V.int .i64 x.Slot,V.int .i64 x.Key,V.int .i8 x.At,V.int .i64 x.Tail,V.sl x.L false,V.sl x.Cells false,V.int .i64 x.I,V.int .i64 x.End]
def yCV.of(l:List V):yCV:=⟨asI (cell [l] 0 0),asI (cell [l] 0 1),asI (cell [l] 0 2),asI (cell [l] 0 3),asR (cell [l] 0 4),asR (cell [l] 0 5),asI (cell [l] 0 6),asI (cell [l] 0 7)⟩
def yCV.ks:List Kc:= [.i .i64,.i .i64,.i .i8,.i .i64,.m,.m,.i .i64,.i .i64]
theorem yCV.h(l:List V):yCV.cs (yCV.of l)=etaSeg yCV.ks [l] 0 0:=rfl
def yCV.z:yCV:=⟨0,0,0,0,[],[],0,0⟩
structure yCp where
 Block:Int
 K:Int
 Parts:List (List V)
def yCp.cs(x:yCp):List V:= [V.int .i64 x.Block,V.int .i64 x.K,V.sl x.Parts false]
def yCp.of(l:List V):yCp:=⟨asI (cell [l] 0 0),asI (cell [l] 0 1),asR (cell [l] 0 2)⟩
def yCp.ks:List Kc:= [.i .i64,.i .i64,.m]
theorem yCp.h(l:List V):yCp.cs (yCp.of l)=etaSeg yCp.ks [l] 0 0:=rfl
def yCp.z:yCp:=⟨0,0,[]⟩
structure yBO where
 Num:Int
 Clock:Int
 Up:Bool
 Over:Int
 Key:Int
 Asked:Int
 Count:Int
 Mounted:Bool
 Slot:Int
 Head:Int
 Tail:Int
 Table:yAF
 Done:Int
 Serial:Int
 Txn:ySe
 Pend:List (List V)
 Watch:List (List V)
 Giving:List (List V)
 GivingAll:Bool
 Busy:Bool
 Op:xCH
 At:Int
 P:yAP
 Pu:yDe
 St:yAG
 R:yCV
 F:yCp
def yBO.cs(x:yBO):List V:= [V.int .i64 x.Num,V.int .i64 x.Clock,V.bool x.Up,V.int .i64 x.Over,V.int .i64 x.Key,V.int .i64 x.Asked,V.int .i64 x.Count,V.bool x.Mounted,V.int .i64 x.Slot,V.int .i64 x.Head,V.int .i64 x.Tail,V.sl x.Table.Slots false,V.sl x.Table.Holds false,V.sl x.Table.Queue false,V.int .i64 x.Done,V.int .i64 x.Serial,V.bool x.Txn.Open,V.sl x.Txn.Writes false,V.sl x.Pend false,V.sl x.Watch false,V.sl x.Giving false,V.bool x.GivingAll,V.bool x.Busy,V.int .i8 x.Op.Kind,V.int .i64 x.Op.Span.Lo,V.int .i64 x.Op.Span.Hi,V.int .i8 x.Op.Mode,V.int .i64 x.Op.Block,V.str x.Op.Text,V.int .i64 x.Op.Node,V.int .i64 x.Op.Key,V.int .i8 x.At,V.int .i64 x.P.Node,V.str x.P.Cmd,V.int .i8 x.P.At,V.int .i64 x.P.I,V.int .i64 x.P.Own.Inst,V.int .i64 x.P.Own.Mbal,V.int .i64 x.P.Own.Bal,V.str x.P.Own.Val,V.int .i64 x.P.T.Inst,V.int .i64 x.P.T.Mbal,V.int .i64 x.P.T.Best,V.str x.P.T.Val,V.int .i64 x.P.T.Seen,V.bool x.P.T.Ahead,V.bool x.P.T.Lost,V.sl x.Pu.L false,V.int .i64 x.Pu.I,V.sl x.St.Cells false,V.int .i64 x.St.I,V.int .i64 x.St.Left,V.int .i8 x.St.At,V.int .i64 x.R.Slot,V.int .i64 x.R.Key,V.int .i8 x.R.At,V.int .i64 x.R.Tail,V.sl x.R.L false,V.sl x.R.Cells false,V.int .i64 x.R.I,V.int .i64 x.R.End,V.int .i64 x.F.Block,V.int .i64 x.F.K,V.sl x.F.Parts false]
def yBO.of(l:List V):yBO:=⟨asI (cell [l] 0 0),asI (cell [l] 0 1),asB (cell [l] 0 2),asI (cell [l] 0 3),asI (cell [l] 0 4),asI (cell [l] 0 5),asI (cell [l] 0 6),asB (cell [l] 0 7),asI (cell [l] 0 8),asI (cell [l] 0 9),asI (cell [l] 0 10),⟨asR (cell [l] 0 11),asR (cell [l] 0 12),asR (cell [l] 0 13)⟩,asI (cell [l] 0 14),asI (cell [l] 0 15),⟨asB (cell [l] 0 16),asR (cell [l] 0 17)⟩,asR (cell [l] 0 18),asR (cell [l] 0 19),asR (cell [l] 0 20),asB (cell [l] 0 21),asB (cell [l] 0 22),⟨asI (cell [l] 0 23),⟨asI (cell [l] 0 24),asI (cell [l] 0 25)⟩,asI (cell [l] 0 26),asI (cell [l] 0 27),asS (cell [l] 0 28),asI (cell [l] 0 29),asI (cell [l] 0 30)⟩,asI (cell [l] 0 31),⟨asI (cell [l] 0 32),asS (cell [l] 0 33),asI (cell [l] 0 34),asI (cell [l] 0 35),⟨asI (cell [l] 0 36),asI (cell [l] 0 37),asI (cell [l] 0 38),asS (cell [l] 0 39)⟩,⟨asI (cell [l] 0 40),asI (cell [l] 0 41),asI (cell [l] 0 42),asS (cell [l] 0 43),asI (cell [l] 0 44),asB (cell [l] 0 45),asB (cell [l] 0 46)⟩⟩,⟨asR (cell [l] 0 47),asI (cell [l] 0 48)⟩,⟨asR (cell [l] 0 49),asI (cell [l] 0 50),asI (cell [l] 0 51),asI (cell [l] 0 52)⟩,⟨asI (cell [l] 0 53),asI (cell [l] 0 54),asI (cell [l] 0 55),asI (cell [l] 0 56),asR (cell [l] 0 57),asR (cell [l] 0 58),asI (cell [l] 0 59),asI (cell [l] 0 60)⟩,⟨asI (cell [l] 0 61),asI (cell [l] 0 62),asR (cell [l] 0 63)⟩⟩
def yBO.ks:List Kc:= [.i .i64,.i .i64,.b,.i .i64,.i .i64,.i .i64,.i .i64,.b,.i .i64,.i .i64,.i .i64,.m,.m,.m,.i .i64,.i .i64,.b,.m,.m,.m,.m,.b,.b,.i .i8,.i .i64,.i .i64,.i .i8,.i .i64,.s,.i .i64,.i .i64,.i .i8,.i .i64,.s,.i .i8,.i .i64,.i .i64,.i .i64,.i .i64,.s,.i .i64,.i .i64,.i .i64,.s,.i .i64,.b,.b,.m,.i .i64,.m,.i .i64,.i .i64,.i .i8,.i .i64,.i .i64,.i .i8,.i .i64,.m,.m,.i .i64,.i .i64,.i .i64,.i .i64,.m]
theorem yBO.h(l:List V):yBO.cs (yBO.of l)=etaSeg yBO.ks [l] 0 0:=rfl
def ySk:Cd yBO:=cdA yBO.ks yBO.cs yBO.of yBO.h
abbrev xL0:Ca yBO:=caA yBO.ks yBO.cs yBO.of yBO.h
abbrev yJi:Mx yBO:=mO (zS 64 xL0) 64
def yBO.z:yBO:=⟨0,0,false,0,0,0,0,false,0,0,0,⟨[],[],[]⟩,0,0,⟨false,[]⟩,[],[],[],false,false,⟨0,⟨0,0⟩,0,0,noS,0,0⟩,0,⟨0,noS,0,0,⟨0,0,0,noS⟩,⟨0,0,0,noS,0,false,false⟩⟩,⟨[],0⟩,⟨[],0,0,0⟩,⟨0,0,0,0,[],[],0,0⟩,⟨0,0,[]⟩⟩
structure yAE where
 E:Int
 Text:ByteArray
 Yes:Bool
def yAE.cs(x:yAE):List V:= [V.int .i64 x.E,V.str x.Text,V.bool x.Yes]
def yAE.of(l:List V):yAE:=⟨asI (cell [l] 0 0),asS (cell [l] 0 1),asB (cell [l] 0 2)⟩
def yAE.ks:List Kc:= [.i .i64,.s,.b]
theorem yAE.h(l:List V):yAE.cs (yAE.of l)=etaSeg yAE.ks [l] 0 0:=rfl
def yXX:Cd yAE:=cdA yAE.ks yAE.cs yAE.of yAE.h
abbrev xIJ:Ca yAE:=caA yAE.ks yAE.cs yAE.of yAE.h
abbrev yGg:Mx yAE:=mO (zS 3 xIJ) 3
def yAE.z:yAE:=⟨0,noS,false⟩
structure yAp where
 Kind:Int
 Sector:Int
 B:ByteArray
 Key:Int
def yAp.cs(x:yAp):List V:= [V.int .i8 x.Kind,V.int .i64 x.Sector,V.str x.B,V.int .i64 x.Key]
def yAp.of(l:List V):yAp:=⟨asI (cell [l] 0 0),asI (cell [l] 0 1),asS (cell [l] 0 2),asI (cell [l] 0 3)⟩
def yAp.ks:List Kc:= [.i .i8,.i .i64,.s,.i .i64]
theorem yAp.h(l:List V):yAp.cs (yAp.of l)=etaSeg yAp.ks [l] 0 0:=rfl
def yNF:Cd yAp:=cdA yAp.ks yAp.cs yAp.of yAp.h
abbrev xNG:Ca yAp:=caA yAp.ks yAp.cs yAp.of yAp.h
abbrev yIw:Mx yAp:=mO (zS 4 xNG) 4
def yAp.z:yAp:=⟨0,0,noS,0⟩
structure yAI where
 Kind:Int
 By:Int
 Serial:Int
 Dead:Int
 Was:Int
 Span:yAK
 Mode:Int
def yAI.cs(x:yAI):List V:= [V.int .i8 x.Kind,V.int .i64 x.By,V.int .i64 x.Serial,V.int .i64 x.Dead,V.int .i64 x.Was,V.int .i64 x.Span.Lo,V.int .i64 x.Span.Hi,V.int .i8 x.Mode]
def yAI.of(l:List V):yAI:=⟨asI (cell [l] 0 0),asI (cell [l] 0 1),asI (cell [l] 0 2),asI (cell [l] 0 3),asI (cell [l] 0 4),⟨asI (cell [l] 0 5),asI (cell [l] 0 6)⟩,asI (cell [l] 0 7)⟩
def yAI.ks:List Kc:= [.i .i8,.i .i64,.i .i64,.i .i64,.i .i64,.i .i64,.i .i64,.i .i8]
theorem yAI.h(l:List V):yAI.cs (yAI.of l)=etaSeg yAI.ks [l] 0 0:=rfl
def yNy:Cd yAI:=cdA yAI.ks yAI.cs yAI.of yAI.h
abbrev xCW:Ca yAI:=caA yAI.ks yAI.cs yAI.of yAI.h
abbrev yQQ:Mx yAI:=mO (zS 8 xCW) 8
def yAI.z:yAI:=⟨0,0,0,0,0,⟨0,0⟩,0⟩
structure yFh where
 Sector:Int
 B:ByteArray
def yFh.cs(x:yFh):List V:= [V.int .i64 x.Sector,V.str x.B]
def yFh.of(l:List V):yFh:=⟨asI (cell [l] 0 0),asS (cell [l] 0 1)⟩
def yFh.ks:List Kc:= [.i .i64,.s]
theorem yFh.h(l:List V):yFh.cs (yFh.of l)=etaSeg yFh.ks [l] 0 0:=rfl
def yFh.z:yFh:=⟨0,noS⟩
structure yKK where
 Key:Int
 Claim:Int
def yKK.cs(x:yKK):List V:= [V.int .i64 x.Key,V.int .i64 x.Claim]
def yKK.of(l:List V):yKK:=⟨asI (cell [l] 0 0),asI (cell [l] 0 1)⟩
def yKK.ks:List Kc:= [.i .i64,.i .i64]
theorem yKK.h(l:List V):yKK.cs (yKK.of l)=etaSeg yKK.ks [l] 0 0:=rfl
def xL3:Cd yKK:=cdA yKK.ks yKK.cs yKK.of yKK.h
def yKK.z:yKK:=⟨0,0⟩
structure yFW where
 N:Int
 Text:ByteArray
def yFW.cs(x:yFW):List V:= [V.int .i64 x.N,V.str x.Text]
def yFW.of(l:List V):yFW:=⟨asI (cell [l] 0 0),asS (cell [l] 0 1)⟩
def yFW.ks:List Kc:= [.i .i64,.s]
theorem yFW.h(l:List V):yFW.cs (yFW.of l)=etaSeg yFW.ks [l] 0 0:=rfl
abbrev xKB:Ca yFW:=caA yFW.ks yFW.cs yFW.of yFW.h
abbrev xKR:Mx yFW:=mO (zS 2 xKB) 2
def yFW.z:yFW:=⟨0,noS⟩
structure yAS where
 Prop_:yAP
 g_:yAR
 t_:yAF
 done_:Int
 over_:Bool
def yAS.cs(x:yAS):List V:= [V.int .i64 x.Prop_.Node,V.str x.Prop_.Cmd,V.int .i8 x.Prop_.At,V.int .i64 x.Prop_.I,V.int .i64 x.Prop_.Own.Inst,V.int .i64 x.Prop_.Own.Mbal,V.int .i64 x.Prop_.Own.Bal,V.str x.Prop_.Own.Val,V.int .i64 x.Prop_.T.Inst,V.int .i64 x.Prop_.T.Mbal,V.int .i64 x.Prop_.T.Best,V.str x.Prop_.T.Val,V.int .i64 x.Prop_.T.Seen,V.bool x.Prop_.T.Ahead,V.bool x.Prop_.T.Lost,V.int .i64 x.g_.Nodes,V.int .i64 x.g_.Slots,V.int .i64 x.g_.Blocks,V.int .i64 x.g_.Per,V.int .i64 x.g_.Journal,V.int .i64 x.g_.Log,V.int .i64 x.g_.Lease,V.int .i64 x.g_.Wait,V.sl x.t_.Slots false,V.sl x.t_.Holds false,V.sl x.t_.Queue false,V.int .i64 x.done_,V.bool x.over_]
def yAS.of(l:List V):yAS:=⟨⟨asI (cell [l] 0 0),asS (cell [l] 0 1),asI (cell [l] 0 2),asI (cell [l] 0 3),⟨asI (cell [l] 0 4),asI (cell [l] 0 5),asI (cell [l] 0 6),asS (cell [l] 0 7)⟩,⟨asI (cell [l] 0 8),asI (cell [l] 0 9),asI (cell [l] 0 10),asS (cell [l] 0 11),asI (cell [l] 0 12),asB (cell [l] 0 13),asB (cell [l] 0 14)⟩⟩,⟨asI (cell [l] 0 15),asI (cell [l] 0 16),asI (cell [l] 0 17),asI (cell [l] 0 18),asI (cell [l] 0 19),asI (cell [l] 0 20),asI (cell [l] 0 21),asI (cell [l] 0 22)⟩,⟨asR (cell [l] 0 23),asR (cell [l] 0 24),asR (cell [l] 0 25)⟩,asI (cell [l] 0 26),asB (cell [l] 0 27)⟩
def yAS.ks:List Kc:= [.i .i64,.s,.i .i8,.i .i64,.i .i64,.i .i64,.i .i64,.s,.i .i64,.i .i64,.i .i64,.s,.i .i64,.b,.b,.i .i64,.i .i64,.i .i64,.i .i64,.i .i64,.i .i64,.i .i64,.i .i64,.m,.m,.m,.i .i64,.b]
theorem yAS.h(l:List V):yAS.cs (yAS.of l)=etaSeg yAS.ks [l] 0 0:=rfl
abbrev yGW:Ca yAS:=caA yAS.ks yAS.cs yAS.of yAS.h
def yAS.z:yAS:=⟨⟨0,noS,0,0,⟨0,0,0,noS⟩,⟨0,0,0,noS,0,false,false⟩⟩,⟨0,0,0,0,0,0,0,0⟩,⟨[],[],[]⟩,0,false⟩
structure yAi where
 Settling:yAG
 sector_:Int
 header_:ByteArray
def yAi.cs(x:yAi):List V:= [V.sl x.Settling.Cells false,V.int .i64 x.Settling.I,V.int .i64 x.Settling.Left,V.int .i8 x.Settling.At,V.int .i64 x.sector_,V.str x.header_]
def yAi.of(l:List V):yAi:=⟨⟨asR (cell [l] 0 0),asI (cell [l] 0 1),asI (cell [l] 0 2),asI (cell [l] 0 3)⟩,asI (cell [l] 0 4),asS (cell [l] 0 5)⟩
def yAi.ks:List Kc:= [.m,.i .i64,.i .i64,.i .i8,.i .i64,.s]
theorem yAi.h(l:List V):yAi.cs (yAi.of l)=etaSeg yAi.ks [l] 0 0:=rfl
abbrev yQO:Ca yAi:=caA yAi.ks yAi.cs yAi.of yAi.h
def yAi.z:yAi:=⟨⟨[],0,0,0⟩,0,noS⟩
structure yAL where
 Key:Int
 Span:yAK
 Mode:Int
def yAL.cs(x:yAL):List V:= [V.int .i64 x.Key,V.int .i64 x.Span.Lo,V.int .i64 x.Span.Hi,V.int .i8 x.Mode]
def yAL.of(l:List V):yAL:=⟨asI (cell [l] 0 0),⟨asI (cell [l] 0 1),asI (cell [l] 0 2)⟩,asI (cell [l] 0 3)⟩
def yAL.ks:List Kc:= [.i .i64,.i .i64,.i .i64,.i .i8]
theorem yAL.h(l:List V):yAL.cs (yAL.of l)=etaSeg yAL.ks [l] 0 0:=rfl
def yQq:Cd yAL:=cdA yAL.ks yAL.cs yAL.of yAL.h
abbrev yXT:Ca yAL:=caA yAL.ks yAL.cs yAL.of yAL.h
abbrev xEx:Mx yAL:=mO (zS 4 yXT) 4
def yAL.z:yAL:=⟨0,⟨0,0⟩,0⟩
structure yAs where
 first_:Int
 many_:Int
def yAs.cs(x:yAs):List V:= [V.int .i64 x.first_,V.int .i64 x.many_]
def yAs.of(l:List V):yAs:=⟨asI (cell [l] 0 0),asI (cell [l] 0 1)⟩
def yAs.ks:List Kc:= [.i .i64,.i .i64]
theorem yAs.h(l:List V):yAs.cs (yAs.of l)=etaSeg yAs.ks [l] 0 0:=rfl
def yY3:Cd yAs:=cdA yAs.ks yAs.cs yAs.of yAs.h
def yAs.z:yAs:=⟨0,0⟩
structure yAN where
 stretch_:yAs
 kind_:Int
 per_:Int
def yAN.cs(x:yAN):List V:= [V.int .i64 x.stretch_.first_,V.int .i64 x.stretch_.many_,V.int .i8 x.kind_,V.int .i64 x.per_]
def yAN.of(l:List V):yAN:=⟨⟨asI (cell [l] 0 0),asI (cell [l] 0 1)⟩,asI (cell [l] 0 2),asI (cell [l] 0 3)⟩
def yAN.ks:List Kc:= [.i .i64,.i .i64,.i .i8,.i .i64]
theorem yAN.h(l:List V):yAN.cs (yAN.of l)=etaSeg yAN.ks [l] 0 0:=rfl
def xAl:Cd yAN:=cdA yAN.ks yAN.cs yAN.of yAN.h
abbrev xAi:Ca yAN:=caA yAN.ks yAN.cs yAN.of yAN.h
abbrev yPT:Mx yAN:=mO (zS 4 xAi) 4
def yAN.z:yAN:=⟨⟨0,0⟩,0,0⟩
structure yAH where
 s_:ByteArray
 bad_:Bool
def yAH.cs(x:yAH):List V:= [V.str x.s_,V.bool x.bad_]
def yAH.of(l:List V):yAH:=⟨asS (cell [l] 0 0),asB (cell [l] 0 1)⟩
def yAH.ks:List Kc:= [.s,.b]
theorem yAH.h(l:List V):yAH.cs (yAH.of l)=etaSeg yAH.ks [l] 0 0:=rfl
abbrev yWK:Ca yAH:=caA yAH.ks yAH.cs yAH.of yAH.h
abbrev yDv:Mx yAH:=mO (zS 2 yWK) 2
def yAH.z:yAH:=⟨noS,false⟩
structure yAl where
 Cmd:yAI
 b_:List (List V)
def yAl.cs(x:yAl):List V:= [V.int .i8 x.Cmd.Kind,V.int .i64 x.Cmd.By,V.int .i64 x.Cmd.Serial,V.int .i64 x.Cmd.Dead,V.int .i64 x.Cmd.Was,V.int .i64 x.Cmd.Span.Lo,V.int .i64 x.Cmd.Span.Hi,V.int .i8 x.Cmd.Mode,V.sl x.b_ false]
def yAl.of(l:List V):yAl:=⟨⟨asI (cell [l] 0 0),asI (cell [l] 0 1),asI (cell [l] 0 2),asI (cell [l] 0 3),asI (cell [l] 0 4),⟨asI (cell [l] 0 5),asI (cell [l] 0 6)⟩,asI (cell [l] 0 7)⟩,asR (cell [l] 0 8)⟩
def yAl.ks:List Kc:= [.i .i8,.i .i64,.i .i64,.i .i64,.i .i64,.i .i64,.i .i64,.i .i8,.m]
theorem yAl.h(l:List V):yAl.cs (yAl.of l)=etaSeg yAl.ks [l] 0 0:=rfl
abbrev yWJ:Ca yAl:=caA yAl.ks yAl.cs yAl.of yAl.h
def yAl.z:yAl:=⟨⟨0,0,0,0,0,⟨0,0⟩,0⟩,[]⟩
structure yBQ where
 Geo:yAR
def yBQ.cs(x:yBQ):List V:= [V.int .i64 x.Geo.Nodes,V.int .i64 x.Geo.Slots,V.int .i64 x.Geo.Blocks,V.int .i64 x.Geo.Per,V.int .i64 x.Geo.Journal,V.int .i64 x.Geo.Log,V.int .i64 x.Geo.Lease,V.int .i64 x.Geo.Wait]
def yBQ.of(l:List V):yBQ:=⟨⟨asI (cell [l] 0 0),asI (cell [l] 0 1),asI (cell [l] 0 2),asI (cell [l] 0 3),asI (cell [l] 0 4),asI (cell [l] 0 5),asI (cell [l] 0 6),asI (cell [l] 0 7)⟩⟩
def yBQ.ks:List Kc:= [.i .i64,.i .i64,.i .i64,.i .i64,.i .i64,.i .i64,.i .i64,.i .i64]
theorem yBQ.h(l:List V):yBQ.cs (yBQ.of l)=etaSeg yBQ.ks [l] 0 0:=rfl
abbrev yY2:Ca yBQ:=caA yBQ.ks yBQ.cs yBQ.of yBQ.h
def yBQ.z:yBQ:=⟨⟨0,0,0,0,0,0,0,0⟩⟩
structure yCW where
 l_:List (List V)
def yCW.cs(x:yCW):List V:= [V.sl x.l_ false]
def yCW.of(l:List V):yCW:=⟨asR (cell [l] 0 0)⟩
def yCW.ks:List Kc:= [.m]
theorem yCW.h(l:List V):yCW.cs (yCW.of l)=etaSeg yCW.ks [l] 0 0:=rfl
def yCW.z:yCW:=⟨[]⟩
structure yA2 where
 row_:yCW
 g_:yAR
def yA2.cs(x:yA2):List V:= [V.sl x.row_.l_ false,V.int .i64 x.g_.Nodes,V.int .i64 x.g_.Slots,V.int .i64 x.g_.Blocks,V.int .i64 x.g_.Per,V.int .i64 x.g_.Journal,V.int .i64 x.g_.Log,V.int .i64 x.g_.Lease,V.int .i64 x.g_.Wait]
def yA2.of(l:List V):yA2:=⟨⟨asR (cell [l] 0 0)⟩,⟨asI (cell [l] 0 1),asI (cell [l] 0 2),asI (cell [l] 0 3),asI (cell [l] 0 4),asI (cell [l] 0 5),asI (cell [l] 0 6),asI (cell [l] 0 7),asI (cell [l] 0 8)⟩⟩
def yA2.ks:List Kc:= [.m,.i .i64,.i .i64,.i .i64,.i .i64,.i .i64,.i .i64,.i .i64,.i .i64]
theorem yA2.h(l:List V):yA2.cs (yA2.of l)=etaSeg yA2.ks [l] 0 0:=rfl
abbrev yQo:Ca yA2:=caA yA2.ks yA2.cs yA2.of yA2.h
def yA2.z:yA2:=⟨⟨[]⟩,⟨0,0,0,0,0,0,0,0⟩⟩
structure yAd where
 Rec:yCn
def yAd.cs(x:yAd):List V:= [V.int .i64 x.Rec.Inst,V.int .i64 x.Rec.Mbal,V.int .i64 x.Rec.Bal,V.str x.Rec.Val]
def yAd.of(l:List V):yAd:=⟨⟨asI (cell [l] 0 0),asI (cell [l] 0 1),asI (cell [l] 0 2),asS (cell [l] 0 3)⟩⟩
def yAd.ks:List Kc:= [.i .i64,.i .i64,.i .i64,.s]
theorem yAd.h(l:List V):yAd.cs (yAd.of l)=etaSeg yAd.ks [l] 0 0:=rfl
abbrev yMA:Ca yAd:=caA yAd.ks yAd.cs yAd.of yAd.h
def yAd.z:yAd:=⟨⟨0,0,0,noS⟩⟩
structure yAW where
 Tally:yBh
def yAW.cs(x:yAW):List V:= [V.int .i64 x.Tally.Inst,V.int .i64 x.Tally.Mbal,V.int .i64 x.Tally.Best,V.str x.Tally.Val,V.int .i64 x.Tally.Seen,V.bool x.Tally.Ahead,V.bool x.Tally.Lost]
def yAW.of(l:List V):yAW:=⟨⟨asI (cell [l] 0 0),asI (cell [l] 0 1),asI (cell [l] 0 2),asS (cell [l] 0 3),asI (cell [l] 0 4),asB (cell [l] 0 5),asB (cell [l] 0 6)⟩⟩
def yAW.ks:List Kc:= [.i .i64,.i .i64,.i .i64,.s,.i .i64,.b,.b]
theorem yAW.h(l:List V):yAW.cs (yAW.of l)=etaSeg yAW.ks [l] 0 0:=rfl
abbrev yQp:Ca yAW:=caA yAW.ks yAW.cs yAW.of yAW.h
abbrev yRA:Mx yAW:=mR (zS 7 yQp) 7
def yAW.z:yAW:=⟨⟨0,0,0,noS,0,false,false⟩⟩
structure yBF where
 Table:yAF
 g_:yAR
def yBF.cs(x:yBF):List V:= [V.sl x.Table.Slots false,V.sl x.Table.Holds false,V.sl x.Table.Queue false,V.int .i64 x.g_.Nodes,V.int .i64 x.g_.Slots,V.int .i64 x.g_.Blocks,V.int .i64 x.g_.Per,V.int .i64 x.g_.Journal,V.int .i64 x.g_.Log,V.int .i64 x.g_.Lease,V.int .i64 x.g_.Wait]
def yBF.of(l:List V):yBF:=⟨⟨asR (cell [l] 0 0),asR (cell [l] 0 1),asR (cell [l] 0 2)⟩,⟨asI (cell [l] 0 3),asI (cell [l] 0 4),asI (cell [l] 0 5),asI (cell [l] 0 6),asI (cell [l] 0 7),asI (cell [l] 0 8),asI (cell [l] 0 9),asI (cell [l] 0 10)⟩⟩
def yBF.ks:List Kc:= [.m,.m,.m,.i .i64,.i .i64,.i .i64,.i .i64,.i .i64,.i .i64,.i .i64,.i .i64]
theorem yBF.h(l:List V):yBF.cs (yBF.of l)=etaSeg yBF.ks [l] 0 0:=rfl
abbrev xAj:Ca yBF:=caA yBF.ks yBF.cs yBF.of yBF.h
def yBF.z:yBF:=⟨⟨[],[],[]⟩,⟨0,0,0,0,0,0,0,0⟩⟩
structure yAj where
 Span:yAK
def yAj.cs(x:yAj):List V:= [V.int .i64 x.Span.Lo,V.int .i64 x.Span.Hi]
def yAj.of(l:List V):yAj:=⟨⟨asI (cell [l] 0 0),asI (cell [l] 0 1)⟩⟩
def yAj.ks:List Kc:= [.i .i64,.i .i64]
theorem yAj.h(l:List V):yAj.cs (yAj.of l)=etaSeg yAj.ks [l] 0 0:=rfl
def yOG:Cd yAj:=cdA yAj.ks yAj.cs yAj.of yAj.h
def yAj.z:yAj:=⟨⟨0,0⟩⟩
structure yBj where
 blocks_:yAj
 key_:Int
 mode_:Int
def yBj.cs(x:yBj):List V:= [V.int .i64 x.blocks_.Span.Lo,V.int .i64 x.blocks_.Span.Hi,V.int .i64 x.key_,V.int .i8 x.mode_]
def yBj.of(l:List V):yBj:=⟨⟨⟨asI (cell [l] 0 0),asI (cell [l] 0 1)⟩⟩,asI (cell [l] 0 2),asI (cell [l] 0 3)⟩
def yBj.ks:List Kc:= [.i .i64,.i .i64,.i .i64,.i .i8]
theorem yBj.h(l:List V):yBj.cs (yBj.of l)=etaSeg yBj.ks [l] 0 0:=rfl
def yVu:Cd yBj:=cdA yBj.ks yBj.cs yBj.of yBj.h
def yBj.z:yBj:=⟨⟨⟨0,0⟩⟩,0,0⟩
def xJ0(a:Int):Bool:=decide (-9223372036854775808<=a)&&decide (a<=9223372036854775807)
theorem xNQ{a:Int}(h:xJ0 a=true): -9223372036854775808<=a/\a<=9223372036854775807:=by
 obtain⟨h1,h2⟩:=yBE h
 exact⟨of_decide_eq_true h1,of_decide_eq_true h2⟩
def xJ1(r:List V):Int:=asI (r.headD .undef)
def xIG(r:List V):UInt8:=UInt8.ofNat (xJ1 r).toNat
def inRB(r:List V):Bool:=match r with
 | [.int .i64 _]=>true
 | _=>false
def byRB(r:List V):Bool:=match r with
 | [.int .u8 n]=>decide (0<=n)&&decide (n<256)
 | _=>false
theorem xNR{r:List V}(h:inRB r=true):inV (xJ1 r)=r:=by
 unfold inRB at h;split at h
 ·rfl
 ·cases h
theorem xLH{r:List V}(h:byRB r=true):byV (xIG r)=r:=by
 unfold byRB at h;split at h
 ·rename_i n
  obtain⟨h1,h2⟩:=yBE h
  have h1:=of_decide_eq_true h1
  have h2:=of_decide_eq_true h2
  show [V.int .u8 ((UInt8.ofNat n.toNat).toNat:Int)]=_
  have:(UInt8.ofNat n.toNat).toNat=n.toNat:=by
   rw[UInt8.toNat_ofNat'];omega
  rw[this,Int.toNat_of_nonneg h1]
 ·cases h
theorem xJT{α:Type}{enc:α->List V}{d:List V->α}{b:List V->Bool}(hb:∀r,b r=true->enc (d r)=r){rs:List (List V)}(h:rs.all b=true):(rs.map d).map enc=rs:=by
 rw[List.map_map]
 conv=>rhs;rw[←List.map_id rs]
 exact List.map_congr_left fun r hr=>hb r (List.all_eq_true.1 h r hr)
theorem xBq{α:Type}{enc:α->List V}{b:List V->Bool}(hb:∀a,b (enc a)=true)(l:List α):(l.map enc).all b=true:=List.all_eq_true.2 fun r hr=>by obtain⟨a,_,rfl⟩:=List.mem_map.1 hr;exact hb a
theorem xGR{α:Type}{enc:α->List V}{d:List V->α}(hd:∀a,d (enc a)=a)(l:List α):(l.map enc).map d=l:=by
 rw[List.map_map]
 conv=>rhs;rw[←List.map_id l]
 exact List.map_congr_left fun a _=>hd a
theorem xNS(a:Int):inRB (inV a)=true:=rfl
theorem xLI(a:UInt8):byRB (byV a)=true:=by
 show(decide (0<=(a.toNat:Int))&&decide ((a.toNat:Int)<256))=true
 have:=a.toNat_lt
 rw[decide_eq_true (by omega),decide_eq_true (by omega)];rfl
theorem xNT(a:Int):xJ1 (inV a)=a:=rfl
theorem xIH(a:UInt8):xIG (byV a)=a:=by
 show UInt8.ofNat ((a.toNat:Int)).toNat=a
 rw[Int.toNat_natCast];exact UInt8.ofNat_toNat
def yB2(x:yAR):Geo:=⟨x.Nodes,x.Slots,x.Blocks,x.Per,x.Journal,x.Log,x.Lease,x.Wait⟩
theorem yAT{α:Type}{c:Bool}{x y:α}(h:c=true):(bif c then x else y)=x:=by rw[h];rfl
theorem yAJ{α:Type}{c:Bool}{x y:α}(h:c=false):(bif c then x else y)=y:=by rw[h];rfl
theorem yAB{α β:Type}{b:β}{f:β->Option α}:yAA (some b) f=f b:=rfl
theorem wrap64{n:Int}(h1: -9223372036854775808<=n)(h2:n<=9223372036854775807):IntKind.i64.wrap n=n:=by
 unfold IntKind.wrap
 simp[IntKind.bits,IntKind.signed]
 omega
theorem yAY{n:Int}(h1: -9223372036854775808<=n)(h2:n<=9223372036854775807):w64 n=n:=wrap64 h1 h2
section
variable {α:Type} {c:Bool} {x:Option α} {es:List (List V)} {ks:List Kc}
theorem yCM(h:c=true):gd c x=x:=by subst h;rfl
theorem yW9{n:Int}{m:Nat}(h0:0<=n)(h1:n<m):gB n m x=x:=by
 unfold gB
 rw[yCM (decide_eq_true h0),yCM (decide_eq_true h1)]
theorem xMF{n:Int}(h0:0<=n)(h1:n<es.length)(h:rowIs ks es n.toNat=true):gI es ks n x=x:=by
 unfold gI
 rw[yCM (decide_eq_true h0),yCM (decide_eq_true h1),yCM h]
theorem yYv{i j:Nat}(h1:i<es.length)(h:yWx ks es i j=true):gL es ks i j x=x:=by
 unfold gL
 rw[yCM (decide_eq_true h1),yCM h]
theorem ySB{n:Nat}(h1:n<=es.length)(h2:n<=2000000)(h:yCF es=true):gF es n x=x:=by
 unfold gF
 rw[yCM (Nat.ble_eq_true_of_le h1),yCM (Nat.ble_eq_true_of_le h2),yCM h]
theorem yHo{n:Nat}(h1:n=es.length)(h:yCF es=true):gW es n x=x:=by
 unfold gW
 rw[yCM (by rw[h1];exact Nat.beq_refl _),yCM h]
theorem xM4{n:Nat}(h1:n=es.length)(h2:n<=2000000)(h:yCF es=true):gA es n x=x:=by
 subst h1
 unfold gA
 rw[yCM (Nat.beq_refl _),yCM (Nat.ble_eq_true_of_le h2),yCM h]
theorem xCG{m b:Nat}(h1:m*b<=140737488355328)(h2:m<=9223372036854775807):gM m b x=x:=by
 unfold gM
 rw[yCM (decide_eq_true h1),yCM (decide_eq_true h2)]
end
theorem yDN{es:List (List V)}{i:Nat}{r:List V}(h:es[i]?=some r):es.getD i []=r:=by
 rw[List.getD_eq_getElem?_getD,h];rfl
theorem xAm{es:List (List V)}{i j:Nat}{r:List V}(h:es[i]?=some r):cell es i j=cell [r] 0 j:=by
 unfold cell
 rw[yDN h];rfl
theorem yIa{es:List (List V)}{i:Nat}{r:List V}(h:es[i]?=some r):∀(ks:List Kc) (j:Nat),yWx ks es i j=yWx ks [r] 0 j
 | [],j=>by unfold yWx;rw[yDN h];rfl
 | k::ks,j=>by unfold yWx;rw[xAm h,yIa h ks]
theorem xBm{es:List (List V)}{i:Nat}{r:List V}(ks:List Kc)(h:es[i]?=some r):rowIs ks es i=rowIs ks [r] 0:=by
 unfold rowIs
 rw[yIa h,yDN h];rfl
section
variable {β:Type} {enc:β->List V} {l:List β}
theorem yGO{i:Nat}(h:i<l.length):(l.map enc)[i]?=some (enc l[i]):=by
 rw[List.getElem?_map,List.getElem?_eq_getElem h];rfl
theorem xBr(ks:List Kc)(he:∀a,rowIs ks [enc a] 0=true){i:Nat}(h:i<l.length):rowIs ks (l.map enc) i=true:=by
 rw[xBm ks (yGO h)];exact he _
theorem yUa{i j:Nat}(h:i<l.length):cell (l.map enc) i j=cell [enc l[i]] 0 j:=xAm (yGO h)
theorem xFX(he:∀a,yCF [enc a]=true):yCF (l.map enc)=true:=List.all_eq_true.2 fun r hr=>by
 obtain⟨a,_,rfl⟩:=List.mem_map.1 hr
 exact List.all_eq_true.1 (he a) _ (by simp)
theorem yYd(n:Nat)(he:∀a,(enc a).length=n):((l.map enc).all fun r=>Nat.beq r.length n)=true:=List.all_eq_true.2 fun r hr=>by
 obtain⟨a,_,rfl⟩:=List.mem_map.1 hr
 rw[he a];exact Nat.beq_refl _
end
theorem yQ2{α:Type}{x:Option α}{l:List Int}{n:Int}(h0:0<=n)(h1:n<l.length):gI (l.map inV) kI n x=x:=xMF h0 (by rw[List.length_map];exact h1) (xBr kI (fun _=>rfl) (by omega))
theorem xOI{α:Type}{x:Option α}{l:Bs}{n:Int}(h0:0<=n)(h1:n<l.length):gI (l.map byV) kU n x=x:=xMF h0 (by rw[List.length_map];exact h1) (xBr kU (fun _=>rfl) (by omega))
theorem xG5{α:Type}{x:Option α}{l:List ByteArray}{n:Int}(h0:0<=n)(h1:n<l.length):gI (l.map txV) kS n x=x:=xMF h0 (by rw[List.length_map];exact h1) (xBr kS (fun _=>rfl) (by omega))
theorem yUr{l:List Int}{n:Nat}(h:n<l.length):aI (l.map inV) n 0=l[n]:=by
 unfold aI
 rw[yUa h];rfl
theorem xOC{l:Bs}{n:Nat}(h:n<l.length):aI (l.map byV) n 0=(l[n].toNat:Int):=by
 unfold aI
 rw[yUa h];rfl
theorem xER{l:List ByteArray}{n:Nat}(h:n<l.length):aS (l.map txV) n 0=l[n]:=by
 unfold aS
 rw[yUa h];rfl
theorem yKI(l:List Int):yCF (l.map inV)=true:=xFX fun _=>rfl
theorem yPW(l:Bs):yCF (l.map byV)=true:=xFX fun _=>rfl
theorem yNw(l:List ByteArray):yCF (l.map txV)=true:=xFX fun _=>rfl
theorem yXF(s:ByteArray):yCe s=s.data.toList.map byV:=rfl
theorem yHx(b:Bs):yHk (b.map byV)=mkS b:=by
 unfold yHk mkS
 rw[yOk,Option.getD_some,List.map_map]
 congr 2
 conv=>rhs;rw[←List.map_id b]
 refine List.map_congr_left fun c _=>?_
 show UInt8.ofNat ((c.toNat:Int)).toNat=c
 rw[Int.toNat_natCast];exact UInt8.ofNat_toNat
theorem yOl(b:Bs):(bytesOf (b.map byV)).isSome=true:=by rw[yOk];rfl
theorem xEU{s:ByteArray}{i:Nat}(h:i<s.size):(((s[i]?).getD 0).toNat:Int)=(s.data.toList[i]'(by simpa using h)).toNat:=by
 rw[yTk s i h]
 simp[h]
section
variable {α σ A B:Type}
theorem yJg{F:σ->(σ->Option α)->(A->Option α)->Option α}(I:σ->Prop)(m:σ->Nat)(PA:A->Prop)
  (h:∀s,I s->(∃s',I s'/\m s'<m s/\∀kn ka,F s kn ka=kn s')\/(∃a,PA a/\∀kn ka,F s kn ka=ka a)):
  ∀(L:Nat) (s:σ),I s->m s<L->∃a,PA a/\∀ka,yBV F L s ka=ka a
 | 0,_,_,hm=>absurd hm (Nat.not_lt_zero _)
 | L+1,s,hs,hm=>by
   rcases h s hs with ⟨s',h1,h2,h3⟩ | ⟨a,h1,h2⟩
   ·obtain⟨a,k1,k2⟩:=yJg I m PA h L s' h1 (by omega)
    exact⟨a,k1,fun ka=>(h3 _ ka).trans (k2 ka)⟩
   ·exact⟨a,h1,fun ka=>h2 _ ka⟩
theorem yNQ{F:σ->(σ->Option α)->(A->Option α)->(B->Option α)->Option α}(I:σ->Prop)(m:σ->Nat)(PA:A->Prop)(PB:B->Prop)
  (h:∀s,I s->(∃s',I s'/\m s'<m s/\∀kn ka kb,F s kn ka kb=kn s')\/(∃a,PA a/\∀kn ka kb,F s kn ka kb=ka a)\/(∃b,PB b/\∀kn ka kb,F s kn ka kb=kb b)):
  ∀(L:Nat) (s:σ),I s->m s<L->(∃a,PA a/\∀ka kb,yAQ F L s ka kb=ka a)\/(∃b,PB b/\∀ka kb,yAQ F L s ka kb=kb b)
 | 0,_,_,hm=>absurd hm (Nat.not_lt_zero _)
 | L+1,s,hs,hm=>by
   rcases h s hs with ⟨s',h1,h2,h3⟩ | ⟨a,h1,h2⟩ | ⟨b,h1,h2⟩
   ·rcases yNQ I m PA PB h L s' h1 (by omega) with ⟨a,k1,k2⟩ | ⟨b,k1,k2⟩
    ·exact .inl ⟨a,k1,fun ka kb=>(h3 _ ka kb).trans (k2 ka kb)⟩
    ·exact .inr ⟨b,k1,fun ka kb=>(h3 _ ka kb).trans (k2 ka kb)⟩
   ·exact .inl ⟨a,h1,fun ka kb=>h2 _ ka kb⟩
   ·exact .inr ⟨b,h1,fun ka kb=>h2 _ ka kb⟩
end
end Go.Proofs.YtakljpcmbpaeaaaGreat
