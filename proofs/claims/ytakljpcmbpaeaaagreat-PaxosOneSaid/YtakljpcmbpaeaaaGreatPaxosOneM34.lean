/- Structures. (printed by wip/sx) -/
import Derived.Test.YtakljpcmbpaeaaaGreatPaxosOneM33
import Derived.Test.YtakljpcmbpaeaaaGreatChecked
import Derived.Test.YtakljpcmbpaeaaaGreatPaxosOneM23
import Derived.Test.YtakljpcmbpaeaaaGreatPaxosOneM01
set_option linter.unusedSimpArgs false
set_option linter.unusedVariables false
namespace Go.Proofs.YtakljpcmbpaeaaaGreat
open Go.RowKit
structure yAN where
 Nodes:Int
 Slots:Int
 Blocks:Int
 Per:Int
 Journal:Int
 Log:Int
 Lease:Int
 Wait:Int
def yAN.cs(x:yAN):List V:= [V.int .i64 x.Nodes,V.int .i64 x.Slots,V.int .i64 x.Blocks,V.int .i64 x.Per,V.int .i64 x.Journal,V.int .i64 x.Log,V.int .i64 x.Lease,V.int .i64 x.Wait]
def yAN.of(l:List V):yAN:=⟨asI (cell [l] 0 0),asI (cell [l] 0 1),asI (cell [l] 0 2),asI (cell [l] 0 3),asI (cell [l] 0 4),asI (cell [l] 0 5),asI (cell [l] 0 6),asI (cell [l] 0 7)⟩
def yAN.ks:List Kc:= [.i .i64,.i .i64,.i .i64,.i .i64,.i .i64,.i .i64,.i .i64,.i .i64]
theorem yAN.h(l:List V):yAN.cs (yAN.of l)=etaSeg yAN.ks [l] 0 0:=rfl
def yCS:Cd yAN:=cdA yAN.ks yAN.cs yAN.of yAN.h
abbrev yXs:Ca yAN:=caA yAN.ks yAN.cs yAN.of yAN.h
abbrev yLm:Mx yAN:=mO (zS 8 yXs) 8
def yAN.z:yAN:=⟨0,0,0,0,0,0,0,0⟩
structure yAA where
 S:List (List V)
 Cache:List (List V)
 Keys:List (List V)
 Next:Int
 Fenced:List (List V)
def yAA.cs(x:yAA):List V:= [V.sl x.S false,V.sl x.Cache false,V.sl x.Keys false,V.int .i64 x.Next,V.sl x.Fenced false]
def yAA.of(l:List V):yAA:=⟨asR (cell [l] 0 0),asR (cell [l] 0 1),asR (cell [l] 0 2),asI (cell [l] 0 3),asR (cell [l] 0 4)⟩
def yAA.ks:List Kc:= [.m,.m,.m,.i .i64,.m]
theorem yAA.h(l:List V):yAA.cs (yAA.of l)=etaSeg yAA.ks [l] 0 0:=rfl
def yBx:Cd yAA:=cdA yAA.ks yAA.cs yAA.of yAA.h
abbrev yQ2:Ca yAA:=caA yAA.ks yAA.cs yAA.of yAA.h
abbrev yAF:Mx yAA:=mO (zS 5 yQ2) 5
def yAA.z:yAA:=⟨[],[],[],0,[]⟩
structure yAC where
 Slots:List (List V)
 Holds:List (List V)
 Queue:List (List V)
def yAC.cs(x:yAC):List V:= [V.sl x.Slots false,V.sl x.Holds false,V.sl x.Queue false]
def yAC.of(l:List V):yAC:=⟨asR (cell [l] 0 0),asR (cell [l] 0 1),asR (cell [l] 0 2)⟩
def yAC.ks:List Kc:= [.m,.m,.m]
theorem yAC.h(l:List V):yAC.cs (yAC.of l)=etaSeg yAC.ks [l] 0 0:=rfl
def yCp:Cd yAC:=cdA yAC.ks yAC.cs yAC.of yAC.h
abbrev yXk:Ca yAC:=caA yAC.ks yAC.cs yAC.of yAC.h
abbrev yDt:Mx yAC:=mO (zS 3 yXk) 3
def yAC.z:yAC:=⟨[],[],[]⟩
structure yAG where
 Lo:Int
 Hi:Int
def yAG.cs(x:yAG):List V:= [V.int .i64 x.Lo,V.int .i64 x.Hi]
def yAG.of(l:List V):yAG:=⟨asI (cell [l] 0 0),asI (cell [l] 0 1)⟩
def yAG.ks:List Kc:= [.i .i64,.i .i64]
theorem yAG.h(l:List V):yAG.cs (yAG.of l)=etaSeg yAG.ks [l] 0 0:=rfl
def yM6:Cd yAG:=cdA yAG.ks yAG.cs yAG.of yAG.h
abbrev yS5:Ca yAG:=caA yAG.ks yAG.cs yAG.of yAG.h
abbrev yXh:Mx yAG:=mO (zS 2 yS5) 2
def yAG.z:yAG:=⟨0,0⟩
structure yBG where
 Inst:Int
 Mbal:Int
 Bal:Int
 Val:ByteArray
def yBG.cs(x:yBG):List V:= [V.int .i64 x.Inst,V.int .i64 x.Mbal,V.int .i64 x.Bal,V.str x.Val]
def yBG.of(l:List V):yBG:=⟨asI (cell [l] 0 0),asI (cell [l] 0 1),asI (cell [l] 0 2),asS (cell [l] 0 3)⟩
def yBG.ks:List Kc:= [.i .i64,.i .i64,.i .i64,.s]
theorem yBG.h(l:List V):yBG.cs (yBG.of l)=etaSeg yBG.ks [l] 0 0:=rfl
def yVp:Cd yBG:=cdA yBG.ks yBG.cs yBG.of yBG.h
def yBG.z:yBG:=⟨0,0,0,noS⟩
structure yAg where
 Inst:Int
 Mbal:Int
 Best:Int
 Val:ByteArray
 Seen:Int
 Ahead:Bool
 Lost:Bool
def yAg.cs(x:yAg):List V:= [V.int .i64 x.Inst,V.int .i64 x.Mbal,V.int .i64 x.Best,V.str x.Val,V.int .i64 x.Seen,V.bool x.Ahead,V.bool x.Lost]
def yAg.of(l:List V):yAg:=⟨asI (cell [l] 0 0),asI (cell [l] 0 1),asI (cell [l] 0 2),asS (cell [l] 0 3),asI (cell [l] 0 4),asB (cell [l] 0 5),asB (cell [l] 0 6)⟩
def yAg.ks:List Kc:= [.i .i64,.i .i64,.i .i64,.s,.i .i64,.b,.b]
theorem yAg.h(l:List V):yAg.cs (yAg.of l)=etaSeg yAg.ks [l] 0 0:=rfl
def yXT:Cd yAg:=cdA yAg.ks yAg.cs yAg.of yAg.h
def yAg.z:yAg:=⟨0,0,0,noS,0,false,false⟩
structure yAR where
 Node:Int
 Cmd:ByteArray
 At:Int
 I:Int
 Own:yBG
 T:yAg
def yAR.cs(x:yAR):List V:= [V.int .i64 x.Node,V.str x.Cmd,V.int .i8 x.At,V.int .i64 x.I,V.int .i64 x.Own.Inst,V.int .i64 x.Own.Mbal,V.int .i64 x.Own.Bal,V.str x.Own.Val,V.int .i64 x.T.Inst,V.int .i64 x.T.Mbal,V.int .i64 x.T.Best,V.str x.T.Val,V.int .i64 x.T.Seen,V.bool x.T.Ahead,V.bool x.T.Lost]
def yAR.of(l:List V):yAR:=⟨asI (cell [l] 0 0),asS (cell [l] 0 1),asI (cell [l] 0 2),asI (cell [l] 0 3),⟨asI (cell [l] 0 4),asI (cell [l] 0 5),asI (cell [l] 0 6),asS (cell [l] 0 7)⟩,⟨asI (cell [l] 0 8),asI (cell [l] 0 9),asI (cell [l] 0 10),asS (cell [l] 0 11),asI (cell [l] 0 12),asB (cell [l] 0 13),asB (cell [l] 0 14)⟩⟩
def yAR.ks:List Kc:= [.i .i64,.s,.i .i8,.i .i64,.i .i64,.i .i64,.i .i64,.s,.i .i64,.i .i64,.i .i64,.s,.i .i64,.b,.b]
theorem yAR.h(l:List V):yAR.cs (yAR.of l)=etaSeg yAR.ks [l] 0 0:=rfl
def yS6:Cd yAR:=cdA yAR.ks yAR.cs yAR.of yAR.h
abbrev yXn:Ca yAR:=caA yAR.ks yAR.cs yAR.of yAR.h
abbrev yXp:Mx yAR:=mO (zS 15 yXn) 15
def yAR.z:yAR:=⟨0,noS,0,0,⟨0,0,0,noS⟩,⟨0,0,0,noS,0,false,false⟩⟩
structure yA5 where
 Kind:Int
 Sector:Int
 B:ByteArray
 Key:Int
def yA5.cs(x:yA5):List V:= [V.int .i8 x.Kind,V.int .i64 x.Sector,V.str x.B,V.int .i64 x.Key]
def yA5.of(l:List V):yA5:=⟨asI (cell [l] 0 0),asI (cell [l] 0 1),asS (cell [l] 0 2),asI (cell [l] 0 3)⟩
def yA5.ks:List Kc:= [.i .i8,.i .i64,.s,.i .i64]
theorem yA5.h(l:List V):yA5.cs (yA5.of l)=etaSeg yA5.ks [l] 0 0:=rfl
def yNZ:Cd yA5:=cdA yA5.ks yA5.cs yA5.of yA5.h
abbrev yXq:Ca yA5:=caA yA5.ks yA5.cs yA5.of yA5.h
abbrev yII:Mx yA5:=mO (zS 4 yXq) 4
def yA5.z:yA5:=⟨0,0,noS,0⟩
structure yAE where
 Kind:Int
 By:Int
 Serial:Int
 Dead:Int
 Was:Int
 Span:yAG
 Mode:Int
def yAE.cs(x:yAE):List V:= [V.int .i8 x.Kind,V.int .i64 x.By,V.int .i64 x.Serial,V.int .i64 x.Dead,V.int .i64 x.Was,V.int .i64 x.Span.Lo,V.int .i64 x.Span.Hi,V.int .i8 x.Mode]
def yAE.of(l:List V):yAE:=⟨asI (cell [l] 0 0),asI (cell [l] 0 1),asI (cell [l] 0 2),asI (cell [l] 0 3),asI (cell [l] 0 4),⟨asI (cell [l] 0 5),asI (cell [l] 0 6)⟩,asI (cell [l] 0 7)⟩
def yAE.ks:List Kc:= [.i .i8,.i .i64,.i .i64,.i .i64,.i .i64,.i .i64,.i .i64,.i .i8]
theorem yAE.h(l:List V):yAE.cs (yAE.of l)=etaSeg yAE.ks [l] 0 0:=rfl
def yMp:Cd yAE:=cdA yAE.ks yAE.cs yAE.of yAE.h
abbrev yXr:Ca yAE:=caA yAE.ks yAE.cs yAE.of yAE.h
abbrev yOs:Mx yAE:=mO (zS 8 yXr) 8
def yAE.z:yAE:=⟨0,0,0,0,0,⟨0,0⟩,0⟩
structure yAB where
 t_:yAC
 done_:Int
 serial_:Int
 on_:Bool
 p_:yAR
def yAB.cs(x:yAB):List V:= [V.sl x.t_.Slots false,V.sl x.t_.Holds false,V.sl x.t_.Queue false,V.int .i64 x.done_,V.int .i64 x.serial_,V.bool x.on_,V.int .i64 x.p_.Node,V.str x.p_.Cmd,V.int .i8 x.p_.At,V.int .i64 x.p_.I,V.int .i64 x.p_.Own.Inst,V.int .i64 x.p_.Own.Mbal,V.int .i64 x.p_.Own.Bal,V.str x.p_.Own.Val,V.int .i64 x.p_.T.Inst,V.int .i64 x.p_.T.Mbal,V.int .i64 x.p_.T.Best,V.str x.p_.T.Val,V.int .i64 x.p_.T.Seen,V.bool x.p_.T.Ahead,V.bool x.p_.T.Lost]
def yAB.of(l:List V):yAB:=⟨⟨asR (cell [l] 0 0),asR (cell [l] 0 1),asR (cell [l] 0 2)⟩,asI (cell [l] 0 3),asI (cell [l] 0 4),asB (cell [l] 0 5),⟨asI (cell [l] 0 6),asS (cell [l] 0 7),asI (cell [l] 0 8),asI (cell [l] 0 9),⟨asI (cell [l] 0 10),asI (cell [l] 0 11),asI (cell [l] 0 12),asS (cell [l] 0 13)⟩,⟨asI (cell [l] 0 14),asI (cell [l] 0 15),asI (cell [l] 0 16),asS (cell [l] 0 17),asI (cell [l] 0 18),asB (cell [l] 0 19),asB (cell [l] 0 20)⟩⟩⟩
def yAB.ks:List Kc:= [.m,.m,.m,.i .i64,.i .i64,.b,.i .i64,.s,.i .i8,.i .i64,.i .i64,.i .i64,.i .i64,.s,.i .i64,.i .i64,.i .i64,.s,.i .i64,.b,.b]
abbrev yNd:List Kc:= [.l,.l,.l,.i .i64,.i .i64,.b,.i .i64,.s,.i .i8,.i .i64,.i .i64,.i .i64,.i .i64,.s,.i .i64,.i .i64,.i .i64,.s,.i .i64,.b,.b]
theorem yAB.h(l:List V):yAB.cs (yAB.of l)=etaSeg yAB.ks [l] 0 0:=rfl
def yGW:Cd yAB:=cdA yAB.ks yAB.cs yAB.of yAB.h
abbrev yRa:Ca yAB:=caA yAB.ks yAB.cs yAB.of yAB.h
abbrev yDC:Mx yAB:=mO (zS 21 yRa) 21
def yAB.z:yAB:=⟨⟨[],[],[]⟩,0,0,false,⟨0,noS,0,0,⟨0,0,0,noS⟩,⟨0,0,0,noS,0,false,false⟩⟩⟩
structure yHE where
 P:yAR
 T:yAC
 Done:Int
 Acts:Int
 Over:Bool
def yHE.cs(x:yHE):List V:= [V.int .i64 x.P.Node,V.str x.P.Cmd,V.int .i8 x.P.At,V.int .i64 x.P.I,V.int .i64 x.P.Own.Inst,V.int .i64 x.P.Own.Mbal,V.int .i64 x.P.Own.Bal,V.str x.P.Own.Val,V.int .i64 x.P.T.Inst,V.int .i64 x.P.T.Mbal,V.int .i64 x.P.T.Best,V.str x.P.T.Val,V.int .i64 x.P.T.Seen,V.bool x.P.T.Ahead,V.bool x.P.T.Lost,V.sl x.T.Slots false,V.sl x.T.Holds false,V.sl x.T.Queue false,V.int .i64 x.Done,V.int .i64 x.Acts,V.bool x.Over]
def yHE.of(l:List V):yHE:=⟨⟨asI (cell [l] 0 0),asS (cell [l] 0 1),asI (cell [l] 0 2),asI (cell [l] 0 3),⟨asI (cell [l] 0 4),asI (cell [l] 0 5),asI (cell [l] 0 6),asS (cell [l] 0 7)⟩,⟨asI (cell [l] 0 8),asI (cell [l] 0 9),asI (cell [l] 0 10),asS (cell [l] 0 11),asI (cell [l] 0 12),asB (cell [l] 0 13),asB (cell [l] 0 14)⟩⟩,⟨asR (cell [l] 0 15),asR (cell [l] 0 16),asR (cell [l] 0 17)⟩,asI (cell [l] 0 18),asI (cell [l] 0 19),asB (cell [l] 0 20)⟩
def yHE.ks:List Kc:= [.i .i64,.s,.i .i8,.i .i64,.i .i64,.i .i64,.i .i64,.s,.i .i64,.i .i64,.i .i64,.s,.i .i64,.b,.b,.m,.m,.m,.i .i64,.i .i64,.b]
theorem yHE.h(l:List V):yHE.cs (yHE.of l)=etaSeg yHE.ks [l] 0 0:=rfl
def yXu:Cd yHE:=cdA yHE.ks yHE.cs yHE.of yHE.h
abbrev yXt:Ca yHE:=caA yHE.ks yHE.cs yHE.of yHE.h
abbrev yXm:Mx yHE:=mO (zS 21 yXt) 21
def yHE.z:yHE:=⟨⟨0,noS,0,0,⟨0,0,0,noS⟩,⟨0,0,0,noS,0,false,false⟩⟩,⟨[],[],[]⟩,0,0,false⟩
structure yES where
 Sector:Int
 B:ByteArray
def yES.cs(x:yES):List V:= [V.int .i64 x.Sector,V.str x.B]
def yES.of(l:List V):yES:=⟨asI (cell [l] 0 0),asS (cell [l] 0 1)⟩
def yES.ks:List Kc:= [.i .i64,.s]
theorem yES.h(l:List V):yES.cs (yES.of l)=etaSeg yES.ks [l] 0 0:=rfl
def yES.z:yES:=⟨0,noS⟩
structure yJT where
 Key:Int
 Claim:Int
def yJT.cs(x:yJT):List V:= [V.int .i64 x.Key,V.int .i64 x.Claim]
def yJT.of(l:List V):yJT:=⟨asI (cell [l] 0 0),asI (cell [l] 0 1)⟩
def yJT.ks:List Kc:= [.i .i64,.i .i64]
theorem yJT.h(l:List V):yJT.cs (yJT.of l)=etaSeg yJT.ks [l] 0 0:=rfl
def yXo:Cd yJT:=cdA yJT.ks yJT.cs yJT.of yJT.h
def yJT.z:yJT:=⟨0,0⟩
structure yAK where
 Prop_:yAR
 g_:yAN
 t_:yAC
 done_:Int
 over_:Bool
def yAK.cs(x:yAK):List V:= [V.int .i64 x.Prop_.Node,V.str x.Prop_.Cmd,V.int .i8 x.Prop_.At,V.int .i64 x.Prop_.I,V.int .i64 x.Prop_.Own.Inst,V.int .i64 x.Prop_.Own.Mbal,V.int .i64 x.Prop_.Own.Bal,V.str x.Prop_.Own.Val,V.int .i64 x.Prop_.T.Inst,V.int .i64 x.Prop_.T.Mbal,V.int .i64 x.Prop_.T.Best,V.str x.Prop_.T.Val,V.int .i64 x.Prop_.T.Seen,V.bool x.Prop_.T.Ahead,V.bool x.Prop_.T.Lost,V.int .i64 x.g_.Nodes,V.int .i64 x.g_.Slots,V.int .i64 x.g_.Blocks,V.int .i64 x.g_.Per,V.int .i64 x.g_.Journal,V.int .i64 x.g_.Log,V.int .i64 x.g_.Lease,V.int .i64 x.g_.Wait,V.sl x.t_.Slots false,V.sl x.t_.Holds false,V.sl x.t_.Queue false,V.int .i64 x.done_,V.bool x.over_]
def yAK.of(l:List V):yAK:=⟨⟨asI (cell [l] 0 0),asS (cell [l] 0 1),asI (cell [l] 0 2),asI (cell [l] 0 3),⟨asI (cell [l] 0 4),asI (cell [l] 0 5),asI (cell [l] 0 6),asS (cell [l] 0 7)⟩,⟨asI (cell [l] 0 8),asI (cell [l] 0 9),asI (cell [l] 0 10),asS (cell [l] 0 11),asI (cell [l] 0 12),asB (cell [l] 0 13),asB (cell [l] 0 14)⟩⟩,⟨asI (cell [l] 0 15),asI (cell [l] 0 16),asI (cell [l] 0 17),asI (cell [l] 0 18),asI (cell [l] 0 19),asI (cell [l] 0 20),asI (cell [l] 0 21),asI (cell [l] 0 22)⟩,⟨asR (cell [l] 0 23),asR (cell [l] 0 24),asR (cell [l] 0 25)⟩,asI (cell [l] 0 26),asB (cell [l] 0 27)⟩
def yAK.ks:List Kc:= [.i .i64,.s,.i .i8,.i .i64,.i .i64,.i .i64,.i .i64,.s,.i .i64,.i .i64,.i .i64,.s,.i .i64,.b,.b,.i .i64,.i .i64,.i .i64,.i .i64,.i .i64,.i .i64,.i .i64,.i .i64,.m,.m,.m,.i .i64,.b]
theorem yAK.h(l:List V):yAK.cs (yAK.of l)=etaSeg yAK.ks [l] 0 0:=rfl
abbrev yGA:Ca yAK:=caA yAK.ks yAK.cs yAK.of yAK.h
def yAK.z:yAK:=⟨⟨0,noS,0,0,⟨0,0,0,noS⟩,⟨0,0,0,noS,0,false,false⟩⟩,⟨0,0,0,0,0,0,0,0⟩,⟨[],[],[]⟩,0,false⟩
structure yAI where
 Key:Int
 Span:yAG
 Mode:Int
def yAI.cs(x:yAI):List V:= [V.int .i64 x.Key,V.int .i64 x.Span.Lo,V.int .i64 x.Span.Hi,V.int .i8 x.Mode]
def yAI.of(l:List V):yAI:=⟨asI (cell [l] 0 0),⟨asI (cell [l] 0 1),asI (cell [l] 0 2)⟩,asI (cell [l] 0 3)⟩
def yAI.ks:List Kc:= [.i .i64,.i .i64,.i .i64,.i .i8]
theorem yAI.h(l:List V):yAI.cs (yAI.of l)=etaSeg yAI.ks [l] 0 0:=rfl
def yO7:Cd yAI:=cdA yAI.ks yAI.cs yAI.of yAI.h
abbrev yS4:Ca yAI:=caA yAI.ks yAI.cs yAI.of yAI.h
abbrev yWr:Mx yAI:=mO (zS 4 yS4) 4
def yAI.z:yAI:=⟨0,⟨0,0⟩,0⟩
structure yAJ where
 Device:yAA
def yAJ.cs(x:yAJ):List V:= [V.sl x.Device.S false,V.sl x.Device.Cache false,V.sl x.Device.Keys false,V.int .i64 x.Device.Next,V.sl x.Device.Fenced false]
def yAJ.of(l:List V):yAJ:=⟨⟨asR (cell [l] 0 0),asR (cell [l] 0 1),asR (cell [l] 0 2),asI (cell [l] 0 3),asR (cell [l] 0 4)⟩⟩
def yAJ.ks:List Kc:= [.m,.m,.m,.i .i64,.m]
theorem yAJ.h(l:List V):yAJ.cs (yAJ.of l)=etaSeg yAJ.ks [l] 0 0:=rfl
abbrev yBT:Ca yAJ:=caA yAJ.ks yAJ.cs yAJ.of yAJ.h
def yAJ.z:yAJ:=⟨⟨[],[],[],0,[]⟩⟩
structure yAh where
 first_:Int
 many_:Int
def yAh.cs(x:yAh):List V:= [V.int .i64 x.first_,V.int .i64 x.many_]
def yAh.of(l:List V):yAh:=⟨asI (cell [l] 0 0),asI (cell [l] 0 1)⟩
def yAh.ks:List Kc:= [.i .i64,.i .i64]
theorem yAh.h(l:List V):yAh.cs (yAh.of l)=etaSeg yAh.ks [l] 0 0:=rfl
def yT5:Cd yAh:=cdA yAh.ks yAh.cs yAh.of yAh.h
def yAh.z:yAh:=⟨0,0⟩
structure yAH where
 stretch_:yAh
 kind_:Int
 per_:Int
def yAH.cs(x:yAH):List V:= [V.int .i64 x.stretch_.first_,V.int .i64 x.stretch_.many_,V.int .i8 x.kind_,V.int .i64 x.per_]
def yAH.of(l:List V):yAH:=⟨⟨asI (cell [l] 0 0),asI (cell [l] 0 1)⟩,asI (cell [l] 0 2),asI (cell [l] 0 3)⟩
def yAH.ks:List Kc:= [.i .i64,.i .i64,.i .i8,.i .i64]
theorem yAH.h(l:List V):yAH.cs (yAH.of l)=etaSeg yAH.ks [l] 0 0:=rfl
def yU4:Cd yAH:=cdA yAH.ks yAH.cs yAH.of yAH.h
abbrev yU2:Ca yAH:=caA yAH.ks yAH.cs yAH.of yAH.h
abbrev yN4:Mx yAH:=mO (zS 4 yU2) 4
def yAH.z:yAH:=⟨⟨0,0⟩,0,0⟩
structure yAD where
 s_:ByteArray
 bad_:Bool
def yAD.cs(x:yAD):List V:= [V.str x.s_,V.bool x.bad_]
def yAD.of(l:List V):yAD:=⟨asS (cell [l] 0 0),asB (cell [l] 0 1)⟩
def yAD.ks:List Kc:= [.s,.b]
theorem yAD.h(l:List V):yAD.cs (yAD.of l)=etaSeg yAD.ks [l] 0 0:=rfl
abbrev ySM:Ca yAD:=caA yAD.ks yAD.cs yAD.of yAD.h
abbrev yDZ:Mx yAD:=mO (zS 2 ySM) 2
def yAD.z:yAD:=⟨noS,false⟩
structure yAk where
 Cmd:yAE
 b_:List (List V)
def yAk.cs(x:yAk):List V:= [V.int .i8 x.Cmd.Kind,V.int .i64 x.Cmd.By,V.int .i64 x.Cmd.Serial,V.int .i64 x.Cmd.Dead,V.int .i64 x.Cmd.Was,V.int .i64 x.Cmd.Span.Lo,V.int .i64 x.Cmd.Span.Hi,V.int .i8 x.Cmd.Mode,V.sl x.b_ false]
def yAk.of(l:List V):yAk:=⟨⟨asI (cell [l] 0 0),asI (cell [l] 0 1),asI (cell [l] 0 2),asI (cell [l] 0 3),asI (cell [l] 0 4),⟨asI (cell [l] 0 5),asI (cell [l] 0 6)⟩,asI (cell [l] 0 7)⟩,asR (cell [l] 0 8)⟩
def yAk.ks:List Kc:= [.i .i8,.i .i64,.i .i64,.i .i64,.i .i64,.i .i64,.i .i64,.i .i8,.m]
theorem yAk.h(l:List V):yAk.cs (yAk.of l)=etaSeg yAk.ks [l] 0 0:=rfl
abbrev ySL:Ca yAk:=caA yAk.ks yAk.cs yAk.of yAk.h
def yAk.z:yAk:=⟨⟨0,0,0,0,0,⟨0,0⟩,0⟩,[]⟩
structure yAV where
 Rec:yBG
def yAV.cs(x:yAV):List V:= [V.int .i64 x.Rec.Inst,V.int .i64 x.Rec.Mbal,V.int .i64 x.Rec.Bal,V.str x.Rec.Val]
def yAV.of(l:List V):yAV:=⟨⟨asI (cell [l] 0 0),asI (cell [l] 0 1),asI (cell [l] 0 2),asS (cell [l] 0 3)⟩⟩
def yAV.ks:List Kc:= [.i .i64,.i .i64,.i .i64,.s]
theorem yAV.h(l:List V):yAV.cs (yAV.of l)=etaSeg yAV.ks [l] 0 0:=rfl
abbrev yLE:Ca yAV:=caA yAV.ks yAV.cs yAV.of yAV.h
def yAV.z:yAV:=⟨⟨0,0,0,noS⟩⟩
structure yAO where
 Tally:yAg
def yAO.cs(x:yAO):List V:= [V.int .i64 x.Tally.Inst,V.int .i64 x.Tally.Mbal,V.int .i64 x.Tally.Best,V.str x.Tally.Val,V.int .i64 x.Tally.Seen,V.bool x.Tally.Ahead,V.bool x.Tally.Lost]
def yAO.of(l:List V):yAO:=⟨⟨asI (cell [l] 0 0),asI (cell [l] 0 1),asI (cell [l] 0 2),asS (cell [l] 0 3),asI (cell [l] 0 4),asB (cell [l] 0 5),asB (cell [l] 0 6)⟩⟩
def yAO.ks:List Kc:= [.i .i64,.i .i64,.i .i64,.s,.i .i64,.b,.b]
theorem yAO.h(l:List V):yAO.cs (yAO.of l)=etaSeg yAO.ks [l] 0 0:=rfl
abbrev yO6:Ca yAO:=caA yAO.ks yAO.cs yAO.of yAO.h
abbrev yPK:Mx yAO:=mR (zS 7 yO6) 7
def yAO.z:yAO:=⟨⟨0,0,0,noS,0,false,false⟩⟩
structure yBA where
 Table:yAC
 g_:yAN
def yBA.cs(x:yBA):List V:= [V.sl x.Table.Slots false,V.sl x.Table.Holds false,V.sl x.Table.Queue false,V.int .i64 x.g_.Nodes,V.int .i64 x.g_.Slots,V.int .i64 x.g_.Blocks,V.int .i64 x.g_.Per,V.int .i64 x.g_.Journal,V.int .i64 x.g_.Log,V.int .i64 x.g_.Lease,V.int .i64 x.g_.Wait]
def yBA.of(l:List V):yBA:=⟨⟨asR (cell [l] 0 0),asR (cell [l] 0 1),asR (cell [l] 0 2)⟩,⟨asI (cell [l] 0 3),asI (cell [l] 0 4),asI (cell [l] 0 5),asI (cell [l] 0 6),asI (cell [l] 0 7),asI (cell [l] 0 8),asI (cell [l] 0 9),asI (cell [l] 0 10)⟩⟩
def yBA.ks:List Kc:= [.m,.m,.m,.i .i64,.i .i64,.i .i64,.i .i64,.i .i64,.i .i64,.i .i64,.i .i64]
theorem yBA.h(l:List V):yBA.cs (yBA.of l)=etaSeg yBA.ks [l] 0 0:=rfl
abbrev yU3:Ca yBA:=caA yBA.ks yBA.cs yBA.of yBA.h
def yBA.z:yBA:=⟨⟨[],[],[]⟩,⟨0,0,0,0,0,0,0,0⟩⟩
structure yAa where
 Span:yAG
def yAa.cs(x:yAa):List V:= [V.int .i64 x.Span.Lo,V.int .i64 x.Span.Hi]
def yAa.of(l:List V):yAa:=⟨⟨asI (cell [l] 0 0),asI (cell [l] 0 1)⟩⟩
def yAa.ks:List Kc:= [.i .i64,.i .i64]
theorem yAa.h(l:List V):yAa.cs (yAa.of l)=etaSeg yAa.ks [l] 0 0:=rfl
def yM7:Cd yAa:=cdA yAa.ks yAa.cs yAa.of yAa.h
def yAa.z:yAa:=⟨⟨0,0⟩⟩
structure yBS where
 blocks_:yAa
 key_:Int
 mode_:Int
def yBS.cs(x:yBS):List V:= [V.int .i64 x.blocks_.Span.Lo,V.int .i64 x.blocks_.Span.Hi,V.int .i64 x.key_,V.int .i8 x.mode_]
def yBS.of(l:List V):yBS:=⟨⟨⟨asI (cell [l] 0 0),asI (cell [l] 0 1)⟩⟩,asI (cell [l] 0 2),asI (cell [l] 0 3)⟩
def yBS.ks:List Kc:= [.i .i64,.i .i64,.i .i64,.i .i8]
theorem yBS.h(l:List V):yBS.cs (yBS.of l)=etaSeg yBS.ks [l] 0 0:=rfl
def ySB:Cd yBS:=cdA yBS.ks yBS.cs yBS.of yBS.h
def yBS.z:yBS:=⟨⟨⟨0,0⟩⟩,0,0⟩
end Go.Proofs.YtakljpcmbpaeaaaGreat

namespace Go.Proofs.YtakljpcmbpaeaaaGreat
open Go.RowKit
def i64b(a:Int):Bool:=decide (-9223372036854775808≤a)&&decide (a≤9223372036854775807)
theorem i64b_d{a:Int}(h:i64b a=true): -9223372036854775808≤a∧a≤9223372036854775807:=by
 obtain⟨h1,h2⟩:=and_tt' h
 exact⟨of_decide_eq_true h1,of_decide_eq_true h2⟩
def inRD(r:List V):Int:=asI (r.headD .undef)
def byRD(r:List V):UInt8:=UInt8.ofNat (inRD r).toNat
def inRB(r:List V):Bool:=match r with
 | [.int .i64 _]=>true
 | _=>false
def byRB(r:List V):Bool:=match r with
 | [.int .u8 n]=>decide (0≤n)&&decide (n<256)
 | _=>false
theorem inRB_h{r:List V}(h:inRB r=true):inV (inRD r)=r:=by
 unfold inRB at h;split at h
 ·rfl
 ·cases h
theorem byRB_h{r:List V}(h:byRB r=true):byV (byRD r)=r:=by
 unfold byRB at h;split at h
 ·rename_i n
  obtain⟨h1,h2⟩:=and_tt' h
  have h1:=of_decide_eq_true h1
  have h2:=of_decide_eq_true h2
  show [V.int .u8 ((UInt8.ofNat n.toNat).toNat:Int)]=_
  have:(UInt8.ofNat n.toNat).toNat=n.toNat:=by
   rw [UInt8.toNat_ofNat'];omega
  rw [this,Int.toNat_of_nonneg h1]
 ·cases h
theorem rows_h{α:Type}{enc:α→List V}{d:List V→α}{b:List V→Bool}(hb:∀r,b r=true→enc (d r)=r){rs:List (List V)}(h:rs.all b=true):(rs.map d).map enc=rs:=by
 rw [List.map_map]
 conv=>rhs;rw [←List.map_id rs]
 exact List.map_congr_left fun r hr=>hb r (List.all_eq_true.1 h r hr)
theorem rows_all{α:Type}{enc:α→List V}{b:List V→Bool}(hb:∀a,b (enc a)=true)(l:List α):(l.map enc).all b=true:=List.all_eq_true.2 fun r hr=>by obtain⟨a,_,rfl⟩:=List.mem_map.1 hr;exact hb a
theorem rows_d{α:Type}{enc:α→List V}{d:List V→α}(hd:∀a,d (enc a)=a)(l:List α):(l.map enc).map d=l:=by
 rw [List.map_map]
 conv=>rhs;rw [←List.map_id l]
 exact List.map_congr_left fun a _=>hd a
theorem inRB_v(a:Int):inRB (inV a)=true:=rfl
theorem byRB_v(a:UInt8):byRB (byV a)=true:=by
 show(decide (0≤(a.toNat:Int))&&decide ((a.toNat:Int)<256))=true
 have:=a.toNat_lt
 rw [decide_eq_true (by omega),decide_eq_true (by omega)];rfl
theorem inRD_v(a:Int):inRD (inV a)=a:=rfl
theorem byRD_v(a:UInt8):byRD (byV a)=a:=by
 show UInt8.ofNat ((a.toNat:Int)).toNat=a
 rw [Int.toNat_natCast];exact UInt8.ofNat_toNat
def geoOf(x:yAN):Geo:=⟨x.Nodes,x.Slots,x.Blocks,x.Per,x.Journal,x.Log,x.Lease,x.Wait⟩
end Go.Proofs.YtakljpcmbpaeaaaGreat

namespace Go.Proofs.YtakljpcmbpaeaaaGreat
open Go.RowKit
theorem bif_t{α:Type}{c:Bool}{x y:α}(h:c=true):(bif c then x else y)=x:=by rw [h];rfl
theorem bif_f{α:Type}{c:Bool}{x y:α}(h:c=false):(bif c then x else y)=y:=by rw [h];rfl
theorem bindO_s{α β:Type}{b:β}{f:β→Option α}:bindO (some b) f=f b:=rfl
theorem wrap64{n:Int}(h1: -9223372036854775808≤n)(h2:n≤9223372036854775807):IntKind.i64.wrap n=n:=by
 unfold IntKind.wrap
 simp [IntKind.bits,IntKind.signed]
 omega
theorem w64_t{n:Int}(h1: -9223372036854775808≤n)(h2:n≤9223372036854775807):w64 n=n:=wrap64 h1 h2
section
variable {α:Type} {c:Bool} {x:Option α} {es:List (List V)} {ks:List Kc}
theorem gd_t(h:c=true):gd c x=x:=by subst h;rfl
theorem gB_t{n:Int}{m:Nat}(h0:0≤n)(h1:n<m):gB n m x=x:=by
 unfold gB
 rw [gd_t (decide_eq_true h0),gd_t (decide_eq_true h1)]
theorem gI_t{n:Int}(h0:0≤n)(h1:n<es.length)(h:rowIs ks es n.toNat=true):gI es ks n x=x:=by
 unfold gI
 rw [gd_t (decide_eq_true h0),gd_t (decide_eq_true h1),gd_t h]
theorem gL_t{i j:Nat}(h1:i<es.length)(h:segIs ks es i j=true):gL es ks i j x=x:=by
 unfold gL
 rw [gd_t (decide_eq_true h1),gd_t h]
theorem gF_t{n:Nat}(h1:n≤es.length)(h2:n≤2000000)(h:rowsNm es=true):gF es n x=x:=by
 unfold gF
 rw [gd_t (Nat.ble_eq_true_of_le h1),gd_t (Nat.ble_eq_true_of_le h2),gd_t h]
theorem gW_t{n:Nat}(h1:n=es.length)(h:rowsNm es=true):gW es n x=x:=by
 unfold gW
 rw [gd_t (by rw [h1];exact Nat.beq_refl _),gd_t h]
theorem gA_t{n:Nat}(h1:n=es.length)(h2:n≤2000000)(h:rowsNm es=true):gA es n x=x:=by
 subst h1
 unfold gA
 rw [gd_t (Nat.beq_refl _),gd_t (Nat.ble_eq_true_of_le h2),gd_t h]
theorem gM_t{m b:Nat}(h1:m*b≤140737488355328)(h2:m≤9223372036854775807):gM m b x=x:=by
 unfold gM
 rw [gd_t (decide_eq_true h1),gd_t (decide_eq_true h2)]
end
theorem getDr_at{es:List (List V)}{i:Nat}{r:List V}(h:es[i]?=some r):es.getD i []=r:=by
 rw [List.getD_eq_getElem?_getD,h];rfl
theorem cell_at{es:List (List V)}{i j:Nat}{r:List V}(h:es[i]?=some r):cell es i j=cell [r] 0 j:=by
 unfold cell
 rw [getDr_at h];rfl
theorem segIs_at{es:List (List V)}{i:Nat}{r:List V}(h:es[i]?=some r):∀(ks:List Kc) (j:Nat),segIs ks es i j=segIs ks [r] 0 j
 | [],j=>by unfold segIs;rw [getDr_at h];rfl
 | k::ks,j=>by unfold segIs;rw [cell_at h,segIs_at h ks]
theorem rowIs_at{es:List (List V)}{i:Nat}{r:List V}(ks:List Kc)(h:es[i]?=some r):rowIs ks es i=rowIs ks [r] 0:=by
 unfold rowIs
 rw [segIs_at h,getDr_at h];rfl
section
variable {β:Type} {enc:β→List V} {l:List β}
theorem map_at{i:Nat}(h:i<l.length):(l.map enc)[i]?=some (enc l[i]):=by
 rw [List.getElem?_map,List.getElem?_eq_getElem h];rfl
theorem rows_is(ks:List Kc)(he:∀a,rowIs ks [enc a] 0=true){i:Nat}(h:i<l.length):rowIs ks (l.map enc) i=true:=by
 rw [rowIs_at ks (map_at h)];exact he _
theorem rows_cell{i j:Nat}(h:i<l.length):cell (l.map enc) i j=cell [enc l[i]] 0 j:=cell_at (map_at h)
theorem rows_nm(he:∀a,rowsNm [enc a]=true):rowsNm (l.map enc)=true:=List.all_eq_true.2 fun r hr=>by
 obtain⟨a,_,rfl⟩:=List.mem_map.1 hr
 exact List.all_eq_true.1 (he a) _ (by simp)
theorem rows_sz(n:Nat)(he:∀a,(enc a).length=n):((l.map enc).all fun r=>Nat.beq r.length n)=true:=List.all_eq_true.2 fun r hr=>by
 obtain⟨a,_,rfl⟩:=List.mem_map.1 hr
 rw [he a];exact Nat.beq_refl _
end
theorem gI_in{α:Type}{x:Option α}{l:List Int}{n:Int}(h0:0≤n)(h1:n<l.length):gI (l.map inV) kI n x=x:=gI_t h0 (by rw [List.length_map];exact h1) (rows_is kI (fun _=>rfl) (by omega))
theorem gI_by{α:Type}{x:Option α}{l:Bs}{n:Int}(h0:0≤n)(h1:n<l.length):gI (l.map byV) kU n x=x:=gI_t h0 (by rw [List.length_map];exact h1) (rows_is kU (fun _=>rfl) (by omega))
theorem gI_tx{α:Type}{x:Option α}{l:List ByteArray}{n:Int}(h0:0≤n)(h1:n<l.length):gI (l.map txV) kS n x=x:=gI_t h0 (by rw [List.length_map];exact h1) (rows_is kS (fun _=>rfl) (by omega))
theorem aI_in{l:List Int}{n:Nat}(h:n<l.length):aI (l.map inV) n 0=l[n]:=by
 unfold aI
 rw [rows_cell h];rfl
theorem aI_by{l:Bs}{n:Nat}(h:n<l.length):aI (l.map byV) n 0=(l[n].toNat:Int):=by
 unfold aI
 rw [rows_cell h];rfl
theorem aS_tx{l:List ByteArray}{n:Nat}(h:n<l.length):aS (l.map txV) n 0=l[n]:=by
 unfold aS
 rw [rows_cell h];rfl
theorem nm_in(l:List Int):rowsNm (l.map inV)=true:=rows_nm fun _=>rfl
theorem nm_by(l:Bs):rowsNm (l.map byV)=true:=rows_nm fun _=>rfl
theorem nm_tx(l:List ByteArray):rowsNm (l.map txV)=true:=rows_nm fun _=>rfl
theorem rowsS_by(s:ByteArray):rowsS s=s.data.toList.map byV:=rfl
theorem bytesS_by(b:Bs):bytesS (b.map byV)=mkS b:=by
 unfold bytesS mkS
 rw [bytesOf_by,Option.getD_some,List.map_map]
 congr 2
 conv=>rhs;rw [←List.map_id b]
 refine List.map_congr_left fun c _=>?_
 show UInt8.ofNat ((c.toNat:Int)).toNat=c
 rw [Int.toNat_natCast];exact UInt8.ofNat_toNat
theorem bytesOf_is(b:Bs):(bytesOf (b.map byV)).isSome=true:=by rw [bytesOf_by];rfl
theorem at_byte{s:ByteArray}{i:Nat}(h:i<s.size):(((s[i]?).getD 0).toNat:Int)=(s.data.toList[i]'(by simpa using h)).toNat:=by
 rw [bytes_getElem s i h]
 simp [h]
section
variable {α σ A B:Type}
theorem loop1_run{F:σ→(σ→Option α)→(A→Option α)→Option α}(I:σ→Prop)(m:σ→Nat)(PA:A→Prop)
  (h:∀s,I s→(∃s',I s'∧m s'<m s∧∀kn ka,F s kn ka=kn s')∨(∃a,PA a∧∀kn ka,F s kn ka=ka a)):
  ∀(L:Nat) (s:σ),I s→m s<L→∃a,PA a∧∀ka,loop1 F L s ka=ka a
 | 0,_,_,hm=>absurd hm (Nat.not_lt_zero _)
 | L+1,s,hs,hm=>by
   rcases h s hs with ⟨s',h1,h2,h3⟩ | ⟨a,h1,h2⟩
   ·obtain⟨a,k1,k2⟩:=loop1_run I m PA h L s' h1 (by omega)
    exact⟨a,k1,fun ka=>(h3 _ ka).trans (k2 ka)⟩
   ·exact⟨a,h1,fun ka=>h2 _ ka⟩
theorem loop2_run{F:σ→(σ→Option α)→(A→Option α)→(B→Option α)→Option α}(I:σ→Prop)(m:σ→Nat)(PA:A→Prop)(PB:B→Prop)
  (h:∀s,I s→(∃s',I s'∧m s'<m s∧∀kn ka kb,F s kn ka kb=kn s')∨(∃a,PA a∧∀kn ka kb,F s kn ka kb=ka a)∨(∃b,PB b∧∀kn ka kb,F s kn ka kb=kb b)):
  ∀(L:Nat) (s:σ),I s→m s<L→(∃a,PA a∧∀ka kb,loop2 F L s ka kb=ka a)∨(∃b,PB b∧∀ka kb,loop2 F L s ka kb=kb b)
 | 0,_,_,hm=>absurd hm (Nat.not_lt_zero _)
 | L+1,s,hs,hm=>by
   rcases h s hs with ⟨s',h1,h2,h3⟩ | ⟨a,h1,h2⟩ | ⟨b,h1,h2⟩
   ·rcases loop2_run I m PA PB h L s' h1 (by omega) with ⟨a,k1,k2⟩ | ⟨b,k1,k2⟩
    ·exact .inl ⟨a,k1,fun ka kb=>(h3 _ ka kb).trans (k2 ka kb)⟩
    ·exact .inr ⟨b,k1,fun ka kb=>(h3 _ ka kb).trans (k2 ka kb)⟩
   ·exact .inl ⟨a,h1,fun ka kb=>h2 _ ka kb⟩
   ·exact .inr ⟨b,h1,fun ka kb=>h2 _ ka kb⟩
end
end Go.Proofs.YtakljpcmbpaeaaaGreat
