/- Structures. (printed by wip/sx) -/
import Derived.Test.YtakljpcmbpaeaaaGreatPaxosEndsM33
import Derived.Test.YtakljpcmbpaeaaaGreatChecked
import Derived.Test.YtakljpcmbpaeaaaGreatPaxosEndsM23
import Derived.Test.YtakljpcmbpaeaaaGreatPaxosEndsM01
set_option linter.unusedSimpArgs false
set_option linter.unusedVariables false
namespace Go.Proofs.YtakljpcmbpaeaaaGreat
open Go.RowKit
structure yAQ where
 Nodes:Int
 Slots:Int
 Blocks:Int
 Per:Int
 Journal:Int
 Log:Int
 Lease:Int
 Wait:Int
def yAQ.cs(x:yAQ):List V:= [V.int .i64 x.Nodes,V.int .i64 x.Slots,V.int .i64 x.Blocks,V.int .i64 x.Per,V.int .i64 x.Journal,V.int .i64 x.Log,V.int .i64 x.Lease,V.int .i64 x.Wait]
def yAQ.of(l:List V):yAQ:=⟨asI (cell [l] 0 0),asI (cell [l] 0 1),asI (cell [l] 0 2),asI (cell [l] 0 3),asI (cell [l] 0 4),asI (cell [l] 0 5),asI (cell [l] 0 6),asI (cell [l] 0 7)⟩
def yAQ.ks:List Kc:= [.i .i64,.i .i64,.i .i64,.i .i64,.i .i64,.i .i64,.i .i64,.i .i64]
theorem yAQ.h(l:List V):yAQ.cs (yAQ.of l)=etaSeg yAQ.ks [l] 0 0:=rfl
def yDX:Cd yAQ:=cdA yAQ.ks yAQ.cs yAQ.of yAQ.h
abbrev xLV:Ca yAQ:=caA yAQ.ks yAQ.cs yAQ.of yAQ.h
abbrev yRR:Mx yAQ:=mO (zS 8 xLV) 8
def yAQ.z:yAQ:=⟨0,0,0,0,0,0,0,0⟩
structure yAA where
 S:List (List V)
 Cache:List (List V)
 Keys:List (List V)
 Next:Int
 Fenced:List (List V)
def yAA.cs(x:yAA):List V:= [V.sl x.S false,V.sl x.Cache false,V.sl x.Keys false,V.int .i64 x.Next,V.sl x.Fenced false]
def yAA.of(l:List V):yAA:=⟨asR (cell [l] 0 0),asR (cell [l] 0 1),asR (cell [l] 0 2),asI (cell [l] 0 3),asR (cell [l] 0 4)⟩
def yAA.ks:List Kc:= [.m,.m,.m,.i .i64,.m]
theorem yAA.h(l:List V):yAA.cs (yAA.of l)=etaSeg yAA.ks [l] 0 0:=rfl
def yCY:Cd yAA:=cdA yAA.ks yAA.cs yAA.of yAA.h
abbrev ySQ:Ca yAA:=caA yAA.ks yAA.cs yAA.of yAA.h
abbrev yAI:Mx yAA:=mO (zS 5 ySQ) 5
def yAA.z:yAA:=⟨[],[],[],0,[]⟩
structure yAM where
 Slots:List (List V)
 Holds:List (List V)
 Queue:List (List V)
def yAM.cs(x:yAM):List V:= [V.sl x.Slots false,V.sl x.Holds false,V.sl x.Queue false]
def yAM.of(l:List V):yAM:=⟨asR (cell [l] 0 0),asR (cell [l] 0 1),asR (cell [l] 0 2)⟩
def yAM.ks:List Kc:= [.m,.m,.m]
theorem yAM.h(l:List V):yAM.cs (yAM.of l)=etaSeg yAM.ks [l] 0 0:=rfl
def yKl:Cd yAM:=cdA yAM.ks yAM.cs yAM.of yAM.h
abbrev xH8:Ca yAM:=caA yAM.ks yAM.cs yAM.of yAM.h
abbrev yYw:Mx yAM:=mO (zS 3 xH8) 3
def yAM.z:yAM:=⟨[],[],[]⟩
structure yAN where
 Lo:Int
 Hi:Int
def yAN.cs(x:yAN):List V:= [V.int .i64 x.Lo,V.int .i64 x.Hi]
def yAN.of(l:List V):yAN:=⟨asI (cell [l] 0 0),asI (cell [l] 0 1)⟩
def yAN.ks:List Kc:= [.i .i64,.i .i64]
theorem yAN.h(l:List V):yAN.cs (yAN.of l)=etaSeg yAN.ks [l] 0 0:=rfl
def yYZ:Cd yAN:=cdA yAN.ks yAN.cs yAN.of yAN.h
abbrev yYV:Ca yAN:=caA yAN.ks yAN.cs yAN.of yAN.h
def yAN.z:yAN:=⟨0,0⟩
structure yBI where
 Inst:Int
 Mbal:Int
 Bal:Int
 Val:ByteArray
def yBI.cs(x:yBI):List V:= [V.int .i64 x.Inst,V.int .i64 x.Mbal,V.int .i64 x.Bal,V.str x.Val]
def yBI.of(l:List V):yBI:=⟨asI (cell [l] 0 0),asI (cell [l] 0 1),asI (cell [l] 0 2),asS (cell [l] 0 3)⟩
def yBI.ks:List Kc:= [.i .i64,.i .i64,.i .i64,.s]
theorem yBI.h(l:List V):yBI.cs (yBI.of l)=etaSeg yBI.ks [l] 0 0:=rfl
def xAA:Cd yBI:=cdA yBI.ks yBI.cs yBI.of yBI.h
def yBI.z:yBI:=⟨0,0,0,noS⟩
structure yAm where
 Inst:Int
 Mbal:Int
 Best:Int
 Val:ByteArray
 Seen:Int
 Ahead:Bool
 Lost:Bool
def yAm.cs(x:yAm):List V:= [V.int .i64 x.Inst,V.int .i64 x.Mbal,V.int .i64 x.Best,V.str x.Val,V.int .i64 x.Seen,V.bool x.Ahead,V.bool x.Lost]
def yAm.of(l:List V):yAm:=⟨asI (cell [l] 0 0),asI (cell [l] 0 1),asI (cell [l] 0 2),asS (cell [l] 0 3),asI (cell [l] 0 4),asB (cell [l] 0 5),asB (cell [l] 0 6)⟩
def yAm.ks:List Kc:= [.i .i64,.i .i64,.i .i64,.s,.i .i64,.b,.b]
theorem yAm.h(l:List V):yAm.cs (yAm.of l)=etaSeg yAm.ks [l] 0 0:=rfl
def xDf:Cd yAm:=cdA yAm.ks yAm.cs yAm.of yAm.h
def yAm.z:yAm:=⟨0,0,0,noS,0,false,false⟩
structure yAO where
 Node:Int
 Cmd:ByteArray
 At:Int
 I:Int
 Own:yBI
 T:yAm
def yAO.cs(x:yAO):List V:= [V.int .i64 x.Node,V.str x.Cmd,V.int .i8 x.At,V.int .i64 x.I,V.int .i64 x.Own.Inst,V.int .i64 x.Own.Mbal,V.int .i64 x.Own.Bal,V.str x.Own.Val,V.int .i64 x.T.Inst,V.int .i64 x.T.Mbal,V.int .i64 x.T.Best,V.str x.T.Val,V.int .i64 x.T.Seen,V.bool x.T.Ahead,V.bool x.T.Lost]
def yAO.of(l:List V):yAO:=⟨asI (cell [l] 0 0),asS (cell [l] 0 1),asI (cell [l] 0 2),asI (cell [l] 0 3),⟨asI (cell [l] 0 4),asI (cell [l] 0 5),asI (cell [l] 0 6),asS (cell [l] 0 7)⟩,⟨asI (cell [l] 0 8),asI (cell [l] 0 9),asI (cell [l] 0 10),asS (cell [l] 0 11),asI (cell [l] 0 12),asB (cell [l] 0 13),asB (cell [l] 0 14)⟩⟩
def yAO.ks:List Kc:= [.i .i64,.s,.i .i8,.i .i64,.i .i64,.i .i64,.i .i64,.s,.i .i64,.i .i64,.i .i64,.s,.i .i64,.b,.b]
theorem yAO.h(l:List V):yAO.cs (yAO.of l)=etaSeg yAO.ks [l] 0 0:=rfl
def yVR:Cd yAO:=cdA yAO.ks yAO.cs yAO.of yAO.h
abbrev xJ0:Ca yAO:=caA yAO.ks yAO.cs yAO.of yAO.h
abbrev xKU:Mx yAO:=mO (zS 15 xJ0) 15
def yAO.z:yAO:=⟨0,noS,0,0,⟨0,0,0,noS⟩,⟨0,0,0,noS,0,false,false⟩⟩
structure yBN where
 Kind:Int
 Sector:Int
 B:ByteArray
 Key:Int
def yBN.cs(x:yBN):List V:= [V.int .i8 x.Kind,V.int .i64 x.Sector,V.str x.B,V.int .i64 x.Key]
def yBN.of(l:List V):yBN:=⟨asI (cell [l] 0 0),asI (cell [l] 0 1),asS (cell [l] 0 2),asI (cell [l] 0 3)⟩
def yBN.ks:List Kc:= [.i .i8,.i .i64,.s,.i .i64]
theorem yBN.h(l:List V):yBN.cs (yBN.of l)=etaSeg yBN.ks [l] 0 0:=rfl
def yNq:Cd yBN:=cdA yBN.ks yBN.cs yBN.of yBN.h
abbrev xLT:Ca yBN:=caA yBN.ks yBN.cs yBN.of yBN.h
abbrev yIf:Mx yBN:=mO (zS 4 xLT) 4
def yBN.z:yBN:=⟨0,0,noS,0⟩
structure yAG where
 Kind:Int
 By:Int
 Serial:Int
 Dead:Int
 Was:Int
 Span:yAN
 Mode:Int
def yAG.cs(x:yAG):List V:= [V.int .i8 x.Kind,V.int .i64 x.By,V.int .i64 x.Serial,V.int .i64 x.Dead,V.int .i64 x.Was,V.int .i64 x.Span.Lo,V.int .i64 x.Span.Hi,V.int .i8 x.Mode]
def yAG.of(l:List V):yAG:=⟨asI (cell [l] 0 0),asI (cell [l] 0 1),asI (cell [l] 0 2),asI (cell [l] 0 3),asI (cell [l] 0 4),⟨asI (cell [l] 0 5),asI (cell [l] 0 6)⟩,asI (cell [l] 0 7)⟩
def yAG.ks:List Kc:= [.i .i8,.i .i64,.i .i64,.i .i64,.i .i64,.i .i64,.i .i64,.i .i8]
theorem yAG.h(l:List V):yAG.cs (yAG.of l)=etaSeg yAG.ks [l] 0 0:=rfl
def yNr:Cd yAG:=cdA yAG.ks yAG.cs yAG.of yAG.h
abbrev xLU:Ca yAG:=caA yAG.ks yAG.cs yAG.of yAG.h
abbrev yP7:Mx yAG:=mO (zS 8 xLU) 8
def yAG.z:yAG:=⟨0,0,0,0,0,⟨0,0⟩,0⟩
structure yAD where
 t_:yAM
 done_:Int
 serial_:Int
 on_:Bool
 p_:yAO
def yAD.cs(x:yAD):List V:= [V.sl x.t_.Slots false,V.sl x.t_.Holds false,V.sl x.t_.Queue false,V.int .i64 x.done_,V.int .i64 x.serial_,V.bool x.on_,V.int .i64 x.p_.Node,V.str x.p_.Cmd,V.int .i8 x.p_.At,V.int .i64 x.p_.I,V.int .i64 x.p_.Own.Inst,V.int .i64 x.p_.Own.Mbal,V.int .i64 x.p_.Own.Bal,V.str x.p_.Own.Val,V.int .i64 x.p_.T.Inst,V.int .i64 x.p_.T.Mbal,V.int .i64 x.p_.T.Best,V.str x.p_.T.Val,V.int .i64 x.p_.T.Seen,V.bool x.p_.T.Ahead,V.bool x.p_.T.Lost]
def yAD.of(l:List V):yAD:=⟨⟨asR (cell [l] 0 0),asR (cell [l] 0 1),asR (cell [l] 0 2)⟩,asI (cell [l] 0 3),asI (cell [l] 0 4),asB (cell [l] 0 5),⟨asI (cell [l] 0 6),asS (cell [l] 0 7),asI (cell [l] 0 8),asI (cell [l] 0 9),⟨asI (cell [l] 0 10),asI (cell [l] 0 11),asI (cell [l] 0 12),asS (cell [l] 0 13)⟩,⟨asI (cell [l] 0 14),asI (cell [l] 0 15),asI (cell [l] 0 16),asS (cell [l] 0 17),asI (cell [l] 0 18),asB (cell [l] 0 19),asB (cell [l] 0 20)⟩⟩⟩
def yAD.ks:List Kc:= [.m,.m,.m,.i .i64,.i .i64,.b,.i .i64,.s,.i .i8,.i .i64,.i .i64,.i .i64,.i .i64,.s,.i .i64,.i .i64,.i .i64,.s,.i .i64,.b,.b]
abbrev yN3:List Kc:= [.l,.l,.l,.i .i64,.i .i64,.b,.i .i64,.s,.i .i8,.i .i64,.i .i64,.i .i64,.i .i64,.s,.i .i64,.i .i64,.i .i64,.s,.i .i64,.b,.b]
theorem yAD.h(l:List V):yAD.cs (yAD.of l)=etaSeg yAD.ks [l] 0 0:=rfl
def yJq:Cd yAD:=cdA yAD.ks yAD.cs yAD.of yAD.h
def yAD.z:yAD:=⟨⟨[],[],[]⟩,0,0,false,⟨0,noS,0,0,⟨0,0,0,noS⟩,⟨0,0,0,noS,0,false,false⟩⟩⟩
structure yEt where
 P:yAO
 T:yAM
 Done:Int
 Acts:Int
 Over:Bool
def yEt.cs(x:yEt):List V:= [V.int .i64 x.P.Node,V.str x.P.Cmd,V.int .i8 x.P.At,V.int .i64 x.P.I,V.int .i64 x.P.Own.Inst,V.int .i64 x.P.Own.Mbal,V.int .i64 x.P.Own.Bal,V.str x.P.Own.Val,V.int .i64 x.P.T.Inst,V.int .i64 x.P.T.Mbal,V.int .i64 x.P.T.Best,V.str x.P.T.Val,V.int .i64 x.P.T.Seen,V.bool x.P.T.Ahead,V.bool x.P.T.Lost,V.sl x.T.Slots false,V.sl x.T.Holds false,V.sl x.T.Queue false,V.int .i64 x.Done,V.int .i64 x.Acts,V.bool x.Over]
def yEt.of(l:List V):yEt:=⟨⟨asI (cell [l] 0 0),asS (cell [l] 0 1),asI (cell [l] 0 2),asI (cell [l] 0 3),⟨asI (cell [l] 0 4),asI (cell [l] 0 5),asI (cell [l] 0 6),asS (cell [l] 0 7)⟩,⟨asI (cell [l] 0 8),asI (cell [l] 0 9),asI (cell [l] 0 10),asS (cell [l] 0 11),asI (cell [l] 0 12),asB (cell [l] 0 13),asB (cell [l] 0 14)⟩⟩,⟨asR (cell [l] 0 15),asR (cell [l] 0 16),asR (cell [l] 0 17)⟩,asI (cell [l] 0 18),asI (cell [l] 0 19),asB (cell [l] 0 20)⟩
def yEt.ks:List Kc:= [.i .i64,.s,.i .i8,.i .i64,.i .i64,.i .i64,.i .i64,.s,.i .i64,.i .i64,.i .i64,.s,.i .i64,.b,.b,.m,.m,.m,.i .i64,.i .i64,.b]
theorem yEt.h(l:List V):yEt.cs (yEt.of l)=etaSeg yEt.ks [l] 0 0:=rfl
def xLY:Cd yEt:=cdA yEt.ks yEt.cs yEt.of yEt.h
abbrev xLW:Ca yEt:=caA yEt.ks yEt.cs yEt.of yEt.h
abbrev xJS:Mx yEt:=mO (zS 21 xLW) 21
def yEt.z:yEt:=⟨⟨0,noS,0,0,⟨0,0,0,noS⟩,⟨0,0,0,noS,0,false,false⟩⟩,⟨[],[],[]⟩,0,0,false⟩
structure yEs where
 Sector:Int
 B:ByteArray
def yEs.cs(x:yEs):List V:= [V.int .i64 x.Sector,V.str x.B]
def yEs.of(l:List V):yEs:=⟨asI (cell [l] 0 0),asS (cell [l] 0 1)⟩
def yEs.ks:List Kc:= [.i .i64,.s]
theorem yEs.h(l:List V):yEs.cs (yEs.of l)=etaSeg yEs.ks [l] 0 0:=rfl
def yEs.z:yEs:=⟨0,noS⟩
structure yJl where
 Key:Int
 Claim:Int
def yJl.cs(x:yJl):List V:= [V.int .i64 x.Key,V.int .i64 x.Claim]
def yJl.of(l:List V):yJl:=⟨asI (cell [l] 0 0),asI (cell [l] 0 1)⟩
def yJl.ks:List Kc:= [.i .i64,.i .i64]
theorem yJl.h(l:List V):yJl.cs (yJl.of l)=etaSeg yJl.ks [l] 0 0:=rfl
def xJ3:Cd yJl:=cdA yJl.ks yJl.cs yJl.of yJl.h
def yJl.z:yJl:=⟨0,0⟩
structure yAP where
 Prop_:yAO
 g_:yAQ
 t_:yAM
 done_:Int
 over_:Bool
def yAP.cs(x:yAP):List V:= [V.int .i64 x.Prop_.Node,V.str x.Prop_.Cmd,V.int .i8 x.Prop_.At,V.int .i64 x.Prop_.I,V.int .i64 x.Prop_.Own.Inst,V.int .i64 x.Prop_.Own.Mbal,V.int .i64 x.Prop_.Own.Bal,V.str x.Prop_.Own.Val,V.int .i64 x.Prop_.T.Inst,V.int .i64 x.Prop_.T.Mbal,V.int .i64 x.Prop_.T.Best,V.str x.Prop_.T.Val,V.int .i64 x.Prop_.T.Seen,V.bool x.Prop_.T.Ahead,V.bool x.Prop_.T.Lost,V.int .i64 x.g_.Nodes,V.int .i64 x.g_.Slots,V.int .i64 x.g_.Blocks,V.int .i64 x.g_.Per,V.int .i64 x.g_.Journal,V.int .i64 x.g_.Log,V.int .i64 x.g_.Lease,V.int .i64 x.g_.Wait,V.sl x.t_.Slots false,V.sl x.t_.Holds false,V.sl x.t_.Queue false,V.int .i64 x.done_,V.bool x.over_]
def yAP.of(l:List V):yAP:=⟨⟨asI (cell [l] 0 0),asS (cell [l] 0 1),asI (cell [l] 0 2),asI (cell [l] 0 3),⟨asI (cell [l] 0 4),asI (cell [l] 0 5),asI (cell [l] 0 6),asS (cell [l] 0 7)⟩,⟨asI (cell [l] 0 8),asI (cell [l] 0 9),asI (cell [l] 0 10),asS (cell [l] 0 11),asI (cell [l] 0 12),asB (cell [l] 0 13),asB (cell [l] 0 14)⟩⟩,⟨asI (cell [l] 0 15),asI (cell [l] 0 16),asI (cell [l] 0 17),asI (cell [l] 0 18),asI (cell [l] 0 19),asI (cell [l] 0 20),asI (cell [l] 0 21),asI (cell [l] 0 22)⟩,⟨asR (cell [l] 0 23),asR (cell [l] 0 24),asR (cell [l] 0 25)⟩,asI (cell [l] 0 26),asB (cell [l] 0 27)⟩
def yAP.ks:List Kc:= [.i .i64,.s,.i .i8,.i .i64,.i .i64,.i .i64,.i .i64,.s,.i .i64,.i .i64,.i .i64,.s,.i .i64,.b,.b,.i .i64,.i .i64,.i .i64,.i .i64,.i .i64,.i .i64,.i .i64,.i .i64,.m,.m,.m,.i .i64,.b]
theorem yAP.h(l:List V):yAP.cs (yAP.of l)=etaSeg yAP.ks [l] 0 0:=rfl
abbrev yGZ:Ca yAP:=caA yAP.ks yAP.cs yAP.of yAP.h
def yAP.z:yAP:=⟨⟨0,noS,0,0,⟨0,0,0,noS⟩,⟨0,0,0,noS,0,false,false⟩⟩,⟨0,0,0,0,0,0,0,0⟩,⟨[],[],[]⟩,0,false⟩
structure yAR where
 Key:Int
 Span:yAN
 Mode:Int
def yAR.cs(x:yAR):List V:= [V.int .i64 x.Key,V.int .i64 x.Span.Lo,V.int .i64 x.Span.Hi,V.int .i8 x.Mode]
def yAR.of(l:List V):yAR:=⟨asI (cell [l] 0 0),⟨asI (cell [l] 0 1),asI (cell [l] 0 2)⟩,asI (cell [l] 0 3)⟩
def yAR.ks:List Kc:= [.i .i64,.i .i64,.i .i64,.i .i8]
theorem yAR.h(l:List V):yAR.cs (yAR.of l)=etaSeg yAR.ks [l] 0 0:=rfl
def yYY:Cd yAR:=cdA yAR.ks yAR.cs yAR.of yAR.h
abbrev yVO:Ca yAR:=caA yAR.ks yAR.cs yAR.of yAR.h
abbrev xGx:Mx yAR:=mO (zS 4 yVO) 4
def yAR.z:yAR:=⟨0,⟨0,0⟩,0⟩
structure yAH where
 Device:yAA
def yAH.cs(x:yAH):List V:= [V.sl x.Device.S false,V.sl x.Device.Cache false,V.sl x.Device.Keys false,V.int .i64 x.Device.Next,V.sl x.Device.Fenced false]
def yAH.of(l:List V):yAH:=⟨⟨asR (cell [l] 0 0),asR (cell [l] 0 1),asR (cell [l] 0 2),asI (cell [l] 0 3),asR (cell [l] 0 4)⟩⟩
def yAH.ks:List Kc:= [.m,.m,.m,.i .i64,.m]
theorem yAH.h(l:List V):yAH.cs (yAH.of l)=etaSeg yAH.ks [l] 0 0:=rfl
abbrev yBl:Ca yAH:=caA yAH.ks yAH.cs yAH.of yAH.h
def yAH.z:yAH:=⟨⟨[],[],[],0,[]⟩⟩
structure yAr where
 first_:Int
 many_:Int
def yAr.cs(x:yAr):List V:= [V.int .i64 x.first_,V.int .i64 x.many_]
def yAr.of(l:List V):yAr:=⟨asI (cell [l] 0 0),asI (cell [l] 0 1)⟩
def yAr.ks:List Kc:= [.i .i64,.i .i64]
theorem yAr.h(l:List V):yAr.cs (yAr.of l)=etaSeg yAr.ks [l] 0 0:=rfl
def yWt:Cd yAr:=cdA yAr.ks yAr.cs yAr.of yAr.h
def yAr.z:yAr:=⟨0,0⟩
structure yAK where
 stretch_:yAr
 kind_:Int
 per_:Int
def yAK.cs(x:yAK):List V:= [V.int .i64 x.stretch_.first_,V.int .i64 x.stretch_.many_,V.int .i8 x.kind_,V.int .i64 x.per_]
def yAK.of(l:List V):yAK:=⟨⟨asI (cell [l] 0 0),asI (cell [l] 0 1)⟩,asI (cell [l] 0 2),asI (cell [l] 0 3)⟩
def yAK.ks:List Kc:= [.i .i64,.i .i64,.i .i8,.i .i64]
theorem yAK.h(l:List V):yAK.cs (yAK.of l)=etaSeg yAK.ks [l] 0 0:=rfl
def yYa:Cd yAK:=cdA yAK.ks yAK.cs yAK.of yAK.h
abbrev yYW:Ca yAK:=caA yAK.ks yAK.cs yAK.of yAK.h
abbrev yOk:Mx yAK:=mO (zS 4 yYW) 4
def yAK.z:yAK:=⟨⟨0,0⟩,0,0⟩
structure yAF where
 s_:ByteArray
 bad_:Bool
def yAF.cs(x:yAF):List V:= [V.str x.s_,V.bool x.bad_]
def yAF.of(l:List V):yAF:=⟨asS (cell [l] 0 0),asB (cell [l] 0 1)⟩
def yAF.ks:List Kc:= [.s,.b]
theorem yAF.h(l:List V):yAF.cs (yAF.of l)=etaSeg yAF.ks [l] 0 0:=rfl
abbrev yUL:Ca yAF:=caA yAF.ks yAF.cs yAF.of yAF.h
abbrev yDy:Mx yAF:=mO (zS 2 yUL) 2
def yAF.z:yAF:=⟨noS,false⟩
structure yAu where
 Cmd:yAG
 b_:List (List V)
def yAu.cs(x:yAu):List V:= [V.int .i8 x.Cmd.Kind,V.int .i64 x.Cmd.By,V.int .i64 x.Cmd.Serial,V.int .i64 x.Cmd.Dead,V.int .i64 x.Cmd.Was,V.int .i64 x.Cmd.Span.Lo,V.int .i64 x.Cmd.Span.Hi,V.int .i8 x.Cmd.Mode,V.sl x.b_ false]
def yAu.of(l:List V):yAu:=⟨⟨asI (cell [l] 0 0),asI (cell [l] 0 1),asI (cell [l] 0 2),asI (cell [l] 0 3),asI (cell [l] 0 4),⟨asI (cell [l] 0 5),asI (cell [l] 0 6)⟩,asI (cell [l] 0 7)⟩,asR (cell [l] 0 8)⟩
def yAu.ks:List Kc:= [.i .i8,.i .i64,.i .i64,.i .i64,.i .i64,.i .i64,.i .i64,.i .i8,.m]
theorem yAu.h(l:List V):yAu.cs (yAu.of l)=etaSeg yAu.ks [l] 0 0:=rfl
abbrev yUK:Ca yAu:=caA yAu.ks yAu.cs yAu.of yAu.h
def yAu.z:yAu:=⟨⟨0,0,0,0,0,⟨0,0⟩,0⟩,[]⟩
structure yAd where
 Rec:yBI
def yAd.cs(x:yAd):List V:= [V.int .i64 x.Rec.Inst,V.int .i64 x.Rec.Mbal,V.int .i64 x.Rec.Bal,V.str x.Rec.Val]
def yAd.of(l:List V):yAd:=⟨⟨asI (cell [l] 0 0),asI (cell [l] 0 1),asI (cell [l] 0 2),asS (cell [l] 0 3)⟩⟩
def yAd.ks:List Kc:= [.i .i64,.i .i64,.i .i64,.s]
theorem yAd.h(l:List V):yAd.cs (yAd.of l)=etaSeg yAd.ks [l] 0 0:=rfl
abbrev yLW:Ca yAd:=caA yAd.ks yAd.cs yAd.of yAd.h
def yAd.z:yAd:=⟨⟨0,0,0,noS⟩⟩
structure yAU where
 Tally:yAm
def yAU.cs(x:yAU):List V:= [V.int .i64 x.Tally.Inst,V.int .i64 x.Tally.Mbal,V.int .i64 x.Tally.Best,V.str x.Tally.Val,V.int .i64 x.Tally.Seen,V.bool x.Tally.Ahead,V.bool x.Tally.Lost]
def yAU.of(l:List V):yAU:=⟨⟨asI (cell [l] 0 0),asI (cell [l] 0 1),asI (cell [l] 0 2),asS (cell [l] 0 3),asI (cell [l] 0 4),asB (cell [l] 0 5),asB (cell [l] 0 6)⟩⟩
def yAU.ks:List Kc:= [.i .i64,.i .i64,.i .i64,.s,.i .i64,.b,.b]
theorem yAU.h(l:List V):yAU.cs (yAU.of l)=etaSeg yAU.ks [l] 0 0:=rfl
abbrev yPn:Ca yAU:=caA yAU.ks yAU.cs yAU.of yAU.h
abbrev yP8:Mx yAU:=mR (zS 7 yPn) 7
def yAU.z:yAU:=⟨⟨0,0,0,noS,0,false,false⟩⟩
structure yBT where
 Table:yAM
 g_:yAQ
def yBT.cs(x:yBT):List V:= [V.sl x.Table.Slots false,V.sl x.Table.Holds false,V.sl x.Table.Queue false,V.int .i64 x.g_.Nodes,V.int .i64 x.g_.Slots,V.int .i64 x.g_.Blocks,V.int .i64 x.g_.Per,V.int .i64 x.g_.Journal,V.int .i64 x.g_.Log,V.int .i64 x.g_.Lease,V.int .i64 x.g_.Wait]
def yBT.of(l:List V):yBT:=⟨⟨asR (cell [l] 0 0),asR (cell [l] 0 1),asR (cell [l] 0 2)⟩,⟨asI (cell [l] 0 3),asI (cell [l] 0 4),asI (cell [l] 0 5),asI (cell [l] 0 6),asI (cell [l] 0 7),asI (cell [l] 0 8),asI (cell [l] 0 9),asI (cell [l] 0 10)⟩⟩
def yBT.ks:List Kc:= [.m,.m,.m,.i .i64,.i .i64,.i .i64,.i .i64,.i .i64,.i .i64,.i .i64,.i .i64]
theorem yBT.h(l:List V):yBT.cs (yBT.of l)=etaSeg yBT.ks [l] 0 0:=rfl
abbrev yYX:Ca yBT:=caA yBT.ks yBT.cs yBT.of yBT.h
def yBT.z:yBT:=⟨⟨[],[],[]⟩,⟨0,0,0,0,0,0,0,0⟩⟩
structure yAk where
 Span:yAN
def yAk.cs(x:yAk):List V:= [V.int .i64 x.Span.Lo,V.int .i64 x.Span.Hi]
def yAk.of(l:List V):yAk:=⟨⟨asI (cell [l] 0 0),asI (cell [l] 0 1)⟩⟩
def yAk.ks:List Kc:= [.i .i64,.i .i64]
theorem yAk.h(l:List V):yAk.cs (yAk.of l)=etaSeg yAk.ks [l] 0 0:=rfl
def yNJ:Cd yAk:=cdA yAk.ks yAk.cs yAk.of yAk.h
def yAk.z:yAk:=⟨⟨0,0⟩⟩
structure yBk where
 blocks_:yAk
 key_:Int
 mode_:Int
def yBk.cs(x:yBk):List V:= [V.int .i64 x.blocks_.Span.Lo,V.int .i64 x.blocks_.Span.Hi,V.int .i64 x.key_,V.int .i8 x.mode_]
def yBk.of(l:List V):yBk:=⟨⟨⟨asI (cell [l] 0 0),asI (cell [l] 0 1)⟩⟩,asI (cell [l] 0 2),asI (cell [l] 0 3)⟩
def yBk.ks:List Kc:= [.i .i64,.i .i64,.i .i64,.i .i8]
theorem yBk.h(l:List V):yBk.cs (yBk.of l)=etaSeg yBk.ks [l] 0 0:=rfl
def yT1:Cd yBk:=cdA yBk.ks yBk.cs yBk.of yBk.h
def yBk.z:yBk:=⟨⟨⟨0,0⟩⟩,0,0⟩
def xFr(a:Int):Bool:=decide (-9223372036854775808<=a)&&decide (a<=9223372036854775807)
theorem xLo{a:Int}(h:xFr a=true): -9223372036854775808<=a/\a<=9223372036854775807:=by
 obtain⟨h1,h2⟩:=yBA h
 exact⟨of_decide_eq_true h1,of_decide_eq_true h2⟩
def xHr(r:List V):Int:=asI (r.headD .undef)
def xF7(r:List V):UInt8:=UInt8.ofNat (xHr r).toNat
def inRB(r:List V):Bool:=match r with
 | [.int .i64 _]=>true
 | _=>false
def byRB(r:List V):Bool:=match r with
 | [.int .u8 n]=>decide (0<=n)&&decide (n<256)
 | _=>false
theorem xLp{r:List V}(h:inRB r=true):inV (xHr r)=r:=by
 unfold inRB at h;split at h
 ·rfl
 ·cases h
theorem xJG{r:List V}(h:byRB r=true):byV (xF7 r)=r:=by
 unfold byRB at h;split at h
 ·rename_i n
  obtain⟨h1,h2⟩:=yBA h
  have h1:=of_decide_eq_true h1
  have h2:=of_decide_eq_true h2
  show [V.int .u8 ((UInt8.ofNat n.toNat).toNat:Int)]=_
  have:(UInt8.ofNat n.toNat).toNat=n.toNat:=by
   rw[UInt8.toNat_ofNat'];omega
  rw[this,Int.toNat_of_nonneg h1]
 ·cases h
theorem xHL{α:Type}{enc:α->List V}{d:List V->α}{b:List V->Bool}(hb:∀r,b r=true->enc (d r)=r){rs:List (List V)}(h:rs.all b=true):(rs.map d).map enc=rs:=by
 rw[List.map_map]
 conv=>rhs;rw[←List.map_id rs]
 exact List.map_congr_left fun r hr=>hb r (List.all_eq_true.1 h r hr)
theorem yZU{α:Type}{enc:α->List V}{b:List V->Bool}(hb:∀a,b (enc a)=true)(l:List α):(l.map enc).all b=true:=List.all_eq_true.2 fun r hr=>by obtain⟨a,_,rfl⟩:=List.mem_map.1 hr;exact hb a
theorem xEE{α:Type}{enc:α->List V}{d:List V->α}(hd:∀a,d (enc a)=a)(l:List α):(l.map enc).map d=l:=by
 rw[List.map_map]
 conv=>rhs;rw[←List.map_id l]
 exact List.map_congr_left fun a _=>hd a
theorem xLq(a:Int):inRB (inV a)=true:=rfl
theorem xJH(a:UInt8):byRB (byV a)=true:=by
 show(decide (0<=(a.toNat:Int))&&decide ((a.toNat:Int)<256))=true
 have:=a.toNat_lt
 rw[decide_eq_true (by omega),decide_eq_true (by omega)];rfl
theorem xLr(a:Int):xHr (inV a)=a:=rfl
theorem xF8(a:UInt8):xF7 (byV a)=a:=by
 show UInt8.ofNat ((a.toNat:Int)).toNat=a
 rw[Int.toNat_natCast];exact UInt8.ofNat_toNat
def yB3(x:yAQ):Geo:=⟨x.Nodes,x.Slots,x.Blocks,x.Per,x.Journal,x.Log,x.Lease,x.Wait⟩
theorem yAb{α:Type}{c:Bool}{x y:α}(h:c=true):(bif c then x else y)=x:=by rw[h];rfl
theorem yAJ{α:Type}{c:Bool}{x y:α}(h:c=false):(bif c then x else y)=y:=by rw[h];rfl
theorem yAC{α β:Type}{b:β}{f:β->Option α}:yAB (some b) f=f b:=rfl
theorem wrap64{n:Int}(h1: -9223372036854775808<=n)(h2:n<=9223372036854775807):IntKind.i64.wrap n=n:=by
 unfold IntKind.wrap
 simp[IntKind.bits,IntKind.signed]
 omega
theorem yAa{n:Int}(h1: -9223372036854775808<=n)(h2:n<=9223372036854775807):w64 n=n:=wrap64 h1 h2
section
variable {α:Type} {c:Bool} {x:Option α} {es:List (List V)} {ks:List Kc}
theorem yCf(h:c=true):gd c x=x:=by subst h;rfl
theorem yW8{n:Int}{m:Nat}(h0:0<=n)(h1:n<m):gB n m x=x:=by
 unfold gB
 rw[yCf (decide_eq_true h0),yCf (decide_eq_true h1)]
theorem xIK{n:Int}(h0:0<=n)(h1:n<es.length)(h:rowIs ks es n.toNat=true):gI es ks n x=x:=by
 unfold gI
 rw[yCf (decide_eq_true h0),yCf (decide_eq_true h1),yCf h]
theorem xFq{i j:Nat}(h1:i<es.length)(h:yUq ks es i j=true):gL es ks i j x=x:=by
 unfold gL
 rw[yCf (decide_eq_true h1),yCf h]
theorem yRQ{n:Nat}(h1:n<=es.length)(h2:n<=2000000)(h:yCR es=true):gF es n x=x:=by
 unfold gF
 rw[yCf (Nat.ble_eq_true_of_le h1),yCf (Nat.ble_eq_true_of_le h2),yCf h]
theorem yIx{n:Nat}(h1:n=es.length)(h:yCR es=true):gW es n x=x:=by
 unfold gW
 rw[yCf (by rw[h1];exact Nat.beq_refl _),yCf h]
theorem xNC{n:Nat}(h1:n=es.length)(h2:n<=2000000)(h:yCR es=true):gA es n x=x:=by
 subst h1
 unfold gA
 rw[yCf (Nat.beq_refl _),yCf (Nat.ble_eq_true_of_le h2),yCf h]
theorem xCK{m b:Nat}(h1:m*b<=140737488355328)(h2:m<=9223372036854775807):gM m b x=x:=by
 unfold gM
 rw[yCf (decide_eq_true h1),yCf (decide_eq_true h2)]
end
theorem yDo{es:List (List V)}{i:Nat}{r:List V}(h:es[i]?=some r):es.getD i []=r:=by
 rw[List.getD_eq_getElem?_getD,h];rfl
theorem yYb{es:List (List V)}{i j:Nat}{r:List V}(h:es[i]?=some r):cell es i j=cell [r] 0 j:=by
 unfold cell
 rw[yDo h];rfl
theorem yJb{es:List (List V)}{i:Nat}{r:List V}(h:es[i]?=some r):∀(ks:List Kc) (j:Nat),yUq ks es i j=yUq ks [r] 0 j
 | [],j=>by unfold yUq;rw[yDo h];rfl
 | k::ks,j=>by unfold yUq;rw[yYb h,yJb h ks]
theorem yZR{es:List (List V)}{i:Nat}{r:List V}(ks:List Kc)(h:es[i]?=some r):rowIs ks es i=rowIs ks [r] 0:=by
 unfold rowIs
 rw[yJb h,yDo h];rfl
section
variable {β:Type} {enc:β->List V} {l:List β}
theorem yIe{i:Nat}(h:i<l.length):(l.map enc)[i]?=some (enc l[i]):=by
 rw[List.getElem?_map,List.getElem?_eq_getElem h];rfl
theorem yZV(ks:List Kc)(he:∀a,rowIs ks [enc a] 0=true){i:Nat}(h:i<l.length):rowIs ks (l.map enc) i=true:=by
 rw[yZR ks (yIe h)];exact he _
theorem yS2{i j:Nat}(h:i<l.length):cell (l.map enc) i j=cell [enc l[i]] 0 j:=yYb (yIe h)
theorem xC6(he:∀a,yCR [enc a]=true):yCR (l.map enc)=true:=List.all_eq_true.2 fun r hr=>by
 obtain⟨a,_,rfl⟩:=List.mem_map.1 hr
 exact List.all_eq_true.1 (he a) _ (by simp)
theorem yR8(n:Nat)(he:∀a,(enc a).length=n):((l.map enc).all fun r=>Nat.beq r.length n)=true:=List.all_eq_true.2 fun r hr=>by
 obtain⟨a,_,rfl⟩:=List.mem_map.1 hr
 rw[he a];exact Nat.beq_refl _
end
theorem yQ8{α:Type}{x:Option α}{l:List Int}{n:Int}(h0:0<=n)(h1:n<l.length):gI (l.map inV) kI n x=x:=xIK h0 (by rw[List.length_map];exact h1) (yZV kI (fun _=>rfl) (by omega))
theorem xMm{α:Type}{x:Option α}{l:Bs}{n:Int}(h0:0<=n)(h1:n<l.length):gI (l.map byV) kU n x=x:=xIK h0 (by rw[List.length_map];exact h1) (yZV kU (fun _=>rfl) (by omega))
theorem xCI{α:Type}{x:Option α}{l:List ByteArray}{n:Int}(h0:0<=n)(h1:n<l.length):gI (l.map txV) kS n x=x:=xIK h0 (by rw[List.length_map];exact h1) (yZV kS (fun _=>rfl) (by omega))
theorem yVK{l:List Int}{n:Nat}(h:n<l.length):aI (l.map inV) n 0=l[n]:=by
 unfold aI
 rw[yS2 h];rfl
theorem xMh{l:Bs}{n:Nat}(h:n<l.length):aI (l.map byV) n 0=(l[n].toNat:Int):=by
 unfold aI
 rw[yS2 h];rfl
theorem xEZ{l:List ByteArray}{n:Nat}(h:n<l.length):aS (l.map txV) n 0=l[n]:=by
 unfold aS
 rw[yS2 h];rfl
theorem yPe(l:List Int):yCR (l.map inV)=true:=xC6 fun _=>rfl
theorem yOl(l:Bs):yCR (l.map byV)=true:=xC6 fun _=>rfl
theorem yMc(l:List ByteArray):yCR (l.map txV)=true:=xC6 fun _=>rfl
theorem yU9(s:ByteArray):yCm s=s.data.toList.map byV:=rfl
theorem yLK(b:Bs):yI2 (b.map byV)=mkS b:=by
 unfold yI2 mkS
 rw[yQk,Option.getD_some,List.map_map]
 congr 2
 conv=>rhs;rw[←List.map_id b]
 refine List.map_congr_left fun c _=>?_
 show UInt8.ofNat ((c.toNat:Int)).toNat=c
 rw[Int.toNat_natCast];exact UInt8.ofNat_toNat
theorem yNp(b:Bs):(bytesOf (b.map byV)).isSome=true:=by rw[yQk];rfl
theorem xBx{s:ByteArray}{i:Nat}(h:i<s.size):(((s[i]?).getD 0).toNat:Int)=(s.data.toList[i]'(by simpa using h)).toNat:=by
 rw[ySP s i h]
 simp[h]
section
variable {α σ A B:Type}
theorem yFv{F:σ->(σ->Option α)->(A->Option α)->Option α}(I:σ->Prop)(m:σ->Nat)(PA:A->Prop)
  (h:∀s,I s->(∃s',I s'/\m s'<m s/\∀kn ka,F s kn ka=kn s')\/(∃a,PA a/\∀kn ka,F s kn ka=ka a)):
  ∀(L:Nat) (s:σ),I s->m s<L->∃a,PA a/\∀ka,yBL F L s ka=ka a
 | 0,_,_,hm=>absurd hm (Nat.not_lt_zero _)
 | L+1,s,hs,hm=>by
   rcases h s hs with ⟨s',h1,h2,h3⟩ | ⟨a,h1,h2⟩
   ·obtain⟨a,k1,k2⟩:=yFv I m PA h L s' h1 (by omega)
    exact⟨a,k1,fun ka=>(h3 _ ka).trans (k2 ka)⟩
   ·exact⟨a,h1,fun ka=>h2 _ ka⟩
theorem yN4{F:σ->(σ->Option α)->(A->Option α)->(B->Option α)->Option α}(I:σ->Prop)(m:σ->Nat)(PA:A->Prop)(PB:B->Prop)
  (h:∀s,I s->(∃s',I s'/\m s'<m s/\∀kn ka kb,F s kn ka kb=kn s')\/(∃a,PA a/\∀kn ka kb,F s kn ka kb=ka a)\/(∃b,PB b/\∀kn ka kb,F s kn ka kb=kb b)):
  ∀(L:Nat) (s:σ),I s->m s<L->(∃a,PA a/\∀ka kb,yAe F L s ka kb=ka a)\/(∃b,PB b/\∀ka kb,yAe F L s ka kb=kb b)
 | 0,_,_,hm=>absurd hm (Nat.not_lt_zero _)
 | L+1,s,hs,hm=>by
   rcases h s hs with ⟨s',h1,h2,h3⟩ | ⟨a,h1,h2⟩ | ⟨b,h1,h2⟩
   ·rcases yN4 I m PA PB h L s' h1 (by omega) with ⟨a,k1,k2⟩ | ⟨b,k1,k2⟩
    ·exact .inl ⟨a,k1,fun ka kb=>(h3 _ ka kb).trans (k2 ka kb)⟩
    ·exact .inr ⟨b,k1,fun ka kb=>(h3 _ ka kb).trans (k2 ka kb)⟩
   ·exact .inl ⟨a,h1,fun ka kb=>h2 _ ka kb⟩
   ·exact .inr ⟨b,h1,fun ka kb=>h2 _ ka kb⟩
end
end Go.Proofs.YtakljpcmbpaeaaaGreat
