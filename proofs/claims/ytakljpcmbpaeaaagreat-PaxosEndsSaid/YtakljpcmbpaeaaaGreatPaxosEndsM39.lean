/- Typed functions. (printed by wip/sx) -/
import Derived.Test.YtakljpcmbpaeaaaGreatPaxosEndsM36
import Derived.Test.YtakljpcmbpaeaaaGreatPaxosEndsM37
import Derived.Test.YtakljpcmbpaeaaaGreatPaxosEndsM38
set_option linter.unusedSimpArgs false
set_option linter.unusedVariables false
namespace Go.Proofs.YtakljpcmbpaeaaaGreat
open Go.RowKit
set_option maxRecDepth 100000
set_option maxHeartbeats 16000000
abbrev yGQ:=Int×yAQ×Int×Unit
abbrev yI4:=yAQ×Unit
abbrev yI5:=Int×Unit
abbrev yDw{α:Type}(s:yGQ)(kn:yGQ->Option α)(k0:yI4->Option α)(k1:yI5->Option α):Option α:=
 bif decide (s.2.2.1<s.2.1.Nodes) then
 bif s.2.2.1 !=s.1 then
 k1 (s.2.2.1,())
 else
 kn (s.1,s.2.1,w64 (s.2.2.1+1),())
 else
 k0 (s.2.1,())
abbrev yGR:LW2 yGQ yI4 yI5:=⟨(lvC 1 (mP cI) (lvC 3 yRR (lvC 7 (mP cI) lvN))),(.exit 0),(lvC 3 yRR lvN),.ret,(lvC 6 (mP cI) lvN)⟩
theorem ySR{α:Type}:yGR.Eq (α:=α) [] Tryz.f333 [1,0,1,0] .no (yDw):=fun _ _ _=>by kernel_rfl
abbrev yEu:=fw3 333 (caC yDX (caC cI (caC cI caN))) cI
abbrev yMN(F0:LF2 yGQ yI4 yI5 (Int))(x0:yAQ)(x1:Int)(x2:Int):Option Int:=
 F0 (x1,x0,yDK true x2 0,()) (fun q1=>
 some q1.1.Nodes) (fun q2=>
 some q2.1)
theorem yVU(F0):yEu.Eq [] (.two .no (.two (.two .no (.one (.lp (yGR.s F0)))) .no)) (yMN F0):=fun _=>by kernel_rfl
def yGy(L:Nat):yEu.T:=yMN (yAe (yDw) L)
theorem yRa{α:Type}(L:Nat):LO Tryz.f333 [1,0,1,0] (yGR.s (α:=α) (yAe (yDw) L)):=yGR.k (ySR) tN (lN _) (by kernel_rfl) L
theorem yVT(L:Nat):yEu.C (yGy L):=yEu.c (yVU (yAe (yDw) L)) tN Tryz.func333 (by kernel_rfl) (lS (lN _) (lS (lS (lN _) (lB (lL (yRa L)))) (lN _)))
abbrev yF1:=fw1 334 (caC xDf caN) cdB
abbrev yNK(x0:yAm):Option Bool:=
 bif x0.Ahead then
 some true
 else
 some x0.Lost
theorem yWv:yF1.Eq [] .no (yNK):=fun _=>by kernel_rfl
def yIU(L:Nat):yF1.T:=yNK
theorem yWu(L:Nat):yF1.C (yIU L):=yF1.c (yWv) tN Tryz.func334 (by kernel_rfl) (lN _)
abbrev yF2:=fw2 335 (caC xDf (caC cdS caN)) cdS
abbrev yNL(x0:yAm)(x1:ByteArray):Option ByteArray:=
 bif decide (0<x0.Best) then
 some x0.Val
 else
 some x1
theorem yWx:yF2.Eq [] .no (yNL):=fun _=>by kernel_rfl
def yIV(L:Nat):yF2.T:=yNL
theorem yWw(L:Nat):yF2.C (yIV L):=yF2.c (yWx) tN Tryz.func335 (by kernel_rfl) (lN _)
abbrev yD1:=fw1 249 (caC (cdP yGZ) caN) yNq
abbrev yLb(f1:yDJ.T)(f2:yC6.T)(x0:yAP):Option yBN:=
 yAB (f1 x0.g_ x0.Prop_.I) fun r1=>
 yAB (f2 r1) fun r2=>
 some r2
theorem yUZ(f1 f2):yD1.Eq [yDJ.s f1,yC6.s f2] .no (yLb f1 f2):=fun _=>by kernel_rfl
def yKw(L:Nat):yD1.T:=yLb (yED L) (yFh L)
theorem yUY(L:Nat):yD1.C (yKw L):=yD1.c (yUZ (yED L) (yFh L)) (tC (yOd L).ent (tC (yOn L).ent tN)) Tryz.func249 (by kernel_rfl) (lN _)
abbrev yD2:=fw1 251 (caC (cdP yGZ) caN) yNq
abbrev yLc(f1:yDJ.T)(f2:yC6.T)(x0:yAP):Option yBN:=
 yAB (f1 x0.g_ x0.Prop_.I) fun r1=>
 yAB (f2 r1) fun r2=>
 some r2
theorem yUb(f1 f2):yD2.Eq [yDJ.s f1,yC6.s f2] .no (yLc f1 f2):=fun _=>by kernel_rfl
def yKx(L:Nat):yD2.T:=yLc (yED L) (yFh L)
theorem yUa(L:Nat):yD2.C (yKx L):=yD2.c (yUb (yED L) (yFh L)) (tC (yOd L).ent (tC (yOn L).ent tN)) Tryz.func251 (by kernel_rfl) (lN _)
abbrev yKa:=fw2 337 (caC (cdI .i8) (caC cdS caN)) (cdT (caC cdS (caC cI caN)))
abbrev ySB(f1:yB2.T)(x0:Int)(x1:ByteArray):Option (ByteArray×Int×Unit):=
 yAB (f1 ([],0,x0,()) x1) fun r1=>
 some (r1.1.1,r1.1.2.1,())
theorem xDF(f1):yKa.Eq [yB2.s f1] .no (ySB f1):=fun _=>by kernel_rfl
def yOK(L:Nat):yKa.T:=ySB (yCn L)
theorem xDE(L:Nat):yKa.C (yOK L):=yKa.c (xDF (yCn L)) (tC (yLv L).ent tN) Tryz.func337 (by kernel_rfl) (lN _)
abbrev yEv:=fw1 297 (caC cdS caN) (cdT (caC cdS (caC cI caN)))
abbrev yMR(f1:yBq.T)(f2:yKa.T)(x0:ByteArray):Option (ByteArray×Int×Unit):=
 yAB (f1 x0) fun r1=>
 bif r1.2.1 !=0 then
 some (noS,2,())
 else
 yAB (f2 5 x0) fun r2=>
 some (r2.1,r2.2.1,())
theorem yVZ(f1 f2):yEv.Eq [yBq.s f1,yKa.s f2] .no (yMR f1 f2):=fun _=>by kernel_rfl
def yI7(L:Nat):yEv.T:=yMR (yBB L) (yOK L)
theorem yVY(L:Nat):yEv.C (yI7 L):=yEv.c (yVZ (yBB L) (yOK L)) (tC (yHj L).ent (tC (xDE L).ent tN)) Tryz.func297 (by kernel_rfl) (lN _)
abbrev yCs:=fw1 252 (caC (cdP yGZ) caN) yNq
abbrev yHb(f1:yEv.T)(f2:yHk.T)(f3:yDZ.T)(x0:yAP):Option yBN:=
 yAB (f1 x0.Prop_.Own.Val) fun r1=>
 yAB (f2 x0.g_ x0.done_) fun r2=>
 yAB (f3 r2 r1.1 r1.2.1) fun r3=>
 some r3
theorem yRE(f1 f2 f3):yCs.Eq [yEv.s f1,yHk.s f2,yDZ.s f3] .no (yHb f1 f2 f3):=fun _=>by kernel_rfl
def yGS(L:Nat):yCs.T:=yHb (yI7 L) (yLX L) (yEJ L)
theorem yRD(L:Nat):yCs.C (yGS L):=yCs.c (yRE (yI7 L) (yLX L) (yEJ L)) (tC (yVY L).ent (tC (yVk L).ent (tC (yRS L).ent tN))) Tryz.func252 (by kernel_rfl) (lN _)
abbrev yFW:=fw3 81 (caC yDX (caC yVR (caC cI caN))) (cdT (caC yNq (caC cI caN)))
abbrev yFV(f1:yHk.T)(f2:yDz.T)(f3:yD0.T)(f4:yDF.T)(f5:yD1.T)(f6:yD2.T)(f7:yCs.T)(x0:yAQ)(x1:yAO)(x2:Int):Option (yBN×Int×Unit):=
 letI qb:=f1 x0 x2
 letI qa:=(⟨x1,x0,yAM.z,x2,false⟩:yAP)
 bif decide (x1.At<0) then
 some (yBN.z,0,())
 else
 bif decide (7<=w64 x1.At) then
 some (yBN.z,0,())
 else
 bif decide (x1.At=0) then
 bif x1.At==0 then
 yAB qb fun r1=>
 bif decide (r1<0) then
 some (yBN.z,150,())
 else
 yAB (f2 qa) fun r2=>
 some (r2,0,())
 else
 yAB (f2 qa) fun r3=>
 some (r3,0,())
 else
 bif decide (x1.At=1) then
 bif x1.At==0 then
 yAB qb fun r4=>
 bif decide (r4<0) then
 some (yBN.z,150,())
 else
 yAB (f3 qa) fun r5=>
 some (r5,0,())
 else
 yAB (f3 qa) fun r6=>
 some (r6,0,())
 else
 bif decide (x1.At=2) then
 bif x1.At==0 then
 yAB qb fun r7=>
 bif decide (r7<0) then
 some (yBN.z,150,())
 else
 yAB (f4 qa) fun r8=>
 some (r8,0,())
 else
 yAB (f4 qa) fun r9=>
 some (r9,0,())
 else
 bif decide (x1.At=3) then
 bif x1.At==0 then
 yAB qb fun r10=>
 bif decide (r10<0) then
 some (yBN.z,150,())
 else
 yAB (f5 qa) fun r11=>
 some (r11,0,())
 else
 yAB (f5 qa) fun r12=>
 some (r12,0,())
 else
 bif decide (x1.At=4) then
 bif x1.At==0 then
 yAB qb fun r13=>
 bif decide (r13<0) then
 some (yBN.z,150,())
 else
 yAB (f4 qa) fun r14=>
 some (r14,0,())
 else
 yAB (f4 qa) fun r15=>
 some (r15,0,())
 else
 bif decide (x1.At=5) then
 bif x1.At==0 then
 yAB qb fun r16=>
 bif decide (r16<0) then
 some (yBN.z,150,())
 else
 yAB (f6 qa) fun r17=>
 some (r17,0,())
 else
 yAB (f6 qa) fun r18=>
 some (r18,0,())
 else
 gd (decide (x1.At=6))<|
 bif x1.At==0 then
 yAB qb fun r19=>
 bif decide (r19<0) then
 some (yBN.z,150,())
 else
 yAB (f7 qa) fun r20=>
 some (r20,0,())
 else
 yAB (f7 qa) fun r21=>
 some (r21,0,())
theorem xAu(f1 f2 f3 f4 f5 f6 f7):yFW.Eq [yHk.s f1,yDz.s f2,yD0.s f3,yDF.s f4,yD1.s f5,yD2.s f6,yCs.s f7] .no (yFV f1 f2 f3 f4 f5 f6 f7):=fun _=>by kernel_rfl
def yBU(L:Nat):yFW.T:=yFV (yLX L) (yKu L) (yKv L) (yHv L) (yKw L) (yKx L) (yGS L)
theorem yUC(L:Nat):yFW.C (yBU L):=yFW.c (xAu (yLX L) (yKu L) (yKv L) (yHv L) (yKw L) (yKx L) (yGS L)) (tC (yVk L).ent (tC (yUU L).ent (tC (yUW L).ent (tC (ySl L).ent (tC (yUY L).ent (tC (yUa L).ent (tC (yRD L).ent tN))))))) Tryz.func81 (by kernel_rfl) (lN _)
end Go.Proofs.YtakljpcmbpaeaaaGreat

namespace Go.Proofs.YtakljpcmbpaeaaaGreat
set_option maxHeartbeats 16000000
set_option maxRecDepth 100000
open Go.RowKit
abbrev yFU:=fw5 111 (caC yDX (caC yVR (caC yKl (caC cI (caC cdS caN))))) (cdT (caC yVR (caC yKl (caC cI (caC cdB (caC cI caN))))))
abbrev yFT(f1:yIc.T)(f2:yE3.T)(f3:yF4.T)(f4:yMG.T)(f5:yGx.T)(f6:yJo.T)(f7:yGw.T)(f8:yC0.T)(f9:yEu.T)(f10:yF1.T)(f11:yF2.T)(f12:yBq.T)(f13:yEV.T)(x0:yAQ)(x1:yAO)(x2:yAM)(x3:Int)(x4:ByteArray):Option (yAO×yAM×Int×Bool×Int×Unit):=
 letI qx:=(⟨x1.T⟩:yAU)
 letI qw:=x1.At+1
 letI qj:=f2 (⟨x1,x0,x2,x3,false⟩:yAP)
 letI qg:=f8 (⟨(⟨x1.Own.Inst,x1.Own.Mbal,x1.Own.Bal,x1.Own.Val,x1.T.Seen,false,false⟩:yAm)⟩:yAU) ([[V.int .i64 x1.Own.Mbal]])
 letI qd:=(⟨x1.Node,x1.Cmd,0,0,yBI.z,(⟨0,0,0,noS,x1.T.Seen,false,false⟩:yAm)⟩:yAO)
 letI qc:=f9 x0 x1.Node (w64 (x1.I+1))
 bif decide (x1.At<0) then
 some (x1,x2,x3,false,0,())
 else
 bif decide (7<=w64 x1.At) then
 some (x1,x2,x3,false,0,())
 else
 bif decide (x1.At=0) then
 yAB (f1 x0 x2 x3 x4) fun r1=>
 bif r1.2.2.2.2.1 !=0 then
 bif r1.2.2.2.2.1 !=0 then
 some (x1,x2,x3,false,r1.2.2.2.2.1,())
 else
 some (x1,x2,x3,false,0,())
 else
 bif r1.2.2.2.1 then
 yAB qj fun r2=>
 bif r2.2.1 then
 yAB (f3 r1.2.2.1 r2.1.By r2.1.Serial) fun r3=>
 some (qd,r1.1,w64 (x3+1),r3,0,())
 else
 some (qd,r1.1,w64 (x3+1),false,0,())
 else
 yAB qj fun r4=>
 bif r4.2.1 then
 bif r4.1.Kind==0 then
 yAB (f4 x0) fun r5=>
 bif decide (w64 (x0.Log-r5)<=x3) then
 some (x1,x2,x3,false,150,())
 else
 some ({x1 with At:=1 },x2,x3,false,0,())
 else
 bif r4.1.Kind==2 then
 yAB (f4 x0) fun r6=>
 bif decide (w64 (x0.Log-r6)<=x3) then
 some (x1,x2,x3,false,150,())
 else
 some ({x1 with At:=1 },x2,x3,false,0,())
 else
 some ({x1 with At:=1 },x2,x3,false,0,())
 else
 some ({x1 with At:=1 },x2,x3,false,0,())
 else
 bif decide (x1.At=1) then
 yAB (f5 x4) fun r7=>
 bif r7.2.1 !=0 then
 bif r7.2.1 !=0 then
 some (x1,x2,x3,false,r7.2.1,())
 else
 some (x1,x2,x3,false,0,())
 else
 yAB (f6 r7.1 x3) fun r8=>
 yAB (f7 x1.Node ([[V.int .i64 r8.Mbal],[V.int .i64 x1.T.Seen]])) fun r9=>
 bif r9==0 then
 some (x1,x2,x3,false,150,())
 else
 some ({x1 with At:=2,Own:={r8 with Mbal:=r9 }},x2,x3,false,0,())
 else
 bif decide (x1.At=2) then
 yAB qg fun r10=>
 yAB (f9 x0 x1.Node 0) fun r11=>
 bif decide (r11<x0.Nodes) then
 some ({x1 with At:=IntKind.i8.wrap qw,I:=r11,T:=r10.2.Tally },x2,x3,false,0,())
 else
 yAB (f10 r10.2.Tally) fun r12=>
 bif r12 then
 some ((⟨x1.Node,x1.Cmd,0,0,yBI.z,(⟨0,0,0,noS,r10.2.Tally.Seen,false,false⟩:yAm)⟩:yAO),x2,x3,false,0,())
 else
 bif(IntKind.i8.wrap qw)==5 then
 some ({x1 with At:=6,I:=r11,T:=r10.2.Tally },x2,x3,false,0,())
 else
 yAB (f11 r10.2.Tally x1.Cmd) fun r13=>
 some ((⟨x1.Node,x1.Cmd,4,r11,{x1.Own with Bal:=x1.Own.Mbal,Val:=r13 },r10.2.Tally⟩:yAO),x2,x3,false,0,())
 else
 bif decide (x1.At=3) then
 yAB (f5 x4) fun r14=>
 letI qk:=r14.1
 bif r14.2.1 !=0 then
 bif r14.2.1 !=0 then
 some (x1,x2,x3,false,r14.2.1,())
 else
 some (x1,x2,x3,false,0,())
 else
 yAB (f8 qx ([[V.int .i64 qk.Mbal]])) fun r15=>
 letI qh:=r15.2
 letI qu:={qh.Tally with Lost:=true }
 letI qs:={qh.Tally with Ahead:=true }
 letI qo:={qh.Tally with Best:=qk.Bal,Val:=qk.Val,Lost:=true }
 letI qe:=qh.Tally.Mbal<qk.Mbal
 letI qq:={qh.Tally with Lost:=decide qe }
 letI qm:={qh.Tally with Best:=qk.Bal,Val:=qk.Val,Lost:=decide qe }
 letI qa:=(⟨x1.Node,x1.Cmd,0,0,yBI.z,(⟨0,0,0,noS,qh.Tally.Seen,false,false⟩:yAm)⟩:yAO)
 bif decide (qh.Tally.Inst<qk.Inst) then
 yAB qc fun r16=>
 bif decide (r16<x0.Nodes) then
 some ({x1 with I:=r16,T:={qh.Tally with Ahead:=true }},x2,x3,false,0,())
 else
 yAB (f10 qs) fun r17=>
 bif r17 then
 some (qa,x2,x3,false,0,())
 else
 bif x1.At==5 then
 some ({x1 with At:=6,I:=r16,T:={qh.Tally with Ahead:=true }},x2,x3,false,0,())
 else
 yAB (f11 qs x1.Cmd) fun r18=>
 some ((⟨x1.Node,x1.Cmd,4,r16,{x1.Own with Bal:=x1.Own.Mbal,Val:=r18 },{qh.Tally with Ahead:=true }⟩:yAO),x2,x3,false,0,())
 else
 bif qk.Inst==qh.Tally.Inst then
 bif qh.Tally.Lost then
 bif decide (qh.Tally.Best<qk.Bal) then
 yAB qc fun r19=>
 bif decide (r19<x0.Nodes) then
 some ({x1 with I:=r19,T:={qh.Tally with Best:=qk.Bal,Val:=qk.Val,Lost:=true }},x2,x3,false,0,())
 else
 yAB (f10 qo) fun r20=>
 bif r20 then
 some (qa,x2,x3,false,0,())
 else
 bif x1.At==5 then
 some ({x1 with At:=6,I:=r19,T:={qh.Tally with Best:=qk.Bal,Val:=qk.Val,Lost:=true }},x2,x3,false,0,())
 else
 yAB (f11 qo x1.Cmd) fun r21=>
 some ((⟨x1.Node,x1.Cmd,4,r19,{x1.Own with Bal:=x1.Own.Mbal,Val:=r21 },{qh.Tally with Best:=qk.Bal,Val:=qk.Val,Lost:=true }⟩:yAO),x2,x3,false,0,())
 else
 yAB qc fun r22=>
 bif decide (r22<x0.Nodes) then
 some ({x1 with I:=r22,T:={qh.Tally with Lost:=true }},x2,x3,false,0,())
 else
 yAB (f10 qu) fun r23=>
 bif r23 then
 some (qa,x2,x3,false,0,())
 else
 bif x1.At==5 then
 some ({x1 with At:=6,I:=r22,T:={qh.Tally with Lost:=true }},x2,x3,false,0,())
 else
 yAB (f11 qu x1.Cmd) fun r24=>
 some ((⟨x1.Node,x1.Cmd,4,r22,{x1.Own with Bal:=x1.Own.Mbal,Val:=r24 },{qh.Tally with Lost:=true }⟩:yAO),x2,x3,false,0,())
 else
 bif decide (qh.Tally.Best<qk.Bal) then
 yAB qc fun r25=>
 bif decide (r25<x0.Nodes) then
 some ({x1 with I:=r25,T:={qh.Tally with Best:=qk.Bal,Val:=qk.Val,Lost:=decide qe }},x2,x3,false,0,())
 else
 yAB (f10 qm) fun r26=>
 bif r26 then
 some (qa,x2,x3,false,0,())
 else
 bif x1.At==5 then
 some ({x1 with At:=6,I:=r25,T:={qh.Tally with Best:=qk.Bal,Val:=qk.Val,Lost:=decide qe }},x2,x3,false,0,())
 else
 yAB (f11 qm x1.Cmd) fun r27=>
 some ((⟨x1.Node,x1.Cmd,4,r25,{x1.Own with Bal:=x1.Own.Mbal,Val:=r27 },{qh.Tally with Best:=qk.Bal,Val:=qk.Val,Lost:=decide qe }⟩:yAO),x2,x3,false,0,())
 else
 yAB qc fun r28=>
 bif decide (r28<x0.Nodes) then
 some ({x1 with I:=r28,T:={qh.Tally with Lost:=decide qe }},x2,x3,false,0,())
 else
 yAB (f10 qq) fun r29=>
 bif r29 then
 some (qa,x2,x3,false,0,())
 else
 bif x1.At==5 then
 some ({x1 with At:=6,I:=r28,T:={qh.Tally with Lost:=decide qe }},x2,x3,false,0,())
 else
 yAB (f11 qq x1.Cmd) fun r30=>
 some ((⟨x1.Node,x1.Cmd,4,r28,{x1.Own with Bal:=x1.Own.Mbal,Val:=r30 },{qh.Tally with Lost:=decide qe }⟩:yAO),x2,x3,false,0,())
 else
 yAB qc fun r31=>
 bif decide (r31<x0.Nodes) then
 some ({x1 with I:=r31,T:=qh.Tally },x2,x3,false,0,())
 else
 yAB (f10 qh.Tally) fun r32=>
 bif r32 then
 some (qa,x2,x3,false,0,())
 else
 bif x1.At==5 then
 some ({x1 with At:=6,I:=r31,T:=qh.Tally },x2,x3,false,0,())
 else
 yAB (f11 qh.Tally x1.Cmd) fun r33=>
 some ((⟨x1.Node,x1.Cmd,4,r31,{x1.Own with Bal:=x1.Own.Mbal,Val:=r33 },qh.Tally⟩:yAO),x2,x3,false,0,())
 else
 bif decide (x1.At=4) then
 yAB qg fun r34=>
 yAB (f9 x0 x1.Node 0) fun r35=>
 bif decide (r35<x0.Nodes) then
 some ({x1 with At:=IntKind.i8.wrap qw,I:=r35,T:=r34.2.Tally },x2,x3,false,0,())
 else
 yAB (f10 r34.2.Tally) fun r36=>
 bif r36 then
 some ((⟨x1.Node,x1.Cmd,0,0,yBI.z,(⟨0,0,0,noS,r34.2.Tally.Seen,false,false⟩:yAm)⟩:yAO),x2,x3,false,0,())
 else
 bif(IntKind.i8.wrap qw)==5 then
 some ({x1 with At:=6,I:=r35,T:=r34.2.Tally },x2,x3,false,0,())
 else
 yAB (f11 r34.2.Tally x1.Cmd) fun r37=>
 some ((⟨x1.Node,x1.Cmd,4,r35,{x1.Own with Bal:=x1.Own.Mbal,Val:=r37 },r34.2.Tally⟩:yAO),x2,x3,false,0,())
 else
 bif decide (x1.At=5) then
 yAB (f5 x4) fun r38=>
 letI ql:=r38.1
 bif r38.2.1 !=0 then
 bif r38.2.1 !=0 then
 some (x1,x2,x3,false,r38.2.1,())
 else
 some (x1,x2,x3,false,0,())
 else
 yAB (f8 qx ([[V.int .i64 ql.Mbal]])) fun r39=>
 letI qi:=r39.2
 letI qv:={qi.Tally with Lost:=true }
 letI qt:={qi.Tally with Ahead:=true }
 letI qp:={qi.Tally with Best:=ql.Bal,Val:=ql.Val,Lost:=true }
 letI qf:=qi.Tally.Mbal<ql.Mbal
 letI qr:={qi.Tally with Lost:=decide qf }
 letI qn:={qi.Tally with Best:=ql.Bal,Val:=ql.Val,Lost:=decide qf }
 letI qb:=(⟨x1.Node,x1.Cmd,0,0,yBI.z,(⟨0,0,0,noS,qi.Tally.Seen,false,false⟩:yAm)⟩:yAO)
 bif decide (qi.Tally.Inst<ql.Inst) then
 yAB qc fun r40=>
 bif decide (r40<x0.Nodes) then
 some ({x1 with I:=r40,T:={qi.Tally with Ahead:=true }},x2,x3,false,0,())
 else
 yAB (f10 qt) fun r41=>
 bif r41 then
 some (qb,x2,x3,false,0,())
 else
 bif x1.At==5 then
 some ({x1 with At:=6,I:=r40,T:={qi.Tally with Ahead:=true }},x2,x3,false,0,())
 else
 yAB (f11 qt x1.Cmd) fun r42=>
 some ((⟨x1.Node,x1.Cmd,4,r40,{x1.Own with Bal:=x1.Own.Mbal,Val:=r42 },{qi.Tally with Ahead:=true }⟩:yAO),x2,x3,false,0,())
 else
 bif ql.Inst==qi.Tally.Inst then
 bif qi.Tally.Lost then
 bif decide (qi.Tally.Best<ql.Bal) then
 yAB qc fun r43=>
 bif decide (r43<x0.Nodes) then
 some ({x1 with I:=r43,T:={qi.Tally with Best:=ql.Bal,Val:=ql.Val,Lost:=true }},x2,x3,false,0,())
 else
 yAB (f10 qp) fun r44=>
 bif r44 then
 some (qb,x2,x3,false,0,())
 else
 bif x1.At==5 then
 some ({x1 with At:=6,I:=r43,T:={qi.Tally with Best:=ql.Bal,Val:=ql.Val,Lost:=true }},x2,x3,false,0,())
 else
 yAB (f11 qp x1.Cmd) fun r45=>
 some ((⟨x1.Node,x1.Cmd,4,r43,{x1.Own with Bal:=x1.Own.Mbal,Val:=r45 },{qi.Tally with Best:=ql.Bal,Val:=ql.Val,Lost:=true }⟩:yAO),x2,x3,false,0,())
 else
 yAB qc fun r46=>
 bif decide (r46<x0.Nodes) then
 some ({x1 with I:=r46,T:={qi.Tally with Lost:=true }},x2,x3,false,0,())
 else
 yAB (f10 qv) fun r47=>
 bif r47 then
 some (qb,x2,x3,false,0,())
 else
 bif x1.At==5 then
 some ({x1 with At:=6,I:=r46,T:={qi.Tally with Lost:=true }},x2,x3,false,0,())
 else
 yAB (f11 qv x1.Cmd) fun r48=>
 some ((⟨x1.Node,x1.Cmd,4,r46,{x1.Own with Bal:=x1.Own.Mbal,Val:=r48 },{qi.Tally with Lost:=true }⟩:yAO),x2,x3,false,0,())
 else
 bif decide (qi.Tally.Best<ql.Bal) then
 yAB qc fun r49=>
 bif decide (r49<x0.Nodes) then
 some ({x1 with I:=r49,T:={qi.Tally with Best:=ql.Bal,Val:=ql.Val,Lost:=decide qf }},x2,x3,false,0,())
 else
 yAB (f10 qn) fun r50=>
 bif r50 then
 some (qb,x2,x3,false,0,())
 else
 bif x1.At==5 then
 some ({x1 with At:=6,I:=r49,T:={qi.Tally with Best:=ql.Bal,Val:=ql.Val,Lost:=decide qf }},x2,x3,false,0,())
 else
 yAB (f11 qn x1.Cmd) fun r51=>
 some ((⟨x1.Node,x1.Cmd,4,r49,{x1.Own with Bal:=x1.Own.Mbal,Val:=r51 },{qi.Tally with Best:=ql.Bal,Val:=ql.Val,Lost:=decide qf }⟩:yAO),x2,x3,false,0,())
 else
 yAB qc fun r52=>
 bif decide (r52<x0.Nodes) then
 some ({x1 with I:=r52,T:={qi.Tally with Lost:=decide qf }},x2,x3,false,0,())
 else
 yAB (f10 qr) fun r53=>
 bif r53 then
 some (qb,x2,x3,false,0,())
 else
 bif x1.At==5 then
 some ({x1 with At:=6,I:=r52,T:={qi.Tally with Lost:=decide qf }},x2,x3,false,0,())
 else
 yAB (f11 qr x1.Cmd) fun r54=>
 some ((⟨x1.Node,x1.Cmd,4,r52,{x1.Own with Bal:=x1.Own.Mbal,Val:=r54 },{qi.Tally with Lost:=decide qf }⟩:yAO),x2,x3,false,0,())
 else
 yAB qc fun r55=>
 bif decide (r55<x0.Nodes) then
 some ({x1 with I:=r55,T:=qi.Tally },x2,x3,false,0,())
 else
 yAB (f10 qi.Tally) fun r56=>
 bif r56 then
 some (qb,x2,x3,false,0,())
 else
 bif x1.At==5 then
 some ({x1 with At:=6,I:=r55,T:=qi.Tally },x2,x3,false,0,())
 else
 yAB (f11 qi.Tally x1.Cmd) fun r57=>
 some ((⟨x1.Node,x1.Cmd,4,r55,{x1.Own with Bal:=x1.Own.Mbal,Val:=r57 },qi.Tally⟩:yAO),x2,x3,false,0,())
 else
 gd (decide (x1.At=6))<|
 yAB (f12 x1.Own.Val) fun r58=>
 bif r58.2.1 !=0 then
 some (x1,x2,x3,false,50,())
 else
 yAB (f13 x0 x2 r58.1) fun r59=>
 yAB qj fun r60=>
 bif r60.2.1 then
 yAB (f3 r58.1 r60.1.By r60.1.Serial) fun r61=>
 some (qd,r59,w64 (x3+1),r61,0,())
 else
 some (qd,r59,w64 (x3+1),false,0,())
theorem xAt(f1 f2 f3 f4 f5 f6 f7 f8 f9 f10 f11 f12 f13):yFU.Eq [yIc.s f1,yE3.s f2,yF4.s f3,yMG.s f4,yGx.s f5,yJo.s f6,yGw.s f7,yC0.s f8,yEu.s f9,yF1.s f10,yF2.s f11,yBq.s f12,yEV.s f13] .no (yFT f1 f2 f3 f4 f5 f6 f7 f8 f9 f10 f11 f12 f13):=fun _=>by kernel_rfl
def yBh(L:Nat):yFU.T:=yFT (yJ6 L) (yJF L) (yLL L) (yQn L) (yEb L) (yPk L) (yJp L) (yGz L) (yGy L) (yIU L) (yIV L) (yBB L) (yCo L)
theorem yUB(L:Nat):yFU.C (yBh L):=yFU.c (xAt (yJ6 L) (yJF L) (yLL L) (yQn L) (yEb L) (yPk L) (yJp L) (yGz L) (yGy L) (yIU L) (yIV L) (yBB L) (yCo L)) (tC (xAh L).ent (tC (yV3 L).ent (tC (yWy L).ent (tC (xE0 L).ent (tC (yYQ L).ent (tC (xB1 L).ent (tC (yYO L).ent (tC (yRb L).ent (tC (yVT L).ent (tC (yWu L).ent (tC (yWw L).ent (tC (yHj L).ent (tC (yTC L).ent tN))))))))))))) Tryz.func111 (by kernel_rfl) (lN _)
end Go.Proofs.YtakljpcmbpaeaaaGreat

namespace Go.Proofs.YtakljpcmbpaeaaaGreat
open Go.RowKit
set_option maxRecDepth 100000
set_option maxHeartbeats 16000000
abbrev yBW:=(List (List V))×Unit×Int×Int×Unit
abbrev yB9:=Unit
abbrev yCA:=Int×Unit
abbrev yAc{α:Type}(s:yBW)(kn:yBW->Option α)(k0:yB9->Option α)(k1:yCA->Option α):Option α:=
 letI qa:=s.2.2.2.1
 bif decide (qa<s.2.2.1) then
 gI s.1 kS qa<|
 bif decide (512<((aS s.1 qa.toNat 0).size:Int)) then
 k1 (qa,())
 else
 kn (s.1,(()),s.2.2.1,w64 (qa+1),())
 else
 k0 (())
abbrev yBX:LW2 yBW yB9 yCA:=⟨(lvC 0 (mP cdR) (lvC 1 (mP (cdF 276 caN)) (lvC 7 (mP cI) (lvC 8 (mP cI) lvN)))),(.exit 0),lvN,.ret,(lvC 4 (mP cI) lvN)⟩
theorem yGX{α:Type}:yBX.Eq (α:=α) [] Tryz.f306 [1,0,1,0] .no (yAc):=fun _ _ _=>by kernel_rfl
abbrev yAq:=fw2 306 (caC cdR (caC (cdF 276 caN) caN)) cI
abbrev yCJ(F0:LF2 yBW yB9 yCA (Int))(x0:List (List V))(x1:Unit):Option Int:=
 F0 (x0,(()),(x0.length:Int),0,()) (fun q1=>
 some (-1)) (fun q2=>
 some q2.1)
theorem yHe(F0):yAq.Eq [] (.two .no (.two (.two .no (.one (.lp (yBX.s F0)))) .no)) (yCJ F0):=fun _=>by kernel_rfl
def yBS(L:Nat):yAq.T:=yCJ (yAe (yAc) L)
theorem yGO{α:Type}(L:Nat):LO Tryz.f306 [1,0,1,0] (yBX.s (α:=α) (yAe (yAc) L)):=yBX.k (yGX) tN (lN _) (by kernel_rfl) L
theorem yHd(L:Nat):yAq.C (yBS L):=yAq.c (yHe (yAe (yAc) L)) tN Tryz.func306 (by kernel_rfl) (lS (lN _) (lS (lS (lN _) (lB (lL (yGO L)))) (lN _)))
abbrev yAi:=fw2 275 (caC cdR (caC (cdF 276 caN) caN)) cdB
abbrev yB8(f1:yAq.T)(x0:List (List V))(x1:Unit):Option Bool:=
 yAB (f1 x0 (())) fun r1=>
 some (decide (0<=r1))
theorem yGW(f1):yAi.Eq [(306,spF 1 [(276,(yAq.s f1).2)])] .no (yB8 f1):=fun _=>by kernel_rfl
def yBi(L:Nat):yAi.T:=yB8 (yBS L)
theorem yGV(L:Nat):yAi.C (yBi L):=yAi.c (yGW (yBS L)) (tC (yNE (yGT (yHd L).ent yJd)) tN) Tryz.func275 (by kernel_rfl) (lN _)
abbrev yDY:=fw1 217 (caC cdR caN) cdB
abbrev yNQ(f1:yAi.T)(x0:List (List V)):Option Bool:=
 yAB (f1 x0 (())) fun r1=>
 some !r1
theorem yW6(f1):yDY.Eq [(275,spF 1 [(276,(yAi.s f1).2)])] .no (yNQ f1):=fun _=>by kernel_rfl
def yFQ(L:Nat):yDY.T:=yNQ (yBi L)
theorem yRP(L:Nat):yDY.C (yFQ L):=yDY.c (yW6 (yBi L)) (tC (yNE (yGT (yGV L).ent yJd)) tN) Tryz.func217 (by kernel_rfl) (lN _)
abbrev yDP:=yAH×(List (List V))×Int×Int×Unit
abbrev yFe:=Unit
abbrev yFf:=Bool×Unit
abbrev yD7{α:Type}(s:yDP)(kn:yDP->Option α)(k0:yFe->Option α)(k1:yFf->Option α):Option α:=
 bif decide (s.2.2.2.1<s.2.2.1) then
 gI s.2.1 yEs.ks s.2.2.2.1<|
 bif decide (aI s.2.1 s.2.2.2.1.toNat 0<0) then
 k1 (false,())
 else
 gd (decide ((s.1.Device.S.length:Int)<=aI s.2.1 s.2.2.2.1.toNat 0))<|
 k1 (false,())
 else
 k0 (())
abbrev yDQ:LW2 yDP yFe yFf:=⟨(lvC 0 (mP (cdP yBl)) (lvC 9 (mP cdR) (lvC 10 (mP cI) (lvC 11 (mP cI) lvN)))),(.exit 0),lvN,.ret,(lvC 4 (mP cdB) lvN)⟩
theorem yOX{α:Type}:yDQ.Eq (α:=α) [] Tryz.f218 [1,1,0,1,0] .no (yD7):=fun _ _ _=>by kernel_rfl
abbrev yCq:=fw2 218 (caC (cdP yBl) (caC cdR caN)) cdB
abbrev yLt(F0:LF2 yDP yFe yFf (Bool))(x0:yAH)(x1:List (List V)):Option Bool:=
 F0 (x0,x1,(x1.length:Int),0,()) (fun q1=>
 some true) (fun q2=>
 some q2.1)
theorem yQ4(F0):yCq.Eq [] (.two .no (.two .no (.two (.two .no (.one (.lp (yDQ.s F0)))) .no))) (yLt F0):=fun _=>by kernel_rfl
def yCh(L:Nat):yCq.T:=yLt (yAe (yD7) L)
theorem yNw{α:Type}(L:Nat):LO Tryz.f218 [1,1,0,1,0] (yDQ.s (α:=α) (yAe (yD7) L)):=yDQ.k (yOX) tN (lN _) (by kernel_rfl) L
theorem yQ3(L:Nat):yCq.C (yCh L):=yCq.c (yQ4 (yAe (yD7) L)) tN Tryz.func218 (by kernel_rfl) (lS (lN _) (lS (lN _) (lS (lS (lN _) (lB (lL (yNw L)))) (lN _))))
abbrev yBV:=fw2 219 (caC (cdP yBl) (caC cI caN)) cdB
abbrev yLu(x0:yAH)(x1:Int):Option Bool:=
 bif decide (16<=x1) then
 bif decide (w64 (x1.tdiv 16)<x0.Device.Next) then
 some (decide (x1.tmod 16<(x0.Device.Keys.length:Int)))
 else
 some false
 else
 some false
theorem yQ5:yBV.Eq [] .no (yLu):=fun _=>by kernel_rfl
def yAv(L:Nat):yBV.T:=yLu
theorem yHV(L:Nat):yBV.C (yAv L):=yBV.c (yQ5) tN Tryz.func219 (by kernel_rfl) (lN _)
set_option maxRecDepth 100000
set_option maxHeartbeats 16000000
abbrev yEA:=yAH×Int×(List (List V))×Int×Int×Unit
abbrev yGh:=Unit
abbrev yGi:=Bool×Unit
abbrev yDf{α:Type}(f1:yBV.T)(s:yEA)(kn:yEA->Option α)(k0:yGh->Option α)(k1:yGi->Option α):Option α:=
 letI qa:=s.2.2.2.2.1
 bif decide (qa<s.2.2.2.1) then
 gI s.2.2.1 kI qa<|
 bif decide (aI s.2.2.1 qa.toNat 0<=s.2.1) then
 k1 (false,())
 else
 yAB (f1 s.1 (aI s.2.2.1 qa.toNat 0)) fun r1=>
 bif !r1 then
 k1 (false,())
 else
 kn (s.1,aI s.2.2.1 qa.toNat 0,s.2.2.1,s.2.2.2.1,w64 (qa+1),())
 else
 k0 (())
abbrev yEB:LW2 yEA yGh yGi:=⟨(lvC 0 (mP (cdP yBl)) (lvC 5 (mP cI) (lvC 116 (mP cdR) (lvC 117 (mP cI) (lvC 118 (mP cI) lvN))))),(.exit 2),lvN,.ret,(lvC 2 (mP cdB) lvN)⟩
theorem yPt{α:Type}(f1):yEB.Eq (α:=α) [yBV.s f1] Tryz.f166 [1,1,1,1,0,1,0] .no (yDf f1):=fun _ _ _=>by kernel_rfl
abbrev yD8:=yAH×(List (List V))×Int×Int×Unit
abbrev yGf:=yAH×Unit
abbrev yGg:=Bool×Unit
abbrev yCV{α:Type}(f1:yCq.T)(f2:yBV.T)(s:yD8)(kn:yD8->Option α)(k0:yGf->Option α)(k1:yGg->Option α):Option α:=
 letI qa:=s.2.2.2.1
 letI qb:=aI s.2.1 qa.toNat 0
 bif decide (qa<s.2.2.1) then
 gI s.2.1 kI qa<|
 gI s.1.Device.Cache kL qa<|
 yAB (f1 s.1 (aR s.1.Device.Cache qa.toNat 0)) fun r1=>
 bif !r1 then
 k1 (false,())
 else
 bif qb !=0 then
 yAB (f2 s.1 qb) fun r2=>
 bif !r2 then
 k1 (false,())
 else
 bif(qb.tmod 16) !=qa then
 k1 (false,())
 else
 kn (s.1,s.2.1,s.2.2.1,w64 (qa+1),())
 else
 kn (s.1,s.2.1,s.2.2.1,w64 (qa+1),())
 else
 k0 (s.1,())
abbrev yD9:LW2 yD8 yGf yGg:=⟨(lvC 0 (mP (cdP yBl)) (lvC 77 (mP cdR) (lvC 78 (mP cI) (lvC 79 (mP cI) lvN)))),(.exit 0),(lvC 0 (mP (cdP yBl)) lvN),.ret,(lvC 2 (mP cdB) lvN)⟩
theorem yPs{α:Type}(f1 f2):yD9.Eq (α:=α) [yCq.s f1,yBV.s f2] Tryz.f166 [1,1,0,1,0] .no (yCV f1 f2):=fun _ _ _=>by kernel_rfl
abbrev yCK:=fw1 166 (caC (cdP yBl) caN) cdB
abbrev yI8(f1:yDY.T)(F0:LF2 yD8 yGf yGg (Bool))(F1:LF2 yEA yGh yGi (Bool))(x0:yAH):Option Bool:=
 bif(x0.Device.S.length:Int)==0 then
 some false
 else
 yAB (f1 x0.Device.S) fun r1=>
 bif !r1 then
 some false
 else
 bif(x0.Device.Keys.length:Int)==0 then
 some false
 else
 bif decide (16<(x0.Device.Keys.length:Int)) then
 some false
 else
 bif(x0.Device.Cache.length:Int) !=(x0.Device.Keys.length:Int) then
 some false
 else
 bif decide (x0.Device.Next<1) then
 some false
 else
 bif decide (68719476736<x0.Device.Next) then
 some false
 else
 F0 (x0,x0.Device.Keys,(x0.Device.Keys.length:Int),0,()) (fun q2=>
 F1 (q2.1,0,q2.1.Device.Fenced,(q2.1.Device.Fenced.length:Int),0,()) (fun q3=>
 some true) (fun q4=>
 some q4.1)) (fun q5=>
 some q5.1)
theorem ySY(f1 F0 F1):yCK.Eq [yDY.s f1] (.two .no (.two .no (.two (.two .no (.one (.lp (yD9.s F0)))) (.two .no (.two (.two .no (.one (.lp (yEB.s F1)))) .no))))) (yI8 f1 F0 F1):=fun _=>by kernel_rfl
def yDI(L:Nat):yCK.T:=yI8 (yFQ L) (yAe (yCV (yCh L) (yAv L)) L) (yAe (yDf (yAv L)) L)
theorem yPb{α:Type}(L:Nat):LO Tryz.f166 [1,1,1,1,0,1,0] (yEB.s (α:=α) (yAe (yDf (yAv L)) L)):=yEB.k (yPt (yAv L)) (tC (yHV L).ent tN) (lN _) (by kernel_rfl) L
theorem yPa{α:Type}(L:Nat):LO Tryz.f166 [1,1,0,1,0] (yD9.s (α:=α) (yAe (yCV (yCh L) (yAv L)) L)):=yD9.k (yPs (yCh L) (yAv L)) (tC (yQ3 L).ent (tC (yHV L).ent tN)) (lN _) (by kernel_rfl) L
theorem yM2(L:Nat):yCK.C (yDI L):=yCK.c (ySY (yFQ L) (yAe (yCV (yCh L) (yAv L)) L) (yAe (yDf (yAv L)) L)) (tC (yRP L).ent tN) Tryz.func166 (by kernel_rfl) (lS (lN _) (lS (lN _) (lS (lS (lN _) (lB (lL (yPa L)))) (lS (lN _) (lS (lS (lN _) (lB (lL (yPb L)))) (lN _))))))
abbrev yF6:=fw1 113 (caC yCY caN) cI
abbrev yNO(f1:yCK.T)(x0:yAA):Option Int:=
 yAB (f1 (⟨x0⟩:yAH)) fun r1=>
 bif !r1 then
 some 2
 else
 some 0
theorem yW4(f1):yF6.Eq [yCK.s f1] .no (yNO f1):=fun _=>by kernel_rfl
def yIY(L:Nat):yF6.T:=yNO (yDI L)
theorem yW3(L:Nat):yF6.C (yIY L):=yF6.c (yW4 (yDI L)) (tC (yM2 L).ent tN) Tryz.func113 (by kernel_rfl) (lN _)
abbrev yJ1:=fw1 114 (caC yDX caN) cI
abbrev yRk(f1:yIZ.T)(x0:yAQ):Option Int:=
 yAB (f1 x0 7) fun r1=>
 some (w64 (r1.stretch_.first_+r1.stretch_.many_))
theorem xCN(f1):yJ1.Eq [yIZ.s f1] .no (yRk f1):=fun _=>by kernel_rfl
def yNz(L:Nat):yJ1.T:=yRk (yOe L)
theorem xCM(L:Nat):yJ1.C (yNz L):=yJ1.c (xCN (yOe L)) (tC (yXz L).ent tN) Tryz.func114 (by kernel_rfl) (lN _)
abbrev yC2:=fw2 221 (caC (cdP yBl) (caC cI caN)) cdB
abbrev yIC(x0:yAH)(x1:Int):Option Bool:=
 bif decide (0<=x1) then
 some (decide (x1<(x0.Device.Keys.length:Int)))
 else
 some false
theorem yRh:yC2.Eq [] .no (yIC):=fun _=>by kernel_rfl
def yEx(L:Nat):yC2.T:=yIC
theorem yRg(L:Nat):yC2.C (yEx L):=yC2.c (yRh) tN Tryz.func221 (by kernel_rfl) (lN _)
abbrev yDB:=(List (List V))×Int×Int×Int×Unit
abbrev yEg:=Unit
abbrev yEh:=Int×Unit
abbrev yDU{α:Type}(s:yDB)(kn:yDB->Option α)(k0:yEg->Option α)(k1:yEh->Option α):Option α:=
 bif decide (s.2.2.2.1<s.2.2.1) then
 gI s.1 kI s.2.2.2.1<|
 bif s.2.1==(aI s.1 s.2.2.2.1.toNat 0) then
 k1 (s.2.2.2.1,())
 else
 kn (s.1,s.2.1,s.2.2.1,w64 (s.2.2.2.1+1),())
 else
 k0 (())
abbrev yDC:LW2 yDB yEg yEh:=⟨(lvC 0 (mP cdR) (lvC 1 (mP cI) (lvC 7 (mP cI) (lvC 8 (mP cI) lvN)))),(.exit 0),lvN,.ret,(lvC 4 (mP cI) lvN)⟩
theorem yNj{α:Type}:yDC.Eq (α:=α) [] Tryz.f342 [1,0,1,0] .no (yDU):=fun _ _ _=>by kernel_rfl
abbrev yCO:=fw2 342 (caC cdR (caC cI caN)) cI
abbrev yJn(F0:LF2 yDB yEg yEh (Int))(x0:List (List V))(x1:Int):Option Int:=
 F0 (x0,x1,(x0.length:Int),0,()) (fun q1=>
 some (-1)) (fun q2=>
 some q2.1)
theorem yPh(F0):yCO.Eq [] (.two .no (.two (.two .no (.one (.lp (yDC.s F0)))) .no)) (yJn F0):=fun _=>by kernel_rfl
def yHf(L:Nat):yCO.T:=yJn (yAe (yDU) L)
theorem yMz{α:Type}(L:Nat):LO Tryz.f342 [1,0,1,0] (yDC.s (α:=α) (yAe (yDU) L)):=yDC.k (yNj) tN (lN _) (by kernel_rfl) L
theorem yPg(L:Nat):yCO.C (yHf L):=yCO.c (yPh (yAe (yDU) L)) tN Tryz.func342 (by kernel_rfl) (lS (lN _) (lS (lS (lN _) (lB (lL (yMz L)))) (lN _)))
abbrev yB1:=fw2 309 (caC cdR (caC cI caN)) cdB
abbrev yHp(f1:yCO.T)(x0:List (List V))(x1:Int):Option Bool:=
 yAB (f1 x0 x1) fun r1=>
 some (decide (0<=r1))
theorem yNi(f1):yB1.Eq [yCO.s f1] .no (yHp f1):=fun _=>by kernel_rfl
def yBx(L:Nat):yB1.T:=yHp (yHf L)
theorem yNh(L:Nat):yB1.C (yBx L):=yB1.c (yNi (yHf L)) (tC (yPg L).ent tN) Tryz.func309 (by kernel_rfl) (lN _)
set_option maxRecDepth 100000
set_option maxHeartbeats 16000000
abbrev yBz:=(List (List V))×((yAA×Unit))×Int×Int×Unit
abbrev yCd:=Unit
abbrev yCe:=Int×Unit
abbrev yBJ{α:Type}(f1:yB1.T)(s:yBz)(kn:yBz->Option α)(k0:yCd->Option α)(k1:yCe->Option α):Option α:=
 letI qa:=s.2.2.2.1
 bif decide (qa<s.2.2.1) then
 gI s.1 kI qa<|
 bif decide (aI s.1 qa.toNat 0<1) then
 k1 (qa,())
 else
 yAB (f1 s.2.1.1.Fenced (aI s.1 qa.toNat 0)) fun r1=>
 bif r1 then
 k1 (qa,())
 else
 kn (s.1,(s.2.1.1,()),s.2.2.1,w64 (qa+1),())
 else
 k0 (())
abbrev yB0:LW2 yBz yCd yCe:=⟨(lvC 0 (mP cdR) (lvC 1 (mP (cdF 308 (caC (cdP ySQ) caN))) (lvC 7 (mP cI) (lvC 8 (mP cI) lvN)))),(.exit 0),lvN,.ret,(lvC 4 (mP cI) lvN)⟩
theorem yI0{α:Type}(f1):yB0.Eq (α:=α) [yB1.s f1] Tryz.f341 [1,0,1,0] .no (yBJ f1):=fun _ _ _=>by kernel_rfl
abbrev yBO:=fw2 341 (caC cdR (caC (cdF 308 (caC (cdP ySQ) caN)) caN)) cI
abbrev yFJ(F0:LF2 yBz yCd yCe (Int))(x0:List (List V))(x1:yAA×Unit):Option Int:=
 F0 (x0,(x1.1,()),(x0.length:Int),0,()) (fun q1=>
 some (-1)) (fun q2=>
 some q2.1)
theorem yKd(F0):yBO.Eq [] (.two .no (.two (.two .no (.one (.lp (yB0.s F0)))) .no)) (yFJ F0):=fun _=>by kernel_rfl
def yCU(L:Nat):yBO.T:=yFJ (yAe (yBJ (yBx L)) L)
theorem yIP{α:Type}(L:Nat):LO Tryz.f341 [1,0,1,0] (yB0.s (α:=α) (yAe (yBJ (yBx L)) L)):=yB0.k (yI0 (yBx L)) (tC (yNh L).ent tN) (lN _) (by kernel_rfl) L
theorem yKc(L:Nat):yBO.C (yCU L):=yBO.c (yKd (yAe (yBJ (yBx L)) L)) tN Tryz.func341 (by kernel_rfl) (lS (lN _) (lS (lS (lN _) (lB (lL (yIP L)))) (lN _)))
abbrev yA2:=fw2 307 (caC cdR (caC (cdF 308 (caC (cdP ySQ) caN)) caN)) cdB
abbrev yCc(f1:yBO.T)(x0:List (List V))(x1:yAA×Unit):Option Bool:=
 yAB (f1 x0 (x1.1,())) fun r1=>
 some (decide (0<=r1))
theorem yIz(f1):yA2.Eq [(341,spF 1 [(308,(yBO.s f1).2)])] .no (yCc f1):=fun _=>by kernel_rfl
def yCC(L:Nat):yA2.T:=yCc (yCU L)
theorem yIy(L:Nat):yA2.C (yCC L):=yA2.c (yIz (yCU L)) (tC (yNE (yGT (yKc L).ent yJd)) tN) Tryz.func307 (by kernel_rfl) (lN _)
abbrev yEw:=fw2 278 (caC yCY (caC cdR caN)) cdB
abbrev yMS(f1:yA2.T)(x0:yAA)(x1:List (List V)):Option Bool:=
 yAB (f1 x1 (x0,())) fun r1=>
 some r1
theorem yVd(f1):yEw.Eq [(307,spF 1 [(308,(yA2.s f1).2)])] .no (yMS f1):=fun _=>by kernel_rfl
def yLy(L:Nat):yEw.T:=yMS (yCC L)
theorem yVc(L:Nat):yEw.C (yLy L):=yEw.c (yVd (yCC L)) (tC (yNE (yGT (yIy L).ent yJd)) tN) Tryz.func278 (by kernel_rfl) (lN _)
abbrev yCZ:=fw2 222 (caC (cdP yBl) (caC cI caN)) cdB
abbrev yGe(f1:yEw.T)(x0:yAH)(x1:Int):Option Bool:=
 gI x0.Device.Keys kI x1<|
 yAB (f1 x0.Device ([[V.int .i64 (aI x0.Device.Keys x1.toNat 0)]])) fun r1=>
 some r1
theorem yPr(f1):yCZ.Eq [yEw.s f1] .no (yGe f1):=fun _=>by kernel_rfl
def yDe(L:Nat):yCZ.T:=yGe (yLy L)
theorem yPq(L:Nat):yCZ.C (yDe L):=yCZ.c (yPr (yLy L)) (tC (yVc L).ent tN) Tryz.func222 (by kernel_rfl) (lN _)
abbrev yCN:=fw3 169 (caC (cdP yBl) (caC cI (caC yNq caN))) cI
abbrev yDn(f1:yCK.T)(f2:yC2.T)(f3:yDY.T)(f4:yBV.T)(f5:yCZ.T)(x0:yAH)(x1:Int)(x2:yBN):Option Int:=
 letI qe:=f5 x0 x1
 letI qd:=x2.Sector<0
 letI qc:=x2.Kind<=3
 letI qb:=68719476736<=x0.Device.Next
 letI qa:=(x0.Device.S.length:Int)<=x2.Sector
 yAB (f1 x0) fun r1=>
 bif !r1 then
 some 2
 else
 yAB (f2 x0 x1) fun r2=>
 bif !r2 then
 some 2
 else
 bif decide (x2.Kind<1) then
 some 2
 else
 bif decide (6<x2.Kind) then
 some 2
 else
 bif x2.Kind==2 then
 yAB (f3 ([[V.str x2.B]])) fun r3=>
 bif !r3 then
 some 2
 else
 bif x2.Kind==5 then
 yAB (f4 x0 x2.Key) fun r4=>
 bif !r4 then
 some 2
 else
 bif x2.Kind==6 then
 bif decide qb then
 some 2
 else
 some 0
 else
 yAB qe fun r5=>
 bif r5 then
 some 61
 else
 bif decide qc then
 bif decide qd then
 some 60
 else
 bif decide qa then
 some 60
 else
 some 0
 else
 some 0
 else
 bif x2.Kind==6 then
 bif decide qb then
 some 2
 else
 some 0
 else
 yAB qe fun r6=>
 bif r6 then
 some 61
 else
 bif decide qc then
 bif decide qd then
 some 60
 else
 bif decide qa then
 some 60
 else
 some 0
 else
 some 0
 else
 bif x2.Kind==3 then
 yAB (f3 ([[V.str x2.B]])) fun r7=>
 bif !r7 then
 some 2
 else
 bif x2.Kind==5 then
 yAB (f4 x0 x2.Key) fun r8=>
 bif !r8 then
 some 2
 else
 bif x2.Kind==6 then
 bif decide qb then
 some 2
 else
 some 0
 else
 yAB qe fun r9=>
 bif r9 then
 some 61
 else
 bif decide qc then
 bif decide qd then
 some 60
 else
 bif decide qa then
 some 60
 else
 some 0
 else
 some 0
 else
 bif x2.Kind==6 then
 bif decide qb then
 some 2
 else
 some 0
 else
 yAB qe fun r10=>
 bif r10 then
 some 61
 else
 bif decide qc then
 bif decide qd then
 some 60
 else
 bif decide qa then
 some 60
 else
 some 0
 else
 some 0
 else
 bif x2.Kind==5 then
 yAB (f4 x0 x2.Key) fun r11=>
 bif !r11 then
 some 2
 else
 bif x2.Kind==6 then
 bif decide qb then
 some 2
 else
 some 0
 else
 yAB qe fun r12=>
 bif r12 then
 some 61
 else
 bif decide qc then
 bif decide qd then
 some 60
 else
 bif decide qa then
 some 60
 else
 some 0
 else
 some 0
 else
 bif x2.Kind==6 then
 bif decide qb then
 some 2
 else
 some 0
 else
 yAB qe fun r13=>
 bif r13 then
 some 61
 else
 bif decide qc then
 bif decide qd then
 some 60
 else
 bif decide qa then
 some 60
 else
 some 0
 else
 some 0
theorem yPd(f1 f2 f3 f4 f5):yCN.Eq [yCK.s f1,yC2.s f2,yDY.s f3,yBV.s f4,yCZ.s f5] .no (yDn f1 f2 f3 f4 f5):=fun _=>by kernel_rfl
def yCI(L:Nat):yCN.T:=yDn (yDI L) (yEx L) (yFQ L) (yAv L) (yDe L)
theorem yPc(L:Nat):yCN.C (yCI L):=yCN.c (yPd (yDI L) (yEx L) (yFQ L) (yAv L) (yDe L)) (tC (yM2 L).ent (tC (yRg L).ent (tC (yRP L).ent (tC (yHV L).ent (tC (yPq L).ent tN))))) Tryz.func169 (by kernel_rfl) (lN _)
set_option maxRecDepth 100000
set_option maxHeartbeats 16000000
abbrev yBC:=(List (List V))×(((Int×Unit)×Unit))×Int×Int×Unit
abbrev yBr:=Unit
abbrev yBs:=Int×Unit
abbrev yBP{α:Type}(s:yBC)(kn:yBC->Option α)(k0:yBr->Option α)(k1:yBs->Option α):Option α:=
 letI qa:=s.2.2.2.1
 bif decide (qa<s.2.2.1) then
 gI s.1 yEs.ks qa<|
 bif(aI s.1 qa.toNat 0)==s.2.1.1.1 then
 k1 (qa,())
 else
 kn (s.1,((s.2.1.1.1,()),()),s.2.2.1,w64 (qa+1),())
 else
 k0 (())
abbrev yBD:LW2 yBC yBr yBs:=⟨(lvC 0 (mP cdR) (lvC 1 (mP (cdF 225 (caC (cdP (caC cI caN)) caN))) (lvC 7 (mP cI) (lvC 8 (mP cI) lvN)))),(.exit 0),lvN,.ret,(lvC 4 (mP cI) lvN)⟩
theorem yFN{α:Type}:yBD.Eq (α:=α) [] Tryz.f224 [1,0,1,0] .no (yBP):=fun _ _ _=>by kernel_rfl
abbrev yAf:=fw2 224 (caC cdR (caC (cdF 225 (caC (cdP (caC cI caN)) caN)) caN)) cI
abbrev yCz(F0:LF2 yBC yBr yBs (Int))(x0:List (List V))(x1:(Int×Unit)×Unit):Option Int:=
 F0 (x0,((x1.1.1,()),()),(x0.length:Int),0,()) (fun q1=>
 some (-1)) (fun q2=>
 some q2.1)
theorem yGJ(F0):yAf.Eq [] (.two .no (.two (.two .no (.one (.lp (yBD.s F0)))) .no)) (yCz F0):=fun _=>by kernel_rfl
def yAj(L:Nat):yAf.T:=yCz (yAe (yBP) L)
theorem yFA{α:Type}(L:Nat):LO Tryz.f224 [1,0,1,0] (yBD.s (α:=α) (yAe (yBP) L)):=yBD.k (yFN) tN (lN _) (by kernel_rfl) L
theorem yGI(L:Nat):yAf.C (yAj L):=yAf.c (yGJ (yAe (yBP) L)) tN Tryz.func224 (by kernel_rfl) (lS (lN _) (lS (lS (lN _) (lB (lL (yFA L)))) (lN _)))
abbrev yDR:=((List (List V))×(List (List V))×(List (List V))×Int×(List (List V))×Unit)×(List (List V))×Int×Int×Unit
abbrev yFg:=((List (List V))×(List (List V))×(List (List V))×Int×(List (List V))×Unit)×Unit
abbrev yCE{α:Type}(s:yDR)(kn:yDR->Option α)(k0:yFg->Option α):Option α:=
 letI qe:=s.2.2.2.1
 letI qc:=aI s.2.1 qe.toNat 0
 letI qa:=0+qc.toNat
 letI qd:=s.1.1.getD qa []
 letI qb:=qd.take 0++([V.str (aS s.2.1 qe.toNat 1)]++qd.drop 1)
 bif decide (qe<s.2.2.1) then
 gI s.2.1 yEs.ks qe<|
 gB qc s.1.1.length<|
 gd (decide (0+qc.toNat<s.1.1.length))<|
 gd (Nat.ble 0 qa)<|
 gd (Nat.ble 1 qd.length)<|
 gW (s.1.1.set qa qb) s.1.1.length<|
 kn ((s.1.1.set qa qb,s.1.2.1,s.1.2.2.1,s.1.2.2.2.1,s.1.2.2.2.2.1,()),s.2.1,s.2.2.1,w64 (qe+1),())
 else
 gW s.1.1 s.1.1.length<|
 k0 ((s.1.1,s.1.2.1,s.1.2.2.1,s.1.2.2.2.1,s.1.2.2.2.2.1,()),())
abbrev yDS:LW1 yDR yFg:=⟨(lvC 0 (mR (zW 1 (zP cdR (zP cdR (zP cI (zP cdR zN))))) 5) (lvC 16 (mP cdR) (lvC 17 (mP cI) (lvC 18 (mP cI) lvN)))),(.exit 0),(lvC 0 (mR (zW 1 (zP cdR (zP cdR (zP cI (zP cdR zN))))) 5) lvN)⟩
theorem yOY{α:Type}:yDS.Eq (α:=α) [] Tryz.f171 [1,1,0] .no (yCE):=fun _ _ _=>by kernel_rfl
abbrev yCr:=mw1 171 (zS 5 yBl) 5 (caC cdR caN) (cdT caN)
abbrev yHW(f1:yND.T)(F0:LF1 yDR yFg (Unit×yAH))(x0:yAH)(x1:List (List V)):Option (Unit×yAH):=
 yAB (f1 x0.Device.S) fun r1=>
 gW r1 r1.length<|
 F0 ((r1,x0.Device.Cache,x0.Device.Keys,x0.Device.Next,x0.Device.Fenced,()),x1,(x1.length:Int),0,()) (fun q2=>
 gF q2.1.1 (0+q2.1.1.length)<|
 some ((()),(⟨(⟨q2.1.1.take q2.1.1.length,q2.1.2.1,q2.1.2.2.1,q2.1.2.2.2.1,q2.1.2.2.2.2.1⟩:yAA)⟩:yAH)))
theorem yQ7(f1 F0):yCr.Eq [yND.s f1] (.two .no (.two .no (.one (.lp (yDS.s F0))))) (yHW f1 F0):=fun _ _=>by kernel_rfl
def yEC(L:Nat):yCr.T:=yHW (yFx L) (yBL (yCE) L)
theorem yNx{α:Type}(L:Nat):LO Tryz.f171 [1,1,0] (yDS.s (α:=α) (yBL (yCE) L)):=yDS.k (yOY) tN (lN _) (by kernel_rfl) L
theorem yQ6(L:Nat):yCr.C (yEC L):=yCr.c (yQ7 (yFx L) (yBL (yCE) L)) (tC (yTA L).ent tN) Tryz.func171 (by kernel_rfl) (lS (lN _) (lS (lN _) (lB (lL (yNx L)))))
set_option maxRecDepth 100000
set_option maxHeartbeats 16000000
abbrev yKn:=yAA×ByteArray×yAH×(List (List V))×Int×Int×Unit
abbrev yNP:=yAA×ByteArray×yAH×Unit
abbrev yM1{α:Type}(s:yKn)(kn:yKn->Option α)(k0:yNP->Option α):Option α:=
 bif decide (s.2.2.2.2.2.1<s.2.2.2.2.1) then
 gI s.2.2.2.1 kI s.2.2.2.2.2.1<|
 none
 else
 k0 (s.1,s.2.1,s.2.2.1,())
abbrev yKo:LW1 yKn yNP:=⟨(lvC 6 yAI (lvC 7 (mP cdS) (lvC 9 (mP (cdP yBl)) (lvC 123 (mP cdR) (lvC 124 (mP cI) (lvC 125 (mP cI) lvN)))))),(.exit 1),(lvC 6 yAI (lvC 7 (mP cdS) (lvC 9 (mP (cdP yBl)) lvN)))⟩
theorem yW5{α:Type}:yKo.Eq (α:=α) [] Tryz.f115 [1,1,1,1,1,0,1,0,1,1,1,1,1,1,1,1,1,0,1,0,1,0] .no (yM1):=fun _ _ _=>by kernel_rfl
abbrev yJy:=fw3 115 (caC yCY (caC cI (caC yNq caN))) (cdT (caC yCY (caC cdS (caC cI caN))))
abbrev yOW(f1:yCN.T)(f2:yMs.T)(f3:yAf.T)(f4:yCr.T)(f6:yLw.T)(f7:yNC.T)(f8:yN6.T)(F0:LF1 yKn yNP (yAA×ByteArray×Int×Unit))(x0:yAA)(x1:Int)(x2:yBN):Option (yAA×ByteArray×Int×Unit):=
 letI qh:=(⟨x0⟩:yAH)
 letI qg:= [[V.int .i64 x2.Sector,V.str x2.B]]
 letI qa:=0+x1.toNat
 letI qi:=Nat.ble 0 qa
 yAB (f1 qh x1 x2) fun r1=>
 bif r1 !=0 then
 some (x0,noS,r1,())
 else
 gI x0.Cache kL x1<|
 yAB (f2 (aR x0.Cache x1.toNat 0)) fun r2=>
 letI qm:=0+(r2.length:Int).toNat
 letI qj:=r2.length+1
 gF r2 (0+r2.length)<|
 yAB (f3 (r2.take r2.length) ((x2.Sector,()),())) fun r3=>
 letI qk:=0+r3.toNat
 bif x2.Kind==1 then
 gI x0.S kS x2.Sector<|
 bif decide (0<=r3) then
 gB r3 r2.length<|
 gL r2 kS qk 1<|
 some (x0,aS r2 qk 1,0,())
 else
 some (x0,aS x0.S x2.Sector.toNat 0,0,())
 else
 bif x2.Kind==2 then
 yAB (f4 qh qg) fun r4=>
 bif decide (0<=r3) then none else
 some (r4.2.Device,noS,0,())
 else
 bif x2.Kind==3 then
 bif decide (r3<0) then
 gd (Nat.beq (0+r2.length) r2.length)<|
 gM qj 24<|
 gB (r2.length:Int) qj<|
 gd (decide (0+(r2.length:Int).toNat<(r2++qg).length))<|
 gd (Nat.ble 0 qm)<|
 gd (Nat.ble 2 ((r2++qg).getD qm []).length)<|
 yAB (f6 x0.Cache) fun r5=>
 letI qc:=r5.set qa ((r5.getD qa []).take 0++([V.bs 10 0 qj qj]++(r5.getD qa []).drop 1))
 gB x1 r5.length<|
 gd (decide (0+x1.toNat<r5.length))<|
 gd qi<|
 gd (Nat.ble 1 (r5.getD qa []).length)<|
 gF qc (0+r5.length)<|
 some ({x0 with Cache:=qc.take r5.length },noS,0,())
 else
 gB r3 r2.length<|
 gd (decide (0+r3.toNat<r2.length))<|
 gd (Nat.ble 0 qk)<|
 gd (Nat.ble 2 (r2.getD qk []).length)<|
 yAB (f6 x0.Cache) fun r6=>
 letI qe:=r6.set qa ((r6.getD qa []).take 0++([V.bs 6 0 r2.length r2.length]++(r6.getD qa []).drop 1))
 gB x1 r6.length<|
 gd (decide (0+x1.toNat<r6.length))<|
 gd qi<|
 gd (Nat.ble 1 (r6.getD qa []).length)<|
 gF qe (0+r6.length)<|
 some ({x0 with Cache:=qe.take r6.length },noS,0,())
 else
 bif x2.Kind==4 then
 bif decide (0<(r2.length:Int)) then
 gd (decide (0<(r2.length:Int)))<|
 gL r2 yEs.ks 0 0<|
 yAB (f4 qh ([[V.int .i64 (aI r2 0 0),V.str (aS r2 0 1)]])) fun r7=>
 gd (decide (1<=(r2.length:Int)))<|
 yAB (f6 r7.2.Device.Cache) fun r8=>
 letI qd:=r8.set qa ((r8.getD qa []).take 0++([V.bs 6 1 (r2.length-1) (r2.length-1)]++(r8.getD qa []).drop 1))
 gB x1 r8.length<|
 gd (decide (0+x1.toNat<r8.length))<|
 gd qi<|
 gd (Nat.ble 1 (r8.getD qa []).length)<|
 gF qd (0+r8.length)<|
 some ({r7.2.Device with Cache:=qd.take r8.length },noS,0,())
 else
 some (x0,noS,0,())
 else
 bif x2.Kind==5 then none else
 bif x2.Kind==6 then
 yAB (f7 x0.Keys) fun r9=>
 letI qb:=r9.set qa ((r9.getD qa []).take 0++([V.int .i64 (w64 ((w64 (16*x0.Next))+x1))]++(r9.getD qa []).drop 1))
 gB x1 r9.length<|
 gd (decide (0+x1.toNat<r9.length))<|
 gd qi<|
 gd (Nat.ble 1 (r9.getD qa []).length)<|
 yAB (f6 x0.Cache) fun r10=>
 letI ql:=r10.getD qa []
 letI qf:=r10.set qa (ql.take 0++([V.sl ([]) true]++ql.drop 1))
 gB x1 r10.length<|
 gd (decide (0+x1.toNat<r10.length))<|
 gd qi<|
 gd (Nat.ble 1 ql.length)<|
 gB x1 r9.length<|
 gL qb kI qa 0<|
 yAB (f8 ([]) 6 ([[V.int .i64 (aI qb qa 0)]])) fun r11=>
 gd (Nat.ble (0+r11.1.length) r11.1.length)<|
 gd ((bytesOf (r11.1.take r11.1.length)).isSome)<|
 gF qf (0+r10.length)<|
 gF qb (0+r9.length)<|
 some ((⟨x0.S,qf.take r10.length,qb.take r9.length,w64 (x0.Next+1),x0.Fenced⟩:yAA),yI2 (r11.1.take r11.1.length),0,())
 else
 some (x0,noS,0,())
theorem xCC(f1 f2 f3 f4 f6 f7 f8 F0):yJy.Eq [yCN.s f1,yMs.s f2,(224,spF 1 [(225,(yAf.s f3).2)]),yCr.s f4,sZ 173,yLw.s f6,yNC.s f7,yN6.s f8] (.two .no (.two .no (.two .no (.two .no (.two .no (.two (.two .no (.one (.two .no (.two .no (.two .no (.two .no (.two .no (.two .no (.two .no (.two .no (.two .no (.two (.two .no (.two (.two .no (.one (.lp (yKo.s F0)))) .no)) .no)))))))))))) .no)))))) (yOW f1 f2 f3 f4 f6 f7 f8 F0):=fun _=>by kernel_rfl
def yFt(L:Nat):yJy.T:=yOW (yCI L) (yHR L) (yAj L) (yEC L) (yJc L) (yLn L) (yIE L) (yBL (yM1) L)
theorem yVb{α:Type}(L:Nat):LO Tryz.f115 [1,1,1,1,1,0,1,0,1,1,1,1,1,1,1,1,1,0,1,0,1,0] (yKo.s (α:=α) (yBL (yM1) L)):=yKo.k (yW5) tN (lN _) (by kernel_rfl) L
theorem xCB(L:Nat):yJy.C (yFt L):=yJy.c (xCC (yCI L) (yHR L) (yAj L) (yEC L) (yJc L) (yLn L) (yIE L) (yBL (yM1) L)) (tC (yPc L).ent (tC (ySC L).ent (tC (yNE (yGT (yGI L).ent yJd)) (tC (yQ6 L).ent (tC yZe (tC (yRG L).ent (tC (yS9 L).ent (tC (yVw L).ent tN)))))))) Tryz.func115 (by kernel_rfl) (lS (lN _) (lS (lN _) (lS (lN _) (lS (lN _) (lS (lN _) (lS (lS (lN _) (lB (lS (lN _) (lQ (lN _) (lS (lN _) (lQ (lN _) (lS (lN _) (lQ (lN _) (lS (lN _) (lQ (lN _) (lS (lN _) (lQ (lS (lN _) (lS (lS (lN _) (lB (lL (yVb L)))) (lN _))) (lN _))))))))))))) (lN _)))))))
abbrev yKr:=Int×yAQ×yAA×yAO×yAA×yEt×Int×Unit
abbrev yNS:=yAA×yAA×yEt×Int×Unit
abbrev yFS{α:Type}(f1:yFW.T)(f2:yJy.T)(f3:yFU.T)(s:yKr)(kn:yKr->Option α)(k0:yNS->Option α):Option α:=
 letI qc:=s.2.2.2.2.1
 letI qa:=s.2.2.2.2.2.1
 bif !qa.Over then
 bif decide (qa.Acts<s.1) then
 yAB (f1 s.2.1 qa.P qa.Done) fun r1=>
 bif r1.2.1 !=0 then
 k0 (s.2.2.1,qc,qa,r1.2.1,())
 else
 yAB (f2 s.2.2.1 s.2.2.2.1.Node r1.1) fun r2=>
 bif r2.2.2.1 !=0 then
 k0 (s.2.2.1,qc,{qa with Acts:=w64 (qa.Acts+1)},r2.2.2.1,())
 else
 yAB (f3 s.2.1 qa.P qa.T qa.Done r2.2.1) fun r3=>
 letI qb:=(⟨r3.1,r3.2.1,r3.2.2.1,w64 (qa.Acts+1),r3.2.2.2.1⟩:yEt)
 bif r3.2.2.2.2.1 !=0 then
 k0 (r2.1,qc,qb,r3.2.2.2.2.1,())
 else
 kn (s.1,s.2.1,r2.1,s.2.2.2.1,qc,qb,r3.2.2.2.2.1,())
 else
 k0 (s.2.2.1,qc,qa,s.2.2.2.2.2.2.1,())
 else
 k0 (s.2.2.1,qc,qa,s.2.2.2.2.2.2.1,())
abbrev yKs:LW1 yKr yNS:=⟨(lvC 5 (mP cI) (lvC 6 yRR (lvC 7 yAI (lvC 8 xKU (lvC 12 yAI (lvC 13 xJS (lvC 14 (mP cI) lvN))))))),(.exit 0),(lvC 7 yAI (lvC 12 yAI (lvC 13 xJS (lvC 14 (mP cI) lvN))))⟩
theorem yXE{α:Type}(f1 f2 f3):yKs.Eq (α:=α) [yFW.s f1,yJy.s f2,yFU.s f3] Tryz.f43 [1,0,1,1,1,0,0] .no (yFS f1 f2 f3):=fun _ _ _=>by kernel_rfl
abbrev yGm:=fw6 43 (caC yDX (caC yCY (caC yVR (caC yKl (caC cI (caC cI caN)))))) (cdT (caC yCY (caC xLY (caC cI caN))))
abbrev yRs(f1:yFu.T)(f2:yF6.T)(f3:yJ1.T)(F0:LF1 yKr yNS (yAA×yEt×Int×Unit))(x0:yAQ)(x1:yAA)(x2:yAO)(x3:yAM)(x4:Int)(x5:Int):Option (yAA×yEt×Int×Unit):=
 letI qa:=(⟨x2,x3,x4,0,false⟩:yEt)
 yAB (f1 x0) fun r1=>
 bif !r1 then
 some (x1,qa,2,())
 else
 yAB (f2 x1) fun r2=>
 bif r2 !=0 then
 some (x1,qa,2,())
 else
 yAB (f3 x0) fun r3=>
 bif(x1.S.length:Int) !=r3 then
 some (x1,qa,2,())
 else
 F0 (x5,x0,x1,x2,yAA.z,qa,0,()) (fun q4=>
 some (q4.1,q4.2.2.1,q4.2.2.2.1,()))
theorem xCb(f1 f2 f3 F0):yGm.Eq [yFu.s f1,yF6.s f2,yJ1.s f3] (.two .no (.one (.two .no (.two .no (.two .no (.two (.one (.lp (yKs.s F0))) .no)))))) (yRs f1 f2 f3 F0):=fun _=>by kernel_rfl
def yLM(L:Nat):yGm.T:=yRs (yJ0 L) (yIY L) (yNz L) (yBL (yFS (yBU L) (yFt L) (yBh L)) L)
theorem yV1{α:Type}(L:Nat):LO Tryz.f43 [1,0,1,1,1,0,0] (yKs.s (α:=α) (yBL (yFS (yBU L) (yFt L) (yBh L)) L)):=yKs.k (yXE (yBU L) (yFt L) (yBh L)) (tC (yUC L).ent (tC (xCB L).ent (tC (yUB L).ent tN))) (lN _) (by kernel_rfl) L
theorem yV2(L:Nat):yGm.C (yLM L):=yGm.c (xCb (yJ0 L) (yIY L) (yNz L) (yBL (yFS (yBU L) (yFt L) (yBh L)) L)) (tC (ySc L).ent (tC (yW3 L).ent (tC (xCM L).ent tN))) Tryz.func43 (by kernel_rfl) (lS (lN _) (lC (lS (lN _) (lS (lN _) (lS (lN _) (lS (lB (lL (yV1 L))) (lN _)))))))
set_option maxRecDepth 100000
set_option maxHeartbeats 16000000
abbrev yIX:=fw1 119 (caC cI caN) cI
abbrev yPo(f1:yD6.T)(x0:Int):Option Int:=
 yAB (f1 x0) fun r1=>
 bif r1 then
 some (x0.tmod 16)
 else
 some (-1)
theorem xAC(f1):yIX.Eq [yD6.s f1] .no (yPo f1):=fun _=>by kernel_rfl
def yNv(L:Nat):yIX.T:=yPo (yIA L)
theorem xAB(L:Nat):yIX.C (yNv L):=yIX.c (xAC (yIA L)) (tC (ySS L).ent tN) Tryz.func119 (by kernel_rfl) (lN _)
abbrev yEI:=fw3 47 (caC yDX (caC cI (caC cdS caN))) (cdT (caC yVR (caC cI caN)))
abbrev yOm(f1:yBq.T)(f2:yFu.T)(f3:yIX.T)(x0:yAQ)(x1:Int)(x2:ByteArray):Option (yAO×Int×Unit):=
 yAB (f1 x2) fun r1=>
 bif r1.2.1 !=0 then
 some (yAO.z,2,())
 else
 yAB (f2 x0) fun r2=>
 bif !r2 then
 some (yAO.z,2,())
 else
 bif decide (x1<0) then
 some (yAO.z,2,())
 else
 bif decide (x0.Nodes<=x1) then
 some (yAO.z,2,())
 else
 yAB (f3 r1.1.By) fun r3=>
 bif r3 !=x1 then
 some (yAO.z,2,())
 else
 some ((⟨x1,x2,0,0,yBI.z,yAm.z⟩:yAO),0,())
theorem yY2(f1 f2 f3):yEI.Eq [yBq.s f1,yFu.s f2,yIX.s f3] .no (yOm f1 f2 f3):=fun _=>by kernel_rfl
def yIG(L:Nat):yEI.T:=yOm (yBB L) (yJ0 L) (yNv L)
theorem ySk(L:Nat):yEI.C (yIG L):=yEI.c (yY2 (yBB L) (yJ0 L) (yNv L)) (tC (yHj L).ent (tC (ySc L).ent (tC (xAB L).ent tN))) Tryz.func47 (by kernel_rfl) (lN _)
abbrev yKS:=fw1 156 (caC cI caN) cdB
abbrev yR3(x0:Int):Option Bool:=
 bif decide (16<=x0) then
 some (decide (x0<=1099511627776))
 else
 some false
theorem xCx:yKS.Eq [] .no (yR3):=fun _=>by kernel_rfl
def yQT(L:Nat):yKS.T:=yR3
theorem xCw(L:Nat):yKS.C (yQT L):=yKS.c (xCx) tN Tryz.func156 (by kernel_rfl) (lN _)
abbrev yKT:=fw1 100 (caC yNr caN) cdB
abbrev yR4(f1:yKS.T)(x0:yAG):Option Bool:=
 letI qk:=x0.Was==0
 letI qj:=f1 x0.Dead
 letI qi:=x0.By==x0.By
 letI qh:=x0.Serial==x0.Serial
 letI qe:=x0.Kind==x0.Kind
 letI qd:=qi&&(qh&&((x0.Dead==0)&&(qk&&((x0.Span.Lo==x0.Span.Lo)&&((x0.Span.Hi==x0.Span.Hi)&&((x0.Mode==0)&&true))))))
 letI qc:=qi&&(qh&&((x0.Dead==0)&&(qk&&((x0.Span.Lo==x0.Span.Lo)&&((x0.Span.Hi==x0.Span.Hi)&&((x0.Mode==x0.Mode)&&true))))))
 letI qb:=(x0.Span.Lo==0)&&((x0.Span.Hi==0)&&((x0.Mode==0)&&true))
 letI qg:=qi&&(qh&&((x0.Dead==x0.Dead)&&(qk&&qb)))
 letI qf:=qi&&(qh&&((x0.Dead==x0.Dead)&&((x0.Was==x0.Was)&&qb)))
 letI qa:=qe&&(qi&&(qh&&((x0.Dead==0)&&(qk&&qb))))
 yAB (f1 x0.By) fun r1=>
 bif !r1 then
 some false
 else
 bif decide (x0.Serial<1) then
 some false
 else
 bif decide (2147483648<x0.Serial) then
 some false
 else
 bif decide (0<=x0.Span.Lo) then
 bif decide (x0.Span.Lo<=x0.Span.Hi) then
 bif x0.Kind==0 then
 some qa
 else
 bif x0.Kind==1 then
 some qa
 else
 bif x0.Kind==2 then
 bif qe&&qc then
 bif decide (x0.Span.Hi<64) then
 bif x0.Mode==1 then
 some true
 else
 some (x0.Mode==2)
 else
 some false
 else
 some false
 else
 bif x0.Kind==3 then
 bif qe&&qd then
 some (decide (x0.Span.Hi<64))
 else
 some false
 else
 bif x0.Kind==4 then
 bif qe&&qf then
 yAB qj fun r2=>
 bif r2 then
 bif x0.Was==0 then
 some true
 else
 yAB (f1 x0.Was) fun r3=>
 some r3
 else
 some false
 else
 some false
 else
 bif x0.Kind==5 then
 bif qe&&qg then
 yAB qj fun r4=>
 some r4
 else
 some false
 else
 some false
 else
 bif x0.Kind==0 then
 some qa
 else
 bif x0.Kind==1 then
 some qa
 else
 bif x0.Kind==2 then
 bif qe&&qc then
 some false
 else
 some false
 else
 bif x0.Kind==3 then
 bif qe&&qd then
 some false
 else
 some false
 else
 bif x0.Kind==4 then
 bif qe&&qf then
 yAB qj fun r5=>
 bif r5 then
 bif x0.Was==0 then
 some true
 else
 yAB (f1 x0.Was) fun r6=>
 some r6
 else
 some false
 else
 some false
 else
 bif x0.Kind==5 then
 bif qe&&qg then
 yAB qj fun r7=>
 some r7
 else
 some false
 else
 some false
 else
 bif x0.Kind==0 then
 some qa
 else
 bif x0.Kind==1 then
 some qa
 else
 bif x0.Kind==2 then
 bif qe&&qc then
 some false
 else
 some false
 else
 bif x0.Kind==3 then
 bif qe&&qd then
 some false
 else
 some false
 else
 bif x0.Kind==4 then
 bif qe&&qf then
 yAB qj fun r8=>
 bif r8 then
 bif x0.Was==0 then
 some true
 else
 yAB (f1 x0.Was) fun r9=>
 some r9
 else
 some false
 else
 some false
 else
 bif x0.Kind==5 then
 bif qe&&qg then
 yAB qj fun r10=>
 some r10
 else
 some false
 else
 some false
theorem xCz(f1):yKT.Eq [yKS.s f1] .no (yR4 f1):=fun _=>by kernel_rfl
def yQU(L:Nat):yKT.T:=yR4 (yQT L)
theorem xCy(L:Nat):yKT.C (yQU L):=yKT.c (xCz (yQT L)) (tC (xCw L).ent tN) Tryz.func100 (by kernel_rfl) (lN _)
abbrev yDA:=fw1 21 (caC yNr caN) (cdT (caC cdS (caC cI caN)))
abbrev yMC(f1:yKT.T)(f2:yDL.T)(x0:yAG):Option (ByteArray×Int×Unit):=
 letI qg:= [V.int .u8 (IntKind.u8.wrap x0.Span.Hi)]
 yAB (f1 x0) fun r1=>
 bif !r1 then
 some (noS,2,())
 else
 yAB (f2 ([[V.int .u8 (IntKind.u8.wrap x0.Kind)]]) 6 ([[V.int .i64 x0.By]])) fun r2=>
 gF r2.1 (0+r2.1.length)<|
 yAB (f2 (r2.1.take r2.1.length) 4 ([[V.int .i64 x0.Serial]])) fun r3=>
 letI qf:=r3.1.length+2
 letI qe:=r3.1.length+3
 letI qd:=0+r3.1.length
 letI qc:=r3.1.take r3.1.length
 letI qb:=r3.1++([[V.int .u8 (IntKind.u8.wrap x0.Span.Lo)],qg])
 letI qa:=r3.1++([[V.int .u8 (IntKind.u8.wrap x0.Span.Lo)],qg,[V.int .u8 (IntKind.u8.wrap x0.Mode)]])
 bif x0.Kind==2 then
 gd (Nat.beq qd r3.1.length)<|
 gM qe 1<|
 gd (Nat.ble (0+qe) (qa.length))<|
 gd ((bytesOf (qa.take qe)).isSome)<|
 some (yI2 (qa.take qe),0,())
 else
 bif x0.Kind==3 then
 gd (Nat.beq qd r3.1.length)<|
 gM qf 1<|
 gd (Nat.ble (0+qf) (qb.length))<|
 gd ((bytesOf (qb.take qf)).isSome)<|
 some (yI2 (qb.take qf),0,())
 else
 bif x0.Kind==4 then
 gF r3.1 qd<|
 yAB (f2 qc 6 ([[V.int .i64 x0.Dead],[V.int .i64 x0.Was]])) fun r4=>
 gd (Nat.ble (0+r4.1.length) r4.1.length)<|
 gd ((bytesOf (r4.1.take r4.1.length)).isSome)<|
 some (yI2 (r4.1.take r4.1.length),0,())
 else
 bif x0.Kind==5 then
 gF r3.1 qd<|
 yAB (f2 qc 6 ([[V.int .i64 x0.Dead]])) fun r5=>
 gd (Nat.ble (0+r5.1.length) r5.1.length)<|
 gd ((bytesOf (r5.1.take r5.1.length)).isSome)<|
 some (yI2 (r5.1.take r5.1.length),0,())
 else
 gd (Nat.ble qd r3.1.length)<|
 gd ((bytesOf qc).isSome)<|
 some (yI2 qc,0,())
theorem yZQ(f1 f2):yDA.Eq [yKT.s f1,yDL.s f2] .no (yMC f1 f2):=fun _=>by kernel_rfl
def yCW(L:Nat):yDA.T:=yMC (yQU L) (yCa L)
theorem yPM(L:Nat):yDA.C (yCW L):=yDA.c (yZQ (yQU L) (yCa L)) (tC (xCy L).ent (tC (yOo L).ent tN)) Tryz.func21 (by kernel_rfl) (lN _)
set_option maxRecDepth 100000
set_option maxHeartbeats 16000000
abbrev yG7:=fw3 48 (caC yCY (caC cI (caC cI caN))) cdS
abbrev ySe(f1:yDA.T)(x0:yAA)(x1:Int)(x2:Int):Option ByteArray:=
 gI x0.Keys kI x1<|
 yAB (f1 (⟨0,aI x0.Keys x1.toNat 0,x2,0,0,yAN.z,0⟩:yAG)) fun r1=>
 some r1.1
theorem yYr(f1):yG7.Eq [yDA.s f1] .no (ySe f1):=fun _=>by kernel_rfl
def yRo(L:Nat):yG7.T:=ySe (yCW L)
theorem yYq(L:Nat):yG7.C (yRo L):=yG7.c (yYr (yCW L)) (tC (yPM L).ent tN) Tryz.func48 (by kernel_rfl) (lN _)
abbrev yG8:=fw0 37 caN cdB
abbrev ySf(f1:yFR.T)(f2:yG7.T)(f3:yEI.T)(f4:yGt.T)(f5:yGm.T):Option Bool:=
 letI qa:=(⟨1,1,1,1,3,8,1,2⟩:yAQ)
 yAB (f1 qa) fun r1=>
 bif !r1.2.1 then
 some false
 else
 yAB (f2 r1.1 0 1) fun r2=>
 yAB (f3 qa 0 r2) fun r3=>
 yAB (f4 qa) fun r4=>
 yAB (f5 qa r1.1 r3.1 r4 0 99) fun r5=>
 bif r3.2.1==0 then
 bif r5.2.2.1==0 then
 bif r5.2.1.Over then
 bif r5.2.1.Acts==5 then
 bif r5.2.1.Done==1 then
 bif(r5.2.1.T.Slots.length:Int)==1 then
 gd (decide (0<(r5.2.1.T.Slots.length:Int)))<|
 gd (rowIs yAN.ks r5.2.1.T.Slots 0)<|
 gd (decide (0<(r1.1.Keys.length:Int)))<|
 gd (rowIs kI r1.1.Keys 0)<|
 bif(aI r5.2.1.T.Slots 0 0)==(aI r1.1.Keys 0 0) then
 bif(r5.1.S.length:Int)==(r1.1.S.length:Int) then
 some true
 else
 some false
 else
 some false
 else
 some false
 else
 some false
 else
 some false
 else
 some false
 else
 some false
 else
 some false
theorem yYt(f1 f2 f3 f4 f5):yG8.Eq [yFR.s f1,yG7.s f2,yEI.s f3,yGt.s f4,yGm.s f5] .no (ySf f1 f2 f3 f4 f5):=fun _=>by kernel_rfl
def yEd(L:Nat):yG8.T:=ySf (yJ5 L) (yRo L) (yIG L) (yHo L) (yLM L)
theorem yYs(L:Nat):yG8.C (yEd L):=yG8.c (yYt (yJ5 L) (yRo L) (yIG L) (yHo L) (yLM L)) (tC (yT5 L).ent (tC (yYq L).ent (tC (ySk L).ent (tC (yWR L).ent (tC (yV2 L).ent tN))))) Tryz.func37 (by kernel_rfl) (lN _)
abbrev yJZ:=Int×yAM×Int×Unit
abbrev yMq:=Unit
abbrev yMr:=Int×Bool×Unit
abbrev yMD{α:Type}(s:yJZ)(kn:yJZ->Option α)(k0:yMq->Option α)(k1:yMr->Option α):Option α:=
 bif decide (s.2.2.1<(s.2.1.Slots.length:Int)) then
 bif decide (1<=s.1) then
 gI s.2.1.Slots yAN.ks s.2.2.1<|
 bif(aI s.2.1.Slots s.2.2.1.toNat 0)==s.1 then
 k1 (s.2.2.1,true,())
 else
 kn (s.1,s.2.1,w64 (s.2.2.1+1),())
 else
 kn (s.1,s.2.1,w64 (s.2.2.1+1),())
 else
 k0 (())
abbrev yJa:LW2 yJZ yMq yMr:=⟨(lvC 1 (mP cI) (lvC 2 yYw (lvC 6 (mP cI) lvN))),(.exit 0),lvN,.ret,(lvC 4 (mP cI) (lvC 5 (mP cdB) lvN))⟩
theorem yWS{α:Type}:yJa.Eq (α:=α) [] Tryz.f31 [1,0,1,0] .no (yMD):=fun _ _ _=>by kernel_rfl
abbrev yIt:=fw2 31 (caC yKl (caC cI caN)) (cdT (caC cI (caC cdB caN)))
abbrev yQW(F0:LF2 yJZ yMq yMr (Int×Bool×Unit))(x0:yAM)(x1:Int):Option (Int×Bool×Unit):=
 F0 (x1,x0,0,()) (fun q1=>
 some (0,false,())) (fun q2=>
 some (q2.1,q2.2.1,()))
theorem xBO(F0):yIt.Eq [] (.two .no (.two (.two .no (.one (.lp (yJa.s F0)))) .no)) (yQW F0):=fun _=>by kernel_rfl
def yOG(L:Nat):yIt.T:=yQW (yAe (yMD) L)
theorem yUo{α:Type}(L:Nat):LO Tryz.f31 [1,0,1,0] (yJa.s (α:=α) (yAe (yMD) L)):=yJa.k (yWS) tN (lN _) (by kernel_rfl) L
theorem xBN(L:Nat):yIt.C (yOG L):=yIt.c (xBO (yAe (yMD) L)) tN Tryz.func31 (by kernel_rfl) (lS (lN _) (lS (lS (lN _) (lB (lL (yUo L)))) (lN _)))
abbrev yEy:=fw4 110 (caC yDX (caC yJq (caC cI (caC cI caN)))) cdS
abbrev yMY(f1:yIt.T)(f2:yDA.T)(x0:yAQ)(x1:yAD)(x2:Int)(x3:Int):Option ByteArray:=
 letI qd:=IntKind.i64.wrap ((BitVec.ofInt IntKind.i64.bits (x3.fdiv (2^(min (2:Int).toNat IntKind.i64.bits))) &&& BitVec.ofInt IntKind.i64.bits 7).toNat:Int)
 letI qc:=f2 (⟨0,x2,x1.serial_,0,0,yAN.z,0⟩:yAG)
 letI qb:=IntKind.i64.wrap ((BitVec.ofInt IntKind.i64.bits x3 &&& BitVec.ofInt IntKind.i64.bits 3).toNat:Int)
 letI qa:=f2 (⟨2,x2,x1.serial_,0,0,(⟨qd.tmod x0.Blocks,qd.tmod x0.Blocks⟩:yAN),IntKind.i8.wrap qb⟩:yAG)
 yAB (f1 x1.t_ x2) fun r1=>
 bif qb==0 then
 bif r1.2.1 then
 yAB (f2 (⟨1,x2,x1.serial_,0,0,yAN.z,0⟩:yAG)) fun r2=>
 some r2.1
 else
 yAB qc fun r3=>
 some r3.1
 else
 bif qb==1 then
 bif r1.2.1 then
 gd (!(decide (x0.Blocks=0)))<|
 yAB qa fun r4=>
 some r4.1
 else
 yAB qc fun r5=>
 some r5.1
 else
 bif qb==2 then
 bif r1.2.1 then
 gd (!(decide (x0.Blocks=0)))<|
 yAB qa fun r6=>
 some r6.1
 else
 yAB qc fun r7=>
 some r7.1
 else
 yAB qc fun r8=>
 some r8.1
theorem yVr(f1 f2):yEy.Eq [yIt.s f1,yDA.s f2] .no (yMY f1 f2):=fun _=>by kernel_rfl
def yJB(L:Nat):yEy.T:=yMY (yOG L) (yCW L)
theorem yVq(L:Nat):yEy.C (yJB L):=yEy.c (yVr (yOG L) (yCW L)) (tC (xBN L).ent (tC (yPM L).ent tN)) Tryz.func110 (by kernel_rfl) (lN _)
abbrev yDp:=(List (List V))×(List (List V))×Int×Unit
abbrev yGG:=Unit
abbrev yGH:=Bool×Unit
abbrev yDN{α:Type}(s:yDp)(kn:yDp->Option α)(k0:yGG->Option α)(k1:yGH->Option α):Option α:=
 bif decide (s.2.2.1<(s.1.length:Int)) then
 gI s.1 kS s.2.2.1<|
 gI s.2.1 kS s.2.2.1<|
 bif !((aS s.1 s.2.2.1.toNat 0).toList==(aS s.2.1 s.2.2.1.toNat 0).toList) then
 k1 (false,())
 else
 kn (s.1,s.2.1,w64 (s.2.2.1+1),())
 else
 k0 (())
abbrev yDq:LW2 yDp yGG yGH:=⟨(lvC 0 (mP cdR) (lvC 1 (mP cdR) (lvC 5 (mP cI) lvN))),(.exit 0),lvN,.ret,(lvC 4 (mP cdB) lvN)⟩
theorem yPf{α:Type}:yDq.Eq (α:=α) [] Tryz.f164 [1,1,0,1,0] .no (yDN):=fun _ _ _=>by kernel_rfl
abbrev yC3:=fw2 164 (caC cdR (caC cdR caN)) cdB
abbrev yIN(F0:LF2 yDp yGG yGH (Bool))(x0:List (List V))(x1:List (List V)):Option Bool:=
 bif(x0.length:Int) !=(x1.length:Int) then
 some false
 else
 F0 (x0,x1,0,()) (fun q1=>
 some true) (fun q2=>
 some q2.1)
theorem yR1(F0):yC3.Eq [] (.two .no (.two .no (.two (.two .no (.one (.lp (yDq.s F0)))) .no))) (yIN F0):=fun _=>by kernel_rfl
def yE6(L:Nat):yC3.T:=yIN (yAe (yDN) L)
theorem yPI{α:Type}(L:Nat):LO Tryz.f164 [1,1,0,1,0] (yDq.s (α:=α) (yAe (yDN) L)):=yDq.k (yPf) tN (lN _) (by kernel_rfl) L
theorem yR0(L:Nat):yC3.C (yE6 L):=yC3.c (yR1 (yAe (yDN) L)) tN Tryz.func164 (by kernel_rfl) (lS (lN _) (lS (lN _) (lS (lS (lN _) (lB (lL (yPI L)))) (lN _))))
abbrev yJI:=(List (List V))×(List (List V))×Int×Unit
abbrev yMf:=Unit
abbrev yMg:=Bool×Unit
abbrev yJH{α:Type}(s:yJI)(kn:yJI->Option α)(k0:yMf->Option α)(k1:yMg->Option α):Option α:=
 bif decide (s.2.2.1<(s.1.length:Int)) then
 gI s.1 kI s.2.2.1<|
 gI s.2.1 kI s.2.2.1<|
 bif(aI s.1 s.2.2.1.toNat 0) !=(aI s.2.1 s.2.2.1.toNat 0) then
 k1 (false,())
 else
 kn (s.1,s.2.1,w64 (s.2.2.1+1),())
 else
 k0 (())
abbrev yJJ:LW2 yJI yMf yMg:=⟨(lvC 0 (mP cdR) (lvC 1 (mP cdR) (lvC 5 (mP cI) lvN))),(.exit 0),lvN,.ret,(lvC 4 (mP cdB) lvN)⟩
theorem yWB{α:Type}:yJJ.Eq (α:=α) [] Tryz.f165 [1,1,0,1,0] .no (yJH):=fun _ _ _=>by kernel_rfl
abbrev yIi:=fw2 165 (caC cdR (caC cdR caN)) cdB
abbrev yQF(F0:LF2 yJI yMf yMg (Bool))(x0:List (List V))(x1:List (List V)):Option Bool:=
 bif(x0.length:Int) !=(x1.length:Int) then
 some false
 else
 F0 (x0,x1,0,()) (fun q1=>
 some true) (fun q2=>
 some q2.1)
theorem xA2(F0):yIi.Eq [] (.two .no (.two .no (.two (.two .no (.one (.lp (yJJ.s F0)))) .no))) (yQF F0):=fun _=>by kernel_rfl
def yMI(L:Nat):yIi.T:=yQF (yAe (yJH) L)
theorem yUc{α:Type}(L:Nat):LO Tryz.f165 [1,1,0,1,0] (yJJ.s (α:=α) (yAe (yJH) L)):=yJJ.k (yWB) tN (lN _) (by kernel_rfl) L
theorem xA1(L:Nat):yIi.C (yMI L):=yIi.c (xA2 (yAe (yJH) L)) tN Tryz.func165 (by kernel_rfl) (lS (lN _) (lS (lN _) (lS (lS (lN _) (lB (lL (yUc L)))) (lN _))))
set_option maxRecDepth 100000
set_option maxHeartbeats 16000000
abbrev yJW:=yAA×yAA×Int×Int×Unit
abbrev yMo:=yAA×yAA×Int×Unit
abbrev yMp:=Bool×Unit
abbrev yFl{α:Type}(s:yJW)(kn:yJW->Option α)(k0:yMo->Option α)(k1:yMp->Option α):Option α:=
 letI qd:=s.2.2.1
 letI qc:=s.2.2.2.1
 letI qb:=aR s.2.1.Cache qd.toNat 0
 letI qa:=aR s.1.Cache qd.toNat 0
 gI s.1.Cache kL qd<|
 bif decide (qc<(qa.length:Int)) then
 gI s.1.Cache kL qd<|
 gI qa yEs.ks qc<|
 gI s.2.1.Cache kL qd<|
 gI qb yEs.ks qc<|
 bif !(((aI qa qc.toNat 0)==(aI qb qc.toNat 0))&&(((aS qa qc.toNat 1).toList==(aS qb qc.toNat 1).toList)&&true)) then
 k1 (false,())
 else
 kn (s.1,s.2.1,qd,w64 (qc+1),())
 else
 k0 (s.1,s.2.1,qd,())
abbrev yJX:LW2 yJW yMo yMp:=⟨(lvC 2 yAI (lvC 3 yAI (lvC 5 (mP cI) (lvC 6 (mP cI) lvN)))),(.exit 2),(lvC 2 yAI (lvC 3 yAI (lvC 5 (mP cI) lvN))),.ret,(lvC 4 (mP cdB) lvN)⟩
theorem yWN{α:Type}:yJX.Eq (α:=α) [] Tryz.f112 [1,1,0,1,0,0,1,0,0,1,1,0] .no (yFl):=fun _ _ _=>by kernel_rfl
abbrev yJU:=yAA×yAA×Int×Unit
abbrev yMm:=Unit
abbrev yMn:=Bool×Unit
abbrev yJT{α:Type}(F1:LF2 yJW yMo yMp α)(s:yJU)(kn:yJU->Option α)(k0:yMm->Option α)(k1:yMn->Option α):Option α:=
 bif decide (s.2.2.1<(s.1.Cache.length:Int)) then
 gI s.1.Cache kL s.2.2.1<|
 gI s.2.1.Cache kL s.2.2.1<|
 bif((aR s.1.Cache s.2.2.1.toNat 0).length:Int) !=((aR s.2.1.Cache s.2.2.1.toNat 0).length:Int) then
 k1 (false,())
 else
 F1 (s.1,s.2.1,s.2.2.1,0,()) (fun q1=>
 kn (q1.1,q1.2.1,w64 (q1.2.2.1+1),())) (fun q2=>
 k1 (q2.1,()))
 else
 k0 (())
abbrev yJV:LW2 yJU yMm yMn:=⟨(lvC 2 yAI (lvC 3 yAI (lvC 5 (mP cI) lvN))),(.exit 0),lvN,.ret,(lvC 4 (mP cdB) lvN)⟩
theorem yWM{α:Type}(F1):yJV.Eq (α:=α) [] Tryz.f112 [1,1,0,1,0] (.two .no (.two (.one (.two .no (.two .no (.one (.lp (yJX.s F1)))))) .no)) (yJT F1):=fun _ _ _=>by kernel_rfl
abbrev yIr:=fw2 112 (caC yCY (caC yCY caN)) cdB
abbrev yQR(f1:yC3.T)(f2:yIi.T)(F0:LF2 yJU yMm yMn (Bool))(x0:yAA)(x1:yAA):Option Bool:=
 yAB (f1 x0.S x1.S) fun r1=>
 bif !r1 then
 some false
 else
 bif(x0.Cache.length:Int) !=(x1.Cache.length:Int) then
 some false
 else
 yAB (f2 x0.Keys x1.Keys) fun r2=>
 bif !r2 then
 some false
 else
 bif x0.Next !=x1.Next then
 some false
 else
 yAB (f2 x0.Fenced x1.Fenced) fun r3=>
 bif !r3 then
 some false
 else
 F0 (x0,x1,0,()) (fun q4=>
 some true) (fun q5=>
 some q5.1)
theorem xBJ(f1 f2 F0):yIr.Eq [yC3.s f1,yIi.s f2] (.two .no (.two .no (.two (.two .no (.one (.lp (yJV.s F0)))) .no))) (yQR f1 f2 F0):=fun _=>by kernel_rfl
def yOF(L:Nat):yIr.T:=yQR (yE6 L) (yMI L) (yAe (yJT (yAe (yFl) L)) L)
theorem yUl{α:Type}(L:Nat):LO Tryz.f112 [1,1,0,1,0,0,1,0,0,1,1,0] (yJX.s (α:=α) (yAe (yFl) L)):=yJX.k (yWN) tN (lN _) (by kernel_rfl) L
theorem yUk{α:Type}(L:Nat):LO Tryz.f112 [1,1,0,1,0] (yJV.s (α:=α) (yAe (yJT (yAe (yFl) L)) L)):=yJV.k (yWM (yAe (yFl) L)) tN (lS (lN _) (lS (lB (lS (lN _) (lS (lN _) (lB (lL (yUl L)))))) (lN _))) (by kernel_rfl) L
theorem xBI(L:Nat):yIr.C (yOF L):=yIr.c (xBJ (yE6 L) (yMI L) (yAe (yJT (yAe (yFl) L)) L)) (tC (yR0 L).ent (tC (xA1 L).ent tN)) Tryz.func112 (by kernel_rfl) (lS (lN _) (lS (lN _) (lS (lS (lN _) (lB (lL (yUk L)))) (lN _))))
abbrev yGl:=fw5 40 (caC yDX (caC yCY (caC yJq (caC cI (caC cI caN))))) (cdT (caC yCY (caC yJq (caC cdB caN))))
abbrev yID(f1:yEy.T)(f2:yEI.T)(f3:yFW.T)(f4:yIq.T)(f5:yFU.T)(f6:yIr.T)(x0:yAQ)(x1:yAA)(x2:yAD)(x3:Int)(x4:Int):Option (yAA×yAD×Bool×Unit):=
 bif !x2.on_ then
 gI x1.Keys kI x3<|
 yAB (f1 x0 ({x2 with serial_:=w64 (x2.serial_+1)}) (aI x1.Keys x3.toNat 0) x4) fun r1=>
 yAB (f2 x0 x3 r1) fun r2=>
 some (x1,(⟨x2.t_,x2.done_,w64 (x2.serial_+1),true,r2.1⟩:yAD),r2.2.1==0,())
 else
 yAB (f3 x0 x2.p_ x2.done_) fun r3=>
 bif r3.2.1 !=0 then
 some (x1,{x2 with on_:=false },r3.2.1==150,())
 else
 yAB (f4 x1 x3 r3.1) fun r4=>
 bif r4.2.2.1 !=0 then
 some (x1,x2,false,())
 else
 yAB (f5 x0 x2.p_ x2.t_ x2.done_ r4.2.1) fun r5=>
 letI qa:=(⟨r5.2.1,r5.2.2.1,x2.serial_,!r5.2.2.2.1,r5.1⟩:yAD)
 bif r5.2.2.2.2.1 !=0 then
 bif r5.2.2.2.2.1==150 then
 yAB (f6 r4.1 x1) fun r6=>
 some (r4.1,{x2 with on_:=false },r6,())
 else
 some (r4.1,{x2 with on_:=false },false,())
 else
 bif !r5.2.2.2.1 then
 some (r4.1,qa,true,())
 else
 some (r4.1,qa,r5.1.At==0,())
theorem xCR(f1 f2 f3 f4 f5 f6):yGl.Eq [yEy.s f1,yEI.s f2,yFW.s f3,yIq.s f4,yFU.s f5,yIr.s f6] .no (yID f1 f2 f3 f4 f5 f6):=fun _=>by kernel_rfl
def yBy(L:Nat):yGl.T:=yID (yJB L) (yIG L) (yBU L) (yEM L) (yBh L) (yOF L)
theorem yVp(L:Nat):yGl.C (yBy L):=yGl.c (xCR (yJB L) (yIG L) (yBU L) (yEM L) (yBh L) (yOF L)) (tC (yVq L).ent (tC (ySk L).ent (tC (yUC L).ent (tC (yYA L).ent (tC (yUB L).ent (tC (xBI L).ent tN)))))) Tryz.func40 (by kernel_rfl) (lN _)
abbrev yKD:=fw2 23 (caC yDX (caC cI caN)) cI
abbrev yRx(f1:yB4.T)(f2:yD3.T)(x0:yAQ)(x1:Int):Option Int:=
 yAB (f1 x0) fun r1=>
 bif !r1 then
 some (-1)
 else
 yAB (f2 x1 0 (w64 (x0.Log-1))) fun r2=>
 bif !r2 then
 some (-1)
 else
 some (w64 ((w64 (1+(w64 (2*x0.Nodes))))+x1))
theorem xCs(f1 f2):yKD.Eq [yB4.s f1,yD3.s f2] .no (yRx f1 f2):=fun _=>by kernel_rfl
def yOC(L:Nat):yKD.T:=yRx (yCk L) (yJS L)
theorem xCr(L:Nat):yKD.C (yOC L):=yKD.c (xCs (yCk L) (yJS L)) (tC (yIH L).ent (tC (yQx L).ent tN)) Tryz.func23 (by kernel_rfl) (lN _)
set_option maxRecDepth 100000
set_option maxHeartbeats 16000000
abbrev yKy:=ByteArray×Int×Int×Int×Unit
abbrev yNT:=Int×Unit
abbrev yGn{α:Type}(s:yKy)(kn:yKy->Option α)(k0:yNT->Option α):Option α:=
 bif decide (0<=s.2.2.2.1) then
 gB (w64 (s.2.1+s.2.2.2.1)) s.1.size<|
 kn (s.1,s.2.1,w64 ((w64 (s.2.2.1*256))+(w64 (((s.1[(w64 (s.2.1+s.2.2.2.1)).toNat]?).getD 0).toNat:Int))),w64 (s.2.2.2.1-1),())
 else
 k0 (s.2.2.1,())
abbrev yKz:LW1 yKy yNT:=⟨(lvC 0 (mP cdS) (lvC 1 (mP cI) (lvC 8 (mP cI) (lvC 9 (mP cI) lvN)))),(.exit 0),(lvC 8 (mP cI) lvN)⟩
theorem yXH{α:Type}:yKz.Eq (α:=α) [] Tryz.f117 [1,1,1,1,0,1,0] .no (yGn):=fun _ _ _=>by kernel_rfl
abbrev yGo:=fw3 117 (caC cdS (caC cI (caC cI caN))) (cdT (caC cI (caC cI caN)))
abbrev yRt(f1:yCw.T)(F0:LF1 yKy yNT (Int×Int×Unit))(x0:ByteArray)(x1:Int)(x2:Int):Option (Int×Int×Unit):=
 yAB (f1 x2) fun r1=>
 bif decide (r1<0) then
 some (0,2,())
 else
 bif decide (x1<0) then
 some (0,10,())
 else
 bif decide ((x0.size:Int)<x1) then
 some (0,10,())
 else
 bif decide (w64 ((x0.size:Int)-x1)<x2) then
 some (0,10,())
 else
 F0 (x0,x1,0,w64 (x2-1),()) (fun q2=>
 bif decide (1099511627776<q2.1) then
 some (0,10,())
 else
 some (q2.1,0,()))
theorem xCj(f1 F0):yGo.Eq [yCw.s f1] (.two .no (.two .no (.two .no (.two .no (.two (.two .no (.one (.lp (yKz.s F0)))) .no))))) (yRt f1 F0):=fun _=>by kernel_rfl
def yEK(L:Nat):yGo.T:=yRt (yE4 L) (yBL (yGn) L)
theorem yV9{α:Type}(L:Nat):LO Tryz.f117 [1,1,1,1,0,1,0] (yKz.s (α:=α) (yBL (yGn) L)):=yKz.k (yXH) tN (lN _) (by kernel_rfl) L
theorem yWA(L:Nat):yGo.C (yEK L):=yGo.c (xCj (yE4 L) (yBL (yGn) L)) (tC (yM9 L).ent tN) Tryz.func117 (by kernel_rfl) (lS (lN _) (lS (lN _) (lS (lN _) (lS (lN _) (lS (lS (lN _) (lB (lL (yV9 L)))) (lN _))))))
abbrev yK5:=ByteArray×Int×(List (List V))×Int×Unit
abbrev yNW:=(List (List V))×Unit
abbrev yNX:=(List (List V))×Int×Unit
abbrev yM8{α:Type}(f1:yGo.T)(s:yK5)(kn:yK5->Option α)(k0:yNW->Option α)(k1:yNX->Option α):Option α:=
 letI qa:=s.2.2.1
 bif decide (s.2.2.2.1<(s.1.size:Int)) then
 yAB (f1 s.1 s.2.2.2.1 s.2.1) fun r1=>
 bif r1.2.1 !=0 then
 k1 ([],r1.2.1,())
 else
 gd (Nat.beq (0+qa.length) qa.length)<|
 gM (qa.length+1) 8<|
 gA (qa++([[V.int .i64 r1.1]])) (qa.length+1)<|
 kn (s.1,s.2.1,qa++([[V.int .i64 r1.1]]),w64 (s.2.2.2.1+s.2.1),())
 else
 gA qa qa.length<|
 k0 (qa,())
abbrev yK6:LW2 yK5 yNW yNX:=⟨(lvC 0 (mP cdS) (lvC 1 (mP cI) (lvC 6 (mA 1) (lvC 7 (mP cI) lvN)))),(.exit 0),(lvC 6 (mA 1) lvN),.ret,(lvC 4 (mP cdR) (lvC 5 (mP cI) lvN))⟩
theorem yXK{α:Type}(f1):yK6.Eq (α:=α) [yGo.s f1] Tryz.f93 [1,1,1,0,1,0] .no (yM8 f1):=fun _ _ _=>by kernel_rfl
abbrev yJ8:=fw2 93 (caC cdS (caC cI caN)) (cdT (caC cdR (caC cI caN)))
abbrev yWG(f1:yCw.T)(F0:LF2 yK5 yNW yNX ((List (List V))×Int×Unit))(x0:ByteArray)(x1:Int):Option ((List (List V))×Int×Unit):=
 yAB (f1 x1) fun r1=>
 bif decide (r1<0) then
 some ([],2,())
 else
 F0 (x0,x1,[],0,()) (fun q2=>
 gF q2.1 (0+q2.1.length)<|
 some (q2.1.take q2.1.length,0,())) (fun q3=>
 some (q3.1,q3.2.1,()))
theorem xCm(f1 F0):yJ8.Eq [yCw.s f1] (.two .no (.two .no (.two .no (.two (.two .no (.one (.lp (yK6.s F0)))) .no)))) (yWG f1 F0):=fun _=>by kernel_rfl
def yWE(L:Nat):yJ8.T:=yWG (yE4 L) (yAe (yM8 (yEK L)) L)
theorem yWF{α:Type}(L:Nat):LO Tryz.f93 [1,1,1,0,1,0] (yK6.s (α:=α) (yAe (yM8 (yEK L)) L)):=yK6.k (yXK (yEK L)) (tC (yWA L).ent tN) (lN _) (by kernel_rfl) L
theorem xCl(L:Nat):yJ8.C (yWE L):=yJ8.c (xCm (yE4 L) (yAe (yM8 (yEK L)) L)) (tC (yM9 L).ent tN) Tryz.func93 (by kernel_rfl) (lS (lN _) (lS (lN _) (lS (lN _) (lS (lS (lN _) (lB (lL (yWF L)))) (lN _)))))
end Go.Proofs.YtakljpcmbpaeaaaGreat
