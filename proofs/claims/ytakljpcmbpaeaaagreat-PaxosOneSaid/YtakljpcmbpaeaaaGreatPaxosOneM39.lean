/- Typed functions. (printed by wip/sx) -/
import Derived.Test.YtakljpcmbpaeaaaGreatPaxosOneM36
import Derived.Test.YtakljpcmbpaeaaaGreatPaxosOneM37
import Derived.Test.YtakljpcmbpaeaaaGreatPaxosOneM38
set_option linter.unusedSimpArgs false
set_option linter.unusedVariables false
namespace Go.Proofs.YtakljpcmbpaeaaaGreat
open Go.RowKit
set_option maxRecDepth 100000
set_option maxHeartbeats 16000000
abbrev yF0:=Int×yAN×Int×Unit
abbrev yIi:=yAN×Unit
abbrev yIj:=Int×Unit
abbrev yDX{α:Type}(s:yF0)(kn:yF0→Option α)(k0:yIi→Option α)(k1:yIj→Option α):Option α:=
 bif decide (s.2.2.1<s.2.1.Nodes) then
 bif s.2.2.1 !=s.1 then
 k1 (s.2.2.1,())
 else
 kn (s.1,s.2.1,w64 (s.2.2.1+1),())
 else
 k0 (s.2.1,())
abbrev yF1:LW2 yF0 yIi yIj:=⟨(lvC 1 (mP cI) (lvC 3 yLm (lvC 7 (mP cI) lvN))),(.exit 0),(lvC 3 yLm lvN),.ret,(lvC 6 (mP cI) lvN)⟩
theorem yQ3{α:Type}:yF1.Eq (α:=α) [] Tryz.f333 [1,0,1,0] .no (yDX):=fun _ _ _=>by kernel_rfl
abbrev yET:=fw3 333 (caC yCS (caC cI (caC cI caN))) cI
abbrev yMD(F0:LF2 yF0 yIi yIj (Int))(x0:yAN)(x1:Int)(x2:Int):Option Int:=
 F0 (x1,x0,minI true x2 0,()) (fun q1=>
 some q1.1.Nodes) (fun q2=>
 some q2.1)
theorem yS8(F0):yET.Eq [] (.two .no (.two (.two .no (.one (.lp (yF1.s F0)))) .no)) (yMD F0):=fun _=>by kernel_rfl
def yGX(L:Nat):yET.T:=yMD (loop2 (yDX) L)
theorem yQQ{α:Type}(L:Nat):LO Tryz.f333 [1,0,1,0] (yF1.s (α:=α) (loop2 (yDX) L)):=yF1.k (yQ3) tN (lN _) (by kernel_rfl) L
theorem yS7(L:Nat):yET.C (yGX L):=yET.c (yS8 (loop2 (yDX) L)) tN Tryz.func333 (by kernel_rfl) (lS (lN _) (lS (lS (lN _) (lB (lL (yQQ L)))) (lN _)))
abbrev yFb:=fw1 334 (caC yXT caN) cdB
abbrev yM8(x0:yAg):Option Bool:=
 bif x0.Ahead then
 some true
 else
 some x0.Lost
theorem yT7:yFb.Eq [] .no (yM8):=fun _=>by kernel_rfl
def yIA(L:Nat):yFb.T:=yM8
theorem yT6(L:Nat):yFb.C (yIA L):=yFb.c (yT7) tN Tryz.func334 (by kernel_rfl) (lN _)
abbrev yFc:=fw2 335 (caC yXT (caC cdS caN)) cdS
abbrev yM9(x0:yAg)(x1:ByteArray):Option ByteArray:=
 bif decide (0<x0.Best) then
 some x0.Val
 else
 some x1
theorem yT9:yFc.Eq [] .no (yM9):=fun _=>by kernel_rfl
def yIB(L:Nat):yFc.T:=yM9
theorem yT8(L:Nat):yFc.C (yIB L):=yFc.c (yT9) tN Tryz.func335 (by kernel_rfl) (lN _)
abbrev yDc:=fw1 249 (caC (cdP yGA) caN) yNZ
abbrev yLR(f1:yCs.T)(f2:yCd.T)(x0:yAK):Option yA5:=
 bindO (f1 x0.g_ x0.Prop_.I) fun r1=>
 bindO (f2 r1) fun r2=>
 some r2
theorem ySb(f1 f2):yDc.Eq [yCs.s f1,yCd.s f2] .no (yLR f1 f2):=fun _=>by kernel_rfl
def yKc(L:Nat):yDc.T:=yLR (yDq L) (yFJ L)
theorem ySa(L:Nat):yDc.C (yKc L):=yDc.c (ySb (yDq L) (yFJ L)) (tC (yNy L).ent (tC (yN6 L).ent tN)) Tryz.func249 (by kernel_rfl) (lN _)
abbrev yDd:=fw1 251 (caC (cdP yGA) caN) yNZ
abbrev yLS(f1:yCs.T)(f2:yCd.T)(x0:yAK):Option yA5:=
 bindO (f1 x0.g_ x0.Prop_.I) fun r1=>
 bindO (f2 r1) fun r2=>
 some r2
theorem ySd(f1 f2):yDd.Eq [yCs.s f1,yCd.s f2] .no (yLS f1 f2):=fun _=>by kernel_rfl
def yKd(L:Nat):yDd.T:=yLS (yDq L) (yFJ L)
theorem ySc(L:Nat):yDd.C (yKd L):=yDd.c (ySd (yDq L) (yFJ L)) (tC (yNy L).ent (tC (yN6 L).ent tN)) Tryz.func251 (by kernel_rfl) (lN _)
abbrev yKL:=fw2 337 (caC (cdI .i8) (caC cdS caN)) (cdT (caC cdS (caC cI caN)))
abbrev yQx(f1:yBk.T)(x0:Int)(x1:ByteArray):Option (ByteArray×Int×Unit):=
 bindO (f1 ([],0,x0,()) x1) fun r1=>
 some (r1.1.1,r1.1.2.1,())
theorem yXO(f1):yKL.Eq [yBk.s f1] .no (yQx f1):=fun _=>by kernel_rfl
def yNn(L:Nat):yKL.T:=yQx (yCH L)
theorem yXN(L:Nat):yKL.C (yNn L):=yKL.c (yXO (yCH L)) (tC (yLn L).ent tN) Tryz.func337 (by kernel_rfl) (lN _)
abbrev yEU:=fw1 297 (caC cdS caN) (cdT (caC cdS (caC cI caN)))
abbrev yMG(f1:yBY.T)(f2:yKL.T)(x0:ByteArray):Option (ByteArray×Int×Unit):=
 bindO (f1 x0) fun r1=>
 bif r1.2.1 !=0 then
 some (noS,2,())
 else
 bindO (f2 5 x0) fun r2=>
 some (r2.1,r2.2.1,())
theorem yTA(f1 f2):yEU.Eq [yBY.s f1,yKL.s f2] .no (yMG f1 f2):=fun _=>by kernel_rfl
def yIk(L:Nat):yEU.T:=yMG (yBB L) (yNn L)
theorem yS9(L:Nat):yEU.C (yIk L):=yEU.c (yTA (yBB L) (yNn L)) (tC (yHF L).ent (tC (yXN L).ent tN)) Tryz.func297 (by kernel_rfl) (lN _)
abbrev yCM:=fw1 252 (caC (cdP yGA) caN) yNZ
abbrev yG6(f1:yEU.T)(f2:yHG.T)(f3:yDB.T)(x0:yAK):Option yA5:=
 bindO (f1 x0.Prop_.Own.Val) fun r1=>
 bindO (f2 x0.g_ x0.done_) fun r2=>
 bindO (f3 r2 r1.1 r1.2.1) fun r3=>
 some r3
theorem yQA(f1 f2 f3):yCM.Eq [yEU.s f1,yHG.s f2,yDB.s f3] .no (yG6 f1 f2 f3):=fun _=>by kernel_rfl
def yF2(L:Nat):yCM.T:=yG6 (yIk L) (yLF L) (yDw L)
theorem yP9(L:Nat):yCM.C (yF2 L):=yCM.c (yQA (yIk L) (yLF L) (yDw L)) (tC (yS9 L).ent (tC (yTF L).ent (tC (yQL L).ent tN))) Tryz.func252 (by kernel_rfl) (lN _)
abbrev yE2:=fw3 81 (caC yCS (caC yS6 (caC cI caN))) (cdT (caC yNZ (caC cI caN)))
abbrev yE1(f1:yHG.T)(f2:yDa.T)(f3:yDb.T)(f4:yCq.T)(f5:yDc.T)(f6:yDd.T)(f7:yCM.T)(x0:yAN)(x1:yAR)(x2:Int):Option (yA5×Int×Unit):=
 letI qb:=f1 x0 x2
 letI qa:=(⟨x1,x0,yAC.z,x2,false⟩:yAK)
 bif decide (x1.At<0) then
 some (yA5.z,0,())
 else
 bif decide (7≤w64 x1.At) then
 some (yA5.z,0,())
 else
 bif decide (x1.At=0) then
 bif x1.At==0 then
 bindO qb fun r1=>
 bif decide (r1<0) then
 some (yA5.z,150,())
 else
 bindO (f2 qa) fun r2=>
 some (r2,0,())
 else
 bindO (f2 qa) fun r3=>
 some (r3,0,())
 else
 bif decide (x1.At=1) then
 bif x1.At==0 then
 bindO qb fun r4=>
 bif decide (r4<0) then
 some (yA5.z,150,())
 else
 bindO (f3 qa) fun r5=>
 some (r5,0,())
 else
 bindO (f3 qa) fun r6=>
 some (r6,0,())
 else
 bif decide (x1.At=2) then
 bif x1.At==0 then
 bindO qb fun r7=>
 bif decide (r7<0) then
 some (yA5.z,150,())
 else
 bindO (f4 qa) fun r8=>
 some (r8,0,())
 else
 bindO (f4 qa) fun r9=>
 some (r9,0,())
 else
 bif decide (x1.At=3) then
 bif x1.At==0 then
 bindO qb fun r10=>
 bif decide (r10<0) then
 some (yA5.z,150,())
 else
 bindO (f5 qa) fun r11=>
 some (r11,0,())
 else
 bindO (f5 qa) fun r12=>
 some (r12,0,())
 else
 bif decide (x1.At=4) then
 bif x1.At==0 then
 bindO qb fun r13=>
 bif decide (r13<0) then
 some (yA5.z,150,())
 else
 bindO (f4 qa) fun r14=>
 some (r14,0,())
 else
 bindO (f4 qa) fun r15=>
 some (r15,0,())
 else
 bif decide (x1.At=5) then
 bif x1.At==0 then
 bindO qb fun r16=>
 bif decide (r16<0) then
 some (yA5.z,150,())
 else
 bindO (f6 qa) fun r17=>
 some (r17,0,())
 else
 bindO (f6 qa) fun r18=>
 some (r18,0,())
 else
 gd (decide (x1.At=6))<|
 bif x1.At==0 then
 bindO qb fun r19=>
 bif decide (r19<0) then
 some (yA5.z,150,())
 else
 bindO (f7 qa) fun r20=>
 some (r20,0,())
 else
 bindO (f7 qa) fun r21=>
 some (r21,0,())
theorem yV1(f1 f2 f3 f4 f5 f6 f7):yE2.Eq [yHG.s f1,yDa.s f2,yDb.s f3,yCq.s f4,yDc.s f5,yDd.s f6,yCM.s f7] .no (yE1 f1 f2 f3 f4 f5 f6 f7):=fun _=>by kernel_rfl
def yBf(L:Nat):yE2.T:=yE1 (yLF L) (yKa L) (yKb L) (yHX L) (yKc L) (yKd L) (yF2 L)
theorem ySE(L:Nat):yE2.C (yBf L):=yE2.c (yV1 (yLF L) (yKa L) (yKb L) (yHX L) (yKc L) (yKd L) (yF2 L)) (tC (yTF L).ent (tC (ySW L).ent (tC (ySY L).ent (tC (yRF L).ent (tC (ySa L).ent (tC (ySc L).ent (tC (yP9 L).ent tN))))))) Tryz.func81 (by kernel_rfl) (lN _)
end Go.Proofs.YtakljpcmbpaeaaaGreat

namespace Go.Proofs.YtakljpcmbpaeaaaGreat
set_option maxHeartbeats 16000000
set_option maxRecDepth 100000
open Go.RowKit
abbrev yE0:=fw5 111 (caC yCS (caC yS6 (caC yCp (caC cI (caC cdS caN))))) (cdT (caC yS6 (caC yCp (caC cI (caC cdB (caC cI caN))))))
abbrev yEz(f1:yIG.T)(f2:yEZ.T)(f3:yFd.T)(f4:yL8.T)(f5:yGV.T)(f6:yJW.T)(f7:yGU.T)(f8:yCV.T)(f9:yET.T)(f10:yFb.T)(f11:yFc.T)(f12:yBY.T)(f13:yD9.T)(x0:yAN)(x1:yAR)(x2:yAC)(x3:Int)(x4:ByteArray):Option (yAR×yAC×Int×Bool×Int×Unit):=
 letI qw:=x1.At+1
 letI qj:=f2 (⟨x1,x0,x2,x3,false⟩:yAK)
 letI qg:=f8 (⟨(⟨x1.Own.Inst,x1.Own.Mbal,x1.Own.Bal,x1.Own.Val,x1.T.Seen,false,false⟩:yAg)⟩:yAO) ([[V.int .i64 x1.Own.Mbal]])
 letI qd:=(⟨x1.Node,x1.Cmd,0,0,yBG.z,(⟨0,0,0,noS,x1.T.Seen,false,false⟩:yAg)⟩:yAR)
 letI qc:=f9 x0 x1.Node (w64 (x1.I+1))
 bif decide (x1.At<0) then
 some (x1,x2,x3,false,0,())
 else
 bif decide (7≤w64 x1.At) then
 some (x1,x2,x3,false,0,())
 else
 bif decide (x1.At=0) then
 bindO (f1 x0 x2 x3 x4) fun r1=>
 bif r1.2.2.2.2.1 !=0 then
 bif r1.2.2.2.2.1 !=0 then
 some (x1,x2,x3,false,r1.2.2.2.2.1,())
 else
 some (x1,x2,x3,false,0,())
 else
 bif r1.2.2.2.1 then
 bindO qj fun r2=>
 bif r2.2.1 then
 bindO (f3 r1.2.2.1 r2.1.By r2.1.Serial) fun r3=>
 some (qd,r1.1,w64 (x3+1),r3,0,())
 else
 some (qd,r1.1,w64 (x3+1),false,0,())
 else
 bindO qj fun r4=>
 bif r4.2.1 then
 bif r4.1.Kind==0 then
 bindO (f4 x0) fun r5=>
 bif decide (w64 (x0.Log-r5)≤x3) then
 some (x1,x2,x3,false,150,())
 else
 some ({x1 with At:=1 },x2,x3,false,0,())
 else
 bif r4.1.Kind==2 then
 bindO (f4 x0) fun r6=>
 bif decide (w64 (x0.Log-r6)≤x3) then
 some (x1,x2,x3,false,150,())
 else
 some ({x1 with At:=1 },x2,x3,false,0,())
 else
 some ({x1 with At:=1 },x2,x3,false,0,())
 else
 some ({x1 with At:=1 },x2,x3,false,0,())
 else
 bif decide (x1.At=1) then
 bindO (f5 x4) fun r7=>
 bif r7.2.1 !=0 then
 bif r7.2.1 !=0 then
 some (x1,x2,x3,false,r7.2.1,())
 else
 some (x1,x2,x3,false,0,())
 else
 bindO (f6 r7.1 x3) fun r8=>
 bindO (f7 x1.Node ([[V.int .i64 r8.Mbal],[V.int .i64 x1.T.Seen]])) fun r9=>
 bif r9==0 then
 some (x1,x2,x3,false,150,())
 else
 some ({x1 with At:=2,Own:={r8 with Mbal:=r9 }},x2,x3,false,0,())
 else
 bif decide (x1.At=2) then
 bindO qg fun r10=>
 bindO (f9 x0 x1.Node 0) fun r11=>
 bif decide (r11<x0.Nodes) then
 some ({x1 with At:=IntKind.i8.wrap qw,I:=r11,T:=r10.2.Tally },x2,x3,false,0,())
 else
 bindO (f10 r10.2.Tally) fun r12=>
 bif r12 then
 some ((⟨x1.Node,x1.Cmd,0,0,yBG.z,(⟨0,0,0,noS,r10.2.Tally.Seen,false,false⟩:yAg)⟩:yAR),x2,x3,false,0,())
 else
 bif(IntKind.i8.wrap qw)==5 then
 some ({x1 with At:=6,I:=r11,T:=r10.2.Tally },x2,x3,false,0,())
 else
 bindO (f11 r10.2.Tally x1.Cmd) fun r13=>
 some ((⟨x1.Node,x1.Cmd,4,r11,{x1.Own with Bal:=x1.Own.Mbal,Val:=r13 },r10.2.Tally⟩:yAR),x2,x3,false,0,())
 else
 bif decide (x1.At=3) then
 bindO (f5 x4) fun r14=>
 letI qk:=r14.1
 bif r14.2.1 !=0 then
 bif r14.2.1 !=0 then
 some (x1,x2,x3,false,r14.2.1,())
 else
 some (x1,x2,x3,false,0,())
 else
 bindO (f8 (⟨x1.T⟩:yAO) ([[V.int .i64 qk.Mbal]])) fun r15=>
 letI qh:=r15.2
 letI qu:={qh.Tally with Lost:=true }
 letI qs:={qh.Tally with Ahead:=true }
 letI qo:={qh.Tally with Best:=qk.Bal,Val:=qk.Val,Lost:=true }
 letI qe:=qh.Tally.Mbal<qk.Mbal
 letI qq:={qh.Tally with Lost:=decide qe }
 letI qm:={qh.Tally with Best:=qk.Bal,Val:=qk.Val,Lost:=decide qe }
 letI qa:=(⟨x1.Node,x1.Cmd,0,0,yBG.z,(⟨0,0,0,noS,qh.Tally.Seen,false,false⟩:yAg)⟩:yAR)
 bif decide (qh.Tally.Inst<qk.Inst) then
 bindO qc fun r16=>
 bif decide (r16<x0.Nodes) then
 some ({x1 with I:=r16,T:={qh.Tally with Ahead:=true }},x2,x3,false,0,())
 else
 bindO (f10 qs) fun r17=>
 bif r17 then
 some (qa,x2,x3,false,0,())
 else
 bif x1.At==5 then
 some ({x1 with At:=6,I:=r16,T:={qh.Tally with Ahead:=true }},x2,x3,false,0,())
 else
 bindO (f11 qs x1.Cmd) fun r18=>
 some ((⟨x1.Node,x1.Cmd,4,r16,{x1.Own with Bal:=x1.Own.Mbal,Val:=r18 },{qh.Tally with Ahead:=true }⟩:yAR),x2,x3,false,0,())
 else
 bif qk.Inst==qh.Tally.Inst then
 bif qh.Tally.Lost then
 bif decide (qh.Tally.Best<qk.Bal) then
 bindO qc fun r19=>
 bif decide (r19<x0.Nodes) then
 some ({x1 with I:=r19,T:={qh.Tally with Best:=qk.Bal,Val:=qk.Val,Lost:=true }},x2,x3,false,0,())
 else
 bindO (f10 qo) fun r20=>
 bif r20 then
 some (qa,x2,x3,false,0,())
 else
 bif x1.At==5 then
 some ({x1 with At:=6,I:=r19,T:={qh.Tally with Best:=qk.Bal,Val:=qk.Val,Lost:=true }},x2,x3,false,0,())
 else
 bindO (f11 qo x1.Cmd) fun r21=>
 some ((⟨x1.Node,x1.Cmd,4,r19,{x1.Own with Bal:=x1.Own.Mbal,Val:=r21 },{qh.Tally with Best:=qk.Bal,Val:=qk.Val,Lost:=true }⟩:yAR),x2,x3,false,0,())
 else
 bindO qc fun r22=>
 bif decide (r22<x0.Nodes) then
 some ({x1 with I:=r22,T:={qh.Tally with Lost:=true }},x2,x3,false,0,())
 else
 bindO (f10 qu) fun r23=>
 bif r23 then
 some (qa,x2,x3,false,0,())
 else
 bif x1.At==5 then
 some ({x1 with At:=6,I:=r22,T:={qh.Tally with Lost:=true }},x2,x3,false,0,())
 else
 bindO (f11 qu x1.Cmd) fun r24=>
 some ((⟨x1.Node,x1.Cmd,4,r22,{x1.Own with Bal:=x1.Own.Mbal,Val:=r24 },{qh.Tally with Lost:=true }⟩:yAR),x2,x3,false,0,())
 else
 bif decide (qh.Tally.Best<qk.Bal) then
 bindO qc fun r25=>
 bif decide (r25<x0.Nodes) then
 some ({x1 with I:=r25,T:={qh.Tally with Best:=qk.Bal,Val:=qk.Val,Lost:=decide qe }},x2,x3,false,0,())
 else
 bindO (f10 qm) fun r26=>
 bif r26 then
 some (qa,x2,x3,false,0,())
 else
 bif x1.At==5 then
 some ({x1 with At:=6,I:=r25,T:={qh.Tally with Best:=qk.Bal,Val:=qk.Val,Lost:=decide qe }},x2,x3,false,0,())
 else
 bindO (f11 qm x1.Cmd) fun r27=>
 some ((⟨x1.Node,x1.Cmd,4,r25,{x1.Own with Bal:=x1.Own.Mbal,Val:=r27 },{qh.Tally with Best:=qk.Bal,Val:=qk.Val,Lost:=decide qe }⟩:yAR),x2,x3,false,0,())
 else
 bindO qc fun r28=>
 bif decide (r28<x0.Nodes) then
 some ({x1 with I:=r28,T:={qh.Tally with Lost:=decide qe }},x2,x3,false,0,())
 else
 bindO (f10 qq) fun r29=>
 bif r29 then
 some (qa,x2,x3,false,0,())
 else
 bif x1.At==5 then
 some ({x1 with At:=6,I:=r28,T:={qh.Tally with Lost:=decide qe }},x2,x3,false,0,())
 else
 bindO (f11 qq x1.Cmd) fun r30=>
 some ((⟨x1.Node,x1.Cmd,4,r28,{x1.Own with Bal:=x1.Own.Mbal,Val:=r30 },{qh.Tally with Lost:=decide qe }⟩:yAR),x2,x3,false,0,())
 else
 bindO qc fun r31=>
 bif decide (r31<x0.Nodes) then
 some ({x1 with I:=r31,T:=qh.Tally },x2,x3,false,0,())
 else
 bindO (f10 qh.Tally) fun r32=>
 bif r32 then
 some (qa,x2,x3,false,0,())
 else
 bif x1.At==5 then
 some ({x1 with At:=6,I:=r31,T:=qh.Tally },x2,x3,false,0,())
 else
 bindO (f11 qh.Tally x1.Cmd) fun r33=>
 some ((⟨x1.Node,x1.Cmd,4,r31,{x1.Own with Bal:=x1.Own.Mbal,Val:=r33 },qh.Tally⟩:yAR),x2,x3,false,0,())
 else
 bif decide (x1.At=4) then
 bindO qg fun r34=>
 bindO (f9 x0 x1.Node 0) fun r35=>
 bif decide (r35<x0.Nodes) then
 some ({x1 with At:=IntKind.i8.wrap qw,I:=r35,T:=r34.2.Tally },x2,x3,false,0,())
 else
 bindO (f10 r34.2.Tally) fun r36=>
 bif r36 then
 some ((⟨x1.Node,x1.Cmd,0,0,yBG.z,(⟨0,0,0,noS,r34.2.Tally.Seen,false,false⟩:yAg)⟩:yAR),x2,x3,false,0,())
 else
 bif(IntKind.i8.wrap qw)==5 then
 some ({x1 with At:=6,I:=r35,T:=r34.2.Tally },x2,x3,false,0,())
 else
 bindO (f11 r34.2.Tally x1.Cmd) fun r37=>
 some ((⟨x1.Node,x1.Cmd,4,r35,{x1.Own with Bal:=x1.Own.Mbal,Val:=r37 },r34.2.Tally⟩:yAR),x2,x3,false,0,())
 else
 bif decide (x1.At=5) then
 bindO (f5 x4) fun r38=>
 letI ql:=r38.1
 bif r38.2.1 !=0 then
 bif r38.2.1 !=0 then
 some (x1,x2,x3,false,r38.2.1,())
 else
 some (x1,x2,x3,false,0,())
 else
 bindO (f8 (⟨x1.T⟩:yAO) ([[V.int .i64 ql.Mbal]])) fun r39=>
 letI qi:=r39.2
 letI qv:={qi.Tally with Lost:=true }
 letI qt:={qi.Tally with Ahead:=true }
 letI qp:={qi.Tally with Best:=ql.Bal,Val:=ql.Val,Lost:=true }
 letI qf:=qi.Tally.Mbal<ql.Mbal
 letI qr:={qi.Tally with Lost:=decide qf }
 letI qn:={qi.Tally with Best:=ql.Bal,Val:=ql.Val,Lost:=decide qf }
 letI qb:=(⟨x1.Node,x1.Cmd,0,0,yBG.z,(⟨0,0,0,noS,qi.Tally.Seen,false,false⟩:yAg)⟩:yAR)
 bif decide (qi.Tally.Inst<ql.Inst) then
 bindO qc fun r40=>
 bif decide (r40<x0.Nodes) then
 some ({x1 with I:=r40,T:={qi.Tally with Ahead:=true }},x2,x3,false,0,())
 else
 bindO (f10 qt) fun r41=>
 bif r41 then
 some (qb,x2,x3,false,0,())
 else
 bif x1.At==5 then
 some ({x1 with At:=6,I:=r40,T:={qi.Tally with Ahead:=true }},x2,x3,false,0,())
 else
 bindO (f11 qt x1.Cmd) fun r42=>
 some ((⟨x1.Node,x1.Cmd,4,r40,{x1.Own with Bal:=x1.Own.Mbal,Val:=r42 },{qi.Tally with Ahead:=true }⟩:yAR),x2,x3,false,0,())
 else
 bif ql.Inst==qi.Tally.Inst then
 bif qi.Tally.Lost then
 bif decide (qi.Tally.Best<ql.Bal) then
 bindO qc fun r43=>
 bif decide (r43<x0.Nodes) then
 some ({x1 with I:=r43,T:={qi.Tally with Best:=ql.Bal,Val:=ql.Val,Lost:=true }},x2,x3,false,0,())
 else
 bindO (f10 qp) fun r44=>
 bif r44 then
 some (qb,x2,x3,false,0,())
 else
 bif x1.At==5 then
 some ({x1 with At:=6,I:=r43,T:={qi.Tally with Best:=ql.Bal,Val:=ql.Val,Lost:=true }},x2,x3,false,0,())
 else
 bindO (f11 qp x1.Cmd) fun r45=>
 some ((⟨x1.Node,x1.Cmd,4,r43,{x1.Own with Bal:=x1.Own.Mbal,Val:=r45 },{qi.Tally with Best:=ql.Bal,Val:=ql.Val,Lost:=true }⟩:yAR),x2,x3,false,0,())
 else
 bindO qc fun r46=>
 bif decide (r46<x0.Nodes) then
 some ({x1 with I:=r46,T:={qi.Tally with Lost:=true }},x2,x3,false,0,())
 else
 bindO (f10 qv) fun r47=>
 bif r47 then
 some (qb,x2,x3,false,0,())
 else
 bif x1.At==5 then
 some ({x1 with At:=6,I:=r46,T:={qi.Tally with Lost:=true }},x2,x3,false,0,())
 else
 bindO (f11 qv x1.Cmd) fun r48=>
 some ((⟨x1.Node,x1.Cmd,4,r46,{x1.Own with Bal:=x1.Own.Mbal,Val:=r48 },{qi.Tally with Lost:=true }⟩:yAR),x2,x3,false,0,())
 else
 bif decide (qi.Tally.Best<ql.Bal) then
 bindO qc fun r49=>
 bif decide (r49<x0.Nodes) then
 some ({x1 with I:=r49,T:={qi.Tally with Best:=ql.Bal,Val:=ql.Val,Lost:=decide qf }},x2,x3,false,0,())
 else
 bindO (f10 qn) fun r50=>
 bif r50 then
 some (qb,x2,x3,false,0,())
 else
 bif x1.At==5 then
 some ({x1 with At:=6,I:=r49,T:={qi.Tally with Best:=ql.Bal,Val:=ql.Val,Lost:=decide qf }},x2,x3,false,0,())
 else
 bindO (f11 qn x1.Cmd) fun r51=>
 some ((⟨x1.Node,x1.Cmd,4,r49,{x1.Own with Bal:=x1.Own.Mbal,Val:=r51 },{qi.Tally with Best:=ql.Bal,Val:=ql.Val,Lost:=decide qf }⟩:yAR),x2,x3,false,0,())
 else
 bindO qc fun r52=>
 bif decide (r52<x0.Nodes) then
 some ({x1 with I:=r52,T:={qi.Tally with Lost:=decide qf }},x2,x3,false,0,())
 else
 bindO (f10 qr) fun r53=>
 bif r53 then
 some (qb,x2,x3,false,0,())
 else
 bif x1.At==5 then
 some ({x1 with At:=6,I:=r52,T:={qi.Tally with Lost:=decide qf }},x2,x3,false,0,())
 else
 bindO (f11 qr x1.Cmd) fun r54=>
 some ((⟨x1.Node,x1.Cmd,4,r52,{x1.Own with Bal:=x1.Own.Mbal,Val:=r54 },{qi.Tally with Lost:=decide qf }⟩:yAR),x2,x3,false,0,())
 else
 bindO qc fun r55=>
 bif decide (r55<x0.Nodes) then
 some ({x1 with I:=r55,T:=qi.Tally },x2,x3,false,0,())
 else
 bindO (f10 qi.Tally) fun r56=>
 bif r56 then
 some (qb,x2,x3,false,0,())
 else
 bif x1.At==5 then
 some ({x1 with At:=6,I:=r55,T:=qi.Tally },x2,x3,false,0,())
 else
 bindO (f11 qi.Tally x1.Cmd) fun r57=>
 some ((⟨x1.Node,x1.Cmd,4,r55,{x1.Own with Bal:=x1.Own.Mbal,Val:=r57 },qi.Tally⟩:yAR),x2,x3,false,0,())
 else
 gd (decide (x1.At=6))<|
 bindO (f12 x1.Own.Val) fun r58=>
 bif r58.2.1 !=0 then
 some (x1,x2,x3,false,50,())
 else
 bindO (f13 x0 x2 r58.1) fun r59=>
 bindO qj fun r60=>
 bif r60.2.1 then
 bindO (f3 r58.1 r60.1.By r60.1.Serial) fun r61=>
 some (qd,r59,w64 (x3+1),r61,0,())
 else
 some (qd,r59,w64 (x3+1),false,0,())
theorem yV0(f1 f2 f3 f4 f5 f6 f7 f8 f9 f10 f11 f12 f13):yE0.Eq [yIG.s f1,yEZ.s f2,yFd.s f3,yL8.s f4,yGV.s f5,yJW.s f6,yGU.s f7,yCV.s f8,yET.s f9,yFb.s f10,yFc.s f11,yBY.s f12,yD9.s f13] .no (yEz f1 f2 f3 f4 f5 f6 f7 f8 f9 f10 f11 f12 f13):=fun _=>by kernel_rfl
def yBi(L:Nat):yE0.T:=yEz (yJn L) (yIs L) (yK1 L) (yPu L) (yEE L) (yO4 L) (yJX L) (yGY L) (yGX L) (yIA L) (yIB L) (yBB L) (yCw L)
theorem ySD(L:Nat):yE0.C (yBi L):=yE0.c (yV0 (yJn L) (yIs L) (yK1 L) (yPu L) (yEE L) (yO4 L) (yJX L) (yGY L) (yGX L) (yIA L) (yIB L) (yBB L) (yCw L)) (tC (yVv L).ent (tC (yTU L).ent (tC (yUA L).ent (tC (yXV L).ent (tC (yU0 L).ent (tC (yWg L).ent (tC (yUy L).ent (tC (yQR L).ent (tC (yS7 L).ent (tC (yT6 L).ent (tC (yT8 L).ent (tC (yHF L).ent (tC (yRV L).ent tN))))))))))))) Tryz.func111 (by kernel_rfl) (lN _)
end Go.Proofs.YtakljpcmbpaeaaaGreat

namespace Go.Proofs.YtakljpcmbpaeaaaGreat
open Go.RowKit
set_option maxRecDepth 100000
set_option maxHeartbeats 16000000
abbrev yBD:=(List (List V))×Unit×Int×Int×Unit
abbrev yBo:=Unit
abbrev yBp:=Int×Unit
abbrev yBQ{α:Type}(s:yBD)(kn:yBD→Option α)(k0:yBo→Option α)(k1:yBp→Option α):Option α:=
 bif decide (s.2.2.2.1<s.2.2.1) then
 gI s.1 kS s.2.2.2.1<|
 bif decide (512<((aS s.1 s.2.2.2.1.toNat 0).size:Int)) then
 k1 (s.2.2.2.1,())
 else
 kn (s.1,(()),s.2.2.1,w64 (s.2.2.2.1+1),())
 else
 k0 (())
abbrev yBE:LW2 yBD yBo yBp:=⟨(lvC 0 (mP cdR) (lvC 1 (mP (cdF 276 caN)) (lvC 7 (mP cI) (lvC 8 (mP cI) lvN)))),(.exit 0),lvN,.ret,(lvC 4 (mP cI) lvN)⟩
theorem yF9{α:Type}:yBE.Eq (α:=α) [] Tryz.f306 [1,0,1,0] .no (yBQ):=fun _ _ _=>by kernel_rfl
abbrev yAf:=fw2 306 (caC cdR (caC (cdF 276 caN) caN)) cI
abbrev yCz(F0:LF2 yBD yBo yBp (Int))(x0:List (List V))(x1:Unit):Option Int:=
 F0 (x0,(()),(x0.length:Int),0,()) (fun q1=>
 some (-1)) (fun q2=>
 some q2.1)
theorem yHB(F0):yAf.Eq [] (.two .no (.two (.two .no (.one (.lp (yBE.s F0)))) .no)) (yCz F0):=fun _=>by kernel_rfl
def yB7(L:Nat):yAf.T:=yCz (loop2 (yBQ) L)
theorem yFy{α:Type}(L:Nat):LO Tryz.f306 [1,0,1,0] (yBE.s (α:=α) (loop2 (yBQ) L)):=yBE.k (yF9) tN (lN _) (by kernel_rfl) L
theorem yHA(L:Nat):yAf.C (yB7 L):=yAf.c (yHB (loop2 (yBQ) L)) tN Tryz.func306 (by kernel_rfl) (lS (lN _) (lS (lS (lN _) (lB (lL (yFy L)))) (lN _)))
abbrev yAZ:=fw2 275 (caC cdR (caC (cdF 276 caN) caN)) cdB
abbrev yCc(f1:yAf.T)(x0:List (List V))(x1:Unit):Option Bool:=
 bindO (f1 x0 (())) fun r1=>
 some (decide (0≤r1))
theorem yF8(f1):yAZ.Eq [(306,spF 1 [(276,(yAf.s f1).2)])] .no (yCc f1):=fun _=>by kernel_rfl
def yBw(L:Nat):yAZ.T:=yCc (yB7 L)
theorem yF7(L:Nat):yAZ.C (yBw L):=yAZ.c (yF8 (yB7 L)) (tC (spF_ok (spF_cons (yHA L).ent spF_nil)) tN) Tryz.func275 (by kernel_rfl) (lN _)
abbrev yC9:=fw1 217 (caC cdR caN) cdB
abbrev yQK(f1:yAZ.T)(x0:List (List V)):Option Bool:=
 bindO (f1 x0 (())) fun r1=>
 some !r1
theorem yUI(f1):yC9.Eq [(275,spF 1 [(276,(yAZ.s f1).2)])] .no (yQK f1):=fun _=>by kernel_rfl
def yK2(L:Nat):yC9.T:=yQK (yBw L)
theorem yQJ(L:Nat):yC9.C (yK2 L):=yC9.c (yUI (yBw L)) (tC (spF_ok (spF_cons (yF7 L).ent spF_nil)) tN) Tryz.func217 (by kernel_rfl) (lN _)
abbrev yC0:=yAJ×(List (List V))×Int×Int×Unit
abbrev yFA:=Unit
abbrev yFB:=Bool×Unit
abbrev yDk{α:Type}(s:yC0)(kn:yC0→Option α)(k0:yFA→Option α)(k1:yFB→Option α):Option α:=
 bif decide (s.2.2.2.1<s.2.2.1) then
 gI s.2.1 yES.ks s.2.2.2.1<|
 bif decide (aI s.2.1 s.2.2.2.1.toNat 0<0) then
 k1 (false,())
 else
 gd (decide ((s.1.Device.S.length:Int)≤aI s.2.1 s.2.2.2.1.toNat 0))<|
 k1 (false,())
 else
 k0 (())
abbrev yC1:LW2 yC0 yFA yFB:=⟨(lvC 0 (mP (cdP yBT)) (lvC 9 (mP cdR) (lvC 10 (mP cI) (lvC 11 (mP cI) lvN)))),(.exit 0),lvN,.ret,(lvC 4 (mP cdB) lvN)⟩
theorem yNw{α:Type}:yC1.Eq (α:=α) [] Tryz.f218 [1,1,0,1,0] .no (yDk):=fun _ _ _=>by kernel_rfl
abbrev yCK:=fw2 218 (caC (cdP yBT) (caC cdR caN)) cdB
abbrev yLj(F0:LF2 yC0 yFA yFB (Bool))(x0:yAJ)(x1:List (List V)):Option Bool:=
 F0 (x0,x1,(x1.length:Int),0,()) (fun q1=>
 some true) (fun q2=>
 some q2.1)
theorem yP3(F0):yCK.Eq [] (.two .no (.two .no (.two (.two .no (.one (.lp (yC1.s F0)))) .no))) (yLj F0):=fun _=>by kernel_rfl
def yDj(L:Nat):yCK.T:=yLj (loop2 (yDk) L)
theorem yNb{α:Type}(L:Nat):LO Tryz.f218 [1,1,0,1,0] (yC1.s (α:=α) (loop2 (yDk) L)):=yC1.k (yNw) tN (lN _) (by kernel_rfl) L
theorem yP2(L:Nat):yCK.C (yDj L):=yCK.c (yP3 (loop2 (yDk) L)) tN Tryz.func218 (by kernel_rfl) (lS (lN _) (lS (lN _) (lS (lS (lN _) (lB (lL (yNb L)))) (lN _))))
abbrev yBC:=fw2 219 (caC (cdP yBT) (caC cI caN)) cdB
abbrev yLk(x0:yAJ)(x1:Int):Option Bool:=
 bif decide (16≤x1) then
 bif decide (w64 (x1.tdiv 16)<x0.Device.Next) then
 some (decide (x1.tmod 16<(x0.Device.Keys.length:Int)))
 else
 some false
 else
 some false
theorem yP4:yBC.Eq [] .no (yLk):=fun _=>by kernel_rfl
def yBH(L:Nat):yBC.T:=yLk
theorem yG4(L:Nat):yBC.C (yBH L):=yBC.c (yP4) tN Tryz.func219 (by kernel_rfl) (lN _)
end Go.Proofs.YtakljpcmbpaeaaaGreat

namespace Go.Proofs.YtakljpcmbpaeaaaGreat
open Go.RowKit
set_option maxRecDepth 100000
set_option maxHeartbeats 16000000
abbrev yDn:=yAJ×Int×(List (List V))×Int×Int×Unit
abbrev yGG:=Unit
abbrev yGH:=Bool×Unit
abbrev yFD{α:Type}(f1:yBC.T)(s:yDn)(kn:yDn→Option α)(k0:yGG→Option α)(k1:yGH→Option α):Option α:=
 bif decide (s.2.2.2.2.1<s.2.2.2.1) then
 gI s.2.2.1 kI s.2.2.2.2.1<|
 bif decide (aI s.2.2.1 s.2.2.2.2.1.toNat 0≤s.2.1) then
 k1 (false,())
 else
 bindO (f1 s.1 (aI s.2.2.1 s.2.2.2.2.1.toNat 0)) fun r1=>
 bif !r1 then
 k1 (false,())
 else
 kn (s.1,aI s.2.2.1 s.2.2.2.2.1.toNat 0,s.2.2.1,s.2.2.2.1,w64 (s.2.2.2.2.1+1),())
 else
 k0 (())
abbrev yDo:LW2 yDn yGG yGH:=⟨(lvC 0 (mP (cdP yBT)) (lvC 5 (mP cI) (lvC 116 (mP cdR) (lvC 117 (mP cI) (lvC 118 (mP cI) lvN))))),(.exit 2),lvN,.ret,(lvC 2 (mP cdB) lvN)⟩
theorem yPF{α:Type}(f1):yDo.Eq (α:=α) [yBC.s f1] Tryz.f166 [1,1,1,1,0,1,0] .no (yFD f1):=fun _ _ _=>by kernel_rfl
abbrev yDl:=yAJ×(List (List V))×Int×Int×Unit
abbrev yGE:=yAJ×Unit
abbrev yGF:=Bool×Unit
abbrev yFC{α:Type}(f1:yCK.T)(f2:yBC.T)(s:yDl)(kn:yDl→Option α)(k0:yGE→Option α)(k1:yGF→Option α):Option α:=
 letI qa:=s.2.2.2.1
 letI qb:=aI s.2.1 qa.toNat 0
 bif decide (qa<s.2.2.1) then
 gI s.2.1 kI qa<|
 gI s.1.Device.Cache kL qa<|
 bindO (f1 s.1 (aR s.1.Device.Cache qa.toNat 0)) fun r1=>
 bif !r1 then
 k1 (false,())
 else
 bif qb !=0 then
 bindO (f2 s.1 qb) fun r2=>
 bif !r2 then
 k1 (false,())
 else
 bif(qb.tmod 16) !=qa then
 k1 (false,())
 else
 kn (s.1,s.2.1,s.2.2.1,w64 (qa+1),())
 else
 kn (s.1,s.2.1,s.2.2.1,w64 (qa+1),())
 else
 k0 (s.1,())
abbrev yDm:LW2 yDl yGE yGF:=⟨(lvC 0 (mP (cdP yBT)) (lvC 77 (mP cdR) (lvC 78 (mP cI) (lvC 79 (mP cI) lvN)))),(.exit 0),(lvC 0 (mP (cdP yBT)) lvN),.ret,(lvC 2 (mP cdB) lvN)⟩
theorem yPE{α:Type}(f1 f2):yDm.Eq (α:=α) [yCK.s f1,yBC.s f2] Tryz.f166 [1,1,0,1,0] .no (yFC f1 f2):=fun _ _ _=>by kernel_rfl
abbrev yBy:=fw1 166 (caC (cdP yBT) caN) cdB
abbrev yMs(f1:yC9.T)(F0:LF2 yDl yGE yGF (Bool))(F1:LF2 yDn yGG yGH (Bool))(x0:yAJ):Option Bool:=
 bif(x0.Device.S.length:Int)==0 then
 some false
 else
 bindO (f1 x0.Device.S) fun r1=>
 bif !r1 then
 some false
 else
 bif(x0.Device.Keys.length:Int)==0 then
 some false
 else
 bif decide (16<(x0.Device.Keys.length:Int)) then
 some false
 else
 bif(x0.Device.Cache.length:Int) !=(x0.Device.Keys.length:Int) then
 some false
 else
 bif decide (x0.Device.Next<1) then
 some false
 else
 bif decide (68719476736<x0.Device.Next) then
 some false
 else
 F0 (x0,x0.Device.Keys,(x0.Device.Keys.length:Int),0,()) (fun q2=>
 F1 (q2.1,0,q2.1.Device.Fenced,(q2.1.Device.Fenced.length:Int),0,()) (fun q3=>
 some true) (fun q4=>
 some q4.1)) (fun q5=>
 some q5.1)
theorem yQ9(f1 F0 F1):yBy.Eq [yC9.s f1] (.two .no (.two .no (.two (.two .no (.one (.lp (yDm.s F0)))) (.two .no (.two (.two .no (.one (.lp (yDo.s F1)))) .no))))) (yMs f1 F0 F1):=fun _=>by kernel_rfl
def yFU(L:Nat):yBy.T:=yMs (yK2 L) (loop2 (yFC (yDj L) (yBH L)) L) (loop2 (yFD (yBH L)) L)
theorem yOx{α:Type}(L:Nat):LO Tryz.f166 [1,1,1,1,0,1,0] (yDo.s (α:=α) (loop2 (yFD (yBH L)) L)):=yDo.k (yPF (yBH L)) (tC (yG4 L).ent tN) (lN _) (by kernel_rfl) L
theorem yOw{α:Type}(L:Nat):LO Tryz.f166 [1,1,0,1,0] (yDm.s (α:=α) (loop2 (yFC (yDj L) (yBH L)) L)):=yDm.k (yPE (yDj L) (yBH L)) (tC (yP2 L).ent (tC (yG4 L).ent tN)) (lN _) (by kernel_rfl) L
theorem yMr(L:Nat):yBy.C (yFU L):=yBy.c (yQ9 (yK2 L) (loop2 (yFC (yDj L) (yBH L)) L) (loop2 (yFD (yBH L)) L)) (tC (yQJ L).ent tN) Tryz.func166 (by kernel_rfl) (lS (lN _) (lS (lN _) (lS (lS (lN _) (lB (lL (yOw L)))) (lS (lN _) (lS (lS (lN _) (lB (lL (yOx L)))) (lN _))))))
abbrev yFf:=fw1 113 (caC yBx caN) cI
abbrev yQI(f1:yBy.T)(x0:yAA):Option Int:=
 bindO (f1 (⟨x0⟩:yAJ)) fun r1=>
 bif !r1 then
 some 2
 else
 some 0
theorem yUG(f1):yFf.Eq [yBy.s f1] .no (yQI f1):=fun _=>by kernel_rfl
def yO9(L:Nat):yFf.T:=yQI (yFU L)
theorem yUF(L:Nat):yFf.C (yO9 L):=yFf.c (yUG (yFU L)) (tC (yMr L).ent tN) Tryz.func113 (by kernel_rfl) (lN _)
abbrev yJg:=fw1 114 (caC yCS caN) cI
abbrev yTJ(f1:yID.T)(x0:yAN):Option Int:=
 bindO (f1 x0 7) fun r1=>
 some (w64 (r1.stretch_.first_+r1.stretch_.many_))
theorem yWm(f1):yJg.Eq [yID.s f1] .no (yTJ f1):=fun _=>by kernel_rfl
def yTI(L:Nat):yJg.T:=yTJ (yNz L)
theorem yWl(L:Nat):yJg.C (yTI L):=yJg.c (yWm (yNz L)) (tC (yUu L).ent tN) Tryz.func114 (by kernel_rfl) (lN _)
abbrev yCX:=fw2 221 (caC (cdP yBT) (caC cI caN)) cdB
abbrev yMH(x0:yAJ)(x1:Int):Option Bool:=
 bif decide (0≤x1) then
 some (decide (x1<(x0.Device.Keys.length:Int)))
 else
 some false
theorem yQW:yCX.Eq [] .no (yMH):=fun _=>by kernel_rfl
def yJf(L:Nat):yCX.T:=yMH
theorem yQV(L:Nat):yCX.C (yJf L):=yCX.c (yQW) tN Tryz.func221 (by kernel_rfl) (lN _)
abbrev yCj:=(List (List V))×Int×Int×Int×Unit
abbrev yEK:=Unit
abbrev yEL:=Int×Unit
abbrev yC6{α:Type}(s:yCj)(kn:yCj→Option α)(k0:yEK→Option α)(k1:yEL→Option α):Option α:=
 bif decide (s.2.2.2.1<s.2.2.1) then
 gI s.1 kI s.2.2.2.1<|
 bif s.2.1==(aI s.1 s.2.2.2.1.toNat 0) then
 k1 (s.2.2.2.1,())
 else
 kn (s.1,s.2.1,s.2.2.1,w64 (s.2.2.2.1+1),())
 else
 k0 (())
abbrev yCk:LW2 yCj yEK yEL:=⟨(lvC 0 (mP cdR) (lvC 1 (mP cI) (lvC 7 (mP cI) (lvC 8 (mP cI) lvN)))),(.exit 0),lvN,.ret,(lvC 4 (mP cI) lvN)⟩
theorem yNW{α:Type}:yCk.Eq (α:=α) [] Tryz.f342 [1,0,1,0] .no (yC6):=fun _ _ _=>by kernel_rfl
abbrev yB3:=fw2 342 (caC cdR (caC cI caN)) cI
abbrev yJV(F0:LF2 yCj yEK yEL (Int))(x0:List (List V))(x1:Int):Option Int:=
 F0 (x0,x1,(x0.length:Int),0,()) (fun q1=>
 some (-1)) (fun q2=>
 some q2.1)
theorem yO2(F0):yB3.Eq [] (.two .no (.two (.two .no (.one (.lp (yCk.s F0)))) .no)) (yJV F0):=fun _=>by kernel_rfl
def yHC(L:Nat):yB3.T:=yJV (loop2 (yC6) L)
theorem yMo{α:Type}(L:Nat):LO Tryz.f342 [1,0,1,0] (yCk.s (α:=α) (loop2 (yC6) L)):=yCk.k (yNW) tN (lN _) (by kernel_rfl) L
theorem yO1(L:Nat):yB3.C (yHC L):=yB3.c (yO2 (loop2 (yC6) L)) tN Tryz.func342 (by kernel_rfl) (lS (lN _) (lS (lS (lN _) (lB (lL (yMo L)))) (lN _)))
abbrev yBj:=fw2 309 (caC cdR (caC cI caN)) cdB
abbrev yHM(f1:yB3.T)(x0:List (List V))(x1:Int):Option Bool:=
 bindO (f1 x0 x1) fun r1=>
 some (decide (0≤r1))
theorem yNV(f1):yBj.Eq [yB3.s f1] .no (yHM f1):=fun _=>by kernel_rfl
def yCI(L:Nat):yBj.T:=yHM (yHC L)
theorem yNU(L:Nat):yBj.C (yCI L):=yBj.c (yNV (yHC L)) (tC (yO1 L).ent tN) Tryz.func309 (by kernel_rfl) (lN _)
end Go.Proofs.YtakljpcmbpaeaaaGreat

namespace Go.Proofs.YtakljpcmbpaeaaaGreat
open Go.RowKit
set_option maxRecDepth 100000
set_option maxHeartbeats 16000000
abbrev yBg:=(List (List V))×((yAA×Unit))×Int×Int×Unit
abbrev yCC:=Unit
abbrev yCD:=Int×Unit
abbrev yBq{α:Type}(f1:yBj.T)(s:yBg)(kn:yBg→Option α)(k0:yCC→Option α)(k1:yCD→Option α):Option α:=
 bif decide (s.2.2.2.1<s.2.2.1) then
 gI s.1 kI s.2.2.2.1<|
 bif decide (aI s.1 s.2.2.2.1.toNat 0<1) then
 k1 (s.2.2.2.1,())
 else
 bindO (f1 s.2.1.1.Fenced (aI s.1 s.2.2.2.1.toNat 0)) fun r1=>
 bif r1 then
 k1 (s.2.2.2.1,())
 else
 kn (s.1,(s.2.1.1,()),s.2.2.1,w64 (s.2.2.2.1+1),())
 else
 k0 (())
abbrev yBh:LW2 yBg yCC yCD:=⟨(lvC 0 (mP cdR) (lvC 1 (mP (cdF 308 (caC (cdP yQ2) caN))) (lvC 7 (mP cI) (lvC 8 (mP cI) lvN)))),(.exit 0),lvN,.ret,(lvC 4 (mP cI) lvN)⟩
theorem yIh{α:Type}(f1):yBh.Eq (α:=α) [yBj.s f1] Tryz.f341 [1,0,1,0] .no (yBq f1):=fun _ _ _=>by kernel_rfl
abbrev yA6:=fw2 341 (caC cdR (caC (cdF 308 (caC (cdP yQ2) caN)) caN)) cI
abbrev yEs(F0:LF2 yBg yCC yCD (Int))(x0:List (List V))(x1:yAA×Unit):Option Int:=
 F0 (x0,(x1.1,()),(x0.length:Int),0,()) (fun q1=>
 some (-1)) (fun q2=>
 some q2.1)
theorem yKN(F0):yA6.Eq [] (.two .no (.two (.two .no (.one (.lp (yBh.s F0)))) .no)) (yEs F0):=fun _=>by kernel_rfl
def yCv(L:Nat):yA6.T:=yEs (loop2 (yBq (yCI L)) L)
theorem yH5{α:Type}(L:Nat):LO Tryz.f341 [1,0,1,0] (yBh.s (α:=α) (loop2 (yBq (yCI L)) L)):=yBh.k (yIh (yCI L)) (tC (yNU L).ent tN) (lN _) (by kernel_rfl) L
theorem yKM(L:Nat):yA6.C (yCv L):=yA6.c (yKN (loop2 (yBq (yCI L)) L)) tN Tryz.func341 (by kernel_rfl) (lS (lN _) (lS (lS (lN _) (lB (lL (yH5 L)))) (lN _)))
abbrev yAr:=fw2 307 (caC cdR (caC (cdF 308 (caC (cdP yQ2) caN)) caN)) cdB
abbrev yDS(f1:yA6.T)(x0:List (List V))(x1:yAA×Unit):Option Bool:=
 bindO (f1 x0 (x1.1,())) fun r1=>
 some (decide (0≤r1))
theorem yIg(f1):yAr.Eq [(341,spF 1 [(308,(yA6.s f1).2)])] .no (yDS f1):=fun _=>by kernel_rfl
def yCR(L:Nat):yAr.T:=yDS (yCv L)
theorem yIf(L:Nat):yAr.C (yCR L):=yAr.c (yIg (yCv L)) (tC (spF_ok (spF_cons (yKM L).ent spF_nil)) tN) Tryz.func307 (by kernel_rfl) (lN _)
abbrev yEV:=fw2 278 (caC yBx (caC cdR caN)) cdB
abbrev yPB(f1:yAr.T)(x0:yAA)(x1:List (List V)):Option Bool:=
 bindO (f1 x1 (x0,())) fun r1=>
 some r1
theorem yTE(f1):yEV.Eq [(307,spF 1 [(308,(yAr.s f1).2)])] .no (yPB f1):=fun _=>by kernel_rfl
def yNv(L:Nat):yEV.T:=yPB (yCR L)
theorem yTD(L:Nat):yEV.C (yNv L):=yEV.c (yTE (yCR L)) (tC (spF_ok (spF_cons (yIf L).ent spF_nil)) tN) Tryz.func278 (by kernel_rfl) (lN _)
abbrev yB9:=fw2 222 (caC (cdP yBT) (caC cI caN)) cdB
abbrev yK3(f1:yEV.T)(x0:yAJ)(x1:Int):Option Bool:=
 gI x0.Device.Keys kI x1<|
 bindO (f1 x0.Device ([[V.int .i64 (aI x0.Device.Keys x1.toNat 0)]])) fun r1=>
 some r1
theorem yPD(f1):yB9.Eq [yEV.s f1] .no (yK3 f1):=fun _=>by kernel_rfl
def yHs(L:Nat):yB9.T:=yK3 (yNv L)
theorem yPC(L:Nat):yB9.C (yHs L):=yB9.c (yPD (yNv L)) (tC (yTD L).ent tN) Tryz.func222 (by kernel_rfl) (lN _)
abbrev yB2:=fw3 169 (caC (cdP yBT) (caC cI (caC yNZ caN))) cI
abbrev yJU(f1:yBy.T)(f2:yCX.T)(f3:yC9.T)(f4:yBC.T)(f5:yB9.T)(x0:yAJ)(x1:Int)(x2:yA5):Option Int:=
 letI qe:=f5 x0 x1
 letI qd:=x2.Sector<0
 letI qc:=x2.Kind≤3
 letI qb:=68719476736≤x0.Device.Next
 letI qa:=(x0.Device.S.length:Int)≤x2.Sector
 bindO (f1 x0) fun r1=>
 bif !r1 then
 some 2
 else
 bindO (f2 x0 x1) fun r2=>
 bif !r2 then
 some 2
 else
 bif decide (x2.Kind<1) then
 some 2
 else
 bif decide (6<x2.Kind) then
 some 2
 else
 bif x2.Kind==2 then
 bindO (f3 ([[V.str x2.B]])) fun r3=>
 bif !r3 then
 some 2
 else
 bif x2.Kind==5 then
 bindO (f4 x0 x2.Key) fun r4=>
 bif !r4 then
 some 2
 else
 bif x2.Kind==6 then
 bif decide qb then
 some 2
 else
 some 0
 else
 bindO qe fun r5=>
 bif r5 then
 some 61
 else
 bif decide qc then
 bif decide qd then
 some 60
 else
 bif decide qa then
 some 60
 else
 some 0
 else
 some 0
 else
 bif x2.Kind==6 then
 bif decide qb then
 some 2
 else
 some 0
 else
 bindO qe fun r6=>
 bif r6 then
 some 61
 else
 bif decide qc then
 bif decide qd then
 some 60
 else
 bif decide qa then
 some 60
 else
 some 0
 else
 some 0
 else
 bif x2.Kind==3 then
 bindO (f3 ([[V.str x2.B]])) fun r7=>
 bif !r7 then
 some 2
 else
 bif x2.Kind==5 then
 bindO (f4 x0 x2.Key) fun r8=>
 bif !r8 then
 some 2
 else
 bif x2.Kind==6 then
 bif decide qb then
 some 2
 else
 some 0
 else
 bindO qe fun r9=>
 bif r9 then
 some 61
 else
 bif decide qc then
 bif decide qd then
 some 60
 else
 bif decide qa then
 some 60
 else
 some 0
 else
 some 0
 else
 bif x2.Kind==6 then
 bif decide qb then
 some 2
 else
 some 0
 else
 bindO qe fun r10=>
 bif r10 then
 some 61
 else
 bif decide qc then
 bif decide qd then
 some 60
 else
 bif decide qa then
 some 60
 else
 some 0
 else
 some 0
 else
 bif x2.Kind==5 then
 bindO (f4 x0 x2.Key) fun r11=>
 bif !r11 then
 some 2
 else
 bif x2.Kind==6 then
 bif decide qb then
 some 2
 else
 some 0
 else
 bindO qe fun r12=>
 bif r12 then
 some 61
 else
 bif decide qc then
 bif decide qd then
 some 60
 else
 bif decide qa then
 some 60
 else
 some 0
 else
 some 0
 else
 bif x2.Kind==6 then
 bif decide qb then
 some 2
 else
 some 0
 else
 bindO qe fun r13=>
 bif r13 then
 some 61
 else
 bif decide qc then
 bif decide qd then
 some 60
 else
 bif decide qa then
 some 60
 else
 some 0
 else
 some 0
theorem yOz(f1 f2 f3 f4 f5):yB2.Eq [yBy.s f1,yCX.s f2,yC9.s f3,yBC.s f4,yB9.s f5] .no (yJU f1 f2 f3 f4 f5):=fun _=>by kernel_rfl
def yG5(L:Nat):yB2.T:=yJU (yFU L) (yJf L) (yK2 L) (yBH L) (yHs L)
theorem yOy(L:Nat):yB2.C (yG5 L):=yB2.c (yOz (yFU L) (yJf L) (yK2 L) (yBH L) (yHs L)) (tC (yMr L).ent (tC (yQV L).ent (tC (yQJ L).ent (tC (yG4 L).ent (tC (yPC L).ent tN))))) Tryz.func169 (by kernel_rfl) (lN _)
end Go.Proofs.YtakljpcmbpaeaaaGreat

namespace Go.Proofs.YtakljpcmbpaeaaaGreat
open Go.RowKit
set_option maxRecDepth 100000
set_option maxHeartbeats 16000000
abbrev yAz:=(List (List V))×(((Int×Unit)×Unit))×Int×Int×Unit
abbrev yBZ:=Unit
abbrev yBa:=Int×Unit
abbrev yA7{α:Type}(s:yAz)(kn:yAz→Option α)(k0:yBZ→Option α)(k1:yBa→Option α):Option α:=
 bif decide (s.2.2.2.1<s.2.2.1) then
 gI s.1 yES.ks s.2.2.2.1<|
 bif(aI s.1 s.2.2.2.1.toNat 0)==s.2.1.1.1 then
 k1 (s.2.2.2.1,())
 else
 kn (s.1,((s.2.1.1.1,()),()),s.2.2.1,w64 (s.2.2.2.1+1),())
 else
 k0 (())
abbrev yA0:LW2 yAz yBZ yBa:=⟨(lvC 0 (mP cdR) (lvC 1 (mP (cdF 225 (caC (cdP (caC cI caN)) caN))) (lvC 7 (mP cI) (lvC 8 (mP cI) lvN)))),(.exit 0),lvN,.ret,(lvC 4 (mP cI) lvN)⟩
theorem yEv{α:Type}:yA0.Eq (α:=α) [] Tryz.f224 [1,0,1,0] .no (yA7):=fun _ _ _=>by kernel_rfl
abbrev yAW:=fw2 224 (caC cdR (caC (cdF 225 (caC (cdP (caC cI caN)) caN)) caN)) cI
abbrev yCU(F0:LF2 yAz yBZ yBa (Int))(x0:List (List V))(x1:(Int×Unit)×Unit):Option Int:=
 F0 (x0,((x1.1.1,()),()),(x0.length:Int),0,()) (fun q1=>
 some (-1)) (fun q2=>
 some q2.1)
theorem yFt(F0):yAW.Eq [] (.two .no (.two (.two .no (.one (.lp (yA0.s F0)))) .no)) (yCU F0):=fun _=>by kernel_rfl
def yBs(L:Nat):yAW.T:=yCU (loop2 (yA7) L)
theorem yEj{α:Type}(L:Nat):LO Tryz.f224 [1,0,1,0] (yA0.s (α:=α) (loop2 (yA7) L)):=yA0.k (yEv) tN (lN _) (by kernel_rfl) L
theorem yFs(L:Nat):yAW.C (yBs L):=yAW.c (yFt (loop2 (yA7) L)) tN Tryz.func224 (by kernel_rfl) (lS (lN _) (lS (lS (lN _) (lB (lL (yEj L)))) (lN _)))
abbrev yC2:=((List (List V))×(List (List V))×(List (List V))×Int×(List (List V))×Unit)×(List (List V))×Int×Int×Unit
abbrev yFE:=((List (List V))×(List (List V))×(List (List V))×Int×(List (List V))×Unit)×Unit
abbrev yDp{α:Type}(s:yC2)(kn:yC2→Option α)(k0:yFE→Option α):Option α:=
 letI qe:=s.2.2.2.1
 letI qc:=aI s.2.1 qe.toNat 0
 letI qa:=0+qc.toNat
 letI qd:=s.1.1.getD qa []
 letI qb:=qd.take 0++([V.str (aS s.2.1 qe.toNat 1)]++qd.drop 1)
 bif decide (qe<s.2.2.1) then
 gI s.2.1 yES.ks qe<|
 gB qc s.1.1.length<|
 gd (decide (0+qc.toNat<s.1.1.length))<|
 gd (Nat.ble 0 qa)<|
 gd (Nat.ble 1 qd.length)<|
 gW (s.1.1.set qa qb) s.1.1.length<|
 kn ((s.1.1.set qa qb,s.1.2.1,s.1.2.2.1,s.1.2.2.2.1,s.1.2.2.2.2.1,()),s.2.1,s.2.2.1,w64 (qe+1),())
 else
 gW s.1.1 s.1.1.length<|
 k0 ((s.1.1,s.1.2.1,s.1.2.2.1,s.1.2.2.2.1,s.1.2.2.2.2.1,()),())
abbrev yC3:LW1 yC2 yFE:=⟨(lvC 0 (mR (zW 1 (zP cdR (zP cdR (zP cI (zP cdR zN))))) 5) (lvC 16 (mP cdR) (lvC 17 (mP cI) (lvC 18 (mP cI) lvN)))),(.exit 0),(lvC 0 (mR (zW 1 (zP cdR (zP cdR (zP cI (zP cdR zN))))) 5) lvN)⟩
theorem yNx{α:Type}:yC3.Eq (α:=α) [] Tryz.f171 [1,1,0] .no (yDp):=fun _ _ _=>by kernel_rfl
abbrev yCL:=mw1 171 (zS 5 yBT) 5 (caC cdR caN) (cdT caN)
abbrev yLl(f1:yM3.T)(F0:LF1 yC2 yFE (Unit×yAJ))(x0:yAJ)(x1:List (List V)):Option (Unit×yAJ):=
 bindO (f1 x0.Device.S) fun r1=>
 gW r1 r1.length<|
 F0 ((r1,x0.Device.Cache,x0.Device.Keys,x0.Device.Next,x0.Device.Fenced,()),x1,(x1.length:Int),0,()) (fun q2=>
 gF q2.1.1 (0+q2.1.1.length)<|
 some ((()),(⟨(⟨q2.1.1.take q2.1.1.length,q2.1.2.1,q2.1.2.2.1,q2.1.2.2.2.1,q2.1.2.2.2.2.1⟩:yAA)⟩:yAJ)))
theorem yP6(f1 F0):yCL.Eq [yM3.s f1] (.two .no (.two .no (.one (.lp (yC3.s F0))))) (yLl f1 F0):=fun _ _=>by kernel_rfl
def yIl(L:Nat):yCL.T:=yLl (slices_Clone_Str L) (loop1 (yDp) L)
theorem yNc{α:Type}(L:Nat):LO Tryz.f171 [1,1,0] (yC3.s (α:=α) (loop1 (yDp) L)):=yC3.k (yNx) tN (lN _) (by kernel_rfl) L
theorem yP5(L:Nat):yCL.C (yIl L):=yCL.c (yP6 (slices_Clone_Str L) (loop1 (yDp) L)) (tC (slices_Clone_Str_c L).ent tN) Tryz.func171 (by kernel_rfl) (lS (lN _) (lS (lN _) (lB (lL (yNc L)))))
end Go.Proofs.YtakljpcmbpaeaaaGreat

namespace Go.Proofs.YtakljpcmbpaeaaaGreat
open Go.RowKit
set_option maxRecDepth 100000
set_option maxHeartbeats 16000000
abbrev yKV:=yAA×ByteArray×yAJ×(List (List V))×Int×Int×Unit
abbrev yNC:=yAA×ByteArray×yAJ×Unit
abbrev yMq{α:Type}(s:yKV)(kn:yKV→Option α)(k0:yNC→Option α):Option α:=
 bif decide (s.2.2.2.2.2.1<s.2.2.2.2.1) then
 gI s.2.2.2.1 kI s.2.2.2.2.2.1<|
 none
 else
 k0 (s.1,s.2.1,s.2.2.1,())
abbrev yKW:LW1 yKV yNC:=⟨(lvC 6 yAF (lvC 7 (mP cdS) (lvC 9 (mP (cdP yBT)) (lvC 123 (mP cdR) (lvC 124 (mP cI) (lvC 125 (mP cI) lvN)))))),(.exit 1),(lvC 6 yAF (lvC 7 (mP cdS) (lvC 9 (mP (cdP yBT)) lvN)))⟩
theorem yUH{α:Type}:yKW.Eq (α:=α) [] Tryz.f115 [1,1,1,1,1,0,1,0,1,1,1,1,1,1,1,1,1,0,1,0,1,0] .no (yMq):=fun _ _ _=>by kernel_rfl
abbrev yJe:=fw3 115 (caC yBx (caC cI (caC yNZ caN))) (cdT (caC yBx (caC cdS (caC cI caN))))
abbrev yTC(f1:yB2.T)(f2:yMj.T)(f3:yAW.T)(f4:yCL.T)(f6:yLo.T)(f7:yM2.T)(f8:yNe.T)(F0:LF1 yKV yNC (yAA×ByteArray×Int×Unit))(x0:yAA)(x1:Int)(x2:yA5):Option (yAA×ByteArray×Int×Unit):=
 letI qk:=(⟨x0⟩:yAJ)
 letI qg:= [[V.int .i64 x2.Sector,V.str x2.B]]
 letI qa:=0+x1.toNat
 letI qh:=Nat.ble 0 qa
 bindO (f1 qk x1 x2) fun r1=>
 bif r1 !=0 then
 some (x0,noS,r1,())
 else
 gI x0.Cache kL x1<|
 bindO (f2 (aR x0.Cache x1.toNat 0)) fun r2=>
 letI qm:=0+(r2.length:Int).toNat
 letI qi:=r2.length+1
 gF r2 (0+r2.length)<|
 bindO (f3 (r2.take r2.length) ((x2.Sector,()),())) fun r3=>
 letI qj:=0+r3.toNat
 bif x2.Kind==1 then
 gI x0.S kS x2.Sector<|
 bif decide (0≤r3) then
 gB r3 r2.length<|
 gL r2 kS qj 1<|
 some (x0,aS r2 qj 1,0,())
 else
 some (x0,aS x0.S x2.Sector.toNat 0,0,())
 else
 bif x2.Kind==2 then
 bindO (f4 qk qg) fun r4=>
 bif decide (0≤r3) then none else
 some (r4.2.Device,noS,0,())
 else
 bif x2.Kind==3 then
 bif decide (r3<0) then
 gd (Nat.beq (0+r2.length) r2.length)<|
 gM qi 24<|
 gB (r2.length:Int) qi<|
 gd (decide (0+(r2.length:Int).toNat<(r2++qg).length))<|
 gd (Nat.ble 0 qm)<|
 gd (Nat.ble 2 ((r2++qg).getD qm []).length)<|
 bindO (f6 x0.Cache) fun r5=>
 letI qc:=r5.set qa ((r5.getD qa []).take 0++([V.bs 10 0 qi qi]++(r5.getD qa []).drop 1))
 gB x1 r5.length<|
 gd (decide (0+x1.toNat<r5.length))<|
 gd qh<|
 gd (Nat.ble 1 (r5.getD qa []).length)<|
 gF qc (0+r5.length)<|
 some ({x0 with Cache:=qc.take r5.length },noS,0,())
 else
 gB r3 r2.length<|
 gd (decide (0+r3.toNat<r2.length))<|
 gd (Nat.ble 0 qj)<|
 gd (Nat.ble 2 (r2.getD qj []).length)<|
 bindO (f6 x0.Cache) fun r6=>
 letI qe:=r6.set qa ((r6.getD qa []).take 0++([V.bs 6 0 r2.length r2.length]++(r6.getD qa []).drop 1))
 gB x1 r6.length<|
 gd (decide (0+x1.toNat<r6.length))<|
 gd qh<|
 gd (Nat.ble 1 (r6.getD qa []).length)<|
 gF qe (0+r6.length)<|
 some ({x0 with Cache:=qe.take r6.length },noS,0,())
 else
 bif x2.Kind==4 then
 bif decide (0<(r2.length:Int)) then
 gd (decide (0<(r2.length:Int)))<|
 gL r2 yES.ks 0 0<|
 bindO (f4 qk ([[V.int .i64 (aI r2 0 0),V.str (aS r2 0 1)]])) fun r7=>
 gd (decide (1≤(r2.length:Int)))<|
 bindO (f6 r7.2.Device.Cache) fun r8=>
 letI qd:=r8.set qa ((r8.getD qa []).take 0++([V.bs 6 1 (r2.length-1) (r2.length-1)]++(r8.getD qa []).drop 1))
 gB x1 r8.length<|
 gd (decide (0+x1.toNat<r8.length))<|
 gd qh<|
 gd (Nat.ble 1 (r8.getD qa []).length)<|
 gF qd (0+r8.length)<|
 some ({r7.2.Device with Cache:=qd.take r8.length },noS,0,())
 else
 some (x0,noS,0,())
 else
 bif x2.Kind==5 then none else
 bif x2.Kind==6 then
 bindO (f7 x0.Keys) fun r9=>
 letI qb:=r9.set qa ((r9.getD qa []).take 0++([V.int .i64 (w64 ((w64 (16*x0.Next))+x1))]++(r9.getD qa []).drop 1))
 gB x1 r9.length<|
 gd (decide (0+x1.toNat<r9.length))<|
 gd qh<|
 gd (Nat.ble 1 (r9.getD qa []).length)<|
 bindO (f6 x0.Cache) fun r10=>
 letI ql:=r10.getD qa []
 letI qf:=r10.set qa (ql.take 0++([V.sl ([]) true]++ql.drop 1))
 gB x1 r10.length<|
 gd (decide (0+x1.toNat<r10.length))<|
 gd qh<|
 gd (Nat.ble 1 ql.length)<|
 gB x1 r9.length<|
 gL qb kI qa 0<|
 bindO (f8 ([]) 6 ([[V.int .i64 (aI qb qa 0)]])) fun r11=>
 gd (Nat.ble (0+r11.1.length) r11.1.length)<|
 gd ((bytesOf (r11.1.take r11.1.length)).isSome)<|
 gF qf (0+r10.length)<|
 gF qb (0+r9.length)<|
 some ((⟨x0.S,qf.take r10.length,qb.take r9.length,w64 (x0.Next+1),x0.Fenced⟩:yAA),bytesS (r11.1.take r11.1.length),0,())
 else
 some (x0,noS,0,())
theorem yWj(f1 f2 f3 f4 f6 f7 f8 F0):yJe.Eq [yB2.s f1,yMj.s f2,(224,spF 1 [(225,(yAW.s f3).2)]),yCL.s f4,sZ 173,yLo.s f6,yM2.s f7,yNe.s f8] (.two .no (.two .no (.two .no (.two .no (.two .no (.two (.two .no (.one (.two .no (.two .no (.two .no (.two .no (.two .no (.two .no (.two .no (.two .no (.two .no (.two (.two .no (.two (.two .no (.one (.lp (yKW.s F0)))) .no)) .no)))))))))))) .no)))))) (yTC f1 f2 f3 f4 f6 f7 f8 F0):=fun _=>by kernel_rfl
def yPA(L:Nat):yJe.T:=yTC (yG5 L) (slices_Clone_Cell L) (yBs L) (yIl L) (slices_Clone_Cells L) (slices_Clone_Int L) (num_Put L) (loop1 (yMq) L)
theorem yTB{α:Type}(L:Nat):LO Tryz.f115 [1,1,1,1,1,0,1,0,1,1,1,1,1,1,1,1,1,0,1,0,1,0] (yKW.s (α:=α) (loop1 (yMq) L)):=yKW.k (yUH) tN (lN _) (by kernel_rfl) L
theorem yWi(L:Nat):yJe.C (yPA L):=yJe.c (yWj (yG5 L) (slices_Clone_Cell L) (yBs L) (yIl L) (slices_Clone_Cells L) (slices_Clone_Int L) (num_Put L) (loop1 (yMq) L)) (tC (yOy L).ent (tC (slices_Clone_Cell_c L).ent (tC (spF_ok (spF_cons (yFs L).ent spF_nil)) (tC (yP5 L).ent (tC stub_ok (tC (slices_Clone_Cells_c L).ent (tC (slices_Clone_Int_c L).ent (tC (num_Put_c L).ent tN)))))))) Tryz.func115 (by kernel_rfl) (lS (lN _) (lS (lN _) (lS (lN _) (lS (lN _) (lS (lN _) (lS (lS (lN _) (lB (lS (lN _) (lQ (lN _) (lS (lN _) (lQ (lN _) (lS (lN _) (lQ (lN _) (lS (lN _) (lQ (lN _) (lS (lN _) (lQ (lS (lN _) (lS (lS (lN _) (lB (lL (yTB L)))) (lN _))) (lN _))))))))))))) (lN _)))))))
abbrev yKX:=Int×yAN×yAA×yAR×yAA×yHE×Int×Unit
abbrev yNE:=yAA×yAA×yHE×Int×Unit
abbrev yMx{α:Type}(f1:yE2.T)(f2:yJe.T)(f3:yE0.T)(s:yKX)(kn:yKX→Option α)(k0:yNE→Option α):Option α:=
 letI qc:=s.2.2.2.2.1
 letI qa:=s.2.2.2.2.2.1
 bif !qa.Over then
 bif decide (qa.Acts<s.1) then
 bindO (f1 s.2.1 qa.P qa.Done) fun r1=>
 bif r1.2.1 !=0 then
 k0 (s.2.2.1,qc,qa,r1.2.1,())
 else
 bindO (f2 s.2.2.1 s.2.2.2.1.Node r1.1) fun r2=>
 bif r2.2.2.1 !=0 then
 k0 (s.2.2.1,qc,{qa with Acts:=w64 (qa.Acts+1)},r2.2.2.1,())
 else
 bindO (f3 s.2.1 qa.P qa.T qa.Done r2.2.1) fun r3=>
 letI qb:=(⟨r3.1,r3.2.1,r3.2.2.1,w64 (qa.Acts+1),r3.2.2.2.1⟩:yHE)
 bif r3.2.2.2.2.1 !=0 then
 k0 (r2.1,qc,qb,r3.2.2.2.2.1,())
 else
 kn (s.1,s.2.1,r2.1,s.2.2.2.1,qc,qb,r3.2.2.2.2.1,())
 else
 k0 (s.2.2.1,qc,qa,s.2.2.2.2.2.2.1,())
 else
 k0 (s.2.2.1,qc,qa,s.2.2.2.2.2.2.1,())
abbrev yKY:LW1 yKX yNE:=⟨(lvC 5 (mP cI) (lvC 6 yLm (lvC 7 yAF (lvC 8 yXp (lvC 12 yAF (lvC 13 yXm (lvC 14 (mP cI) lvN))))))),(.exit 0),(lvC 7 yAF (lvC 12 yAF (lvC 13 yXm (lvC 14 (mP cI) lvN))))⟩
theorem yUK{α:Type}(f1 f2 f3):yKY.Eq (α:=α) [yE2.s f1,yJe.s f2,yE0.s f3] Tryz.f43 [1,0,1,1,1,0,0] .no (yMx f1 f2 f3):=fun _ _ _=>by kernel_rfl
abbrev yJp:=fw6 43 (caC yCS (caC yBx (caC yS6 (caC yCp (caC cI (caC cI caN)))))) (cdT (caC yBx (caC yXu (caC cI caN))))
abbrev yTT(f1:yFV.T)(f2:yFf.T)(f3:yJg.T)(F0:LF1 yKX yNE (yAA×yHE×Int×Unit))(x0:yAN)(x1:yAA)(x2:yAR)(x3:yAC)(x4:Int)(x5:Int):Option (yAA×yHE×Int×Unit):=
 letI qa:=(⟨x2,x3,x4,0,false⟩:yHE)
 bindO (f1 x0) fun r1=>
 bif !r1 then
 some (x1,qa,2,())
 else
 bindO (f2 x1) fun r2=>
 bif r2 !=0 then
 some (x1,qa,2,())
 else
 bindO (f3 x0) fun r3=>
 bif(x1.S.length:Int) !=r3 then
 some (x1,qa,2,())
 else
 F0 (x5,x0,x1,x2,yAA.z,qa,0,()) (fun q4=>
 some (q4.1,q4.2.2.1,q4.2.2.2.1,()))
theorem yWt(f1 f2 f3 F0):yJp.Eq [yFV.s f1,yFf.s f2,yJg.s f3] (.two .no (.one (.two .no (.two .no (.two .no (.two (.one (.lp (yKY.s F0))) .no)))))) (yTT f1 f2 f3 F0):=fun _=>by kernel_rfl
def yTR(L:Nat):yJp.T:=yTT (yLG L) (yO9 L) (yTI L) (loop1 (yMx (yBf L) (yPA L) (yBi L)) L)
theorem yTS{α:Type}(L:Nat):LO Tryz.f43 [1,0,1,1,1,0,0] (yKY.s (α:=α) (loop1 (yMx (yBf L) (yPA L) (yBi L)) L)):=yKY.k (yUK (yBf L) (yPA L) (yBi L)) (tC (ySE L).ent (tC (yWi L).ent (tC (ySD L).ent tN))) (lN _) (by kernel_rfl) L
theorem yWs(L:Nat):yJp.C (yTR L):=yJp.c (yWt (yLG L) (yO9 L) (yTI L) (loop1 (yMx (yBf L) (yPA L) (yBi L)) L)) (tC (yRA L).ent (tC (yUF L).ent (tC (yWl L).ent tN))) Tryz.func43 (by kernel_rfl) (lS (lN _) (lC (lS (lN _) (lS (lN _) (lS (lN _) (lS (lB (lL (yTS L))) (lN _)))))))
end Go.Proofs.YtakljpcmbpaeaaaGreat

namespace Go.Proofs.YtakljpcmbpaeaaaGreat
open Go.RowKit
set_option maxRecDepth 100000
set_option maxHeartbeats 16000000
abbrev yIC:=fw1 119 (caC cI caN) cI
abbrev yO8(f1:yDi.T)(x0:Int):Option Int:=
 bindO (f1 x0) fun r1=>
 bif r1 then
 some (x0.tmod 16)
 else
 some (-1)
theorem yVr(f1):yIC.Eq [yDi.s f1] .no (yO8 f1):=fun _=>by kernel_rfl
def yNa(L:Nat):yIC.T:=yO8 (yHq L)
theorem yVq(L:Nat):yIC.C (yNa L):=yIC.c (yVr (yHq L)) (tC (yQ4 L).ent tN) Tryz.func119 (by kernel_rfl) (lN _)
abbrev yDv:=fw3 47 (caC yCS (caC cI (caC cdS caN))) (cdT (caC yS6 (caC cI caN)))
abbrev yN5(f1:yBY.T)(f2:yFV.T)(f3:yIC.T)(x0:yAN)(x1:Int)(x2:ByteArray):Option (yAR×Int×Unit):=
 bindO (f1 x2) fun r1=>
 bif r1.2.1 !=0 then
 some (yAR.z,2,())
 else
 bindO (f2 x0) fun r2=>
 bif !r2 then
 some (yAR.z,2,())
 else
 bif decide (x1<0) then
 some (yAR.z,2,())
 else
 bif decide (x0.Nodes≤x1) then
 some (yAR.z,2,())
 else
 bindO (f3 r1.1.By) fun r3=>
 bif r3 !=x1 then
 some (yAR.z,2,())
 else
 some ((⟨x1,x2,0,0,yBG.z,yAg.z⟩:yAR),0,())
theorem yVI(f1 f2 f3):yDv.Eq [yBY.s f1,yFV.s f2,yIC.s f3] .no (yN5 f1 f2 f3):=fun _=>by kernel_rfl
def yHw(L:Nat):yDv.T:=yN5 (yBB L) (yLG L) (yNa L)
theorem yRE(L:Nat):yDv.C (yHw L):=yDv.c (yVI (yBB L) (yLG L) (yNa L)) (tC (yHF L).ent (tC (yRA L).ent (tC (yVq L).ent tN))) Tryz.func47 (by kernel_rfl) (lN _)
abbrev yKA:=fw1 156 (caC cI caN) cdB
abbrev yQo(x0:Int):Option Bool:=
 bif decide (16≤x0) then
 some (decide (x0≤1099511627776))
 else
 some false
theorem yW9:yKA.Eq [] .no (yQo):=fun _=>by kernel_rfl
def yPf(L:Nat):yKA.T:=yQo
theorem yW8(L:Nat):yKA.C (yPf L):=yKA.c (yW9) tN Tryz.func156 (by kernel_rfl) (lN _)
abbrev yKB:=fw1 100 (caC yMp caN) cdB
abbrev yQp(f1:yKA.T)(x0:yAE):Option Bool:=
 letI qk:=x0.Was==0
 letI qj:=f1 x0.Dead
 letI qi:=x0.By==x0.By
 letI qh:=x0.Serial==x0.Serial
 letI qe:=x0.Kind==x0.Kind
 letI qd:=qi&&(qh&&((x0.Dead==0)&&(qk&&((x0.Span.Lo==x0.Span.Lo)&&((x0.Span.Hi==x0.Span.Hi)&&((x0.Mode==0)&&true))))))
 letI qc:=qi&&(qh&&((x0.Dead==0)&&(qk&&((x0.Span.Lo==x0.Span.Lo)&&((x0.Span.Hi==x0.Span.Hi)&&((x0.Mode==x0.Mode)&&true))))))
 letI qb:=(x0.Span.Lo==0)&&((x0.Span.Hi==0)&&((x0.Mode==0)&&true))
 letI qg:=qi&&(qh&&((x0.Dead==x0.Dead)&&(qk&&qb)))
 letI qf:=qi&&(qh&&((x0.Dead==x0.Dead)&&((x0.Was==x0.Was)&&qb)))
 letI qa:=qe&&(qi&&(qh&&((x0.Dead==0)&&(qk&&qb))))
 bindO (f1 x0.By) fun r1=>
 bif !r1 then
 some false
 else
 bif decide (x0.Serial<1) then
 some false
 else
 bif decide (2147483648<x0.Serial) then
 some false
 else
 bif decide (0≤x0.Span.Lo) then
 bif decide (x0.Span.Lo≤x0.Span.Hi) then
 bif x0.Kind==0 then
 some qa
 else
 bif x0.Kind==1 then
 some qa
 else
 bif x0.Kind==2 then
 bif qe&&qc then
 bif decide (x0.Span.Hi<64) then
 bif x0.Mode==1 then
 some true
 else
 some (x0.Mode==2)
 else
 some false
 else
 some false
 else
 bif x0.Kind==3 then
 bif qe&&qd then
 some (decide (x0.Span.Hi<64))
 else
 some false
 else
 bif x0.Kind==4 then
 bif qe&&qf then
 bindO qj fun r2=>
 bif r2 then
 bif x0.Was==0 then
 some true
 else
 bindO (f1 x0.Was) fun r3=>
 some r3
 else
 some false
 else
 some false
 else
 bif x0.Kind==5 then
 bif qe&&qg then
 bindO qj fun r4=>
 some r4
 else
 some false
 else
 some false
 else
 bif x0.Kind==0 then
 some qa
 else
 bif x0.Kind==1 then
 some qa
 else
 bif x0.Kind==2 then
 bif qe&&qc then
 some false
 else
 some false
 else
 bif x0.Kind==3 then
 bif qe&&qd then
 some false
 else
 some false
 else
 bif x0.Kind==4 then
 bif qe&&qf then
 bindO qj fun r5=>
 bif r5 then
 bif x0.Was==0 then
 some true
 else
 bindO (f1 x0.Was) fun r6=>
 some r6
 else
 some false
 else
 some false
 else
 bif x0.Kind==5 then
 bif qe&&qg then
 bindO qj fun r7=>
 some r7
 else
 some false
 else
 some false
 else
 bif x0.Kind==0 then
 some qa
 else
 bif x0.Kind==1 then
 some qa
 else
 bif x0.Kind==2 then
 bif qe&&qc then
 some false
 else
 some false
 else
 bif x0.Kind==3 then
 bif qe&&qd then
 some false
 else
 some false
 else
 bif x0.Kind==4 then
 bif qe&&qf then
 bindO qj fun r8=>
 bif r8 then
 bif x0.Was==0 then
 some true
 else
 bindO (f1 x0.Was) fun r9=>
 some r9
 else
 some false
 else
 some false
 else
 bif x0.Kind==5 then
 bif qe&&qg then
 bindO qj fun r10=>
 some r10
 else
 some false
 else
 some false
theorem yXB(f1):yKB.Eq [yKA.s f1] .no (yQp f1):=fun _=>by kernel_rfl
def yPg(L:Nat):yKB.T:=yQp (yPf L)
theorem yXA(L:Nat):yKB.C (yPg L):=yKB.c (yXB (yPf L)) (tC (yW8 L).ent tN) Tryz.func100 (by kernel_rfl) (lN _)
abbrev yCh:=fw1 21 (caC yMp caN) (cdT (caC cdS (caC cI caN)))
abbrev yL4(f1:yKB.T)(f2:yCt.T)(x0:yAE):Option (ByteArray×Int×Unit):=
 letI qg:= [V.int .u8 (IntKind.u8.wrap x0.Span.Hi)]
 bindO (f1 x0) fun r1=>
 bif !r1 then
 some (noS,2,())
 else
 bindO (f2 ([[V.int .u8 (IntKind.u8.wrap x0.Kind)]]) 6 ([[V.int .i64 x0.By]])) fun r2=>
 gF r2.1 (0+r2.1.length)<|
 bindO (f2 (r2.1.take r2.1.length) 4 ([[V.int .i64 x0.Serial]])) fun r3=>
 letI qf:=r3.1.length+2
 letI qe:=r3.1.length+3
 letI qd:=0+r3.1.length
 letI qc:=r3.1.take r3.1.length
 letI qb:=r3.1++([[V.int .u8 (IntKind.u8.wrap x0.Span.Lo)],qg])
 letI qa:=r3.1++([[V.int .u8 (IntKind.u8.wrap x0.Span.Lo)],qg,[V.int .u8 (IntKind.u8.wrap x0.Mode)]])
 bif x0.Kind==2 then
 gd (Nat.beq qd r3.1.length)<|
 gM qe 1<|
 gd (Nat.ble (0+qe) (qa.length))<|
 gd ((bytesOf (qa.take qe)).isSome)<|
 some (bytesS (qa.take qe),0,())
 else
 bif x0.Kind==3 then
 gd (Nat.beq qd r3.1.length)<|
 gM qf 1<|
 gd (Nat.ble (0+qf) (qb.length))<|
 gd ((bytesOf (qb.take qf)).isSome)<|
 some (bytesS (qb.take qf),0,())
 else
 bif x0.Kind==4 then
 gF r3.1 qd<|
 bindO (f2 qc 6 ([[V.int .i64 x0.Dead],[V.int .i64 x0.Was]])) fun r4=>
 gd (Nat.ble (0+r4.1.length) r4.1.length)<|
 gd ((bytesOf (r4.1.take r4.1.length)).isSome)<|
 some (bytesS (r4.1.take r4.1.length),0,())
 else
 bif x0.Kind==5 then
 gF r3.1 qd<|
 bindO (f2 qc 6 ([[V.int .i64 x0.Dead]])) fun r5=>
 gd (Nat.ble (0+r5.1.length) r5.1.length)<|
 gd ((bytesOf (r5.1.take r5.1.length)).isSome)<|
 some (bytesS (r5.1.take r5.1.length),0,())
 else
 gd (Nat.ble qd r3.1.length)<|
 gd ((bytesOf qc).isSome)<|
 some (bytesS qc,0,())
theorem yVd(f1 f2):yCh.Eq [yKB.s f1,yCt.s f2] .no (yL4 f1 f2):=fun _=>by kernel_rfl
def yB6(L:Nat):yCh.T:=yL4 (yPg L) (yCA L)
theorem yOf(L:Nat):yCh.C (yB6 L):=yCh.c (yVd (yPg L) (yCA L)) (tC (yXA L).ent (tC (yN7 L).ent tN)) Tryz.func21 (by kernel_rfl) (lN _)
end Go.Proofs.YtakljpcmbpaeaaaGreat

namespace Go.Proofs.YtakljpcmbpaeaaaGreat
open Go.RowKit
set_option maxRecDepth 100000
set_option maxHeartbeats 16000000
abbrev yGf:=fw3 48 (caC yBx (caC cI (caC cI caN))) cdS
abbrev yRC(f1:yCh.T)(x0:yAA)(x1:Int)(x2:Int):Option ByteArray:=
 gI x0.Keys kI x1<|
 bindO (f1 (⟨0,aI x0.Keys x1.toNat 0,x2,0,0,yAG.z,0⟩:yAE)) fun r1=>
 some r1.1
theorem yVC(f1):yGf.Eq [yCh.s f1] .no (yRC f1):=fun _=>by kernel_rfl
def yQb(L:Nat):yGf.T:=yRC (yB6 L)
theorem yVB(L:Nat):yGf.C (yQb L):=yGf.c (yVC (yB6 L)) (tC (yOf L).ent tN) Tryz.func48 (by kernel_rfl) (lN _)
abbrev yGh:=fw0 37 caN cdB
abbrev yRD(f1:yEy.T)(f2:yGf.T)(f3:yDv.T)(f4:yCu.T)(f5:yJp.T):Option Bool:=
 letI qa:=(⟨1,1,1,1,3,8,1,2⟩:yAN)
 bindO (f1 qa) fun r1=>
 bif !r1.2.1 then
 some false
 else
 bindO (f2 r1.1 0 1) fun r2=>
 bindO (f3 qa 0 r2) fun r3=>
 bindO (f4 qa) fun r4=>
 bindO (f5 qa r1.1 r3.1 r4 0 99) fun r5=>
 bif r3.2.1==0 then
 bif r5.2.2.1==0 then
 bif r5.2.1.Over then
 bif r5.2.1.Acts==5 then
 bif r5.2.1.Done==1 then
 bif(r5.2.1.T.Slots.length:Int)==1 then
 gd (decide (0<(r5.2.1.T.Slots.length:Int)))<|
 gd (rowIs yAG.ks r5.2.1.T.Slots 0)<|
 gd (decide (0<(r1.1.Keys.length:Int)))<|
 gd (rowIs kI r1.1.Keys 0)<|
 bif(aI r5.2.1.T.Slots 0 0)==(aI r1.1.Keys 0 0) then
 bif(r5.1.S.length:Int)==(r1.1.S.length:Int) then
 some true
 else
 some false
 else
 some false
 else
 some false
 else
 some false
 else
 some false
 else
 some false
 else
 some false
 else
 some false
theorem yVG(f1 f2 f3 f4 f5):yGh.Eq [yEy.s f1,yGf.s f2,yDv.s f3,yCu.s f4,yJp.s f5] .no (yRD f1 f2 f3 f4 f5):=fun _=>by kernel_rfl
def yJm(L:Nat):yGh.T:=yRD (yJl L) (yQb L) (yHw L) (yCG L) (yTR L)
theorem yVF(L:Nat):yGh.C (yJm L):=yGh.c (yVG (yJl L) (yQb L) (yHw L) (yCG L) (yTR L)) (tC (ySC L).ent (tC (yVB L).ent (tC (yRE L).ent (tC (yOj L).ent (tC (yWs L).ent tN))))) Tryz.func37 (by kernel_rfl) (lN _)
abbrev yJK:=Int×yAC×Int×Unit
abbrev yMf:=Unit
abbrev yMg:=Int×Bool×Unit
abbrev yL5{α:Type}(s:yJK)(kn:yJK→Option α)(k0:yMf→Option α)(k1:yMg→Option α):Option α:=
 bif decide (s.2.2.1<(s.2.1.Slots.length:Int)) then
 bif decide (1≤s.1) then
 gI s.2.1.Slots yAG.ks s.2.2.1<|
 bif(aI s.2.1.Slots s.2.2.1.toNat 0)==s.1 then
 k1 (s.2.2.1,true,())
 else
 kn (s.1,s.2.1,w64 (s.2.2.1+1),())
 else
 kn (s.1,s.2.1,w64 (s.2.2.1+1),())
 else
 k0 (())
abbrev yJL:LW2 yJK yMf yMg:=⟨(lvC 1 (mP cI) (lvC 2 yDt (lvC 6 (mP cI) lvN))),(.exit 0),lvN,.ret,(lvC 4 (mP cI) (lvC 5 (mP cdB) lvN))⟩
theorem yTu{α:Type}:yJL.Eq (α:=α) [] Tryz.f31 [1,0,1,0] .no (yL5):=fun _ _ _=>by kernel_rfl
abbrev yE7:=fw2 31 (caC yCp (caC cI caN)) (cdT (caC cI (caC cdB caN)))
abbrev yPl(F0:LF2 yJK yMf yMg (Int×Bool×Unit))(x0:yAC)(x1:Int):Option (Int×Bool×Unit):=
 F0 (x1,x0,0,()) (fun q1=>
 some (0,false,())) (fun q2=>
 some (q2.1,q2.2.1,()))
theorem yWY(F0):yE7.Eq [] (.two .no (.two (.two .no (.one (.lp (yJL.s F0)))) .no)) (yPl F0):=fun _=>by kernel_rfl
def yKD(L:Nat):yE7.T:=yPl (loop2 (yL5) L)
theorem ySw{α:Type}(L:Nat):LO Tryz.f31 [1,0,1,0] (yJL.s (α:=α) (loop2 (yL5) L)):=yJL.k (yTu) tN (lN _) (by kernel_rfl) L
theorem ySH(L:Nat):yE7.C (yKD L):=yE7.c (yWY (loop2 (yL5) L)) tN Tryz.func31 (by kernel_rfl) (lS (lN _) (lS (lS (lN _) (lB (lL (ySw L)))) (lN _)))
abbrev yEX:=fw4 110 (caC yCS (caC yGW (caC cI (caC cI caN)))) cdS
abbrev yMK(f1:yE7.T)(f2:yCh.T)(x0:yAN)(x1:yAB)(x2:Int)(x3:Int):Option ByteArray:=
 letI qd:=f2 (⟨0,x2,x1.serial_,0,0,yAG.z,0⟩:yAE)
 letI qc:=IntKind.i64.wrap ((BitVec.ofInt IntKind.i64.bits (x3.fdiv (2^(min (2:Int).toNat IntKind.i64.bits))) &&& BitVec.ofInt IntKind.i64.bits 7).toNat:Int)
 letI qb:=IntKind.i64.wrap ((BitVec.ofInt IntKind.i64.bits x3 &&& BitVec.ofInt IntKind.i64.bits 3).toNat:Int)
 letI qa:=f2 (⟨2,x2,x1.serial_,0,0,(⟨qc.tmod x0.Blocks,qc.tmod x0.Blocks⟩:yAG),IntKind.i8.wrap qb⟩:yAE)
 bindO (f1 x1.t_ x2) fun r1=>
 bif qb==0 then
 bif r1.2.1 then
 bindO (f2 (⟨1,x2,x1.serial_,0,0,yAG.z,0⟩:yAE)) fun r2=>
 some r2.1
 else
 bindO qd fun r3=>
 some r3.1
 else
 bif qb==1 then
 bif r1.2.1 then
 gd (!(decide (x0.Blocks=0)))<|
 bindO qa fun r4=>
 some r4.1
 else
 bindO qd fun r5=>
 some r5.1
 else
 bif qb==2 then
 bif r1.2.1 then
 gd (!(decide (x0.Blocks=0)))<|
 bindO qa fun r6=>
 some r6.1
 else
 bindO qd fun r7=>
 some r7.1
 else
 bindO qd fun r8=>
 some r8.1
theorem yTM(f1 f2):yEX.Eq [yE7.s f1,yCh.s f2] .no (yMK f1 f2):=fun _=>by kernel_rfl
def yIo(L:Nat):yEX.T:=yMK (yKD L) (yB6 L)
theorem yTL(L:Nat):yEX.C (yIo L):=yEX.c (yTM (yKD L) (yB6 L)) (tC (ySH L).ent (tC (yOf L).ent tN)) Tryz.func110 (by kernel_rfl) (lN _)
abbrev yDP:=(List (List V))×(List (List V))×Int×Unit
abbrev yFq:=Unit
abbrev yFr:=Bool×Unit
abbrev yCy{α:Type}(s:yDP)(kn:yDP→Option α)(k0:yFq→Option α)(k1:yFr→Option α):Option α:=
 bif decide (s.2.2.1<(s.1.length:Int)) then
 gI s.1 kS s.2.2.1<|
 gI s.2.1 kS s.2.2.1<|
 bif !((aS s.1 s.2.2.1.toNat 0).toList==(aS s.2.1 s.2.2.1.toNat 0).toList) then
 k1 (false,())
 else
 kn (s.1,s.2.1,w64 (s.2.2.1+1),())
 else
 k0 (())
abbrev yDQ:LW2 yDP yFq yFr:=⟨(lvC 0 (mP cdR) (lvC 1 (mP cdR) (lvC 5 (mP cI) lvN))),(.exit 0),lvN,.ret,(lvC 4 (mP cdB) lvN)⟩
theorem yO0{α:Type}:yDQ.Eq (α:=α) [] Tryz.f164 [1,1,0,1,0] .no (yCy):=fun _ _ _=>by kernel_rfl
abbrev yCZ:=fw2 164 (caC cdR (caC cdR caN)) cdB
abbrev yH3(F0:LF2 yDP yFq yFr (Bool))(x0:List (List V))(x1:List (List V)):Option Bool:=
 bif(x0.length:Int) !=(x1.length:Int) then
 some false
 else
 F0 (x0,x1,0,()) (fun q1=>
 some true) (fun q2=>
 some q2.1)
theorem yQk(F0):yCZ.Eq [] (.two .no (.two .no (.two (.two .no (.one (.lp (yDQ.s F0)))) .no))) (yH3 F0):=fun _=>by kernel_rfl
def yEc(L:Nat):yCZ.T:=yH3 (loop2 (yCy) L)
theorem yOb{α:Type}(L:Nat):LO Tryz.f164 [1,1,0,1,0] (yDQ.s (α:=α) (loop2 (yCy) L)):=yDQ.k (yO0) tN (lN _) (by kernel_rfl) L
theorem yQj(L:Nat):yCZ.C (yEc L):=yCZ.c (yQk (loop2 (yCy) L)) tN Tryz.func164 (by kernel_rfl) (lS (lN _) (lS (lN _) (lS (lS (lN _) (lB (lL (yOb L)))) (lN _))))
abbrev yIv:=(List (List V))×(List (List V))×Int×Unit
abbrev yMO:=Unit
abbrev yMP:=Bool×Unit
abbrev yIu{α:Type}(s:yIv)(kn:yIv→Option α)(k0:yMO→Option α)(k1:yMP→Option α):Option α:=
 bif decide (s.2.2.1<(s.1.length:Int)) then
 gI s.1 kI s.2.2.1<|
 gI s.2.1 kI s.2.2.1<|
 bif(aI s.1 s.2.2.1.toNat 0) !=(aI s.2.1 s.2.2.1.toNat 0) then
 k1 (false,())
 else
 kn (s.1,s.2.1,w64 (s.2.2.1+1),())
 else
 k0 (())
abbrev yIw:LW2 yIv yMO yMP:=⟨(lvC 0 (mP cdR) (lvC 1 (mP cdR) (lvC 5 (mP cI) lvN))),(.exit 0),lvN,.ret,(lvC 4 (mP cdB) lvN)⟩
theorem yTY{α:Type}:yIw.Eq (α:=α) [] Tryz.f165 [1,1,0,1,0] .no (yIu):=fun _ _ _=>by kernel_rfl
abbrev yIL:=fw2 165 (caC cdR (caC cdR caN)) cdB
abbrev yPO(F0:LF2 yIv yMO yMP (Bool))(x0:List (List V))(x1:List (List V)):Option Bool:=
 bif(x0.length:Int) !=(x1.length:Int) then
 some false
 else
 F0 (x0,x1,0,()) (fun q1=>
 some true) (fun q2=>
 some q2.1)
theorem yV5(F0):yIL.Eq [] (.two .no (.two .no (.two (.two .no (.one (.lp (yIw.s F0)))) .no))) (yPO F0):=fun _=>by kernel_rfl
def yL9(L:Nat):yIL.T:=yPO (loop2 (yIu) L)
theorem ySe{α:Type}(L:Nat):LO Tryz.f165 [1,1,0,1,0] (yIw.s (α:=α) (loop2 (yIu) L)):=yIw.k (yTY) tN (lN _) (by kernel_rfl) L
theorem yV4(L:Nat):yIL.C (yL9 L):=yIL.c (yV5 (loop2 (yIu) L)) tN Tryz.func165 (by kernel_rfl) (lS (lN _) (lS (lN _) (lS (lS (lN _) (lB (lL (ySe L)))) (lN _))))
end Go.Proofs.YtakljpcmbpaeaaaGreat

namespace Go.Proofs.YtakljpcmbpaeaaaGreat
open Go.RowKit
set_option maxRecDepth 100000
set_option maxHeartbeats 16000000
abbrev yI9:=yAA×yAA×Int×Int×Unit
abbrev yMX:=yAA×yAA×Int×Unit
abbrev yMY:=Bool×Unit
abbrev yFN{α:Type}(s:yI9)(kn:yI9→Option α)(k0:yMX→Option α)(k1:yMY→Option α):Option α:=
 letI qd:=s.2.2.1
 letI qc:=s.2.2.2.1
 letI qb:=aR s.2.1.Cache qd.toNat 0
 letI qa:=aR s.1.Cache qd.toNat 0
 gI s.1.Cache kL qd<|
 bif decide (qc<(qa.length:Int)) then
 gI s.1.Cache kL qd<|
 gI qa yES.ks qc<|
 gI s.2.1.Cache kL qd<|
 gI qb yES.ks qc<|
 bif !(((aI qa qc.toNat 0)==(aI qb qc.toNat 0))&&(((aS qa qc.toNat 1).toList==(aS qb qc.toNat 1).toList)&&true)) then
 k1 (false,())
 else
 kn (s.1,s.2.1,qd,w64 (qc+1),())
 else
 k0 (s.1,s.2.1,qd,())
abbrev yJA:LW2 yI9 yMX yMY:=⟨(lvC 2 yAF (lvC 3 yAF (lvC 5 (mP cI) (lvC 6 (mP cI) lvN)))),(.exit 2),(lvC 2 yAF (lvC 3 yAF (lvC 5 (mP cI) lvN))),.ret,(lvC 4 (mP cdB) lvN)⟩
theorem yTl{α:Type}:yJA.Eq (α:=α) [] Tryz.f112 [1,1,0,1,0,0,1,0,0,1,1,0] .no (yFN):=fun _ _ _=>by kernel_rfl
abbrev yI7:=yAA×yAA×Int×Unit
abbrev yMV:=Unit
abbrev yMW:=Bool×Unit
abbrev yI6{α:Type}(F1:LF2 yI9 yMX yMY α)(s:yI7)(kn:yI7→Option α)(k0:yMV→Option α)(k1:yMW→Option α):Option α:=
 bif decide (s.2.2.1<(s.1.Cache.length:Int)) then
 gI s.1.Cache kL s.2.2.1<|
 gI s.2.1.Cache kL s.2.2.1<|
 bif((aR s.1.Cache s.2.2.1.toNat 0).length:Int) !=((aR s.2.1.Cache s.2.2.1.toNat 0).length:Int) then
 k1 (false,())
 else
 F1 (s.1,s.2.1,s.2.2.1,0,()) (fun q1=>
 kn (q1.1,q1.2.1,w64 (q1.2.2.1+1),())) (fun q2=>
 k1 (q2.1,()))
 else
 k0 (())
abbrev yI8:LW2 yI7 yMV yMW:=⟨(lvC 2 yAF (lvC 3 yAF (lvC 5 (mP cI) lvN))),(.exit 0),lvN,.ret,(lvC 4 (mP cdB) lvN)⟩
theorem yTk{α:Type}(F1):yI8.Eq (α:=α) [] Tryz.f112 [1,1,0,1,0] (.two .no (.two (.one (.two .no (.two .no (.one (.lp (yJA.s F1)))))) .no)) (yI6 F1):=fun _ _ _=>by kernel_rfl
abbrev yIU:=fw2 112 (caC yBx (caC yBx caN)) cdB
abbrev yPa(f1:yCZ.T)(f2:yIL.T)(F0:LF2 yI7 yMV yMW (Bool))(x0:yAA)(x1:yAA):Option Bool:=
 bindO (f1 x0.S x1.S) fun r1=>
 bif !r1 then
 some false
 else
 bif(x0.Cache.length:Int) !=(x1.Cache.length:Int) then
 some false
 else
 bindO (f2 x0.Keys x1.Keys) fun r2=>
 bif !r2 then
 some false
 else
 bif x0.Next !=x1.Next then
 some false
 else
 bindO (f2 x0.Fenced x1.Fenced) fun r3=>
 bif !r3 then
 some false
 else
 F0 (x0,x1,0,()) (fun q4=>
 some true) (fun q5=>
 some q5.1)
theorem yWM(f1 f2 F0):yIU.Eq [yCZ.s f1,yIL.s f2] (.two .no (.two .no (.two (.two .no (.one (.lp (yI8.s F0)))) .no))) (yPa f1 f2 F0):=fun _=>by kernel_rfl
def yNi(L:Nat):yIU.T:=yPa (yEc L) (yL9 L) (loop2 (yI6 (loop2 (yFN) L)) L)
theorem ySn{α:Type}(L:Nat):LO Tryz.f112 [1,1,0,1,0,0,1,0,0,1,1,0] (yJA.s (α:=α) (loop2 (yFN) L)):=yJA.k (yTl) tN (lN _) (by kernel_rfl) L
theorem ySm{α:Type}(L:Nat):LO Tryz.f112 [1,1,0,1,0] (yI8.s (α:=α) (loop2 (yI6 (loop2 (yFN) L)) L)):=yI8.k (yTk (loop2 (yFN) L)) tN (lS (lN _) (lS (lB (lS (lN _) (lS (lN _) (lB (lL (ySn L)))))) (lN _))) (by kernel_rfl) L
theorem yWL(L:Nat):yIU.C (yNi L):=yIU.c (yWM (yEc L) (yL9 L) (loop2 (yI6 (loop2 (yFN) L)) L)) (tC (yQj L).ent (tC (yV4 L).ent tN)) Tryz.func112 (by kernel_rfl) (lS (lN _) (lS (lN _) (lS (lS (lN _) (lB (lL (ySm L)))) (lN _))))
abbrev yJj:=fw5 40 (caC yCS (caC yBx (caC yGW (caC cI (caC cI caN))))) (cdT (caC yBx (caC yGW (caC cdB caN))))
abbrev yJi(f1:yEX.T)(f2:yDv.T)(f3:yE2.T)(f4:yIT.T)(f5:yE0.T)(f6:yIU.T)(x0:yAN)(x1:yAA)(x2:yAB)(x3:Int)(x4:Int):Option (yAA×yAB×Bool×Unit):=
 bif !x2.on_ then
 gI x1.Keys kI x3<|
 bindO (f1 x0 ({x2 with serial_:=w64 (x2.serial_+1)}) (aI x1.Keys x3.toNat 0) x4) fun r1=>
 bindO (f2 x0 x3 r1) fun r2=>
 some (x1,(⟨x2.t_,x2.done_,w64 (x2.serial_+1),true,r2.1⟩:yAB),r2.2.1==0,())
 else
 bindO (f3 x0 x2.p_ x2.done_) fun r3=>
 bif r3.2.1 !=0 then
 some (x1,{x2 with on_:=false },r3.2.1==150,())
 else
 bindO (f4 x1 x3 r3.1) fun r4=>
 bif r4.2.2.1 !=0 then
 some (x1,x2,false,())
 else
 bindO (f5 x0 x2.p_ x2.t_ x2.done_ r4.2.1) fun r5=>
 letI qa:=(⟨r5.2.1,r5.2.2.1,x2.serial_,!r5.2.2.2.1,r5.1⟩:yAB)
 bif r5.2.2.2.2.1 !=0 then
 bif r5.2.2.2.2.1==150 then
 bindO (f6 r4.1 x1) fun r6=>
 some (r4.1,{x2 with on_:=false },r6,())
 else
 some (r4.1,{x2 with on_:=false },false,())
 else
 bif !r5.2.2.2.1 then
 some (r4.1,qa,true,())
 else
 some (r4.1,qa,r5.1.At==0,())
theorem yWo(f1 f2 f3 f4 f5 f6):yJj.Eq [yEX.s f1,yDv.s f2,yE2.s f3,yIT.s f4,yE0.s f5,yIU.s f6] .no (yJi f1 f2 f3 f4 f5 f6):=fun _=>by kernel_rfl
def yCl(L:Nat):yJj.T:=yJi (yIo L) (yHw L) (yBf L) (yDz L) (yBi L) (yNi L)
theorem yWn(L:Nat):yJj.C (yCl L):=yJj.c (yWo (yIo L) (yHw L) (yBf L) (yDz L) (yBi L) (yNi L)) (tC (yTL L).ent (tC (yRE L).ent (tC (ySE L).ent (tC (yUv L).ent (tC (ySD L).ent (tC (yWL L).ent tN)))))) Tryz.func40 (by kernel_rfl) (lN _)
abbrev yGN:=fw2 23 (caC yCS (caC cI caN)) cI
abbrev yQg(f1:yBl.T)(f2:yDe.T)(x0:yAN)(x1:Int):Option Int:=
 bindO (f1 x0) fun r1=>
 bif !r1 then
 some (-1)
 else
 bindO (f2 x1 0 (w64 (x0.Log-1))) fun r2=>
 bif !r2 then
 some (-1)
 else
 some (w64 ((w64 (1+(w64 (2*x0.Nodes))))+x1))
theorem yW2(f1 f2):yGN.Eq [yBl.s f1,yDe.s f2] .no (yQg f1 f2):=fun _=>by kernel_rfl
def yFW(L:Nat):yGN.T:=yQg (yCT L) (yI5 L)
theorem yTj(L:Nat):yGN.C (yFW L):=yGN.c (yW2 (yCT L) (yI5 L)) (tC (yHx L).ent (tC (yPy L).ent tN)) Tryz.func23 (by kernel_rfl) (lN _)
abbrev yEQ:=(List (List V))×(List (List V))×Int×Unit
abbrev yG7:=Unit
abbrev yG8:=Bool×Unit
abbrev yD0{α:Type}(s:yEQ)(kn:yEQ→Option α)(k0:yG7→Option α)(k1:yG8→Option α):Option α:=
 letI qa:=s.2.2.1
 bif decide (qa<(s.1.length:Int)) then
 gI s.1 yAI.ks qa<|
 gI s.2.1 yAI.ks qa<|
 bif !(((aI s.1 qa.toNat 0)==(aI s.2.1 qa.toNat 0))&&(((aI s.1 qa.toNat 1)==(aI s.2.1 qa.toNat 1))&&(((aI s.1 qa.toNat 2)==(aI s.2.1 qa.toNat 2))&&(((aI s.1 qa.toNat 3)==(aI s.2.1 qa.toNat 3))&&true)))) then
 k1 (false,())
 else
 kn (s.1,s.2.1,w64 (qa+1),())
 else
 k0 (())
abbrev yER:LW2 yEQ yG7 yG8:=⟨(lvC 0 (mP cdR) (lvC 1 (mP cdR) (lvC 5 (mP cI) lvN))),(.exit 0),lvN,.ret,(lvC 4 (mP cdB) lvN)⟩
theorem yQB{α:Type}:yER.Eq (α:=α) [] Tryz.f104 [1,1,0,1,0] .no (yD0):=fun _ _ _=>by kernel_rfl
abbrev yDE:=fw2 104 (caC cdR (caC cdR caN)) cdB
abbrev yKC(F0:LF2 yEQ yG7 yG8 (Bool))(x0:List (List V))(x1:List (List V)):Option Bool:=
 bif(x0.length:Int) !=(x1.length:Int) then
 some false
 else
 F0 (x0,x1,0,()) (fun q1=>
 some true) (fun q2=>
 some q2.1)
theorem yRz(F0):yDE.Eq [] (.two .no (.two .no (.two (.two .no (.one (.lp (yER.s F0)))) .no))) (yKC F0):=fun _=>by kernel_rfl
def yGQ(L:Nat):yDE.T:=yKC (loop2 (yD0) L)
theorem yPj{α:Type}(L:Nat):LO Tryz.f104 [1,1,0,1,0] (yER.s (α:=α) (loop2 (yD0) L)):=yER.k (yQB) tN (lN _) (by kernel_rfl) L
theorem yRy(L:Nat):yDE.C (yGQ L):=yDE.c (yRz (loop2 (yD0) L)) tN Tryz.func104 (by kernel_rfl) (lS (lN _) (lS (lN _) (lS (lS (lN _) (lB (lL (yPj L)))) (lN _))))
abbrev yJI:=yAC×yAC×Int×Unit
abbrev yMd:=Unit
abbrev yMe:=Bool×Unit
abbrev yJH{α:Type}(s:yJI)(kn:yJI→Option α)(k0:yMd→Option α)(k1:yMe→Option α):Option α:=
 bif decide (s.2.2.1<(s.1.Slots.length:Int)) then
 gI s.1.Slots yAG.ks s.2.2.1<|
 gI s.2.1.Slots yAG.ks s.2.2.1<|
 bif !(((aI s.1.Slots s.2.2.1.toNat 0)==(aI s.2.1.Slots s.2.2.1.toNat 0))&&(((aI s.1.Slots s.2.2.1.toNat 1)==(aI s.2.1.Slots s.2.2.1.toNat 1))&&true)) then
 k1 (false,())
 else
 kn (s.1,s.2.1,w64 (s.2.2.1+1),())
 else
 k0 (())
abbrev yJJ:LW2 yJI yMd yMe:=⟨(lvC 2 yDt (lvC 3 yDt (lvC 5 (mP cI) lvN))),(.exit 0),lvN,.ret,(lvC 4 (mP cdB) lvN)⟩
theorem yTt{α:Type}:yJJ.Eq (α:=α) [] Tryz.f29 [1,1,0,1,0] .no (yJH):=fun _ _ _=>by kernel_rfl
abbrev yIa:=fw2 29 (caC yCp (caC yCp caN)) cdB
abbrev yPk(f1:yDE.T)(F0:LF2 yJI yMd yMe (Bool))(x0:yAC)(x1:yAC):Option Bool:=
 bif(x0.Slots.length:Int) !=(x1.Slots.length:Int) then
 some false
 else
 bindO (f1 x0.Holds x1.Holds) fun r1=>
 bif !r1 then
 some false
 else
 bindO (f1 x0.Queue x1.Queue) fun r2=>
 bif !r2 then
 some false
 else
 F0 (x0,x1,0,()) (fun q3=>
 some true) (fun q4=>
 some q4.1)
theorem yWX(f1 F0):yIa.Eq [yDE.s f1] (.two .no (.two .no (.two (.two .no (.one (.lp (yJJ.s F0)))) .no))) (yPk f1 F0):=fun _=>by kernel_rfl
def yNk(L:Nat):yIa.T:=yPk (yGQ L) (loop2 (yJH) L)
theorem ySv{α:Type}(L:Nat):LO Tryz.f29 [1,1,0,1,0] (yJJ.s (α:=α) (loop2 (yJH) L)):=yJJ.k (yTt) tN (lN _) (by kernel_rfl) L
theorem yWW(L:Nat):yIa.C (yNk L):=yIa.c (yWX (yGQ L) (loop2 (yJH) L)) (tC (yRy L).ent tN) Tryz.func29 (by kernel_rfl) (lS (lN _) (lS (lN _) (lS (lS (lN _) (lB (lL (ySv L)))) (lN _))))
end Go.Proofs.YtakljpcmbpaeaaaGreat

namespace Go.Proofs.YtakljpcmbpaeaaaGreat
open Go.RowKit
set_option maxRecDepth 100000
set_option maxHeartbeats 16000000
abbrev yKe:=ByteArray×Int×Int×Int×Unit
abbrev yNF:=Int×Unit
abbrev yGJ{α:Type}(s:yKe)(kn:yKe→Option α)(k0:yNF→Option α):Option α:=
 bif decide (0≤s.2.2.2.1) then
 gB (w64 (s.2.1+s.2.2.2.1)) s.1.size<|
 kn (s.1,s.2.1,w64 ((w64 (s.2.2.1*256))+(w64 (((s.1[(w64 (s.2.1+s.2.2.2.1)).toNat]?).getD 0).toNat:Int))),w64 (s.2.2.2.1-1),())
 else
 k0 (s.2.2.1,())
abbrev yKf:LW1 yKe yNF:=⟨(lvC 0 (mP cdS) (lvC 1 (mP cI) (lvC 8 (mP cI) (lvC 9 (mP cI) lvN)))),(.exit 0),(lvC 8 (mP cI) lvN)⟩
theorem yUM{α:Type}:yKf.Eq (α:=α) [] Tryz.f117 [1,1,1,1,0,1,0] .no (yGJ):=fun _ _ _=>by kernel_rfl
abbrev yGK:=fw3 117 (caC cdS (caC cI (caC cI caN))) (cdT (caC cI (caC cI caN)))
abbrev yQc(f1:yCQ.T)(F0:LF1 yKe yNF (Int×Int×Unit))(x0:ByteArray)(x1:Int)(x2:Int):Option (Int×Int×Unit):=
 bindO (f1 x2) fun r1=>
 bif decide (r1<0) then
 some (0,2,())
 else
 bif decide (x1<0) then
 some (0,10,())
 else
 bif decide ((x0.size:Int)<x1) then
 some (0,10,())
 else
 bif decide (w64 ((x0.size:Int)-x1)<x2) then
 some (0,10,())
 else
 F0 (x0,x1,0,w64 (x2-1),()) (fun q2=>
 bif decide (1099511627776<q2.1) then
 some (0,10,())
 else
 some (q2.1,0,()))
theorem yWu(f1 F0):yGK.Eq [yCQ.s f1] (.two .no (.two .no (.two .no (.two .no (.two (.two .no (.one (.lp (yKf.s F0)))) .no))))) (yQc f1 F0):=fun _=>by kernel_rfl
def yDx(L:Nat):yGK.T:=yQc (yEa L) (loop1 (yGJ) L)
theorem yTW{α:Type}(L:Nat):LO Tryz.f117 [1,1,1,1,0,1,0] (yKf.s (α:=α) (loop1 (yGJ) L)):=yKf.k (yUM) tN (lN _) (by kernel_rfl) L
theorem yTX(L:Nat):yGK.C (yDx L):=yGK.c (yWu (yEa L) (loop1 (yGJ) L)) (tC (yMz L).ent tN) Tryz.func117 (by kernel_rfl) (lS (lN _) (lS (lN _) (lS (lN _) (lS (lN _) (lS (lS (lN _) (lB (lL (yTW L)))) (lN _))))))
abbrev yKl:=ByteArray×Int×(List (List V))×Int×Unit
abbrev yNI:=(List (List V))×Unit
abbrev yNJ:=(List (List V))×Int×Unit
abbrev yMy{α:Type}(f1:yGK.T)(s:yKl)(kn:yKl→Option α)(k0:yNI→Option α)(k1:yNJ→Option α):Option α:=
 letI qa:=s.2.2.1
 bif decide (s.2.2.2.1<(s.1.size:Int)) then
 bindO (f1 s.1 s.2.2.2.1 s.2.1) fun r1=>
 bif r1.2.1 !=0 then
 k1 ([],r1.2.1,())
 else
 gd (Nat.beq (0+qa.length) qa.length)<|
 gM (qa.length+1) 8<|
 gA (qa++([[V.int .i64 r1.1]])) (qa.length+1)<|
 kn (s.1,s.2.1,qa++([[V.int .i64 r1.1]]),w64 (s.2.2.2.1+s.2.1),())
 else
 gA qa qa.length<|
 k0 (qa,())
abbrev yKm:LW2 yKl yNI yNJ:=⟨(lvC 0 (mP cdS) (lvC 1 (mP cI) (lvC 6 (mA 1) (lvC 7 (mP cI) lvN)))),(.exit 0),(lvC 6 (mA 1) lvN),.ret,(lvC 4 (mP cdR) (lvC 5 (mP cI) lvN))⟩
theorem yUP{α:Type}(f1):yKm.Eq (α:=α) [yGK.s f1] Tryz.f93 [1,1,1,0,1,0] .no (yMy f1):=fun _ _ _=>by kernel_rfl
abbrev yJq:=fw2 93 (caC cdS (caC cI caN)) (cdT (caC cdR (caC cI caN)))
abbrev yTd(f1:yCQ.T)(F0:LF2 yKl yNI yNJ ((List (List V))×Int×Unit))(x0:ByteArray)(x1:Int):Option ((List (List V))×Int×Unit):=
 bindO (f1 x1) fun r1=>
 bif decide (r1<0) then
 some ([],2,())
 else
 F0 (x0,x1,[],0,()) (fun q2=>
 gF q2.1 (0+q2.1.length)<|
 some (q2.1.take q2.1.length,0,())) (fun q3=>
 some (q3.1,q3.2.1,()))
theorem yWx(f1 F0):yJq.Eq [yCQ.s f1] (.two .no (.two .no (.two .no (.two (.two .no (.one (.lp (yKm.s F0)))) .no)))) (yTd f1 F0):=fun _=>by kernel_rfl
def yTb(L:Nat):yJq.T:=yTd (yEa L) (loop2 (yMy (yDx L)) L)
theorem yTc{α:Type}(L:Nat):LO Tryz.f93 [1,1,1,0,1,0] (yKm.s (α:=α) (loop2 (yMy (yDx L)) L)):=yKm.k (yUP (yDx L)) (tC (yTX L).ent tN) (lN _) (by kernel_rfl) L
theorem yWw(L:Nat):yJq.C (yTb L):=yJq.c (yWx (yEa L) (loop2 (yMy (yDx L)) L)) (tC (yMz L).ent tN) Tryz.func93 (by kernel_rfl) (lS (lN _) (lS (lN _) (lS (lN _) (lS (lS (lN _) (lB (lL (yTc L)))) (lN _)))))
end Go.Proofs.YtakljpcmbpaeaaaGreat
