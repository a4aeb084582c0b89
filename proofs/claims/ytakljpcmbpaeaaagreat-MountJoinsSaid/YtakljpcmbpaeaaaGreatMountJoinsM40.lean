/- Typed functions. (printed by wip/sx) -/
import Derived.Test.YtakljpcmbpaeaaaGreatMountJoinsM36
import Derived.Test.YtakljpcmbpaeaaaGreatMountJoinsM39
set_option linter.unusedSimpArgs false
set_option linter.unusedVariables false
namespace Go.Proofs.YtakljpcmbpaeaaaGreat
open Go.RowKit
set_option maxRecDepth 100000
set_option maxHeartbeats 16000000
abbrev yKy:=fw1 100 (caC yNy caN) cdB
abbrev yTB(f1:yKx.T)(x0:yAI):Option Bool:=
 letI qk:=x0.Was==0
 letI qj:=f1 x0.Dead
 letI qi:=x0.By==x0.By
 letI qh:=x0.Serial==x0.Serial
 letI qe:=x0.Kind==x0.Kind
 letI qd:=qi&&(qh&&((x0.Dead==0)&&(qk&&((x0.Span.Lo==x0.Span.Lo)&&((x0.Span.Hi==x0.Span.Hi)&&((x0.Mode==0)&&true))))))
 letI qc:=qi&&(qh&&((x0.Dead==0)&&(qk&&((x0.Span.Lo==x0.Span.Lo)&&((x0.Span.Hi==x0.Span.Hi)&&((x0.Mode==x0.Mode)&&true))))))
 letI qb:=(x0.Span.Lo==0)&&((x0.Span.Hi==0)&&((x0.Mode==0)&&true))
 letI qg:=qi&&(qh&&((x0.Dead==x0.Dead)&&(qk&&qb)))
 letI qf:=qi&&(qh&&((x0.Dead==x0.Dead)&&((x0.Was==x0.Was)&&qb)))
 letI qa:=qe&&(qi&&(qh&&((x0.Dead==0)&&(qk&&qb))))
 yAA (f1 x0.By) fun r1=>
 bif !r1 then
 some false
 else
 bif decide (x0.Serial<1) then
 some false
 else
 bif decide (2147483648<x0.Serial) then
 some false
 else
 bif decide (0<=x0.Span.Lo) then
 bif decide (x0.Span.Lo<=x0.Span.Hi) then
 bif x0.Kind==0 then
 some qa
 else
 bif x0.Kind==1 then
 some qa
 else
 bif x0.Kind==2 then
 bif qe&&qc then
 bif decide (x0.Span.Hi<64) then
 bif x0.Mode==1 then
 some true
 else
 some (x0.Mode==2)
 else
 some false
 else
 some false
 else
 bif x0.Kind==3 then
 bif qe&&qd then
 some (decide (x0.Span.Hi<64))
 else
 some false
 else
 bif x0.Kind==4 then
 bif qe&&qf then
 yAA qj fun r2=>
 bif r2 then
 bif x0.Was==0 then
 some true
 else
 yAA (f1 x0.Was) fun r3=>
 some r3
 else
 some false
 else
 some false
 else
 bif x0.Kind==5 then
 bif qe&&qg then
 yAA qj fun r4=>
 some r4
 else
 some false
 else
 some false
 else
 bif x0.Kind==0 then
 some qa
 else
 bif x0.Kind==1 then
 some qa
 else
 bif x0.Kind==2 then
 bif qe&&qc then
 some false
 else
 some false
 else
 bif x0.Kind==3 then
 bif qe&&qd then
 some false
 else
 some false
 else
 bif x0.Kind==4 then
 bif qe&&qf then
 yAA qj fun r5=>
 bif r5 then
 bif x0.Was==0 then
 some true
 else
 yAA (f1 x0.Was) fun r6=>
 some r6
 else
 some false
 else
 some false
 else
 bif x0.Kind==5 then
 bif qe&&qg then
 yAA qj fun r7=>
 some r7
 else
 some false
 else
 some false
 else
 bif x0.Kind==0 then
 some qa
 else
 bif x0.Kind==1 then
 some qa
 else
 bif x0.Kind==2 then
 bif qe&&qc then
 some false
 else
 some false
 else
 bif x0.Kind==3 then
 bif qe&&qd then
 some false
 else
 some false
 else
 bif x0.Kind==4 then
 bif qe&&qf then
 yAA qj fun r8=>
 bif r8 then
 bif x0.Was==0 then
 some true
 else
 yAA (f1 x0.Was) fun r9=>
 some r9
 else
 some false
 else
 some false
 else
 bif x0.Kind==5 then
 bif qe&&qg then
 yAA qj fun r10=>
 some r10
 else
 some false
 else
 some false
theorem xFL(f1):yKy.Eq [yKx.s f1] .no (yTB f1):=fun _=>by kernel_rfl
def yRc(L:Nat):yKy.T:=yTB (yRb L)
theorem xFK(L:Nat):yKy.C (yRc L):=yKy.c (xFL (yRb L)) (tC (xFI L).ent tN) Tryz.func100 (by kernel_rfl) (lN _)
abbrev yEG:=fw1 21 (caC yNy caN) (cdT (caC cdS (caC cI caN)))
abbrev yHW(f1:yKy.T)(f2:yDK.T)(x0:yAI):Option (ByteArray×Int×Unit):=
 letI qg:= [V.int .u8 (IntKind.u8.wrap x0.Span.Hi)]
 yAA (f1 x0) fun r1=>
 bif !r1 then
 some (noS,2,())
 else
 yAA (f2 ([[V.int .u8 (IntKind.u8.wrap x0.Kind)]]) 6 ([[V.int .i64 x0.By]])) fun r2=>
 gF r2.1 (0+r2.1.length)<|
 yAA (f2 (r2.1.take r2.1.length) 4 ([[V.int .i64 x0.Serial]])) fun r3=>
 letI qf:=r3.1.length+2
 letI qe:=r3.1.length+3
 letI qd:=0+r3.1.length
 letI qc:=r3.1.take r3.1.length
 letI qb:=r3.1++([[V.int .u8 (IntKind.u8.wrap x0.Span.Lo)],qg])
 letI qa:=r3.1++([[V.int .u8 (IntKind.u8.wrap x0.Span.Lo)],qg,[V.int .u8 (IntKind.u8.wrap x0.Mode)]])
 bif x0.Kind==2 then
 gd (Nat.beq qd r3.1.length)<|
 gM qe 1<|
 gd (Nat.ble (0+qe) (qa.length))<|
 gd ((bytesOf (qa.take qe)).isSome)<|
 some (yHk (qa.take qe),0,())
 else
 bif x0.Kind==3 then
 gd (Nat.beq qd r3.1.length)<|
 gM qf 1<|
 gd (Nat.ble (0+qf) (qb.length))<|
 gd ((bytesOf (qb.take qf)).isSome)<|
 some (yHk (qb.take qf),0,())
 else
 bif x0.Kind==4 then
 gF r3.1 qd<|
 yAA (f2 qc 6 ([[V.int .i64 x0.Dead],[V.int .i64 x0.Was]])) fun r4=>
 gd (Nat.ble (0+r4.1.length) r4.1.length)<|
 gd ((bytesOf (r4.1.take r4.1.length)).isSome)<|
 some (yHk (r4.1.take r4.1.length),0,())
 else
 bif x0.Kind==5 then
 gF r3.1 qd<|
 yAA (f2 qc 6 ([[V.int .i64 x0.Dead]])) fun r5=>
 gd (Nat.ble (0+r5.1.length) r5.1.length)<|
 gd ((bytesOf (r5.1.take r5.1.length)).isSome)<|
 some (yHk (r5.1.take r5.1.length),0,())
 else
 gd (Nat.ble qd r3.1.length)<|
 gd ((bytesOf qc).isSome)<|
 some (yHk qc,0,())
theorem xBd(f1 f2):yEG.Eq [yKy.s f1,yDK.s f2] .no (yHW f1 f2):=fun _=>by kernel_rfl
def yCE(L:Nat):yEG.T:=yHW (yRc L) (yCX L)
theorem yUV(L:Nat):yEG.C (yCE L):=yEG.c (xBd (yRc L) (yCX L)) (tC (xFK L).ent (tC (yPZ L).ent tN)) Tryz.func21 (by kernel_rfl) (lN _)
abbrev yLU:=ByteArray×Int×Int×Int×Unit
abbrev yOP:=Int×Unit
abbrev yGj{α:Type}(s:yLU)(kn:yLU->Option α)(k0:yOP->Option α):Option α:=
 bif decide (0<=s.2.2.2.1) then
 gB (w64 (s.2.1+s.2.2.2.1)) s.1.size<|
 kn (s.1,s.2.1,w64 ((w64 (s.2.2.1*256))+(w64 (((s.1[(w64 (s.2.1+s.2.2.2.1)).toNat]?).getD 0).toNat:Int))),w64 (s.2.2.2.1-1),())
 else
 k0 (s.2.2.1,())
abbrev yLV:LW1 yLU yOP:=⟨(lvC 0 (mP cdS) (lvC 1 (mP cI) (lvC 8 (mP cI) (lvC 9 (mP cI) lvN)))),(.exit 0),(lvC 8 (mP cI) lvN)⟩
theorem yZN{α:Type}:yLV.Eq (α:=α) [] Tryz.f117 [1,1,1,1,0,1,0] .no (yGj):=fun _ _ _=>by kernel_rfl
abbrev yEY:=fw3 117 (caC cdS (caC cI (caC cI caN))) (cdT (caC cI (caC cI caN)))
abbrev yS0(f1:yCm.T)(F0:LF1 yLU yOP (Int×Int×Unit))(x0:ByteArray)(x1:Int)(x2:Int):Option (Int×Int×Unit):=
 yAA (f1 x2) fun r1=>
 bif decide (r1<0) then
 some (0,2,())
 else
 bif decide (x1<0) then
 some (0,10,())
 else
 bif decide ((x0.size:Int)<x1) then
 some (0,10,())
 else
 bif decide (w64 ((x0.size:Int)-x1)<x2) then
 some (0,10,())
 else
 F0 (x0,x1,0,w64 (x2-1),()) (fun q2=>
 bif decide (1099511627776<q2.1) then
 some (0,10,())
 else
 some (q2.1,0,()))
theorem xE4(f1 F0):yEY.Eq [yCm.s f1] (.two .no (.two .no (.two .no (.two .no (.two (.two .no (.one (.lp (yLV.s F0)))) .no))))) (yS0 f1 F0):=fun _=>by kernel_rfl
def yAv(L:Nat):yEY.T:=yS0 (yEv L) (yBV (yGj) L)
theorem yYD{α:Type}(L:Nat):LO Tryz.f117 [1,1,1,1,0,1,0] (yLV.s (α:=α) (yBV (yGj) L)):=yLV.k (yZN) tN (lN _) (by kernel_rfl) L
theorem ySz(L:Nat):yEY.C (yAv L):=yEY.c (xE4 (yEv L) (yBV (yGj) L)) (tC (yN8 L).ent tN) Tryz.func117 (by kernel_rfl) (lS (lN _) (lS (lN _) (lS (lN _) (lS (lN _) (lS (lS (lN _) (lB (lL (yYD L)))) (lN _))))))
set_option maxRecDepth 100000
set_option maxHeartbeats 16000000
abbrev yLb:=ByteArray×Int×(List (List V))×Int×Unit
abbrev yH3:=(List (List V))×Unit
abbrev yOS:=(List (List V))×Int×Unit
abbrev yCD{α:Type}(f1:yEY.T)(s:yLb)(kn:yLb->Option α)(k0:yH3->Option α)(k1:yOS->Option α):Option α:=
 letI qa:=s.2.2.1
 bif decide (s.2.2.2.1<(s.1.size:Int)) then
 yAA (f1 s.1 s.2.2.2.1 s.2.1) fun r1=>
 bif r1.2.1 !=0 then
 k1 ([],r1.2.1,())
 else
 gd (Nat.beq (0+qa.length) qa.length)<|
 gM (qa.length+1) 8<|
 gA (qa++([[V.int .i64 r1.1]])) (qa.length+1)<|
 kn (s.1,s.2.1,qa++([[V.int .i64 r1.1]]),w64 (s.2.2.2.1+s.2.1),())
 else
 gA qa qa.length<|
 k0 (qa,())
abbrev yLc:LW2 yLb yH3 yOS:=⟨(lvC 0 (mP cdS) (lvC 1 (mP cI) (lvC 6 (mA 1) (lvC 7 (mP cI) lvN)))),(.exit 0),(lvC 6 (mA 1) lvN),.ret,(lvC 4 (mP cdR) (lvC 5 (mP cI) lvN))⟩
theorem yZQ{α:Type}(f1):yLc.Eq (α:=α) [yEY.s f1] Tryz.f93 [1,1,1,0,1,0] .no (yCD f1):=fun _ _ _=>by kernel_rfl
abbrev yKc:=fw2 93 (caC cdS (caC cI caN)) (cdT (caC cdR (caC cI caN)))
abbrev yPa(f1:yCm.T)(F0:LF2 yLb yH3 yOS ((List (List V))×Int×Unit))(x0:ByteArray)(x1:Int):Option ((List (List V))×Int×Unit):=
 yAA (f1 x1) fun r1=>
 bif decide (r1<0) then
 some ([],2,())
 else
 F0 (x0,x1,[],0,()) (fun q2=>
 gF q2.1 (0+q2.1.length)<|
 some (q2.1.take q2.1.length,0,())) (fun q3=>
 some (q3.1,q3.2.1,()))
theorem xE7(f1 F0):yKc.Eq [yCm.s f1] (.two .no (.two .no (.two .no (.two (.two .no (.one (.lp (yLc.s F0)))) .no)))) (yPa f1 F0):=fun _=>by kernel_rfl
def yNW(L:Nat):yKc.T:=yPa (yEv L) (yAQ (yCD (yAv L)) L)
theorem yYG{α:Type}(L:Nat):LO Tryz.f93 [1,1,1,0,1,0] (yLc.s (α:=α) (yAQ (yCD (yAv L)) L)):=yLc.k (yZQ (yAv L)) (tC (ySz L).ent tN) (lN _) (by kernel_rfl) L
theorem xE6(L:Nat):yKc.C (yNW L):=yKc.c (xE7 (yEv L) (yAQ (yCD (yAv L)) L)) (tC (yN8 L).ent tN) Tryz.func93 (by kernel_rfl) (lS (lN _) (lS (lN _) (lS (lN _) (lS (lS (lN _) (lB (lL (yYG L)))) (lN _)))))
set_option maxRecDepth 100000
set_option maxHeartbeats 16000000
abbrev yFS:=fw1 45 (caC cdS caN) (cdT (caC yNy (caC cI caN)))
abbrev yFR(f1:yEY.T)(f2:yEG.T)(f3:yKc.T)(x0:ByteArray):Option (yAI×Int×Unit):=
 letI ql:=decide (0<(x0.size:Int))
 letI qd:=x0.extract 11 x0.size
 letI qo:=decide (2<(qd.size:Int))
 letI qn:=decide (1<(qd.size:Int))
 letI qm:=decide (0<(qd.size:Int))
 letI qh:=(⟨w64 (((qd[0]?).getD 0).toNat:Int),w64 (((qd[1]?).getD 0).toNat:Int)⟩:yAK)
 letI qc:=(((x0[0]?).getD 0).toNat:Int)
 letI qg:=IntKind.i8.wrap qc
 bif decide ((x0.size:Int)<11) then
 some (yAI.z,100,())
 else
 yAA (f1 x0 1 6) fun r1=>
 yAA (f1 x0 7 4) fun r2=>
 letI qk:=(⟨IntKind.i8.wrap qc,r1.1,r2.1,0,0,yAK.z,0⟩:yAI)
 letI qb:=(⟨IntKind.i8.wrap qc,r1.1,r2.1,0,0,qh,IntKind.i8.wrap (IntKind.u8.wrap ((BitVec.ofInt IntKind.u8.bits (((qd[2]?).getD 0).toNat:Int) &&& BitVec.ofInt IntKind.u8.bits 127).toNat:Int))⟩:yAI)
 letI qa:=(⟨IntKind.i8.wrap qc,r1.1,r2.1,0,0,qh,0⟩:yAI)
 bif r1.2.1 !=0 then
 some (yAI.z,100,())
 else
 bif r2.2.1 !=0 then
 some (yAI.z,100,())
 else
 gd ql<|
 bif decide (127<qc) then
 some (yAI.z,100,())
 else
 gd ql<|
 gd (decide (11<=(x0.size:Int)))<|
 bif qg==2 then
 bif decide ((qd.size:Int)<2) then
 some (yAI.z,100,())
 else
 gd qm<|
 gd qn<|
 bif qg==2 then
 bif(qd.size:Int)==3 then
 gd qo<|
 yAA (f2 qb) fun r3=>
 bif r3.2.1 !=0 then
 some (yAI.z,100,())
 else
 bif !(r3.1.toList==x0.toList) then
 some (yAI.z,100,())
 else
 some (qb,0,())
 else
 yAA (f2 qa) fun r4=>
 bif r4.2.1 !=0 then
 some (yAI.z,100,())
 else
 bif !(r4.1.toList==x0.toList) then
 some (yAI.z,100,())
 else
 some (qa,0,())
 else
 yAA (f2 qa) fun r5=>
 bif r5.2.1 !=0 then
 some (yAI.z,100,())
 else
 bif !(r5.1.toList==x0.toList) then
 some (yAI.z,100,())
 else
 some (qa,0,())
 else
 bif qg==3 then
 bif decide ((qd.size:Int)<2) then
 some (yAI.z,100,())
 else
 gd qm<|
 gd qn<|
 bif qg==2 then
 bif(qd.size:Int)==3 then
 gd qo<|
 yAA (f2 qb) fun r6=>
 bif r6.2.1 !=0 then
 some (yAI.z,100,())
 else
 bif !(r6.1.toList==x0.toList) then
 some (yAI.z,100,())
 else
 some (qb,0,())
 else
 yAA (f2 qa) fun r7=>
 bif r7.2.1 !=0 then
 some (yAI.z,100,())
 else
 bif !(r7.1.toList==x0.toList) then
 some (yAI.z,100,())
 else
 some (qa,0,())
 else
 yAA (f2 qa) fun r8=>
 bif r8.2.1 !=0 then
 some (yAI.z,100,())
 else
 bif !(r8.1.toList==x0.toList) then
 some (yAI.z,100,())
 else
 some (qa,0,())
 else
 bif qg==4 then
 yAA (f3 qd 6) fun r9=>
 letI qj:=(⟨IntKind.i8.wrap qc,r1.1,r2.1,aI r9.1 0 0,aI r9.1 1 0,yAK.z,0⟩:yAI)
 letI qf:=(⟨IntKind.i8.wrap qc,r1.1,r2.1,aI r9.1 0 0,0,yAK.z,0⟩:yAI)
 bif r9.2.1 !=0 then
 some (yAI.z,100,())
 else
 bif decide ((r9.1.length:Int)<1) then
 some (yAI.z,100,())
 else
 gd (decide (0<(r9.1.length:Int)))<|
 gd (rowIs kI r9.1 0)<|
 bif qg==4 then
 bif(r9.1.length:Int)==2 then
 gd (decide (1<(r9.1.length:Int)))<|
 gd (rowIs kI r9.1 1)<|
 yAA (f2 qj) fun r10=>
 bif r10.2.1 !=0 then
 some (yAI.z,100,())
 else
 bif !(r10.1.toList==x0.toList) then
 some (yAI.z,100,())
 else
 some (qj,0,())
 else
 yAA (f2 qf) fun r11=>
 bif r11.2.1 !=0 then
 some (yAI.z,100,())
 else
 bif !(r11.1.toList==x0.toList) then
 some (yAI.z,100,())
 else
 some (qf,0,())
 else
 yAA (f2 qf) fun r12=>
 bif r12.2.1 !=0 then
 some (yAI.z,100,())
 else
 bif !(r12.1.toList==x0.toList) then
 some (yAI.z,100,())
 else
 some (qf,0,())
 else
 bif qg==5 then
 yAA (f3 qd 6) fun r13=>
 letI qi:=(⟨IntKind.i8.wrap qc,r1.1,r2.1,aI r13.1 0 0,aI r13.1 1 0,yAK.z,0⟩:yAI)
 letI qe:=(⟨IntKind.i8.wrap qc,r1.1,r2.1,aI r13.1 0 0,0,yAK.z,0⟩:yAI)
 bif r13.2.1 !=0 then
 some (yAI.z,100,())
 else
 bif decide ((r13.1.length:Int)<1) then
 some (yAI.z,100,())
 else
 gd (decide (0<(r13.1.length:Int)))<|
 gd (rowIs kI r13.1 0)<|
 bif qg==4 then
 bif(r13.1.length:Int)==2 then
 gd (decide (1<(r13.1.length:Int)))<|
 gd (rowIs kI r13.1 1)<|
 yAA (f2 qi) fun r14=>
 bif r14.2.1 !=0 then
 some (yAI.z,100,())
 else
 bif !(r14.1.toList==x0.toList) then
 some (yAI.z,100,())
 else
 some (qi,0,())
 else
 yAA (f2 qe) fun r15=>
 bif r15.2.1 !=0 then
 some (yAI.z,100,())
 else
 bif !(r15.1.toList==x0.toList) then
 some (yAI.z,100,())
 else
 some (qe,0,())
 else
 yAA (f2 qe) fun r16=>
 bif r16.2.1 !=0 then
 some (yAI.z,100,())
 else
 bif !(r16.1.toList==x0.toList) then
 some (yAI.z,100,())
 else
 some (qe,0,())
 else
 yAA (f2 qk) fun r17=>
 bif r17.2.1 !=0 then
 some (yAI.z,100,())
 else
 bif !(r17.1.toList==x0.toList) then
 some (yAI.z,100,())
 else
 some (qk,0,())
theorem xDn(f1 f2 f3):yFS.Eq [yEY.s f1,yEG.s f2,yKc.s f3] .no (yFR f1 f2 f3):=fun _=>by kernel_rfl
def yCL(L:Nat):yFS.T:=yFR (yAv L) (yCE L) (yNW L)
theorem yWC(L:Nat):yFS.C (yCL L):=yFS.c (xDn (yAv L) (yCE L) (yNW L)) (tC (ySz L).ent (tC (yUV L).ent (tC (xE6 L).ent tN))) Tryz.func45 (by kernel_rfl) (lN _)
abbrev yHa:=fw1 22 (caC cdS caN) (cdT (caC cdS (caC cI caN)))
abbrev yM3(f1:yFS.T)(f2:yDV.T)(x0:ByteArray):Option (ByteArray×Int×Unit):=
 yAA (f1 x0) fun r1=>
 bif r1.2.1 !=0 then
 some (noS,2,())
 else
 yAA (f2 5 x0) fun r2=>
 some (r2.1,r2.2.1,())
theorem xBl(f1 f2):yHa.Eq [yFS.s f1,yDV.s f2] .no (yM3 f1 f2):=fun _=>by kernel_rfl
def yEc(L:Nat):yHa.T:=yM3 (yCL L) (yHE L)
theorem xBk(L:Nat):yHa.C (yEc L):=yHa.c (xBl (yCL L) (yHE L)) (tC (yWC L).ent (tC (yRQ L).ent tN)) Tryz.func22 (by kernel_rfl) (lN _)
abbrev yGm:=fw2 23 (caC yCI (caC cI caN)) cI
abbrev yS4(f1:yBk.T)(f2:yDG.T)(x0:yAR)(x1:Int):Option Int:=
 yAA (f1 x0) fun r1=>
 bif !r1 then
 some (-1)
 else
 yAA (f2 x1 0 (w64 (x0.Log-1))) fun r2=>
 bif !r2 then
 some (-1)
 else
 some (w64 ((w64 (1+(w64 (2*x0.Nodes))))+x1))
theorem xFC(f1 f2):yGm.Eq [yBk.s f1,yDG.s f2] .no (yS4 f1 f2):=fun _=>by kernel_rfl
def yFk(L:Nat):yGm.T:=yS4 (yCc L) (yHG L)
theorem yYM(L:Nat):yGm.C (yFk L):=yGm.c (xFC (yCc L) (yHG L)) (tC (yGn L).ent (tC (yO1 L).ent tN)) Tryz.func23 (by kernel_rfl) (lN _)
set_option maxRecDepth 100000
set_option maxHeartbeats 16000000
abbrev yI8:=fw1 216 (caC cdS caN) (cdT (caC (cdI .i8) (caC cdS (caC cI caN))))
abbrev yRP(f1:yDV.T)(x0:ByteArray):Option (Int×ByteArray×Int×Unit):=
 letI qc:=decide (0<(x0.size:Int))
 letI qb:=(x0.size:Int)-4
 letI qa:=(((x0[0]?).getD 0).toNat:Int)
 bif decide ((x0.size:Int)<7) then
 some (0,noS,30,())
 else
 bif decide (512<(x0.size:Int)) then
 some (0,noS,30,())
 else
 gd qc<|
 bif decide (qa<1) then
 some (0,noS,30,())
 else
 gd qc<|
 bif decide (127<qa) then
 some (0,noS,30,())
 else
 gd qc<|
 gd (decide (0<=w64 qb))<|
 gd (decide (w64 qb<=(x0.size:Int)))<|
 gd (decide (3<=((w64 qb).toNat:Int)))<|
 yAA (f1 (IntKind.i8.wrap qa) (x0.extract 3 ((w64 qb).toNat))) fun r1=>
 bif r1.2.1 !=0 then
 some (0,noS,30,())
 else
 bif !(r1.1.toList==x0.toList) then
 some (0,noS,30,())
 else
 some (IntKind.i8.wrap qa,x0.extract 3 ((w64 qb).toNat),0,())
theorem xDZ(f1):yI8.Eq [yDV.s f1] .no (yRP f1):=fun _=>by kernel_rfl
def yO0(L:Nat):yI8.T:=yRP (yHE L)
theorem xDY(L:Nat):yI8.C (yO0 L):=yI8.c (xDZ (yHE L)) (tC (yRQ L).ent tN) Tryz.func216 (by kernel_rfl) (lN _)
abbrev yI7:=fw2 163 (caC (cdI .i8) (caC cdS caN)) (cdT (caC cdS (caC cI caN)))
abbrev yVL(f1:yI8.T)(x0:Int)(x1:ByteArray):Option (ByteArray×Int×Unit):=
 yAA (f1 x1) fun r1=>
 bif r1.2.2.1 !=0 then
 some (noS,30,())
 else
 bif r1.1 !=x0 then
 some (noS,30,())
 else
 some (r1.2.1,0,())
theorem xHW(f1):yI7.Eq [yI8.s f1] .no (yVL f1):=fun _=>by kernel_rfl
def yN9(L:Nat):yI7.T:=yVL (yO0 L)
theorem xAP(L:Nat):yI7.C (yN9 L):=yI7.c (xHW (yO0 L)) (tC (xDY L).ent tN) Tryz.func163 (by kernel_rfl) (lN _)
abbrev yJL:=fw1 178 (caC cdS caN) (cdT (caC yNy (caC cdS (caC cdB (caC cI caN)))))
abbrev yOA(f1:yI7.T)(f2:yFS.T)(x0:ByteArray):Option (yAI×ByteArray×Bool×Int×Unit):=
 bif x0.toList==noS.toList then
 some (yAI.z,noS,false,0,())
 else
 yAA (f1 5 x0) fun r1=>
 bif r1.2.1 !=0 then
 some (yAI.z,noS,false,50,())
 else
 yAA (f2 r1.1) fun r2=>
 bif r2.2.1 !=0 then
 some (yAI.z,noS,false,50,())
 else
 some (r2.1,r1.1,true,0,())
theorem xDw(f1 f2):yJL.Eq [yI7.s f1,yFS.s f2] .no (yOA f1 f2):=fun _=>by kernel_rfl
def yF2(L:Nat):yJL.T:=yOA (yN9 L) (yCL L)
theorem xDv(L:Nat):yJL.C (yF2 L):=yJL.c (xDw (yN9 L) (yCL L)) (tC (xAP L).ent (tC (yWC L).ent tN)) Tryz.func178 (by kernel_rfl) (lN _)
abbrev yLm:=(List (List V))×(List (List V))×Int×Unit
abbrev yOZ:=(List (List V))×Unit
abbrev yOa:=(List (List V))×Int×Unit
abbrev yFT{α:Type}(f1:yJL.T)(s:yLm)(kn:yLm->Option α)(k0:yOZ->Option α)(k1:yOa->Option α):Option α:=
 letI qb:=s.2.1
 bif decide (s.2.2.1<(s.1.length:Int)) then
 gI s.1 kS s.2.2.1<|
 yAA (f1 (aS s.1 s.2.2.1.toNat 0)) fun r1=>
 letI qa:= [[V.int .i8 r1.1.Kind,V.int .i64 r1.1.By,V.int .i64 r1.1.Serial,V.int .i64 r1.1.Dead,V.int .i64 r1.1.Was,V.int .i64 r1.1.Span.Lo,V.int .i64 r1.1.Span.Hi,V.int .i8 r1.1.Mode]]
 bif r1.2.2.2.1 !=0 then
 k1 ([],r1.2.2.2.1,())
 else
 bif !r1.2.2.1 then
 gF qb (0+qb.length)<|
 k1 (qb.take qb.length,0,())
 else
 gd (Nat.beq (0+qb.length) qb.length)<|
 gM (qb.length+1) 64<|
 gA (qb++qa) (qb.length+1)<|
 kn (s.1,qb++qa,w64 (s.2.2.1+1),())
 else
 gA qb qb.length<|
 k0 (qb,())
abbrev yLn:LW2 yLm yOZ yOa:=⟨(lvC 0 (mP cdR) (lvC 4 (mA 8) (lvC 5 (mP cI) lvN))),(.exit 0),(lvC 4 (mA 8) lvN),.ret,(lvC 2 (mP cdR) (lvC 3 (mP cI) lvN))⟩
theorem yZp{α:Type}(f1):yLn.Eq (α:=α) [yJL.s f1] Tryz.f116 [1,1,0,1,0] .no (yFT f1):=fun _ _ _=>by kernel_rfl
abbrev yK3:=fw1 116 (caC cdR caN) (cdT (caC cdR (caC cI caN)))
abbrev yTG(F0:LF2 yLm yOZ yOa ((List (List V))×Int×Unit))(x0:List (List V)):Option ((List (List V))×Int×Unit):=
 F0 (x0,[],0,()) (fun q1=>
 gF q1.1 (0+q1.1.length)<|
 some (q1.1.take q1.1.length,0,())) (fun q2=>
 some (q2.1,q2.2.1,()))
theorem xFT(F0):yK3.Eq [] (.two .no (.two .no (.two (.two .no (.one (.lp (yLn.s F0)))) .no))) (yTG F0):=fun _=>by kernel_rfl
def yRl(L:Nat):yK3.T:=yTG (yAQ (yFT (yF2 L)) L)
theorem yYZ{α:Type}(L:Nat):LO Tryz.f116 [1,1,0,1,0] (yLn.s (α:=α) (yAQ (yFT (yF2 L)) L)):=yLn.k (yZp (yF2 L)) (tC (xDv L).ent tN) (lN _) (by kernel_rfl) L
theorem xFS(L:Nat):yK3.C (yRl L):=yK3.c (xFT (yAQ (yFT (yF2 L)) L)) tN Tryz.func116 (by kernel_rfl) (lS (lN _) (lS (lN _) (lS (lS (lN _) (lB (lL (yYZ L)))) (lN _))))
abbrev yK2:=fw2 44 (caC yCI (caC yHy caN)) (cdT (caC cdR (caC cI caN)))
abbrev yTF(f1:yBk.T)(f2:yC4.T)(f3:yC3.T)(f4:yGm.T)(f5:yK3.T)(x0:yAR)(x1:yAC):Option ((List (List V))×Int×Unit):=
 yAA (f1 x0) fun r1=>
 bif !r1 then
 some ([],2,())
 else
 yAA (f2 x1) fun r2=>
 bif r2 !=0 then
 some ([],2,())
 else
 yAA (f3 x0) fun r3=>
 bif(x1.S.length:Int) !=r3 then
 some ([],2,())
 else
 yAA (f4 x0 0) fun r4=>
 letI qa:=r4+x0.Log
 gd (decide (0<=w64 qa))<|
 gd (decide (w64 qa<=(x1.S.length:Int)))<|
 gd (decide (0<=r4))<|
 gd (decide (r4<=((w64 qa).toNat:Int)))<|
 gd (x1.S.all fun r=>Nat.beq r.length 1)<|
 yAA (f5 ((x1.S.drop r4.toNat).take (((w64 qa).toNat)-r4.toNat))) fun r5=>
 some (r5.1,r5.2.1,())
theorem xFR(f1 f2 f3 f4 f5):yK2.Eq [yBk.s f1,yC4.s f2,yC3.s f3,yGm.s f4,yK3.s f5] .no (yTF f1 f2 f3 f4 f5):=fun _=>by kernel_rfl
def yRk(L:Nat):yK2.T:=yTF (yCc L) (yCd L) (yCt L) (yFk L) (yRl L)
theorem xFQ(L:Nat):yK2.C (yRk L):=yK2.c (xFR (yCc L) (yCd L) (yCt L) (yFk L) (yRl L)) (tC (yGn L).ent (tC (yPf L).ent (tC (yPc L).ent (tC (yYM L).ent (tC (xFS L).ent tN))))) Tryz.func44 (by kernel_rfl) (lN _)
abbrev yLi:=yAR×yAF×((List (List V))×(List (List V))×(List (List V))×Unit)×Int×Unit
abbrev yOX:=yAF×((List (List V))×(List (List V))×(List (List V))×Unit)×Unit
abbrev yLx{α:Type}(s:yLi)(kn:yLi->Option α)(k0:yOX->Option α):Option α:=
 letI qb:= [[V.int .i64 0,V.int .i64 0]]
 letI qa:=s.2.2.1.1
 bif decide (s.2.2.2.1<s.1.Slots) then
 bif decide (s.2.2.2.1<16) then
 gd (Nat.beq (0+qa.length) qa.length)<|
 gM (qa.length+1) 16<|
 gA (qa++qb) (qa.length+1)<|
 kn (s.1,s.2.1,(qa++qb,s.2.2.1.2.1,s.2.2.1.2.2.1,()),w64 (s.2.2.2.1+1),())
 else
 gA qa qa.length<|
 k0 (s.2.1,(qa,s.2.2.1.2.1,s.2.2.1.2.2.1,()),())
 else
 gA qa qa.length<|
 k0 (s.2.1,(qa,s.2.2.1.2.1,s.2.2.1.2.2.1,()),())
abbrev yLj:LW1 yLi yOX:=⟨(lvC 1 yQR (lvC 2 yDO (lvC 3 (mO (zA 2 (zP cdR (zP cdR zN))) 3) (lvC 4 (mP cI) lvN)))),(.exit 0),(lvC 2 yDO (lvC 3 (mO (zA 2 (zP cdR (zP cdR zN))) 3) lvN))⟩
theorem yZm{α:Type}:yLj.Eq (α:=α) [] Tryz.f39 [1,1,0,1,0] .no (yLx):=fun _ _ _=>by kernel_rfl
abbrev yKz:=fw1 39 (caC yCI caN) yC1
abbrev yTC(F0:LF1 yLi yOX (yAF))(x0:yAR):Option yAF:=
 F0 (x0,yAF.z,([],[],[],()),0,()) (fun q1=>
 gF q1.2.1.1 (0+q1.2.1.1.length)<|
 some (⟨q1.2.1.1.take q1.2.1.1.length,q1.2.1.2.1,q1.2.1.2.2.1⟩:yAF))
theorem xFN(F0):yKz.Eq [] (.two .no (.two .no (.two (.two .no (.one (.lp (yLj.s F0)))) .no))) (yTC F0):=fun _=>by kernel_rfl
def yRe(L:Nat):yKz.T:=yTC (yBV (yLx) L)
theorem yYT{α:Type}(L:Nat):LO Tryz.f39 [1,1,0,1,0] (yLj.s (α:=α) (yBV (yLx) L)):=yLj.k (yZm) tN (lN _) (by kernel_rfl) L
theorem xFM(L:Nat):yKz.C (yRe L):=yKz.c (xFN (yBV (yLx) L)) tN Tryz.func39 (by kernel_rfl) (lS (lN _) (lS (lN _) (lS (lS (lN _) (lB (lL (yYT L)))) (lN _))))
abbrev yJ1:=Int×yAF×Int×Unit
abbrev yNi:=Unit
abbrev yNj:=Int×Bool×Unit
abbrev yM0{α:Type}(s:yJ1)(kn:yJ1->Option α)(k0:yNi->Option α)(k1:yNj->Option α):Option α:=
 bif decide (s.2.2.1<(s.2.1.Slots.length:Int)) then
 bif decide (1<=s.1) then
 gI s.2.1.Slots yAK.ks s.2.2.1<|
 bif(aI s.2.1.Slots s.2.2.1.toNat 0)==s.1 then
 k1 (s.2.2.1,true,())
 else
 kn (s.1,s.2.1,w64 (s.2.2.1+1),())
 else
 kn (s.1,s.2.1,w64 (s.2.2.1+1),())
 else
 k0 (())
abbrev yJ2:LW2 yJ1 yNi yNj:=⟨(lvC 1 (mP cI) (lvC 2 yDO (lvC 6 (mP cI) lvN))),(.exit 0),lvN,.ret,(lvC 4 (mP cI) (lvC 5 (mP cdB) lvN))⟩
theorem yYV{α:Type}:yJ2.Eq (α:=α) [] Tryz.f31 [1,0,1,0] .no (yM0):=fun _ _ _=>by kernel_rfl
abbrev yJI:=fw2 31 (caC yC1 (caC cI caN)) (cdT (caC cI (caC cdB caN)))
abbrev yRh(F0:LF2 yJ1 yNi yNj (Int×Bool×Unit))(x0:yAF)(x1:Int):Option (Int×Bool×Unit):=
 F0 (x1,x0,0,()) (fun q1=>
 some (0,false,())) (fun q2=>
 some (q2.1,q2.2.1,()))
theorem xDs(F0):yJI.Eq [] (.two .no (.two (.two .no (.one (.lp (yJ2.s F0)))) .no)) (yRh F0):=fun _=>by kernel_rfl
def yO7(L:Nat):yJI.T:=yRh (yAQ (yM0) L)
theorem yWv{α:Type}(L:Nat):LO Tryz.f31 [1,0,1,0] (yJ2.s (α:=α) (yAQ (yM0) L)):=yJ2.k (yYV) tN (lN _) (by kernel_rfl) L
theorem xDr(L:Nat):yJI.C (yO7 L):=yJI.c (xDs (yAQ (yM0) L)) tN Tryz.func31 (by kernel_rfl) (lS (lN _) (lS (lS (lN _) (lB (lL (yWv L)))) (lN _)))
set_option maxRecDepth 100000
set_option maxHeartbeats 16000000
abbrev yCO:=rw1 208 .a (caC yC1 caN) (zW 2 (zW 4 (zW 4 zN)))
abbrev yRd(x0:yAF):Option ((List (List V))×(List (List V))×(List (List V))×Unit):=
 gd (x0.Slots.all fun r=>Nat.beq r.length 2)<|
 gM (0+x0.Slots.length) 16<|
 gd (x0.Holds.all fun r=>Nat.beq r.length 4)<|
 gM (0+x0.Holds.length) 32<|
 gd (x0.Queue.all fun r=>Nat.beq r.length 4)<|
 gM (0+x0.Queue.length) 32<|
 gW x0.Slots (0+x0.Slots.length)<|
 gW x0.Holds (0+x0.Holds.length)<|
 gW x0.Queue (0+x0.Queue.length)<|
 some (x0.Slots,x0.Holds,x0.Queue,())
theorem xDo:yCO.Eq [] .no (yRd):=fun _=>by kernel_rfl
def yCv(L:Nat):yCO.T:=yRd
theorem yLw(L:Nat):yCO.C (yCv L):=yCO.c (xDo) tN Tryz.func208 (by kernel_rfl) (lN _)
abbrev yDD:=fw2 273 (caC yOF (caC yOF caN)) cdB
abbrev yNe(x0:yAK)(x1:yAK):Option Bool:=
 bif decide (x0.Lo<=x0.Hi) then
 bif decide (x1.Lo<=x1.Hi) then
 bif decide (x0.Lo<=x1.Hi) then
 some (decide (x1.Lo<=x0.Hi))
 else
 some false
 else
 some false
 else
 some false
theorem yYQ:yDD.Eq [] .no (yNe):=fun _=>by kernel_rfl
def yDQ(L:Nat):yDD.T:=yNe
theorem yRa(L:Nat):yDD.C (yDQ L):=yDD.c (yYQ) tN Tryz.func273 (by kernel_rfl) (lN _)
abbrev yD0:=fw2 305 (caC yQq (caC yQq caN)) cdB
abbrev yMY(f1:yDD.T)(x0:yAL)(x1:yAL):Option Bool:=
 bif x0.Key==x1.Key then
 some true
 else
 yAA (f1 x0.Span x1.Span) fun r1=>
 bif !r1 then
 some true
 else
 bif x0.Mode==1 then
 some (x1.Mode==1)
 else
 some false
theorem yWr(f1):yD0.Eq [yDD.s f1] .no (yMY f1):=fun _=>by kernel_rfl
def yEb(L:Nat):yD0.T:=yMY (yDQ L)
theorem yWq(L:Nat):yD0.C (yEb L):=yD0.c (yWr (yDQ L)) (tC (yRa L).ent tN) Tryz.func305 (by kernel_rfl) (lN _)
abbrev yJt:=(List (List V))×yAL×Int×Unit
abbrev yNc:=Unit
abbrev yNd:=Bool×Unit
abbrev yMz{α:Type}(f1:yD0.T)(s:yJt)(kn:yJt->Option α)(k0:yNc->Option α)(k1:yNd->Option α):Option α:=
 letI qa:=s.2.2.1
 bif decide (qa<(s.1.length:Int)) then
 gI s.1 yAL.ks qa<|
 yAA (f1 s.2.1 (⟨aI s.1 qa.toNat 0,(⟨aI s.1 qa.toNat 1,aI s.1 qa.toNat 2⟩:yAK),aI s.1 qa.toNat 3⟩:yAL)) fun r1=>
 bif !r1 then
 k1 (false,())
 else
 kn (s.1,s.2.1,w64 (qa+1),())
 else
 k0 (())
abbrev yJu:LW2 yJt yNc yNd:=⟨(lvC 1 (mP cdR) (lvC 2 xEx (lvC 5 (mP cI) lvN))),(.exit 0),lvN,.ret,(lvC 4 (mP cdB) lvN)⟩
theorem yYP{α:Type}(f1):yJu.Eq (α:=α) [yD0.s f1] Tryz.f274 [1,0,1,0] .no (yMz f1):=fun _ _ _=>by kernel_rfl
abbrev yJF:=fw2 274 (caC yQq (caC cdR caN)) cdB
abbrev yRY(F0:LF2 yJt yNc yNd (Bool))(x0:yAL)(x1:List (List V)):Option Bool:=
 F0 (x1,x0,0,()) (fun q1=>
 some true) (fun q2=>
 some q2.1)
theorem xDk(F0):yJF.Eq [] (.two .no (.two (.two .no (.one (.lp (yJu.s F0)))) .no)) (yRY F0):=fun _=>by kernel_rfl
def yJE(L:Nat):yJF.T:=yRY (yAQ (yMz (yEb L)) L)
theorem yWp{α:Type}(L:Nat):LO Tryz.f274 [1,0,1,0] (yJu.s (α:=α) (yAQ (yMz (yEb L)) L)):=yJu.k (yYP (yEb L)) (tC (yWq L).ent tN) (lN _) (by kernel_rfl) L
theorem xDj(L:Nat):yJF.C (yJE L):=yJF.c (xDk (yAQ (yMz (yEb L)) L)) tN Tryz.func274 (by kernel_rfl) (lS (lN _) (lS (lS (lN _) (lB (lL (yWp L)))) (lN _)))
abbrev yIW:=yAF×yAF×((List (List V))×(List (List V))×(List (List V))×Unit)×Int×Unit
abbrev yMb:=yAF×((List (List V))×(List (List V))×(List (List V))×Unit)×Unit
abbrev yH5{α:Type}(f1:yJF.T)(s:yIW)(kn:yIW->Option α)(k0:yMb->Option α):Option α:=
 letI qf:=s.2.2.1.1
 letI qe:=s.2.2.2.1
 letI qd:=(⟨aI s.1.Queue qe.toNat 0,(⟨aI s.1.Queue qe.toNat 1,aI s.1.Queue qe.toNat 2⟩:yAK),aI s.1.Queue qe.toNat 3⟩:yAL)
 letI qc:=s.2.2.1.2.1
 letI qb:=s.2.2.1.2.2.1
 letI qh:=Nat.beq (0+qb.length) qb.length
 letI qg:=qb.length+1
 letI qa:= [[V.int .i64 (aI s.1.Queue qe.toNat 0),V.int .i64 (aI s.1.Queue qe.toNat 1),V.int .i64 (aI s.1.Queue qe.toNat 2),V.int .i8 (aI s.1.Queue qe.toNat 3)]]
 bif decide (qe<(s.1.Queue.length:Int)) then
 gI s.1.Queue yAL.ks qe<|
 gF qc (0+qc.length)<|
 yAA (f1 qd (qc.take qc.length)) fun r1=>
 bif r1 then
 gF qb (0+qb.length)<|
 yAA (f1 qd (qb.take qb.length)) fun r2=>
 bif r2 then
 gd (Nat.beq (0+qc.length) qc.length)<|
 gM (qc.length+1) 32<|
 gW qf qf.length<|
 gW (qc++qa) (qc.length+1)<|
 gW qb qb.length<|
 kn (s.1,s.2.1,(qf,qc++qa,qb,()),w64 (qe+1),())
 else
 gd qh<|
 gM qg 32<|
 gW qf qf.length<|
 gW qc qc.length<|
 gW (qb++qa) qg<|
 kn (s.1,s.2.1,(qf,qc,qb++qa,()),w64 (qe+1),())
 else
 gd qh<|
 gM qg 32<|
 gW qf qf.length<|
 gW qc qc.length<|
 gW (qb++qa) qg<|
 kn (s.1,s.2.1,(qf,qc,qb++qa,()),w64 (qe+1),())
 else
 gW qf qf.length<|
 gW qc qc.length<|
 gW qb qb.length<|
 k0 (s.2.1,(qf,qc,qb,()),())
abbrev yIX:LW1 yIW yMb:=⟨(lvC 1 yDO (lvC 2 yDO (lvC 3 (mO (zW 2 (zW 4 (zW 4 zN))) 3) (lvC 4 (mP cI) lvN)))),(.exit 0),(lvC 2 yDO (lvC 3 (mO (zW 2 (zW 4 (zW 4 zN))) 3) lvN))⟩
theorem yWt{α:Type}(f1):yIX.Eq (α:=α) [yJF.s f1] Tryz.f213 [1,1,1,0,1,0] .no (yH5 f1):=fun _ _ _=>by kernel_rfl
abbrev yC6:=rw1 213 .a (caC yC1 caN) (zW 2 (zW 4 (zW 4 zN)))
abbrev yP9(f1:yCO.T)(F0:LF1 yIW yMb ((List (List V))×(List (List V))×(List (List V))×Unit))(x0:yAF):Option ((List (List V))×(List (List V))×(List (List V))×Unit):=
 yAA (f1 x0) fun r1=>
 gW r1.1 r1.1.length<|
 gW r1.2.1 r1.2.1.length<|
 F0 (x0,yAF.z,(r1.1,r1.2.1,[],()),0,()) (fun q2=>
 gW q2.2.1.1 q2.2.1.1.length<|
 gW q2.2.1.2.1 q2.2.1.2.1.length<|
 gW q2.2.1.2.2.1 q2.2.1.2.2.1.length<|
 some (q2.2.1.1,q2.2.1.2.1,q2.2.1.2.2.1,()))
theorem xBg(f1 F0):yC6.Eq [yCO.s f1] (.two .no (.two .no (.two .no (.two (.two .no (.one (.lp (yIX.s F0)))) .no)))) (yP9 f1 F0):=fun _=>by kernel_rfl
def yDj(L:Nat):yC6.T:=yP9 (yCv L) (yBV (yH5 (yJE L)) L)
theorem yVZ{α:Type}(L:Nat):LO Tryz.f213 [1,1,1,0,1,0] (yIX.s (α:=α) (yBV (yH5 (yJE L)) L)):=yIX.k (yWt (yJE L)) (tC (xDj L).ent tN) (lN _) (by kernel_rfl) L
theorem yP8(L:Nat):yC6.C (yDj L):=yC6.c (xBg (yCv L) (yBV (yH5 (yJE L)) L)) (tC (yLw L).ent tN) Tryz.func213 (by kernel_rfl) (lS (lN _) (lS (lN _) (lS (lN _) (lS (lS (lN _) (lB (lL (yVZ L)))) (lN _)))))
abbrev yGR:=(List (List V))×Int×(List (List V))×Int×Unit
abbrev yJ4:=(List (List V))×Unit
abbrev yFl{α:Type}(s:yGR)(kn:yGR->Option α)(k0:yJ4->Option α):Option α:=
 letI qc:=s.2.2.1
 letI qb:=s.2.2.2.1
 letI qa:= [[V.int .i64 (aI s.1 qb.toNat 0),V.int .i64 (aI s.1 qb.toNat 1),V.int .i64 (aI s.1 qb.toNat 2),V.int .i8 (aI s.1 qb.toNat 3)]]
 bif decide (qb<(s.1.length:Int)) then
 gI s.1 yAL.ks qb<|
 bif(aI s.1 qb.toNat 0) !=s.2.1 then
 gI s.1 yAL.ks qb<|
 gd (Nat.beq (0+qc.length) qc.length)<|
 gM (qc.length+1) 32<|
 gW (qc++qa) (qc.length+1)<|
 kn (s.1,s.2.1,qc++qa,w64 (qb+1),())
 else
 gW qc qc.length<|
 kn (s.1,s.2.1,qc,w64 (qb+1),())
 else
 gW qc qc.length<|
 k0 (qc,())
abbrev yGS:LW1 yGR yJ4:=⟨(lvC 0 (mP cdR) (lvC 1 (mP cI) (lvC 5 (mW 4) (lvC 6 (mP cI) lvN)))),(.exit 0),(lvC 5 (mW 4) lvN)⟩
theorem yUW{α:Type}:yGS.Eq (α:=α) [] Tryz.f271 [1,1,0,1,0] .no (yFl):=fun _ _ _=>by kernel_rfl
abbrev yE0:=rw2 271 .s (caC cdR (caC cI caN)) (zW 4 zN)
abbrev yNl(F0:LF1 yGR yJ4 ((List (List V))×Unit))(x0:List (List V))(x1:Int):Option ((List (List V))×Unit):=
 F0 (x0,x1,[],0,()) (fun q1=>
 gW q1.1 q1.1.length<|
 some (q1.1,()))
theorem yYY(F0):yE0.Eq [] (.two .no (.two .no (.two (.two .no (.one (.lp (yGS.s F0)))) .no))) (yNl F0):=fun _=>by kernel_rfl
def yJ3(L:Nat):yE0.T:=yNl (yBV (yFl) L)
theorem yTE{α:Type}(L:Nat):LO Tryz.f271 [1,1,0,1,0] (yGS.s (α:=α) (yBV (yFl) L)):=yGS.k (yUW) tN (lN _) (by kernel_rfl) L
theorem yYX(L:Nat):yE0.C (yJ3 L):=yE0.c (yYY (yBV (yFl) L)) tN Tryz.func271 (by kernel_rfl) (lS (lN _) (lS (lN _) (lS (lS (lN _) (lB (lL (yTE L)))) (lN _))))
set_option maxRecDepth 100000
set_option maxHeartbeats 16000000
abbrev yHZ:=rw2 209 .a (caC yC1 (caC cI caN)) (zW 2 (zW 4 (zW 4 zN)))
abbrev yQE(f1:yCO.T)(f2:yE0.T)(f3:yC6.T)(x0:yAF)(x1:Int):Option ((List (List V))×(List (List V))×(List (List V))×Unit):=
 letI qb:=0+x1.toNat
 yAA (f1 x0) fun r1=>
 letI qc:=r1.1.getD qb []
 letI qa:=r1.1.set qb (qc.take 0++([V.int .i64 0,V.int .i64 0]++qc.drop 2))
 gB x1 r1.1.length<|
 gL r1.1 kI qb 0<|
 gF r1.2.1 (0+r1.2.1.length)<|
 yAA (f2 (r1.2.1.take r1.2.1.length) (aI r1.1 qb 0)) fun r2=>
 gF r1.2.2.1 (0+r1.2.2.1.length)<|
 yAA (f2 (r1.2.2.1.take r1.2.2.1.length) (aI r1.1 qb 0)) fun r3=>
 gB x1 r1.1.length<|
 gd (decide (0+x1.toNat<r1.1.length))<|
 gd (Nat.ble 0 qb)<|
 gd (Nat.ble 2 qc.length)<|
 gF qa (0+r1.1.length)<|
 gF r2.1 (0+r2.1.length)<|
 gF r3.1 (0+r3.1.length)<|
 yAA (f3 (⟨qa.take r1.1.length,r2.1.take r2.1.length,r3.1.take r3.1.length⟩:yAF)) fun r4=>
 gW r4.1 r4.1.length<|
 gW r4.2.1 r4.2.1.length<|
 gW r4.2.2.1 r4.2.2.1.length<|
 some (r4.1,r4.2.1,r4.2.2.1,())
theorem xBj(f1 f2 f3):yHZ.Eq [yCO.s f1,yE0.s f2,yC6.s f3] .no (yQE f1 f2 f3):=fun _=>by kernel_rfl
def yNk(L:Nat):yHZ.T:=yQE (yCv L) (yJ3 L) (yDj L)
theorem xBi(L:Nat):yHZ.C (yNk L):=yHZ.c (xBj (yCv L) (yJ3 L) (yDj L)) (tC (yLw L).ent (tC (yYX L).ent (tC (yP8 L).ent tN))) Tryz.func209 (by kernel_rfl) (lN _)
abbrev yLk:=Int×(List (List V))×(List (List V))×Int×Unit
abbrev yOY:=(List (List V))×Unit
abbrev yLy{α:Type}(s:yLk)(kn:yLk->Option α)(k0:yOY->Option α):Option α:=
 letI qd:=s.2.1
 letI qc:=s.2.2.1
 letI qb:=s.2.2.2.1
 letI qa:= [[V.int .i64 (aI qc qb.toNat 0),V.int .i64 (aI qc qb.toNat 1),V.int .i64 (aI qc qb.toNat 2),V.int .i8 (aI qc qb.toNat 3)]]
 bif decide (qb<(qc.length:Int)) then
 gI qc yAL.ks qb<|
 bif(aI qc qb.toNat 0)==s.1 then
 gI qc yAL.ks qb<|
 gd (Nat.beq (0+qd.length) qd.length)<|
 gM (qd.length+1) 32<|
 gW (qd++qa) (qd.length+1)<|
 kn (s.1,qd++qa,qc,w64 (qb+1),())
 else
 gW qd qd.length<|
 kn (s.1,qd,qc,w64 (qb+1),())
 else
 gW qd qd.length<|
 k0 (qd,())
abbrev yLl:LW1 yLk yOY:=⟨(lvC 1 (mP cI) (lvC 5 (mW 4) (lvC 6 (mP cdR) (lvC 7 (mP cI) lvN)))),(.exit 0),(lvC 5 (mW 4) lvN)⟩
theorem yZn{α:Type}:yLl.Eq (α:=α) [] Tryz.f210 [1,1,1,0,1,0] .no (yLy):=fun _ _ _=>by kernel_rfl
abbrev yK1:=rw2 210 .s (caC yC1 (caC cI caN)) (zW 4 zN)
abbrev yTD(F0:LF1 yLk yOY ((List (List V))×Unit))(x0:yAF)(x1:Int):Option ((List (List V))×Unit):=
 letI qb:=0+x0.Holds.length
 letI qa:=qb+x0.Queue.length
 gd (x0.Holds.all fun r=>Nat.beq r.length 4)<|
 gM qb 32<|
 gd (x0.Queue.all fun r=>Nat.beq r.length 4)<|
 gd (Nat.beq (0+qb) x0.Holds.length)<|
 gM qa 32<|
 gF (x0.Holds++x0.Queue) (0+qa)<|
 F0 (x1,[],(x0.Holds++x0.Queue).take qa,0,()) (fun q1=>
 gW q1.1 q1.1.length<|
 some (q1.1,()))
theorem xFP(F0):yK1.Eq [] (.two .no (.two .no (.two .no (.two (.two .no (.one (.lp (yLl.s F0)))) .no)))) (yTD F0):=fun _=>by kernel_rfl
def yRi(L:Nat):yK1.T:=yTD (yBV (yLy) L)
theorem yYW{α:Type}(L:Nat):LO Tryz.f210 [1,1,1,0,1,0] (yLl.s (α:=α) (yBV (yLy) L)):=yLl.k (yZn) tN (lN _) (by kernel_rfl) L
theorem xFO(L:Nat):yK1.C (yRi L):=yK1.c (xFP (yBV (yLy) L)) tN Tryz.func210 (by kernel_rfl) (lS (lN _) (lS (lN _) (lS (lN _) (lS (lS (lN _) (lB (lL (yYW L)))) (lN _)))))
abbrev yKw:=fw2 272 (caC yCI (caC yOF caN)) cdB
abbrev yS8(x0:yAR)(x1:yAK):Option Bool:=
 bif decide (0<=x1.Lo) then
 bif decide (x1.Lo<=x1.Hi) then
 some (decide (x1.Hi<x0.Blocks))
 else
 some false
 else
 some false
theorem xFH:yKw.Eq [] .no (yS8):=fun _=>by kernel_rfl
def yUT(L:Nat):yKw.T:=yS8
theorem xFG(L:Nat):yKw.C (yUT L):=yKw.c (xFH) tN Tryz.func272 (by kernel_rfl) (lN _)
abbrev yJG:=fw2 211 (caC yCI (caC yQq caN)) cdB
abbrev yRZ(f1:yKw.T)(x0:yAR)(x1:yAL):Option Bool:=
 bif decide (1<=x1.Key) then
 yAA (f1 x0 x1.Span) fun r1=>
 bif r1 then
 bif x1.Mode==1 then
 some true
 else
 some (x1.Mode==2)
 else
 some false
 else
 some false
theorem xDm(f1):yJG.Eq [yKw.s f1] .no (yRZ f1):=fun _=>by kernel_rfl
def yO5(L:Nat):yJG.T:=yRZ (yUT L)
theorem xDl(L:Nat):yJG.C (yO5 L):=yJG.c (xDm (yUT L)) (tC (xFG L).ent tN) Tryz.func211 (by kernel_rfl) (lN _)
abbrev yGP:=(List (List V))×Int×yAK×Int×Unit
abbrev yJw:=Unit
abbrev yJx:=Bool×Unit
abbrev yIT{α:Type}(f1:yDD.T)(s:yGP)(kn:yGP->Option α)(k0:yJw->Option α)(k1:yJx->Option α):Option α:=
 letI qa:=s.2.2.2.1
 bif decide (qa<(s.1.length:Int)) then
 gI s.1 yAL.ks qa<|
 bif(aI s.1 qa.toNat 0)==s.2.1 then
 gI s.1 yAL.ks qa<|
 yAA (f1 (⟨aI s.1 qa.toNat 1,aI s.1 qa.toNat 2⟩:yAK) s.2.2.1) fun r1=>
 bif r1 then
 k1 (true,())
 else
 kn (s.1,s.2.1,s.2.2.1,w64 (qa+1),())
 else
 kn (s.1,s.2.1,s.2.2.1,w64 (qa+1),())
 else
 k0 (())
abbrev yGQ:LW2 yGP yJw yJx:=⟨(lvC 0 (mP cdR) (lvC 1 (mP cI) (lvC 5 xI3 (lvC 7 (mP cI) lvN)))),(.exit 0),lvN,.ret,(lvC 6 (mP cdB) lvN)⟩
theorem yUU{α:Type}(f1):yGQ.Eq (α:=α) [yDD.s f1] Tryz.f212 [1,0,1,0] .no (yIT f1):=fun _ _ _=>by kernel_rfl
abbrev yEz:=fw3 212 (caC cdR (caC cI (caC yOF caN))) cdB
abbrev yNf(F0:LF2 yGP yJw yJx (Bool))(x0:List (List V))(x1:Int)(x2:yAK):Option Bool:=
 F0 (x0,x1,x2,0,()) (fun q1=>
 some false) (fun q2=>
 some q2.1)
theorem yYS(F0):yEz.Eq [] (.two .no (.two (.two .no (.one (.lp (yGQ.s F0)))) .no)) (yNf F0):=fun _=>by kernel_rfl
def yJv(L:Nat):yEz.T:=yNf (yAQ (yIT (yDQ L)) L)
theorem yS9{α:Type}(L:Nat):LO Tryz.f212 [1,0,1,0] (yGQ.s (α:=α) (yAQ (yIT (yDQ L)) L)):=yGQ.k (yUU (yDQ L)) (tC (yRa L).ent tN) (lN _) (by kernel_rfl) L
theorem yYR(L:Nat):yEz.C (yJv L):=yEz.c (yYS (yAQ (yIT (yDQ L)) L)) tN Tryz.func212 (by kernel_rfl) (lS (lN _) (lS (lS (lN _) (lB (lL (yS9 L)))) (lN _)))
abbrev yM1:=(List (List V))×Int×yAK×Int×Unit
abbrev yQC:=Unit
abbrev yQD:=Int×Unit
abbrev yQB{α:Type}(s:yM1)(kn:yM1->Option α)(k0:yQC->Option α)(k1:yQD->Option α):Option α:=
 letI qa:=s.2.2.2.1
 bif decide (qa<(s.1.length:Int)) then
 gI s.1 yAL.ks qa<|
 bif(aI s.1 qa.toNat 0)==s.2.1 then
 gI s.1 yAL.ks qa<|
 bif((aI s.1 qa.toNat 1)==s.2.2.1.Lo)&&(((aI s.1 qa.toNat 2)==s.2.2.1.Hi)&&true) then
 k1 (qa,())
 else
 kn (s.1,s.2.1,s.2.2.1,w64 (qa+1),())
 else
 kn (s.1,s.2.1,s.2.2.1,w64 (qa+1),())
 else
 k0 (())
abbrev yM2:LW2 yM1 yQC yQD:=⟨(lvC 0 (mP cdR) (lvC 1 (mP cI) (lvC 5 xI3 (lvC 7 (mP cI) lvN)))),(.exit 0),lvN,.ret,(lvC 6 (mP cI) lvN)⟩
theorem xBh{α:Type}:yM2.Eq (α:=α) [] Tryz.f214 [1,0,1,0] .no (yQB):=fun _ _ _=>by kernel_rfl
abbrev yJJ:=fw3 214 (caC cdR (caC cI (caC yOF caN))) cI
abbrev yVc(F0:LF2 yM1 yQC yQD (Int))(x0:List (List V))(x1:Int)(x2:yAK):Option Int:=
 F0 (x0,x1,x2,0,()) (fun q1=>
 some (-1)) (fun q2=>
 some q2.1)
theorem xHa(F0):yJJ.Eq [] (.two .no (.two (.two .no (.one (.lp (yM2.s F0)))) .no)) (yVc F0):=fun _=>by kernel_rfl
def yQA(L:Nat):yJJ.T:=yVc (yAQ (yQB) L)
theorem yZo{α:Type}(L:Nat):LO Tryz.f214 [1,0,1,0] (yM2.s (α:=α) (yAQ (yQB) L)):=yM2.k (xBh) tN (lN _) (by kernel_rfl) L
theorem xAQ(L:Nat):yJJ.C (yQA L):=yJJ.c (xHa (yAQ (yQB) L)) tN Tryz.func214 (by kernel_rfl) (lS (lN _) (lS (lS (lN _) (lB (lL (yZo L)))) (lN _)))
set_option maxRecDepth 100000
set_option maxHeartbeats 16000000
abbrev yJK:=rw3 215 .a (caC yC1 (caC cI (caC yOF caN))) (zW 2 (zW 4 (zW 4 zN)))
abbrev yRj(f1:yCO.T)(f2:yJJ.T)(f3:yC6.T)(x0:yAF)(x1:Int)(x2:yAK):Option ((List (List V))×(List (List V))×(List (List V))×Unit):=
 yAA (f1 x0) fun r1=>
 letI ql:=0+r1.1.length
 letI qf:=r1.2.1
 letI qe:=r1.2.2.1
 gF qf (0+qf.length)<|
 yAA (f2 (qf.take qf.length) x1 x2) fun r2=>
 letI qi:=w64 (r2+1)
 letI qd:=qf.take r2.toNat
 letI qk:=0+(qd.length)
 letI qb:=(qf.drop (0+qi.toNat)).take (qf.length-(qi.toNat))
 letI qg:=qk+(qb.length)
 bif decide (0<=r2) then
 gd (decide (0<=r2))<|
 gd (decide (r2<=(qf.length:Int)))<|
 gd (Nat.ble (0+r2.toNat) qf.length)<|
 gd (qd.all fun r=>Nat.beq r.length 4)<|
 gM qk 32<|
 gd (decide (0<=w64 (r2+1)))<|
 gd (decide (w64 (r2+1)<=(qf.length:Int)))<|
 gd (Nat.ble ((0+qi.toNat)+(qf.length-(qi.toNat))) qf.length)<|
 gd (qb.all fun r=>Nat.beq r.length 4)<|
 gd (Nat.beq (0+qk) (qd.length))<|
 gM qg 32<|
 gF r1.1 ql<|
 gF (qd++qb) (0+qg)<|
 gF qe (0+qe.length)<|
 yAA (f3 (⟨r1.1.take r1.1.length,(qd++qb).take qg,qe.take qe.length⟩:yAF)) fun r3=>
 gW r3.1 r3.1.length<|
 gW r3.2.1 r3.2.1.length<|
 gW r3.2.2.1 r3.2.2.1.length<|
 some (r3.1,r3.2.1,r3.2.2.1,())
 else
 gF qe (0+qe.length)<|
 yAA (f2 (qe.take qe.length) x1 x2) fun r4=>
 letI qj:=w64 (r4+1)
 letI qc:=qe.take r4.toNat
 letI qm:=0+(qc.length)
 letI qa:=(qe.drop (0+qj.toNat)).take (qe.length-(qj.toNat))
 letI qh:=qm+(qa.length)
 bif decide (0<=r4) then
 gd (decide (0<=r4))<|
 gd (decide (r4<=(qe.length:Int)))<|
 gd (Nat.ble (0+r4.toNat) qe.length)<|
 gd (qc.all fun r=>Nat.beq r.length 4)<|
 gM qm 32<|
 gd (decide (0<=w64 (r4+1)))<|
 gd (decide (w64 (r4+1)<=(qe.length:Int)))<|
 gd (Nat.ble ((0+qj.toNat)+(qe.length-(qj.toNat))) qe.length)<|
 gd (qa.all fun r=>Nat.beq r.length 4)<|
 gd (Nat.beq (0+qm) (qc.length))<|
 gM qh 32<|
 gF r1.1 ql<|
 gF qf (0+qf.length)<|
 gF (qc++qa) (0+qh)<|
 yAA (f3 (⟨r1.1.take r1.1.length,qf.take qf.length,(qc++qa).take qh⟩:yAF)) fun r5=>
 gW r5.1 r5.1.length<|
 gW r5.2.1 r5.2.1.length<|
 gW r5.2.2.1 r5.2.2.1.length<|
 some (r5.1,r5.2.1,r5.2.2.1,())
 else
 gF r1.1 ql<|
 gF qf (0+qf.length)<|
 gF qe (0+qe.length)<|
 yAA (f3 (⟨r1.1.take r1.1.length,qf.take qf.length,qe.take qe.length⟩:yAF)) fun r6=>
 gW r6.1 r6.1.length<|
 gW r6.2.1 r6.2.1.length<|
 gW r6.2.2.1 r6.2.2.1.length<|
 some (r6.1,r6.2.1,r6.2.2.1,())
theorem xDu(f1 f2 f3):yJK.Eq [yCO.s f1,yJJ.s f2,yC6.s f3] .no (yRj f1 f2 f3):=fun _=>by kernel_rfl
def yO8(L:Nat):yJK.T:=yRj (yCv L) (yQA L) (yDj L)
theorem xDt(L:Nat):yJK.C (yO8 L):=yJK.c (xDu (yCv L) (yQA L) (yDj L)) (tC (yLw L).ent (tC (xAQ L).ent (tC (yP8 L).ent tN))) Tryz.func215 (by kernel_rfl) (lN _)
abbrev yIU:=yAF×yAI×yAF×Bool×Int×Unit
abbrev yMZ:=yAF×yAF×Unit
abbrev yMa:=yAF×Unit
abbrev yLh{α:Type}(f1:yCO.T)(s:yIU)(kn:yIU->Option α)(k0:yMZ->Option α)(k1:yMa->Option α):Option α:=
 letI qb:=s.2.2.2.2.1
 bif decide (qb<(s.1.Slots.length:Int)) then
 bif !s.2.2.2.1 then
 gI s.1.Slots yAK.ks qb<|
 bif(aI s.1.Slots qb.toNat 0)==0 then
 yAA (f1 s.1) fun r1=>
 letI qc:=r1.1.getD (0+qb.toNat) []
 letI qa:=r1.1.set (0+qb.toNat) (qc.take 0++([V.int .i64 s.2.1.By]++qc.drop 1))
 gB qb r1.1.length<|
 gd (decide (0+qb.toNat<r1.1.length))<|
 gd (Nat.ble 0 (0+qb.toNat))<|
 gd (Nat.ble 1 qc.length)<|
 gF qa (0+r1.1.length)<|
 gF r1.2.1 (0+r1.2.1.length)<|
 gF r1.2.2.1 (0+r1.2.2.1.length)<|
 k1 ((⟨qa.take r1.1.length,r1.2.1.take r1.2.1.length,r1.2.2.1.take r1.2.2.1.length⟩:yAF),())
 else
 kn (s.1,s.2.1,s.2.2.1,s.2.2.2.1,w64 (qb+1),())
 else
 k0 (s.1,s.2.2.1,())
 else
 k0 (s.1,s.2.2.1,())
abbrev yIV:LW2 yIU yMZ yMa:=⟨(lvC 4 yDO (lvC 5 yQQ (lvC 6 yDO (lvC 8 (mP cdB) (lvC 11 (mP cI) lvN))))),(.exit 1),(lvC 4 yDO (lvC 6 yDO lvN)),.ret,(lvC 6 yDO lvN)⟩
theorem yWs{α:Type}(f1):yIV.Eq (α:=α) [yCO.s f1] Tryz.f162 [1,1,1,0,1,0,1,0,1,0] .no (yLh f1):=fun _ _ _=>by kernel_rfl
abbrev yHY:=fw3 162 (caC yCI (caC yC1 (caC yNy caN))) yC1
abbrev yHX(f1:yJI.T)(f2:yHZ.T)(f3:yK1.T)(f4:yJG.T)(f5:yEz.T)(f6:yCO.T)(f7:yC6.T)(f8:yJJ.T)(f9:yJK.T)(F0:LF2 yIU yMZ yMa (yAF))(x0:yAR)(x1:yAF)(x2:yAI):Option yAF:=
 yAA (f1 x1 x2.By) fun r1=>
 yAA (f1 x1 x2.Dead) fun r2=>
 letI qe:=0+r2.1.toNat
 bif x2.Kind==0 then
 F0 (x1,x2,yAF.z,r1.2.1,0,()) (fun q3=>
 some q3.1) (fun q4=>
 some q4.1)
 else
 bif x2.Kind==1 then
 bif r1.2.1 then
 yAA (f2 x1 r1.1) fun r5=>
 gF r5.1 (0+r5.1.length)<|
 gF r5.2.1 (0+r5.2.1.length)<|
 gF r5.2.2.1 (0+r5.2.2.1.length)<|
 some (⟨r5.1.take r5.1.length,r5.2.1.take r5.2.1.length,r5.2.2.1.take r5.2.2.1.length⟩:yAF)
 else
 some x1
 else
 bif x2.Kind==2 then
 yAA (f3 x1 x2.By) fun r6=>
 bif r1.2.1 then
 yAA (f4 x0 (⟨x2.By,x2.Span,x2.Mode⟩:yAL)) fun r7=>
 bif r7 then
 gF r6.1 (0+r6.1.length)<|
 yAA (f5 (r6.1.take r6.1.length) x2.By x2.Span) fun r8=>
 bif !r8 then
 bif decide ((r6.1.length:Int)<64) then
 yAA (f6 x1) fun r9=>
 letI qd:=r9.2.2.1.length+1
 letI qb:=r9.2.2.1++([[V.int .i64 x2.By,V.int .i64 x2.Span.Lo,V.int .i64 x2.Span.Hi,V.int .i8 x2.Mode]])
 gd (Nat.beq (0+r9.2.2.1.length) r9.2.2.1.length)<|
 gM qd 32<|
 gF r9.1 (0+r9.1.length)<|
 gF r9.2.1 (0+r9.2.1.length)<|
 gF qb (0+qd)<|
 yAA (f7 (⟨r9.1.take r9.1.length,r9.2.1.take r9.2.1.length,qb.take qd⟩:yAF)) fun r10=>
 gF r10.1 (0+r10.1.length)<|
 gF r10.2.1 (0+r10.2.1.length)<|
 gF r10.2.2.1 (0+r10.2.2.1.length)<|
 some (⟨r10.1.take r10.1.length,r10.2.1.take r10.2.1.length,r10.2.2.1.take r10.2.2.1.length⟩:yAF)
 else
 some x1
 else
 some x1
 else
 some x1
 else
 some x1
 else
 bif x2.Kind==3 then
 yAA (f8 x1.Holds x2.By x2.Span) fun r11=>
 bif decide (0<=r11) then
 yAA (f9 x1 x2.By x2.Span) fun r12=>
 gF r12.1 (0+r12.1.length)<|
 gF r12.2.1 (0+r12.2.1.length)<|
 gF r12.2.2.1 (0+r12.2.2.1.length)<|
 some (⟨r12.1.take r12.1.length,r12.2.1.take r12.2.1.length,r12.2.2.1.take r12.2.2.1.length⟩:yAF)
 else
 yAA (f8 x1.Queue x2.By x2.Span) fun r13=>
 bif decide (0<=r13) then
 yAA (f9 x1 x2.By x2.Span) fun r14=>
 gF r14.1 (0+r14.1.length)<|
 gF r14.2.1 (0+r14.2.1.length)<|
 gF r14.2.2.1 (0+r14.2.2.1.length)<|
 some (⟨r14.1.take r14.1.length,r14.2.1.take r14.2.1.length,r14.2.2.1.take r14.2.2.1.length⟩:yAF)
 else
 some x1
 else
 bif x2.Kind==4 then
 bif r2.2.1 then
 gI x1.Slots yAK.ks r2.1<|
 bif(aI x1.Slots r2.1.toNat 1)==x2.Was then
 bif x2.By !=x2.Dead then
 yAA (f6 x1) fun r15=>
 letI qc:=r15.1.getD qe []
 letI qa:=r15.1.set qe (qc.take 1++([V.int .i64 x2.By]++qc.drop 2))
 gB r2.1 r15.1.length<|
 gd (decide (0+r2.1.toNat<r15.1.length))<|
 gd (Nat.ble 0 qe)<|
 gd (Nat.ble 2 qc.length)<|
 gF qa (0+r15.1.length)<|
 gF r15.2.1 (0+r15.2.1.length)<|
 gF r15.2.2.1 (0+r15.2.2.1.length)<|
 some (⟨qa.take r15.1.length,r15.2.1.take r15.2.1.length,r15.2.2.1.take r15.2.2.1.length⟩:yAF)
 else
 some x1
 else
 some x1
 else
 some x1
 else
 bif x2.Kind==5 then
 bif r2.2.1 then
 bif x2.By !=0 then
 gI x1.Slots yAK.ks r2.1<|
 bif(aI x1.Slots r2.1.toNat 1)==x2.By then
 yAA (f2 x1 r2.1) fun r16=>
 gF r16.1 (0+r16.1.length)<|
 gF r16.2.1 (0+r16.2.1.length)<|
 gF r16.2.2.1 (0+r16.2.2.1.length)<|
 some (⟨r16.1.take r16.1.length,r16.2.1.take r16.2.1.length,r16.2.2.1.take r16.2.2.1.length⟩:yAF)
 else
 some x1
 else
 some x1
 else
 some x1
 else
 some x1
theorem xBf(f1 f2 f3 f4 f5 f6 f7 f8 f9 F0):yHY.Eq [yJI.s f1,yHZ.s f2,yK1.s f3,yJG.s f4,yEz.s f5,yCO.s f6,yC6.s f7,yJJ.s f8,yJK.s f9] (.two .no (.two .no (.two .no (.two (.two .no (.one (.two .no (.two (.two .no (.one (.lp (yIV.s F0)))) .no)))) .no)))) (yHX f1 f2 f3 f4 f5 f6 f7 f8 f9 F0):=fun _=>by kernel_rfl
def yCu(L:Nat):yHY.T:=yHX (yO7 L) (yNk L) (yRi L) (yO5 L) (yJv L) (yCv L) (yDj L) (yQA L) (yO8 L) (yAQ (yLh (yCv L)) L)
theorem yVY{α:Type}(L:Nat):LO Tryz.f162 [1,1,1,0,1,0,1,0,1,0] (yIV.s (α:=α) (yAQ (yLh (yCv L)) L)):=yIV.k (yWs (yCv L)) (tC (yLw L).ent tN) (lN _) (by kernel_rfl) L
theorem xBe(L:Nat):yHY.C (yCu L):=yHY.c (xBf (yO7 L) (yNk L) (yRi L) (yO5 L) (yJv L) (yCv L) (yDj L) (yQA L) (yO8 L) (yAQ (yLh (yCv L)) L)) (tC (xDr L).ent (tC (xBi L).ent (tC (xFO L).ent (tC (xDl L).ent (tC (yYR L).ent (tC (yLw L).ent (tC (yP8 L).ent (tC (xAQ L).ent (tC (xDt L).ent tN))))))))) Tryz.func162 (by kernel_rfl) (lS (lN _) (lS (lN _) (lS (lN _) (lS (lS (lN _) (lB (lS (lN _) (lQ (lS (lN _) (lB (lL (yVY L)))) (lN _))))) (lN _)))))
set_option maxRecDepth 100000
set_option maxHeartbeats 16000000
abbrev yHb:=(List (List V))×yAR×yAF×yAF×Int×Unit
abbrev yK5:=yAF×yAF×Unit
abbrev yGr{α:Type}(f1:yHY.T)(s:yHb)(kn:yHb->Option α)(k0:yK5->Option α):Option α:=
 letI qa:=s.2.2.2.2.1
 bif decide (qa<(s.1.length:Int)) then
 gI s.1 yAI.ks qa<|
 yAA (f1 s.2.1 s.2.2.2.1 (⟨aI s.1 qa.toNat 0,aI s.1 qa.toNat 1,aI s.1 qa.toNat 2,aI s.1 qa.toNat 3,aI s.1 qa.toNat 4,(⟨aI s.1 qa.toNat 5,aI s.1 qa.toNat 6⟩:yAK),aI s.1 qa.toNat 7⟩:yAI)) fun r1=>
 kn (s.1,s.2.1,s.2.2.1,r1,w64 (qa+1),())
 else
 k0 (s.2.2.1,s.2.2.2.1,())
abbrev yHc:LW1 yHb yK5:=⟨(lvC 1 (mP cdR) (lvC 2 yQR (lvC 4 yDO (lvC 5 yDO (lvC 6 (mP cI) lvN))))),(.exit 0),(lvC 4 yDO (lvC 5 yDO lvN))⟩
theorem yVd{α:Type}(f1):yHc.Eq (α:=α) [yHY.s f1] Tryz.f102 [1,1,0,1,0] .no (yGr f1):=fun _ _ _=>by kernel_rfl
abbrev yF3:=fw2 102 (caC yCI (caC cdR caN)) yC1
abbrev yOb(f1:yKz.T)(F0:LF1 yHb yK5 (yAF))(x0:yAR)(x1:List (List V)):Option yAF:=
 yAA (f1 x0) fun r1=>
 F0 (x1,x0,yAF.z,r1,0,()) (fun q2=>
 some q2.2.1)
theorem yZr(f1 F0):yF3.Eq [yKz.s f1] (.two .no (.two .no (.two (.two .no (.one (.lp (yHc.s F0)))) .no))) (yOb f1 F0):=fun _=>by kernel_rfl
def yLz(L:Nat):yF3.T:=yOb (yRe L) (yBV (yGr (yCu L)) L)
theorem yUX{α:Type}(L:Nat):LO Tryz.f102 [1,1,0,1,0] (yHc.s (α:=α) (yBV (yGr (yCu L)) L)):=yHc.k (yVd (yCu L)) (tC (xBe L).ent tN) (lN _) (by kernel_rfl) L
theorem yZq(L:Nat):yF3.C (yLz L):=yF3.c (yZr (yRe L) (yBV (yGr (yCu L)) L)) (tC (xFM L).ent tN) Tryz.func102 (by kernel_rfl) (lS (lN _) (lS (lN _) (lS (lS (lN _) (lB (lL (yUX L)))) (lN _))))
abbrev yK4:=fw2 26 (caC yCI (caC yHy caN)) (cdT (caC yC1 (caC cI (caC cI caN))))
abbrev yTH(f1:yK2.T)(f2:yF3.T)(x0:yAR)(x1:yAC):Option (yAF×Int×Int×Unit):=
 yAA (f1 x0 x1) fun r1=>
 bif r1.2.1 !=0 then
 some (yAF.z,0,r1.2.1,())
 else
 yAA (f2 x0 r1.1) fun r2=>
 some (r2,(r1.1.length:Int),0,())
theorem xFV(f1 f2):yK4.Eq [yK2.s f1,yF3.s f2] .no (yTH f1 f2):=fun _=>by kernel_rfl
def yRm(L:Nat):yK4.T:=yTH (yRk L) (yLz L)
theorem xFU(L:Nat):yK4.C (yRm L):=yK4.c (xFV (yRk L) (yLz L)) (tC (xFQ L).ent (tC (yZq L).ent tN)) Tryz.func26 (by kernel_rfl) (lN _)
abbrev yHC:=(List (List V))×ByteArray×(List (List V))×Int×Int×Unit
abbrev yKf:=ByteArray×(List (List V))×Int×Unit
abbrev yKg:=(List (List V))×ByteArray×Int×Unit
abbrev yDB{α:Type}(f1:yEY.T)(s:yHC)(kn:yHC->Option α)(k0:yKf->Option α)(k1:yKg->Option α):Option α:=
 letI qb:=s.2.2.1
 letI qa:=s.2.2.2.2.1
 bif decide (qa<(s.1.length:Int)) then
 gI s.1 kI qa<|
 yAA (f1 s.2.1 s.2.2.2.1 (aI s.1 qa.toNat 0)) fun r1=>
 bif r1.2.1 !=0 then
 k1 ([],noS,30,())
 else
 gd (Nat.beq (0+qb.length) qb.length)<|
 gM (qb.length+1) 8<|
 gI s.1 kI qa<|
 gW (qb++([[V.int .i64 r1.1]])) (qb.length+1)<|
 kn (s.1,s.2.1,qb++([[V.int .i64 r1.1]]),w64 (s.2.2.2.1+(aI s.1 qa.toNat 0)),w64 (qa+1),())
 else
 gW qb qb.length<|
 k0 (s.2.1,qb,s.2.2.2.1,())
abbrev yHD:LW2 yHC yKf yKg:=⟨(lvC 2 (mP cdR) (lvC 9 (mP cdS) (lvC 11 (mW 1) (lvC 12 (mP cI) (lvC 13 (mP cI) lvN))))),(.exit 0),(lvC 9 (mP cdS) (lvC 11 (mW 1) (lvC 12 (mP cI) lvN))),.ret,(lvC 6 (mW 1) (lvC 7 (mP cdS) (lvC 8 (mP cI) lvN)))⟩
theorem yVK{α:Type}(f1):yHD.Eq (α:=α) [yEY.s f1] Tryz.f103 [1,1,1,1,1,0,1,0] .no (yDB f1):=fun _ _ _=>by kernel_rfl
abbrev yFx:=rw3 103 .t (caC (cdI .i8) (caC cdS (caC cdR caN))) (zW 1 (zP cdS (zP cI zN)))
abbrev yOU(f1:yI7.T)(F0:LF2 yHC yKf yKg ((List (List V))×ByteArray×Int×Unit))(x0:Int)(x1:ByteArray)(x2:List (List V)):Option ((List (List V))×ByteArray×Int×Unit):=
 yAA (f1 x0 x1) fun r1=>
 bif r1.2.1 !=0 then
 some ([],noS,r1.2.1,())
 else
 F0 (x2,r1.1,[],0,0,()) (fun q2=>
 gd (decide (0<=q2.2.2.1))<|
 gd (decide (q2.2.2.1<=(q2.1.size:Int)))<|
 gW q2.2.1 q2.2.1.length<|
 some (q2.2.1,q2.1.extract q2.2.2.1.toNat q2.1.size,0,())) (fun q3=>
 gW q3.1 q3.1.length<|
 some (q3.1,q3.2.1,q3.2.2.1,()))
theorem yZT(f1 F0):yFx.Eq [yI7.s f1] (.two .no (.two .no (.two .no (.two .no (.two .no (.two (.two .no (.one (.lp (yHD.s F0)))) .no)))))) (yOU f1 F0):=fun _=>by kernel_rfl
def yI6(L:Nat):yFx.T:=yOU (yN9 L) (yAQ (yDB (yAv L)) L)
theorem yUJ{α:Type}(L:Nat):LO Tryz.f103 [1,1,1,1,1,0,1,0] (yHD.s (α:=α) (yAQ (yDB (yAv L)) L)):=yHD.k (yVK (yAv L)) (tC (ySz L).ent tN) (lN _) (by kernel_rfl) L
theorem yZS(L:Nat):yFx.C (yI6 L):=yFx.c (yZT (yN9 L) (yAQ (yDB (yAv L)) L)) (tC (xAP L).ent tN) Tryz.func103 (by kernel_rfl) (lS (lN _) (lS (lN _) (lS (lN _) (lS (lN _) (lS (lN _) (lS (lS (lN _) (lB (lL (yUJ L)))) (lN _)))))))
abbrev yJD:=fw1 27 (caC cdS caN) (cdT (caC cI (caC cI caN)))
abbrev yRX(f1:yFx.T)(x0:ByteArray):Option (Int×Int×Unit):=
 yAA (f1 3 x0 ([[V.int .i64 6],[V.int .i64 6]])) fun r1=>
 letI qb:=decide (1<(r1.1.length:Int))
 letI qa:=decide (0<(r1.1.length:Int))
 bif r1.2.2.1 !=0 then
 some (0,0,())
 else
 bif !(r1.2.1.toList==noS.toList) then
 some (0,0,())
 else
 gd qa<|
 gL r1.1 kI 0 0<|
 bif decide (aI r1.1 0 0<1) then
 some (0,0,())
 else
 gd qb<|
 gL r1.1 kI 1 0<|
 bif decide (aI r1.1 1 0<1) then
 some (0,0,())
 else
 gd qa<|
 gL r1.1 kI 0 0<|
 gd qb<|
 gL r1.1 kI 1 0<|
 some (aI r1.1 0 0,aI r1.1 1 0,())
theorem xDi(f1):yJD.Eq [yFx.s f1] .no (yRX f1):=fun _=>by kernel_rfl
def yO4(L:Nat):yJD.T:=yRX (yI6 L)
theorem xDh(L:Nat):yJD.C (yO4 L):=yJD.c (xDi (yI6 L)) (tC (yZS L).ent tN) Tryz.func27 (by kernel_rfl) (lN _)
abbrev yEF:=fw2 28 (caC yCI (caC cI caN)) cI
abbrev yPb(f1:yBk.T)(f2:yDG.T)(x0:yAR)(x1:Int):Option Int:=
 yAA (f1 x0) fun r1=>
 bif !r1 then
 some (-1)
 else
 yAA (f2 x1 0 (w64 (x0.Nodes-1))) fun r2=>
 bif !r2 then
 some (-1)
 else
 some (w64 (1+x1))
theorem xBJ(f1 f2):yEF.Eq [yBk.s f1,yDG.s f2] .no (yPb f1 f2):=fun _=>by kernel_rfl
def yDL(L:Nat):yEF.T:=yPb (yCc L) (yHG L)
theorem yUK(L:Nat):yEF.C (yDL L):=yEF.c (xBJ (yCc L) (yHG L)) (tC (yGn L).ent (tC (yO1 L).ent tN)) Tryz.func28 (by kernel_rfl) (lN _)
abbrev yEk:=(List (List V))×(List (List V))×Int×Unit
abbrev yHp:=Unit
abbrev yHq:=Bool×Unit
abbrev yEH{α:Type}(s:yEk)(kn:yEk->Option α)(k0:yHp->Option α)(k1:yHq->Option α):Option α:=
 letI qa:=s.2.2.1
 bif decide (qa<(s.1.length:Int)) then
 gI s.1 yAL.ks qa<|
 gI s.2.1 yAL.ks qa<|
 bif !(((aI s.1 qa.toNat 0)==(aI s.2.1 qa.toNat 0))&&(((aI s.1 qa.toNat 1)==(aI s.2.1 qa.toNat 1))&&(((aI s.1 qa.toNat 2)==(aI s.2.1 qa.toNat 2))&&(((aI s.1 qa.toNat 3)==(aI s.2.1 qa.toNat 3))&&true)))) then
 k1 (false,())
 else
 kn (s.1,s.2.1,w64 (qa+1),())
 else
 k0 (())
abbrev yEl:LW2 yEk yHp yHq:=⟨(lvC 0 (mP cdR) (lvC 1 (mP cdR) (lvC 5 (mP cI) lvN))),(.exit 0),lvN,.ret,(lvC 4 (mP cdB) lvN)⟩
theorem ySF{α:Type}:yEl.Eq (α:=α) [] Tryz.f104 [1,1,0,1,0] .no (yEH):=fun _ _ _=>by kernel_rfl
abbrev yDZ:=fw2 104 (caC cdR (caC cdR caN)) cdB
abbrev yK0(F0:LF2 yEk yHp yHq (Bool))(x0:List (List V))(x1:List (List V)):Option Bool:=
 bif(x0.length:Int) !=(x1.length:Int) then
 some false
 else
 F0 (x0,x1,0,()) (fun q1=>
 some true) (fun q2=>
 some q2.1)
theorem yVb(F0):yDZ.Eq [] (.two .no (.two .no (.two (.two .no (.one (.lp (yEl.s F0)))) .no))) (yK0 F0):=fun _=>by kernel_rfl
def yGq(L:Nat):yDZ.T:=yK0 (yAQ (yEH) L)
theorem yRf{α:Type}(L:Nat):LO Tryz.f104 [1,1,0,1,0] (yEl.s (α:=α) (yAQ (yEH) L)):=yEl.k (ySF) tN (lN _) (by kernel_rfl) L
theorem yVa(L:Nat):yDZ.C (yGq L):=yDZ.c (yVb (yAQ (yEH) L)) tN Tryz.func104 (by kernel_rfl) (lS (lN _) (lS (lN _) (lS (lS (lN _) (lB (lL (yRf L)))) (lN _))))
set_option maxRecDepth 100000
set_option maxHeartbeats 16000000
abbrev yJz:=yAF×yAF×Int×Unit
abbrev yNg:=Unit
abbrev yNh:=Bool×Unit
abbrev yJy{α:Type}(s:yJz)(kn:yJz->Option α)(k0:yNg->Option α)(k1:yNh->Option α):Option α:=
 letI qa:=s.2.2.1
 bif decide (qa<(s.1.Slots.length:Int)) then
 gI s.1.Slots yAK.ks qa<|
 gI s.2.1.Slots yAK.ks qa<|
 bif !(((aI s.1.Slots qa.toNat 0)==(aI s.2.1.Slots qa.toNat 0))&&(((aI s.1.Slots qa.toNat 1)==(aI s.2.1.Slots qa.toNat 1))&&true)) then
 k1 (false,())
 else
 kn (s.1,s.2.1,w64 (qa+1),())
 else
 k0 (())
abbrev yJ0:LW2 yJz yNg yNh:=⟨(lvC 2 yDO (lvC 3 yDO (lvC 5 (mP cI) lvN))),(.exit 0),lvN,.ret,(lvC 4 (mP cdB) lvN)⟩
theorem yYU{α:Type}:yJ0.Eq (α:=α) [] Tryz.f29 [1,1,0,1,0] .no (yJy):=fun _ _ _=>by kernel_rfl
abbrev yJH:=fw2 29 (caC yC1 (caC yC1 caN)) cdB
abbrev yRg(f1:yDZ.T)(F0:LF2 yJz yNg yNh (Bool))(x0:yAF)(x1:yAF):Option Bool:=
 bif(x0.Slots.length:Int) !=(x1.Slots.length:Int) then
 some false
 else
 yAA (f1 x0.Holds x1.Holds) fun r1=>
 bif !r1 then
 some false
 else
 yAA (f1 x0.Queue x1.Queue) fun r2=>
 bif !r2 then
 some false
 else
 F0 (x0,x1,0,()) (fun q3=>
 some true) (fun q4=>
 some q4.1)
theorem xDq(f1 F0):yJH.Eq [yDZ.s f1] (.two .no (.two .no (.two (.two .no (.one (.lp (yJ0.s F0)))) .no))) (yRg f1 F0):=fun _=>by kernel_rfl
def yO6(L:Nat):yJH.T:=yRg (yGq L) (yAQ (yJy) L)
theorem yWu{α:Type}(L:Nat):LO Tryz.f29 [1,1,0,1,0] (yJ0.s (α:=α) (yAQ (yJy) L)):=yJ0.k (yYU) tN (lN _) (by kernel_rfl) L
theorem xDp(L:Nat):yJH.C (yO6 L):=yJH.c (xDq (yGq L) (yAQ (yJy) L)) (tC (yVa L).ent tN) Tryz.func29 (by kernel_rfl) (lS (lN _) (lS (lN _) (lS (lS (lN _) (lB (lL (yWu L)))) (lN _))))
set_option maxRecDepth 100000
set_option maxHeartbeats 16000000
abbrev yD9:=Int×Int×yAR×yAC×yAC×yBO×yAF×Int×Int×Int×Int×Unit
abbrev yGe:=Int×Int×yAC×yBO×yAF×Int×Int×Int×Unit
abbrev yGf:=Bool×Unit
abbrev yCr{α:Type}(f1:yEF.T)(s:yD9)(kn:yD9->Option α)(k0:yGe->Option α)(k1:yGf->Option α):Option α:=
 letI qf:=s.2.2.2.1
 letI qe:=s.2.2.2.2.2.2.2.1
 letI qd:=s.2.2.2.2.2.2.2.2.1
 letI qc:=s.2.2.2.2.1
 letI qb:=s.2.2.2.2.2.2.2.2.2.1
 letI qa:=s.2.2.2.2.2.2.2.2.2.2.1
 bif decide (qa<(qf.S.length:Int)) then
 yAA (f1 s.2.2.1 s.1) fun r1=>
 bif qa !=r1 then
 gI qf.S kS qa<|
 gI qc.S kS qa<|
 bif !((aS qf.S qa.toNat 0).toList==(aS qc.S qa.toNat 0).toList) then
 k1 (false,())
 else
 kn (s.1,s.2.1,s.2.2.1,qf,qc,s.2.2.2.2.2.1,s.2.2.2.2.2.2.1,qe,qd,qb,w64 (qa+1),())
 else
 kn (s.1,s.2.1,s.2.2.1,qf,qc,s.2.2.2.2.2.1,s.2.2.2.2.2.2.1,qe,qd,qb,w64 (qa+1),())
 else
 k0 (s.1,s.2.1,qc,s.2.2.2.2.2.1,s.2.2.2.2.2.2.1,qe,qd,qb,())
abbrev yEA:LW2 yD9 yGe yGf:=⟨(lvC 2 (mP cI) (lvC 3 (mP cI) (lvC 4 yQR (lvC 9 yAM (lvC 16 yAM (lvC 17 yJi (lvC 21 yDO (lvC 22 (mP cI) (lvC 24 (mP cI) (lvC 25 (mP cI) (lvC 26 (mP cI) lvN))))))))))),(.exit 2),(lvC 2 (mP cI) (lvC 3 (mP cI) (lvC 16 yAM (lvC 17 yJi (lvC 21 yDO (lvC 22 (mP cI) (lvC 24 (mP cI) (lvC 25 (mP cI) lvN)))))))),.ret,(lvC 8 (mP cdB) lvN)⟩
theorem yQ8{α:Type}(f1):yEA.Eq (α:=α) [yEF.s f1] Tryz.f4 [1,1,1,1,1,1,1,1,1,0,1,0] .no (yCr f1):=fun _ _ _=>by kernel_rfl
abbrev yD7:=(List (List V))×Int×Int×yAR×((List (List V))×(List (List V))×(List (List V))×Int×(List (List V))×Unit)×Bool×Int×Unit
abbrev yGc:=(List (List V))×Int×Int×yAR×yAC×Bool×Unit
abbrev yGd:=Bool×Unit
abbrev yDg{α:Type}(f1:yEG.T)(f2:yHa.T)(f3:yEB.T)(f4:yGm.T)(s:yD7)(kn:yD7->Option α)(k0:yGc->Option α)(k1:yGd->Option α):Option α:=
 letI qc:=s.2.2.2.2.1.1
 letI qb:=s.2.2.2.2.2.2.1
 bif decide (qb<(s.1.length:Int)) then
 gI s.1 yAI.ks qb<|
 yAA (f1 (⟨aI s.1 qb.toNat 0,aI s.1 qb.toNat 1,aI s.1 qb.toNat 2,aI s.1 qb.toNat 3,aI s.1 qb.toNat 4,(⟨aI s.1 qb.toNat 5,aI s.1 qb.toNat 6⟩:yAK),aI s.1 qb.toNat 7⟩:yAI)) fun r1=>
 yAA (f2 r1.1) fun r2=>
 bif r1.2.1 !=0 then
 yAA (f3) fun r3=>
 k1 (r3,())
 else
 bif r2.2.1 !=0 then
 yAA (f3) fun r4=>
 k1 (r4,())
 else
 bif !s.2.2.2.2.2.1 then
 yAA (f3) fun r5=>
 k1 (r5,())
 else
 yAA (f4 s.2.2.2.1 qb) fun r6=>
 letI qe:=0+r6.toNat
 letI qa:=qc.getD qe []
 letI qd:=qa.take 0++([V.str r2.1]++qa.drop 1)
 gB r6 qc.length<|
 gd (decide (0+r6.toNat<qc.length))<|
 gd (Nat.ble 0 qe)<|
 gd (Nat.ble 1 qa.length)<|
 gW (qc.set qe qd) qc.length<|
 kn (s.1,s.2.1,s.2.2.1,s.2.2.2.1,(qc.set qe qd,s.2.2.2.2.1.2.1,s.2.2.2.2.1.2.2.1,s.2.2.2.2.1.2.2.2.1,s.2.2.2.2.1.2.2.2.2.1,()),s.2.2.2.2.2.1,w64 (qb+1),())
 else
 gF qc (0+qc.length)<|
 k0 (s.1,s.2.1,s.2.2.1,s.2.2.2.1,(⟨qc.take qc.length,s.2.2.2.2.1.2.1,s.2.2.2.2.1.2.2.1,s.2.2.2.2.1.2.2.2.1,s.2.2.2.2.1.2.2.2.2.1⟩:yAC),s.2.2.2.2.2.1,())
abbrev yD8:LW2 yD7 yGc yGd:=⟨(lvC 1 (mP cdR) (lvC 2 (mP cI) (lvC 3 (mP cI) (lvC 4 yQR (lvC 9 (mO (zW 1 (zP cdR (zP cdR (zP cI (zP cdR zN))))) 5) (lvC 10 (mP cdB) (lvC 11 (mP cI) lvN))))))),(.exit 0),(lvC 1 (mP cdR) (lvC 2 (mP cI) (lvC 3 (mP cI) (lvC 4 yQR (lvC 9 yAM (lvC 10 (mP cdB) lvN)))))),.ret,(lvC 8 (mP cdB) lvN)⟩
theorem yQ7{α:Type}(f1 f2 f3 f4):yD8.Eq (α:=α) [yEG.s f1,yHa.s f2,yEB.s f3,yGm.s f4] Tryz.f4 [1,1,1,0,1,0] .no (yDg f1 f2 f3 f4):=fun _ _ _=>by kernel_rfl
abbrev yGN:=fw4 4 (caC yCI (caC cdR (caC cI (caC cI caN)))) cdB
abbrev yJf(f1:yBk.T)(f2:yEB.T)(f3:yFJ.T)(f4:yEX.T)(f5:yK4.T)(f6:yEF.T)(f7:yJD.T)(f8:yJH.T)(F0:LF2 yD7 yGc yGd (Bool))(F1:LF2 yD9 yGe yGf (Bool))(x0:yAR)(x1:List (List V))(x2:Int)(x3:Int):Option Bool:=
 yAA (f1 x0) fun r1=>
 bif !r1 then
 yAA (f2) fun r2=>
 some r2
 else
 bif decide (8<x0.Blocks) then
 yAA (f2) fun r3=>
 some r3
 else
 bif decide (40<(x1.length:Int)) then
 yAA (f2) fun r4=>
 some r4
 else
 bif decide (x0.Log<(x1.length:Int)) then
 yAA (f2) fun r5=>
 some r5
 else
 bif decide (x2<0) then
 yAA (f2) fun r6=>
 some r6
 else
 bif decide (x0.Nodes<=x2) then
 yAA (f2) fun r7=>
 some r7
 else
 yAA (f3 x0) fun r8=>
 letI qc:=r8.2.2.2.2.1
 gW r8.1 r8.1.length<|
 gF r8.2.1 (0+r8.2.1.length)<|
 gF r8.2.2.1 (0+r8.2.2.1.length)<|
 gF qc (0+qc.length)<|
 F0 (x1,x2,x3,x0,(r8.1,r8.2.1.take r8.2.1.length,r8.2.2.1.take r8.2.2.1.length,r8.2.2.2.1,qc.take qc.length,()),r8.2.2.2.2.2.1,0,()) (fun q9=>
 letI qd:=q9.2.2.2.2.1
 letI qa:=q9.2.2.2.1
 yAA (f4 qa qd (⟨q9.2.1,q9.2.2.1,true,0,0,0,0,false,0,0,0,yAF.z,0,0,ySe.z,[],[],[],false,false,xCH.z,0,yAP.z,yDe.z,yAG.z,yCV.z,yCp.z⟩:yBO) 13 (w64 ((w64 ((w64 (qa.Log+(w64 (2*(w64 ((w64 (4*qa.Nodes))+10))))))+(w64 ((w64 (2*qa.Blocks))*qa.Per))))+8))) fun r10=>
 yAA (f5 qa qd) fun r11=>
 bif !q9.2.2.2.2.2.1 then
 some false
 else
 bif !r10.2.2.2.2.1 then
 some false
 else
 bif r10.2.2.1.E !=0 then
 some false
 else
 bif r11.2.2.1 !=0 then
 some false
 else
 bif decide (w64 ((q9.1.length:Int)+4)<r10.2.2.2.1) then
 some false
 else
 bif(r10.1.S.length:Int) !=(qd.S.length:Int) then
 some false
 else
 yAA (f6 qa q9.2.1) fun r12=>
 gI r10.1.S kS r12<|
 yAA (f7 (aS r10.1.S r12.toNat 0)) fun r13=>
 F1 (q9.2.1,q9.2.2.1,qa,r10.1,qd,r10.2.1,r11.1,r11.2.1,r13.1,r13.2.1,0,()) (fun q14=>
 letI qb:=q14.2.2.2.1
 bif qb.Key==(w64 ((w64 (16*q14.2.2.1.Next))+q14.1)) then
 bif q14.2.2.2.2.2.2.1==qb.Key then
 bif q14.2.2.2.2.2.2.2.1==1 then
 bif qb.Count==1 then
 bif qb.Asked==q14.2.1 then
 bif qb.Done==q14.2.2.2.2.2.1 then
 yAA (f8 qb.Table q14.2.2.2.2.1) fun r15=>
 bif r15 then
 bif !qb.Mounted then
 yAA (f2) fun r16=>
 some r16
 else
 some false
 else
 some false
 else
 some false
 else
 some false
 else
 some false
 else
 some false
 else
 some false
 else
 some false) (fun q17=>
 some q17.1)) (fun q18=>
 some q18.1)
theorem yT2(f1 f2 f3 f4 f5 f6 f7 f8 F0 F1):yGN.Eq [yBk.s f1,yEB.s f2,yFJ.s f3,yEX.s f4,yK4.s f5,yEF.s f6,yJD.s f7,yJH.s f8] (.two .no (.two .no (.two .no (.two (.two .no (.one (.lp (yD8.s F0)))) (.two .no (.two .no (.two .no (.two .no (.two .no (.two (.two .no (.one (.lp (yEA.s F1)))) .no)))))))))) (yJf f1 f2 f3 f4 f5 f6 f7 f8 F0 F1):=fun _=>by kernel_rfl
def yMC(L:Nat):yGN.T:=yJf (yCc L) (yDJ L) (yG6 L) (yEr L) (yRm L) (yDL L) (yO4 L) (yO6 L) (yAQ (yDg (yCE L) (yEc L) (yDJ L) (yFk L)) L) (yAQ (yCr (yDL L)) L)
theorem yQd{α:Type}(L:Nat):LO Tryz.f4 [1,1,1,1,1,1,1,1,1,0,1,0] (yEA.s (α:=α) (yAQ (yCr (yDL L)) L)):=yEA.k (yQ8 (yDL L)) (tC (yUK L).ent tN) (lN _) (by kernel_rfl) L
theorem yQc{α:Type}(L:Nat):LO Tryz.f4 [1,1,1,0,1,0] (yD8.s (α:=α) (yAQ (yDg (yCE L) (yEc L) (yDJ L) (yFk L)) L)):=yD8.k (yQ7 (yCE L) (yEc L) (yDJ L) (yFk L)) (tC (yUV L).ent (tC (xBk L).ent (tC (yT3 L).ent (tC (yYM L).ent tN)))) (lN _) (by kernel_rfl) L
theorem yT1(L:Nat):yGN.C (yMC L):=yGN.c (yT2 (yCc L) (yDJ L) (yG6 L) (yEr L) (yRm L) (yDL L) (yO4 L) (yO6 L) (yAQ (yDg (yCE L) (yEc L) (yDJ L) (yFk L)) L) (yAQ (yCr (yDL L)) L)) (tC (yGn L).ent (tC (yT3 L).ent (tC (yV0 L).ent (tC (ySu L).ent (tC (xFU L).ent (tC (yUK L).ent (tC (xDh L).ent (tC (xDp L).ent tN)))))))) Tryz.func4 (by kernel_rfl) (lS (lN _) (lS (lN _) (lS (lN _) (lS (lS (lN _) (lB (lL (yQc L)))) (lS (lN _) (lS (lN _) (lS (lN _) (lS (lN _) (lS (lN _) (lS (lS (lN _) (lB (lL (yQd L)))) (lN _)))))))))))
end Go.Proofs.YtakljpcmbpaeaaaGreat
