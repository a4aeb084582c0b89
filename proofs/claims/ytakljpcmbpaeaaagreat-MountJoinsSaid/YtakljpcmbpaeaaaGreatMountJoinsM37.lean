/- Typed functions. (printed by wip/sx) -/
import Derived.Test.YtakljpcmbpaeaaaGreatMountJoinsM36
set_option linter.unusedSimpArgs false
set_option linter.unusedVariables false
namespace Go.Proofs.YtakljpcmbpaeaaaGreat
open Go.RowKit
set_option maxRecDepth 100000
set_option maxHeartbeats 16000000
abbrev yFw:=fw1 125 (caC (cdI .i8) caN) cdB
abbrev ySV(x0:Int):Option Bool:=
 bif x0 !=13 then
 bif x0 !=0 then
 some (x0 !=1)
 else
 some false
 else
 some false
theorem yZK:yFw.Eq [] .no (ySV):=fun _=>by kernel_rfl
def yLt(L:Nat):yFw.T:=ySV
theorem yZJ(L:Nat):yFw.C (yLt L):=yFw.c (yZK) tN Tryz.func125 (by kernel_rfl) (lN _)
abbrev yBr:=(List (List V))×Unit×Int×Int×Unit
abbrev yCR:=Unit
abbrev yCS:=Int×Unit
abbrev yB3{α:Type}(f1:yFw.T)(s:yBr)(kn:yBr->Option α)(k0:yCR->Option α)(k1:yCS->Option α):Option α:=
 letI qa:=s.2.2.2.1
 bif decide (qa<s.2.2.1) then
 gI s.1 [.i .i8] qa<|
 yAA (f1 (aI s.1 qa.toNat 0)) fun r1=>
 bif r1 then
 k1 (qa,())
 else
 kn (s.1,(()),s.2.2.1,w64 (qa+1),())
 else
 k0 (())
abbrev yBs:LW2 yBr yCR yCS:=⟨(lvC 0 (mP cdR) (lvC 1 (mP (cdF 125 caN)) (lvC 7 (mP cI) (lvC 8 (mP cI) lvN)))),(.exit 0),lvN,.ret,(lvC 4 (mP cI) lvN)⟩
theorem yH8{α:Type}(f1):yBs.Eq (α:=α) [yFw.s f1] Tryz.f182 [1,0,1,0] .no (yB3 f1):=fun _ _ _=>by kernel_rfl
abbrev yBD:=fw2 182 (caC cdR (caC (cdF 125 caN) caN)) cI
abbrev yEQ(F0:LF2 yBr yCR yCS (Int))(x0:List (List V))(x1:Unit):Option Int:=
 F0 (x0,(()),(x0.length:Int),0,()) (fun q1=>
 some (-1)) (fun q2=>
 some q2.1)
theorem yJ9(F0):yBD.Eq [] (.two .no (.two (.two .no (.one (.lp (yBs.s F0)))) .no)) (yEQ F0):=fun _=>by kernel_rfl
def yCy(L:Nat):yBD.T:=yEQ (yAQ (yB3 (yLt L)) L)
theorem yHs{α:Type}(L:Nat):LO Tryz.f182 [1,0,1,0] (yBs.s (α:=α) (yAQ (yB3 (yLt L)) L)):=yBs.k (yH8 (yLt L)) (tC (yZJ L).ent tN) (lN _) (by kernel_rfl) L
theorem yJ8(L:Nat):yBD.C (yCy L):=yBD.c (yJ9 (yAQ (yB3 (yLt L)) L)) tN Tryz.func182 (by kernel_rfl) (lS (lN _) (lS (lS (lN _) (lB (lL (yHs L)))) (lN _)))
abbrev yAr:=fw2 124 (caC cdR (caC (cdF 125 caN) caN)) cdB
abbrev yDW(f1:yBD.T)(x0:List (List V))(x1:Unit):Option Bool:=
 yAA (f1 x0 (())) fun r1=>
 some (decide (0<=r1))
theorem yH7(f1):yAr.Eq [(182,spF 1 [(125,(yBD.s f1).2)])] .no (yDW f1):=fun _=>by kernel_rfl
def yCZ(L:Nat):yAr.T:=yDW (yCy L)
theorem yH6(L:Nat):yAr.C (yCZ L):=yAr.c (yH7 (yCy L)) (tC (yQW (yHi (yJ8 L).ent yMd)) tN) Tryz.func124 (by kernel_rfl) (lN _)
abbrev yIx:=fw1 57 (caC cdR caN) cdB
abbrev yV5(f1:yAr.T)(x0:List (List V)):Option Bool:=
 yAA (f1 x0 (())) fun r1=>
 some !r1
theorem xC8(f1):yIx.Eq [(124,spF 1 [(125,(yAr.s f1).2)])] .no (yV5 f1):=fun _=>by kernel_rfl
def yR4(L:Nat):yIx.T:=yV5 (yCZ L)
theorem xC7(L:Nat):yIx.C (yR4 L):=yIx.c (xC8 (yCZ L)) (tC (yQW (yHi (yH6 L).ent yMd)) tN) Tryz.func57 (by kernel_rfl) (lN _)
abbrev yC9:=fw1 232 (caC cI caN) cdB
abbrev yNT(x0:Int):Option Bool:=
 bif decide (1<=x0) then
 some (decide (x0<=6))
 else
 some false
theorem yX4:yC9.Eq [] .no (yNT):=fun _=>by kernel_rfl
def yEC(L:Nat):yC9.T:=yNT
theorem yRE(L:Nat):yC9.C (yEC L):=yC9.c (yX4) tN Tryz.func232 (by kernel_rfl) (lN _)
abbrev yN3:=ByteArray×Int×Int×Int×Int×Unit
abbrev yRC:=Int×Unit
abbrev yKb{α:Type}(s:yN3)(kn:yN3->Option α)(k0:yRC->Option α):Option α:=
 letI qa:=s.2.2.2.2.1
 bif decide (qa<s.2.2.2.1) then
 gB (w64 (s.2.1+qa)) s.1.size<|
 gd (!(decide (w64 (8*qa)<0)))<|
 kn (s.1,s.2.1,IntKind.i64.wrap ((BitVec.ofInt IntKind.i64.bits s.2.2.1 ||| BitVec.ofInt IntKind.i64.bits (IntKind.i64.wrap ((w64 (((s.1[(w64 (s.2.1+qa)).toNat]?).getD 0).toNat:Int))*2^(min (w64 (8*qa)).toNat IntKind.i64.bits)))).toNat:Int),s.2.2.2.1,w64 (qa+1),())
 else
 k0 (s.2.2.1,())
abbrev yN4:LW1 yN3 yRC:=⟨(lvC 0 (mP cdS) (lvC 1 (mP cI) (lvC 6 (mP cI) (lvC 30 (mP cI) (lvC 31 (mP cI) lvN))))),(.exit 1),(lvC 6 (mP cI) lvN)⟩
theorem xDF{α:Type}:yN4.Eq (α:=α) [] Tryz.f234 [1,1,0,1,0] .no (yKb):=fun _ _ _=>by kernel_rfl
abbrev yDM:=fw3 234 (caC cdS (caC cI (caC cI caN))) (cdT (caC cI (caC cI caN)))
abbrev yX0(f1:yC9.T)(F0:LF1 yN3 yRC (Int×Int×Unit))(x0:ByteArray)(x1:Int)(x2:Int):Option (Int×Int×Unit):=
 yAA (f1 x2) fun r1=>
 bif !r1 then
 some (0,2,())
 else
 bif decide (x1<0) then
 some (0,10,())
 else
 bif decide ((x0.size:Int)<x1) then
 some (0,10,())
 else
 bif decide (w64 ((x0.size:Int)-x1)<x2) then
 some (0,10,())
 else
 F0 (x0,x1,0,x2,0,()) (fun q2=>
 bif decide (1099511627776<q2.1) then
 some (0,10,())
 else
 some (q2.1,0,()))
theorem xI6(f1 F0):yDM.Eq [yC9.s f1] (.two .no (.two .no (.two (.two .no (.one (.lp (yN4.s F0)))) .no))) (yX0 f1 F0):=fun _=>by kernel_rfl
def yBX(L:Nat):yDM.T:=yX0 (yEC L) (yBV (yKb) L)
theorem xBB{α:Type}(L:Nat):LO Tryz.f234 [1,1,0,1,0] (yN4.s (α:=α) (yBV (yKb) L)):=yN4.k (xDF) tN (lN _) (by kernel_rfl) L
theorem yOt(L:Nat):yDM.C (yBX L):=yDM.c (xI6 (yEC L) (yBV (yKb) L)) (tC (yRE L).ent tN) Tryz.func234 (by kernel_rfl) (lS (lN _) (lS (lN _) (lS (lS (lN _) (lB (lL (xBB L)))) (lN _))))
abbrev yD5:=fw1 181 (caC cI caN) cdB
abbrev yPF(x0:Int):Option Bool:=
 bif decide (16<=x0) then
 some (decide (x0<=1099511627776))
 else
 some false
theorem xAq:yD5.Eq [] .no (yPF):=fun _=>by kernel_rfl
def yIc(L:Nat):yD5.T:=yPF
theorem yTm(L:Nat):yD5.C (yIc L):=yD5.c (xAq) tN Tryz.func181 (by kernel_rfl) (lN _)
abbrev yCC:=fw1 185 (caC (cdP yWJ) caN) cdB
abbrev yId(f1:yD5.T)(x0:yAl):Option Bool:=
 letI qc:=x0.Cmd.Span.Lo<=x0.Cmd.Span.Hi
 letI qb:=x0.Cmd.Span.Lo==0
 letI qa:=(x0.Cmd.Span.Hi==0)&&true
 yAA (f1 x0.Cmd.By) fun r1=>
 bif !r1 then
 some false
 else
 bif decide (x0.Cmd.Serial<1) then
 some false
 else
 bif decide (2147483648<x0.Cmd.Serial) then
 some false
 else
 bif x0.Cmd.Kind==0 then
 bif qb&&qa then
 bif x0.Cmd.Mode==0 then
 bif x0.Cmd.Dead==0 then
 bif x0.Cmd.Was==0 then
 some true
 else
 some false
 else
 some false
 else
 some false
 else
 some false
 else
 bif x0.Cmd.Kind==1 then
 bif qb&&qa then
 bif x0.Cmd.Mode==0 then
 bif x0.Cmd.Dead==0 then
 bif x0.Cmd.Was==0 then
 some true
 else
 some false
 else
 some false
 else
 some false
 else
 some false
 else
 bif x0.Cmd.Kind==2 then
 bif decide (0<=x0.Cmd.Span.Lo) then
 bif decide qc then
 bif decide (x0.Cmd.Span.Hi<64) then
 bif x0.Cmd.Mode==1 then
 bif x0.Cmd.Dead==0 then
 bif x0.Cmd.Was==0 then
 some true
 else
 some false
 else
 some false
 else
 bif x0.Cmd.Mode==2 then
 bif x0.Cmd.Dead==0 then
 bif x0.Cmd.Was==0 then
 some true
 else
 some false
 else
 some false
 else
 some false
 else
 some false
 else
 some false
 else
 some false
 else
 bif x0.Cmd.Kind==3 then
 bif decide (0<=x0.Cmd.Span.Lo) then
 bif decide qc then
 bif decide (x0.Cmd.Span.Hi<64) then
 bif x0.Cmd.Mode==0 then
 bif x0.Cmd.Dead==0 then
 bif x0.Cmd.Was==0 then
 some true
 else
 some false
 else
 some false
 else
 some false
 else
 some false
 else
 some false
 else
 some false
 else
 bif x0.Cmd.Kind==4 then
 bif qb&&qa then
 bif x0.Cmd.Mode==0 then
 yAA (f1 x0.Cmd.Dead) fun r2=>
 bif r2 then
 bif x0.Cmd.Was==0 then
 some true
 else
 yAA (f1 x0.Cmd.Was) fun r3=>
 some r3
 else
 some false
 else
 some false
 else
 some false
 else
 bif x0.Cmd.Kind==5 then
 bif qb&&qa then
 bif x0.Cmd.Mode==0 then
 yAA (f1 x0.Cmd.Dead) fun r4=>
 bif r4 then
 bif x0.Cmd.Was==0 then
 some true
 else
 some false
 else
 some false
 else
 some false
 else
 some false
 else
 some false
theorem ySo(f1):yCC.Eq [yD5.s f1] .no (yId f1):=fun _=>by kernel_rfl
def yDX(L:Nat):yCC.T:=yId (yIc L)
theorem yNK(L:Nat):yCC.C (yDX L):=yCC.c (ySo (yIc L)) (tC (yTm L).ent tN) Tryz.func185 (by kernel_rfl) (lN _)
end Go.Proofs.YtakljpcmbpaeaaaGreat

namespace Go.Proofs.YtakljpcmbpaeaaaGreat
set_option maxHeartbeats 16000000
set_option maxRecDepth 100000
open Go.RowKit
abbrev yG1:=fw1 180 (caC yNy caN) cdB
abbrev yPG(f1:yCC.T)(x0:yAI):Option Bool:=
 yAA (f1 (⟨x0,[]⟩:yAl)) fun r1=>
 some r1
theorem xAs(f1):yG1.Eq [yCC.s f1] .no (yPG f1):=fun _=>by kernel_rfl
def yNJ(L:Nat):yG1.T:=yPG (yDX L)
theorem xAr(L:Nat):yG1.C (yNJ L):=yG1.c (xAs (yDX L)) (tC (yNK L).ent tN) Tryz.func180 (by kernel_rfl) (lN _)
end Go.Proofs.YtakljpcmbpaeaaaGreat

namespace Go.Proofs.YtakljpcmbpaeaaaGreat
open Go.RowKit
set_option maxRecDepth 100000
set_option maxHeartbeats 16000000
abbrev yKT:=yAI×yAH×Unit
abbrev yKS:=yAI×yAH×Int×Unit
abbrev yGY{α:Type}(f1:yDM.T)(s:yKT)(k0:yKS->Option α):Option α:=
 yAA (f1 s.2.1.s_ 0 1) fun r1=>
 bif r1.2.1 !=0 then
 k0 (s.1,{s.2.1 with bad_:=true },0,())
 else
 gd (decide (1<=(s.2.1.s_.size:Int)))<|
 k0 (s.1,{s.2.1 with s_:=s.2.1.s_.extract 1 s.2.1.s_.size },r1.1,())
abbrev yG2:LW1 yKT yKS:=⟨(lvC 2 yQQ (lvC 4 yDv lvN)),.normal,(lvC 2 yQQ (lvC 4 yDv (lvC 5 (mP cI) lvN)))⟩
theorem yUz{α:Type}(f1):yG2.Ep (α:=α) [yDM.s f1] Tryz.f118 [1,1,0] .no (yGY f1):=fun _ _=>by kernel_rfl
theorem yTn{α:Type}(L:Nat):PO Tryz.f118 [1,1,0] (yG2.s (α:=α) (yGY (yBX L))):=yG2.kp (yUz (yBX L)) (tC (yOt L).ent tN) (lN _) (by kernel_rfl)
abbrev yKV:=yAI×yAH×Int×Unit
abbrev yKU:=yAI×yAH×yAI×Unit
abbrev yGZ{α:Type}(f1:yDM.T)(s:yKV)(k0:yKU->Option α):Option α:=
 letI qc:=s.2.1
 letI qb:=yL4 false s.2.2.1 127
 letI qa:=qc.s_.extract 6 qc.s_.size
 yAA (f1 qc.s_ 0 6) fun r1=>
 bif r1.2.1 !=0 then
 yAA (f1 qc.s_ 0 4) fun r2=>
 bif r2.2.1 !=0 then
 k0 (s.1,{qc with bad_:=true },(⟨IntKind.i8.wrap qb,0,0,0,0,yAK.z,0⟩:yAI),())
 else
 gd (decide (4<=(qc.s_.size:Int)))<|
 k0 (s.1,(⟨qc.s_.extract 4 qc.s_.size,true⟩:yAH),(⟨IntKind.i8.wrap qb,0,r2.1,0,0,yAK.z,0⟩:yAI),())
 else
 gd (decide (6<=(qc.s_.size:Int)))<|
 yAA (f1 qa 0 4) fun r3=>
 bif r3.2.1 !=0 then
 k0 (s.1,(⟨qc.s_.extract 6 qc.s_.size,true⟩:yAH),(⟨IntKind.i8.wrap qb,r1.1,0,0,0,yAK.z,0⟩:yAI),())
 else
 gd (decide (4<=(qa.size:Int)))<|
 k0 (s.1,{qc with s_:=qa.extract 4 (qa.size)},(⟨IntKind.i8.wrap qb,r1.1,r3.1,0,0,yAK.z,0⟩:yAI),())
abbrev yG3:LW1 yKV yKU:=⟨(lvC 2 yQQ (lvC 4 yDv (lvC 5 (mP cI) lvN))),.normal,(lvC 2 yQQ (lvC 4 yDv (lvC 6 yQQ lvN)))⟩
theorem yU0{α:Type}(f1):yG3.Ep (α:=α) [yDM.s f1] Tryz.f118 [1,1,1,0] .no (yGZ f1):=fun _ _=>by kernel_rfl
theorem yTo{α:Type}(L:Nat):PO Tryz.f118 [1,1,1,0] (yG3.s (α:=α) (yGZ (yBX L))):=yG3.kp (yU0 (yBX L)) (tC (yOt L).ent tN) (lN _) (by kernel_rfl)
abbrev yKX:=yAI×yAH×yAI×Unit
abbrev yKW:=yAI×yAH×yAI×Unit
abbrev yCa{α:Type}(f1:yDM.T)(s:yKX)(k0:yKW->Option α):Option α:=
 letI qu:=s.1
 letI qj:=s.2.1
 letI qt:=f1 qj.s_ 0 6
 letI ql:=f1 qj.s_ 0 1
 letI qk:=decide (6<=(qj.s_.size:Int))
 letI qg:=decide (1<=(qj.s_.size:Int))
 letI qf:=(⟨qj.s_.extract 6 qj.s_.size,true⟩:yAH)
 letI qe:=qj.s_.extract 6 qj.s_.size
 letI qw:=decide (6<=(qe.size:Int))
 letI qd:=s.2.2.1
 letI qb:=(⟨qj.s_.extract 1 qj.s_.size,true⟩:yAH)
 letI qa:=qj.s_.extract 1 qj.s_.size
 letI qo:=f1 qa 0 1
 letI qi:=decide (1<=(qa.size:Int))
 letI qh:=qa.extract 1 (qa.size)
 letI qv:=decide (1<=(qh.size:Int))
 letI qc:=(⟨qa.extract 1 (qa.size),true⟩:yAH)
 bif qd.Kind==2 then
 yAA ql fun r1=>
 letI qq:=(⟨r1.1,0⟩:yAK)
 bif r1.2.1 !=0 then
 yAA ql fun r2=>
 letI qp:=(⟨0,r2.1⟩:yAK)
 bif r2.2.1 !=0 then
 bif qd.Kind==2 then
 yAA ql fun r3=>
 bif r3.2.1 !=0 then
 k0 (qu,{qj with bad_:=true },{qd with Span:=yAK.z,Mode:=0 },())
 else
 gd qg<|
 k0 (qu,qb,{qd with Span:=yAK.z,Mode:=IntKind.i8.wrap (yL4 false r3.1 127)},())
 else
 k0 (qu,{qj with bad_:=true },{qd with Span:=yAK.z },())
 else
 gd qg<|
 bif qd.Kind==2 then
 yAA qo fun r4=>
 bif r4.2.1 !=0 then
 k0 (qu,qb,{qd with Span:=qp,Mode:=0 },())
 else
 gd qi<|
 k0 (qu,qc,{qd with Span:=qp,Mode:=IntKind.i8.wrap (yL4 false r4.1 127)},())
 else
 k0 (qu,qb,{qd with Span:=qp },())
 else
 gd qg<|
 yAA qo fun r5=>
 letI qn:=(⟨r1.1,r5.1⟩:yAK)
 bif r5.2.1 !=0 then
 bif qd.Kind==2 then
 yAA qo fun r6=>
 bif r6.2.1 !=0 then
 k0 (qu,qb,{qd with Span:=qq,Mode:=0 },())
 else
 gd qi<|
 k0 (qu,qc,{qd with Span:=qq,Mode:=IntKind.i8.wrap (yL4 false r6.1 127)},())
 else
 k0 (qu,qb,{qd with Span:=qq },())
 else
 gd qi<|
 bif qd.Kind==2 then
 yAA (f1 qh 0 1) fun r7=>
 bif r7.2.1 !=0 then
 k0 (qu,qc,{qd with Span:=qn,Mode:=0 },())
 else
 gd qv<|
 k0 (qu,{qj with s_:=qh.extract 1 (qh.size)},{qd with Span:=qn,Mode:=IntKind.i8.wrap (yL4 false r7.1 127)},())
 else
 k0 (qu,{qj with s_:=qa.extract 1 (qa.size)},{qd with Span:=qn },())
 else
 bif qd.Kind==3 then
 yAA ql fun r8=>
 letI qs:=(⟨r8.1,0⟩:yAK)
 bif r8.2.1 !=0 then
 yAA ql fun r9=>
 letI qr:=(⟨0,r9.1⟩:yAK)
 bif r9.2.1 !=0 then
 bif qd.Kind==2 then
 yAA ql fun r10=>
 bif r10.2.1 !=0 then
 k0 (qu,{qj with bad_:=true },{qd with Span:=yAK.z,Mode:=0 },())
 else
 gd qg<|
 k0 (qu,qb,{qd with Span:=yAK.z,Mode:=IntKind.i8.wrap (yL4 false r10.1 127)},())
 else
 k0 (qu,{qj with bad_:=true },{qd with Span:=yAK.z },())
 else
 gd qg<|
 bif qd.Kind==2 then
 yAA qo fun r11=>
 bif r11.2.1 !=0 then
 k0 (qu,qb,{qd with Span:=qr,Mode:=0 },())
 else
 gd qi<|
 k0 (qu,qc,{qd with Span:=qr,Mode:=IntKind.i8.wrap (yL4 false r11.1 127)},())
 else
 k0 (qu,qb,{qd with Span:=qr },())
 else
 gd qg<|
 yAA qo fun r12=>
 letI qm:=(⟨r8.1,r12.1⟩:yAK)
 bif r12.2.1 !=0 then
 bif qd.Kind==2 then
 yAA qo fun r13=>
 bif r13.2.1 !=0 then
 k0 (qu,qb,{qd with Span:=qs,Mode:=0 },())
 else
 gd qi<|
 k0 (qu,qc,{qd with Span:=qs,Mode:=IntKind.i8.wrap (yL4 false r13.1 127)},())
 else
 k0 (qu,qb,{qd with Span:=qs },())
 else
 gd qi<|
 bif qd.Kind==2 then
 yAA (f1 qh 0 1) fun r14=>
 bif r14.2.1 !=0 then
 k0 (qu,qc,{qd with Span:=qm,Mode:=0 },())
 else
 gd qv<|
 k0 (qu,{qj with s_:=qh.extract 1 (qh.size)},{qd with Span:=qm,Mode:=IntKind.i8.wrap (yL4 false r14.1 127)},())
 else
 k0 (qu,{qj with s_:=qa.extract 1 (qa.size)},{qd with Span:=qm },())
 else
 bif qd.Kind==4 then
 yAA qt fun r15=>
 bif r15.2.1 !=0 then
 bif qd.Kind==4 then
 yAA qt fun r16=>
 bif r16.2.1 !=0 then
 k0 (qu,{qj with bad_:=true },{qd with Dead:=0,Was:=0 },())
 else
 gd qk<|
 k0 (qu,qf,{qd with Dead:=0,Was:=r16.1 },())
 else
 k0 (qu,{qj with bad_:=true },{qd with Dead:=0 },())
 else
 gd qk<|
 bif qd.Kind==4 then
 yAA (f1 qe 0 6) fun r17=>
 bif r17.2.1 !=0 then
 k0 (qu,qf,{qd with Dead:=r15.1,Was:=0 },())
 else
 gd qw<|
 k0 (qu,{qj with s_:=qe.extract 6 (qe.size)},{qd with Dead:=r15.1,Was:=r17.1 },())
 else
 k0 (qu,{qj with s_:=qj.s_.extract 6 qj.s_.size },{qd with Dead:=r15.1 },())
 else
 bif qd.Kind==5 then
 yAA qt fun r18=>
 bif r18.2.1 !=0 then
 bif qd.Kind==4 then
 yAA qt fun r19=>
 bif r19.2.1 !=0 then
 k0 (qu,{qj with bad_:=true },{qd with Dead:=0,Was:=0 },())
 else
 gd qk<|
 k0 (qu,qf,{qd with Dead:=0,Was:=r19.1 },())
 else
 k0 (qu,{qj with bad_:=true },{qd with Dead:=0 },())
 else
 gd qk<|
 bif qd.Kind==4 then
 yAA (f1 qe 0 6) fun r20=>
 bif r20.2.1 !=0 then
 k0 (qu,qf,{qd with Dead:=r18.1,Was:=0 },())
 else
 gd qw<|
 k0 (qu,{qj with s_:=qe.extract 6 (qe.size)},{qd with Dead:=r18.1,Was:=r20.1 },())
 else
 k0 (qu,{qj with s_:=qj.s_.extract 6 qj.s_.size },{qd with Dead:=r18.1 },())
 else
 k0 (qu,qj,qd,())
abbrev yG4:LW1 yKX yKW:=⟨(lvC 2 yQQ (lvC 4 yDv (lvC 6 yQQ lvN))),.normal,(lvC 2 yQQ (lvC 4 yDv (lvC 6 yQQ lvN)))⟩
theorem yU1{α:Type}(f1):yG4.Ep (α:=α) [yDM.s f1] Tryz.f118 [1,1,1,1,0] .no (yCa f1):=fun _ _=>by kernel_rfl
theorem yTp{α:Type}(L:Nat):PO Tryz.f118 [1,1,1,1,0] (yG4.s (α:=α) (yCa (yBX L))):=yG4.kp (yU1 (yBX L)) (tC (yOt L).ent tN) (lN _) (by kernel_rfl)
abbrev yBq:=fw1 118 (caC cdS caN) (cdT (caC yNy (caC cI caN)))
abbrev yOH(f1:yG1.T)(P0:LF1 yKT yKS (yAI×Int×Unit))(P1:LF1 yKV yKU (yAI×Int×Unit))(P2:LF1 yKX yKW (yAI×Int×Unit))(x0:ByteArray):Option (yAI×Int×Unit):=
 P0 (yAI.z,(⟨x0,false⟩:yAH),()) (fun q1=>
 P1 (q1.1,q1.2.1,q1.2.2.1,()) (fun q2=>
 P2 (q2.1,q2.2.1,q2.2.2.1,()) (fun q3=>
 bif q3.2.1.bad_ then
 some (yAI.z,100,())
 else
 bif !(q3.2.1.s_.toList==noS.toList) then
 some (yAI.z,100,())
 else
 yAA (f1 q3.2.2.1) fun r4=>
 bif !r4 then
 some (yAI.z,100,())
 else
 some (q3.2.2.1,0,()))))
theorem yZA(f1 P0 P1 P2):yBq.Eq [yG1.s f1] (.two .no (.two .no (.two (.pt (yG2.s P0)) (.two (.pt (yG3.s P1)) (.two (.pt (yG4.s P2)) .no))))) (yOH f1 P0 P1 P2):=fun _=>by kernel_rfl
def yCN(L:Nat):yBq.T:=yOH (yNJ L) (yGY (yBX L)) (yGZ (yBX L)) (yCa (yBX L))
theorem yH0(L:Nat):yBq.C (yCN L):=yBq.c (yZA (yNJ L) (yGY (yBX L)) (yGZ (yBX L)) (yCa (yBX L))) (tC (xAr L).ent tN) Tryz.func118 (by kernel_rfl) (lS (lN _) (lS (lN _) (lS (lP (yTn L)) (lS (lP (yTo L)) (lS (lP (yTp L)) (lN _))))))
set_option maxRecDepth 100000
set_option maxHeartbeats 16000000
abbrev yFI:=fw1 119 (caC cI caN) cI
abbrev yQy(f1:yD5.T)(x0:Int):Option Int:=
 yAA (f1 x0) fun r1=>
 bif r1 then
 some (x0.tmod 16)
 else
 some (-1)
theorem xCb(f1):yFI.Eq [yD5.s f1] .no (yQy f1):=fun _=>by kernel_rfl
def yKR(L:Nat):yFI.T:=yQy (yIc L)
theorem yVv(L:Nat):yFI.C (yKR L):=yFI.c (xCb (yIc L)) (tC (yTm L).ent tN) Tryz.func119 (by kernel_rfl) (lN _)
abbrev yED:=fw3 47 (caC yCI (caC cI (caC cdS caN))) (cdT (caC xAk (caC cI caN)))
abbrev yT9(f1:yBq.T)(f2:yCo.T)(f3:yFI.T)(x0:yAR)(x1:Int)(x2:ByteArray):Option (yAP×Int×Unit):=
 yAA (f1 x2) fun r1=>
 bif r1.2.1 !=0 then
 some (yAP.z,2,())
 else
 yAA (f2 x0) fun r2=>
 bif !r2 then
 some (yAP.z,2,())
 else
 bif decide (x1<0) then
 some (yAP.z,2,())
 else
 bif decide (x0.Nodes<=x1) then
 some (yAP.z,2,())
 else
 yAA (f3 r1.1.By) fun r3=>
 bif r3 !=x1 then
 some (yAP.z,2,())
 else
 some ((⟨x1,x2,0,0,yCn.z,yBh.z⟩:yAP),0,())
theorem xBE(f1 f2 f3):yED.Eq [yBq.s f1,yCo.s f2,yFI.s f3] .no (yT9 f1 f2 f3):=fun _=>by kernel_rfl
def yNU(L:Nat):yED.T:=yT9 (yCN L) (yF8 L) (yKR L)
theorem yT8(L:Nat):yED.C (yNU L):=yED.c (xBE (yCN L) (yF8 L) (yKR L)) (tC (yH0 L).ent (tC (yNM L).ent (tC (yVv L).ent tN))) Tryz.func47 (by kernel_rfl) (lN _)
abbrev yC8:=fw1 128 (caC yNy caN) (cdT (caC cdS (caC cI caN)))
abbrev yQw(f1:yCC.T)(f2:yOu.T)(x0:yAI):Option (ByteArray×Int×Unit):=
 yAA (f1 (⟨x0,[]⟩:yAl)) fun r1=>
 bif !r1 then
 some (noS,2,())
 else
 yAA (f2 ([]) 1 ([[V.int .i64 (w64 x0.Kind)]])) fun r2=>
 gF r2.1 (0+r2.1.length)<|
 yAA (f2 (r2.1.take r2.1.length) 6 ([[V.int .i64 x0.By]])) fun r3=>
 gF r3.1 (0+r3.1.length)<|
 yAA (f2 (r3.1.take r3.1.length) 4 ([[V.int .i64 x0.Serial]])) fun r4=>
 letI qb:=0+r4.1.length
 letI qa:=r4.1.take r4.1.length
 bif x0.Kind==2 then
 gF r4.1 qb<|
 yAA (f2 qa 1 ([[V.int .i64 x0.Span.Lo],[V.int .i64 x0.Span.Hi],[V.int .i64 (w64 x0.Mode)]])) fun r5=>
 gd (Nat.ble (0+r5.1.length) r5.1.length)<|
 gd ((bytesOf (r5.1.take r5.1.length)).isSome)<|
 some (yHk (r5.1.take r5.1.length),0,())
 else
 bif x0.Kind==3 then
 gF r4.1 qb<|
 yAA (f2 qa 1 ([[V.int .i64 x0.Span.Lo],[V.int .i64 x0.Span.Hi]])) fun r6=>
 gd (Nat.ble (0+r6.1.length) r6.1.length)<|
 gd ((bytesOf (r6.1.take r6.1.length)).isSome)<|
 some (yHk (r6.1.take r6.1.length),0,())
 else
 bif x0.Kind==4 then
 gF r4.1 qb<|
 yAA (f2 qa 6 ([[V.int .i64 x0.Dead],[V.int .i64 x0.Was]])) fun r7=>
 gd (Nat.ble (0+r7.1.length) r7.1.length)<|
 gd ((bytesOf (r7.1.take r7.1.length)).isSome)<|
 some (yHk (r7.1.take r7.1.length),0,())
 else
 bif x0.Kind==5 then
 gF r4.1 qb<|
 yAA (f2 qa 6 ([[V.int .i64 x0.Dead]])) fun r8=>
 gd (Nat.ble (0+r8.1.length) r8.1.length)<|
 gd ((bytesOf (r8.1.take r8.1.length)).isSome)<|
 some (yHk (r8.1.take r8.1.length),0,())
 else
 gd (Nat.ble qb r4.1.length)<|
 gd ((bytesOf qa).isSome)<|
 some (yHk qa,0,())
theorem yXd(f1 f2):yC8.Eq [yCC.s f1,yOu.s f2] .no (yQw f1 f2):=fun _=>by kernel_rfl
def yJX(L:Nat):yC8.T:=yQw (yDX L) (yIf L)
theorem yQv(L:Nat):yC8.C (yJX L):=yC8.c (yXd (yDX L) (yIf L)) (tC (yNK L).ent (tC (yX1 L).ent tN)) Tryz.func128 (by kernel_rfl) (lN _)
abbrev yD3:=yA2×Int×(List (List V))×Int×Int×Unit
abbrev yGU:=Unit
abbrev yGV:=Bool×Unit
abbrev yFX{α:Type}(s:yD3)(kn:yD3->Option α)(k0:yGU->Option α)(k1:yGV->Option α):Option α:=
 letI qa:=s.2.2.2.2.1
 bif decide (qa<s.2.2.2.1) then
 gI s.2.2.1 yFh.ks qa<|
 bif decide (aI s.2.2.1 qa.toNat 0<=s.2.1) then
 k1 (false,())
 else
 bif decide (s.1.g_.Blocks<=aI s.2.2.1 qa.toNat 0) then
 k1 (false,())
 else
 bif decide (w64 (s.1.g_.Per*256)<((aS s.2.2.1 qa.toNat 1).size:Int)) then
 k1 (false,())
 else
 kn (s.1,aI s.2.2.1 qa.toNat 0,s.2.2.1,s.2.2.2.1,w64 (qa+1),())
 else
 k0 (())
abbrev yD4:LW2 yD3 yGU yGV:=⟨(lvC 0 (mP (cdP yQo)) (lvC 3 (mP cI) (lvC 16 (mP cdR) (lvC 17 (mP cI) (lvC 18 (mP cI) lvN))))),(.exit 0),lvN,.ret,(lvC 2 (mP cdB) lvN)⟩
theorem yQn{α:Type}:yD4.Eq (α:=α) [] Tryz.f283 [1,1,1,0,1,0] .no (yFX):=fun _ _ _=>by kernel_rfl
abbrev yDE:=fw1 283 (caC (cdP yQo) caN) cdB
abbrev yNx(f1:yCo.T)(F0:LF2 yD3 yGU yGV (Bool))(x0:yA2):Option Bool:=
 yAA (f1 x0.g_) fun r1=>
 bif !r1 then
 some false
 else
 F0 (x0,(-1),x0.row_.l_,(x0.row_.l_.length:Int),0,()) (fun q2=>
 some true) (fun q3=>
 some q3.1)
theorem yTj(f1 F0):yDE.Eq [yCo.s f1] (.two .no (.two .no (.two .no (.two (.two .no (.one (.lp (yD4.s F0)))) .no)))) (yNx f1 F0):=fun _=>by kernel_rfl
def yL8(L:Nat):yDE.T:=yNx (yF8 L) (yAQ (yFX) L)
theorem yQa{α:Type}(L:Nat):LO Tryz.f283 [1,1,1,0,1,0] (yD4.s (α:=α) (yAQ (yFX) L)):=yD4.k (yQn) tN (lN _) (by kernel_rfl) L
theorem yTi(L:Nat):yDE.C (yL8 L):=yDE.c (yTj (yF8 L) (yAQ (yFX) L)) (tC (yNM L).ent tN) Tryz.func283 (by kernel_rfl) (lS (lN _) (lS (lN _) (lS (lN _) (lS (lS (lN _) (lB (lL (yQa L)))) (lN _)))))
abbrev yIr:=fw2 235 (caC yCI (caC cdR caN)) cdB
abbrev yVt(f1:yDE.T)(x0:yAR)(x1:List (List V)):Option Bool:=
 yAA (f1 (⟨(⟨x1⟩:yCW),x0⟩:yA2)) fun r1=>
 some r1
theorem xCT(f1):yIr.Eq [yDE.s f1] .no (yVt f1):=fun _=>by kernel_rfl
def yUy(L:Nat):yIr.T:=yVt (yL8 L)
theorem xCS(L:Nat):yIr.C (yUy L):=yIr.c (xCT (yL8 L)) (tC (yTi L).ent tN) Tryz.func235 (by kernel_rfl) (lN _)
abbrev yGH:=ByteArray×(List (List V))×Int×Int×Unit
abbrev yJU:=(List (List V))×Unit
abbrev yIC{α:Type}(s:yGH)(kn:yGH->Option α)(k0:yJU->Option α):Option α:=
 letI qg:=s.2.2.2.1
 letI qe:=(yL4 false (s.1.size:Int) 256).toNat
 letI qd:=decide (0<=yL4 false (s.1.size:Int) 256)
 letI qc:=decide (yL4 false (s.1.size:Int) 256<=(s.1.size:Int))
 letI qb:=0+qg.toNat
 letI qf:=s.2.1.getD qb []
 letI qa:=qf.take 0++([V.str (s.1.extract 0 qe)]++qf.drop 1)
 bif decide (qg<s.2.2.1) then
 gd qd<|
 gd qc<|
 gd qd<|
 gd qc<|
 gB qg s.2.1.length<|
 gd (decide (0+qg.toNat<s.2.1.length))<|
 gd (Nat.ble 0 qb)<|
 gd (Nat.ble 1 qf.length)<|
 gW (s.2.1.set qb qa) s.2.1.length<|
 kn (s.1.extract qe s.1.size,s.2.1.set qb qa,s.2.2.1,w64 (qg+1),())
 else
 gW s.2.1 s.2.1.length<|
 k0 (s.2.1,())
abbrev yGI:LW1 yGH yJU:=⟨(lvC 1 (mP cdS) (lvC 6 (mW 1) (lvC 22 (mP cI) (lvC 23 (mP cI) lvN)))),(.exit 0),(lvC 6 (mW 1) lvN)⟩
theorem yTh{α:Type}:yGI.Eq (α:=α) [] Tryz.f236 [1,1,1,1,0,1,0] .no (yIC):=fun _ _ _=>by kernel_rfl
abbrev yEo:=fw2 236 (caC yCI (caC cdS caN)) (cdT (caC cdR (caC cI caN)))
abbrev yQm(f1:yCo.T)(F0:LF1 yGH yJU ((List (List V))×Int×Unit))(x0:yAR)(x1:ByteArray):Option ((List (List V))×Int×Unit):=
 yAA (f1 x0) fun r1=>
 bif !r1 then
 some ([],2,())
 else
 bif decide (w64 (x0.Per*256)<(x1.size:Int)) then
 some ([],60,())
 else
 gd (decide (0<=x0.Per))<|
 gd (decide (x0.Per<=x0.Per))<|
 gd (decide (16*x0.Per.toNat<=281474976710656))<|
 gd (decide (x0.Per<=9223372036854775807))<|
 gW (List.replicate x0.Per.toNat [V.str noS]) x0.Per.toNat<|
 F0 (x1,List.replicate x0.Per.toNat [V.str noS],(x0.Per.toNat:Int),0,()) (fun q2=>
 gF q2.1 (0+q2.1.length)<|
 some (q2.1.take q2.1.length,0,()))
theorem yXS(f1 F0):yEo.Eq [yCo.s f1] (.two .no (.two .no (.two .no (.two .no (.two (.two .no (.one (.lp (yGI.s F0)))) .no))))) (yQm f1 F0):=fun _=>by kernel_rfl
def yJT(L:Nat):yEo.T:=yQm (yF8 L) (yBV (yIC) L)
theorem ySj{α:Type}(L:Nat):LO Tryz.f236 [1,1,1,1,0,1,0] (yGI.s (α:=α) (yBV (yIC) L)):=yGI.k (yTh) tN (lN _) (by kernel_rfl) L
theorem yXR(L:Nat):yEo.C (yJT L):=yEo.c (yXS (yF8 L) (yBV (yIC) L)) (tC (yNM L).ent tN) Tryz.func236 (by kernel_rfl) (lS (lN _) (lS (lN _) (lS (lN _) (lS (lN _) (lS (lS (lN _) (lB (lL (ySj L)))) (lN _))))))
abbrev yG5:=fw1 220 (caC yCI caN) cdR
abbrev yPP(f1:yCo.T)(x0:yAR):Option (List (List V)):=
 letI qc:=w64 (1+x0.Journal)
 letI qa:=w64 (x0.Nodes*1)
 letI qb:=w64 ((w64 ((w64 (1+qa))+qa))+(w64 (x0.Log*1)))
 yAA (f1 x0) fun r1=>
 bif !r1 then
 some ([])
 else
 some ([[V.int .i64 0,V.int .i64 1,V.int .i8 1,V.int .i64 1],[V.int .i64 1,V.int .i64 qa,V.int .i8 2,V.int .i64 1],[V.int .i64 (w64 (1+qa)),V.int .i64 qa,V.int .i8 3,V.int .i64 1],[V.int .i64 (w64 ((w64 (1+qa))+qa)),V.int .i64 (w64 (x0.Log*1)),V.int .i8 4,V.int .i64 1],[V.int .i64 qb,V.int .i64 (w64 (x0.Slots*qc)),V.int .i8 6,V.int .i64 qc],[V.int .i64 (w64 (qb+(w64 (x0.Slots*qc)))),V.int .i64 (w64 (x0.Blocks*x0.Per)),V.int .i8 7,V.int .i64 x0.Per]])
theorem xAx(f1):yG5.Eq [yCo.s f1] .no (yPP f1):=fun _=>by kernel_rfl
def yKa(L:Nat):yG5.T:=yPP (yF8 L)
theorem xAw(L:Nat):yG5.C (yKa L):=yG5.c (xAx (yF8 L)) (tC (yNM L).ent tN) Tryz.func220 (by kernel_rfl) (lN _)
set_option maxRecDepth 100000
set_option maxHeartbeats 16000000
abbrev yMn:=Int×yAN×(List (List V))×Int×Int×Unit
abbrev yPN:=yAN×Unit
abbrev yPO:=yAN×Unit
abbrev yGb{α:Type}(s:yMn)(kn:yMn->Option α)(k0:yPN->Option α)(k1:yPO->Option α):Option α:=
 letI qb:=s.2.2.1
 letI qa:=s.2.2.2.2.1
 bif decide (qa<s.2.2.2.1) then
 gI qb yAN.ks qa<|
 bif(aI qb qa.toNat 2)==s.1 then
 k1 ((⟨(⟨aI qb qa.toNat 0,aI qb qa.toNat 1⟩:yAs),aI qb qa.toNat 2,aI qb qa.toNat 3⟩:yAN),())
 else
 kn (s.1,s.2.1,qb,s.2.2.2.1,w64 (qa+1),())
 else
 k0 (s.2.1,())
abbrev yMo:LW2 yMn yPN yPO:=⟨(lvC 1 (mP (cdI .i8)) (lvC 4 yPT (lvC 8 (mP cdR) (lvC 9 (mP cI) (lvC 10 (mP cI) lvN))))),(.exit 0),(lvC 4 yPT lvN),.ret,(lvC 4 yPT lvN)⟩
theorem xAv{α:Type}:yMo.Eq (α:=α) [] Tryz.f167 [1,0,1,0] .no (yGb):=fun _ _ _=>by kernel_rfl
abbrev yM7:=fw2 167 (caC yCI (caC (cdI .i8) caN)) xAl
abbrev yU4(f1:yG5.T)(F0:LF2 yMn yPN yPO (yAN))(x0:yAR)(x1:Int):Option yAN:=
 yAA (f1 x0) fun r1=>
 F0 (x1,yAN.z,r1,(r1.length:Int),0,()) (fun q2=>
 some (⟨yAs.z,0,1⟩:yAN)) (fun q3=>
 some q3.1)
theorem xHC(f1 F0):yM7.Eq [yG5.s f1] (.two .no (.two (.two .no (.one (.lp (yMo.s F0)))) .no)) (yU4 f1 F0):=fun _=>by kernel_rfl
def yTy(L:Nat):yM7.T:=yU4 (yKa L) (yAQ (yGb) L)
theorem yZG{α:Type}(L:Nat):LO Tryz.f167 [1,0,1,0] (yMo.s (α:=α) (yAQ (yGb) L)):=yMo.k (xAv) tN (lN _) (by kernel_rfl) L
theorem xHB(L:Nat):yM7.C (yTy L):=yM7.c (xHC (yKa L) (yAQ (yGb) L)) (tC (xAw L).ent tN) Tryz.func167 (by kernel_rfl) (lS (lN _) (lS (lS (lN _) (lB (lL (yZG L)))) (lN _)))
abbrev yDu:=fw2 190 (caC yY3 (caC cI caN)) cI
abbrev yMB(x0:yAs)(x1:Int):Option Int:=
 bif decide (x1<0) then
 some (-1)
 else
 bif decide (x0.many_<=x1) then
 some (-1)
 else
 some (w64 (x0.first_+x1))
theorem yWP:yDu.Eq [] .no (yMB):=fun _=>by kernel_rfl
def yH1(L:Nat):yDu.T:=yMB
theorem yWO(L:Nat):yDu.C (yH1 L):=yDu.c (yWP) tN Tryz.func190 (by kernel_rfl) (lN _)
abbrev yGM:=fw4 140 (caC yCI (caC (cdI .i8) (caC cI (caC cI caN)))) cI
abbrev yXA(f1:yM7.T)(f2:yDu.T)(x0:yAR)(x1:Int)(x2:Int)(x3:Int):Option Int:=
 yAA (f1 x0 x1) fun r1=>
 bif decide (x2<0) then
 some (-1)
 else
 gd (!(decide (r1.per_=0)))<|
 bif decide (w64 (r1.stretch_.many_.tdiv r1.per_)<=x2) then
 some (-1)
 else
 bif decide (x3<0) then
 some (-1)
 else
 bif decide (r1.per_<=x3) then
 some (-1)
 else
 yAA (f2 r1.stretch_ (w64 ((w64 (x2*r1.per_))+x3))) fun r2=>
 some r2
theorem xKL(f1 f2):yGM.Eq [yM7.s f1,yDu.s f2] .no (yXA f1 f2):=fun _=>by kernel_rfl
def yNN(L:Nat):yGM.T:=yXA (yTy L) (yH1 L)
theorem yTz(L:Nat):yGM.C (yNN L):=yGM.c (xKL (yTy L) (yH1 L)) (tC (xHB L).ent (tC (yWO L).ent tN)) Tryz.func140 (by kernel_rfl) (lN _)
abbrev yM5:=fw3 237 (caC yCI (caC cI (caC cI caN))) cI
abbrev xAA(f1:yGM.T)(x0:yAR)(x1:Int)(x2:Int):Option Int:=
 yAA (f1 x0 7 x1 x2) fun r1=>
 some r1
theorem xG7(f1):yM5.Eq [yGM.s f1] .no (xAA f1):=fun _=>by kernel_rfl
def yPL(L:Nat):yM5.T:=xAA (yNN L)
theorem xG6(L:Nat):yM5.C (yPL L):=yM5.c (xG7 (yNN L)) (tC (yTz L).ent tN) Tryz.func237 (by kernel_rfl) (lN _)
abbrev yGz:=yAR×(List (List V))×yFW×(List (List V))×Int×Int×(List (List V))×Int×Int×Unit
abbrev yKO:=yAR×(List (List V))×(List (List V))×Int×Int×Unit
abbrev yEn{α:Type}(f1:yM5.T)(s:yGz)(kn:yGz->Option α)(k0:yKO->Option α):Option α:=
 letI qa:=s.2.2.2.2.2.2.2.2.1
 bif decide (qa<s.2.2.2.2.2.2.2.1) then
 gI s.2.2.2.2.2.2.1 kS qa<|
 yAA (f1 s.1 s.2.2.1.N qa) fun r1=>
 letI qb:= [[V.int .i64 r1,V.str (aS s.2.2.2.2.2.2.1 qa.toNat 0)]]
 gd (Nat.beq (0+s.2.1.length) s.2.1.length)<|
 gM (s.2.1.length+1) 24<|
 gA (s.2.1++qb) (s.2.1.length+1)<|
 kn (s.1,s.2.1++qb,s.2.2.1,s.2.2.2.1,s.2.2.2.2.1,s.2.2.2.2.2.1,s.2.2.2.2.2.2.1,s.2.2.2.2.2.2.2.1,w64 (qa+1),())
 else
 gA s.2.1 s.2.1.length<|
 k0 (s.1,s.2.1,s.2.2.2.1,s.2.2.2.2.1,s.2.2.2.2.2.1,())
abbrev yG0:LW1 yGz yKO:=⟨(lvC 2 yQR (lvC 4 (mA 2) (lvC 7 xKR (lvC 16 (mP cdR) (lvC 17 (mP cI) (lvC 18 (mP cI) (lvC 29 (mP cdR) (lvC 30 (mP cI) (lvC 31 (mP cI) lvN))))))))),(.exit 2),(lvC 2 yQR (lvC 4 (mA 2) (lvC 16 (mP cdR) (lvC 17 (mP cI) (lvC 18 (mP cI) lvN)))))⟩
theorem yUx{α:Type}(f1):yG0.Eq (α:=α) [yM5.s f1] Tryz.f183 [1,1,0,1,0,0,1,1,0,0,1,1,1,0] .no (yEn f1):=fun _ _ _=>by kernel_rfl
abbrev yGx:=yAR×(List (List V))×(List (List V))×Int×Int×Unit
abbrev yKN:=(List (List V))×Unit
abbrev yJS{α:Type}(f1:yEo.T)(F1:LF1 yGz yKO α)(s:yGx)(kn:yGx->Option α)(k0:yKN->Option α):Option α:=
 letI qa:=s.2.2.2.2.1
 bif decide (qa<s.2.2.2.1) then
 gI s.2.2.1 yFh.ks qa<|
 yAA (f1 s.1 (aS s.2.2.1 qa.toNat 1)) fun r1=>
 gA s.2.1 s.2.1.length<|
 F1 (s.1,s.2.1,(⟨aI s.2.2.1 qa.toNat 0,aS s.2.2.1 qa.toNat 1⟩:yFW),s.2.2.1,s.2.2.2.1,qa,r1.1,(r1.1.length:Int),0,()) (fun q2=>
 gA q2.2.1 q2.2.1.length<|
 kn (q2.1,q2.2.1,q2.2.2.1,q2.2.2.2.1,w64 (q2.2.2.2.2.1+1),()))
 else
 gA s.2.1 s.2.1.length<|
 k0 (s.2.1,())
abbrev yGy:LW1 yGx yKN:=⟨(lvC 2 yQR (lvC 4 (mA 2) (lvC 16 (mP cdR) (lvC 17 (mP cI) (lvC 18 (mP cI) lvN))))),(.exit 0),(lvC 4 (mA 2) lvN)⟩
theorem yUw{α:Type}(f1 F1):yGy.Eq (α:=α) [yEo.s f1] Tryz.f183 [1,1,0,1,0] (.two .no (.two .no (.two (.one (.two .no (.two .no (.two .no (.one (.lp (yG0.s F1))))))) .no))) (yJS f1 F1):=fun _ _ _=>by kernel_rfl
abbrev yFq:=fw2 183 (caC yCI (caC cdR caN)) (cdT (caC cdR (caC cI caN)))
abbrev ySQ(f1:yIr.T)(F0:LF1 yGx yKN ((List (List V))×Int×Unit))(x0:yAR)(x1:List (List V)):Option ((List (List V))×Int×Unit):=
 yAA (f1 x0 x1) fun r1=>
 bif !r1 then
 some ([],2,())
 else
 F0 (x0,[],x1,(x1.length:Int),0,()) (fun q2=>
 gF q2.1 (0+q2.1.length)<|
 some (q2.1.take q2.1.length,0,()))
theorem yY1(f1 F0):yFq.Eq [yIr.s f1] (.two .no (.two .no (.two (.two .no (.one (.lp (yGy.s F0)))) .no))) (ySQ f1 F0):=fun _=>by kernel_rfl
def yQl(L:Nat):yFq.T:=ySQ (yUy L) (yBV (yJS (yJT L) (yBV (yEn (yPL L)) L)) L)
theorem yTg{α:Type}(L:Nat):LO Tryz.f183 [1,1,0,1,0,0,1,1,0,0,1,1,1,0] (yG0.s (α:=α) (yBV (yEn (yPL L)) L)):=yG0.k (yUx (yPL L)) (tC (xG6 L).ent tN) (lN _) (by kernel_rfl) L
theorem yTf{α:Type}(L:Nat):LO Tryz.f183 [1,1,0,1,0] (yGy.s (α:=α) (yBV (yJS (yJT L) (yBV (yEn (yPL L)) L)) L)):=yGy.k (yUw (yJT L) (yBV (yEn (yPL L)) L)) (tC (yXR L).ent tN) (lS (lN _) (lS (lN _) (lS (lB (lS (lN _) (lS (lN _) (lS (lN _) (lB (lL (yTg L))))))) (lN _)))) (by kernel_rfl) L
theorem yY0(L:Nat):yFq.C (yQl L):=yFq.c (yY1 (yUy L) (yBV (yJS (yJT L) (yBV (yEn (yPL L)) L)) L)) (tC (xCS L).ent tN) Tryz.func183 (by kernel_rfl) (lS (lN _) (lS (lN _) (lS (lS (lN _) (lB (lL (yTf L)))) (lN _))))
abbrev yF4:=fw2 126 (caC yCI (caC cdR caN)) (cdT (caC yNG (caC cI caN)))
abbrev ySc(f1:yFq.T)(x0:yAR)(x1:List (List V)):Option (yAG×Int×Unit):=
 yAA (f1 x0 x1) fun r1=>
 bif r1.2.1==0 then
 bif(r1.1.length:Int)==0 then
 some ((⟨r1.1,0,0,3⟩:yAG),r1.2.1,())
 else
 some ((⟨r1.1,0,0,0⟩:yAG),r1.2.1,())
 else
 some ((⟨r1.1,0,0,0⟩:yAG),r1.2.1,())
theorem yZu(f1):yF4.Eq [yFq.s f1] .no (ySc f1):=fun _=>by kernel_rfl
def yRq(L:Nat):yF4.T:=ySc (yQl L)
theorem yZt(L:Nat):yF4.C (yRq L):=yF4.c (yZu (yQl L)) (tC (yY0 L).ent tN) Tryz.func126 (by kernel_rfl) (lN _)
abbrev yCx:=fw1 184 (caC (cdP yQO) caN) cdB
abbrev yNo(x0:yAi):Option Bool:=
 some (decide (2<x0.Settling.At))
theorem yTQ:yCx.Eq [] .no (yNo):=fun _=>by kernel_rfl
def yK9(L:Nat):yCx.T:=yNo
theorem yTP(L:Nat):yCx.C (yK9 L):=yCx.c (yTQ) tN Tryz.func184 (by kernel_rfl) (lN _)
abbrev yEI:=fw1 127 (caC yNG caN) cdB
abbrev yUh(f1:yCx.T)(x0:yAG):Option Bool:=
 yAA (f1 (⟨x0,0,noS⟩:yAi)) fun r1=>
 some r1
theorem xBx(f1):yEI.Eq [yCx.s f1] .no (yUh f1):=fun _=>by kernel_rfl
def yNm(L:Nat):yEI.T:=yUh (yK9 L)
theorem yUg(L:Nat):yEI.C (yNm L):=yEI.c (xBx (yK9 L)) (tC (yTP L).ent tN) Tryz.func127 (by kernel_rfl) (lN _)
set_option maxRecDepth 100000
set_option maxHeartbeats 16000000
abbrev yHA:=fw2 13 (caC yCI (caC ySk caN)) (cdT (caC ySk (caC yXX (caC cdB caN))))
abbrev yPV(f1:yCo.T)(f2:yIx.T)(f3:yF4.T)(f4:yEI.T)(f5:yC8.T)(f6:yED.T)(x0:yAR)(x1:yBO):Option (yBO×yAE×Bool×Unit):=
 letI qd:=(⟨241,noS,false⟩:yAE)
 letI qc:=x1.Serial+1
 letI qb:=f5 (⟨0,x1.Key,w64 qc,0,0,yAK.z,0⟩:yAI)
 letI qa:=(⟨2,noS,false⟩:yAE)
 yAA (f1 x0) fun r1=>
 bif !r1 then
 some ({x1 with At:=0,P:=yAP.z,St:=yAG.z },qa,true,())
 else
 bif decide (x1.Num<0) then
 some ({x1 with At:=0,P:=yAP.z,St:=yAG.z },qa,true,())
 else
 bif decide (x0.Nodes<=x1.Num) then
 some ({x1 with At:=0,P:=yAP.z,St:=yAG.z },qa,true,())
 else
 yAA (f2 ([[V.int .i8 x1.Op.Kind]])) fun r2=>
 bif !r2 then
 some ({x1 with At:=0,P:=yAP.z,St:=yAG.z },qa,true,())
 else
 bif x1.Op.Kind==1 then
 yAA (f3 x0 x1.Pend) fun r3=>
 bif !x1.Mounted then
 some ({x1 with At:=0,P:=yAP.z,St:=yAG.z },qd,true,())
 else
 bif x1.Txn.Open then
 some ({x1 with At:=0,P:=yAP.z,St:=yAG.z },(⟨252,noS,false⟩:yAE),true,())
 else
 bif r3.2.1 !=0 then
 some ({x1 with At:=0,P:=yAP.z,St:=yAG.z },qa,true,())
 else
 yAA (f4 r3.1) fun r4=>
 bif r4 then
 yAA (f5 (⟨1,x1.Key,w64 qc,0,0,yAK.z,0⟩:yAI)) fun r5=>
 yAA (f6 x0 x1.Num r5.1) fun r6=>
 bif r5.2.1 !=0 then
 some ({x1 with At:=0,P:=yAP.z,St:=yAG.z },qa,true,())
 else
 bif r6.2.1 !=0 then
 some ({x1 with At:=0,P:=yAP.z,St:=yAG.z },qa,true,())
 else
 some ({x1 with Serial:=w64 qc,At:=7,P:=r6.1 },yAE.z,false,())
 else
 some ({x1 with At:=6,St:=r3.1 },yAE.z,false,())
 else
 bif x1.Op.Kind==13 then
 bif x1.Key !=0 then
 some ({x1 with At:=0,P:=yAP.z,St:=yAG.z },yAE.z,true,())
 else
 bif x1.Op.Kind==0 then
 bif x1.Mounted then
 some ({x1 with At:=0,P:=yAP.z,St:=yAG.z },qd,true,())
 else
 bif x1.Key !=0 then
 yAA qb fun r7=>
 yAA (f6 x0 x1.Num r7.1) fun r8=>
 bif r7.2.1 !=0 then
 some ({x1 with At:=0,P:=yAP.z,St:=yAG.z },qa,true,())
 else
 bif r8.2.1 !=0 then
 some ({x1 with At:=0,P:=yAP.z,St:=yAG.z },qa,true,())
 else
 some ({x1 with Serial:=w64 qc,At:=4,P:=r8.1 },yAE.z,false,())
 else
 some ({x1 with At:=0 },yAE.z,false,())
 else
 bif x1.Key !=0 then
 yAA qb fun r9=>
 yAA (f6 x0 x1.Num r9.1) fun r10=>
 bif r9.2.1 !=0 then
 some ({x1 with At:=0,P:=yAP.z,St:=yAG.z },qa,true,())
 else
 bif r10.2.1 !=0 then
 some ({x1 with At:=0,P:=yAP.z,St:=yAG.z },qa,true,())
 else
 some ({x1 with Serial:=w64 qc,At:=4,P:=r10.1 },yAE.z,false,())
 else
 some ({x1 with At:=0 },yAE.z,false,())
 else
 bif x1.Op.Kind==0 then
 bif x1.Mounted then
 some ({x1 with At:=0,P:=yAP.z,St:=yAG.z },qd,true,())
 else
 bif x1.Key !=0 then
 yAA qb fun r11=>
 yAA (f6 x0 x1.Num r11.1) fun r12=>
 bif r11.2.1 !=0 then
 some ({x1 with At:=0,P:=yAP.z,St:=yAG.z },qa,true,())
 else
 bif r12.2.1 !=0 then
 some ({x1 with At:=0,P:=yAP.z,St:=yAG.z },qa,true,())
 else
 some ({x1 with Serial:=w64 qc,At:=4,P:=r12.1 },yAE.z,false,())
 else
 some ({x1 with At:=0 },yAE.z,false,())
 else
 bif x1.Key !=0 then
 yAA qb fun r13=>
 yAA (f6 x0 x1.Num r13.1) fun r14=>
 bif r13.2.1 !=0 then
 some ({x1 with At:=0,P:=yAP.z,St:=yAG.z },qa,true,())
 else
 bif r14.2.1 !=0 then
 some ({x1 with At:=0,P:=yAP.z,St:=yAG.z },qa,true,())
 else
 some ({x1 with Serial:=w64 qc,At:=4,P:=r14.1 },yAE.z,false,())
 else
 some ({x1 with At:=0 },yAE.z,false,())
theorem xA6(f1 f2 f3 f4 f5 f6):yHA.Eq [yCo.s f1,yIx.s f2,yF4.s f3,yEI.s f4,yC8.s f5,yED.s f6] .no (yPV f1 f2 f3 f4 f5 f6):=fun _=>by kernel_rfl
def yNR(L:Nat):yHA.T:=yPV (yF8 L) (yR4 L) (yRq L) (yNm L) (yJX L) (yNU L)
theorem xA5(L:Nat):yHA.C (yNR L):=yHA.c (xA6 (yF8 L) (yR4 L) (yRq L) (yNm L) (yJX L) (yNU L)) (tC (yNM L).ent (tC (xC7 L).ent (tC (yZt L).ent (tC (yUg L).ent (tC (yQv L).ent (tC (yT8 L).ent tN)))))) Tryz.func13 (by kernel_rfl) (lN _)
abbrev yHB:=fw1 77 (caC cI caN) yNF
abbrev yT5(x0:Int):Option yAp:=
 bif decide (x0<0) then
 some yAp.z
 else
 some (⟨1,x0,noS,0⟩:yAp)
theorem xA8:yHB.Eq [] .no (yT5):=fun _=>by kernel_rfl
def ySx(L:Nat):yHB.T:=yT5
theorem xA7(L:Nat):yHB.C (ySx L):=yHB.c (xA8) tN Tryz.func77 (by kernel_rfl) (lN _)
abbrev yB4:=mw1 189 (zW 1 (zP cI (zP (cdI .i8) zN))) 3 (caC cdS caN) (cdT (caC cdS (caC cI caN)))
abbrev yHr(f1:yOu.T)(f2:yTq.T)(x0:(List (List V))×Int×Int×Unit)(x1:ByteArray):Option ((ByteArray×Int×Unit)×((List (List V))×Int×Int×Unit)):=
 letI qh:=yCe x1
 letI qg:=x0.2.2.1
 letI qe:= [[V.int .u8 (IntKind.u8.wrap qg)]]
 letI qb:=qh.length
 letI qf:=1+qb
 letI qa:=qe++qh
 letI qi:=qa.take qf
 bif decide (qg<1) then
 gW x0.1 x0.1.length<|
 some ((noS,2,()),(x0.1,x0.2.1,qg,()))
 else
 bif decide (505<(x1.size:Int)) then
 gW x0.1 x0.1.length<|
 some ((noS,2,()),(x0.1,x0.2.1,qg,()))
 else
 yAA (f1 qe 2 ([[V.int .i64 (x1.size:Int)]])) fun r1=>
 letI qd:=r1.1.length+qb
 letI qc:=r1.1++qh
 letI qj:=qc.take qd
 bif r1.2.1 !=0 then
 gM qf 1<|
 gF qa (0+qf)<|
 yAA (f2 qi) fun r2=>
 gF qa (0+qf)<|
 yAA (f1 qi 4 ([[V.int .i64 r2]])) fun r3=>
 bif r3.2.1 !=0 then
 gd (Nat.ble (0+qf) (qa.length))<|
 gd ((bytesOf qi).isSome)<|
 gd (Nat.beq (max 1 (min 2000000 (qa.length))) 0)<|
 gW qa qf<|
 some ((yHk qi,2,()),(qe++qh,2,qg,()))
 else
 gd (Nat.ble (0+r3.1.length) r3.1.length)<|
 gd ((bytesOf (r3.1.take r3.1.length)).isSome)<|
 gW r3.1 r3.1.length<|
 some ((yHk (r3.1.take r3.1.length),2,()),(r3.1,2,qg,()))
 else
 gd (Nat.beq (0+r1.1.length) r1.1.length)<|
 gM qd 1<|
 gF qc (0+qd)<|
 yAA (f2 qj) fun r4=>
 gF qc (0+qd)<|
 yAA (f1 qj 4 ([[V.int .i64 r4]])) fun r5=>
 bif r5.2.1 !=0 then
 gd (Nat.ble (0+qd) (qc.length))<|
 gd ((bytesOf qj).isSome)<|
 gd (Nat.beq (max 0 (min 2000000 (qc.length))) 0)<|
 gW qc qd<|
 some ((yHk qj,2,()),(r1.1++qh,2,qg,()))
 else
 gd (Nat.ble (0+r5.1.length) r5.1.length)<|
 gd ((bytesOf (r5.1.take r5.1.length)).isSome)<|
 gW r5.1 r5.1.length<|
 some ((yHk (r5.1.take r5.1.length),x0.2.1,()),(r5.1,x0.2.1,qg,()))
theorem ySH(f1 f2):yB4.Eq [yOu.s f1,yTq.s f2] .no (yHr f1 f2):=fun _ _=>by kernel_rfl
def yCf(L:Nat):yB4.T:=yHr (yIf L) (ySp L)
theorem yMk(L:Nat):yB4.C (yCf L):=yB4.c (ySH (yIf L) (ySp L)) (tC (yX1 L).ent (tC (xCd L).ent tN)) Tryz.func189 (by kernel_rfl) (lN _)
set_option maxRecDepth 100000
set_option maxHeartbeats 16000000
abbrev yLo:=ByteArray×(List (List V))×((List (List V))×Int×Int×Unit)×(List (List V))×Int×Int×Unit
abbrev yOd:=ByteArray×((List (List V))×Int×Int×Unit)×Unit
abbrev yOe:=ByteArray×Int×Unit
abbrev yFU{α:Type}(f1:yOu.T)(s:yLo)(kn:yLo->Option α)(k0:yOd->Option α)(k1:yOe->Option α):Option α:=
 letI qb:=s.2.2.1.1
 letI qa:=s.2.2.2.2.2.1
 bif decide (qa<s.2.2.2.2.1) then
 gI s.2.2.2.1 kI qa<|
 gI s.2.1 kI qa<|
 gF qb (0+qb.length)<|
 yAA (f1 (qb.take qb.length) (aI s.2.1 qa.toNat 0) ([[V.int .i64 (aI s.2.2.2.1 qa.toNat 0)]])) fun r1=>
 bif r1.2.1 !=0 then
 k1 (noS,2,())
 else
 bif s.2.2.1.2.1 !=0 then
 k1 (noS,2,())
 else
 bif decide (505<(r1.1.length:Int)) then
 k1 (noS,2,())
 else
 gW r1.1 r1.1.length<|
 kn (s.1,s.2.1,(r1.1,s.2.2.1.2.1,s.2.2.1.2.2.1,()),s.2.2.2.1,s.2.2.2.2.1,w64 (qa+1),())
 else
 gW qb qb.length<|
 k0 (s.1,(qb,s.2.2.1.2.1,s.2.2.1.2.2.1,()),())
abbrev yLp:LW2 yLo yOd yOe:=⟨(lvC 1 (mP cdS) (lvC 2 (mP cdR) (lvC 10 (mO (zW 1 (zP cI (zP (cdI .i8) zN))) 3) (lvC 21 (mP cdR) (lvC 22 (mP cI) (lvC 23 (mP cI) lvN)))))),(.exit 0),(lvC 1 (mP cdS) (lvC 10 (mO (zW 1 (zP cI (zP (cdI .i8) zN))) 3) lvN)),.ret,(lvC 8 (mP cdS) (lvC 9 (mP cI) lvN))⟩
theorem yZs{α:Type}(f1):yLp.Eq (α:=α) [yOu.s f1] Tryz.f139 [1,1,1,0,1,0] .no (yFU f1):=fun _ _ _=>by kernel_rfl
abbrev yEe:=fw4 139 (caC (cdI .i8) (caC cdS (caC cdR (caC cdR caN)))) (cdT (caC cdS (caC cI caN)))
abbrev yTJ(f1:yB4.T)(F0:LF2 yLo yOd yOe (ByteArray×Int×Unit))(x0:Int)(x1:ByteArray)(x2:List (List V))(x3:List (List V)):Option (ByteArray×Int×Unit):=
 bif(x2.length:Int) !=(x3.length:Int) then
 some (noS,2,())
 else
 F0 (x1,x2,([],0,x0,()),x3,(x3.length:Int),0,()) (fun q1=>
 letI qa:=q1.2.1.1
 letI qb:=qa.take qa.length
 gd (Nat.ble (0+qa.length) qa.length)<|
 gd ((bytesOf qb).isSome)<|
 gd (decide (((yHk qb).size)+q1.1.size<=9223372036854775807))<|
 gW qa qa.length<|
 yAA (f1 (qa,q1.2.1.2.1,q1.2.1.2.2.1,()) ((yHk qb)++q1.1)) fun r2=>
 some (r2.1.1,r2.1.2.1,())) (fun q3=>
 some (q3.1,q3.2.1,()))
theorem xFc(f1 F0):yEe.Eq [yB4.s f1] (.two .no (.two .no (.two .no (.two (.two .no (.one (.lp (yLp.s F0)))) .no)))) (yTJ f1 F0):=fun _=>by kernel_rfl
def yJ5(L:Nat):yEe.T:=yTJ (yCf L) (yAQ (yFU (yIf L)) L)
theorem yYi{α:Type}(L:Nat):LO Tryz.f139 [1,1,1,0,1,0] (yLp.s (α:=α) (yAQ (yFU (yIf L)) L)):=yLp.k (yZs (yIf L)) (tC (yX1 L).ent tN) (lN _) (by kernel_rfl) L
theorem yTI(L:Nat):yEe.C (yJ5 L):=yEe.c (xFc (yCf L) (yAQ (yFU (yIf L)) L)) (tC (yMk L).ent tN) Tryz.func139 (by kernel_rfl) (lS (lN _) (lS (lN _) (lS (lN _) (lS (lS (lN _) (lB (lL (yYi L)))) (lN _)))))
abbrev yIq:=fw2 78 (caC cI (caC cI caN)) (cdT (caC cdS (caC cI caN)))
abbrev yQj(f1:yEe.T)(x0:Int)(x1:Int):Option (ByteArray×Int×Unit):=
 bif decide (yL4 false x0 x1<1) then
 some (noS,2,())
 else
 yAA (f1 3 noS ([[V.int .i64 6],[V.int .i64 6]]) ([[V.int .i64 x0],[V.int .i64 x1]])) fun r1=>
 some (r1.1,r1.2.1,())
theorem xCO(f1):yIq.Eq [yEe.s f1] .no (yQj f1):=fun _=>by kernel_rfl
def yOi(L:Nat):yIq.T:=yQj (yJ5 L)
theorem xCN(L:Nat):yIq.C (yOi L):=yIq.c (xCO (yJ5 L)) (tC (yTI L).ent tN) Tryz.func78 (by kernel_rfl) (lN _)
abbrev yKZ:=fw2 79 (caC yCI (caC cI caN)) cI
abbrev ySr(f1:yGM.T)(x0:yAR)(x1:Int):Option Int:=
 yAA (f1 x0 2 x1 0) fun r1=>
 some r1
theorem xEn(f1):yKZ.Eq [yGM.s f1] .no (ySr f1):=fun _=>by kernel_rfl
def yOp(L:Nat):yKZ.T:=ySr (yNN L)
theorem xEm(L:Nat):yKZ.C (yOp L):=yKZ.c (xEn (yNN L)) (tC (yTz L).ent tN) Tryz.func79 (by kernel_rfl) (lN _)
abbrev yFj:=fw2 141 (caC yCI (caC cI caN)) cI
abbrev yXp(f1:yGM.T)(x0:yAR)(x1:Int):Option Int:=
 yAA (f1 x0 4 x1 0) fun r1=>
 some r1
theorem xIh(f1):yFj.Eq [yGM.s f1] .no (yXp f1):=fun _=>by kernel_rfl
def yJZ(L:Nat):yFj.T:=yXp (yNN L)
theorem yTx(L:Nat):yFj.C (yJZ L):=yFj.c (xIh (yNN L)) (tC (yTz L).ent tN) Tryz.func141 (by kernel_rfl) (lN _)
abbrev yFM:=fw2 80 (caC yCI (caC cI caN)) yNF
abbrev yN2(f1:yFj.T)(x0:yAR)(x1:Int):Option yAp:=
 yAA (f1 x0 x1) fun r1=>
 bif decide (0<=r1) then
 some (⟨1,r1,noS,0⟩:yAp)
 else
 some yAp.z
theorem xC4(f1):yFM.Eq [yFj.s f1] .no (yN2 f1):=fun _=>by kernel_rfl
def yG8(L:Nat):yFM.T:=yN2 (yJZ L)
theorem yV3(L:Nat):yFM.C (yG8 L):=yFM.c (xC4 (yJZ L)) (tC (yTx L).ent tN) Tryz.func80 (by kernel_rfl) (lN _)
abbrev yDw:=fw1 241 (caC (cdP yGW) caN) yNF
abbrev yQS(f1:yFM.T)(x0:yAS):Option yAp:=
 yAA (f1 x0.g_ x0.done_) fun r1=>
 some r1
theorem yWY(f1):yDw.Eq [yFM.s f1] .no (yQS f1):=fun _=>by kernel_rfl
def yOL(L:Nat):yDw.T:=yQS (yG8 L)
theorem yWX(L:Nat):yDw.C (yOL L):=yDw.c (yWY (yG8 L)) (tC (yV3 L).ent tN) Tryz.func241 (by kernel_rfl) (lN _)
abbrev yK6:=fw1 340 (caC cdS caN) (cdT (caC (cdI .i8) (caC cdS (caC cI caN))))
abbrev yTK(f1:yDM.T)(f2:yTq.T)(x0:ByteArray):Option (Int×ByteArray×Int×Unit):=
 letI qd:=decide (0<(x0.size:Int))
 letI qc:=(((x0[0]?).getD 0).toNat:Int)
 yAA (f1 x0 1 2) fun r1=>
 letI qb:=3+r1.1
 letI qe:=decide (w64 qb<=(x0.size:Int))
 letI qa:=x0.extract 0 ((w64 qb).toNat)
 bif r1.2.1 !=0 then
 some (0,noS,30,())
 else
 bif(x0.size:Int) !=(w64 ((w64 qb)+4)) then
 some (0,noS,30,())
 else
 bif decide (505<r1.1) then
 some (0,noS,30,())
 else
 gd qd<|
 bif qc==0 then
 some (0,noS,30,())
 else
 gd qd<|
 bif decide (127<qc) then
 some (0,noS,30,())
 else
 yAA (f1 x0 (w64 qb) 4) fun r2=>
 gd (decide (0<=w64 qb))<|
 gd qe<|
 gF (yCe qa) (0+(qa.size))<|
 yAA (f2 ((yCe qa).take (qa.size))) fun r3=>
 bif r2.1 !=r3 then
 some (0,noS,30,())
 else
 gd qd<|
 gd (decide (0<=w64 qb))<|
 gd qe<|
 gd (decide (3<=((w64 qb).toNat:Int)))<|
 some (IntKind.i8.wrap qc,x0.extract 3 ((w64 qb).toNat),0,())
theorem xFe(f1 f2):yK6.Eq [yDM.s f1,yTq.s f2] .no (yTK f1 f2):=fun _=>by kernel_rfl
def yRp(L:Nat):yK6.T:=yTK (yBX L) (ySp L)
theorem xFd(L:Nat):yK6.C (yRp L):=yK6.c (xFe (yBX L) (ySp L)) (tC (yOt L).ent (tC (xCd L).ent tN)) Tryz.func340 (by kernel_rfl) (lN _)
abbrev yL0:=fw2 299 (caC (cdI .i8) (caC cdS caN)) (cdT (caC cdS (caC cI caN)))
abbrev yYj(f1:yK6.T)(x0:Int)(x1:ByteArray):Option (ByteArray×Int×Unit):=
 yAA (f1 x1) fun r1=>
 bif r1.2.2.1 !=0 then
 some (noS,30,())
 else
 bif r1.1 !=x0 then
 some (noS,30,())
 else
 some (r1.2.1,0,())
theorem xJc(f1):yL0.Eq [yK6.s f1] .no (yYj f1):=fun _=>by kernel_rfl
def yRo(L:Nat):yL0.T:=yYj (yRp L)
theorem xD5(L:Nat):yL0.C (yRo L):=yL0.c (xJc (yRp L)) (tC (xFd L).ent tN) Tryz.func299 (by kernel_rfl) (lN _)
abbrev yFv:=fw1 258 (caC cdS caN) (cdT (caC yNy (caC cdS (caC cdB (caC cI caN)))))
abbrev yLL(f1:yL0.T)(f2:yBq.T)(x0:ByteArray):Option (yAI×ByteArray×Bool×Int×Unit):=
 bif x0.toList==noS.toList then
 some (yAI.z,noS,false,0,())
 else
 yAA (f1 5 x0) fun r1=>
 bif r1.2.1 !=0 then
 some (yAI.z,noS,false,50,())
 else
 yAA (f2 r1.1) fun r2=>
 bif r2.2.1 !=0 then
 some (yAI.z,noS,false,50,())
 else
 some (r2.1,r1.1,true,0,())
theorem yZC(f1 f2):yFv.Eq [yL0.s f1,yBq.s f2] .no (yLL f1 f2):=fun _=>by kernel_rfl
def yGa(L:Nat):yFv.T:=yLL (yRo L) (yCN L)
theorem yZB(L:Nat):yFv.C (yGa L):=yFv.c (yZC (yRo L) (yCN L)) (tC (xD5 L).ent (tC (yH0 L).ent tN)) Tryz.func258 (by kernel_rfl) (lN _)
set_option maxRecDepth 100000
set_option maxHeartbeats 16000000
abbrev yBK:=(List (List V))×(((Int×Unit)×Unit))×Int×Int×Unit
abbrev yBy:=Unit
abbrev yBz:=Int×Unit
abbrev yBT{α:Type}(s:yBK)(kn:yBK->Option α)(k0:yBy->Option α)(k1:yBz->Option α):Option α:=
 letI qa:=s.2.2.2.1
 bif decide (qa<s.2.2.1) then
 gI s.1 yAK.ks qa<|
 bif(aI s.1 qa.toNat 0)==s.2.1.1.1 then
 k1 (qa,())
 else
 kn (s.1,((s.2.1.1.1,()),()),s.2.2.1,w64 (qa+1),())
 else
 k0 (())
abbrev yBL:LW2 yBK yBy yBz:=⟨(lvC 0 (mP cdR) (lvC 1 (mP (cdF 261 (caC (cdP (caC cI caN)) caN))) (lvC 7 (mP cI) (lvC 8 (mP cI) lvN)))),(.exit 0),lvN,.ret,(lvC 4 (mP cI) lvN)⟩
theorem yFG{α:Type}:yBL.Eq (α:=α) [] Tryz.f260 [1,0,1,0] .no (yBT):=fun _ _ _=>by kernel_rfl
abbrev yAg:=fw2 260 (caC cdR (caC (cdF 261 (caC (cdP (caC cI caN)) caN)) caN)) cI
abbrev yB7(F0:LF2 yBK yBy yBz (Int))(x0:List (List V))(x1:(Int×Unit)×Unit):Option Int:=
 F0 (x0,((x1.1.1,()),()),(x0.length:Int),0,()) (fun q1=>
 some (-1)) (fun q2=>
 some q2.1)
theorem yGE(F0):yAg.Eq [] (.two .no (.two (.two .no (.one (.lp (yBL.s F0)))) .no)) (yB7 F0):=fun _=>by kernel_rfl
def yA5(L:Nat):yAg.T:=yB7 (yAQ (yBT) L)
theorem yFA{α:Type}(L:Nat):LO Tryz.f260 [1,0,1,0] (yBL.s (α:=α) (yAQ (yBT) L)):=yBL.k (yFG) tN (lN _) (by kernel_rfl) L
theorem yGD(L:Nat):yAg.C (yA5 L):=yAg.c (yGE (yAQ (yBT) L)) tN Tryz.func260 (by kernel_rfl) (lS (lN _) (lS (lS (lN _) (lB (lL (yFA L)))) (lN _)))
abbrev yFV:=fw2 198 (caC yC1 (caC cI caN)) (cdT (caC cI (caC cdB caN)))
abbrev yRu(f1:yAg.T)(x0:yAF)(x1:Int):Option (Int×Bool×Unit):=
 bif decide (x1<1) then
 some (0,false,())
 else
 yAA (f1 x0.Slots ((x1,()),())) fun r1=>
 some (yL4 true r1 0,decide (0<=r1),())
theorem xED(f1):yFV.Eq [(260,spF 1 [(261,(yAg.s f1).2)])] .no (yRu f1):=fun _=>by kernel_rfl
def yNC(L:Nat):yFV.T:=yRu (yA5 L)
theorem yWF(L:Nat):yFV.C (yNC L):=yFV.c (xED (yA5 L)) (tC (yQW (yHi (yGD L).ent yMd)) tN) Tryz.func198 (by kernel_rfl) (lN _)
abbrev yCY:=fw2 359 (caC (cdP xAj) (caC cI caN)) (cdT (caC cI (caC cdB caN)))
abbrev yLI(f1:yFV.T)(x0:yBF)(x1:Int):Option (Int×Bool×Unit):=
 yAA (f1 x0.Table x1) fun r1=>
 some (r1.1,r1.2.1,())
theorem yVr(f1):yCY.Eq [yFV.s f1] .no (yLI f1):=fun _=>by kernel_rfl
def yDl(L:Nat):yCY.T:=yLI (yNC L)
theorem yPA(L:Nat):yCY.C (yDl L):=yCY.c (yVr (yNC L)) (tC (yWF L).ent tN) Tryz.func359 (by kernel_rfl) (lN _)
abbrev yCk:=fw1 360 (caC xL3 caN) cdB
abbrev yMm(x0:yKK):Option Bool:=
 some (x0.Key==0)
theorem ySM:yCk.Eq [] .no (yMm):=fun _=>by kernel_rfl
def yEV(L:Nat):yCk.T:=yMm
theorem ySL(L:Nat):yCk.C (yEV L):=yCk.c (ySM) tN Tryz.func360 (by kernel_rfl) (lN _)
abbrev yBM:=(List (List V))×Unit×Int×Int×Unit
abbrev yB0:=Unit
abbrev yB1:=Int×Unit
abbrev yBU{α:Type}(f1:yCk.T)(s:yBM)(kn:yBM->Option α)(k0:yB0->Option α)(k1:yB1->Option α):Option α:=
 letI qa:=s.2.2.2.1
 bif decide (qa<s.2.2.1) then
 gI s.1 yAK.ks qa<|
 yAA (f1 (⟨aI s.1 qa.toNat 0,aI s.1 qa.toNat 1⟩:yKK)) fun r1=>
 bif r1 then
 k1 (qa,())
 else
 kn (s.1,(()),s.2.2.1,w64 (qa+1),())
 else
 k0 (())
abbrev yBN:LW2 yBM yB0 yB1:=⟨(lvC 0 (mP cdR) (lvC 1 (mP (cdF 360 caN)) (lvC 7 (mP cI) (lvC 8 (mP cI) lvN)))),(.exit 0),lvN,.ret,(lvC 4 (mP cI) lvN)⟩
theorem yFH{α:Type}(f1):yBN.Eq (α:=α) [yCk.s f1] Tryz.f260 [1,0,1,0] .no (yBU f1):=fun _ _ _=>by kernel_rfl
abbrev yAh:=fw2 260 (caC cdR (caC (cdF 360 caN) caN)) cI
abbrev yB8(F0:LF2 yBM yB0 yB1 (Int))(x0:List (List V))(x1:Unit):Option Int:=
 F0 (x0,(()),(x0.length:Int),0,()) (fun q1=>
 some (-1)) (fun q2=>
 some q2.1)
theorem yGG(F0):yAh.Eq [] (.two .no (.two (.two .no (.one (.lp (yBN.s F0)))) .no)) (yB8 F0):=fun _=>by kernel_rfl
def yA6(L:Nat):yAh.T:=yB8 (yAQ (yBU (yEV L)) L)
theorem yFB{α:Type}(L:Nat):LO Tryz.f260 [1,0,1,0] (yBN.s (α:=α) (yAQ (yBU (yEV L)) L)):=yBN.k (yFH (yEV L)) (tC (ySL L).ent tN) (lN _) (by kernel_rfl) L
theorem yGF(L:Nat):yAh.C (yA6 L):=yAh.c (yGG (yAQ (yBU (yEV L)) L)) tN Tryz.func260 (by kernel_rfl) (lS (lN _) (lS (lS (lN _) (lB (lL (yFB L)))) (lN _)))
abbrev yDa:=fw2 392 (caC yOG (caC cI caN)) cdB
abbrev yLD(x0:yAj)(x1:Int):Option Bool:=
 bif decide (x0.Span.Lo<=x1) then
 some (decide (x1<=x0.Span.Hi))
 else
 some false
theorem yVi:yDa.Eq [] .no (yLD):=fun _=>by kernel_rfl
def yKB(L:Nat):yDa.T:=yLD
theorem yVh(L:Nat):yDa.C (yKB L):=yDa.c (yVi) tN Tryz.func392 (by kernel_rfl) (lN _)
abbrev yCG:=fw2 388 (caC yOG (caC yOG caN)) cdB
abbrev yIn(f1:yDa.T)(x0:yAj)(x1:yAj):Option Bool:=
 bif !(decide (x0.Span.Hi<x0.Span.Lo)) then
 bif !(decide (x1.Span.Hi<x1.Span.Lo)) then
 yAA (f1 x0 x1.Span.Lo) fun r1=>
 bif r1 then
 some true
 else
 yAA (f1 x1 x0.Span.Lo) fun r2=>
 some r2
 else
 some false
 else
 some false
theorem yTW(f1):yCG.Eq [yDa.s f1] .no (yIn f1):=fun _=>by kernel_rfl
def yCz(L:Nat):yCG.T:=yIn (yKB L)
theorem yNs(L:Nat):yCG.C (yCz L):=yCG.c (yTW (yKB L)) (tC (yVh L).ent tN) Tryz.func388 (by kernel_rfl) (lN _)
abbrev yD1:=fw2 394 (caC yVu (caC yVu caN)) cdB
abbrev yMe(f1:yCG.T)(x0:yBj)(x1:yBj):Option Bool:=
 bif x0.key_==x1.key_ then
 some true
 else
 yAA (f1 x0.blocks_ x1.blocks_) fun r1=>
 bif !r1 then
 some true
 else
 bif x0.mode_==1 then
 some (x1.mode_==1)
 else
 some false
theorem yWz(f1):yD1.Eq [yCG.s f1] .no (yMe f1):=fun _=>by kernel_rfl
def yLq(L:Nat):yD1.T:=yMe (yCz L)
theorem yWy(L:Nat):yD1.C (yLq L):=yD1.c (yWz (yCz L)) (tC (yNs L).ent tN) Tryz.func394 (by kernel_rfl) (lN _)
abbrev yFC:=fw2 390 (caC yQq (caC yQq caN)) cdB
abbrev yNr(f1:yD1.T)(x0:yAL)(x1:yAL):Option Bool:=
 yAA (f1 (⟨(⟨x0.Span⟩:yAj),x0.Key,x0.Mode⟩:yBj) (⟨(⟨x1.Span⟩:yAj),x1.Key,x1.Mode⟩:yBj)) fun r1=>
 some r1
theorem yYn(f1):yFC.Eq [yD1.s f1] .no (yNr f1):=fun _=>by kernel_rfl
def yFe(L:Nat):yFC.T:=yNr (yLq L)
theorem yYm(L:Nat):yFC.C (yFe L):=yFC.c (yYn (yLq L)) (tC (yWy L).ent tN) Tryz.func390 (by kernel_rfl) (lN _)
end Go.Proofs.YtakljpcmbpaeaaaGreat
