/- Typed functions. (printed by wip/sx) -/
import Derived.Test.YtakljpcmbpaeaaaGreatPaxosOneM36
import Derived.Test.YtakljpcmbpaeaaaGreatPaxosOneM37
import Derived.Test.YtakljpcmbpaeaaaGreatPaxosOneM39
set_option linter.unusedSimpArgs false
set_option linter.unusedVariables false
namespace Go.Proofs.YtakljpcmbpaeaaaGreat
open Go.RowKit
set_option maxRecDepth 100000
set_option maxHeartbeats 16000000
abbrev yIZ:=fw1 45 (caC cdS caN) (cdT (caC yMp (caC cI caN)))
abbrev yM0(f1:yGK.T)(f2:yCh.T)(f3:yJq.T)(x0:ByteArray):Option (yAE×Int×Unit):=
 letI ql:=decide (0<(x0.size:Int))
 letI qd:=x0.extract 11 x0.size
 letI qo:=decide (2<(qd.size:Int))
 letI qn:=decide (1<(qd.size:Int))
 letI qm:=decide (0<(qd.size:Int))
 letI qh:=(⟨w64 (((qd[0]?).getD 0).toNat:Int),w64 (((qd[1]?).getD 0).toNat:Int)⟩:yAG)
 letI qc:=(((x0[0]?).getD 0).toNat:Int)
 letI qg:=IntKind.i8.wrap qc
 bif decide ((x0.size:Int)<11) then
 some (yAE.z,100,())
 else
 bindO (f1 x0 1 6) fun r1=>
 bindO (f1 x0 7 4) fun r2=>
 letI qk:=(⟨IntKind.i8.wrap qc,r1.1,r2.1,0,0,yAG.z,0⟩:yAE)
 letI qb:=(⟨IntKind.i8.wrap qc,r1.1,r2.1,0,0,qh,IntKind.i8.wrap (IntKind.u8.wrap ((BitVec.ofInt IntKind.u8.bits (((qd[2]?).getD 0).toNat:Int) &&& BitVec.ofInt IntKind.u8.bits 127).toNat:Int))⟩:yAE)
 letI qa:=(⟨IntKind.i8.wrap qc,r1.1,r2.1,0,0,qh,0⟩:yAE)
 bif r1.2.1 !=0 then
 some (yAE.z,100,())
 else
 bif r2.2.1 !=0 then
 some (yAE.z,100,())
 else
 gd ql<|
 bif decide (127<qc) then
 some (yAE.z,100,())
 else
 gd ql<|
 gd (decide (11≤(x0.size:Int)))<|
 bif qg==2 then
 bif decide ((qd.size:Int)<2) then
 some (yAE.z,100,())
 else
 gd qm<|
 gd qn<|
 bif qg==2 then
 bif(qd.size:Int)==3 then
 gd qo<|
 bindO (f2 qb) fun r3=>
 bif r3.2.1 !=0 then
 some (yAE.z,100,())
 else
 bif !(r3.1.toList==x0.toList) then
 some (yAE.z,100,())
 else
 some (qb,0,())
 else
 bindO (f2 qa) fun r4=>
 bif r4.2.1 !=0 then
 some (yAE.z,100,())
 else
 bif !(r4.1.toList==x0.toList) then
 some (yAE.z,100,())
 else
 some (qa,0,())
 else
 bindO (f2 qa) fun r5=>
 bif r5.2.1 !=0 then
 some (yAE.z,100,())
 else
 bif !(r5.1.toList==x0.toList) then
 some (yAE.z,100,())
 else
 some (qa,0,())
 else
 bif qg==3 then
 bif decide ((qd.size:Int)<2) then
 some (yAE.z,100,())
 else
 gd qm<|
 gd qn<|
 bif qg==2 then
 bif(qd.size:Int)==3 then
 gd qo<|
 bindO (f2 qb) fun r6=>
 bif r6.2.1 !=0 then
 some (yAE.z,100,())
 else
 bif !(r6.1.toList==x0.toList) then
 some (yAE.z,100,())
 else
 some (qb,0,())
 else
 bindO (f2 qa) fun r7=>
 bif r7.2.1 !=0 then
 some (yAE.z,100,())
 else
 bif !(r7.1.toList==x0.toList) then
 some (yAE.z,100,())
 else
 some (qa,0,())
 else
 bindO (f2 qa) fun r8=>
 bif r8.2.1 !=0 then
 some (yAE.z,100,())
 else
 bif !(r8.1.toList==x0.toList) then
 some (yAE.z,100,())
 else
 some (qa,0,())
 else
 bif qg==4 then
 bindO (f3 qd 6) fun r9=>
 letI qj:=(⟨IntKind.i8.wrap qc,r1.1,r2.1,aI r9.1 0 0,aI r9.1 1 0,yAG.z,0⟩:yAE)
 letI qf:=(⟨IntKind.i8.wrap qc,r1.1,r2.1,aI r9.1 0 0,0,yAG.z,0⟩:yAE)
 bif r9.2.1 !=0 then
 some (yAE.z,100,())
 else
 bif decide ((r9.1.length:Int)<1) then
 some (yAE.z,100,())
 else
 gd (decide (0<(r9.1.length:Int)))<|
 gd (rowIs kI r9.1 0)<|
 bif qg==4 then
 bif(r9.1.length:Int)==2 then
 gd (decide (1<(r9.1.length:Int)))<|
 gd (rowIs kI r9.1 1)<|
 bindO (f2 qj) fun r10=>
 bif r10.2.1 !=0 then
 some (yAE.z,100,())
 else
 bif !(r10.1.toList==x0.toList) then
 some (yAE.z,100,())
 else
 some (qj,0,())
 else
 bindO (f2 qf) fun r11=>
 bif r11.2.1 !=0 then
 some (yAE.z,100,())
 else
 bif !(r11.1.toList==x0.toList) then
 some (yAE.z,100,())
 else
 some (qf,0,())
 else
 bindO (f2 qf) fun r12=>
 bif r12.2.1 !=0 then
 some (yAE.z,100,())
 else
 bif !(r12.1.toList==x0.toList) then
 some (yAE.z,100,())
 else
 some (qf,0,())
 else
 bif qg==5 then
 bindO (f3 qd 6) fun r13=>
 letI qi:=(⟨IntKind.i8.wrap qc,r1.1,r2.1,aI r13.1 0 0,aI r13.1 1 0,yAG.z,0⟩:yAE)
 letI qe:=(⟨IntKind.i8.wrap qc,r1.1,r2.1,aI r13.1 0 0,0,yAG.z,0⟩:yAE)
 bif r13.2.1 !=0 then
 some (yAE.z,100,())
 else
 bif decide ((r13.1.length:Int)<1) then
 some (yAE.z,100,())
 else
 gd (decide (0<(r13.1.length:Int)))<|
 gd (rowIs kI r13.1 0)<|
 bif qg==4 then
 bif(r13.1.length:Int)==2 then
 gd (decide (1<(r13.1.length:Int)))<|
 gd (rowIs kI r13.1 1)<|
 bindO (f2 qi) fun r14=>
 bif r14.2.1 !=0 then
 some (yAE.z,100,())
 else
 bif !(r14.1.toList==x0.toList) then
 some (yAE.z,100,())
 else
 some (qi,0,())
 else
 bindO (f2 qe) fun r15=>
 bif r15.2.1 !=0 then
 some (yAE.z,100,())
 else
 bif !(r15.1.toList==x0.toList) then
 some (yAE.z,100,())
 else
 some (qe,0,())
 else
 bindO (f2 qe) fun r16=>
 bif r16.2.1 !=0 then
 some (yAE.z,100,())
 else
 bif !(r16.1.toList==x0.toList) then
 some (yAE.z,100,())
 else
 some (qe,0,())
 else
 bindO (f2 qk) fun r17=>
 bif r17.2.1 !=0 then
 some (yAE.z,100,())
 else
 bif !(r17.1.toList==x0.toList) then
 some (yAE.z,100,())
 else
 some (qk,0,())
theorem yWU(f1 f2 f3):yIZ.Eq [yGK.s f1,yCh.s f2,yJq.s f3] .no (yM0 f1 f2 f3):=fun _=>by kernel_rfl
def yEh(L:Nat):yIZ.T:=yM0 (yDx L) (yB6 L) (yTb L)
theorem yWT(L:Nat):yIZ.C (yEh L):=yIZ.c (yWU (yDx L) (yB6 L) (yTb L)) (tC (yTX L).ent (tC (yOf L).ent (tC (yWw L).ent tN))) Tryz.func45 (by kernel_rfl) (lN _)
abbrev yIP:=fw1 216 (caC cdS caN) (cdT (caC (cdI .i8) (caC cdS (caC cI caN))))
abbrev yPU(f1:yE5.T)(x0:ByteArray):Option (Int×ByteArray×Int×Unit):=
 letI qc:=decide (0<(x0.size:Int))
 letI qb:=(x0.size:Int)-4
 letI qa:=(((x0[0]?).getD 0).toNat:Int)
 bif decide ((x0.size:Int)<7) then
 some (0,noS,30,())
 else
 bif decide (512<(x0.size:Int)) then
 some (0,noS,30,())
 else
 gd qc<|
 bif decide (qa<1) then
 some (0,noS,30,())
 else
 gd qc<|
 bif decide (127<qa) then
 some (0,noS,30,())
 else
 gd qc<|
 gd (decide (0≤w64 qb))<|
 gd (decide (w64 qb≤(x0.size:Int)))<|
 gd (decide (3≤((w64 qb).toNat:Int)))<|
 bindO (f1 (IntKind.i8.wrap qa) (x0.extract 3 ((w64 qb).toNat))) fun r1=>
 bif r1.2.1 !=0 then
 some (0,noS,30,())
 else
 bif !(r1.1.toList==x0.toList) then
 some (0,noS,30,())
 else
 some (IntKind.i8.wrap qa,x0.extract 3 ((w64 qb).toNat),0,())
theorem yWD(f1):yIP.Eq [yE5.s f1] .no (yPU f1):=fun _=>by kernel_rfl
def yNf(L:Nat):yIP.T:=yPU (yJu L)
theorem yWC(L:Nat):yIP.C (yNf L):=yIP.c (yWD (yJu L)) (tC (ySG L).ent tN) Tryz.func216 (by kernel_rfl) (lN _)
end Go.Proofs.YtakljpcmbpaeaaaGreat

namespace Go.Proofs.YtakljpcmbpaeaaaGreat
open Go.RowKit
set_option maxRecDepth 100000
set_option maxHeartbeats 16000000
abbrev yMA:=fw2 163 (caC (cdI .i8) (caC cdS caN)) (cdT (caC cdS (caC cI caN)))
abbrev yRj(f1:yIP.T)(x0:Int)(x1:ByteArray):Option (ByteArray×Int×Unit):=
 bindO (f1 x1) fun r1=>
 bif r1.2.2.1 !=0 then
 some (noS,30,())
 else
 bif r1.1 !=x0 then
 some (noS,30,())
 else
 some (r1.2.1,0,())
theorem yXZ(f1):yMA.Eq [yIP.s f1] .no (yRj f1):=fun _=>by kernel_rfl
def yPw(L:Nat):yMA.T:=yRj (yNf L)
theorem yXY(L:Nat):yMA.C (yPw L):=yMA.c (yXZ (yNf L)) (tC (yWC L).ent tN) Tryz.func163 (by kernel_rfl) (lN _)
abbrev yId:=fw1 178 (caC cdS caN) (cdT (caC yMp (caC cdS (caC cdB (caC cI caN)))))
abbrev yM1(f1:yMA.T)(f2:yIZ.T)(x0:ByteArray):Option (yAE×ByteArray×Bool×Int×Unit):=
 bif x0.toList==noS.toList then
 some (yAE.z,noS,false,0,())
 else
 bindO (f1 5 x0) fun r1=>
 bif r1.2.1 !=0 then
 some (yAE.z,noS,false,50,())
 else
 bindO (f2 r1.1) fun r2=>
 bif r2.2.1 !=0 then
 some (yAE.z,noS,false,50,())
 else
 some (r2.1,r1.1,true,0,())
theorem yWc(f1 f2):yId.Eq [yMA.s f1,yIZ.s f2] .no (yM1 f1 f2):=fun _=>by kernel_rfl
def yFk(L:Nat):yId.T:=yM1 (yPw L) (yEh L)
theorem yWb(L:Nat):yId.C (yFk L):=yId.c (yWc (yPw L) (yEh L)) (tC (yXY L).ent (tC (yWT L).ent tN)) Tryz.func178 (by kernel_rfl) (lN _)
abbrev yKw:=(List (List V))×(List (List V))×Int×Unit
abbrev yNP:=(List (List V))×Unit
abbrev yNQ:=(List (List V))×Int×Unit
abbrev yE8{α:Type}(f1:yId.T)(s:yKw)(kn:yKw→Option α)(k0:yNP→Option α)(k1:yNQ→Option α):Option α:=
 letI qb:=s.2.1
 bif decide (s.2.2.1<(s.1.length:Int)) then
 gI s.1 kS s.2.2.1<|
 bindO (f1 (aS s.1 s.2.2.1.toNat 0)) fun r1=>
 letI qa:= [[V.int .i8 r1.1.Kind,V.int .i64 r1.1.By,V.int .i64 r1.1.Serial,V.int .i64 r1.1.Dead,V.int .i64 r1.1.Was,V.int .i64 r1.1.Span.Lo,V.int .i64 r1.1.Span.Hi,V.int .i8 r1.1.Mode]]
 bif r1.2.2.2.1 !=0 then
 k1 ([],r1.2.2.2.1,())
 else
 bif !r1.2.2.1 then
 gF qb (0+qb.length)<|
 k1 (qb.take qb.length,0,())
 else
 gd (Nat.beq (0+qb.length) qb.length)<|
 gM (qb.length+1) 64<|
 gA (qb++qa) (qb.length+1)<|
 kn (s.1,qb++qa,w64 (s.2.2.1+1),())
 else
 gA qb qb.length<|
 k0 (qb,())
abbrev yKx:LW2 yKw yNP yNQ:=⟨(lvC 0 (mP cdR) (lvC 4 (mA 8) (lvC 5 (mP cI) lvN))),(.exit 0),(lvC 4 (mA 8) lvN),.ret,(lvC 2 (mP cdR) (lvC 3 (mP cI) lvN))⟩
theorem yUm{α:Type}(f1):yKx.Eq (α:=α) [yId.s f1] Tryz.f116 [1,1,0,1,0] .no (yE8 f1):=fun _ _ _=>by kernel_rfl
abbrev yKG:=fw1 116 (caC cdR caN) (cdT (caC cdR (caC cI caN)))
abbrev yQu(F0:LF2 yKw yNP yNQ ((List (List V))×Int×Unit))(x0:List (List V)):Option ((List (List V))×Int×Unit):=
 F0 (x0,[],0,()) (fun q1=>
 gF q1.1 (0+q1.1.length)<|
 some (q1.1.take q1.1.length,0,())) (fun q2=>
 some (q2.1,q2.2.1,()))
theorem yXI(F0):yKG.Eq [] (.two .no (.two .no (.two (.two .no (.one (.lp (yKx.s F0)))) .no))) (yQu F0):=fun _=>by kernel_rfl
def yPn(L:Nat):yKG.T:=yQu (loop2 (yE8 (yFk L)) L)
theorem yTy{α:Type}(L:Nat):LO Tryz.f116 [1,1,0,1,0] (yKx.s (α:=α) (loop2 (yE8 (yFk L)) L)):=yKx.k (yUm (yFk L)) (tC (yWb L).ent tN) (lN _) (by kernel_rfl) L
theorem yXH(L:Nat):yKG.C (yPn L):=yKG.c (yXI (loop2 (yE8 (yFk L)) L)) tN Tryz.func116 (by kernel_rfl) (lS (lN _) (lS (lN _) (lS (lS (lN _) (lB (lL (yTy L)))) (lN _))))
abbrev yKF:=fw2 44 (caC yCS (caC yBx caN)) (cdT (caC cdR (caC cI caN)))
abbrev yQt(f1:yBl.T)(f2:yCf.T)(f3:yCe.T)(f4:yGN.T)(f5:yKG.T)(x0:yAN)(x1:yAA):Option ((List (List V))×Int×Unit):=
 bindO (f1 x0) fun r1=>
 bif !r1 then
 some ([],2,())
 else
 bindO (f2 x1) fun r2=>
 bif r2 !=0 then
 some ([],2,())
 else
 bindO (f3 x0) fun r3=>
 bif(x1.S.length:Int) !=r3 then
 some ([],2,())
 else
 bindO (f4 x0 0) fun r4=>
 letI qa:=r4+x0.Log
 gd (decide (0≤w64 qa))<|
 gd (decide (w64 qa≤(x1.S.length:Int)))<|
 gd (decide (0≤r4))<|
 gd (decide (r4≤((w64 qa).toNat:Int)))<|
 gd (x1.S.all fun r=>Nat.beq r.length 1)<|
 bindO (f5 ((x1.S.drop r4.toNat).take (((w64 qa).toNat)-r4.toNat))) fun r5=>
 some (r5.1,r5.2.1,())
theorem yXG(f1 f2 f3 f4 f5):yKF.Eq [yBl.s f1,yCf.s f2,yCe.s f3,yGN.s f4,yKG.s f5] .no (yQt f1 f2 f3 f4 f5):=fun _=>by kernel_rfl
def yNl(L:Nat):yKF.T:=yQt (yCT L) (yCF L) (yDI L) (yFW L) (yPn L)
theorem yXF(L:Nat):yKF.C (yNl L):=yKF.c (yXG (yCT L) (yCF L) (yDI L) (yFW L) (yPn L)) (tC (yHx L).ent (tC (yOB L).ent (tC (yN8 L).ent (tC (yTj L).ent (tC (yXH L).ent tN))))) Tryz.func44 (by kernel_rfl) (lN _)
abbrev yIY:=fw3 46 (caC yMp (caC cI (caC cI caN))) cdB
abbrev yPh(x0:yAE)(x1:Int)(x2:Int):Option Bool:=
 bif x0.By==x1 then
 some (x0.Serial==x2)
 else
 some false
theorem yWS:yIY.Eq [] .no (yPh):=fun _=>by kernel_rfl
def yEg(L:Nat):yIY.T:=yPh
theorem yWR(L:Nat):yIY.C (yEg L):=yIY.c (yWS) tN Tryz.func46 (by kernel_rfl) (lN _)
abbrev yBz:=rw1 208 .a (caC yCp caN) (zW 2 (zW 4 (zW 4 zN)))
abbrev yPi(x0:yAC):Option ((List (List V))×(List (List V))×(List (List V))×Unit):=
 gd (x0.Slots.all fun r=>Nat.beq r.length 2)<|
 gM (0+x0.Slots.length) 16<|
 gd (x0.Holds.all fun r=>Nat.beq r.length 4)<|
 gM (0+x0.Holds.length) 32<|
 gd (x0.Queue.all fun r=>Nat.beq r.length 4)<|
 gM (0+x0.Queue.length) 32<|
 gW x0.Slots (0+x0.Slots.length)<|
 gW x0.Holds (0+x0.Holds.length)<|
 gW x0.Queue (0+x0.Queue.length)<|
 some (x0.Slots,x0.Holds,x0.Queue,())
theorem yWV:yBz.Eq [] .no (yPi):=fun _=>by kernel_rfl
def yCa(L:Nat):yBz.T:=yPi
theorem yK5(L:Nat):yBz.C (yCa L):=yBz.c (yWV) tN Tryz.func208 (by kernel_rfl) (lN _)
abbrev yCo:=fw2 273 (caC yM6 (caC yM6 caN)) cdB
abbrev yMb(x0:yAG)(x1:yAG):Option Bool:=
 bif decide (x0.Lo≤x0.Hi) then
 bif decide (x1.Lo≤x1.Hi) then
 bif decide (x0.Lo≤x1.Hi) then
 some (decide (x1.Lo≤x0.Hi))
 else
 some false
 else
 some false
 else
 some false
theorem yTp:yCo.Eq [] .no (yMb):=fun _=>by kernel_rfl
def yC5(L:Nat):yCo.T:=yMb
theorem yPe(L:Nat):yCo.C (yC5 L):=yCo.c (yTp) tN Tryz.func273 (by kernel_rfl) (lN _)
abbrev yDf:=fw2 305 (caC yO7 (caC yO7 caN)) cdB
abbrev yLc(f1:yCo.T)(x0:yAI)(x1:yAI):Option Bool:=
 bif x0.Key==x1.Key then
 some true
 else
 bindO (f1 x0.Span x1.Span) fun r1=>
 bif !r1 then
 some true
 else
 bif x0.Mode==1 then
 some (x1.Mode==1)
 else
 some false
theorem ySs(f1):yDf.Eq [yCo.s f1] .no (yLc f1):=fun _=>by kernel_rfl
def yEJ(L:Nat):yDf.T:=yLc (yC5 L)
theorem ySr(L:Nat):yDf.C (yEJ L):=yDf.c (ySs (yC5 L)) (tC (yPe L).ent tN) Tryz.func305 (by kernel_rfl) (lN _)
abbrev yJC:=(List (List V))×yAI×Int×Unit
abbrev yMZ:=Unit
abbrev yMa:=Bool×Unit
abbrev yL3{α:Type}(f1:yDf.T)(s:yJC)(kn:yJC→Option α)(k0:yMZ→Option α)(k1:yMa→Option α):Option α:=
 bif decide (s.2.2.1<(s.1.length:Int)) then
 gI s.1 yAI.ks s.2.2.1<|
 bindO (f1 s.2.1 (⟨aI s.1 s.2.2.1.toNat 0,(⟨aI s.1 s.2.2.1.toNat 1,aI s.1 s.2.2.1.toNat 2⟩:yAG),aI s.1 s.2.2.1.toNat 3⟩:yAI)) fun r1=>
 bif !r1 then
 k1 (false,())
 else
 kn (s.1,s.2.1,w64 (s.2.2.1+1),())
 else
 k0 (())
abbrev yJD:LW2 yJC yMZ yMa:=⟨(lvC 1 (mP cdR) (lvC 2 yWr (lvC 5 (mP cI) lvN))),(.exit 0),lvN,.ret,(lvC 4 (mP cdB) lvN)⟩
theorem yTo{α:Type}(f1):yJD.Eq (α:=α) [yDf.s f1] Tryz.f274 [1,0,1,0] .no (yL3 f1):=fun _ _ _=>by kernel_rfl
abbrev yIW:=fw2 274 (caC yO7 (caC cdR caN)) cdB
abbrev yPc(F0:LF2 yJC yMZ yMa (Bool))(x0:yAI)(x1:List (List V)):Option Bool:=
 F0 (x1,x0,0,()) (fun q1=>
 some true) (fun q2=>
 some q2.1)
theorem yWO(F0):yIW.Eq [] (.two .no (.two (.two .no (.one (.lp (yJD.s F0)))) .no)) (yPc F0):=fun _=>by kernel_rfl
def yIV(L:Nat):yIW.T:=yPc (loop2 (yL3 (yEJ L)) L)
theorem ySq{α:Type}(L:Nat):LO Tryz.f274 [1,0,1,0] (yJD.s (α:=α) (loop2 (yL3 (yEJ L)) L)):=yJD.k (yTo (yEJ L)) (tC (ySr L).ent tN) (lN _) (by kernel_rfl) L
theorem yWN(L:Nat):yIW.C (yIV L):=yIW.c (yWO (loop2 (yL3 (yEJ L)) L)) tN Tryz.func274 (by kernel_rfl) (lS (lN _) (lS (lS (lN _) (lB (lL (ySq L)))) (lN _)))
end Go.Proofs.YtakljpcmbpaeaaaGreat

namespace Go.Proofs.YtakljpcmbpaeaaaGreat
open Go.RowKit
set_option maxRecDepth 100000
set_option maxHeartbeats 16000000
abbrev yHl:=yAC×yAC×((List (List V))×(List (List V))×(List (List V))×Unit)×Int×Unit
abbrev yLf:=yAC×((List (List V))×(List (List V))×(List (List V))×Unit)×Unit
abbrev yHL{α:Type}(f1:yIW.T)(s:yHl)(kn:yHl→Option α)(k0:yLf→Option α):Option α:=
 letI qf:=s.2.2.1.1
 letI qe:=s.2.2.2.1
 letI qd:=(⟨aI s.1.Queue qe.toNat 0,(⟨aI s.1.Queue qe.toNat 1,aI s.1.Queue qe.toNat 2⟩:yAG),aI s.1.Queue qe.toNat 3⟩:yAI)
 letI qc:=s.2.2.1.2.1
 letI qb:=s.2.2.1.2.2.1
 letI qh:=Nat.beq (0+qb.length) qb.length
 letI qg:=qb.length+1
 letI qa:= [[V.int .i64 (aI s.1.Queue qe.toNat 0),V.int .i64 (aI s.1.Queue qe.toNat 1),V.int .i64 (aI s.1.Queue qe.toNat 2),V.int .i8 (aI s.1.Queue qe.toNat 3)]]
 bif decide (qe<(s.1.Queue.length:Int)) then
 gI s.1.Queue yAI.ks qe<|
 gF qc (0+qc.length)<|
 bindO (f1 qd (qc.take qc.length)) fun r1=>
 bif r1 then
 gF qb (0+qb.length)<|
 bindO (f1 qd (qb.take qb.length)) fun r2=>
 bif r2 then
 gd (Nat.beq (0+qc.length) qc.length)<|
 gM (qc.length+1) 32<|
 gW qf qf.length<|
 gW (qc++qa) (qc.length+1)<|
 gW qb qb.length<|
 kn (s.1,s.2.1,(qf,qc++qa,qb,()),w64 (qe+1),())
 else
 gd qh<|
 gM qg 32<|
 gW qf qf.length<|
 gW qc qc.length<|
 gW (qb++qa) qg<|
 kn (s.1,s.2.1,(qf,qc,qb++qa,()),w64 (qe+1),())
 else
 gd qh<|
 gM qg 32<|
 gW qf qf.length<|
 gW qc qc.length<|
 gW (qb++qa) qg<|
 kn (s.1,s.2.1,(qf,qc,qb++qa,()),w64 (qe+1),())
 else
 gW qf qf.length<|
 gW qc qc.length<|
 gW qb qb.length<|
 k0 (s.2.1,(qf,qc,qb,()),())
abbrev yHm:LW1 yHl yLf:=⟨(lvC 1 yDt (lvC 2 yDt (lvC 3 (mO (zW 2 (zW 4 (zW 4 zN))) 3) (lvC 4 (mP cI) lvN)))),(.exit 0),(lvC 2 yDt (lvC 3 (mO (zW 2 (zW 4 (zW 4 zN))) 3) lvN))⟩
theorem ySu{α:Type}(f1):yHm.Eq (α:=α) [yIW.s f1] Tryz.f213 [1,1,1,0,1,0] .no (yHL f1):=fun _ _ _=>by kernel_rfl
abbrev yCi:=rw1 213 .a (caC yCp caN) (zW 2 (zW 4 (zW 4 zN)))
abbrev yOi(f1:yBz.T)(F0:LF1 yHl yLf ((List (List V))×(List (List V))×(List (List V))×Unit))(x0:yAC):Option ((List (List V))×(List (List V))×(List (List V))×Unit):=
 bindO (f1 x0) fun r1=>
 gW r1.1 r1.1.length<|
 gW r1.2.1 r1.2.1.length<|
 F0 (x0,yAC.z,(r1.1,r1.2.1,[],()),0,()) (fun q2=>
 gW q2.2.1.1 q2.2.1.1.length<|
 gW q2.2.1.2.1 q2.2.1.2.1.length<|
 gW q2.2.1.2.2.1 q2.2.1.2.2.1.length<|
 some (q2.2.1.1,q2.2.1.2.1,q2.2.1.2.2.1,()))
theorem yVg(f1 F0):yCi.Eq [yBz.s f1] (.two .no (.two .no (.two .no (.two (.two .no (.one (.lp (yHm.s F0)))) .no)))) (yOi f1 F0):=fun _=>by kernel_rfl
def yFP(L:Nat):yCi.T:=yOi (yCa L) (loop1 (yHL (yIV L)) L)
theorem yRx{α:Type}(L:Nat):LO Tryz.f213 [1,1,1,0,1,0] (yHm.s (α:=α) (loop1 (yHL (yIV L)) L)):=yHm.k (ySu (yIV L)) (tC (yWN L).ent tN) (lN _) (by kernel_rfl) L
theorem yOh(L:Nat):yCi.C (yFP L):=yCi.c (yVg (yCa L) (loop1 (yHL (yIV L)) L)) (tC (yK5 L).ent tN) Tryz.func213 (by kernel_rfl) (lS (lN _) (lS (lN _) (lS (lN _) (lS (lS (lN _) (lB (lL (yRx L)))) (lN _)))))
abbrev yF5:=(List (List V))×Int×(List (List V))×Int×Unit
abbrev yJN:=(List (List V))×Unit
abbrev yFX{α:Type}(s:yF5)(kn:yF5→Option α)(k0:yJN→Option α):Option α:=
 letI qc:=s.2.2.1
 letI qb:=s.2.2.2.1
 letI qa:= [[V.int .i64 (aI s.1 qb.toNat 0),V.int .i64 (aI s.1 qb.toNat 1),V.int .i64 (aI s.1 qb.toNat 2),V.int .i8 (aI s.1 qb.toNat 3)]]
 bif decide (qb<(s.1.length:Int)) then
 gI s.1 yAI.ks qb<|
 bif(aI s.1 qb.toNat 0) !=s.2.1 then
 gI s.1 yAI.ks qb<|
 gd (Nat.beq (0+qc.length) qc.length)<|
 gM (qc.length+1) 32<|
 gW (qc++qa) (qc.length+1)<|
 kn (s.1,s.2.1,qc++qa,w64 (qb+1),())
 else
 gW qc qc.length<|
 kn (s.1,s.2.1,qc,w64 (qb+1),())
 else
 gW qc qc.length<|
 k0 (qc,())
abbrev yF6:LW1 yF5 yJN:=⟨(lvC 0 (mP cdR) (lvC 1 (mP cI) (lvC 5 (mW 4) (lvC 6 (mP cI) lvN)))),(.exit 0),(lvC 5 (mW 4) lvN)⟩
theorem yRT{α:Type}:yF6.Eq (α:=α) [] Tryz.f271 [1,1,0,1,0] .no (yFX):=fun _ _ _=>by kernel_rfl
abbrev yEi:=rw2 271 .s (caC cdR (caC cI caN)) (zW 4 zN)
abbrev yMi(F0:LF1 yF5 yJN ((List (List V))×Unit))(x0:List (List V))(x1:Int):Option ((List (List V))×Unit):=
 F0 (x0,x1,[],0,()) (fun q1=>
 gW q1.1 q1.1.length<|
 some (q1.1,()))
theorem yTx(F0):yEi.Eq [] (.two .no (.two .no (.two (.two .no (.one (.lp (yF6.s F0)))) .no))) (yMi F0):=fun _=>by kernel_rfl
def yJM(L:Nat):yEi.T:=yMi (loop1 (yFX) L)
theorem yQs{α:Type}(L:Nat):LO Tryz.f271 [1,1,0,1,0] (yF6.s (α:=α) (loop1 (yFX) L)):=yF6.k (yRT) tN (lN _) (by kernel_rfl) L
theorem yTw(L:Nat):yEi.C (yJM L):=yEi.c (yTx (loop1 (yFX) L)) tN Tryz.func271 (by kernel_rfl) (lS (lN _) (lS (lN _) (lS (lS (lN _) (lB (lL (yQs L)))) (lN _))))
abbrev yGz:=rw2 209 .a (caC yCp (caC cI caN)) (zW 2 (zW 4 (zW 4 zN)))
abbrev yOn(f1:yBz.T)(f2:yEi.T)(f3:yCi.T)(x0:yAC)(x1:Int):Option ((List (List V))×(List (List V))×(List (List V))×Unit):=
 letI qb:=0+x1.toNat
 bindO (f1 x0) fun r1=>
 letI qc:=r1.1.getD qb []
 letI qa:=r1.1.set qb (qc.take 0++([V.int .i64 0,V.int .i64 0]++qc.drop 2))
 gB x1 r1.1.length<|
 gL r1.1 kI qb 0<|
 gF r1.2.1 (0+r1.2.1.length)<|
 bindO (f2 (r1.2.1.take r1.2.1.length) (aI r1.1 qb 0)) fun r2=>
 gF r1.2.2.1 (0+r1.2.2.1.length)<|
 bindO (f2 (r1.2.2.1.take r1.2.2.1.length) (aI r1.1 qb 0)) fun r3=>
 gB x1 r1.1.length<|
 gd (decide (0+x1.toNat<r1.1.length))<|
 gd (Nat.ble 0 qb)<|
 gd (Nat.ble 2 qc.length)<|
 gF qa (0+r1.1.length)<|
 gF r2.1 (0+r2.1.length)<|
 gF r3.1 (0+r3.1.length)<|
 bindO (f3 (⟨qa.take r1.1.length,r2.1.take r2.1.length,r3.1.take r3.1.length⟩:yAC)) fun r4=>
 gW r4.1 r4.1.length<|
 gW r4.2.1 r4.2.1.length<|
 gW r4.2.2.1 r4.2.2.1.length<|
 some (r4.1,r4.2.1,r4.2.2.1,())
theorem yVj(f1 f2 f3):yGz.Eq [yBz.s f1,yEi.s f2,yCi.s f3] .no (yOn f1 f2 f3):=fun _=>by kernel_rfl
def yMh(L:Nat):yGz.T:=yOn (yCa L) (yJM L) (yFP L)
theorem yVi(L:Nat):yGz.C (yMh L):=yGz.c (yVj (yCa L) (yJM L) (yFP L)) (tC (yK5 L).ent (tC (yTw L).ent (tC (yOh L).ent tN))) Tryz.func209 (by kernel_rfl) (lN _)
abbrev yKu:=Int×(List (List V))×(List (List V))×Int×Unit
abbrev yNO:=(List (List V))×Unit
abbrev yK7{α:Type}(s:yKu)(kn:yKu→Option α)(k0:yNO→Option α):Option α:=
 letI qd:=s.2.1
 letI qc:=s.2.2.1
 letI qb:=s.2.2.2.1
 letI qa:= [[V.int .i64 (aI qc qb.toNat 0),V.int .i64 (aI qc qb.toNat 1),V.int .i64 (aI qc qb.toNat 2),V.int .i8 (aI qc qb.toNat 3)]]
 bif decide (qb<(qc.length:Int)) then
 gI qc yAI.ks qb<|
 bif(aI qc qb.toNat 0)==s.1 then
 gI qc yAI.ks qb<|
 gd (Nat.beq (0+qd.length) qd.length)<|
 gM (qd.length+1) 32<|
 gW (qd++qa) (qd.length+1)<|
 kn (s.1,qd++qa,qc,w64 (qb+1),())
 else
 gW qd qd.length<|
 kn (s.1,qd,qc,w64 (qb+1),())
 else
 gW qd qd.length<|
 k0 (qd,())
abbrev yKv:LW1 yKu yNO:=⟨(lvC 1 (mP cI) (lvC 5 (mW 4) (lvC 6 (mP cdR) (lvC 7 (mP cI) lvN)))),(.exit 0),(lvC 5 (mW 4) lvN)⟩
theorem yUk{α:Type}:yKv.Eq (α:=α) [] Tryz.f210 [1,1,1,0,1,0] .no (yK7):=fun _ _ _=>by kernel_rfl
abbrev yKE:=rw2 210 .s (caC yCp (caC cI caN)) (zW 4 zN)
abbrev yQr(F0:LF1 yKu yNO ((List (List V))×Unit))(x0:yAC)(x1:Int):Option ((List (List V))×Unit):=
 letI qb:=0+x0.Holds.length
 letI qa:=qb+x0.Queue.length
 gd (x0.Holds.all fun r=>Nat.beq r.length 4)<|
 gM qb 32<|
 gd (x0.Queue.all fun r=>Nat.beq r.length 4)<|
 gd (Nat.beq (0+qb) x0.Holds.length)<|
 gM qa 32<|
 gF (x0.Holds++x0.Queue) (0+qa)<|
 F0 (x1,[],(x0.Holds++x0.Queue).take qa,0,()) (fun q1=>
 gW q1.1 q1.1.length<|
 some (q1.1,()))
theorem yXE(F0):yKE.Eq [] (.two .no (.two .no (.two .no (.two (.two .no (.one (.lp (yKv.s F0)))) .no)))) (yQr F0):=fun _=>by kernel_rfl
def yPm(L:Nat):yKE.T:=yQr (loop1 (yK7) L)
theorem yTv{α:Type}(L:Nat):LO Tryz.f210 [1,1,1,0,1,0] (yKv.s (α:=α) (loop1 (yK7) L)):=yKv.k (yUk) tN (lN _) (by kernel_rfl) L
theorem yXD(L:Nat):yKE.C (yPm L):=yKE.c (yXE (loop1 (yK7) L)) tN Tryz.func210 (by kernel_rfl) (lS (lN _) (lS (lN _) (lS (lN _) (lS (lS (lN _) (lB (lL (yTv L)))) (lN _)))))
end Go.Proofs.YtakljpcmbpaeaaaGreat

namespace Go.Proofs.YtakljpcmbpaeaaaGreat
open Go.RowKit
set_option maxRecDepth 100000
set_option maxHeartbeats 16000000
abbrev yJ9:=fw2 272 (caC yCS (caC yM6 caN)) cdB
abbrev yQm(x0:yAN)(x1:yAG):Option Bool:=
 bif decide (0≤x1.Lo) then
 bif decide (x1.Lo≤x1.Hi) then
 some (decide (x1.Hi<x0.Blocks))
 else
 some false
 else
 some false
theorem yW7:yJ9.Eq [] .no (yQm):=fun _=>by kernel_rfl
def yRQ(L:Nat):yJ9.T:=yQm
theorem yW6(L:Nat):yJ9.C (yRQ L):=yJ9.c (yW7) tN Tryz.func272 (by kernel_rfl) (lN _)
abbrev yIX:=fw2 211 (caC yCS (caC yO7 caN)) cdB
abbrev yPd(f1:yJ9.T)(x0:yAN)(x1:yAI):Option Bool:=
 bif decide (1≤x1.Key) then
 bindO (f1 x0 x1.Span) fun r1=>
 bif r1 then
 bif x1.Mode==1 then
 some true
 else
 some (x1.Mode==2)
 else
 some false
 else
 some false
theorem yWQ(f1):yIX.Eq [yJ9.s f1] .no (yPd f1):=fun _=>by kernel_rfl
def yNj(L:Nat):yIX.T:=yPd (yRQ L)
theorem yWP(L:Nat):yIX.C (yNj L):=yIX.c (yWQ (yRQ L)) (tC (yW6 L).ent tN) Tryz.func211 (by kernel_rfl) (lN _)
abbrev yF3:=(List (List V))×Int×yAG×Int×Unit
abbrev yJF:=Unit
abbrev yJG:=Bool×Unit
abbrev yHi{α:Type}(f1:yCo.T)(s:yF3)(kn:yF3→Option α)(k0:yJF→Option α)(k1:yJG→Option α):Option α:=
 letI qa:=s.2.2.2.1
 bif decide (qa<(s.1.length:Int)) then
 gI s.1 yAI.ks qa<|
 bif(aI s.1 qa.toNat 0)==s.2.1 then
 gI s.1 yAI.ks qa<|
 bindO (f1 (⟨aI s.1 qa.toNat 1,aI s.1 qa.toNat 2⟩:yAG) s.2.2.1) fun r1=>
 bif r1 then
 k1 (true,())
 else
 kn (s.1,s.2.1,s.2.2.1,w64 (qa+1),())
 else
 kn (s.1,s.2.1,s.2.2.1,w64 (qa+1),())
 else
 k0 (())
abbrev yF4:LW2 yF3 yJF yJG:=⟨(lvC 0 (mP cdR) (lvC 1 (mP cI) (lvC 5 yXh (lvC 7 (mP cI) lvN)))),(.exit 0),lvN,.ret,(lvC 6 (mP cdB) lvN)⟩
theorem yRR{α:Type}(f1):yF4.Eq (α:=α) [yCo.s f1] Tryz.f212 [1,0,1,0] .no (yHi f1):=fun _ _ _=>by kernel_rfl
abbrev yEf:=fw3 212 (caC cdR (caC cI (caC yM6 caN))) cdB
abbrev yMc(F0:LF2 yF3 yJF yJG (Bool))(x0:List (List V))(x1:Int)(x2:yAG):Option Bool:=
 F0 (x0,x1,x2,0,()) (fun q1=>
 some false) (fun q2=>
 some q2.1)
theorem yTr(F0):yEf.Eq [] (.two .no (.two (.two .no (.one (.lp (yF4.s F0)))) .no)) (yMc F0):=fun _=>by kernel_rfl
def yJE(L:Nat):yEf.T:=yMc (loop2 (yHi (yC5 L)) L)
theorem yQn{α:Type}(L:Nat):LO Tryz.f212 [1,0,1,0] (yF4.s (α:=α) (loop2 (yHi (yC5 L)) L)):=yF4.k (yRR (yC5 L)) (tC (yPe L).ent tN) (lN _) (by kernel_rfl) L
theorem yTq(L:Nat):yEf.C (yJE L):=yEf.c (yTr (loop2 (yHi (yC5 L)) L)) tN Tryz.func212 (by kernel_rfl) (lS (lN _) (lS (lS (lN _) (lB (lL (yQn L)))) (lN _)))
abbrev yL6:=(List (List V))×Int×yAG×Int×Unit
abbrev yOl:=Unit
abbrev yOm:=Int×Unit
abbrev yOk{α:Type}(s:yL6)(kn:yL6→Option α)(k0:yOl→Option α)(k1:yOm→Option α):Option α:=
 letI qa:=s.2.2.2.1
 bif decide (qa<(s.1.length:Int)) then
 gI s.1 yAI.ks qa<|
 bif(aI s.1 qa.toNat 0)==s.2.1 then
 gI s.1 yAI.ks qa<|
 bif((aI s.1 qa.toNat 1)==s.2.2.1.Lo)&&(((aI s.1 qa.toNat 2)==s.2.2.1.Hi)&&true) then
 k1 (qa,())
 else
 kn (s.1,s.2.1,s.2.2.1,w64 (qa+1),())
 else
 kn (s.1,s.2.1,s.2.2.1,w64 (qa+1),())
 else
 k0 (())
abbrev yL7:LW2 yL6 yOl yOm:=⟨(lvC 0 (mP cdR) (lvC 1 (mP cI) (lvC 5 yXh (lvC 7 (mP cI) lvN)))),(.exit 0),lvN,.ret,(lvC 6 (mP cI) lvN)⟩
theorem yVh{α:Type}:yL7.Eq (α:=α) [] Tryz.f214 [1,0,1,0] .no (yOk):=fun _ _ _=>by kernel_rfl
abbrev yIb:=fw3 214 (caC cdR (caC cI (caC yM6 caN))) cI
abbrev yUx(F0:LF2 yL6 yOl yOm (Int))(x0:List (List V))(x1:Int)(x2:yAG):Option Int:=
 F0 (x0,x1,x2,0,()) (fun q1=>
 some (-1)) (fun q2=>
 some q2.1)
theorem yXc(F0):yIb.Eq [] (.two .no (.two (.two .no (.one (.lp (yL7.s F0)))) .no)) (yUx F0):=fun _=>by kernel_rfl
def yRS(L:Nat):yIb.T:=yUx (loop2 (yOk) L)
theorem yUl{α:Type}(L:Nat):LO Tryz.f214 [1,0,1,0] (yL7.s (α:=α) (loop2 (yOk) L)):=yL7.k (yVh) tN (lN _) (by kernel_rfl) L
theorem yUw(L:Nat):yIb.C (yRS L):=yIb.c (yXc (loop2 (yOk) L)) tN Tryz.func214 (by kernel_rfl) (lS (lN _) (lS (lS (lN _) (lB (lL (yUl L)))) (lN _)))
abbrev yIc:=rw3 215 .a (caC yCp (caC cI (caC yM6 caN))) (zW 2 (zW 4 (zW 4 zN)))
abbrev ySI(f1:yBz.T)(f2:yIb.T)(f3:yCi.T)(x0:yAC)(x1:Int)(x2:yAG):Option ((List (List V))×(List (List V))×(List (List V))×Unit):=
 bindO (f1 x0) fun r1=>
 letI ql:=0+r1.1.length
 letI qf:=r1.2.1
 letI qe:=r1.2.2.1
 gF qf (0+qf.length)<|
 bindO (f2 (qf.take qf.length) x1 x2) fun r2=>
 letI qi:=w64 (r2+1)
 letI qd:=qf.take r2.toNat
 letI qk:=0+(qd.length)
 letI qb:=(qf.drop (0+qi.toNat)).take (qf.length-(qi.toNat))
 letI qg:=qk+(qb.length)
 bif decide (0≤r2) then
 gd (decide (0≤r2))<|
 gd (decide (r2≤(qf.length:Int)))<|
 gd (Nat.ble (0+r2.toNat) qf.length)<|
 gd (qd.all fun r=>Nat.beq r.length 4)<|
 gM qk 32<|
 gd (decide (0≤w64 (r2+1)))<|
 gd (decide (w64 (r2+1)≤(qf.length:Int)))<|
 gd (Nat.ble ((0+qi.toNat)+(qf.length-(qi.toNat))) qf.length)<|
 gd (qb.all fun r=>Nat.beq r.length 4)<|
 gd (Nat.beq (0+qk) (qd.length))<|
 gM qg 32<|
 gF r1.1 ql<|
 gF (qd++qb) (0+qg)<|
 gF qe (0+qe.length)<|
 bindO (f3 (⟨r1.1.take r1.1.length,(qd++qb).take qg,qe.take qe.length⟩:yAC)) fun r3=>
 gW r3.1 r3.1.length<|
 gW r3.2.1 r3.2.1.length<|
 gW r3.2.2.1 r3.2.2.1.length<|
 some (r3.1,r3.2.1,r3.2.2.1,())
 else
 gF qe (0+qe.length)<|
 bindO (f2 (qe.take qe.length) x1 x2) fun r4=>
 letI qj:=w64 (r4+1)
 letI qc:=qe.take r4.toNat
 letI qm:=0+(qc.length)
 letI qa:=(qe.drop (0+qj.toNat)).take (qe.length-(qj.toNat))
 letI qh:=qm+(qa.length)
 bif decide (0≤r4) then
 gd (decide (0≤r4))<|
 gd (decide (r4≤(qe.length:Int)))<|
 gd (Nat.ble (0+r4.toNat) qe.length)<|
 gd (qc.all fun r=>Nat.beq r.length 4)<|
 gM qm 32<|
 gd (decide (0≤w64 (r4+1)))<|
 gd (decide (w64 (r4+1)≤(qe.length:Int)))<|
 gd (Nat.ble ((0+qj.toNat)+(qe.length-(qj.toNat))) qe.length)<|
 gd (qa.all fun r=>Nat.beq r.length 4)<|
 gd (Nat.beq (0+qm) (qc.length))<|
 gM qh 32<|
 gF r1.1 ql<|
 gF qf (0+qf.length)<|
 gF (qc++qa) (0+qh)<|
 bindO (f3 (⟨r1.1.take r1.1.length,qf.take qf.length,(qc++qa).take qh⟩:yAC)) fun r5=>
 gW r5.1 r5.1.length<|
 gW r5.2.1 r5.2.1.length<|
 gW r5.2.2.1 r5.2.2.1.length<|
 some (r5.1,r5.2.1,r5.2.2.1,())
 else
 gF r1.1 ql<|
 gF qf (0+qf.length)<|
 gF qe (0+qe.length)<|
 bindO (f3 (⟨r1.1.take r1.1.length,qf.take qf.length,qe.take qe.length⟩:yAC)) fun r6=>
 gW r6.1 r6.1.length<|
 gW r6.2.1 r6.2.1.length<|
 gW r6.2.2.1 r6.2.2.1.length<|
 some (r6.1,r6.2.1,r6.2.2.1,())
theorem yWa(f1 f2 f3):yIc.Eq [yBz.s f1,yIb.s f2,yCi.s f3] .no (ySI f1 f2 f3):=fun _=>by kernel_rfl
def yR0(L:Nat):yIc.T:=ySI (yCa L) (yRS L) (yFP L)
theorem yWZ(L:Nat):yIc.C (yR0 L):=yIc.c (yWa (yCa L) (yRS L) (yFP L)) (tC (yK5 L).ent (tC (yUw L).ent (tC (yOh L).ent tN))) Tryz.func215 (by kernel_rfl) (lN _)
end Go.Proofs.YtakljpcmbpaeaaaGreat

namespace Go.Proofs.YtakljpcmbpaeaaaGreat
open Go.RowKit
set_option maxRecDepth 100000
set_option maxHeartbeats 16000000
abbrev yHj:=yAC×yAE×yAC×Bool×Int×Unit
abbrev yLd:=yAC×yAC×Unit
abbrev yLe:=yAC×Unit
abbrev yKr{α:Type}(f1:yBz.T)(s:yHj)(kn:yHj→Option α)(k0:yLd→Option α)(k1:yLe→Option α):Option α:=
 letI qb:=s.2.2.2.2.1
 bif decide (qb<(s.1.Slots.length:Int)) then
 bif !s.2.2.2.1 then
 gI s.1.Slots yAG.ks qb<|
 bif(aI s.1.Slots qb.toNat 0)==0 then
 bindO (f1 s.1) fun r1=>
 letI qc:=r1.1.getD (0+qb.toNat) []
 letI qa:=r1.1.set (0+qb.toNat) (qc.take 0++([V.int .i64 s.2.1.By]++qc.drop 1))
 gB qb r1.1.length<|
 gd (decide (0+qb.toNat<r1.1.length))<|
 gd (Nat.ble 0 (0+qb.toNat))<|
 gd (Nat.ble 1 qc.length)<|
 gF qa (0+r1.1.length)<|
 gF r1.2.1 (0+r1.2.1.length)<|
 gF r1.2.2.1 (0+r1.2.2.1.length)<|
 k1 ((⟨qa.take r1.1.length,r1.2.1.take r1.2.1.length,r1.2.2.1.take r1.2.2.1.length⟩:yAC),())
 else
 kn (s.1,s.2.1,s.2.2.1,s.2.2.2.1,w64 (qb+1),())
 else
 k0 (s.1,s.2.2.1,())
 else
 k0 (s.1,s.2.2.1,())
abbrev yHk:LW2 yHj yLd yLe:=⟨(lvC 4 yDt (lvC 5 yOs (lvC 6 yDt (lvC 8 (mP cdB) (lvC 11 (mP cI) lvN))))),(.exit 1),(lvC 4 yDt (lvC 6 yDt lvN)),.ret,(lvC 6 yDt lvN)⟩
theorem ySt{α:Type}(f1):yHk.Eq (α:=α) [yBz.s f1] Tryz.f162 [1,1,1,0,1,0,1,0,1,0] .no (yKr f1):=fun _ _ _=>by kernel_rfl
abbrev yGy:=fw3 162 (caC yCS (caC yCp (caC yMp caN))) yCp
abbrev yOg(f1:yE7.T)(f2:yGz.T)(f3:yKE.T)(f4:yIX.T)(f5:yEf.T)(f6:yBz.T)(f7:yCi.T)(f8:yIb.T)(f9:yIc.T)(F0:LF2 yHj yLd yLe (yAC))(x0:yAN)(x1:yAC)(x2:yAE):Option yAC:=
 bindO (f1 x1 x2.By) fun r1=>
 bindO (f1 x1 x2.Dead) fun r2=>
 letI qe:=0+r2.1.toNat
 bif x2.Kind==0 then
 F0 (x1,x2,yAC.z,r1.2.1,0,()) (fun q3=>
 some q3.1) (fun q4=>
 some q4.1)
 else
 bif x2.Kind==1 then
 bif r1.2.1 then
 bindO (f2 x1 r1.1) fun r5=>
 gF r5.1 (0+r5.1.length)<|
 gF r5.2.1 (0+r5.2.1.length)<|
 gF r5.2.2.1 (0+r5.2.2.1.length)<|
 some (⟨r5.1.take r5.1.length,r5.2.1.take r5.2.1.length,r5.2.2.1.take r5.2.2.1.length⟩:yAC)
 else
 some x1
 else
 bif x2.Kind==2 then
 bindO (f3 x1 x2.By) fun r6=>
 bif r1.2.1 then
 bindO (f4 x0 (⟨x2.By,x2.Span,x2.Mode⟩:yAI)) fun r7=>
 bif r7 then
 gF r6.1 (0+r6.1.length)<|
 bindO (f5 (r6.1.take r6.1.length) x2.By x2.Span) fun r8=>
 bif !r8 then
 bif decide ((r6.1.length:Int)<64) then
 bindO (f6 x1) fun r9=>
 letI qd:=r9.2.2.1.length+1
 letI qb:=r9.2.2.1++([[V.int .i64 x2.By,V.int .i64 x2.Span.Lo,V.int .i64 x2.Span.Hi,V.int .i8 x2.Mode]])
 gd (Nat.beq (0+r9.2.2.1.length) r9.2.2.1.length)<|
 gM qd 32<|
 gF r9.1 (0+r9.1.length)<|
 gF r9.2.1 (0+r9.2.1.length)<|
 gF qb (0+qd)<|
 bindO (f7 (⟨r9.1.take r9.1.length,r9.2.1.take r9.2.1.length,qb.take qd⟩:yAC)) fun r10=>
 gF r10.1 (0+r10.1.length)<|
 gF r10.2.1 (0+r10.2.1.length)<|
 gF r10.2.2.1 (0+r10.2.2.1.length)<|
 some (⟨r10.1.take r10.1.length,r10.2.1.take r10.2.1.length,r10.2.2.1.take r10.2.2.1.length⟩:yAC)
 else
 some x1
 else
 some x1
 else
 some x1
 else
 some x1
 else
 bif x2.Kind==3 then
 bindO (f8 x1.Holds x2.By x2.Span) fun r11=>
 bif decide (0≤r11) then
 bindO (f9 x1 x2.By x2.Span) fun r12=>
 gF r12.1 (0+r12.1.length)<|
 gF r12.2.1 (0+r12.2.1.length)<|
 gF r12.2.2.1 (0+r12.2.2.1.length)<|
 some (⟨r12.1.take r12.1.length,r12.2.1.take r12.2.1.length,r12.2.2.1.take r12.2.2.1.length⟩:yAC)
 else
 bindO (f8 x1.Queue x2.By x2.Span) fun r13=>
 bif decide (0≤r13) then
 bindO (f9 x1 x2.By x2.Span) fun r14=>
 gF r14.1 (0+r14.1.length)<|
 gF r14.2.1 (0+r14.2.1.length)<|
 gF r14.2.2.1 (0+r14.2.2.1.length)<|
 some (⟨r14.1.take r14.1.length,r14.2.1.take r14.2.1.length,r14.2.2.1.take r14.2.2.1.length⟩:yAC)
 else
 some x1
 else
 bif x2.Kind==4 then
 bif r2.2.1 then
 gI x1.Slots yAG.ks r2.1<|
 bif(aI x1.Slots r2.1.toNat 1)==x2.Was then
 bif x2.By !=x2.Dead then
 bindO (f6 x1) fun r15=>
 letI qc:=r15.1.getD qe []
 letI qa:=r15.1.set qe (qc.take 1++([V.int .i64 x2.By]++qc.drop 2))
 gB r2.1 r15.1.length<|
 gd (decide (0+r2.1.toNat<r15.1.length))<|
 gd (Nat.ble 0 qe)<|
 gd (Nat.ble 2 qc.length)<|
 gF qa (0+r15.1.length)<|
 gF r15.2.1 (0+r15.2.1.length)<|
 gF r15.2.2.1 (0+r15.2.2.1.length)<|
 some (⟨qa.take r15.1.length,r15.2.1.take r15.2.1.length,r15.2.2.1.take r15.2.2.1.length⟩:yAC)
 else
 some x1
 else
 some x1
 else
 some x1
 else
 bif x2.Kind==5 then
 bif r2.2.1 then
 bif x2.By !=0 then
 gI x1.Slots yAG.ks r2.1<|
 bif(aI x1.Slots r2.1.toNat 1)==x2.By then
 bindO (f2 x1 r2.1) fun r16=>
 gF r16.1 (0+r16.1.length)<|
 gF r16.2.1 (0+r16.2.1.length)<|
 gF r16.2.2.1 (0+r16.2.2.1.length)<|
 some (⟨r16.1.take r16.1.length,r16.2.1.take r16.2.1.length,r16.2.2.1.take r16.2.2.1.length⟩:yAC)
 else
 some x1
 else
 some x1
 else
 some x1
 else
 some x1
theorem yVf(f1 f2 f3 f4 f5 f6 f7 f8 f9 F0):yGy.Eq [yE7.s f1,yGz.s f2,yKE.s f3,yIX.s f4,yEf.s f5,yBz.s f6,yCi.s f7,yIb.s f8,yIc.s f9] (.two .no (.two .no (.two .no (.two (.two .no (.one (.two .no (.two (.two .no (.one (.lp (yHk.s F0)))) .no)))) .no)))) (yOg f1 f2 f3 f4 f5 f6 f7 f8 f9 F0):=fun _=>by kernel_rfl
def yFO(L:Nat):yGy.T:=yOg (yKD L) (yMh L) (yPm L) (yNj L) (yJE L) (yCa L) (yFP L) (yRS L) (yR0 L) (loop2 (yKr (yCa L)) L)
theorem yRw{α:Type}(L:Nat):LO Tryz.f162 [1,1,1,0,1,0,1,0,1,0] (yHk.s (α:=α) (loop2 (yKr (yCa L)) L)):=yHk.k (ySt (yCa L)) (tC (yK5 L).ent tN) (lN _) (by kernel_rfl) L
theorem yVe(L:Nat):yGy.C (yFO L):=yGy.c (yVf (yKD L) (yMh L) (yPm L) (yNj L) (yJE L) (yCa L) (yFP L) (yRS L) (yR0 L) (loop2 (yKr (yCa L)) L)) (tC (ySH L).ent (tC (yVi L).ent (tC (yXD L).ent (tC (yWP L).ent (tC (yTq L).ent (tC (yK5 L).ent (tC (yOh L).ent (tC (yUw L).ent (tC (yWZ L).ent tN))))))))) Tryz.func162 (by kernel_rfl) (lS (lN _) (lS (lN _) (lS (lN _) (lS (lS (lN _) (lB (lS (lN _) (lQ (lS (lN _) (lB (lL (yRw L)))) (lN _))))) (lN _)))))
abbrev yG0:=(List (List V))×yAN×yAC×yAC×Int×Unit
abbrev yKH:=yAC×yAC×Unit
abbrev yGR{α:Type}(f1:yGy.T)(s:yG0)(kn:yG0→Option α)(k0:yKH→Option α):Option α:=
 letI qa:=s.2.2.2.2.1
 bif decide (qa<(s.1.length:Int)) then
 gI s.1 yAE.ks qa<|
 bindO (f1 s.2.1 s.2.2.2.1 (⟨aI s.1 qa.toNat 0,aI s.1 qa.toNat 1,aI s.1 qa.toNat 2,aI s.1 qa.toNat 3,aI s.1 qa.toNat 4,(⟨aI s.1 qa.toNat 5,aI s.1 qa.toNat 6⟩:yAG),aI s.1 qa.toNat 7⟩:yAE)) fun r1=>
 kn (s.1,s.2.1,s.2.2.1,r1,w64 (qa+1),())
 else
 k0 (s.2.2.1,s.2.2.2.1,())
abbrev yG1:LW1 yG0 yKH:=⟨(lvC 1 (mP cdR) (lvC 2 yLm (lvC 4 yDt (lvC 5 yDt (lvC 6 (mP cI) lvN))))),(.exit 0),(lvC 4 yDt (lvC 5 yDt lvN))⟩
theorem yR1{α:Type}(f1):yG1.Eq (α:=α) [yGy.s f1] Tryz.f102 [1,1,0,1,0] .no (yGR f1):=fun _ _ _=>by kernel_rfl
abbrev yFl:=fw2 102 (caC yCS (caC cdR caN)) yCp
abbrev yNR(f1:yCu.T)(F0:LF1 yG0 yKH (yAC))(x0:yAN)(x1:List (List V)):Option yAC:=
 bindO (f1 x0) fun r1=>
 F0 (x1,x0,yAC.z,r1,0,()) (fun q2=>
 some q2.2.1)
theorem yUo(f1 F0):yFl.Eq [yCu.s f1] (.two .no (.two .no (.two (.two .no (.one (.lp (yG1.s F0)))) .no))) (yNR f1 F0):=fun _=>by kernel_rfl
def yK8(L:Nat):yFl.T:=yNR (yCG L) (loop1 (yGR (yFO L)) L)
theorem yRU{α:Type}(L:Nat):LO Tryz.f102 [1,1,0,1,0] (yG1.s (α:=α) (loop1 (yGR (yFO L)) L)):=yG1.k (yR1 (yFO L)) (tC (yVe L).ent tN) (lN _) (by kernel_rfl) L
theorem yUn(L:Nat):yFl.C (yK8 L):=yFl.c (yUo (yCG L) (loop1 (yGR (yFO L)) L)) (tC (yOj L).ent tN) Tryz.func102 (by kernel_rfl) (lS (lN _) (lS (lN _) (lS (lS (lN _) (lB (lL (yRU L)))) (lN _))))
end Go.Proofs.YtakljpcmbpaeaaaGreat

namespace Go.Proofs.YtakljpcmbpaeaaaGreat
open Go.RowKit
set_option maxRecDepth 100000
set_option maxHeartbeats 16000000
abbrev yHV:=yAN×yAB×(List (List V))×Int×Int×Unit
abbrev yLN:=yAN×yAB×(List (List V))×Int×Unit
abbrev yLO:=Bool×Unit
abbrev yDA{α:Type}(f1:yIY.T)(s:yHV)(kn:yHV→Option α)(k0:yLN→Option α)(k1:yLO→Option α):Option α:=
 letI qc:=s.2.2.2.2.1
 letI qb:=s.2.2.1
 letI qa:=s.2.2.2.1
 bif decide (qc<qa) then
 gI qb yAE.ks qa<|
 gI qb yAE.ks qc<|
 gI qb yAE.ks qc<|
 bindO (f1 (⟨aI qb qa.toNat 0,aI qb qa.toNat 1,aI qb qa.toNat 2,aI qb qa.toNat 3,aI qb qa.toNat 4,(⟨aI qb qa.toNat 5,aI qb qa.toNat 6⟩:yAG),aI qb qa.toNat 7⟩:yAE) (aI qb qc.toNat 1) (aI qb qc.toNat 2)) fun r1=>
 bif r1 then
 k1 (false,())
 else
 kn (s.1,s.2.1,qb,qa,w64 (qc+1),())
 else
 k0 (s.1,s.2.1,qb,qa,())
abbrev yHW:LW2 yHV yLN yLO:=⟨(lvC 4 yLm (lvC 7 yDC (lvC 9 (mP cdR) (lvC 13 (mP cI) (lvC 14 (mP cI) lvN))))),(.exit 4),(lvC 4 yLm (lvC 7 yDC (lvC 9 (mP cdR) (lvC 13 (mP cI) lvN)))),.ret,(lvC 8 (mP cdB) lvN)⟩
theorem ySV{α:Type}(f1):yHW.Eq (α:=α) [yIY.s f1] Tryz.f41 [1,1,1,1,0,1,0,0,1,0,0,1,0] .no (yDA f1):=fun _ _ _=>by kernel_rfl
abbrev yHT:=yAN×yAB×(List (List V))×Int×Unit
abbrev yLL:=yAN×yAB×(List (List V))×Unit
abbrev yLM:=Bool×Unit
abbrev yHJ{α:Type}(F2:LF2 yHV yLN yLO α)(s:yHT)(kn:yHT→Option α)(k0:yLL→Option α)(k1:yLM→Option α):Option α:=
 bif decide (s.2.2.2.1<(s.2.2.1.length:Int)) then
 F2 (s.1,s.2.1,s.2.2.1,s.2.2.2.1,0,()) (fun q1=>
 kn (q1.1,q1.2.1,q1.2.2.1,w64 (q1.2.2.2.1+1),())) (fun q2=>
 k1 (q2.1,()))
 else
 k0 (s.1,s.2.1,s.2.2.1,())
abbrev yHU:LW2 yHT yLL yLM:=⟨(lvC 4 yLm (lvC 7 yDC (lvC 9 (mP cdR) (lvC 13 (mP cI) lvN)))),(.exit 2),(lvC 4 yLm (lvC 7 yDC (lvC 9 (mP cdR) lvN))),.ret,(lvC 8 (mP cdB) lvN)⟩
theorem ySU{α:Type}(F2):yHU.Eq (α:=α) [] Tryz.f41 [1,1,1,1,0,1,0] (.two .no (.two (.one (.two .no (.one (.lp (yHW.s F2))))) .no)) (yHJ F2):=fun _ _ _=>by kernel_rfl
abbrev yHR:=yAN×yAA×yAA×yAB×(List (List V))×Int×Unit
abbrev yLJ:=yAN×yAB×(List (List V))×Unit
abbrev yLK:=Bool×Unit
abbrev yHI{α:Type}(f1:yGN.T)(s:yHR)(kn:yHR→Option α)(k0:yLJ→Option α)(k1:yLK→Option α):Option α:=
 letI qe:=s.2.2.2.1
 letI qd:=s.2.2.1
 letI qb:=s.2.2.2.2.1
 letI qa:=s.2.2.2.2.2.1
 bif decide (qa<s.1.Log) then
 bindO (f1 s.1 qa) fun r1=>
 letI qc:=(aS s.2.1.S r1.toNat 0).toList==noS.toList
 gI qd.S kS r1<|
 bif !((aS qd.S r1.toNat 0).toList==noS.toList) then
 gI qd.S kS r1<|
 gI s.2.1.S kS r1<|
 bif !((aS qd.S r1.toNat 0).toList==(aS s.2.1.S r1.toNat 0).toList) then
 k1 (false,())
 else
 bif decide ((qb.length:Int)≤qa) then
 gI s.2.1.S kS r1<|
 bif !qc then
 k1 (false,())
 else
 kn (s.1,s.2.1,qd,qe,qb,w64 (qa+1),())
 else
 kn (s.1,s.2.1,qd,qe,qb,w64 (qa+1),())
 else
 bif decide ((qb.length:Int)≤qa) then
 gI s.2.1.S kS r1<|
 bif !qc then
 k1 (false,())
 else
 kn (s.1,s.2.1,qd,qe,qb,w64 (qa+1),())
 else
 kn (s.1,s.2.1,qd,qe,qb,w64 (qa+1),())
 else
 k0 (s.1,qe,qb,())
abbrev yHS:LW2 yHR yLJ yLK:=⟨(lvC 4 yLm (lvC 5 yAF (lvC 6 yAF (lvC 7 yDC (lvC 9 (mP cdR) (lvC 11 (mP cI) lvN)))))),(.exit 0),(lvC 4 yLm (lvC 7 yDC (lvC 9 (mP cdR) lvN))),.ret,(lvC 8 (mP cdB) lvN)⟩
theorem yST{α:Type}(f1):yHS.Eq (α:=α) [yGN.s f1] Tryz.f41 [1,1,1,0,1,0] .no (yHI f1):=fun _ _ _=>by kernel_rfl
abbrev yGg:=fw4 41 (caC yCS (caC yBx (caC yBx (caC yGW caN)))) cdB
abbrev yN3(f1:yKF.T)(f2:yFl.T)(f3:yIa.T)(F0:LF2 yHR yLJ yLK (Bool))(F1:LF2 yHT yLL yLM (Bool))(x0:yAN)(x1:yAA)(x2:yAA)(x3:yAB):Option Bool:=
 bindO (f1 x0 x1) fun r1=>
 bif r1.2.1 !=0 then
 some false
 else
 bif decide (x3.done_<0) then
 some false
 else
 bif decide ((r1.1.length:Int)<x3.done_) then
 some false
 else
 F0 (x0,x1,x2,x3,r1.1,0,()) (fun q2=>
 F1 (q2.1,q2.2.1,q2.2.2.1,0,()) (fun q3=>
 gd (decide (0≤q3.2.1.done_))<|
 gd (decide (q3.2.1.done_≤(q3.2.2.1.length:Int)))<|
 gd (q3.2.2.1.all fun r=>Nat.beq r.length 8)<|
 bindO (f2 q3.1 (q3.2.2.1.take q3.2.1.done_.toNat)) fun r4=>
 bindO (f3 q3.2.1.t_ r4) fun r5=>
 some r5) (fun q6=>
 some q6.1)) (fun q7=>
 some q7.1)
theorem yVE(f1 f2 f3 F0 F1):yGg.Eq [yKF.s f1,yFl.s f2,yIa.s f3] (.two .no (.two .no (.two .no (.two (.two .no (.one (.lp (yHS.s F0)))) (.two (.two .no (.one (.lp (yHU.s F1)))) .no))))) (yN3 f1 f2 f3 F0 F1):=fun _=>by kernel_rfl
def yEG(L:Nat):yGg.T:=yN3 (yNl L) (yK8 L) (yNk L) (loop2 (yHI (yFW L)) L) (loop2 (yHJ (loop2 (yDA (yEg L)) L)) L)
theorem yRi{α:Type}(L:Nat):LO Tryz.f41 [1,1,1,1,0,1,0,0,1,0,0,1,0] (yHW.s (α:=α) (loop2 (yDA (yEg L)) L)):=yHW.k (ySV (yEg L)) (tC (yWR L).ent tN) (lN _) (by kernel_rfl) L
theorem yRh{α:Type}(L:Nat):LO Tryz.f41 [1,1,1,1,0,1,0] (yHU.s (α:=α) (loop2 (yHJ (loop2 (yDA (yEg L)) L)) L)):=yHU.k (ySU (loop2 (yDA (yEg L)) L)) tN (lS (lN _) (lS (lB (lS (lN _) (lB (lL (yRi L))))) (lN _))) (by kernel_rfl) L
theorem yRg{α:Type}(L:Nat):LO Tryz.f41 [1,1,1,0,1,0] (yHS.s (α:=α) (loop2 (yHI (yFW L)) L)):=yHS.k (yST (yFW L)) (tC (yTj L).ent tN) (lN _) (by kernel_rfl) L
theorem yVD(L:Nat):yGg.C (yEG L):=yGg.c (yVE (yNl L) (yK8 L) (yNk L) (loop2 (yHI (yFW L)) L) (loop2 (yHJ (loop2 (yDA (yEg L)) L)) L)) (tC (yXF L).ent (tC (yUn L).ent (tC (yWW L).ent tN))) Tryz.func41 (by kernel_rfl) (lS (lN _) (lS (lN _) (lS (lN _) (lS (lS (lN _) (lB (lL (yRg L)))) (lS (lS (lN _) (lB (lL (yRh L)))) (lN _))))))
end Go.Proofs.YtakljpcmbpaeaaaGreat

namespace Go.Proofs.YtakljpcmbpaeaaaGreat
open Go.RowKit
set_option maxRecDepth 100000
set_option maxHeartbeats 16000000
abbrev yFH:=(List (List V))×yAN×yAA×(List (List V))×Int×Unit
abbrev yHu:=Unit
abbrev yHv:=Bool×Unit
abbrev yCY{α:Type}(f1:yCu.T)(f2:yJj.T)(f3:yGg.T)(s:yFH)(kn:yFH→Option α)(k0:yHu→Option α)(k1:yHv→Option α):Option α:=
 letI qk:=s.2.2.2.2.1
 letI qj:= !(decide (s.2.1.Nodes=0))
 letI qg:=minI false (minI true (aI s.1 qk.toNat 0) 0) 1099511627776
 letI qf:=s.2.2.2.1
 letI qc:=qg.tmod s.2.1.Nodes
 letI ql:=decide (0+qc.toNat<qf.length)
 letI qb:=0+qc.toNat
 letI qi:=qf.getD qb []
 bif decide (qk<(s.1.length:Int)) then
 gI s.1 kI qk<|
 gd qj<|
 gd qj<|
 bif((w64 (qg.tdiv s.2.1.Nodes)).tmod 40)==39 then
 bindO (f1 s.2.1) fun r1=>
 letI qe:=qi.take 0++([V.sl r1.Slots false,V.sl r1.Holds false,V.sl r1.Queue false,V.int .i64 0,V.int .i64 (w64 ((aI qf qb 4)+1000)),V.bool false,V.int .i64 0,V.str noS,V.int .i8 0,V.int .i64 0,V.int .i64 0,V.int .i64 0,V.int .i64 0,V.str noS,V.int .i64 0,V.int .i64 0,V.int .i64 0,V.str noS,V.int .i64 0,V.bool false,V.bool false]++qi.drop 21)
 gB qc qf.length<|
 gL qf kI qb 4<|
 gB qc qf.length<|
 gd ql<|
 gd (Nat.ble 0 qb)<|
 gd (Nat.ble 21 qi.length)<|
 gW (qf.set qb qe) qf.length<|
 kn (s.1,s.2.1,s.2.2.1,qf.set qb qe,w64 (qk+1),())
 else
 gB qc qf.length<|
 gL qf yNd qb 0<|
 gd qj<|
 bindO (f2 s.2.1 s.2.2.1 (⟨(⟨aR qf qb 0,aR qf qb 1,aR qf qb 2⟩:yAC),aI qf qb 3,aI qf qb 4,aB qf qb 5,(⟨aI qf qb 6,aS qf qb 7,aI qf qb 8,aI qf qb 9,(⟨aI qf qb 10,aI qf qb 11,aI qf qb 12,aS qf qb 13⟩:yBG),(⟨aI qf qb 14,aI qf qb 15,aI qf qb 16,aS qf qb 17,aI qf qb 18,aB qf qb 19,aB qf qb 20⟩:yAg)⟩:yAR)⟩:yAB) qc (w64 (qg.tdiv s.2.1.Nodes))) fun r2=>
 letI qh:=r2.2.1
 letI qd:=qi.take 0++([V.sl qh.t_.Slots false,V.sl qh.t_.Holds false,V.sl qh.t_.Queue false,V.int .i64 qh.done_,V.int .i64 qh.serial_,V.bool qh.on_,V.int .i64 qh.p_.Node,V.str qh.p_.Cmd,V.int .i8 qh.p_.At,V.int .i64 qh.p_.I,V.int .i64 qh.p_.Own.Inst,V.int .i64 qh.p_.Own.Mbal,V.int .i64 qh.p_.Own.Bal,V.str qh.p_.Own.Val,V.int .i64 qh.p_.T.Inst,V.int .i64 qh.p_.T.Mbal,V.int .i64 qh.p_.T.Best,V.str qh.p_.T.Val,V.int .i64 qh.p_.T.Seen,V.bool qh.p_.T.Ahead,V.bool qh.p_.T.Lost]++qi.drop 21)
 letI qa:=qf.set qb qd
 gB qc qf.length<|
 gd ql<|
 gd (Nat.ble 0 qb)<|
 gd (Nat.ble 21 qi.length)<|
 bif !r2.2.2.1 then
 k1 (false,())
 else
 gB qc qf.length<|
 gL qa yNd qb 0<|
 bindO (f3 s.2.1 r2.1 s.2.2.1 (⟨(⟨aR qa qb 0,aR qa qb 1,aR qa qb 2⟩:yAC),aI qa qb 3,aI qa qb 4,aB qa qb 5,(⟨aI qa qb 6,aS qa qb 7,aI qa qb 8,aI qa qb 9,(⟨aI qa qb 10,aI qa qb 11,aI qa qb 12,aS qa qb 13⟩:yBG),(⟨aI qa qb 14,aI qa qb 15,aI qa qb 16,aS qa qb 17,aI qa qb 18,aB qa qb 19,aB qa qb 20⟩:yAg)⟩:yAR)⟩:yAB)) fun r3=>
 bif !r3 then
 k1 (false,())
 else
 gW qa qf.length<|
 kn (s.1,s.2.1,r2.1,qf.set qb qd,w64 (qk+1),())
 else
 k0 (())
abbrev yFI:LW2 yFH yHu yHv:=⟨(lvC 1 (mP cdR) (lvC 2 yLm (lvC 5 yAF (lvC 7 (mW 21) (lvC 9 (mP cI) lvN))))),(.exit 2),lvN,.ret,(lvC 4 (mP cdB) lvN)⟩
theorem yQZ{α:Type}(f1 f2 f3):yFI.Eq (α:=α) [yCu.s f1,yJj.s f2,yGg.s f3] Tryz.f7 [1,1,1,1,1,1,0,1,0] .no (yCY f1 f2 f3):=fun _ _ _=>by kernel_rfl
abbrev yFF:=(List (List V))×yAN×yAA×(List (List V))×Int×Unit
abbrev yHt:=(List (List V))×yAN×yAA×(List (List V))×Unit
abbrev yEW{α:Type}(f1:yCu.T)(s:yFF)(kn:yFF→Option α)(k0:yHt→Option α):Option α:=
 letI qd:=s.2.2.2.2.1
 letI qc:=s.2.2.2.1
 letI qb:=0+qd.toNat
 bif decide (qd<s.2.1.Nodes) then
 bindO (f1 s.2.1) fun r1=>
 letI qa:=(qc.getD qb []).take 0++([V.sl r1.Slots false,V.sl r1.Holds false,V.sl r1.Queue false]++(qc.getD qb []).drop 3)
 gB qd qc.length<|
 gd (decide (0+qd.toNat<qc.length))<|
 gd (Nat.ble 0 qb)<|
 gd (Nat.ble 3 (qc.getD qb []).length)<|
 gW (qc.set qb qa) qc.length<|
 kn (s.1,s.2.1,s.2.2.1,qc.set qb qa,w64 (qd+1),())
 else
 gW qc qc.length<|
 k0 (s.1,s.2.1,s.2.2.1,qc,())
abbrev yFG:LW1 yFF yHt:=⟨(lvC 1 (mP cdR) (lvC 2 yLm (lvC 5 yAF (lvC 7 (mW 21) (lvC 8 (mP cI) lvN))))),(.exit 0),(lvC 1 (mP cdR) (lvC 2 yLm (lvC 5 yAF (lvC 7 (mW 21) lvN))))⟩
theorem yQY{α:Type}(f1):yFG.Eq (α:=α) [yCu.s f1] Tryz.f7 [1,1,1,1,1,0,1,0] .no (yEW f1):=fun _ _ _=>by kernel_rfl
abbrev yHQ:=fw2 7 (caC yCS (caC cdR caN)) cdB
abbrev yLI(f1:yJk.T)(f2:yGh.T)(f3:yEy.T)(F0:LF1 yFF yHt (Bool))(F1:LF2 yFH yHu yHv (Bool))(x0:yAN)(x1:List (List V)):Option Bool:=
 letI qa:= [V.sl ([]) true,V.sl ([]) true,V.sl ([]) true,V.int .i64 0,V.int .i64 0,V.bool false,V.int .i64 0,V.str noS,V.int .i8 0,V.int .i64 0,V.int .i64 0,V.int .i64 0,V.int .i64 0,V.str noS,V.int .i64 0,V.int .i64 0,V.int .i64 0,V.str noS,V.int .i64 0,V.bool false,V.bool false]
 bindO (f1 x0) fun r1=>
 bif !r1 then
 bindO (f2) fun r2=>
 some r2
 else
 bif decide (250<(x1.length:Int)) then
 bindO (f2) fun r3=>
 some r3
 else
 bindO (f3 x0) fun r4=>
 bif !r4.2.1 then
 some false
 else
 gd (decide (0≤x0.Nodes))<|
 gd (decide (x0.Nodes≤x0.Nodes))<|
 gd (decide (232*x0.Nodes.toNat≤281474976710656))<|
 gd (decide (x0.Nodes≤9223372036854775807))<|
 gW (List.replicate x0.Nodes.toNat qa) x0.Nodes.toNat<|
 F0 (x1,x0,r4.1,List.replicate x0.Nodes.toNat qa,0,()) (fun q5=>
 gW q5.2.2.2.1 q5.2.2.2.1.length<|
 F1 (q5.1,q5.2.1,q5.2.2.1,q5.2.2.2.1,0,()) (fun q6=>
 bindO (f2) fun r7=>
 some r7) (fun q8=>
 some q8.1))
theorem ySR(f1 f2 f3 F0 F1):yHQ.Eq [yJk.s f1,yGh.s f2,yEy.s f3] (.two .no (.two .no (.two .no (.two .no (.two .no (.two (.two .no (.one (.lp (yFG.s F0)))) (.two (.two .no (.one (.lp (yFI.s F1)))) .no))))))) (yLI f1 f2 f3 F0 F1):=fun _=>by kernel_rfl
def yND(L:Nat):yHQ.T:=yLI (yPH L) (yJm L) (yJl L) (loop1 (yEW (yCG L)) L) (loop2 (yCY (yCG L) (yCl L) (yEG L)) L)
theorem yP8{α:Type}(L:Nat):LO Tryz.f7 [1,1,1,1,1,1,0,1,0] (yFI.s (α:=α) (loop2 (yCY (yCG L) (yCl L) (yEG L)) L)):=yFI.k (yQZ (yCG L) (yCl L) (yEG L)) (tC (yOj L).ent (tC (yWn L).ent (tC (yVD L).ent tN))) (lN _) (by kernel_rfl) L
theorem yP7{α:Type}(L:Nat):LO Tryz.f7 [1,1,1,1,1,0,1,0] (yFG.s (α:=α) (loop1 (yEW (yCG L)) L)):=yFG.k (yQY (yCG L)) (tC (yOj L).ent tN) (lN _) (by kernel_rfl) L
theorem ySQ(L:Nat):yHQ.C (yND L):=yHQ.c (ySR (yPH L) (yJm L) (yJl L) (loop1 (yEW (yCG L)) L) (loop2 (yCY (yCG L) (yCl L) (yEG L)) L)) (tC (yWp L).ent (tC (yVF L).ent (tC (ySC L).ent tN))) Tryz.func7 (by kernel_rfl) (lS (lN _) (lS (lN _) (lS (lN _) (lS (lN _) (lS (lN _) (lS (lS (lN _) (lB (lL (yP7 L)))) (lS (lS (lN _) (lB (lL (yP8 L)))) (lN _))))))))
end Go.Proofs.YtakljpcmbpaeaaaGreat

namespace Go.Proofs.YtakljpcmbpaeaaaGreat
open Go.RowKit
end Go.Proofs.YtakljpcmbpaeaaaGreat
