/- Typed functions. (printed by wip/sx) -/
import Derived.Test.YtakljpcmbpaeaaaGreatPaxosEndsM36
import Derived.Test.YtakljpcmbpaeaaaGreatPaxosEndsM37
import Derived.Test.YtakljpcmbpaeaaaGreatPaxosEndsM39
set_option linter.unusedSimpArgs false
set_option linter.unusedVariables false
namespace Go.Proofs.YtakljpcmbpaeaaaGreat
open Go.RowKit
set_option maxRecDepth 100000
set_option maxHeartbeats 16000000
abbrev yFb:=fw1 45 (caC cdS caN) (cdT (caC yNr (caC cI caN)))
abbrev yNA(f1:yGo.T)(f2:yDA.T)(f3:yJ8.T)(x0:ByteArray):Option (yAG×Int×Unit):=
 letI ql:=decide (0<(x0.size:Int))
 letI qd:=x0.extract 11 x0.size
 letI qo:=decide (2<(qd.size:Int))
 letI qn:=decide (1<(qd.size:Int))
 letI qm:=decide (0<(qd.size:Int))
 letI qh:=(⟨w64 (((qd[0]?).getD 0).toNat:Int),w64 (((qd[1]?).getD 0).toNat:Int)⟩:yAN)
 letI qc:=(((x0[0]?).getD 0).toNat:Int)
 letI qg:=IntKind.i8.wrap qc
 bif decide ((x0.size:Int)<11) then
 some (yAG.z,100,())
 else
 yAB (f1 x0 1 6) fun r1=>
 yAB (f1 x0 7 4) fun r2=>
 letI qk:=(⟨IntKind.i8.wrap qc,r1.1,r2.1,0,0,yAN.z,0⟩:yAG)
 letI qb:=(⟨IntKind.i8.wrap qc,r1.1,r2.1,0,0,qh,IntKind.i8.wrap (IntKind.u8.wrap ((BitVec.ofInt IntKind.u8.bits (((qd[2]?).getD 0).toNat:Int) &&& BitVec.ofInt IntKind.u8.bits 127).toNat:Int))⟩:yAG)
 letI qa:=(⟨IntKind.i8.wrap qc,r1.1,r2.1,0,0,qh,0⟩:yAG)
 bif r1.2.1 !=0 then
 some (yAG.z,100,())
 else
 bif r2.2.1 !=0 then
 some (yAG.z,100,())
 else
 gd ql<|
 bif decide (127<qc) then
 some (yAG.z,100,())
 else
 gd ql<|
 gd (decide (11<=(x0.size:Int)))<|
 bif qg==2 then
 bif decide ((qd.size:Int)<2) then
 some (yAG.z,100,())
 else
 gd qm<|
 gd qn<|
 bif qg==2 then
 bif(qd.size:Int)==3 then
 gd qo<|
 yAB (f2 qb) fun r3=>
 bif r3.2.1 !=0 then
 some (yAG.z,100,())
 else
 bif !(r3.1.toList==x0.toList) then
 some (yAG.z,100,())
 else
 some (qb,0,())
 else
 yAB (f2 qa) fun r4=>
 bif r4.2.1 !=0 then
 some (yAG.z,100,())
 else
 bif !(r4.1.toList==x0.toList) then
 some (yAG.z,100,())
 else
 some (qa,0,())
 else
 yAB (f2 qa) fun r5=>
 bif r5.2.1 !=0 then
 some (yAG.z,100,())
 else
 bif !(r5.1.toList==x0.toList) then
 some (yAG.z,100,())
 else
 some (qa,0,())
 else
 bif qg==3 then
 bif decide ((qd.size:Int)<2) then
 some (yAG.z,100,())
 else
 gd qm<|
 gd qn<|
 bif qg==2 then
 bif(qd.size:Int)==3 then
 gd qo<|
 yAB (f2 qb) fun r6=>
 bif r6.2.1 !=0 then
 some (yAG.z,100,())
 else
 bif !(r6.1.toList==x0.toList) then
 some (yAG.z,100,())
 else
 some (qb,0,())
 else
 yAB (f2 qa) fun r7=>
 bif r7.2.1 !=0 then
 some (yAG.z,100,())
 else
 bif !(r7.1.toList==x0.toList) then
 some (yAG.z,100,())
 else
 some (qa,0,())
 else
 yAB (f2 qa) fun r8=>
 bif r8.2.1 !=0 then
 some (yAG.z,100,())
 else
 bif !(r8.1.toList==x0.toList) then
 some (yAG.z,100,())
 else
 some (qa,0,())
 else
 bif qg==4 then
 yAB (f3 qd 6) fun r9=>
 letI qj:=(⟨IntKind.i8.wrap qc,r1.1,r2.1,aI r9.1 0 0,aI r9.1 1 0,yAN.z,0⟩:yAG)
 letI qf:=(⟨IntKind.i8.wrap qc,r1.1,r2.1,aI r9.1 0 0,0,yAN.z,0⟩:yAG)
 bif r9.2.1 !=0 then
 some (yAG.z,100,())
 else
 bif decide ((r9.1.length:Int)<1) then
 some (yAG.z,100,())
 else
 gd (decide (0<(r9.1.length:Int)))<|
 gd (rowIs kI r9.1 0)<|
 bif qg==4 then
 bif(r9.1.length:Int)==2 then
 gd (decide (1<(r9.1.length:Int)))<|
 gd (rowIs kI r9.1 1)<|
 yAB (f2 qj) fun r10=>
 bif r10.2.1 !=0 then
 some (yAG.z,100,())
 else
 bif !(r10.1.toList==x0.toList) then
 some (yAG.z,100,())
 else
 some (qj,0,())
 else
 yAB (f2 qf) fun r11=>
 bif r11.2.1 !=0 then
 some (yAG.z,100,())
 else
 bif !(r11.1.toList==x0.toList) then
 some (yAG.z,100,())
 else
 some (qf,0,())
 else
 yAB (f2 qf) fun r12=>
 bif r12.2.1 !=0 then
 some (yAG.z,100,())
 else
 bif !(r12.1.toList==x0.toList) then
 some (yAG.z,100,())
 else
 some (qf,0,())
 else
 bif qg==5 then
 yAB (f3 qd 6) fun r13=>
 letI qi:=(⟨IntKind.i8.wrap qc,r1.1,r2.1,aI r13.1 0 0,aI r13.1 1 0,yAN.z,0⟩:yAG)
 letI qe:=(⟨IntKind.i8.wrap qc,r1.1,r2.1,aI r13.1 0 0,0,yAN.z,0⟩:yAG)
 bif r13.2.1 !=0 then
 some (yAG.z,100,())
 else
 bif decide ((r13.1.length:Int)<1) then
 some (yAG.z,100,())
 else
 gd (decide (0<(r13.1.length:Int)))<|
 gd (rowIs kI r13.1 0)<|
 bif qg==4 then
 bif(r13.1.length:Int)==2 then
 gd (decide (1<(r13.1.length:Int)))<|
 gd (rowIs kI r13.1 1)<|
 yAB (f2 qi) fun r14=>
 bif r14.2.1 !=0 then
 some (yAG.z,100,())
 else
 bif !(r14.1.toList==x0.toList) then
 some (yAG.z,100,())
 else
 some (qi,0,())
 else
 yAB (f2 qe) fun r15=>
 bif r15.2.1 !=0 then
 some (yAG.z,100,())
 else
 bif !(r15.1.toList==x0.toList) then
 some (yAG.z,100,())
 else
 some (qe,0,())
 else
 yAB (f2 qe) fun r16=>
 bif r16.2.1 !=0 then
 some (yAG.z,100,())
 else
 bif !(r16.1.toList==x0.toList) then
 some (yAG.z,100,())
 else
 some (qe,0,())
 else
 yAB (f2 qk) fun r17=>
 bif r17.2.1 !=0 then
 some (yAG.z,100,())
 else
 bif !(r17.1.toList==x0.toList) then
 some (yAG.z,100,())
 else
 some (qk,0,())
theorem xBM(f1 f2 f3):yFb.Eq [yGo.s f1,yDA.s f2,yJ8.s f3] .no (yNA f1 f2 f3):=fun _=>by kernel_rfl
def yDG(L:Nat):yFb.T:=yNA (yEK L) (yCW L) (yWE L)
theorem yUF(L:Nat):yFb.C (yDG L):=yFb.c (xBM (yEK L) (yCW L) (yWE L)) (tC (yWA L).ent (tC (yPM L).ent (tC (xCl L).ent tN))) Tryz.func45 (by kernel_rfl) (lN _)
abbrev yIm:=fw1 216 (caC cdS caN) (cdT (caC (cdI .i8) (caC cdS (caC cI caN))))
abbrev yQL(f1:yFZ.T)(x0:ByteArray):Option (Int×ByteArray×Int×Unit):=
 letI qc:=decide (0<(x0.size:Int))
 letI qb:=(x0.size:Int)-4
 letI qa:=(((x0[0]?).getD 0).toNat:Int)
 bif decide ((x0.size:Int)<7) then
 some (0,noS,30,())
 else
 bif decide (512<(x0.size:Int)) then
 some (0,noS,30,())
 else
 gd qc<|
 bif decide (qa<1) then
 some (0,noS,30,())
 else
 gd qc<|
 bif decide (127<qa) then
 some (0,noS,30,())
 else
 gd qc<|
 gd (decide (0<=w64 qb))<|
 gd (decide (w64 qb<=(x0.size:Int)))<|
 gd (decide (3<=((w64 qb).toNat:Int)))<|
 yAB (f1 (IntKind.i8.wrap qa) (x0.extract 3 ((w64 qb).toNat))) fun r1=>
 bif r1.2.1 !=0 then
 some (0,noS,30,())
 else
 bif !(r1.1.toList==x0.toList) then
 some (0,noS,30,())
 else
 some (IntKind.i8.wrap qa,x0.extract 3 ((w64 qb).toNat),0,())
theorem xBA(f1):yIm.Eq [yFZ.s f1] .no (yQL f1):=fun _=>by kernel_rfl
def yOB(L:Nat):yIm.T:=yQL (yKC L)
theorem xA9(L:Nat):yIm.C (yOB L):=yIm.c (xBA (yKC L)) (tC (yUE L).ent tN) Tryz.func216 (by kernel_rfl) (lN _)
set_option maxRecDepth 100000
set_option maxHeartbeats 16000000
abbrev yMJ:=fw2 163 (caC (cdI .i8) (caC cdS caN)) (cdT (caC cdS (caC cI caN)))
abbrev yTc(f1:yIm.T)(x0:Int)(x1:ByteArray):Option (ByteArray×Int×Unit):=
 yAB (f1 x1) fun r1=>
 bif r1.2.2.1 !=0 then
 some (noS,30,())
 else
 bif r1.1 !=x0 then
 some (noS,30,())
 else
 some (r1.2.1,0,())
theorem xFM(f1):yMJ.Eq [yIm.s f1] .no (yTc f1):=fun _=>by kernel_rfl
def yQv(L:Nat):yMJ.T:=yTc (yOB L)
theorem xFL(L:Nat):yMJ.C (yQv L):=yMJ.c (xFM (yOB L)) (tC (xA9 L).ent tN) Tryz.func163 (by kernel_rfl) (lN _)
abbrev yIu:=fw1 178 (caC cdS caN) (cdT (caC yNr (caC cdS (caC cdB (caC cI caN)))))
abbrev yNB(f1:yMJ.T)(f2:yFb.T)(x0:ByteArray):Option (yAG×ByteArray×Bool×Int×Unit):=
 bif x0.toList==noS.toList then
 some (yAG.z,noS,false,0,())
 else
 yAB (f1 5 x0) fun r1=>
 bif r1.2.1 !=0 then
 some (yAG.z,noS,false,50,())
 else
 yAB (f2 r1.1) fun r2=>
 bif r2.2.1 !=0 then
 some (yAG.z,noS,false,50,())
 else
 some (r2.1,r1.1,true,0,())
theorem xBQ(f1 f2):yIu.Eq [yMJ.s f1,yFb.s f2] .no (yNB f1 f2):=fun _=>by kernel_rfl
def yGB(L:Nat):yIu.T:=yNB (yQv L) (yDG L)
theorem xBP(L:Nat):yIu.C (yGB L):=yIu.c (xBQ (yQv L) (yDG L)) (tC (xFL L).ent (tC (yUF L).ent tN)) Tryz.func178 (by kernel_rfl) (lN _)
abbrev yLD:=(List (List V))×(List (List V))×Int×Unit
abbrev yNc:=(List (List V))×Unit
abbrev yNd:=(List (List V))×Int×Unit
abbrev yFc{α:Type}(f1:yIu.T)(s:yLD)(kn:yLD->Option α)(k0:yNc->Option α)(k1:yNd->Option α):Option α:=
 letI qb:=s.2.1
 bif decide (s.2.2.1<(s.1.length:Int)) then
 gI s.1 kS s.2.2.1<|
 yAB (f1 (aS s.1 s.2.2.1.toNat 0)) fun r1=>
 letI qa:= [[V.int .i8 r1.1.Kind,V.int .i64 r1.1.By,V.int .i64 r1.1.Serial,V.int .i64 r1.1.Dead,V.int .i64 r1.1.Was,V.int .i64 r1.1.Span.Lo,V.int .i64 r1.1.Span.Hi,V.int .i8 r1.1.Mode]]
 bif r1.2.2.2.1 !=0 then
 k1 ([],r1.2.2.2.1,())
 else
 bif !r1.2.2.1 then
 gF qb (0+qb.length)<|
 k1 (qb.take qb.length,0,())
 else
 gd (Nat.beq (0+qb.length) qb.length)<|
 gM (qb.length+1) 64<|
 gA (qb++qa) (qb.length+1)<|
 kn (s.1,qb++qa,w64 (s.2.2.1+1),())
 else
 gA qb qb.length<|
 k0 (qb,())
abbrev yLE:LW2 yLD yNc yNd:=⟨(lvC 0 (mP cdR) (lvC 4 (mA 8) (lvC 5 (mP cI) lvN))),(.exit 0),(lvC 4 (mA 8) lvN),.ret,(lvC 2 (mP cdR) (lvC 3 (mP cI) lvN))⟩
theorem yXf{α:Type}(f1):yLE.Eq (α:=α) [yIu.s f1] Tryz.f116 [1,1,0,1,0] .no (yFc f1):=fun _ _ _=>by kernel_rfl
abbrev yKV:=fw1 116 (caC cdR caN) (cdT (caC cdR (caC cI caN)))
abbrev yR7(F0:LF2 yLD yNc yNd ((List (List V))×Int×Unit))(x0:List (List V)):Option ((List (List V))×Int×Unit):=
 F0 (x0,[],0,()) (fun q1=>
 gF q1.1 (0+q1.1.length)<|
 some (q1.1.take q1.1.length,0,())) (fun q2=>
 some (q2.1,q2.2.1,()))
theorem xC4(F0):yKV.Eq [] (.two .no (.two .no (.two (.two .no (.one (.lp (yLE.s F0)))) .no))) (yR7 F0):=fun _=>by kernel_rfl
def yQX(L:Nat):yKV.T:=yR7 (yAe (yFc (yGB L)) L)
theorem yWT{α:Type}(L:Nat):LO Tryz.f116 [1,1,0,1,0] (yLE.s (α:=α) (yAe (yFc (yGB L)) L)):=yLE.k (yXf (yGB L)) (tC (xBP L).ent tN) (lN _) (by kernel_rfl) L
theorem xC3(L:Nat):yKV.C (yQX L):=yKV.c (xC4 (yAe (yFc (yGB L)) L)) tN Tryz.func116 (by kernel_rfl) (lS (lN _) (lS (lN _) (lS (lS (lN _) (lB (lL (yWT L)))) (lN _))))
abbrev yKU:=fw2 44 (caC yDX (caC yCY caN)) (cdT (caC cdR (caC cI caN)))
abbrev yR6(f1:yB4.T)(f2:yC8.T)(f3:yC7.T)(f4:yKD.T)(f5:yKV.T)(x0:yAQ)(x1:yAA):Option ((List (List V))×Int×Unit):=
 yAB (f1 x0) fun r1=>
 bif !r1 then
 some ([],2,())
 else
 yAB (f2 x1) fun r2=>
 bif r2 !=0 then
 some ([],2,())
 else
 yAB (f3 x0) fun r3=>
 bif(x1.S.length:Int) !=r3 then
 some ([],2,())
 else
 yAB (f4 x0 0) fun r4=>
 letI qa:=r4+x0.Log
 gd (decide (0<=w64 qa))<|
 gd (decide (w64 qa<=(x1.S.length:Int)))<|
 gd (decide (0<=r4))<|
 gd (decide (r4<=((w64 qa).toNat:Int)))<|
 gd (x1.S.all fun r=>Nat.beq r.length 1)<|
 yAB (f5 ((x1.S.drop r4.toNat).take (((w64 qa).toNat)-r4.toNat))) fun r5=>
 some (r5.1,r5.2.1,())
theorem xC2(f1 f2 f3 f4 f5):yKU.Eq [yB4.s f1,yC8.s f2,yC7.s f3,yKD.s f4,yKV.s f5] .no (yR6 f1 f2 f3 f4 f5):=fun _=>by kernel_rfl
def yOH(L:Nat):yKU.T:=yR6 (yCk L) (yCl L) (yDg L) (yOC L) (yQX L)
theorem xC1(L:Nat):yKU.C (yOH L):=yKU.c (xC2 (yCk L) (yCl L) (yDg L) (yOC L) (yQX L)) (tC (yIH L).ent (tC (yOs L).ent (tC (yOp L).ent (tC (xCr L).ent (tC (xC3 L).ent tN))))) Tryz.func44 (by kernel_rfl) (lN _)
abbrev yIs:=fw3 46 (caC yNr (caC cI (caC cI caN))) cdB
abbrev yQV(x0:yAG)(x1:Int)(x2:Int):Option Bool:=
 bif x0.By==x1 then
 some (x0.Serial==x2)
 else
 some false
theorem xBL:yIs.Eq [] .no (yQV):=fun _=>by kernel_rfl
def yMK(L:Nat):yIs.T:=yQV
theorem xBK(L:Nat):yIs.C (yMK L):=yIs.c (xBL) tN Tryz.func46 (by kernel_rfl) (lN _)
end Go.Proofs.YtakljpcmbpaeaaaGreat
