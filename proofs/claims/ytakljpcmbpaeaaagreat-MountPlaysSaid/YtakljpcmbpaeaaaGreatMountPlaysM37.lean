/- Typed functions. (printed by wip/sx) -/
import Derived.Test.YtakljpcmbpaeaaaGreatMountPlaysM35
import Derived.Test.YtakljpcmbpaeaaaGreatMountPlaysM36
set_option linter.unusedSimpArgs false
set_option linter.unusedVariables false
namespace Go.Proofs.YtakljpcmbpaeaaaGreat
open Go.RowKit
set_option maxRecDepth 100000
set_option maxHeartbeats 16000000
abbrev yAz:=(List (List V))×((((((Int×Unit)×Unit)×Unit)×Unit)×Unit))×Int×Int×Unit
abbrev yBa:=Unit
abbrev yBb:=Int×Unit
abbrev yBA{α:Type}(s:yAz)(kn:yAz->Option α)(k0:yBa->Option α)(k1:yBb->Option α):Option α:=
 letI qa:=s.2.2.2.1
 bif decide (qa<s.2.2.1) then
 gI s.1 yAd.ks qa<|
 bif !((aI s.1 qa.toNat 0)==s.2.1.1.1.1.1.1) then
 kn (s.1,(((((s.2.1.1.1.1.1.1,()),()),()),()),()),s.2.2.1,w64 (qa+1),())
 else
 k1 (qa,())
 else
 k0 (())
abbrev yA0:LW2 yAz yBa yBb:=⟨(lvC 0 (mP cdR) (lvC 1 (mP (cdF 382 (caC (cdP (caC (cdL (xTG (cdF 379 (caC (cdP (caC cI caN)) caN)) xTH)) caN)) caN))) (lvC 7 (mP cI) (lvC 8 (mP cI) lvN)))),(.exit 0),lvN,.ret,(lvC 4 (mP cI) lvN)⟩
theorem yEd{α:Type}:yA0.Eq (α:=α) [] Tryz.f366 [1,0,1,0] .no (yBA):=fun _ _ _=>by kernel_rfl
abbrev yAY:=fw2 366 (caC cdR (caC (cdF 382 (caC (cdP (caC (cdL (xTG (cdF 379 (caC (cdP (caC cI caN)) caN)) xTH)) caN)) caN)) caN)) cI
abbrev yCa(F0:LF2 yAz yBa yBb (Int))(x0:List (List V))(x1:((((Int×Unit)×Unit)×Unit)×Unit)×Unit):Option Int:=
 F0 (x0,(((((x1.1.1.1.1.1,()),()),()),()),()),(x0.length:Int),0,()) (fun q1=>
 some (-1)) (fun q2=>
 some q2.1)
theorem yFW(F0):yAY.Eq [] (.two .no (.two (.two .no (.one (.lp (yA0.s F0)))) .no)) (yCa F0):=fun _=>by kernel_rfl
def yBy(L:Nat):yAY.T:=yCa (yAf (yBA) L)
theorem yDz{α:Type}(L:Nat):LO Tryz.f366 [1,0,1,0] (yA0.s (α:=α) (yAf (yBA) L)):=yA0.k (yEd) tN (lN _) (by kernel_rfl) L
theorem yFV(L:Nat):yAY.C (yBy L):=yAY.c (yFW (yAf (yBA) L)) tN Tryz.func366 (by kernel_rfl) (lS (lN _) (lS (lS (lN _) (lB (lL (yDz L)))) (lN _)))
abbrev yAv:=(List (List V))×((((((Int×Unit)×Unit)×Unit)×Unit)×Unit))×Int×Int×Unit
abbrev yBY:=(List (List V))×Int×Unit
abbrev yA6{α:Type}(s:yAv)(kn:yAv->Option α)(k0:yBY->Option α):Option α:=
 letI qf:=s.2.2.2.1
 letI qd:=Nat.beq s.1.length s.1.length
 letI qc:=0+qf.toNat
 letI qb:=0+s.2.2.1.toNat
 letI qe:=s.1.getD qb []
 letI qa:=qe.take 0++([V.int .i64 (aI s.1 qc 0),V.int .i64 (aI s.1 qc 1),V.int .i64 (aI s.1 qc 2),V.int .i8 (aI s.1 qc 3)]++qe.drop 4)
 bif decide (qf<(s.1.length:Int)) then
 gB qf s.1.length<|
 gL s.1 yAd.ks qc 0<|
 bif !((aI s.1 qc 0)==s.2.1.1.1.1.1.1) then
 gB s.2.2.1 s.1.length<|
 gd (decide (0+s.2.2.1.toNat<s.1.length))<|
 gd (Nat.ble 0 qb)<|
 gd (Nat.ble 4 qe.length)<|
 gd (Nat.beq s.1.length ((s.1.set qb qa).length))<|
 gd (yCL (s.1.set qb qa))<|
 kn (s.1.set qb qa,(((((s.2.1.1.1.1.1.1,()),()),()),()),()),w64 (s.2.2.1+1),w64 (qf+1),())
 else
 gd qd<|
 gd (yCL s.1)<|
 kn (s.1,(((((s.2.1.1.1.1.1.1,()),()),()),()),()),s.2.2.1,w64 (qf+1),())
 else
 gd qd<|
 gd (yCL s.1)<|
 k0 (s.1,s.2.2.1,())
abbrev yAw:LW1 yAv yBY:=⟨(lvC 0 (mQ 4) (lvC 1 (mP (cdF 382 (caC (cdP (caC (cdL (xTG (cdF 379 (caC (cdP (caC cI caN)) caN)) xTH)) caN)) caN))) (lvC 5 (mP cI) (lvC 6 (mP cI) lvN)))),(.exit 0),(lvC 0 (mQ 4) (lvC 5 (mP cI) lvN))⟩
theorem yDy{α:Type}:yAw.Eq (α:=α) [] Tryz.f381 [1,1,1,0,1,0] .no (yA6):=fun _ _ _=>by kernel_rfl
abbrev yAW:=qw1 381 4 (caC (cdF 382 (caC (cdP (caC (cdL (xTG (cdF 379 (caC (cdP (caC cI caN)) caN)) xTH)) caN)) caN)) caN)
abbrev yCV(f1:yAY.T)(F0:LF1 yAv yBY (List (List V)))(x0:List (List V))(x1:((((Int×Unit)×Unit)×Unit)×Unit)×Unit):Option (List (List V)):=
 letI qc:=x0.take x0.length
 gF x0 (0+x0.length)<|
 yAB (f1 qc (((((x1.1.1.1.1.1,()),()),()),()),())) fun r1=>
 bif r1==(-1) then
 gd (Nat.ble x0.length x0.length)<|
 gd (yCL qc)<|
 some qc
 else
 gd (Nat.beq x0.length x0.length)<|
 gd (yCL x0)<|
 F0 (x0,(((((x1.1.1.1.1.1,()),()),()),()),()),r1,w64 (r1+1),()) (fun q2=>
 letI qd:=q2.2.1
 letI qb:=decide (qd<=(q2.1.length:Int))
 letI qa:=q2.1.take (0+qd.toNat)
 gd (decide (0<=qd))<|
 gd qb<|
 gd (Nat.ble 0 (0+qd.toNat))<|
 gd (decide (0<=qd))<|
 gd qb<|
 gd (Nat.ble qd.toNat (qa.length))<|
 gd (yCL (qa.take qd.toNat))<|
 some (qa.take qd.toNat))
theorem yEz(f1 F0):yAW.Eq [(366,spF 1 [(382,(yAY.s f1).2)])] (.two .no (.two .no (.two .no (.two (.two .no (.one (.lp (yAw.s F0)))) .no)))) (yCV f1 F0):=fun _ _=>by kernel_rfl
def yBF(L:Nat):yAW.T:=yCV (yBy L) (yAb (yA6) L)
theorem yDx{α:Type}(L:Nat):LO Tryz.f381 [1,1,1,0,1,0] (yAw.s (α:=α) (yAb (yA6) L)):=yAw.k (yDy) tN (lN _) (by kernel_rfl) L
theorem yEy(L:Nat):yAW.C (yBF L):=yAW.c (yEz (yBy L) (yAb (yA6) L)) (tC (ySt (yIo (yFV L).ent yOD)) tN) Tryz.func381 (by kernel_rfl) (lS (lN _) (lS (lN _) (lS (lN _) (lS (lS (lN _) (lB (lL (yDx L)))) (lN _)))))
abbrev yDK:=mw1 361 (zW 2 (zW 4 (zW 4 (zP cI (zP cI (zP cI (zP cI (zP cI (zP cI (zP cI (zP cI zN))))))))))) 11 (caC cI caN) (cdT caN)
abbrev yLZ(f1:yAW.T)(f2:yDL.T)(x0:(List (List V))×(List (List V))×(List (List V))×Int×Int×Int×Int×Int×Int×Int×Int×Unit)(x1:Int):Option (Unit×((List (List V))×(List (List V))×(List (List V))×Int×Int×Int×Int×Int×Int×Int×Int×Unit)):=
 letI qa:=0+x1.toNat
 letI qc:=x0.1.getD qa []
 letI qb:=qc.take 0++([V.int .i64 0,V.int .i64 0]++qc.drop 2)
 gB x1 x0.1.length<|
 gL x0.1 kI qa 0<|
 gd (Nat.beq x0.2.1.length x0.2.1.length)<|
 gd (yCL x0.2.1)<|
 yAB (f1 x0.2.1 (((((aI x0.1 qa 0,()),()),()),()),())) fun r1=>
 gd (Nat.beq x0.2.2.1.length x0.2.2.1.length)<|
 gd (yCL x0.2.2.1)<|
 yAB (f1 x0.2.2.1 (((((aI x0.1 qa 0,()),()),()),()),())) fun r2=>
 gB x1 x0.1.length<|
 gd (decide (0+x1.toNat<x0.1.length))<|
 gd (Nat.ble 0 qa)<|
 gd (Nat.ble 2 qc.length)<|
 gW (x0.1.set qa qb) x0.1.length<|
 gW r1 r1.length<|
 gW r2 r2.length<|
 yAB (f2 (x0.1.set qa qb,r1,r2,x0.2.2.2.1,x0.2.2.2.2.1,x0.2.2.2.2.2.1,x0.2.2.2.2.2.2.1,x0.2.2.2.2.2.2.2.1,x0.2.2.2.2.2.2.2.2.1,x0.2.2.2.2.2.2.2.2.2.1,x0.2.2.2.2.2.2.2.2.2.2.1,())) fun r3=>
 gW r3.2.1 r3.2.1.length<|
 gW r3.2.2.1 r3.2.2.1.length<|
 gW r3.2.2.2.1 r3.2.2.2.1.length<|
 some ((()),(r3.2.1,r3.2.2.1,r3.2.2.2.1,r3.2.2.2.2.1,r3.2.2.2.2.2.1,r3.2.2.2.2.2.2.1,r3.2.2.2.2.2.2.2.1,r3.2.2.2.2.2.2.2.2.1,r3.2.2.2.2.2.2.2.2.2.1,r3.2.2.2.2.2.2.2.2.2.2.1,r3.2.2.2.2.2.2.2.2.2.2.2.1,()))
theorem yXJ(f1 f2):yDK.Eq [yAW.s f1,yDL.s f2] .no (yLZ f1 f2):=fun _ _=>by kernel_rfl
def yGP(L:Nat):yDK.T:=yLZ (yBF L) (yGQ L)
theorem yXI(L:Nat):yDK.C (yGP L):=yDK.c (yXJ (yBF L) (yGQ L)) (tC (yEy L).ent (tC (yXK L).ent tN)) Tryz.func361 (by kernel_rfl) (lN _)
abbrev yOy:=fw2 374 (caC yBQ (caC yXU caN)) cdB
abbrev xDf(x0:yAJ)(x1:yAr):Option Bool:=
 bif !(decide (x1.Hi<x1.Lo)) then
 bif decide (0<=x1.Lo) then
 some (decide (x1.Hi<x0.Blocks))
 else
 some false
 else
 some false
theorem xL1:yOy.Eq [] .no (xDf):=fun _=>by kernel_rfl
def xFl(L:Nat):yOy.T:=xDf
theorem xL0(L:Nat):yOy.C (xFl L):=yOy.c (xL1) tN Tryz.func374 (by kernel_rfl) (lN _)
set_option maxRecDepth 100000
set_option maxHeartbeats 16000000
abbrev yMR:=fw2 363 (caC yBQ (caC yVF caN)) cdB
abbrev xBr(f1:yOy.T)(x0:yAJ)(x1:yAd):Option Bool:=
 bif decide (0<x1.Key) then
 yAB (f1 x0 x1.Span) fun r1=>
 bif r1 then
 bif x1.Mode==1 then
 some true
 else
 some (x1.Mode==2)
 else
 some false
 else
 some false
theorem xJ3(f1):yMR.Eq [yOy.s f1] .no (xBr f1):=fun _=>by kernel_rfl
def xBq(L:Nat):yMR.T:=xBr (xFl L)
theorem xJ2(L:Nat):yMR.C (xBq L):=yMR.c (xJ3 (xFl L)) (tC (xL0 L).ent tN) Tryz.func363 (by kernel_rfl) (lN _)
abbrev yGs:=fw2 377 (caC yXU (caC yXU caN)) cdB
abbrev yU9(f1:yCG.T)(x0:yAr)(x1:yAr):Option Bool:=
 yAB (f1 (⟨x0⟩:yAg) (⟨x1⟩:yAg)) fun r1=>
 some r1
theorem xC6(f1):yGs.Eq [yCG.s f1] .no (yU9 f1):=fun _=>by kernel_rfl
def yNX(L:Nat):yGs.T:=yU9 (yFe L)
theorem xC5(L:Nat):yGs.C (yNX L):=yGs.c (xC6 (yFe L)) (tC (yPo L).ent tN) Tryz.func377 (by kernel_rfl) (lN _)
abbrev yA1:=(List (List V))×(((((Int×Unit)×yAr×Unit)×Unit)×Unit))×Int×Int×Unit
abbrev yBc:=Unit
abbrev yBd:=Int×Unit
abbrev yBB{α:Type}(f1:yGs.T)(s:yA1)(kn:yA1->Option α)(k0:yBc->Option α)(k1:yBd->Option α):Option α:=
 letI qa:=s.2.2.2.1
 bif decide (qa<s.2.2.1) then
 gI s.1 yAd.ks qa<|
 bif(aI s.1 qa.toNat 0) !=s.2.1.1.1.1.1 then
 kn (s.1,((((s.2.1.1.1.1.1,()),s.2.1.1.1.2.1,()),()),()),s.2.2.1,w64 (qa+1),())
 else
 yAB (f1 (⟨aI s.1 qa.toNat 1,aI s.1 qa.toNat 2⟩:yAr) s.2.1.1.1.2.1) fun r1=>
 bif !!r1 then
 k1 (qa,())
 else
 kn (s.1,((((s.2.1.1.1.1.1,()),s.2.1.1.1.2.1,()),()),()),s.2.2.1,w64 (qa+1),())
 else
 k0 (())
abbrev yA2:LW2 yA1 yBc yBd:=⟨(lvC 0 (mP cdR) (lvC 1 (mP (cdF 387 (caC (cdP (caC (cdF 376 (caC (cdP (caC cI caN)) (caC (cdP xDz) caN))) caN)) caN))) (lvC 7 (mP cI) (lvC 8 (mP cI) lvN)))),(.exit 0),lvN,.ret,(lvC 4 (mP cI) lvN)⟩
theorem yEe{α:Type}(f1):yA2.Eq (α:=α) [yGs.s f1] Tryz.f366 [1,0,1,0] .no (yBB f1):=fun _ _ _=>by kernel_rfl
abbrev yAZ:=fw2 366 (caC cdR (caC (cdF 387 (caC (cdP (caC (cdF 376 (caC (cdP (caC cI caN)) (caC (cdP xDz) caN))) caN)) caN)) caN)) cI
abbrev yCb(F0:LF2 yA1 yBc yBd (Int))(x0:List (List V))(x1:(((Int×Unit)×yAr×Unit)×Unit)×Unit):Option Int:=
 F0 (x0,((((x1.1.1.1.1,()),x1.1.1.2.1,()),()),()),(x0.length:Int),0,()) (fun q1=>
 some (-1)) (fun q2=>
 some q2.1)
theorem yFY(F0):yAZ.Eq [] (.two .no (.two (.two .no (.one (.lp (yA2.s F0)))) .no)) (yCb F0):=fun _=>by kernel_rfl
def yBz(L:Nat):yAZ.T:=yCb (yAf (yBB (yNX L)) L)
theorem yD0{α:Type}(L:Nat):LO Tryz.f366 [1,0,1,0] (yA2.s (α:=α) (yAf (yBB (yNX L)) L)):=yA2.k (yEe (yNX L)) (tC (xC5 L).ent tN) (lN _) (by kernel_rfl) L
theorem yFX(L:Nat):yAZ.C (yBz L):=yAZ.c (yFY (yAf (yBB (yNX L)) L)) tN Tryz.func366 (by kernel_rfl) (lS (lN _) (lS (lS (lN _) (lB (lL (yD0 L)))) (lN _)))
abbrev yAS:=fw2 386 (caC cdR (caC (cdF 387 (caC (cdP (caC (cdF 376 (caC (cdP (caC cI caN)) (caC (cdP xDz) caN))) caN)) caN)) caN)) cdB
abbrev yCM(f1:yAZ.T)(x0:List (List V))(x1:(((Int×Unit)×yAr×Unit)×Unit)×Unit):Option Bool:=
 yAB (f1 x0 ((((x1.1.1.1.1,()),x1.1.1.2.1,()),()),())) fun r1=>
 some (decide (0<=r1))
theorem yEa(f1):yAS.Eq [(366,spF 1 [(387,(yAZ.s f1).2)])] .no (yCM f1):=fun _=>by kernel_rfl
def yBg(L:Nat):yAS.T:=yCM (yBz L)
theorem yEZ(L:Nat):yAS.C (yBg L):=yAS.c (yEa (yBz L)) (tC (ySt (yIo (yFX L).ent yOD)) tN) Tryz.func386 (by kernel_rfl) (lN _)
abbrev yDk:=fw2 375 (caC (cdF 376 (caC (cdP (caC cI caN)) (caC (cdP xDz) caN))) (caC cdR caN)) cdB
abbrev yRO(f1:yAS.T)(x0:(Int×Unit)×yAr×Unit)(x1:List (List V)):Option Bool:=
 yAB (f1 x1 ((((x0.1.1,()),x0.2.1,()),()),())) fun r1=>
 some !r1
theorem yYM(f1):yDk.Eq [(386,spF 1 [(387,(yAS.s f1).2)])] .no (yRO f1):=fun _=>by kernel_rfl
def yPq(L:Nat):yDk.T:=yRO (yBg L)
theorem yYL(L:Nat):yDk.C (yPq L):=yDk.c (yYM (yBg L)) (tC (ySt (yIo (yEZ L).ent yOD)) tN) Tryz.func375 (by kernel_rfl) (lN _)
abbrev yGt:=fw3 364 (caC cdR (caC cI (caC yXU caN))) cdB
abbrev yVA(f1:yDk.T)(x0:List (List V))(x1:Int)(x2:yAr):Option Bool:=
 yAB (f1 ((x1,()),x2,()) x0) fun r1=>
 some !r1
theorem xC8(f1):yGt.Eq [(375,spF 0 [(376,(yDk.s f1).2)])] .no (yVA f1):=fun _=>by kernel_rfl
def yUH(L:Nat):yGt.T:=yVA (yPq L)
theorem xC7(L:Nat):yGt.C (yUH L):=yGt.c (xC8 (yPq L)) (tC (ySt (yIo (yYL L).ent yOD)) tN) Tryz.func364 (by kernel_rfl) (lN _)
set_option maxRecDepth 100000
set_option maxHeartbeats 16000000
abbrev yGJ:=((List (List V))×(List (List V))×(List (List V))×Int×Int×Int×Int×Int×Int×Int×Int×Unit)×yAc×Bool×yAd×(List (List V))×Int×(List (List V))×Int×Int×Unit
abbrev yJz:=((List (List V))×(List (List V))×(List (List V))×Int×Int×Int×Int×Int×Int×Int×Int×Unit)×yAc×Bool×yAd×(List (List V))×Int×Unit
abbrev yIp{α:Type}(s:yGJ)(kn:yGJ->Option α)(k0:yJz->Option α):Option α:=
 letI qb:=s.1.2.2.1
 letI qa:=s.2.2.2.2.2.2.2.2.1
 bif decide (qa<s.2.2.2.2.2.2.2.1) then
 gI s.2.2.2.2.2.2.1 yAd.ks qa<|
 bif(aI s.2.2.2.2.2.2.1 qa.toNat 0)==s.2.1.By then none else
 gW s.1.1 s.1.1.length<|
 gW s.1.2.1 s.1.2.1.length<|
 gW qb qb.length<|
 kn ((s.1.1,s.1.2.1,qb,s.1.2.2.2.1,s.1.2.2.2.2.1,s.1.2.2.2.2.2.1,s.1.2.2.2.2.2.2.1,s.1.2.2.2.2.2.2.2.1,s.1.2.2.2.2.2.2.2.2.1,s.1.2.2.2.2.2.2.2.2.2.1,s.1.2.2.2.2.2.2.2.2.2.2.1,()),s.2.1,s.2.2.1,s.2.2.2.1,s.2.2.2.2.1,s.2.2.2.2.2.1,s.2.2.2.2.2.2.1,s.2.2.2.2.2.2.2.1,w64 (qa+1),())
 else
 gW s.1.1 s.1.1.length<|
 gW s.1.2.1 s.1.2.1.length<|
 gW qb qb.length<|
 k0 ((s.1.1,s.1.2.1,qb,s.1.2.2.2.1,s.1.2.2.2.2.1,s.1.2.2.2.2.2.1,s.1.2.2.2.2.2.2.1,s.1.2.2.2.2.2.2.2.1,s.1.2.2.2.2.2.2.2.2.1,s.1.2.2.2.2.2.2.2.2.2.1,s.1.2.2.2.2.2.2.2.2.2.2.1,()),s.2.1,s.2.2.1,s.2.2.2.1,s.2.2.2.2.1,s.2.2.2.2.2.1,())
abbrev yGK:LW1 yGJ yJz:=⟨(lvC 0 (mR (zW 2 (zW 4 (zW 4 (zP cI (zP cI (zP cI (zP cI (zP cI (zP cI (zP cI (zP cI zN))))))))))) 11) (lvC 3 xNO (lvC 5 (mP cdB) (lvC 6 xI9 (lvC 7 (mP cdR) (lvC 8 (mP cI) (lvC 37 (mP cdR) (lvC 38 (mP cI) (lvC 39 (mP cI) lvN))))))))),(.exit 0),(lvC 0 (mR (zW 2 (zW 4 (zW 4 (zP cI (zP cI (zP cI (zP cI (zP cI (zP cI (zP cI (zP cI zN))))))))))) 11) (lvC 3 xNO (lvC 5 (mP cdB) (lvC 6 xI9 (lvC 7 (mP cdR) (lvC 8 (mP cI) lvN))))))⟩
theorem yV0{α:Type}:yGK.Eq (α:=α) [] Tryz.f352 [1,1,1,1,1,0,1,0] (.two .no (.two .no (.two (.one (.two .no (.two .no (.two xT .no)))) .no))) (yIp):=fun _ _ _=>by kernel_rfl
abbrev yED:=mw1 352 (zW 2 (zW 4 (zW 4 (zP cI (zP cI (zP cI (zP cI (zP cI (zP cI (zP cI (zP cI zN))))))))))) 11 (caC yJ5 caN) (cdT caN)
abbrev ySv(f1:yBZ.T)(f3:yMR.T)(f4:yGt.T)(F0:LF1 yGJ yJz (Unit×((List (List V))×(List (List V))×(List (List V))×Int×Int×Int×Int×Int×Int×Int×Int×Unit)))(x0:(List (List V))×(List (List V))×(List (List V))×Int×Int×Int×Int×Int×Int×Int×Int×Unit)(x1:yAc):Option (Unit×((List (List V))×(List (List V))×(List (List V))×Int×Int×Int×Int×Int×Int×Int×Int×Unit)):=
 letI qn:=x0.2.1
 letI qj:=x0.2.2.1
 letI qd:=(w64 (0+(qn.length:Int)))+(qj.length:Int)
 letI qc:=qj.take qj.length
 letI qb:=qn.take qn.length
 letI qp:=0+(qb.length)
 letI qa:=qp+(qc.length)
 gF x0.1 (0+x0.1.length)<|
 gF qn (0+qn.length)<|
 gF qj (0+qj.length)<|
 yAB (f1 (⟨(⟨x0.1.take x0.1.length,qn.take qn.length,qj.take qj.length⟩:yAG),(⟨x0.2.2.2.1,x0.2.2.2.2.1,x0.2.2.2.2.2.1,x0.2.2.2.2.2.2.1,x0.2.2.2.2.2.2.2.1,x0.2.2.2.2.2.2.2.2.1,x0.2.2.2.2.2.2.2.2.2.1,x0.2.2.2.2.2.2.2.2.2.2.1⟩:yAJ)⟩:yAo) x1.By) fun r1=>
 bif decide (w64 (0+(qn.length:Int))<0) then none else
 bif decide (w64 qd<0) then none else
 gd (decide (0<=w64 qd))<|
 gd (decide (w64 qd<=1000000))<|
 gd (Nat.ble (0+qn.length) qn.length)<|
 gd (qb.all fun r=>Nat.beq r.length 4)<|
 gM qp 32<|
 gd (Nat.ble (0+qj.length) qj.length)<|
 gd (qc.all fun r=>Nat.beq r.length 4)<|
 gd (Nat.beq (0+qp) (qb.length))<|
 gM qa 32<|
 gW x0.1 x0.1.length<|
 gW qn qn.length<|
 gW qj qj.length<|
 gF (qb++qc) (0+qa)<|
 gF (qb++qc) (0+qa)<|
 F0 ((x0.1,qn,qj,x0.2.2.2.1,x0.2.2.2.2.1,x0.2.2.2.2.2.1,x0.2.2.2.2.2.2.1,x0.2.2.2.2.2.2.2.1,x0.2.2.2.2.2.2.2.2.1,x0.2.2.2.2.2.2.2.2.2.1,x0.2.2.2.2.2.2.2.2.2.2.1,()),x1,r1.2.1,(⟨x1.By,x1.Span,x1.Mode⟩:yAd),(qb++qc).take qa,0,(qb++qc).take qa,(qp+(qc.length):Int),0,()) (fun q2=>
 letI qr:=q2.1.2.2.2.1
 letI qq:=q2.1.1
 letI qo:=q2.1.2.2.2.2.1
 letI qm:=q2.1.2.2.2.2.2.1
 letI ql:=q2.1.2.2.2.2.2.2.1
 letI qk:=q2.1.2.1
 letI qi:=q2.1.2.2.2.2.2.2.2.1
 letI qh:=q2.1.2.2.2.2.2.2.2.2.1
 letI qg:=q2.1.2.2.1
 letI qf:=q2.1.2.2.2.2.2.2.2.2.2.1
 letI qe:=q2.1.2.2.2.2.2.2.2.2.2.2.1
 bif q2.2.2.1 then
 yAB (f3 (⟨qr,qo,qm,ql,qi,qh,qf,qe⟩:yAJ) q2.2.2.2.1) fun r3=>
 bif r3 then
 yAB (f4 q2.2.2.2.2.1 q2.2.1.By q2.2.1.Span) fun r4=>
 bif !r4 then
 bif decide (q2.2.2.2.2.2.1<64) then none else
 gW qq qq.length<|
 gW qk qk.length<|
 gW qg qg.length<|
 some ((()),(qq,qk,qg,qr,qo,qm,ql,qi,qh,qf,qe,()))
 else
 gW qq qq.length<|
 gW qk qk.length<|
 gW qg qg.length<|
 some ((()),(qq,qk,qg,qr,qo,qm,ql,qi,qh,qf,qe,()))
 else
 gW qq qq.length<|
 gW qk qk.length<|
 gW qg qg.length<|
 some ((()),(qq,qk,qg,qr,qo,qm,ql,qi,qh,qf,qe,()))
 else
 gW qq qq.length<|
 gW qk qk.length<|
 gW qg qg.length<|
 some ((()),(qq,qk,qg,qr,qo,qm,ql,qi,qh,qf,qe,())))
theorem yZw(f1 f3 f4 F0):yED.Eq [yBZ.s f1,sGr 373 4,yMR.s f3,yGt.s f4] (.two .no (.two .no (.two .no (.two .no (.two .no (.two (.two .no (.one (.lp (yGK.s F0)))) (.two .no (.two xT .no)))))))) (ySv f1 f3 f4 F0):=fun _ _=>by kernel_rfl
def yQm(L:Nat):yED.T:=ySv (yCH L) (xBq L) (yUH L) (yAb (yIp) L)
theorem yUv{α:Type}(L:Nat):LO Tryz.f352 [1,1,1,1,1,0,1,0] (yGK.s (α:=α) (yAb (yIp) L)):=yGK.k (yV0) tN (lS (lN _) (lS (lN _) (lS (lB (lS (lN _) (lS (lN _) (lQ (lX _) (lN _))))) (lN _)))) (by kernel_rfl) L
theorem yZv(L:Nat):yED.C (yQm L):=yED.c (yZw (yCH L) (xBq L) (yUH L) (yAb (yIp) L)) (tC (yIq L).ent (tC yVw (tC (xJ2 L).ent (tC (xC7 L).ent tN)))) Tryz.func352 (by kernel_rfl) (lS (lN _) (lS (lN _) (lS (lN _) (lS (lN _) (lS (lN _) (lS (lS (lN _) (lB (lL (yUv L)))) (lS (lN _) (lQ (lX _) (lN _)))))))))
abbrev yBG:=(List (List V))×((yAc×Unit))×Int×Int×Unit
abbrev yBo:=Unit
abbrev yBp:=Int×Unit
abbrev yBR{α:Type}(s:yBG)(kn:yBG->Option α)(k0:yBo->Option α)(k1:yBp->Option α):Option α:=
 letI qa:=s.2.2.2.1
 bif decide (qa<s.2.2.1) then
 gI s.1 yAd.ks qa<|
 bif(aI s.1 qa.toNat 0)==s.2.1.1.By then
 bif((aI s.1 qa.toNat 1)==s.2.1.1.Span.Lo)&&(((aI s.1 qa.toNat 2)==s.2.1.1.Span.Hi)&&true) then
 k1 (qa,())
 else
 kn (s.1,(s.2.1.1,()),s.2.2.1,w64 (qa+1),())
 else
 kn (s.1,(s.2.1.1,()),s.2.2.1,w64 (qa+1),())
 else
 k0 (())
abbrev yBH:LW2 yBG yBo yBp:=⟨(lvC 0 (mP cdR) (lvC 1 (mP (cdF 367 (caC (cdP xGI) caN))) (lvC 7 (mP cI) (lvC 8 (mP cI) lvN)))),(.exit 0),lvN,.ret,(lvC 4 (mP cI) lvN)⟩
theorem yFg{α:Type}:yBH.Eq (α:=α) [] Tryz.f366 [1,0,1,0] .no (yBR):=fun _ _ _=>by kernel_rfl
abbrev yAi:=fw2 366 (caC cdR (caC (cdF 367 (caC (cdP xGI) caN)) caN)) cI
abbrev yCz(F0:LF2 yBG yBo yBp (Int))(x0:List (List V))(x1:yAc×Unit):Option Int:=
 F0 (x0,(x1.1,()),(x0.length:Int),0,()) (fun q1=>
 some (-1)) (fun q2=>
 some q2.1)
theorem yGz(F0):yAi.Eq [] (.two .no (.two (.two .no (.one (.lp (yBH.s F0)))) .no)) (yCz F0):=fun _=>by kernel_rfl
def yCD(L:Nat):yAi.T:=yCz (yAf (yBR) L)
theorem yFT{α:Type}(L:Nat):LO Tryz.f366 [1,0,1,0] (yBH.s (α:=α) (yAf (yBR) L)):=yBH.k (yFg) tN (lN _) (by kernel_rfl) L
theorem yGy(L:Nat):yAi.C (yCD L):=yAi.c (yGz (yAf (yBR) L)) tN Tryz.func366 (by kernel_rfl) (lS (lN _) (lS (lS (lN _) (lB (lL (yFT L)))) (lN _)))
set_option maxRecDepth 100000
set_option maxHeartbeats 16000000
abbrev yBI:=(List (List V))×((yAc×Unit))×Int×Int×Unit
abbrev yBq:=Unit
abbrev yBr:=Int×Unit
abbrev yBS{α:Type}(s:yBI)(kn:yBI->Option α)(k0:yBq->Option α)(k1:yBr->Option α):Option α:=
 letI qa:=s.2.2.2.1
 bif decide (qa<s.2.2.1) then
 gI s.1 yAd.ks qa<|
 bif(aI s.1 qa.toNat 0)==s.2.1.1.By then
 bif((aI s.1 qa.toNat 1)==s.2.1.1.Span.Lo)&&(((aI s.1 qa.toNat 2)==s.2.1.1.Span.Hi)&&true) then
 k1 (qa,())
 else
 kn (s.1,(s.2.1.1,()),s.2.2.1,w64 (qa+1),())
 else
 kn (s.1,(s.2.1.1,()),s.2.2.1,w64 (qa+1),())
 else
 k0 (())
abbrev yBJ:LW2 yBI yBq yBr:=⟨(lvC 0 (mP cdR) (lvC 1 (mP (cdF 371 (caC (cdP xGI) caN))) (lvC 7 (mP cI) (lvC 8 (mP cI) lvN)))),(.exit 0),lvN,.ret,(lvC 4 (mP cI) lvN)⟩
theorem yFh{α:Type}:yBJ.Eq (α:=α) [] Tryz.f366 [1,0,1,0] .no (yBS):=fun _ _ _=>by kernel_rfl
abbrev yAj:=fw2 366 (caC cdR (caC (cdF 371 (caC (cdP xGI) caN)) caN)) cI
abbrev yC0(F0:LF2 yBI yBq yBr (Int))(x0:List (List V))(x1:yAc×Unit):Option Int:=
 F0 (x0,(x1.1,()),(x0.length:Int),0,()) (fun q1=>
 some (-1)) (fun q2=>
 some q2.1)
theorem yG1(F0):yAj.Eq [] (.two .no (.two (.two .no (.one (.lp (yBJ.s F0)))) .no)) (yC0 F0):=fun _=>by kernel_rfl
def yCE(L:Nat):yAj.T:=yC0 (yAf (yBS) L)
theorem yFU{α:Type}(L:Nat):LO Tryz.f366 [1,0,1,0] (yBJ.s (α:=α) (yAf (yBS) L)):=yBJ.k (yFh) tN (lN _) (by kernel_rfl) L
theorem yG0(L:Nat):yAj.C (yCE L):=yAj.c (yG1 (yAf (yBS) L)) tN Tryz.func366 (by kernel_rfl) (lS (lN _) (lS (lS (lN _) (lB (lL (yFU L)))) (lN _)))
abbrev yDn:=fw2 353 (caC (cdP yOM) (caC yJ5 caN)) (cdT caN)
abbrev yRS(f1:yAi.T)(f2:yAj.T)(x0:yAo)(x1:yAc):Option Unit:=
 yAB (f1 x0.Table.Holds (x1,())) fun r1=>
 bif decide (0<=r1) then none else
 yAB (f2 x0.Table.Queue (x1,())) fun r2=>
 bif decide (0<=r2) then none else
 some (())
theorem yYT(f1 f2):yDn.Eq [(366,spF 1 [(367,(yAi.s f1).2),(371,(yAj.s f2).2)])] (.two .no (.two .no (.two (.two .no (.two xT .no)) (.two .no (.two .no (.two xT .no)))))) (yRS f1 f2):=fun _=>by kernel_rfl
def yPs(L:Nat):yDn.T:=yRS (yCD L) (yCE L)
theorem yYS(L:Nat):yDn.C (yPs L):=yDn.c (yYT (yCD L) (yCE L)) (tC (ySt (yIo (yGy L).ent (yIo (yG0 L).ent yOD))) tN) Tryz.func353 (by kernel_rfl) (lS (lN _) (lS (lN _) (lS (lS (lN _) (lQ (lX _) (lN _))) (lS (lN _) (lS (lN _) (lQ (lX _) (lN _)))))))
abbrev yDJ:=fw2 354 (caC (cdP yOM) (caC yJ5 caN)) (cdT caN)
abbrev yQC(f1:yBZ.T)(x0:yAo)(x1:yAc):Option Unit:=
 yAB (f1 x0 x1.Dead) fun r1=>
 bif r1.2.1 then
 gI x0.Table.Slots yAr.ks r1.1<|
 bif(aI x0.Table.Slots r1.1.toNat 1)==x1.Was then
 bif x1.By !=x1.Dead then none else
 some (())
 else
 some (())
 else
 some (())
theorem yXH(f1):yDJ.Eq [yBZ.s f1] (.two .no (.two .no (.two .no (.two xT .no)))) (yQC f1):=fun _=>by kernel_rfl
def yOE(L:Nat):yDJ.T:=yQC (yCH L)
theorem yXG(L:Nat):yDJ.C (yOE L):=yDJ.c (yXH (yCH L)) (tC (yIq L).ent tN) Tryz.func354 (by kernel_rfl) (lS (lN _) (lS (lN _) (lS (lN _) (lQ (lX _) (lN _)))))
abbrev yDM:=fw2 355 (caC (cdP yOM) (caC yJ5 caN)) (cdT caN)
abbrev yQD(f1:yBZ.T)(x0:yAo)(x1:yAc):Option Unit:=
 yAB (f1 x0 x1.Dead) fun r1=>
 bif r1.2.1 then
 bif x1.By !=0 then
 gI x0.Table.Slots yAr.ks r1.1<|
 bif(aI x0.Table.Slots r1.1.toNat 1)==x1.By then none else
 some (())
 else
 some (())
 else
 some (())
theorem yXN(f1):yDM.Eq [yBZ.s f1] (.two .no (.two .no (.two .no (.two xT .no)))) (yQD f1):=fun _=>by kernel_rfl
def yOF(L:Nat):yDM.T:=yQD (yCH L)
theorem yXM(L:Nat):yDM.C (yOF L):=yDM.c (yXN (yCH L)) (tC (yIq L).ent tN) Tryz.func355 (by kernel_rfl) (lS (lN _) (lS (lN _) (lS (lN _) (lQ (lX _) (lN _)))))
abbrev yEi:=fw3 298 (caC yBQ (caC yCf (caC yJ5 caN))) yCf
abbrev ySj(f1:yPm.T)(f2:yPl.T)(f3:yBZ.T)(f4:yAl.T)(f5:yDK.T)(f6:yED.T)(f7:yDn.T)(f8:yDJ.T)(f9:yDM.T)(x0:yAJ)(x1:yAG)(x2:yAc):Option yAG:=
 bif decide (x2.Kind<0) then none else
 bif decide (6<=w64 x2.Kind) then none else
 yAB (f1 x1.Slots) fun r1=>
 letI qb:=0+r1.length
 yAB (f2 x1.Holds) fun r2=>
 letI qc:=0+r2.length
 yAB (f2 x1.Queue) fun r3=>
 letI qd:=0+r3.length
 letI qa:=(⟨r1.take r1.length,r2.take r2.length,r3.take r3.length⟩:yAG)
 letI qf:=(⟨qa,x0⟩:yAo)
 bif decide (x2.Kind=0) then
 gF r1 qb<|
 gF r2 qc<|
 gF r3 qd<|
 yAB (f3 qf x2.By) fun r4=>
 gF r1 qb<|
 yAB (f4 (r1.take r1.length) (())) fun r5=>
 letI qg:=r1.getD (0+r5.toNat) []
 letI qe:=r1.set (0+r5.toNat) (qg.take 0++([V.int .i64 x2.By]++qg.drop 1))
 bif !r4.2.1 then
 bif decide (0<=r5) then
 gB r5 r1.length<|
 gd (decide (0+r5.toNat<r1.length))<|
 gd (Nat.ble 0 (0+r5.toNat))<|
 gd (Nat.ble 1 qg.length)<|
 gF qe qb<|
 gF r2 qc<|
 gF r3 qd<|
 some (⟨qe.take r1.length,r2.take r2.length,r3.take r3.length⟩:yAG)
 else
 gF r1 qb<|
 gF r2 qc<|
 gF r3 qd<|
 some qa
 else
 gF r1 qb<|
 gF r2 qc<|
 gF r3 qd<|
 some qa
 else
 bif decide (x2.Kind=1) then
 gF r1 qb<|
 gF r2 qc<|
 gF r3 qd<|
 yAB (f3 qf x2.By) fun r6=>
 bif r6.2.1 then
 gW r1 r1.length<|
 gW r2 r2.length<|
 gW r3 r3.length<|
 yAB (f5 (r1,r2,r3,x0.Nodes,x0.Slots,x0.Blocks,x0.Per,x0.Journal,x0.Log,x0.Lease,x0.Wait,()) r6.1) fun r7=>
 gF r7.2.1 (0+r7.2.1.length)<|
 gF r7.2.2.1 (0+r7.2.2.1.length)<|
 gF r7.2.2.2.1 (0+r7.2.2.2.1.length)<|
 some (⟨r7.2.1.take r7.2.1.length,r7.2.2.1.take r7.2.2.1.length,r7.2.2.2.1.take r7.2.2.2.1.length⟩:yAG)
 else
 gF r1 qb<|
 gF r2 qc<|
 gF r3 qd<|
 some qa
 else
 bif decide (x2.Kind=2) then
 gW r1 r1.length<|
 gW r2 r2.length<|
 gW r3 r3.length<|
 yAB (f6 (r1,r2,r3,x0.Nodes,x0.Slots,x0.Blocks,x0.Per,x0.Journal,x0.Log,x0.Lease,x0.Wait,()) x2) fun r8=>
 gF r8.2.1 (0+r8.2.1.length)<|
 gF r8.2.2.1 (0+r8.2.2.1.length)<|
 gF r8.2.2.2.1 (0+r8.2.2.2.1.length)<|
 some (⟨r8.2.1.take r8.2.1.length,r8.2.2.1.take r8.2.2.1.length,r8.2.2.2.1.take r8.2.2.2.1.length⟩:yAG)
 else
 bif decide (x2.Kind=3) then
 gF r1 qb<|
 gF r2 qc<|
 gF r3 qd<|
 yAB (f7 qf x2) fun r9=>
 gF r1 qb<|
 gF r2 qc<|
 gF r3 qd<|
 some qa
 else
 bif decide (x2.Kind=4) then
 gF r1 qb<|
 gF r2 qc<|
 gF r3 qd<|
 yAB (f8 qf x2) fun r10=>
 gF r1 qb<|
 gF r2 qc<|
 gF r3 qd<|
 some qa
 else
 gd (decide (x2.Kind=5))<|
 gF r1 qb<|
 gF r2 qc<|
 gF r3 qd<|
 yAB (f9 qf x2) fun r11=>
 gF r1 qb<|
 gF r2 qc<|
 gF r3 qd<|
 some qa
theorem xFo(f1 f2 f3 f4 f5 f6 f7 f8 f9):yEi.Eq [yPm.s f1,yPl.s f2,yBZ.s f3,(260,spF 1 [(360,(yAl.s f4).2)]),yDK.s f5,yED.s f6,yDn.s f7,yDJ.s f8,yDM.s f9] (.two .no (.two .no (.two (.two .no (.two xT .no)) .no))) (ySj f1 f2 f3 f4 f5 f6 f7 f8 f9):=fun _=>by kernel_rfl
def yDR(L:Nat):yEi.T:=ySj (yIn L) (yIm L) (yCH L) (yA9 L) (yGP L) (yQm L) (yPs L) (yOE L) (yOF L)
theorem yXF(L:Nat):yEi.C (yDR L):=yEi.c (xFo (yIn L) (yIm L) (yCH L) (yA9 L) (yGP L) (yQm L) (yPs L) (yOE L) (yOF L)) (tC (yVv L).ent (tC (yVu L).ent (tC (yIq L).ent (tC (ySt (yIo (yG4 L).ent yOD)) (tC (yXI L).ent (tC (yZv L).ent (tC (yYS L).ent (tC (yXG L).ent (tC (yXM L).ent tN))))))))) Tryz.func298 (by kernel_rfl) (lS (lN _) (lS (lN _) (lS (lS (lN _) (lQ (lX _) (lN _))) (lN _))))
set_option maxRecDepth 100000
set_option maxHeartbeats 16000000
abbrev yFm:=fw4 196 (caC yBQ (caC yCf (caC cI (caC cdS caN)))) (cdT (caC yCf (caC cI (caC yJ5 (caC cdB (caC cI caN))))))
abbrev yHV(f1:yGY.T)(f2:yEi.T)(x0:yAJ)(x1:yAG)(x2:Int)(x3:ByteArray):Option (yAG×Int×yAc×Bool×Int×Unit):=
 yAB (f1 x3) fun r1=>
 bif r1.2.2.2.1==0 then
 bif r1.2.2.1 then
 yAB (f2 x0 x1 r1.1) fun r2=>
 some (r2,w64 (x2+1),r1.1,true,r1.2.2.2.1,())
 else
 some (x1,x2,r1.1,false,r1.2.2.2.1,())
 else
 some (x1,x2,r1.1,false,r1.2.2.2.1,())
theorem xGl(f1 f2):yFm.Eq [yGY.s f1,yEi.s f2] .no (yHV f1 f2):=fun _=>by kernel_rfl
def yC3(L:Nat):yFm.T:=yHV (yHO L) (yDR L)
theorem yYc(L:Nat):yFm.C (yC3 L):=yFm.c (xGl (yHO L) (yDR L)) (tC (xCH L).ent (tC (yXF L).ent tN)) Tryz.func196 (by kernel_rfl) (lN _)
abbrev yFG:=fw1 287 (caC (cdP yHL) caN) (cdT (caC yJ5 (caC cdB caN)))
abbrev yPF(f1:yBl.T)(x0:yAQ):Option (yAc×Bool×Unit):=
 yAB (f1 x0.Prop_.Cmd) fun r1=>
 some (r1.1,r1.2.1==0,())
theorem xA4(f1):yFG.Eq [yBl.s f1] .no (yPF f1):=fun _=>by kernel_rfl
def yK0(L:Nat):yFG.T:=yPF (yBi L)
theorem xA3(L:Nat):yFG.C (yK0 L):=yFG.c (xA4 (yBi L)) (tC (yI1 L).ent tN) Tryz.func287 (by kernel_rfl) (lN _)
abbrev yGX:=fw3 324 (caC yJ5 (caC cI (caC cI caN))) cdB
abbrev yQL(x0:yAc)(x1:Int)(x2:Int):Option Bool:=
 bif x0.By==x1 then
 some (x0.Serial==x2)
 else
 some false
theorem xCF:yGX.Eq [] .no (yQL):=fun _=>by kernel_rfl
def yNF(L:Nat):yGX.T:=yQL
theorem xCE(L:Nat):yGX.C (yNF L):=yGX.c (xCF) tN Tryz.func324 (by kernel_rfl) (lN _)
abbrev yOp:=fw1 288 (caC yBQ caN) cI
abbrev yXa(f1:yCy.T)(x0:yAJ):Option Int:=
 yAB (f1 x0) fun r1=>
 bif !r1 then
 some 0
 else
 some (w64 (4*x0.Slots))
theorem xLN(f1):yOp.Eq [yCy.s f1] .no (yXa f1):=fun _=>by kernel_rfl
def yUS(L:Nat):yOp.T:=yXa (yFD L)
theorem xLM(L:Nat):yOp.C (yUS L):=yOp.c (xLN (yFD L)) (tC (yO8 L).ent tN) Tryz.func288 (by kernel_rfl) (lN _)
abbrev yC8:=fw1 244 (caC cI caN) yKq
abbrev yOR(x0:Int):Option yAV:=
 bif decide (x0<0) then
 some yAV.z
 else
 some (⟨1,x0,noS,0⟩:yAV)
theorem xEW:yC8.Eq [] .no (yOR):=fun _=>by kernel_rfl
def yGC(L:Nat):yC8.T:=yOR
theorem yRr(L:Nat):yC8.C (yGC L):=yC8.c (xEW) tN Tryz.func244 (by kernel_rfl) (lN _)
abbrev yDN:=fw2 245 (caC yBQ (caC cI caN)) cI
abbrev yVN(f1:yHB.T)(x0:yAJ)(x1:Int):Option Int:=
 yAB (f1 x0 3 x1 0) fun r1=>
 some r1
theorem xIy(f1):yDN.Eq [yHB.s f1] .no (yVN f1):=fun _=>by kernel_rfl
def yEH(L:Nat):yDN.T:=yVN (yNH L)
theorem yRg(L:Nat):yDN.C (yEH L):=yDN.c (xIy (yNH L)) (tC (yWM L).ent tN) Tryz.func245 (by kernel_rfl) (lN _)
abbrev yD5:=fw1 243 (caC (cdP yHL) caN) yKq
abbrev yNr(f1:yDN.T)(f2:yC8.T)(x0:yAQ):Option yAV:=
 yAB (f1 x0.g_ x0.Prop_.Node) fun r1=>
 yAB (f2 r1) fun r2=>
 some r2
theorem yZJ(f1 f2):yD5.Eq [yDN.s f1,yC8.s f2] .no (yNr f1 f2):=fun _=>by kernel_rfl
def yMh(L:Nat):yD5.T:=yNr (yEH L) (yGC L)
theorem yZI(L:Nat):yD5.C (yMh L):=yD5.c (yZJ (yEH L) (yGC L)) (tC (yRg L).ent (tC (yRr L).ent tN)) Tryz.func243 (by kernel_rfl) (lN _)
abbrev yGO:=(List (List V))×ByteArray×Int×(List (List V))×Int×Int×Unit
abbrev yJm:=(List (List V))×ByteArray×Int×Unit
abbrev yOC:=(List (List V))×ByteArray×Int×Unit
abbrev yCI{α:Type}(f1:yGN.T)(s:yGO)(kn:yGO->Option α)(k0:yJm->Option α)(k1:yOC->Option α):Option α:=
 letI qb:=s.2.2.2.1
 letI qa:=s.2.2.2.2.2.1
 bif decide (qa<s.2.2.2.2.1) then
 gI qb kI qa<|
 bif s.2.2.1 !=0 then
 gW s.1 s.1.length<|
 k0 (s.1,s.2.1,s.2.2.1,())
 else
 yAB (f1 s.2.1 0 (aI qb qa.toNat 0)) fun r1=>
 bif r1.2.1 !=0 then
 k1 ([],noS,30,())
 else
 gd (Nat.beq (0+s.1.length) s.1.length)<|
 gM (s.1.length+1) 8<|
 gd (decide (0<=aI qb qa.toNat 0))<|
 gd (decide (aI qb qa.toNat 0<=(s.2.1.size:Int)))<|
 gW (s.1++([[V.int .i64 r1.1]])) (s.1.length+1)<|
 kn (s.1++([[V.int .i64 r1.1]]),s.2.1.extract ((aI qb qa.toNat 0).toNat) s.2.1.size,s.2.2.1,qb,s.2.2.2.2.1,w64 (qa+1),())
 else
 gW s.1 s.1.length<|
 k0 (s.1,s.2.1,s.2.2.1,())
abbrev yJn:LW2 yGO yJm yOC:=⟨(lvC 6 (mW 1) (lvC 7 (mP cdS) (lvC 8 (mP cI) (lvC 19 (mP cdR) (lvC 20 (mP cI) (lvC 21 (mP cI) lvN)))))),(.exit 0),(lvC 6 (mW 1) (lvC 7 (mP cdS) (lvC 8 (mP cI) lvN))),.ret,(lvC 6 (mW 1) (lvC 7 (mP cdS) (lvC 8 (mP cI) lvN)))⟩
theorem yZr{α:Type}(f1):yJn.Eq (α:=α) [yGN.s f1] Tryz.f254 [1,1,0,1,0] .no (yCI f1):=fun _ _ _=>by kernel_rfl
abbrev yDA:=rw3 254 .t (caC (cdI .i8) (caC cdS (caC cdR caN))) (zW 1 (zP cdS (zP cI zN)))
abbrev ySh(f1:yNV.T)(F0:LF2 yGO yJm yOC ((List (List V))×ByteArray×Int×Unit))(x0:Int)(x1:ByteArray)(x2:List (List V)):Option ((List (List V))×ByteArray×Int×Unit):=
 yAB (f1 x0 x1) fun r1=>
 F0 ([],r1.1,r1.2.1,x2,(x2.length:Int),0,()) (fun q2=>
 bif q2.2.2.1 !=0 then
 some ([],noS,q2.2.2.1,())
 else
 gW q2.1 q2.1.length<|
 some (q2.1,q2.2.1,0,())) (fun q3=>
 gW q3.1 q3.1.length<|
 some (q3.1,q3.2.1,q3.2.2.1,()))
theorem xFf(f1 F0):yDA.Eq [yNV.s f1] (.two .no (.two .no (.two (.two .no (.one (.lp (yJn.s F0)))) .no))) (ySh f1 F0):=fun _=>by kernel_rfl
def yDQ(L:Nat):yDA.T:=ySh (yUE L) (yAf (yCI (yCC L)) L)
theorem yYH{α:Type}(L:Nat):LO Tryz.f254 [1,1,0,1,0] (yJn.s (α:=α) (yAf (yCI (yCC L)) L)):=yJn.k (yZr (yCC L)) (tC (yWW L).ent tN) (lN _) (by kernel_rfl) L
theorem ySg(L:Nat):yDA.C (yDQ L):=yDA.c (xFf (yUE L) (yAf (yCI (yCC L)) L)) (tC (xIG L).ent tN) Tryz.func254 (by kernel_rfl) (lS (lN _) (lS (lN _) (lS (lS (lN _) (lB (lL (yYH L)))) (lN _))))
abbrev yCP:=fw1 326 (caC (cdP yNc) caN) cdR
abbrev yGu(x0:yAX):Option (List (List V)):=
 some ([[V.int .i64 2],[V.int .i64 6],[V.int .i64 6]])
theorem ySx:yCP.Eq [] .no (yGu):=fun _=>by kernel_rfl
def yE0(L:Nat):yCP.T:=yGu
theorem ySw(L:Nat):yCP.C (yE0 L):=yCP.c (ySx) tN Tryz.func326 (by kernel_rfl) (lN _)
abbrev yCr:=fw3 329 (caC cI (caC cI (caC cI caN))) cdB
abbrev yNa(x0:Int)(x1:Int)(x2:Int):Option Bool:=
 bif decide (x1<=x0) then
 some (decide (x0<=x2))
 else
 some false
theorem yY2:yCr.Eq [] .no (yNa):=fun _=>by kernel_rfl
def yEq(L:Nat):yCr.T:=yNa
theorem ySm(L:Nat):yCr.C (yEq L):=yCr.c (yY2) tN Tryz.func329 (by kernel_rfl) (lN _)
abbrev yB9:=fw1 327 (caC (cdP yNc) caN) cdB
abbrev yJp(f1:yCr.T)(x0:yAX):Option Bool:=
 yAB (f1 x0.Rec.Inst 0 512) fun r1=>
 bif r1 then
 yAB (f1 x0.Rec.Mbal 0 1099511627776) fun r2=>
 bif r2 then
 yAB (f1 x0.Rec.Bal 0 x0.Rec.Mbal) fun r3=>
 bif r3 then
 bif decide ((x0.Rec.Val.size:Int)<=64) then
 some ((x0.Rec.Bal==0)==(x0.Rec.Val.toList==noS.toList))
 else
 some false
 else
 some false
 else
 some false
 else
 some false
theorem yVC(f1):yB9.Eq [yCr.s f1] .no (yJp f1):=fun _=>by kernel_rfl
def yCW(L:Nat):yB9.T:=yJp (yEq L)
theorem yOz(L:Nat):yB9.C (yCW L):=yB9.c (yVC (yEq L)) (tC (ySm L).ent tN) Tryz.func327 (by kernel_rfl) (lN _)
abbrev yHq:=fw1 289 (caC cdS caN) (cdT (caC yTH (caC cI caN)))
abbrev yRX(f1:yDA.T)(f2:yB9.T)(x0:ByteArray):Option (yAp×Int×Unit):=
 bif x0.toList==noS.toList then
 some (yAp.z,0,())
 else
 yAB (f1 4 x0 ([[V.int .i64 2],[V.int .i64 6],[V.int .i64 6]])) fun r1=>
 letI qa:=(⟨aI r1.1 0 0,aI r1.1 1 0,aI r1.1 2 0,r1.2.1⟩:yAp)
 bif r1.2.2.1 !=0 then
 some (yAp.z,50,())
 else
 gd (decide (0<(r1.1.length:Int)))<|
 gL r1.1 kI 0 0<|
 gd (decide (1<(r1.1.length:Int)))<|
 gL r1.1 kI 1 0<|
 gd (decide (2<(r1.1.length:Int)))<|
 gL r1.1 kI 2 0<|
 yAB (f2 (⟨qa⟩:yAX)) fun r2=>
 bif !r2 then
 some (yAp.z,50,())
 else
 some (qa,0,())
theorem xDu(f1 f2):yHq.Eq [yDA.s f1,yB9.s f2] .no (yRX f1 f2):=fun _=>by kernel_rfl
def yEp(L:Nat):yHq.T:=yRX (yDQ L) (yCW L)
theorem xDt(L:Nat):yHq.C (yEp L):=yHq.c (xDu (yDQ L) (yCW L)) (tC (ySg L).ent (tC (yOz L).ent tN)) Tryz.func289 (by kernel_rfl) (lN _)
abbrev yLf:=fw2 290 (caC yTH (caC cI caN)) yTH
abbrev yVB(x0:yAp)(x1:Int):Option yAp:=
 bif x0.Inst !=x1 then
 some (⟨x1,x0.Mbal,0,noS⟩:yAp)
 else
 some x0
theorem xIk:yLf.Eq [] .no (yVB):=fun _=>by kernel_rfl
def yS7(L:Nat):yLf.T:=yVB
theorem xIj(L:Nat):yLf.C (yS7 L):=yLf.c (xIk) tN Tryz.func290 (by kernel_rfl) (lN _)
set_option maxRecDepth 100000
set_option maxHeartbeats 16000000
abbrev yDW:=(List (List V))×Int×Int×Unit
abbrev yGI:=Int×Unit
abbrev yCF{α:Type}(s:yDW)(kn:yDW->Option α)(k0:yGI->Option α):Option α:=
 bif decide (s.2.2.1<(s.1.length:Int)) then
 gI s.1 kI s.2.2.1<|
 kn (s.1,yEr true s.2.1 (aI s.1 s.2.2.1.toNat 0),w64 (s.2.2.1+1),())
 else
 k0 (s.2.1,())
abbrev yDX:LW1 yDW yGI:=⟨(lvC 0 (mP cdR) (lvC 3 (mP cI) (lvC 4 (mP cI) lvN))),(.exit 0),(lvC 3 (mP cI) lvN)⟩
theorem ySi{α:Type}:yDX.Eq (α:=α) [] Tryz.f328 [1,1,1,0,1,0] .no (yCF):=fun _ _ _=>by kernel_rfl
abbrev yCp:=fw1 328 (caC cdR caN) cI
abbrev yIz(F0:LF1 yDW yGI (Int))(x0:List (List V)):Option Int:=
 bif decide ((x0.length:Int)<1) then none else
 gd (decide (0<(x0.length:Int)))<|
 gd (rowIs kI x0 0)<|
 F0 (x0,aI x0 0 0,1,()) (fun q1=>
 some q1.1)
theorem yUu(F0):yCp.Eq [] (.two .no (.two .no (.two .no (.two (.two .no (.one (.lp (yDX.s F0)))) .no)))) (yIz F0):=fun _=>by kernel_rfl
def yEh(L:Nat):yCp.T:=yIz (yAb (yCF) L)
theorem yRL{α:Type}(L:Nat):LO Tryz.f328 [1,1,1,0,1,0] (yDX.s (α:=α) (yAb (yCF) L)):=yDX.k (ySi) tN (lN _) (by kernel_rfl) L
theorem yUt(L:Nat):yCp.C (yEh L):=yCp.c (yUu (yAb (yCF) L)) tN Tryz.func328 (by kernel_rfl) (lS (lN _) (lS (lN _) (lS (lN _) (lS (lS (lN _) (lB (lL (yRL L)))) (lN _)))))
abbrev yJA:=Int×Int×Int×Unit
abbrev yNZ:=Int×Int×Unit
abbrev yEo{α:Type}(s:yJA)(kn:yJA->Option α)(k0:yNZ->Option α):Option α:=
 bif decide (w64 ((w64 (s.2.2.1*16))+s.1)<=s.2.1) then
 kn (s.1,s.2.1,w64 (s.2.2.1+1),())
 else
 k0 (s.1,s.2.2.1,())
abbrev yJB:LW1 yJA yNZ:=⟨(lvC 0 (mP cI) (lvC 5 (mP cI) (lvC 6 (mP cI) lvN))),(.exit 0),(lvC 0 (mP cI) (lvC 6 (mP cI) lvN))⟩
theorem yY1{α:Type}:yJB.Eq (α:=α) [] Tryz.f291 [1,1,1,1,0,0] .no (yEo):=fun _ _ _=>by kernel_rfl
abbrev yHp:=fw2 291 (caC cI (caC cdR caN)) cI
abbrev yRW(f1:yCp.T)(f2:yCr.T)(F0:LF1 yJA yNZ (Int))(x0:Int)(x1:List (List V)):Option Int:=
 gd (x1.all fun r=>Nat.beq r.length 1)<|
 gM (1+x1.length) 8<|
 gF (([[V.int .i64 0]])++x1) (0+(1+x1.length))<|
 yAB (f1 ((([[V.int .i64 0]])++x1).take (1+x1.length))) fun r1=>
 yAB (f2 x0 0 15) fun r2=>
 bif !r2 then
 some 0
 else
 bif decide (1099511627776<r1) then
 some 0
 else
 F0 (x0,r1,yEr true 1 (w64 ((w64 (r1-x0)).tdiv 16)),()) (fun q3=>
 bif decide (w64 ((w64 (q3.2.1*16))+q3.1)<=1099511627776) then
 some (w64 ((w64 (q3.2.1*16))+q3.1))
 else
 some 0)
theorem xDs(f1 f2 F0):yHp.Eq [yCp.s f1,yCr.s f2] (.two .no (.two .no (.two .no (.two .no (.two (.one (.lp (yJB.s F0))) .no))))) (yRW f1 f2 F0):=fun _=>by kernel_rfl
def yLg(L:Nat):yHp.T:=yRW (yEh L) (yEq L) (yAb (yEo) L)
theorem yXQ{α:Type}(L:Nat):LO Tryz.f291 [1,1,1,1,0,0] (yJB.s (α:=α) (yAb (yEo) L)):=yJB.k (yY1) tN (lN _) (by kernel_rfl) L
theorem xDr(L:Nat):yHp.C (yLg L):=yHp.c (xDs (yEh L) (yEq L) (yAb (yEo) L)) (tC (yUt L).ent (tC (ySm L).ent tN)) Tryz.func291 (by kernel_rfl) (lS (lN _) (lS (lN _) (lS (lN _) (lS (lN _) (lS (lB (lL (yXQ L))) (lN _))))))
abbrev yJ2:=fw1 330 (caC yTH caN) cdB
abbrev yS8(f1:yB9.T)(x0:yAp):Option Bool:=
 yAB (f1 (⟨x0⟩:yAX)) fun r1=>
 some r1
theorem xF7(f1):yJ2.Eq [yB9.s f1] .no (yS8 f1):=fun _=>by kernel_rfl
def yUN(L:Nat):yJ2.T:=yS8 (yCW L)
theorem xF6(L:Nat):yJ2.C (yUN L):=yJ2.c (xF7 (yCW L)) (tC (yOz L).ent tN) Tryz.func330 (by kernel_rfl) (lN _)
abbrev yCl:=fw1 331 (caC (cdP yNc) caN) (cdT (caC cdS (caC cI caN)))
abbrev yIt(f1:yCP.T)(f2:yHl.T)(x0:yAX):Option (ByteArray×Int×Unit):=
 yAB (f1 x0) fun r1=>
 yAB (f2 4 x0.Rec.Val r1 ([[V.int .i64 x0.Rec.Inst],[V.int .i64 x0.Rec.Mbal],[V.int .i64 x0.Rec.Bal]])) fun r2=>
 some (r2.1,r2.2.1,())
theorem yUj(f1 f2):yCl.Eq [yCP.s f1,yHl.s f2] .no (yIt f1 f2):=fun _=>by kernel_rfl
def yG6(L:Nat):yCl.T:=yIt (yE0 L) (yNU L)
theorem yUi(L:Nat):yCl.C (yG6 L):=yCl.c (yUj (yE0 L) (yNU L)) (tC (ySw L).ent (tC (xBn L).ent tN)) Tryz.func331 (by kernel_rfl) (lN _)
abbrev yGS:=fw1 292 (caC yTH caN) (cdT (caC cdS (caC cI caN)))
abbrev yQG(f1:yJ2.T)(f2:yCl.T)(x0:yAp):Option (ByteArray×Int×Unit):=
 yAB (f1 x0) fun r1=>
 bif !r1 then
 some (noS,2,())
 else
 yAB (f2 (⟨x0⟩:yAX)) fun r2=>
 some (r2.1,r2.2.1,())
theorem xB5(f1 f2):yGS.Eq [yJ2.s f1,yCl.s f2] .no (yQG f1 f2):=fun _=>by kernel_rfl
def yJ1(L:Nat):yGS.T:=yQG (yUN L) (yG6 L)
theorem xB4(L:Nat):yGS.C (yJ1 L):=yGS.c (xB5 (yUN L) (yG6 L)) (tC (xF6 L).ent (tC (yUi L).ent tN)) Tryz.func292 (by kernel_rfl) (lN _)
abbrev yDZ:=fw3 293 (caC cI (caC cdS (caC cI caN))) yKq
abbrev yMf(x0:Int)(x1:ByteArray)(x2:Int):Option yAV:=
 bif x2 !=0 then
 some yAV.z
 else
 bif decide (x0<0) then
 some yAV.z
 else
 some (⟨2,x0,x1,0⟩:yAV)
theorem xCP:yDZ.Eq [] .no (yMf):=fun _=>by kernel_rfl
def yEQ(L:Nat):yDZ.T:=yMf
theorem yU2(L:Nat):yDZ.C (yEQ L):=yDZ.c (xCP) tN Tryz.func293 (by kernel_rfl) (lN _)
abbrev yDH:=fw1 247 (caC (cdP yHL) caN) yKq
abbrev yK1(f1:yGS.T)(f2:yDN.T)(f3:yDZ.T)(x0:yAQ):Option yAV:=
 yAB (f1 x0.Prop_.Own) fun r1=>
 yAB (f2 x0.g_ x0.Prop_.Node) fun r2=>
 yAB (f3 r2 r1.1 r1.2.1) fun r3=>
 some r3
theorem yWa(f1 f2 f3):yDH.Eq [yGS.s f1,yDN.s f2,yDZ.s f3] .no (yK1 f1 f2 f3):=fun _=>by kernel_rfl
def yJK(L:Nat):yDH.T:=yK1 (yJ1 L) (yEH L) (yEQ L)
theorem yWZ(L:Nat):yDH.C (yJK L):=yDH.c (yWa (yJ1 L) (yEH L) (yEQ L)) (tC (xB4 L).ent (tC (yRg L).ent (tC (yU2 L).ent tN))) Tryz.func247 (by kernel_rfl) (lN _)
abbrev yDu:=yAR×(List (List V))×Int×Int×Unit
abbrev yGw:=yAR×Unit
abbrev yE1{α:Type}(s:yDu)(kn:yDu->Option α)(k0:yGw->Option α):Option α:=
 bif decide (s.2.2.2.1<s.2.2.1) then
 gI s.2.1 kI s.2.2.2.1<|
 kn ((⟨{s.1.Tally with Seen:=yEr true s.1.Tally.Seen (aI s.2.1 s.2.2.2.1.toNat 0)}⟩:yAR),s.2.1,s.2.2.1,w64 (s.2.2.2.1+1),())
 else
 k0 (s.1,())
abbrev yDv:LW1 yDu yGw:=⟨(lvC 0 yTT (lvC 6 (mP cdR) (lvC 7 (mP cI) (lvC 8 (mP cI) lvN)))),(.exit 0),(lvC 0 yTT lvN)⟩
theorem ySz{α:Type}:yDv.Eq (α:=α) [] Tryz.f332 [1,0] .no (yE1):=fun _ _ _=>by kernel_rfl
abbrev yC1:=mw1 332 (zS 7 yTG) 7 (caC cdR caN) (cdT caN)
abbrev yO2(F0:LF1 yDu yGw (Unit×yAR))(x0:yAR)(x1:List (List V)):Option (Unit×yAR):=
 F0 (x0,x1,(x1.length:Int),0,()) (fun q1=>
 some ((()),q1.1))
theorem yVI(F0):yC1.Eq [] (.two .no (.one (.lp (yDv.s F0)))) (yO2 F0):=fun _ _=>by kernel_rfl
def yHw(L:Nat):yC1.T:=yO2 (yAb (yE1) L)
theorem yRY{α:Type}(L:Nat):LO Tryz.f332 [1,0] (yDv.s (α:=α) (yAb (yE1) L)):=yDv.k (ySz) tN (lN _) (by kernel_rfl) L
theorem yVH(L:Nat):yC1.C (yHw L):=yC1.c (yVI (yAb (yE1) L)) tN Tryz.func332 (by kernel_rfl) (lS (lN _) (lB (lL (yRY L))))
set_option maxRecDepth 100000
set_option maxHeartbeats 16000000
abbrev yG9:=Int×yAJ×Int×Unit
abbrev yKs:=yAJ×Unit
abbrev yKt:=Int×Unit
abbrev yD2{α:Type}(s:yG9)(kn:yG9->Option α)(k0:yKs->Option α)(k1:yKt->Option α):Option α:=
 bif decide (s.2.2.1<s.2.1.Nodes) then
 bif s.2.2.1 !=s.1 then
 k1 (s.2.2.1,())
 else
 kn (s.1,s.2.1,w64 (s.2.2.1+1),())
 else
 k0 (s.2.1,())
abbrev yHA:LW2 yG9 yKs yKt:=⟨(lvC 1 (mP cI) (lvC 3 yOI (lvC 7 (mP cI) lvN))),(.exit 0),(lvC 3 yOI lvN),.ret,(lvC 6 (mP cI) lvN)⟩
theorem yWC{α:Type}:yHA.Eq (α:=α) [] Tryz.f333 [1,0,1,0] .no (yD2):=fun _ _ _=>by kernel_rfl
abbrev yFB:=fw3 333 (caC yBQ (caC cI (caC cI caN))) cI
abbrev yO1(F0:LF2 yG9 yKs yKt (Int))(x0:yAJ)(x1:Int)(x2:Int):Option Int:=
 F0 (x1,x0,yEr true x2 0,()) (fun q1=>
 some q1.1.Nodes) (fun q2=>
 some q2.1)
theorem xAT(F0):yFB.Eq [] (.two .no (.two (.two .no (.one (.lp (yHA.s F0)))) .no)) (yO1 F0):=fun _=>by kernel_rfl
def yHv(L:Nat):yFB.T:=yO1 (yAf (yD2) L)
theorem yVG{α:Type}(L:Nat):LO Tryz.f333 [1,0,1,0] (yHA.s (α:=α) (yAf (yD2) L)):=yHA.k (yWC) tN (lN _) (by kernel_rfl) L
theorem xAS(L:Nat):yFB.C (yHv L):=yFB.c (xAT (yAf (yD2) L)) tN Tryz.func333 (by kernel_rfl) (lS (lN _) (lS (lS (lN _) (lB (lL (yVG L)))) (lN _)))
abbrev yGU:=fw1 334 (caC yPw caN) cdB
abbrev yQJ(x0:yAP):Option Bool:=
 bif x0.Ahead then
 some true
 else
 some x0.Lost
theorem xCB:yGU.Eq [] .no (yQJ):=fun _=>by kernel_rfl
def yJ6(L:Nat):yGU.T:=yQJ
theorem xCA(L:Nat):yGU.C (yJ6 L):=yGU.c (xCB) tN Tryz.func334 (by kernel_rfl) (lN _)
abbrev yGV:=fw2 335 (caC yPw (caC cdS caN)) cdS
abbrev yQK(x0:yAP)(x1:ByteArray):Option ByteArray:=
 bif decide (0<x0.Best) then
 some x0.Val
 else
 some x1
theorem xCD:yGV.Eq [] .no (yQK):=fun _=>by kernel_rfl
def yJ7(L:Nat):yGV.T:=yQK
theorem xCC(L:Nat):yGV.C (yJ7 L):=yGV.c (xCD) tN Tryz.func335 (by kernel_rfl) (lN _)
abbrev yD6:=fw1 249 (caC (cdP yHL) caN) yKq
abbrev yNs(f1:yDN.T)(f2:yC8.T)(x0:yAQ):Option yAV:=
 yAB (f1 x0.g_ x0.Prop_.I) fun r1=>
 yAB (f2 r1) fun r2=>
 some r2
theorem yZL(f1 f2):yD6.Eq [yDN.s f1,yC8.s f2] .no (yNs f1 f2):=fun _=>by kernel_rfl
def yMi(L:Nat):yD6.T:=yNs (yEH L) (yGC L)
theorem yZK(L:Nat):yD6.C (yMi L):=yD6.c (yZL (yEH L) (yGC L)) (tC (yRg L).ent (tC (yRr L).ent tN)) Tryz.func249 (by kernel_rfl) (lN _)
abbrev yD7:=fw1 251 (caC (cdP yHL) caN) yKq
abbrev yNt(f1:yDN.T)(f2:yC8.T)(x0:yAQ):Option yAV:=
 yAB (f1 x0.g_ x0.Prop_.I) fun r1=>
 yAB (f2 r1) fun r2=>
 some r2
theorem yZN(f1 f2):yD7.Eq [yDN.s f1,yC8.s f2] .no (yNt f1 f2):=fun _=>by kernel_rfl
def yMj(L:Nat):yD7.T:=yNt (yEH L) (yGC L)
theorem yZM(L:Nat):yD7.C (yMj L):=yD7.c (yZN (yEH L) (yGC L)) (tC (yRg L).ent (tC (yRr L).ent tN)) Tryz.func251 (by kernel_rfl) (lN _)
abbrev yMM:=fw2 337 (caC (cdI .i8) (caC cdS caN)) (cdT (caC cdS (caC cI caN)))
abbrev yVq(f1:yB3.T)(x0:Int)(x1:ByteArray):Option (ByteArray×Int×Unit):=
 yAB (f1 ([],0,x0,()) x1) fun r1=>
 some (r1.1.1,r1.1.2.1,())
theorem xJz(f1):yMM.Eq [yB3.s f1] .no (yVq f1):=fun _=>by kernel_rfl
def yRK(L:Nat):yMM.T:=yVq (yCk L)
theorem xJy(L:Nat):yMM.C (yRK L):=yMM.c (xJz (yCk L)) (tC (yOJ L).ent tN) Tryz.func337 (by kernel_rfl) (lN _)
abbrev yFC:=fw1 297 (caC cdS caN) (cdT (caC cdS (caC cI caN)))
abbrev yO6(f1:yBl.T)(f2:yMM.T)(x0:ByteArray):Option (ByteArray×Int×Unit):=
 yAB (f1 x0) fun r1=>
 bif r1.2.1 !=0 then
 some (noS,2,())
 else
 yAB (f2 5 x0) fun r2=>
 some (r2.1,r2.2.1,())
theorem xAa(f1 f2):yFC.Eq [yBl.s f1,yMM.s f2] .no (yO6 f1 f2):=fun _=>by kernel_rfl
def yKv(L:Nat):yFC.T:=yO6 (yBi L) (yRK L)
theorem xAZ(L:Nat):yFC.C (yKv L):=yFC.c (xAa (yBi L) (yRK L)) (tC (yI1 L).ent (tC (xJy L).ent tN)) Tryz.func297 (by kernel_rfl) (lN _)
abbrev yCm:=fw1 252 (caC (cdP yHL) caN) yKq
abbrev yIu(f1:yFC.T)(f2:yGM.T)(f3:yDZ.T)(x0:yAQ):Option yAV:=
 yAB (f1 x0.Prop_.Own.Val) fun r1=>
 yAB (f2 x0.g_ x0.done_) fun r2=>
 yAB (f3 r2 r1.1 r1.2.1) fun r3=>
 some r3
theorem yUn(f1 f2 f3):yCm.Eq [yFC.s f1,yGM.s f2,yDZ.s f3] .no (yIu f1 f2 f3):=fun _=>by kernel_rfl
def yHD(L:Nat):yCm.T:=yIu (yKv L) (yGA L) (yEQ L)
theorem yUm(L:Nat):yCm.C (yHD L):=yCm.c (yUn (yKv L) (yGA L) (yEQ L)) (tC (xAZ L).ent (tC (yWK L).ent (tC (yU2 L).ent tN))) Tryz.func252 (by kernel_rfl) (lN _)
abbrev yFt:=fw3 81 (caC yBQ (caC yGv (caC cI caN))) (cdT (caC yKq (caC cI caN)))
abbrev yFs(f1:yGM.T)(f2:yD4.T)(f3:yD5.T)(f4:yDH.T)(f5:yD6.T)(f6:yD7.T)(f7:yCm.T)(x0:yAJ)(x1:yAH)(x2:Int):Option (yAV×Int×Unit):=
 letI qb:=f1 x0 x2
 letI qa:=(⟨x1,x0,yAG.z,x2,false⟩:yAQ)
 bif decide (x1.At<0) then
 some (yAV.z,0,())
 else
 bif decide (7<=w64 x1.At) then
 some (yAV.z,0,())
 else
 bif decide (x1.At=0) then
 bif x1.At==0 then
 yAB qb fun r1=>
 bif decide (r1<0) then
 some (yAV.z,150,())
 else
 yAB (f2 qa) fun r2=>
 some (r2,0,())
 else
 yAB (f2 qa) fun r3=>
 some (r3,0,())
 else
 bif decide (x1.At=1) then
 bif x1.At==0 then
 yAB qb fun r4=>
 bif decide (r4<0) then
 some (yAV.z,150,())
 else
 yAB (f3 qa) fun r5=>
 some (r5,0,())
 else
 yAB (f3 qa) fun r6=>
 some (r6,0,())
 else
 bif decide (x1.At=2) then
 bif x1.At==0 then
 yAB qb fun r7=>
 bif decide (r7<0) then
 some (yAV.z,150,())
 else
 yAB (f4 qa) fun r8=>
 some (r8,0,())
 else
 yAB (f4 qa) fun r9=>
 some (r9,0,())
 else
 bif decide (x1.At=3) then
 bif x1.At==0 then
 yAB qb fun r10=>
 bif decide (r10<0) then
 some (yAV.z,150,())
 else
 yAB (f5 qa) fun r11=>
 some (r11,0,())
 else
 yAB (f5 qa) fun r12=>
 some (r12,0,())
 else
 bif decide (x1.At=4) then
 bif x1.At==0 then
 yAB qb fun r13=>
 bif decide (r13<0) then
 some (yAV.z,150,())
 else
 yAB (f4 qa) fun r14=>
 some (r14,0,())
 else
 yAB (f4 qa) fun r15=>
 some (r15,0,())
 else
 bif decide (x1.At=5) then
 bif x1.At==0 then
 yAB qb fun r16=>
 bif decide (r16<0) then
 some (yAV.z,150,())
 else
 yAB (f6 qa) fun r17=>
 some (r17,0,())
 else
 yAB (f6 qa) fun r18=>
 some (r18,0,())
 else
 gd (decide (x1.At=6))<|
 bif x1.At==0 then
 yAB qb fun r19=>
 bif decide (r19<0) then
 some (yAV.z,150,())
 else
 yAB (f7 qa) fun r20=>
 some (r20,0,())
 else
 yAB (f7 qa) fun r21=>
 some (r21,0,())
theorem xG1(f1 f2 f3 f4 f5 f6 f7):yFt.Eq [yGM.s f1,yD4.s f2,yD5.s f3,yDH.s f4,yD6.s f5,yD7.s f6,yCm.s f7] .no (yFs f1 f2 f3 f4 f5 f6 f7):=fun _=>by kernel_rfl
def yBW(L:Nat):yFt.T:=yFs (yGA L) (yMg L) (yMh L) (yJK L) (yMi L) (yMj L) (yHD L)
theorem yYl(L:Nat):yFt.C (yBW L):=yFt.c (xG1 (yGA L) (yMg L) (yMh L) (yJK L) (yMi L) (yMj L) (yHD L)) (tC (yWK L).ent (tC (yZG L).ent (tC (yZI L).ent (tC (yWZ L).ent (tC (yZK L).ent (tC (yZM L).ent (tC (yUm L).ent tN))))))) Tryz.func81 (by kernel_rfl) (lN _)
abbrev yOo:=fw2 82 (caC yBQ (caC cI caN)) cI
abbrev yXZ(f1:yHB.T)(x0:yAJ)(x1:Int):Option Int:=
 yAB (f1 x0 6 x1 0) fun r1=>
 some r1
theorem xLL(f1):yOo.Eq [yHB.s f1] .no (yXZ f1):=fun _=>by kernel_rfl
def yWJ(L:Nat):yOo.T:=yXZ (yNH L)
theorem xLK(L:Nat):yOo.C (yWJ L):=yOo.c (xLL (yNH L)) (tC (yWM L).ent tN) Tryz.func82 (by kernel_rfl) (lN _)
end Go.Proofs.YtakljpcmbpaeaaaGreat
