/- Typed functions. (printed by wip/sx) -/
import Derived.Test.YtakljpcmbpaeaaaGreatPaxosEndsM36
import Derived.Test.YtakljpcmbpaeaaaGreatPaxosEndsM37
set_option linter.unusedSimpArgs false
set_option linter.unusedVariables false
namespace Go.Proofs.YtakljpcmbpaeaaaGreat
open Go.RowKit
set_option maxRecDepth 100000
set_option maxHeartbeats 16000000
abbrev yEW:=((List (List V))×(List (List V))×(List (List V))×Int×Int×Int×Int×Int×Int×Int×Int×Unit)×(List (List V))×Int×Int×Unit
abbrev yGv:=((List (List V))×(List (List V))×(List (List V))×Int×Int×Int×Int×Int×Int×Int×Int×Unit)×Unit
abbrev yDj{α:Type}(f1:yKe.T)(s:yEW)(kn:yEW->Option α)(k0:yGv->Option α):Option α:=
 letI qq:=s.1.2.2.2.1
 letI qp:=s.1.2.2.2.2.1
 letI qo:=s.1.1
 letI qn:=s.2.1
 letI ql:=s.1.2.2.2.2.2.1
 letI qj:=s.1.2.2.2.2.2.2.1
 letI qi:=s.1.2.2.2.2.2.2.2.1
 letI qh:=s.1.2.2.2.2.2.2.2.2.1
 letI qg:=s.1.2.2.2.2.2.2.2.2.2.1
 letI qf:=s.1.2.2.2.2.2.2.2.2.2.2.1
 letI qe:=s.2.2.2.1
 letI qd:=s.1.2.1
 letI qc:=(⟨aI qn qe.toNat 0,(⟨aI qn qe.toNat 1,aI qn qe.toNat 2⟩:yAN),aI qn qe.toNat 3⟩:yAR)
 letI qb:=s.1.2.2.1
 letI qm:=Nat.beq (0+qb.length) qb.length
 letI qk:=qb.length+1
 letI qa:= [[V.int .i64 (aI qn qe.toNat 0),V.int .i64 (aI qn qe.toNat 1),V.int .i64 (aI qn qe.toNat 2),V.int .i8 (aI qn qe.toNat 3)]]
 bif decide (qe<s.2.2.1) then
 gI qn yAR.ks qe<|
 gF qd (0+qd.length)<|
 yAB (f1 qc (qd.take qd.length)) fun r1=>
 bif r1 then
 gF qb (0+qb.length)<|
 yAB (f1 qc (qb.take qb.length)) fun r2=>
 bif r2 then
 gd (Nat.beq (0+qd.length) qd.length)<|
 gM (qd.length+1) 32<|
 gW qo qo.length<|
 gW (qd++qa) (qd.length+1)<|
 gW qb qb.length<|
 kn ((qo,qd++qa,qb,qq,qp,ql,qj,qi,qh,qg,qf,()),qn,s.2.2.1,w64 (qe+1),())
 else
 gd qm<|
 gM qk 32<|
 gW qo qo.length<|
 gW qd qd.length<|
 gW (qb++qa) qk<|
 kn ((qo,qd,qb++qa,qq,qp,ql,qj,qi,qh,qg,qf,()),qn,s.2.2.1,w64 (qe+1),())
 else
 gd qm<|
 gM qk 32<|
 gW qo qo.length<|
 gW qd qd.length<|
 gW (qb++qa) qk<|
 kn ((qo,qd,qb++qa,qq,qp,ql,qj,qi,qh,qg,qf,()),qn,s.2.2.1,w64 (qe+1),())
 else
 gW qo qo.length<|
 gW qd qd.length<|
 gW qb qb.length<|
 k0 ((qo,qd,qb,qq,qp,ql,qj,qi,qh,qg,qf,()),())
abbrev yEX:LW1 yEW yGv:=⟨(lvC 0 (mR (zW 2 (zW 4 (zW 4 (zP cI (zP cI (zP cI (zP cI (zP cI (zP cI (zP cI (zP cI zN))))))))))) 11) (lvC 15 (mP cdR) (lvC 16 (mP cI) (lvC 17 (mP cI) lvN)))),(.exit 0),(lvC 0 (mR (zW 2 (zW 4 (zW 4 (zP cI (zP cI (zP cI (zP cI (zP cI (zP cI (zP cI (zP cI zN))))))))))) 11) lvN)⟩
theorem yQf{α:Type}(f1):yEX.Eq (α:=α) [yKe.s f1] Tryz.f365 [1,1,1,0] .no (yDj f1):=fun _ _ _=>by kernel_rfl
abbrev yCL:=mw0 365 (zW 2 (zW 4 (zW 4 (zP cI (zP cI (zP cI (zP cI (zP cI (zP cI (zP cI (zP cI zN))))))))))) 11 caN (cdT caN)
abbrev yJi(F0:LF1 yEW yGv (Unit×((List (List V))×(List (List V))×(List (List V))×Int×Int×Int×Int×Int×Int×Int×Int×Unit)))(x0:(List (List V))×(List (List V))×(List (List V))×Int×Int×Int×Int×Int×Int×Int×Int×Unit):Option (Unit×((List (List V))×(List (List V))×(List (List V))×Int×Int×Int×Int×Int×Int×Int×Int×Unit)):=
 gW x0.1 x0.1.length<|
 gW x0.2.1 x0.2.1.length<|
 gF x0.2.2.1 (0+x0.2.2.1.length)<|
 F0 ((x0.1,x0.2.1,[],x0.2.2.2.1,x0.2.2.2.2.1,x0.2.2.2.2.2.1,x0.2.2.2.2.2.2.1,x0.2.2.2.2.2.2.2.1,x0.2.2.2.2.2.2.2.2.1,x0.2.2.2.2.2.2.2.2.2.1,x0.2.2.2.2.2.2.2.2.2.2.1,()),x0.2.2.1.take x0.2.2.1.length,(x0.2.2.1.length:Int),0,()) (fun q1=>
 gW q1.1.1 q1.1.1.length<|
 gW q1.1.2.1 q1.1.2.1.length<|
 gW q1.1.2.2.1 q1.1.2.2.1.length<|
 some ((()),(q1.1.1,q1.1.2.1,q1.1.2.2.1,q1.1.2.2.2.1,q1.1.2.2.2.2.1,q1.1.2.2.2.2.2.1,q1.1.2.2.2.2.2.2.1,q1.1.2.2.2.2.2.2.2.1,q1.1.2.2.2.2.2.2.2.2.1,q1.1.2.2.2.2.2.2.2.2.2.1,q1.1.2.2.2.2.2.2.2.2.2.2.1,())))
theorem yTF(F0):yCL.Eq [] (.two .no (.two .no (.two .no (.one (.lp (yEX.s F0)))))) (yJi F0):=fun _ _=>by kernel_rfl
def yDM(L:Nat):yCL.T:=yJi (yBL (yDj (yLQ L)) L)
theorem yPi{α:Type}(L:Nat):LO Tryz.f365 [1,1,1,0] (yEX.s (α:=α) (yBL (yDj (yLQ L)) L)):=yEX.k (yQf (yLQ L)) (tC (xDI L).ent tN) (lN _) (by kernel_rfl) L
theorem yNG(L:Nat):yCL.C (yDM L):=yCL.c (yTF (yBL (yDj (yLQ L)) L)) tN Tryz.func365 (by kernel_rfl) (lS (lN _) (lS (lN _) (lS (lN _) (lB (lL (yPi L))))))
abbrev yAw:=(List (List V))×((((((Int×Unit)×Unit)×Unit)×Unit)×Unit))×Int×Int×Unit
abbrev yBb:=Unit
abbrev yBc:=Int×Unit
abbrev yA7{α:Type}(s:yAw)(kn:yAw->Option α)(k0:yBb->Option α)(k1:yBc->Option α):Option α:=
 letI qa:=s.2.2.2.1
 bif decide (qa<s.2.2.1) then
 gI s.1 yAR.ks qa<|
 bif !((aI s.1 qa.toNat 0)==s.2.1.1.1.1.1.1) then
 kn (s.1,(((((s.2.1.1.1.1.1.1,()),()),()),()),()),s.2.2.1,w64 (qa+1),())
 else
 k1 (qa,())
 else
 k0 (())
abbrev yAx:LW2 yAw yBb yBc:=⟨(lvC 0 (mP cdR) (lvC 1 (mP (cdF 382 (caC (cdP (caC (cdL (xMX (cdF 379 (caC (cdP (caC cI caN)) caN)) xMY)) caN)) caN))) (lvC 7 (mP cI) (lvC 8 (mP cI) lvN)))),(.exit 0),lvN,.ret,(lvC 4 (mP cI) lvN)⟩
theorem yER{α:Type}:yAx.Eq (α:=α) [] Tryz.f366 [1,0,1,0] .no (yA7):=fun _ _ _=>by kernel_rfl
abbrev yAX:=fw2 366 (caC cdR (caC (cdF 382 (caC (cdP (caC (cdL (xMX (cdF 379 (caC (cdP (caC cI caN)) caN)) xMY)) caN)) caN)) caN)) cI
abbrev yBn(F0:LF2 yAw yBb yBc (Int))(x0:List (List V))(x1:((((Int×Unit)×Unit)×Unit)×Unit)×Unit):Option Int:=
 F0 (x0,(((((x1.1.1.1.1.1,()),()),()),()),()),(x0.length:Int),0,()) (fun q1=>
 some (-1)) (fun q2=>
 some q2.1)
theorem yFC(F0):yAX.Eq [] (.two .no (.two (.two .no (.one (.lp (yAx.s F0)))) .no)) (yBn F0):=fun _=>by kernel_rfl
def yAn(L:Nat):yAX.T:=yBn (yAe (yA7) L)
theorem yDt{α:Type}(L:Nat):LO Tryz.f366 [1,0,1,0] (yAx.s (α:=α) (yAe (yA7) L)):=yAx.k (yER) tN (lN _) (by kernel_rfl) L
theorem yFB(L:Nat):yAX.C (yAn L):=yAX.c (yFC (yAe (yA7) L)) tN Tryz.func366 (by kernel_rfl) (lS (lN _) (lS (lS (lN _) (lB (lL (yDt L)))) (lN _)))
set_option maxRecDepth 100000
set_option maxHeartbeats 16000000
abbrev yAs:=(List (List V))×((((((Int×Unit)×Unit)×Unit)×Unit)×Unit))×Int×Int×Unit
abbrev yBY:=(List (List V))×Int×Unit
abbrev yAV{α:Type}(s:yAs)(kn:yAs->Option α)(k0:yBY->Option α):Option α:=
 letI qf:=s.2.2.2.1
 letI qd:=Nat.beq s.1.length s.1.length
 letI qc:=0+qf.toNat
 letI qb:=0+s.2.2.1.toNat
 letI qe:=s.1.getD qb []
 letI qa:=qe.take 0++([V.int .i64 (aI s.1 qc 0),V.int .i64 (aI s.1 qc 1),V.int .i64 (aI s.1 qc 2),V.int .i8 (aI s.1 qc 3)]++qe.drop 4)
 bif decide (qf<(s.1.length:Int)) then
 gB qf s.1.length<|
 gL s.1 yAR.ks qc 0<|
 bif !((aI s.1 qc 0)==s.2.1.1.1.1.1.1) then
 gB s.2.2.1 s.1.length<|
 gd (decide (0+s.2.2.1.toNat<s.1.length))<|
 gd (Nat.ble 0 qb)<|
 gd (Nat.ble 4 qe.length)<|
 gd (Nat.beq s.1.length ((s.1.set qb qa).length))<|
 gd (yCR (s.1.set qb qa))<|
 kn (s.1.set qb qa,(((((s.2.1.1.1.1.1.1,()),()),()),()),()),w64 (s.2.2.1+1),w64 (qf+1),())
 else
 gd qd<|
 gd (yCR s.1)<|
 kn (s.1,(((((s.2.1.1.1.1.1.1,()),()),()),()),()),s.2.2.1,w64 (qf+1),())
 else
 gd qd<|
 gd (yCR s.1)<|
 k0 (s.1,s.2.2.1,())
abbrev yAt:LW1 yAs yBY:=⟨(lvC 0 (mQ 4) (lvC 1 (mP (cdF 382 (caC (cdP (caC (cdL (xMX (cdF 379 (caC (cdP (caC cI caN)) caN)) xMY)) caN)) caN))) (lvC 5 (mP cI) (lvC 6 (mP cI) lvN)))),(.exit 0),(lvC 0 (mQ 4) (lvC 5 (mP cI) lvN))⟩
theorem yDs{α:Type}:yAt.Eq (α:=α) [] Tryz.f381 [1,1,1,0,1,0] .no (yAV):=fun _ _ _=>by kernel_rfl
abbrev yAW:=qw1 381 4 (caC (cdF 382 (caC (cdP (caC (cdL (xMX (cdF 379 (caC (cdP (caC cI caN)) caN)) xMY)) caN)) caN)) caN)
abbrev yBj(f1:yAX.T)(F0:LF1 yAs yBY (List (List V)))(x0:List (List V))(x1:((((Int×Unit)×Unit)×Unit)×Unit)×Unit):Option (List (List V)):=
 letI qc:=x0.take x0.length
 gF x0 (0+x0.length)<|
 yAB (f1 qc (((((x1.1.1.1.1.1,()),()),()),()),())) fun r1=>
 bif r1==(-1) then
 gd (Nat.ble x0.length x0.length)<|
 gd (yCR qc)<|
 some qc
 else
 gd (Nat.beq x0.length x0.length)<|
 gd (yCR x0)<|
 F0 (x0,(((((x1.1.1.1.1.1,()),()),()),()),()),r1,w64 (r1+1),()) (fun q2=>
 letI qd:=q2.2.1
 letI qb:=decide (qd<=(q2.1.length:Int))
 letI qa:=q2.1.take (0+qd.toNat)
 gd (decide (0<=qd))<|
 gd qb<|
 gd (Nat.ble 0 (0+qd.toNat))<|
 gd (decide (0<=qd))<|
 gd qb<|
 gd (Nat.ble qd.toNat (qa.length))<|
 gd (yCR (qa.take qd.toNat))<|
 some (qa.take qd.toNat))
theorem yEj(f1 F0):yAW.Eq [(366,spF 1 [(382,(yAX.s f1).2)])] (.two .no (.two .no (.two .no (.two (.two .no (.one (.lp (yAt.s F0)))) .no)))) (yBj f1 F0):=fun _ _=>by kernel_rfl
def yAl(L:Nat):yAW.T:=yBj (yAn L) (yBL (yAV) L)
theorem yDr{α:Type}(L:Nat):LO Tryz.f381 [1,1,1,0,1,0] (yAt.s (α:=α) (yBL (yAV) L)):=yAt.k (yDs) tN (lN _) (by kernel_rfl) L
theorem yEi(L:Nat):yAW.C (yAl L):=yAW.c (yEj (yAn L) (yBL (yAV) L)) (tC (yNE (yGT (yFB L).ent yJd)) tN) Tryz.func381 (by kernel_rfl) (lS (lN _) (lS (lN _) (lS (lN _) (lS (lS (lN _) (lB (lL (yDr L)))) (lN _)))))
abbrev yDH:=mw1 361 (zW 2 (zW 4 (zW 4 (zP cI (zP cI (zP cI (zP cI (zP cI (zP cI (zP cI (zP cI zN))))))))))) 11 (caC cI caN) (cdT caN)
abbrev yJh(f1:yAW.T)(f2:yCL.T)(x0:(List (List V))×(List (List V))×(List (List V))×Int×Int×Int×Int×Int×Int×Int×Int×Unit)(x1:Int):Option (Unit×((List (List V))×(List (List V))×(List (List V))×Int×Int×Int×Int×Int×Int×Int×Int×Unit)):=
 letI qa:=0+x1.toNat
 letI qc:=x0.1.getD qa []
 letI qb:=qc.take 0++([V.int .i64 0,V.int .i64 0]++qc.drop 2)
 gB x1 x0.1.length<|
 gL x0.1 kI qa 0<|
 gd (Nat.beq x0.2.1.length x0.2.1.length)<|
 gd (yCR x0.2.1)<|
 yAB (f1 x0.2.1 (((((aI x0.1 qa 0,()),()),()),()),())) fun r1=>
 gd (Nat.beq x0.2.2.1.length x0.2.2.1.length)<|
 gd (yCR x0.2.2.1)<|
 yAB (f1 x0.2.2.1 (((((aI x0.1 qa 0,()),()),()),()),())) fun r2=>
 gB x1 x0.1.length<|
 gd (decide (0+x1.toNat<x0.1.length))<|
 gd (Nat.ble 0 qa)<|
 gd (Nat.ble 2 qc.length)<|
 gW (x0.1.set qa qb) x0.1.length<|
 gW r1 r1.length<|
 gW r2 r2.length<|
 yAB (f2 (x0.1.set qa qb,r1,r2,x0.2.2.2.1,x0.2.2.2.2.1,x0.2.2.2.2.2.1,x0.2.2.2.2.2.2.1,x0.2.2.2.2.2.2.2.1,x0.2.2.2.2.2.2.2.2.1,x0.2.2.2.2.2.2.2.2.2.1,x0.2.2.2.2.2.2.2.2.2.2.1,())) fun r3=>
 gW r3.2.1 r3.2.1.length<|
 gW r3.2.2.1 r3.2.2.1.length<|
 gW r3.2.2.2.1 r3.2.2.2.1.length<|
 some ((()),(r3.2.1,r3.2.2.1,r3.2.2.2.1,r3.2.2.2.2.1,r3.2.2.2.2.2.1,r3.2.2.2.2.2.2.1,r3.2.2.2.2.2.2.2.1,r3.2.2.2.2.2.2.2.2.1,r3.2.2.2.2.2.2.2.2.2.1,r3.2.2.2.2.2.2.2.2.2.2.1,r3.2.2.2.2.2.2.2.2.2.2.2.1,()))
theorem yTE(f1 f2):yDH.Eq [yAW.s f1,yCL.s f2] .no (yJh f1 f2):=fun _ _=>by kernel_rfl
def yFy(L:Nat):yDH.T:=yJh (yAl L) (yDM L)
theorem yTD(L:Nat):yDH.C (yFy L):=yDH.c (yTE (yAl L) (yDM L)) (tC (yEi L).ent (tC (yNG L).ent tN)) Tryz.func361 (by kernel_rfl) (lN _)
abbrev yML:=fw2 374 (caC yDX (caC yYZ caN)) cdB
abbrev yTt(x0:yAQ)(x1:yAN):Option Bool:=
 bif !(decide (x1.Hi<x1.Lo)) then
 bif decide (0<=x1.Lo) then
 some (decide (x1.Hi<x0.Blocks))
 else
 some false
 else
 some false
theorem xFX:yML.Eq [] .no (yTt):=fun _=>by kernel_rfl
def yVC(L:Nat):yML.T:=yTt
theorem xFW(L:Nat):yML.C (yVC L):=yML.c (xFX) tN Tryz.func374 (by kernel_rfl) (lN _)
abbrev yKf:=fw2 363 (caC yDX (caC yYY caN)) cdB
abbrev ySH(f1:yML.T)(x0:yAQ)(x1:yAR):Option Bool:=
 bif decide (0<x1.Key) then
 yAB (f1 x0 x1.Span) fun r1=>
 bif r1 then
 bif x1.Mode==1 then
 some true
 else
 some (x1.Mode==2)
 else
 some false
 else
 some false
theorem xDL(f1):yKf.Eq [yML.s f1] .no (ySH f1):=fun _=>by kernel_rfl
def yQd(L:Nat):yKf.T:=ySH (yVC L)
theorem xDK(L:Nat):yKf.C (yQd L):=yKf.c (xDL (yVC L)) (tC (xFW L).ent tN) Tryz.func363 (by kernel_rfl) (lN _)
abbrev yGC:=fw2 377 (caC yYZ (caC yYZ caN)) cdB
abbrev yNk(f1:yCG.T)(x0:yAN)(x1:yAN):Option Bool:=
 yAB (f1 (⟨x0⟩:yAk) (⟨x1⟩:yAk)) fun r1=>
 some r1
theorem yXi(f1):yGC.Eq [yCG.s f1] .no (yNk f1):=fun _=>by kernel_rfl
def yGu(L:Nat):yGC.T:=yNk (yC4 L)
theorem yXh(L:Nat):yGC.C (yGu L):=yGC.c (yXi (yC4 L)) (tC (yMw L).ent tN) Tryz.func377 (by kernel_rfl) (lN _)
set_option maxRecDepth 100000
set_option maxHeartbeats 16000000
abbrev yAy:=(List (List V))×(((((Int×Unit)×yAN×Unit)×Unit)×Unit))×Int×Int×Unit
abbrev yBd:=Unit
abbrev yBe:=Int×Unit
abbrev yA8{α:Type}(f1:yGC.T)(s:yAy)(kn:yAy->Option α)(k0:yBd->Option α)(k1:yBe->Option α):Option α:=
 letI qa:=s.2.2.2.1
 bif decide (qa<s.2.2.1) then
 gI s.1 yAR.ks qa<|
 bif(aI s.1 qa.toNat 0) !=s.2.1.1.1.1.1 then
 kn (s.1,((((s.2.1.1.1.1.1,()),s.2.1.1.1.2.1,()),()),()),s.2.2.1,w64 (qa+1),())
 else
 yAB (f1 (⟨aI s.1 qa.toNat 1,aI s.1 qa.toNat 2⟩:yAN) s.2.1.1.1.2.1) fun r1=>
 bif !!r1 then
 k1 (qa,())
 else
 kn (s.1,((((s.2.1.1.1.1.1,()),s.2.1.1.1.2.1,()),()),()),s.2.2.1,w64 (qa+1),())
 else
 k0 (())
abbrev yAz:LW2 yAy yBd yBe:=⟨(lvC 0 (mP cdR) (lvC 1 (mP (cdF 387 (caC (cdP (caC (cdF 376 (caC (cdP (caC cI caN)) (caC (cdP yYV) caN))) caN)) caN))) (lvC 7 (mP cI) (lvC 8 (mP cI) lvN)))),(.exit 0),lvN,.ret,(lvC 4 (mP cI) lvN)⟩
theorem yES{α:Type}(f1):yAz.Eq (α:=α) [yGC.s f1] Tryz.f366 [1,0,1,0] .no (yA8 f1):=fun _ _ _=>by kernel_rfl
abbrev yAY:=fw2 366 (caC cdR (caC (cdF 387 (caC (cdP (caC (cdF 376 (caC (cdP (caC cI caN)) (caC (cdP yYV) caN))) caN)) caN)) caN)) cI
abbrev yBo(F0:LF2 yAy yBd yBe (Int))(x0:List (List V))(x1:(((Int×Unit)×yAN×Unit)×Unit)×Unit):Option Int:=
 F0 (x0,((((x1.1.1.1.1,()),x1.1.1.2.1,()),()),()),(x0.length:Int),0,()) (fun q1=>
 some (-1)) (fun q2=>
 some q2.1)
theorem yFE(F0):yAY.Eq [] (.two .no (.two (.two .no (.one (.lp (yAz.s F0)))) .no)) (yBo F0):=fun _=>by kernel_rfl
def yAo(L:Nat):yAY.T:=yBo (yAe (yA8 (yGu L)) L)
theorem yDu{α:Type}(L:Nat):LO Tryz.f366 [1,0,1,0] (yAz.s (α:=α) (yAe (yA8 (yGu L)) L)):=yAz.k (yES (yGu L)) (tC (yXh L).ent tN) (lN _) (by kernel_rfl) L
theorem yFD(L:Nat):yAY.C (yAo L):=yAY.c (yFE (yAe (yA8 (yGu L)) L)) tN Tryz.func366 (by kernel_rfl) (lS (lN _) (lS (lS (lN _) (lB (lL (yDu L)))) (lN _)))
abbrev yAS:=fw2 386 (caC cdR (caC (cdF 387 (caC (cdP (caC (cdF 376 (caC (cdP (caC cI caN)) (caC (cdP yYV) caN))) caN)) caN)) caN)) cdB
abbrev yBZ(f1:yAY.T)(x0:List (List V))(x1:(((Int×Unit)×yAN×Unit)×Unit)×Unit):Option Bool:=
 yAB (f1 x0 ((((x1.1.1.1.1,()),x1.1.1.2.1,()),()),())) fun r1=>
 some (decide (0<=r1))
theorem yEO(f1):yAS.Eq [(366,spF 1 [(387,(yAY.s f1).2)])] .no (yBZ f1):=fun _=>by kernel_rfl
def yA5(L:Nat):yAS.T:=yBZ (yAo L)
theorem yEN(L:Nat):yAS.C (yA5 L):=yAS.c (yEO (yAo L)) (tC (yNE (yGT (yFD L).ent yJd)) tN) Tryz.func386 (by kernel_rfl) (lN _)
abbrev yDc:=fw2 375 (caC (cdF 376 (caC (cdP (caC cI caN)) (caC (cdP yYV) caN))) (caC cdR caN)) cdB
abbrev yKh(f1:yAS.T)(x0:(Int×Unit)×yAN×Unit)(x1:List (List V)):Option Bool:=
 yAB (f1 x1 ((((x0.1.1,()),x0.2.1,()),()),())) fun r1=>
 some !r1
theorem yTx(f1):yDc.Eq [(386,spF 1 [(387,(yAS.s f1).2)])] .no (yKh f1):=fun _=>by kernel_rfl
def yJf(L:Nat):yDc.T:=yKh (yA5 L)
theorem yTw(L:Nat):yDc.C (yJf L):=yDc.c (yTx (yA5 L)) (tC (yNE (yGT (yEN L).ent yJd)) tN) Tryz.func375 (by kernel_rfl) (lN _)
abbrev yGD:=fw3 364 (caC cdR (caC cI (caC yYZ caN))) cdB
abbrev yNl(f1:yDc.T)(x0:List (List V))(x1:Int)(x2:yAN):Option Bool:=
 yAB (f1 ((x1,()),x2,()) x0) fun r1=>
 some !r1
theorem yXk(f1):yGD.Eq [(375,spF 0 [(376,(yDc.s f1).2)])] .no (yNl f1):=fun _=>by kernel_rfl
def yLR(L:Nat):yGD.T:=yNl (yJf L)
theorem yXj(L:Nat):yGD.C (yLR L):=yGD.c (yXk (yJf L)) (tC (yNE (yGT (yTw L).ent yJd)) tN) Tryz.func364 (by kernel_rfl) (lN _)
set_option maxRecDepth 100000
set_option maxHeartbeats 16000000
abbrev yFp:=((List (List V))×(List (List V))×(List (List V))×Int×Int×Int×Int×Int×Int×Int×Int×Unit)×yAG×Bool×yAR×(List (List V))×Int×(List (List V))×Int×Int×Unit
abbrev yIR:=((List (List V))×(List (List V))×(List (List V))×Int×Int×Int×Int×Int×Int×Int×Int×Unit)×yAG×Bool×yAR×(List (List V))×Int×Unit
abbrev yFL{α:Type}(s:yFp)(kn:yFp->Option α)(k0:yIR->Option α):Option α:=
 letI qj:=s.1.2.2.2.2.2.2.1
 letI qi:=s.2.2.2.2.2.2.2.1
 letI qh:=s.1.2.2.2.2.2.2.2.1
 letI qg:=s.1.2.2.2.2.2.2.2.2.1
 letI qf:=s.2.2.2.2.2.2.1
 letI qe:=s.1.2.1
 letI qd:=s.1.2.2.2.2.2.2.2.2.2.1
 letI qc:=s.1.2.2.2.2.2.2.2.2.2.2.1
 letI qb:=s.1.2.2.1
 letI qa:=s.2.2.2.2.2.2.2.2.1
 bif decide (qa<qi) then
 gI qf yAR.ks qa<|
 bif(aI qf qa.toNat 0)==s.2.1.By then
 gW s.1.1 s.1.1.length<|
 gW qe qe.length<|
 gW qb qb.length<|
 kn ((s.1.1,qe,qb,s.1.2.2.2.1,s.1.2.2.2.2.1,s.1.2.2.2.2.2.1,qj,qh,qg,qd,qc,()),s.2.1,s.2.2.1,s.2.2.2.1,s.2.2.2.2.1,w64 (s.2.2.2.2.2.1+1),qf,qi,w64 (qa+1),())
 else
 gW s.1.1 s.1.1.length<|
 gW qe qe.length<|
 gW qb qb.length<|
 kn ((s.1.1,qe,qb,s.1.2.2.2.1,s.1.2.2.2.2.1,s.1.2.2.2.2.2.1,qj,qh,qg,qd,qc,()),s.2.1,s.2.2.1,s.2.2.2.1,s.2.2.2.2.1,s.2.2.2.2.2.1,qf,qi,w64 (qa+1),())
 else
 gW s.1.1 s.1.1.length<|
 gW qe qe.length<|
 gW qb qb.length<|
 k0 ((s.1.1,qe,qb,s.1.2.2.2.1,s.1.2.2.2.2.1,s.1.2.2.2.2.2.1,qj,qh,qg,qd,qc,()),s.2.1,s.2.2.1,s.2.2.2.1,s.2.2.2.2.1,s.2.2.2.2.2.1,())
abbrev yFq:LW1 yFp yIR:=⟨(lvC 0 (mR (zW 2 (zW 4 (zW 4 (zP cI (zP cI (zP cI (zP cI (zP cI (zP cI (zP cI (zP cI zN))))))))))) 11) (lvC 3 yP7 (lvC 5 (mP cdB) (lvC 6 xGx (lvC 7 (mP cdR) (lvC 8 (mP cI) (lvC 37 (mP cdR) (lvC 38 (mP cI) (lvC 39 (mP cI) lvN))))))))),(.exit 0),(lvC 0 (mR (zW 2 (zW 4 (zW 4 (zP cI (zP cI (zP cI (zP cI (zP cI (zP cI (zP cI (zP cI zN))))))))))) 11) (lvC 3 yP7 (lvC 5 (mP cdB) (lvC 6 xGx (lvC 7 (mP cdR) (lvC 8 (mP cI) lvN))))))⟩
theorem ySK{α:Type}:yFq.Eq (α:=α) [] Tryz.f352 [1,1,1,1,1,0,1,0] .no (yFL):=fun _ _ _=>by kernel_rfl
abbrev yD5:=mw1 352 (zW 2 (zW 4 (zW 4 (zP cI (zP cI (zP cI (zP cI (zP cI (zP cI (zP cI (zP cI zN))))))))))) 11 (caC yNr caN) (cdT caN)
abbrev yLq(f1:yCb.T)(f3:yKf.T)(f4:yGD.T)(f5:yCL.T)(F0:LF1 yFp yIR (Unit×((List (List V))×(List (List V))×(List (List V))×Int×Int×Int×Int×Int×Int×Int×Int×Unit)))(x0:(List (List V))×(List (List V))×(List (List V))×Int×Int×Int×Int×Int×Int×Int×Int×Unit)(x1:yAG):Option (Unit×((List (List V))×(List (List V))×(List (List V))×Int×Int×Int×Int×Int×Int×Int×Int×Unit)):=
 letI qr:=x0.2.1
 letI qn:=x0.2.2.1
 letI qf:=(w64 (0+(qr.length:Int)))+(qn.length:Int)
 letI qc:=qn.take qn.length
 letI qb:=qr.take qr.length
 letI qs:=0+(qb.length)
 letI qa:=qs+(qc.length)
 gF x0.1 (0+x0.1.length)<|
 gF qr (0+qr.length)<|
 gF qn (0+qn.length)<|
 yAB (f1 (⟨(⟨x0.1.take x0.1.length,qr.take qr.length,qn.take qn.length⟩:yAM),(⟨x0.2.2.2.1,x0.2.2.2.2.1,x0.2.2.2.2.2.1,x0.2.2.2.2.2.2.1,x0.2.2.2.2.2.2.2.1,x0.2.2.2.2.2.2.2.2.1,x0.2.2.2.2.2.2.2.2.2.1,x0.2.2.2.2.2.2.2.2.2.2.1⟩:yAQ)⟩:yBT) x1.By) fun r1=>
 bif decide (w64 (0+(qr.length:Int))<0) then none else
 bif decide (w64 qf<0) then none else
 gd (decide (0<=w64 qf))<|
 gd (decide (w64 qf<=1000000))<|
 gd (Nat.ble (0+qr.length) qr.length)<|
 gd (qb.all fun r=>Nat.beq r.length 4)<|
 gM qs 32<|
 gd (Nat.ble (0+qn.length) qn.length)<|
 gd (qc.all fun r=>Nat.beq r.length 4)<|
 gd (Nat.beq (0+qs) (qb.length))<|
 gM qa 32<|
 gW x0.1 x0.1.length<|
 gW qr qr.length<|
 gW qn qn.length<|
 gF (qb++qc) (0+qa)<|
 gF (qb++qc) (0+qa)<|
 F0 ((x0.1,qr,qn,x0.2.2.2.1,x0.2.2.2.2.1,x0.2.2.2.2.2.1,x0.2.2.2.2.2.2.1,x0.2.2.2.2.2.2.2.1,x0.2.2.2.2.2.2.2.2.1,x0.2.2.2.2.2.2.2.2.2.1,x0.2.2.2.2.2.2.2.2.2.2.1,()),x1,r1.2.1,(⟨x1.By,x1.Span,x1.Mode⟩:yAR),(qb++qc).take qa,0,(qb++qc).take qa,(qs+(qc.length):Int),0,()) (fun q2=>
 letI qt:=q2.2.2.2.1
 letI qq:=q2.1.2.2.2.1
 letI qp:=q2.1.1
 letI qo:=q2.1.2.2.2.2.1
 letI qm:=q2.1.2.2.2.2.2.1
 letI ql:=q2.1.2.2.2.2.2.2.1
 letI qk:=q2.1.2.1
 letI qj:=q2.1.2.2.2.2.2.2.2.1
 letI qi:=q2.1.2.2.2.2.2.2.2.2.1
 letI qh:=q2.1.2.2.2.2.2.2.2.2.2.1
 letI qg:= [[V.int .i64 qt.Key,V.int .i64 qt.Span.Lo,V.int .i64 qt.Span.Hi,V.int .i8 qt.Mode]]
 letI qe:=q2.1.2.2.2.2.2.2.2.2.2.2.1
 letI qd:=q2.1.2.2.1
 bif q2.2.2.1 then
 yAB (f3 (⟨qq,qo,qm,ql,qj,qi,qh,qe⟩:yAQ) qt) fun r3=>
 bif r3 then
 yAB (f4 q2.2.2.2.2.1 q2.2.1.By q2.2.1.Span) fun r4=>
 bif !r4 then
 bif decide (q2.2.2.2.2.2.1<64) then
 gd (Nat.beq (0+qd.length) qd.length)<|
 gM (qd.length+1) 32<|
 gW qp qp.length<|
 gW qk qk.length<|
 gW (qd++qg) (qd.length+1)<|
 yAB (f5 (qp,qk,qd++qg,qq,qo,qm,ql,qj,qi,qh,qe,())) fun r5=>
 gW r5.2.1 r5.2.1.length<|
 gW r5.2.2.1 r5.2.2.1.length<|
 gW r5.2.2.2.1 r5.2.2.2.1.length<|
 some ((()),(r5.2.1,r5.2.2.1,r5.2.2.2.1,r5.2.2.2.2.1,r5.2.2.2.2.2.1,r5.2.2.2.2.2.2.1,r5.2.2.2.2.2.2.2.1,r5.2.2.2.2.2.2.2.2.1,r5.2.2.2.2.2.2.2.2.2.1,r5.2.2.2.2.2.2.2.2.2.2.1,r5.2.2.2.2.2.2.2.2.2.2.2.1,()))
 else
 gW qp qp.length<|
 gW qk qk.length<|
 gW qd qd.length<|
 some ((()),(qp,qk,qd,qq,qo,qm,ql,qj,qi,qh,qe,()))
 else
 gW qp qp.length<|
 gW qk qk.length<|
 gW qd qd.length<|
 some ((()),(qp,qk,qd,qq,qo,qm,ql,qj,qi,qh,qe,()))
 else
 gW qp qp.length<|
 gW qk qk.length<|
 gW qd qd.length<|
 some ((()),(qp,qk,qd,qq,qo,qm,ql,qj,qi,qh,qe,()))
 else
 gW qp qp.length<|
 gW qk qk.length<|
 gW qd qd.length<|
 some ((()),(qp,qk,qd,qq,qo,qm,ql,qj,qi,qh,qe,())))
theorem yUv(f1 f3 f4 f5 F0):yD5.Eq [yCb.s f1,sGr 373 4,yKf.s f3,yGD.s f4,yCL.s f5] (.two .no (.two .no (.two .no (.two .no (.two .no (.two (.two .no (.one (.lp (yFq.s F0)))) .no)))))) (yLq f1 f3 f4 f5 F0):=fun _ _=>by kernel_rfl
def yHq(L:Nat):yD5.T:=yLq (yDk L) (yQd L) (yLR L) (yDM L) (yBL (yFL) L)
theorem yRJ{α:Type}(L:Nat):LO Tryz.f352 [1,1,1,1,1,0,1,0] (yFq.s (α:=α) (yBL (yFL) L)):=yFq.k (ySK) tN (lN _) (by kernel_rfl) L
theorem yUu(L:Nat):yD5.C (yHq L):=yD5.c (yUv (yDk L) (yQd L) (yLR L) (yDM L) (yBL (yFL) L)) (tC (yOM L).ent (tC ySF (tC (xDK L).ent (tC (yXj L).ent (tC (yNG L).ent tN))))) Tryz.func352 (by kernel_rfl) (lS (lN _) (lS (lN _) (lS (lN _) (lS (lN _) (lS (lN _) (lS (lS (lN _) (lB (lL (yRJ L)))) (lN _)))))))
set_option maxRecDepth 100000
set_option maxHeartbeats 16000000
abbrev yEV:=fw3 298 (caC yDX (caC yKl (caC yNr caN))) yKl
abbrev yPQ(f1:yMu.T)(f2:yMt.T)(f3:yCb.T)(f4:yAh.T)(f5:yDH.T)(f6:yD5.T)(x0:yAQ)(x1:yAM)(x2:yAG):Option yAM:=
 bif decide (x2.Kind<0) then
 some x1
 else
 bif decide (6<=w64 x2.Kind) then
 some x1
 else
 yAB (f1 x1.Slots) fun r1=>
 letI qc:=0+r1.length
 yAB (f2 x1.Holds) fun r2=>
 letI qd:=0+r2.length
 yAB (f2 x1.Queue) fun r3=>
 letI qe:=0+r3.length
 letI qa:=(⟨r1.take r1.length,r2.take r2.length,r3.take r3.length⟩:yAM)
 letI qg:=f3 (⟨qa,x0⟩:yBT) x2.By
 bif decide (x2.Kind=0) then
 gF r1 qc<|
 gF r2 qd<|
 gF r3 qe<|
 yAB qg fun r4=>
 gF r1 qc<|
 yAB (f4 (r1.take r1.length) (())) fun r5=>
 letI qf:=r1.getD (0+r5.toNat) []
 letI qb:=r1.set (0+r5.toNat) (qf.take 0++([V.int .i64 x2.By]++qf.drop 1))
 bif !r4.2.1 then
 bif decide (0<=r5) then
 gB r5 r1.length<|
 gd (decide (0+r5.toNat<r1.length))<|
 gd (Nat.ble 0 (0+r5.toNat))<|
 gd (Nat.ble 1 qf.length)<|
 gF qb qc<|
 gF r2 qd<|
 gF r3 qe<|
 some (⟨qb.take r1.length,r2.take r2.length,r3.take r3.length⟩:yAM)
 else
 gF r1 qc<|
 gF r2 qd<|
 gF r3 qe<|
 some qa
 else
 gF r1 qc<|
 gF r2 qd<|
 gF r3 qe<|
 some qa
 else
 bif decide (x2.Kind=1) then
 gF r1 qc<|
 gF r2 qd<|
 gF r3 qe<|
 yAB qg fun r6=>
 bif r6.2.1 then
 gW r1 r1.length<|
 gW r2 r2.length<|
 gW r3 r3.length<|
 yAB (f5 (r1,r2,r3,x0.Nodes,x0.Slots,x0.Blocks,x0.Per,x0.Journal,x0.Log,x0.Lease,x0.Wait,()) r6.1) fun r7=>
 gF r7.2.1 (0+r7.2.1.length)<|
 gF r7.2.2.1 (0+r7.2.2.1.length)<|
 gF r7.2.2.2.1 (0+r7.2.2.2.1.length)<|
 some (⟨r7.2.1.take r7.2.1.length,r7.2.2.1.take r7.2.2.1.length,r7.2.2.2.1.take r7.2.2.2.1.length⟩:yAM)
 else
 gF r1 qc<|
 gF r2 qd<|
 gF r3 qe<|
 some qa
 else
 bif decide (x2.Kind=2) then
 gW r1 r1.length<|
 gW r2 r2.length<|
 gW r3 r3.length<|
 yAB (f6 (r1,r2,r3,x0.Nodes,x0.Slots,x0.Blocks,x0.Per,x0.Journal,x0.Log,x0.Lease,x0.Wait,()) x2) fun r8=>
 gF r8.2.1 (0+r8.2.1.length)<|
 gF r8.2.2.1 (0+r8.2.2.1.length)<|
 gF r8.2.2.2.1 (0+r8.2.2.2.1.length)<|
 some (⟨r8.2.1.take r8.2.1.length,r8.2.2.1.take r8.2.2.1.length,r8.2.2.2.1.take r8.2.2.2.1.length⟩:yAM)
 else
 bif decide (x2.Kind=3) then none else
 bif decide (x2.Kind=4) then none else
 gd (decide (x2.Kind=5))<|
 none
theorem yZf(f1 f2 f3 f4 f5 f6):yEV.Eq [yMu.s f1,yMt.s f2,yCb.s f3,(260,spF 1 [(360,(yAh.s f4).2)]),yDH.s f5,yD5.s f6,sZ 353,sZ 354,sZ 355] .no (yPQ f1 f2 f3 f4 f5 f6):=fun _=>by kernel_rfl
def yCo(L:Nat):yEV.T:=yPQ (yHT L) (yHS L) (yDk L) (yA4 L) (yFy L) (yHq L)
theorem yTC(L:Nat):yEV.C (yCo L):=yEV.c (yZf (yHT L) (yHS L) (yDk L) (yA4 L) (yFy L) (yHq L)) (tC (ySE L).ent (tC (ySD L).ent (tC (yOM L).ent (tC (yNE (yGT (yGM L).ent yJd)) (tC (yTD L).ent (tC (yUu L).ent (tC yZe (tC yZe (tC yZe tN))))))))) Tryz.func298 (by kernel_rfl) (lN _)
abbrev yIc:=fw4 196 (caC yDX (caC yKl (caC cI (caC cdS caN)))) (cdT (caC yKl (caC cI (caC yNr (caC cdB (caC cI caN))))))
abbrev yM5(f1:yF5.T)(f2:yEV.T)(x0:yAQ)(x1:yAM)(x2:Int)(x3:ByteArray):Option (yAM×Int×yAG×Bool×Int×Unit):=
 yAB (f1 x3) fun r1=>
 bif r1.2.2.2.1==0 then
 bif r1.2.2.1 then
 yAB (f2 x0 x1 r1.1) fun r2=>
 some (r2,w64 (x2+1),r1.1,true,r1.2.2.2.1,())
 else
 some (x1,x2,r1.1,false,r1.2.2.2.1,())
 else
 some (x1,x2,r1.1,false,r1.2.2.2.1,())
theorem xAi(f1 f2):yIc.Eq [yF5.s f1,yEV.s f2] .no (yM5 f1 f2):=fun _=>by kernel_rfl
def yJ6(L:Nat):yIc.T:=yM5 (yGd L) (yCo L)
theorem xAh(L:Nat):yIc.C (yJ6 L):=yIc.c (xAi (yGd L) (yCo L)) (tC (yW1 L).ent (tC (yTC L).ent tN)) Tryz.func196 (by kernel_rfl) (lN _)
abbrev yE3:=fw1 287 (caC (cdP yGZ) caN) (cdT (caC yNr (caC cdB caN)))
abbrev yMe(f1:yBq.T)(x0:yAP):Option (yAG×Bool×Unit):=
 yAB (f1 x0.Prop_.Cmd) fun r1=>
 some (r1.1,r1.2.1==0,())
theorem yV4(f1):yE3.Eq [yBq.s f1] .no (yMe f1):=fun _=>by kernel_rfl
def yJF(L:Nat):yE3.T:=yMe (yBB L)
theorem yV3(L:Nat):yE3.C (yJF L):=yE3.c (yV4 (yBB L)) (tC (yHj L).ent tN) Tryz.func287 (by kernel_rfl) (lN _)
abbrev yF4:=fw3 324 (caC yNr (caC cI (caC cI caN))) cdB
abbrev yNM(x0:yAG)(x1:Int)(x2:Int):Option Bool:=
 bif x0.By==x1 then
 some (x0.Serial==x2)
 else
 some false
theorem yWz:yF4.Eq [] .no (yNM):=fun _=>by kernel_rfl
def yLL(L:Nat):yF4.T:=yNM
theorem yWy(L:Nat):yF4.C (yLL L):=yF4.c (yWz) tN Tryz.func324 (by kernel_rfl) (lN _)
abbrev yMG:=fw1 288 (caC yDX caN) cI
abbrev yTS(f1:yFu.T)(x0:yAQ):Option Int:=
 yAB (f1 x0) fun r1=>
 bif !r1 then
 some 0
 else
 some (w64 (4*x0.Slots))
theorem xE1(f1):yMG.Eq [yFu.s f1] .no (yTS f1):=fun _=>by kernel_rfl
def yQn(L:Nat):yMG.T:=yTS (yJ0 L)
theorem xE0(L:Nat):yMG.C (yQn L):=yMG.c (xE1 (yJ0 L)) (tC (ySc L).ent tN) Tryz.func288 (by kernel_rfl) (lN _)
abbrev yC6:=fw1 244 (caC cI caN) yNq
abbrev yL1(x0:Int):Option yBN:=
 bif decide (x0<0) then
 some yBN.z
 else
 some (⟨1,x0,noS,0⟩:yBN)
theorem yY3:yC6.Eq [] .no (yL1):=fun _=>by kernel_rfl
def yFh(L:Nat):yC6.T:=yL1
theorem yOn(L:Nat):yC6.C (yFh L):=yC6.c (yY3) tN Tryz.func244 (by kernel_rfl) (lN _)
abbrev yDJ:=fw2 245 (caC yDX (caC cI caN)) cI
abbrev yRj(f1:yM4.T)(x0:yAQ)(x1:Int):Option Int:=
 yAB (f1 x0 3 x1 0) fun r1=>
 some r1
theorem xCL(f1):yDJ.Eq [yM4.s f1] .no (yRj f1):=fun _=>by kernel_rfl
def yED(L:Nat):yDJ.T:=yRj (ySd L)
theorem yOd(L:Nat):yDJ.C (yED L):=yDJ.c (xCL (ySd L)) (tC (xDn L).ent tN) Tryz.func245 (by kernel_rfl) (lN _)
abbrev yD0:=fw1 243 (caC (cdP yGZ) caN) yNq
abbrev yLa(f1:yDJ.T)(f2:yC6.T)(x0:yAP):Option yBN:=
 yAB (f1 x0.g_ x0.Prop_.Node) fun r1=>
 yAB (f2 r1) fun r2=>
 some r2
theorem yUX(f1 f2):yD0.Eq [yDJ.s f1,yC6.s f2] .no (yLa f1 f2):=fun _=>by kernel_rfl
def yKv(L:Nat):yD0.T:=yLa (yED L) (yFh L)
theorem yUW(L:Nat):yD0.C (yKv L):=yD0.c (yUX (yED L) (yFh L)) (tC (yOd L).ent (tC (yOn L).ent tN)) Tryz.func243 (by kernel_rfl) (lN _)
abbrev yFw:=(List (List V))×ByteArray×Int×(List (List V))×Int×Int×Unit
abbrev yH6:=(List (List V))×ByteArray×Int×Unit
abbrev yLm:=(List (List V))×ByteArray×Int×Unit
abbrev yCH{α:Type}(f1:yEH.T)(s:yFw)(kn:yFw->Option α)(k0:yH6->Option α)(k1:yLm->Option α):Option α:=
 letI qb:=s.2.2.2.1
 letI qa:=s.2.2.2.2.2.1
 bif decide (qa<s.2.2.2.2.1) then
 gI qb kI qa<|
 bif s.2.2.1 !=0 then
 gW s.1 s.1.length<|
 k0 (s.1,s.2.1,s.2.2.1,())
 else
 yAB (f1 s.2.1 0 (aI qb qa.toNat 0)) fun r1=>
 bif r1.2.1 !=0 then
 k1 ([],noS,30,())
 else
 gd (Nat.beq (0+s.1.length) s.1.length)<|
 gM (s.1.length+1) 8<|
 gd (decide (0<=aI qb qa.toNat 0))<|
 gd (decide (aI qb qa.toNat 0<=(s.2.1.size:Int)))<|
 gW (s.1++([[V.int .i64 r1.1]])) (s.1.length+1)<|
 kn (s.1++([[V.int .i64 r1.1]]),s.2.1.extract ((aI qb qa.toNat 0).toNat) s.2.1.size,s.2.2.1,qb,s.2.2.2.2.1,w64 (qa+1),())
 else
 gW s.1 s.1.length<|
 k0 (s.1,s.2.1,s.2.2.1,())
abbrev yH7:LW2 yFw yH6 yLm:=⟨(lvC 6 (mW 1) (lvC 7 (mP cdS) (lvC 8 (mP cI) (lvC 19 (mP cdR) (lvC 20 (mP cI) (lvC 21 (mP cI) lvN)))))),(.exit 0),(lvC 6 (mW 1) (lvC 7 (mP cdS) (lvC 8 (mP cI) lvN))),.ret,(lvC 6 (mW 1) (lvC 7 (mP cdS) (lvC 8 (mP cI) lvN)))⟩
theorem yUp{α:Type}(f1):yH7.Eq (α:=α) [yEH.s f1] Tryz.f254 [1,1,0,1,0] .no (yCH f1):=fun _ _ _=>by kernel_rfl
abbrev yHQ:=rw3 254 .t (caC (cdI .i8) (caC cdS (caC cdR caN))) (zW 1 (zP cdS (zP cI zN)))
abbrev yPN(f1:yLP.T)(F0:LF2 yFw yH6 yLm ((List (List V))×ByteArray×Int×Unit))(x0:Int)(x1:ByteArray)(x2:List (List V)):Option ((List (List V))×ByteArray×Int×Unit):=
 yAB (f1 x0 x1) fun r1=>
 F0 ([],r1.1,r1.2.1,x2,(x2.length:Int),0,()) (fun q2=>
 bif q2.2.2.1 !=0 then
 some ([],noS,q2.2.2.1,())
 else
 gW q2.1 q2.1.length<|
 some (q2.1,q2.2.1,0,())) (fun q3=>
 gW q3.1 q3.1.length<|
 some (q3.1,q3.2.1,q3.2.2.1,()))
theorem yZZ(f1 F0):yHQ.Eq [yLP.s f1] (.two .no (.two .no (.two (.two .no (.one (.lp (yH7.s F0)))) .no))) (yPN f1 F0):=fun _=>by kernel_rfl
def yKX(L:Nat):yHQ.T:=yPN (yQb L) (yAe (yCH (yCQ L)) L)
theorem yTq{α:Type}(L:Nat):LO Tryz.f254 [1,1,0,1,0] (yH7.s (α:=α) (yAe (yCH (yCQ L)) L)):=yH7.k (yUp (yCQ L)) (tC (yQB L).ent tN) (lN _) (by kernel_rfl) L
theorem yZY(L:Nat):yHQ.C (yKX L):=yHQ.c (yZZ (yQb L) (yAe (yCH (yCQ L)) L)) (tC (xBZ L).ent tN) Tryz.func254 (by kernel_rfl) (lS (lN _) (lS (lN _) (lS (lS (lN _) (lB (lL (yTq L)))) (lN _))))
set_option maxRecDepth 100000
set_option maxHeartbeats 16000000
abbrev yCM:=fw1 326 (caC (cdP yLW) caN) cdR
abbrev yGE(x0:yAd):Option (List (List V)):=
 some ([[V.int .i64 2],[V.int .i64 6],[V.int .i64 6]])
theorem yPY:yCM.Eq [] .no (yGE):=fun _=>by kernel_rfl
def yEk(L:Nat):yCM.T:=yGE
theorem yPX(L:Nat):yCM.C (yEk L):=yCM.c (yPY) tN Tryz.func326 (by kernel_rfl) (lN _)
abbrev yCv:=fw3 329 (caC cI (caC cI (caC cI caN))) cdB
abbrev yLV(x0:Int)(x1:Int)(x2:Int):Option Bool:=
 bif decide (x1<=x0) then
 some (decide (x0<=x2))
 else
 some false
theorem yUJ:yCv.Eq [] .no (yLV):=fun _=>by kernel_rfl
def yEc(L:Nat):yCv.T:=yLV
theorem yPT(L:Nat):yCv.C (yEc L):=yCv.c (yUJ) tN Tryz.func329 (by kernel_rfl) (lN _)
abbrev yCD:=fw1 327 (caC (cdP yLW) caN) cdB
abbrev yH8(f1:yCv.T)(x0:yAd):Option Bool:=
 yAB (f1 x0.Rec.Inst 0 512) fun r1=>
 bif r1 then
 yAB (f1 x0.Rec.Mbal 0 1099511627776) fun r2=>
 bif r2 then
 yAB (f1 x0.Rec.Bal 0 x0.Rec.Mbal) fun r3=>
 bif r3 then
 bif decide ((x0.Rec.Val.size:Int)<=64) then
 some ((x0.Rec.Bal==0)==(x0.Rec.Val.toList==noS.toList))
 else
 some false
 else
 some false
 else
 some false
 else
 some false
theorem yRY(f1):yCD.Eq [yCv.s f1] .no (yH8 f1):=fun _=>by kernel_rfl
def yCX(L:Nat):yCD.T:=yH8 (yEc L)
theorem yMM(L:Nat):yCD.C (yCX L):=yCD.c (yRY (yEc L)) (tC (yPT L).ent tN) Tryz.func327 (by kernel_rfl) (lN _)
abbrev yGx:=fw1 289 (caC cdS caN) (cdT (caC xAA (caC cI caN)))
abbrev yOQ(f1:yHQ.T)(f2:yCD.T)(x0:ByteArray):Option (yBI×Int×Unit):=
 bif x0.toList==noS.toList then
 some (yBI.z,0,())
 else
 yAB (f1 4 x0 ([[V.int .i64 2],[V.int .i64 6],[V.int .i64 6]])) fun r1=>
 letI qa:=(⟨aI r1.1 0 0,aI r1.1 1 0,aI r1.1 2 0,r1.2.1⟩:yBI)
 bif r1.2.2.1 !=0 then
 some (yBI.z,50,())
 else
 gd (decide (0<(r1.1.length:Int)))<|
 gL r1.1 kI 0 0<|
 gd (decide (1<(r1.1.length:Int)))<|
 gL r1.1 kI 1 0<|
 gd (decide (2<(r1.1.length:Int)))<|
 gL r1.1 kI 2 0<|
 yAB (f2 (⟨qa⟩:yAd)) fun r2=>
 bif !r2 then
 some (yBI.z,50,())
 else
 some (qa,0,())
theorem yYR(f1 f2):yGx.Eq [yHQ.s f1,yCD.s f2] .no (yOQ f1 f2):=fun _=>by kernel_rfl
def yEb(L:Nat):yGx.T:=yOQ (yKX L) (yCX L)
theorem yYQ(L:Nat):yGx.C (yEb L):=yGx.c (yYR (yKX L) (yCX L)) (tC (yZY L).ent (tC (yMM L).ent tN)) Tryz.func289 (by kernel_rfl) (lN _)
abbrev yJo:=fw2 290 (caC xAA (caC cI caN)) xAA
abbrev yRX(x0:yBI)(x1:Int):Option yBI:=
 bif x0.Inst !=x1 then
 some (⟨x1,x0.Mbal,0,noS⟩:yBI)
 else
 some x0
theorem xB2:yJo.Eq [] .no (yRX):=fun _=>by kernel_rfl
def yPk(L:Nat):yJo.T:=yRX
theorem xB1(L:Nat):yJo.C (yPk L):=yJo.c (xB2) tN Tryz.func290 (by kernel_rfl) (lN _)
abbrev yDV:=(List (List V))×Int×Int×Unit
abbrev yFn:=Int×Unit
abbrev yCF{α:Type}(s:yDV)(kn:yDV->Option α)(k0:yFn->Option α):Option α:=
 bif decide (s.2.2.1<(s.1.length:Int)) then
 gI s.1 kI s.2.2.1<|
 kn (s.1,yDK true s.2.1 (aI s.1 s.2.2.1.toNat 0),w64 (s.2.2.1+1),())
 else
 k0 (s.2.1,())
abbrev yDW:LW1 yDV yFn:=⟨(lvC 0 (mP cdR) (lvC 3 (mP cI) (lvC 4 (mP cI) lvN))),(.exit 0),(lvC 3 (mP cI) lvN)⟩
theorem yPP{α:Type}:yDW.Eq (α:=α) [] Tryz.f328 [1,1,1,0,1,0] .no (yCF):=fun _ _ _=>by kernel_rfl
abbrev yCt:=fw1 328 (caC cdR caN) cI
abbrev yHg(F0:LF1 yDV yFn (Int))(x0:List (List V)):Option Int:=
 bif decide ((x0.length:Int)<1) then none else
 gd (decide (0<(x0.length:Int)))<|
 gd (rowIs kI x0 0)<|
 F0 (x0,aI x0 0 0,1,()) (fun q1=>
 some q1.1)
theorem yRI(F0):yCt.Eq [] (.two .no (.two .no (.two .no (.two (.two .no (.one (.lp (yDW.s F0)))) .no)))) (yHg F0):=fun _=>by kernel_rfl
def yEU(L:Nat):yCt.T:=yHg (yBL (yCF) L)
theorem yOL{α:Type}(L:Nat):LO Tryz.f328 [1,1,1,0,1,0] (yDW.s (α:=α) (yBL (yCF) L)):=yDW.k (yPP) tN (lN _) (by kernel_rfl) L
theorem yRH(L:Nat):yCt.C (yEU L):=yCt.c (yRI (yBL (yCF) L)) tN Tryz.func328 (by kernel_rfl) (lS (lN _) (lS (lN _) (lS (lN _) (lS (lS (lN _) (lB (lL (yOL L)))) (lN _)))))
abbrev yHs:=Int×Int×Int×Unit
abbrev yLU:=Int×Int×Unit
abbrev yEa{α:Type}(s:yHs)(kn:yHs->Option α)(k0:yLU->Option α):Option α:=
 bif decide (w64 ((w64 (s.2.2.1*16))+s.1)<=s.2.1) then
 kn (s.1,s.2.1,w64 (s.2.2.1+1),())
 else
 k0 (s.1,s.2.2.1,())
abbrev yHt:LW1 yHs yLU:=⟨(lvC 0 (mP cI) (lvC 5 (mP cI) (lvC 6 (mP cI) lvN))),(.exit 0),(lvC 0 (mP cI) (lvC 6 (mP cI) lvN))⟩
theorem yUI{α:Type}:yHt.Eq (α:=α) [] Tryz.f291 [1,1,1,1,0,0] .no (yEa):=fun _ _ _=>by kernel_rfl
abbrev yGw:=fw2 291 (caC cI (caC cdR caN)) cI
abbrev yOP(f1:yCt.T)(f2:yCv.T)(F0:LF1 yHs yLU (Int))(x0:Int)(x1:List (List V)):Option Int:=
 gd (x1.all fun r=>Nat.beq r.length 1)<|
 gM (1+x1.length) 8<|
 gF (([[V.int .i64 0]])++x1) (0+(1+x1.length))<|
 yAB (f1 ((([[V.int .i64 0]])++x1).take (1+x1.length))) fun r1=>
 yAB (f2 x0 0 15) fun r2=>
 bif !r2 then
 some 0
 else
 bif decide (1099511627776<r1) then
 some 0
 else
 F0 (x0,r1,yDK true 1 (w64 ((w64 (r1-x0)).tdiv 16)),()) (fun q3=>
 bif decide (w64 ((w64 (q3.2.1*16))+q3.1)<=1099511627776) then
 some (w64 ((w64 (q3.2.1*16))+q3.1))
 else
 some 0)
theorem yYP(f1 f2 F0):yGw.Eq [yCt.s f1,yCv.s f2] (.two .no (.two .no (.two .no (.two .no (.two (.one (.lp (yHt.s F0))) .no))))) (yOP f1 f2 F0):=fun _=>by kernel_rfl
def yJp(L:Nat):yGw.T:=yOP (yEU L) (yEc L) (yBL (yEa) L)
theorem yTK{α:Type}(L:Nat):LO Tryz.f291 [1,1,1,1,0,0] (yHt.s (α:=α) (yBL (yEa) L)):=yHt.k (yUI) tN (lN _) (by kernel_rfl) L
theorem yYO(L:Nat):yGw.C (yJp L):=yGw.c (yYP (yEU L) (yEc L) (yBL (yEa) L)) (tC (yRH L).ent (tC (yPT L).ent tN)) Tryz.func291 (by kernel_rfl) (lS (lN _) (lS (lN _) (lS (lN _) (lS (lN _) (lS (lB (lL (yTK L))) (lN _))))))
abbrev yIT:=fw1 330 (caC xAA caN) cdB
abbrev yPl(f1:yCD.T)(x0:yBI):Option Bool:=
 yAB (f1 (⟨x0⟩:yAd)) fun r1=>
 some r1
theorem yZ0(f1):yIT.Eq [yCD.s f1] .no (yPl f1):=fun _=>by kernel_rfl
def yQh(L:Nat):yIT.T:=yPl (yCX L)
theorem yZz(L:Nat):yIT.C (yQh L):=yIT.c (yZ0 (yCX L)) (tC (yMM L).ent tN) Tryz.func330 (by kernel_rfl) (lN _)
set_option maxRecDepth 100000
set_option maxHeartbeats 16000000
abbrev yB2:=mw1 189 (zW 1 (zP cI (zP (cdI .i8) zN))) 3 (caC cdS caN) (cdT (caC cdS (caC cI caN)))
abbrev yHc(f1:yN6.T)(f2:ySW.T)(x0:(List (List V))×Int×Int×Unit)(x1:ByteArray):Option ((ByteArray×Int×Unit)×((List (List V))×Int×Int×Unit)):=
 letI qh:=yCm x1
 letI qg:=x0.2.2.1
 letI qe:= [[V.int .u8 (IntKind.u8.wrap qg)]]
 letI qb:=qh.length
 letI qf:=1+qb
 letI qa:=qe++qh
 letI qi:=qa.take qf
 bif decide (qg<1) then
 gW x0.1 x0.1.length<|
 some ((noS,2,()),(x0.1,x0.2.1,qg,()))
 else
 bif decide (505<(x1.size:Int)) then
 gW x0.1 x0.1.length<|
 some ((noS,2,()),(x0.1,x0.2.1,qg,()))
 else
 yAB (f1 qe 2 ([[V.int .i64 (x1.size:Int)]])) fun r1=>
 letI qd:=r1.1.length+qb
 letI qc:=r1.1++qh
 letI qj:=qc.take qd
 bif r1.2.1 !=0 then
 gM qf 1<|
 gF qa (0+qf)<|
 yAB (f2 qi) fun r2=>
 gF qa (0+qf)<|
 yAB (f1 qi 4 ([[V.int .i64 r2]])) fun r3=>
 bif r3.2.1 !=0 then
 gd (Nat.ble (0+qf) (qa.length))<|
 gd ((bytesOf qi).isSome)<|
 gd (Nat.beq (max 1 (min 2000000 (qa.length))) 0)<|
 gW qa qf<|
 some ((yI2 qi,2,()),(qe++qh,2,qg,()))
 else
 gd (Nat.ble (0+r3.1.length) r3.1.length)<|
 gd ((bytesOf (r3.1.take r3.1.length)).isSome)<|
 gW r3.1 r3.1.length<|
 some ((yI2 (r3.1.take r3.1.length),2,()),(r3.1,2,qg,()))
 else
 gd (Nat.beq (0+r1.1.length) r1.1.length)<|
 gM qd 1<|
 gF qc (0+qd)<|
 yAB (f2 qj) fun r4=>
 gF qc (0+qd)<|
 yAB (f1 qj 4 ([[V.int .i64 r4]])) fun r5=>
 bif r5.2.1 !=0 then
 gd (Nat.ble (0+qd) (qc.length))<|
 gd ((bytesOf qj).isSome)<|
 gd (Nat.beq (max 0 (min 2000000 (qc.length))) 0)<|
 gW qc qd<|
 some ((yI2 qj,2,()),(r1.1++qh,2,qg,()))
 else
 gd (Nat.ble (0+r5.1.length) r5.1.length)<|
 gd ((bytesOf (r5.1.take r5.1.length)).isSome)<|
 gW r5.1 r5.1.length<|
 some ((yI2 (r5.1.take r5.1.length),x0.2.1,()),(r5.1,x0.2.1,qg,()))
theorem yRF(f1 f2):yB2.Eq [yN6.s f1,ySW.s f2] .no (yHc f1 f2):=fun _ _=>by kernel_rfl
def yCn(L:Nat):yB2.T:=yHc (yIE L) (yRf L)
theorem yLv(L:Nat):yB2.C (yCn L):=yB2.c (yRF (yIE L) (yRf L)) (tC (yVw L).ent (tC (xAE L).ent tN)) Tryz.func189 (by kernel_rfl) (lN _)
abbrev yLF:=ByteArray×(List (List V))×((List (List V))×Int×Int×Unit)×(List (List V))×Int×Int×Unit
abbrev yNf:=ByteArray×((List (List V))×Int×Int×Unit)×Unit
abbrev yNg:=ByteArray×Int×Unit
abbrev yFd{α:Type}(f1:yN6.T)(s:yLF)(kn:yLF->Option α)(k0:yNf->Option α)(k1:yNg->Option α):Option α:=
 letI qb:=s.2.2.1.1
 letI qa:=s.2.2.2.2.2.1
 bif decide (qa<s.2.2.2.2.1) then
 gI s.2.2.2.1 kI qa<|
 gI s.2.1 kI qa<|
 gF qb (0+qb.length)<|
 yAB (f1 (qb.take qb.length) (aI s.2.1 qa.toNat 0) ([[V.int .i64 (aI s.2.2.2.1 qa.toNat 0)]])) fun r1=>
 bif r1.2.1 !=0 then
 k1 (noS,2,())
 else
 bif s.2.2.1.2.1 !=0 then
 k1 (noS,2,())
 else
 bif decide (505<(r1.1.length:Int)) then
 k1 (noS,2,())
 else
 gW r1.1 r1.1.length<|
 kn (s.1,s.2.1,(r1.1,s.2.2.1.2.1,s.2.2.1.2.2.1,()),s.2.2.2.1,s.2.2.2.2.1,w64 (qa+1),())
 else
 gW qb qb.length<|
 k0 (s.1,(qb,s.2.2.1.2.1,s.2.2.1.2.2.1,()),())
abbrev yLG:LW2 yLF yNf yNg:=⟨(lvC 1 (mP cdS) (lvC 2 (mP cdR) (lvC 10 (mO (zW 1 (zP cI (zP (cdI .i8) zN))) 3) (lvC 21 (mP cdR) (lvC 22 (mP cI) (lvC 23 (mP cI) lvN)))))),(.exit 0),(lvC 1 (mP cdS) (lvC 10 (mO (zW 1 (zP cI (zP (cdI .i8) zN))) 3) lvN)),.ret,(lvC 8 (mP cdS) (lvC 9 (mP cI) lvN))⟩
theorem yXg{α:Type}(f1):yLG.Eq (α:=α) [yN6.s f1] Tryz.f139 [1,1,1,0,1,0] .no (yFd f1):=fun _ _ _=>by kernel_rfl
abbrev yKY:=fw4 139 (caC (cdI .i8) (caC cdS (caC cdR (caC cdR caN)))) (cdT (caC cdS (caC cI caN)))
abbrev yR9(f1:yB2.T)(F0:LF2 yLF yNf yNg (ByteArray×Int×Unit))(x0:Int)(x1:ByteArray)(x2:List (List V))(x3:List (List V)):Option (ByteArray×Int×Unit):=
 bif(x2.length:Int) !=(x3.length:Int) then
 some (noS,2,())
 else
 F0 (x1,x2,([],0,x0,()),x3,(x3.length:Int),0,()) (fun q1=>
 letI qa:=q1.2.1.1
 letI qb:=qa.take qa.length
 gd (Nat.ble (0+qa.length) qa.length)<|
 gd ((bytesOf qb).isSome)<|
 gd (decide (((yI2 qb).size)+q1.1.size<=9223372036854775807))<|
 gW qa qa.length<|
 yAB (f1 (qa,q1.2.1.2.1,q1.2.1.2.2.1,()) ((yI2 qb)++q1.1)) fun r2=>
 some (r2.1.1,r2.1.2.1,())) (fun q3=>
 some (q3.1,q3.2.1,()))
theorem xDB(f1 F0):yKY.Eq [yB2.s f1] (.two .no (.two .no (.two .no (.two (.two .no (.one (.lp (yLG.s F0)))) .no)))) (yR9 f1 F0):=fun _=>by kernel_rfl
def yOJ(L:Nat):yKY.T:=yR9 (yCn L) (yAe (yFd (yIE L)) L)
theorem yWc{α:Type}(L:Nat):LO Tryz.f139 [1,1,1,0,1,0] (yLG.s (α:=α) (yAe (yFd (yIE L)) L)):=yLG.k (yXg (yIE L)) (tC (yVw L).ent tN) (lN _) (by kernel_rfl) L
theorem xDA(L:Nat):yKY.C (yOJ L):=yKY.c (xDB (yCn L) (yAe (yFd (yIE L)) L)) (tC (yLv L).ent tN) Tryz.func139 (by kernel_rfl) (lS (lN _) (lS (lN _) (lS (lN _) (lS (lS (lN _) (lB (lL (yWc L)))) (lN _)))))
abbrev yCp:=fw1 331 (caC (cdP yLW) caN) (cdT (caC cdS (caC cI caN)))
abbrev yHU(f1:yCM.T)(f2:yKY.T)(x0:yAd):Option (ByteArray×Int×Unit):=
 yAB (f1 x0) fun r1=>
 yAB (f2 4 x0.Rec.Val r1 ([[V.int .i64 x0.Rec.Inst],[V.int .i64 x0.Rec.Mbal],[V.int .i64 x0.Rec.Bal]])) fun r2=>
 some (r2.1,r2.2.1,())
theorem yQ2(f1 f2):yCp.Eq [yCM.s f1,yKY.s f2] .no (yHU f1 f2):=fun _=>by kernel_rfl
def yGP(L:Nat):yCp.T:=yHU (yEk L) (yOJ L)
theorem yQ1(L:Nat):yCp.C (yGP L):=yCp.c (yQ2 (yEk L) (yOJ L)) (tC (yPX L).ent (tC (xDA L).ent tN)) Tryz.func331 (by kernel_rfl) (lN _)
abbrev yF0:=fw1 292 (caC xAA caN) (cdT (caC cdS (caC cI caN)))
abbrev yNI(f1:yIT.T)(f2:yCp.T)(x0:yBI):Option (ByteArray×Int×Unit):=
 yAB (f1 x0) fun r1=>
 bif !r1 then
 some (noS,2,())
 else
 yAB (f2 (⟨x0⟩:yAd)) fun r2=>
 some (r2.1,r2.2.1,())
theorem yWs(f1 f2):yF0.Eq [yIT.s f1,yCp.s f2] .no (yNI f1 f2):=fun _=>by kernel_rfl
def yIS(L:Nat):yF0.T:=yNI (yQh L) (yGP L)
theorem yWr(L:Nat):yF0.C (yIS L):=yF0.c (yWs (yQh L) (yGP L)) (tC (yZz L).ent (tC (yQ1 L).ent tN)) Tryz.func292 (by kernel_rfl) (lN _)
abbrev yDZ:=fw3 293 (caC cI (caC cdS (caC cI caN))) yNq
abbrev yKt(x0:Int)(x1:ByteArray)(x2:Int):Option yBN:=
 bif x2 !=0 then
 some yBN.z
 else
 bif decide (x0<0) then
 some yBN.z
 else
 some (⟨2,x0,x1,0⟩:yBN)
theorem yXF:yDZ.Eq [] .no (yKt):=fun _=>by kernel_rfl
def yEJ(L:Nat):yDZ.T:=yKt
theorem yRS(L:Nat):yDZ.C (yEJ L):=yDZ.c (yXF) tN Tryz.func293 (by kernel_rfl) (lN _)
abbrev yDF:=fw1 247 (caC (cdP yGZ) caN) yNq
abbrev yJG(f1:yF0.T)(f2:yDJ.T)(f3:yDZ.T)(x0:yAP):Option yBN:=
 yAB (f1 x0.Prop_.Own) fun r1=>
 yAB (f2 x0.g_ x0.Prop_.Node) fun r2=>
 yAB (f3 r2 r1.1 r1.2.1) fun r3=>
 some r3
theorem ySm(f1 f2 f3):yDF.Eq [yF0.s f1,yDJ.s f2,yDZ.s f3] .no (yJG f1 f2 f3):=fun _=>by kernel_rfl
def yHv(L:Nat):yDF.T:=yJG (yIS L) (yED L) (yEJ L)
theorem ySl(L:Nat):yDF.C (yHv L):=yDF.c (ySm (yIS L) (yED L) (yEJ L)) (tC (yWr L).ent (tC (yOd L).ent (tC (yRS L).ent tN))) Tryz.func247 (by kernel_rfl) (lN _)
abbrev yDl:=yAU×(List (List V))×Int×Int×Unit
abbrev yGF:=yAU×Unit
abbrev yEl{α:Type}(s:yDl)(kn:yDl->Option α)(k0:yGF->Option α):Option α:=
 bif decide (s.2.2.2.1<s.2.2.1) then
 gI s.2.1 kI s.2.2.2.1<|
 kn ((⟨{s.1.Tally with Seen:=yDK true s.1.Tally.Seen (aI s.2.1 s.2.2.2.1.toNat 0)}⟩:yAU),s.2.1,s.2.2.1,w64 (s.2.2.2.1+1),())
 else
 k0 (s.1,())
abbrev yDm:LW1 yDl yGF:=⟨(lvC 0 yP8 (lvC 6 (mP cdR) (lvC 7 (mP cI) (lvC 8 (mP cI) lvN)))),(.exit 0),(lvC 0 yP8 lvN)⟩
theorem yPZ{α:Type}:yDm.Eq (α:=α) [] Tryz.f332 [1,0] .no (yEl):=fun _ _ _=>by kernel_rfl
abbrev yC0:=mw1 332 (zS 7 yPn) 7 (caC cdR caN) (cdT caN)
abbrev yMO(F0:LF1 yDl yGF (Unit×yAU))(x0:yAU)(x1:List (List V)):Option (Unit×yAU):=
 F0 (x0,x1,(x1.length:Int),0,()) (fun q1=>
 some ((()),q1.1))
theorem yRc(F0):yC0.Eq [] (.two .no (.one (.lp (yDm.s F0)))) (yMO F0):=fun _ _=>by kernel_rfl
def yGz(L:Nat):yC0.T:=yMO (yBL (yEl) L)
theorem yOS{α:Type}(L:Nat):LO Tryz.f332 [1,0] (yDm.s (α:=α) (yBL (yEl) L)):=yDm.k (yPZ) tN (lN _) (by kernel_rfl) L
theorem yRb(L:Nat):yC0.C (yGz L):=yC0.c (yRc (yBL (yEl) L)) tN Tryz.func332 (by kernel_rfl) (lS (lN _) (lB (lL (yOS L))))
end Go.Proofs.YtakljpcmbpaeaaaGreat
