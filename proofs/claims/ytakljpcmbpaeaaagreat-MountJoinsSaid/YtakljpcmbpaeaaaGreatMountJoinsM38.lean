/- Typed functions. (printed by wip/sx) -/
import Derived.Test.YtakljpcmbpaeaaaGreatMountJoinsM36
import Derived.Test.YtakljpcmbpaeaaaGreatMountJoinsM37
set_option linter.unusedSimpArgs false
set_option linter.unusedVariables false
namespace Go.Proofs.YtakljpcmbpaeaaaGreat
open Go.RowKit
set_option maxRecDepth 100000
set_option maxHeartbeats 16000000
abbrev yA0:=(List (List V))×((((yAL×Unit)×Unit)×Unit))×Int×Int×Unit
abbrev yBf:=Unit
abbrev yBg:=Int×Unit
abbrev yBB{α:Type}(f1:yFC.T)(s:yA0)(kn:yA0->Option α)(k0:yBf->Option α)(k1:yBg->Option α):Option α:=
 letI qa:=s.2.2.2.1
 bif decide (qa<s.2.2.1) then
 gI s.1 yAL.ks qa<|
 yAA (f1 s.2.1.1.1.1 (⟨aI s.1 qa.toNat 0,(⟨aI s.1 qa.toNat 1,aI s.1 qa.toNat 2⟩:yAK),aI s.1 qa.toNat 3⟩:yAL)) fun r1=>
 bif !r1 then
 k1 (qa,())
 else
 kn (s.1,(((s.2.1.1.1.1,()),()),()),s.2.2.1,w64 (qa+1),())
 else
 k0 (())
abbrev yA1:LW2 yA0 yBf yBg:=⟨(lvC 0 (mP cdR) (lvC 1 (mP (cdF 387 (caC (cdP (caC (cdF 389 (caC (cdP yXT) caN)) caN)) caN))) (lvC 7 (mP cI) (lvC 8 (mP cI) lvN)))),(.exit 0),lvN,.ret,(lvC 4 (mP cI) lvN)⟩
theorem yEP{α:Type}(f1):yA1.Eq (α:=α) [yFC.s f1] Tryz.f366 [1,0,1,0] .no (yBB f1):=fun _ _ _=>by kernel_rfl
abbrev yAc:=fw2 366 (caC cdR (caC (cdF 387 (caC (cdP (caC (cdF 389 (caC (cdP yXT) caN)) caN)) caN)) caN)) cI
abbrev yBp(F0:LF2 yA0 yBf yBg (Int))(x0:List (List V))(x1:((yAL×Unit)×Unit)×Unit):Option Int:=
 F0 (x0,(((x1.1.1.1,()),()),()),(x0.length:Int),0,()) (fun q1=>
 some (-1)) (fun q2=>
 some q2.1)
theorem yE9(F0):yAc.Eq [] (.two .no (.two (.two .no (.one (.lp (yA1.s F0)))) .no)) (yBp F0):=fun _=>by kernel_rfl
def yAo(L:Nat):yAc.T:=yBp (yAQ (yBB (yFe L)) L)
theorem yDs{α:Type}(L:Nat):LO Tryz.f366 [1,0,1,0] (yA1.s (α:=α) (yAQ (yBB (yFe L)) L)):=yA1.k (yEP (yFe L)) (tC (yYm L).ent tN) (lN _) (by kernel_rfl) L
theorem yE8(L:Nat):yAc.C (yAo L):=yAc.c (yE9 (yAQ (yBB (yFe L)) L)) tN Tryz.func366 (by kernel_rfl) (lS (lN _) (lS (lS (lN _) (lB (lL (yDs L)))) (lN _)))
abbrev yAV:=fw2 386 (caC cdR (caC (cdF 387 (caC (cdP (caC (cdF 389 (caC (cdP yXT) caN)) caN)) caN)) caN)) cdB
abbrev yBa(f1:yAc.T)(x0:List (List V))(x1:((yAL×Unit)×Unit)×Unit):Option Bool:=
 yAA (f1 x0 (((x1.1.1.1,()),()),())) fun r1=>
 some (decide (0<=r1))
theorem yEM(f1):yAV.Eq [(366,spF 1 [(387,(yAc.s f1).2)])] .no (yBa f1):=fun _=>by kernel_rfl
def yA8(L:Nat):yAV.T:=yBa (yAo L)
theorem yEL(L:Nat):yAV.C (yA8 L):=yAV.c (yEM (yAo L)) (tC (yQW (yHi (yE8 L).ent yMd)) tN) Tryz.func386 (by kernel_rfl) (lN _)
abbrev yDc:=fw2 375 (caC (cdF 389 (caC (cdP yXT) caN)) (caC cdR caN)) cdB
abbrev yLF(f1:yAV.T)(x0:yAL×Unit)(x1:List (List V)):Option Bool:=
 yAA (f1 x1 (((x0.1,()),()),())) fun r1=>
 some !r1
theorem yVm(f1):yDc.Eq [(386,spF 1 [(387,(yAV.s f1).2)])] .no (yLF f1):=fun _=>by kernel_rfl
def yKD(L:Nat):yDc.T:=yLF (yA8 L)
theorem yVl(L:Nat):yDc.C (yKD L):=yDc.c (yVm (yA8 L)) (tC (yQW (yHi (yEL L).ent yMd)) tN) Tryz.func375 (by kernel_rfl) (lN _)
abbrev yLB:=fw2 378 (caC yQq (caC cdR caN)) cdB
abbrev yTU(f1:yDc.T)(x0:yAL)(x1:List (List V)):Option Bool:=
 yAA (f1 (x0,()) x1) fun r1=>
 some r1
theorem xFi(f1):yLB.Eq [(375,spF 0 [(389,(yDc.s f1).2)])] .no (yTU f1):=fun _=>by kernel_rfl
def yL1(L:Nat):yLB.T:=yTU (yKD L)
theorem xFh(L:Nat):yLB.C (yL1 L):=yLB.c (xFi (yKD L)) (tC (yQW (yHi (yVl L).ent yMd)) tN) Tryz.func378 (by kernel_rfl) (lN _)
abbrev yET:=((List (List V))×(List (List V))×(List (List V))×Int×Int×Int×Int×Int×Int×Int×Int×Unit)×(List (List V))×Int×Int×Unit
abbrev yGu:=((List (List V))×(List (List V))×(List (List V))×Int×Int×Int×Int×Int×Int×Int×Int×Unit)×Unit
abbrev yDk{α:Type}(f1:yLB.T)(s:yET)(kn:yET->Option α)(k0:yGu->Option α):Option α:=
 letI qq:=s.1.2.2.2.1
 letI qp:=s.1.2.2.2.2.1
 letI qo:=s.1.1
 letI qn:=s.2.1
 letI ql:=s.1.2.2.2.2.2.1
 letI qj:=s.1.2.2.2.2.2.2.1
 letI qi:=s.1.2.2.2.2.2.2.2.1
 letI qh:=s.1.2.2.2.2.2.2.2.2.1
 letI qg:=s.1.2.2.2.2.2.2.2.2.2.1
 letI qf:=s.1.2.2.2.2.2.2.2.2.2.2.1
 letI qe:=s.2.2.2.1
 letI qd:=s.1.2.1
 letI qc:=(⟨aI qn qe.toNat 0,(⟨aI qn qe.toNat 1,aI qn qe.toNat 2⟩:yAK),aI qn qe.toNat 3⟩:yAL)
 letI qb:=s.1.2.2.1
 letI qm:=Nat.beq (0+qb.length) qb.length
 letI qk:=qb.length+1
 letI qa:= [[V.int .i64 (aI qn qe.toNat 0),V.int .i64 (aI qn qe.toNat 1),V.int .i64 (aI qn qe.toNat 2),V.int .i8 (aI qn qe.toNat 3)]]
 bif decide (qe<s.2.2.1) then
 gI qn yAL.ks qe<|
 gF qd (0+qd.length)<|
 yAA (f1 qc (qd.take qd.length)) fun r1=>
 bif r1 then
 gF qb (0+qb.length)<|
 yAA (f1 qc (qb.take qb.length)) fun r2=>
 bif r2 then
 gd (Nat.beq (0+qd.length) qd.length)<|
 gM (qd.length+1) 32<|
 gW qo qo.length<|
 gW (qd++qa) (qd.length+1)<|
 gW qb qb.length<|
 kn ((qo,qd++qa,qb,qq,qp,ql,qj,qi,qh,qg,qf,()),qn,s.2.2.1,w64 (qe+1),())
 else
 gd qm<|
 gM qk 32<|
 gW qo qo.length<|
 gW qd qd.length<|
 gW (qb++qa) qk<|
 kn ((qo,qd,qb++qa,qq,qp,ql,qj,qi,qh,qg,qf,()),qn,s.2.2.1,w64 (qe+1),())
 else
 gd qm<|
 gM qk 32<|
 gW qo qo.length<|
 gW qd qd.length<|
 gW (qb++qa) qk<|
 kn ((qo,qd,qb++qa,qq,qp,ql,qj,qi,qh,qg,qf,()),qn,s.2.2.1,w64 (qe+1),())
 else
 gW qo qo.length<|
 gW qd qd.length<|
 gW qb qb.length<|
 k0 ((qo,qd,qb,qq,qp,ql,qj,qi,qh,qg,qf,()),())
abbrev yEU:LW1 yET yGu:=⟨(lvC 0 (mR (zW 2 (zW 4 (zW 4 (zP cI (zP cI (zP cI (zP cI (zP cI (zP cI (zP cI (zP cI zN))))))))))) 11) (lvC 15 (mP cdR) (lvC 16 (mP cI) (lvC 17 (mP cI) lvN)))),(.exit 0),(lvC 0 (mR (zW 2 (zW 4 (zW 4 (zP cI (zP cI (zP cI (zP cI (zP cI (zP cI (zP cI (zP cI zN))))))))))) 11) lvN)⟩
theorem yRv{α:Type}(f1):yEU.Eq (α:=α) [yLB.s f1] Tryz.f365 [1,1,1,0] .no (yDk f1):=fun _ _ _=>by kernel_rfl
abbrev yBt:=mw0 365 (zW 2 (zW 4 (zW 4 (zP cI (zP cI (zP cI (zP cI (zP cI (zP cI (zP cI (zP cI zN))))))))))) 11 caN (cdT caN)
abbrev yKG(F0:LF1 yET yGu (Unit×((List (List V))×(List (List V))×(List (List V))×Int×Int×Int×Int×Int×Int×Int×Int×Unit)))(x0:(List (List V))×(List (List V))×(List (List V))×Int×Int×Int×Int×Int×Int×Int×Int×Unit):Option (Unit×((List (List V))×(List (List V))×(List (List V))×Int×Int×Int×Int×Int×Int×Int×Int×Unit)):=
 gW x0.1 x0.1.length<|
 gW x0.2.1 x0.2.1.length<|
 gF x0.2.2.1 (0+x0.2.2.1.length)<|
 F0 ((x0.1,x0.2.1,[],x0.2.2.2.1,x0.2.2.2.2.1,x0.2.2.2.2.2.1,x0.2.2.2.2.2.2.1,x0.2.2.2.2.2.2.2.1,x0.2.2.2.2.2.2.2.2.1,x0.2.2.2.2.2.2.2.2.2.1,x0.2.2.2.2.2.2.2.2.2.2.1,()),x0.2.2.1.take x0.2.2.1.length,(x0.2.2.1.length:Int),0,()) (fun q1=>
 gW q1.1.1 q1.1.1.length<|
 gW q1.1.2.1 q1.1.2.1.length<|
 gW q1.1.2.2.1 q1.1.2.2.1.length<|
 some ((()),(q1.1.1,q1.1.2.1,q1.1.2.2.1,q1.1.2.2.2.1,q1.1.2.2.2.2.1,q1.1.2.2.2.2.2.1,q1.1.2.2.2.2.2.2.1,q1.1.2.2.2.2.2.2.2.1,q1.1.2.2.2.2.2.2.2.2.1,q1.1.2.2.2.2.2.2.2.2.2.1,q1.1.2.2.2.2.2.2.2.2.2.2.1,())))
theorem yUp(F0):yBt.Eq [] (.two .no (.two .no (.two .no (.one (.lp (yEU.s F0)))))) (yKG F0):=fun _ _=>by kernel_rfl
def yCU(L:Nat):yBt.T:=yKG (yBV (yDk (yL1 L)) L)
theorem yQf{α:Type}(L:Nat):LO Tryz.f365 [1,1,1,0] (yEU.s (α:=α) (yBV (yDk (yL1 L)) L)):=yEU.k (yRv (yL1 L)) (tC (xFh L).ent tN) (lN _) (by kernel_rfl) L
theorem yKF(L:Nat):yBt.C (yCU L):=yBt.c (yUp (yBV (yDk (yL1 L)) L)) tN Tryz.func365 (by kernel_rfl) (lS (lN _) (lS (lN _) (lS (lN _) (lB (lL (yQf L))))))
set_option maxRecDepth 100000
set_option maxHeartbeats 16000000
abbrev yAw:=(List (List V))×((((((Int×Unit)×Unit)×Unit)×Unit)×Unit))×Int×Int×Unit
abbrev yBb:=Unit
abbrev yBc:=Int×Unit
abbrev yA9{α:Type}(s:yAw)(kn:yAw->Option α)(k0:yBb->Option α)(k1:yBc->Option α):Option α:=
 letI qa:=s.2.2.2.1
 bif decide (qa<s.2.2.1) then
 gI s.1 yAL.ks qa<|
 bif !((aI s.1 qa.toNat 0)==s.2.1.1.1.1.1.1) then
 kn (s.1,(((((s.2.1.1.1.1.1.1,()),()),()),()),()),s.2.2.1,w64 (qa+1),())
 else
 k1 (qa,())
 else
 k0 (())
abbrev yAx:LW2 yAw yBb yBc:=⟨(lvC 0 (mP cdR) (lvC 1 (mP (cdF 382 (caC (cdP (caC (cdL (xN7 (cdF 379 (caC (cdP (caC cI caN)) caN)) xN8)) caN)) caN))) (lvC 7 (mP cI) (lvC 8 (mP cI) lvN)))),(.exit 0),lvN,.ret,(lvC 4 (mP cI) lvN)⟩
theorem yEN{α:Type}:yAx.Eq (α:=α) [] Tryz.f366 [1,0,1,0] .no (yA9):=fun _ _ _=>by kernel_rfl
abbrev yAa:=fw2 366 (caC cdR (caC (cdF 382 (caC (cdP (caC (cdL (xN7 (cdF 379 (caC (cdP (caC cI caN)) caN)) xN8)) caN)) caN)) caN)) cI
abbrev yBn(F0:LF2 yAw yBb yBc (Int))(x0:List (List V))(x1:((((Int×Unit)×Unit)×Unit)×Unit)×Unit):Option Int:=
 F0 (x0,(((((x1.1.1.1.1.1,()),()),()),()),()),(x0.length:Int),0,()) (fun q1=>
 some (-1)) (fun q2=>
 some q2.1)
theorem yE5(F0):yAa.Eq [] (.two .no (.two (.two .no (.one (.lp (yAx.s F0)))) .no)) (yBn F0):=fun _=>by kernel_rfl
def yAm(L:Nat):yAa.T:=yBn (yAQ (yA9) L)
theorem yDq{α:Type}(L:Nat):LO Tryz.f366 [1,0,1,0] (yAx.s (α:=α) (yAQ (yA9) L)):=yAx.k (yEN) tN (lN _) (by kernel_rfl) L
theorem yE4(L:Nat):yAa.C (yAm L):=yAa.c (yE5 (yAQ (yA9) L)) tN Tryz.func366 (by kernel_rfl) (lS (lN _) (lS (lS (lN _) (lB (lL (yDq L)))) (lN _)))
abbrev yAt:=(List (List V))×((((((Int×Unit)×Unit)×Unit)×Unit)×Unit))×Int×Int×Unit
abbrev yBY:=(List (List V))×Int×Unit
abbrev yAX{α:Type}(s:yAt)(kn:yAt->Option α)(k0:yBY->Option α):Option α:=
 letI qf:=s.2.2.2.1
 letI qd:=Nat.beq s.1.length s.1.length
 letI qc:=0+qf.toNat
 letI qb:=0+s.2.2.1.toNat
 letI qe:=s.1.getD qb []
 letI qa:=qe.take 0++([V.int .i64 (aI s.1 qc 0),V.int .i64 (aI s.1 qc 1),V.int .i64 (aI s.1 qc 2),V.int .i8 (aI s.1 qc 3)]++qe.drop 4)
 bif decide (qf<(s.1.length:Int)) then
 gB qf s.1.length<|
 gL s.1 yAL.ks qc 0<|
 bif !((aI s.1 qc 0)==s.2.1.1.1.1.1.1) then
 gB s.2.2.1 s.1.length<|
 gd (decide (0+s.2.2.1.toNat<s.1.length))<|
 gd (Nat.ble 0 qb)<|
 gd (Nat.ble 4 qe.length)<|
 gd (Nat.beq s.1.length ((s.1.set qb qa).length))<|
 gd (yCF (s.1.set qb qa))<|
 kn (s.1.set qb qa,(((((s.2.1.1.1.1.1.1,()),()),()),()),()),w64 (s.2.2.1+1),w64 (qf+1),())
 else
 gd qd<|
 gd (yCF s.1)<|
 kn (s.1,(((((s.2.1.1.1.1.1.1,()),()),()),()),()),s.2.2.1,w64 (qf+1),())
 else
 gd qd<|
 gd (yCF s.1)<|
 k0 (s.1,s.2.2.1,())
abbrev yAu:LW1 yAt yBY:=⟨(lvC 0 (mQ 4) (lvC 1 (mP (cdF 382 (caC (cdP (caC (cdL (xN7 (cdF 379 (caC (cdP (caC cI caN)) caN)) xN8)) caN)) caN))) (lvC 5 (mP cI) (lvC 6 (mP cI) lvN)))),(.exit 0),(lvC 0 (mQ 4) (lvC 5 (mP cI) lvN))⟩
theorem yDp{α:Type}:yAu.Eq (α:=α) [] Tryz.f381 [1,1,1,0,1,0] .no (yAX):=fun _ _ _=>by kernel_rfl
abbrev yAZ:=qw1 381 4 (caC (cdF 382 (caC (cdP (caC (cdL (xN7 (cdF 379 (caC (cdP (caC cI caN)) caN)) xN8)) caN)) caN)) caN)
abbrev yBi(f1:yAa.T)(F0:LF1 yAt yBY (List (List V)))(x0:List (List V))(x1:((((Int×Unit)×Unit)×Unit)×Unit)×Unit):Option (List (List V)):=
 letI qc:=x0.take x0.length
 gF x0 (0+x0.length)<|
 yAA (f1 qc (((((x1.1.1.1.1.1,()),()),()),()),())) fun r1=>
 bif r1==(-1) then
 gd (Nat.ble x0.length x0.length)<|
 gd (yCF qc)<|
 some qc
 else
 gd (Nat.beq x0.length x0.length)<|
 gd (yCF x0)<|
 F0 (x0,(((((x1.1.1.1.1.1,()),()),()),()),()),r1,w64 (r1+1),()) (fun q2=>
 letI qd:=q2.2.1
 letI qb:=decide (qd<=(q2.1.length:Int))
 letI qa:=q2.1.take (0+qd.toNat)
 gd (decide (0<=qd))<|
 gd qb<|
 gd (Nat.ble 0 (0+qd.toNat))<|
 gd (decide (0<=qd))<|
 gd qb<|
 gd (Nat.ble qd.toNat (qa.length))<|
 gd (yCF (qa.take qd.toNat))<|
 some (qa.take qd.toNat))
theorem yEg(f1 F0):yAZ.Eq [(366,spF 1 [(382,(yAa.s f1).2)])] (.two .no (.two .no (.two .no (.two (.two .no (.one (.lp (yAu.s F0)))) .no)))) (yBi f1 F0):=fun _ _=>by kernel_rfl
def yAk(L:Nat):yAZ.T:=yBi (yAm L) (yBV (yAX) L)
theorem yDo{α:Type}(L:Nat):LO Tryz.f381 [1,1,1,0,1,0] (yAu.s (α:=α) (yBV (yAX) L)):=yAu.k (yDp) tN (lN _) (by kernel_rfl) L
theorem yEf(L:Nat):yAZ.C (yAk L):=yAZ.c (yEg (yAm L) (yBV (yAX) L)) (tC (yQW (yHi (yE4 L).ent yMd)) tN) Tryz.func381 (by kernel_rfl) (lS (lN _) (lS (lN _) (lS (lN _) (lS (lS (lN _) (lB (lL (yDo L)))) (lN _)))))
abbrev yDH:=mw1 361 (zW 2 (zW 4 (zW 4 (zP cI (zP cI (zP cI (zP cI (zP cI (zP cI (zP cI (zP cI zN))))))))))) 11 (caC cI caN) (cdT caN)
abbrev yKE(f1:yAZ.T)(f2:yBt.T)(x0:(List (List V))×(List (List V))×(List (List V))×Int×Int×Int×Int×Int×Int×Int×Int×Unit)(x1:Int):Option (Unit×((List (List V))×(List (List V))×(List (List V))×Int×Int×Int×Int×Int×Int×Int×Int×Unit)):=
 letI qa:=0+x1.toNat
 letI qc:=x0.1.getD qa []
 letI qb:=qc.take 0++([V.int .i64 0,V.int .i64 0]++qc.drop 2)
 gB x1 x0.1.length<|
 gL x0.1 kI qa 0<|
 gd (Nat.beq x0.2.1.length x0.2.1.length)<|
 gd (yCF x0.2.1)<|
 yAA (f1 x0.2.1 (((((aI x0.1 qa 0,()),()),()),()),())) fun r1=>
 gd (Nat.beq x0.2.2.1.length x0.2.2.1.length)<|
 gd (yCF x0.2.2.1)<|
 yAA (f1 x0.2.2.1 (((((aI x0.1 qa 0,()),()),()),()),())) fun r2=>
 gB x1 x0.1.length<|
 gd (decide (0+x1.toNat<x0.1.length))<|
 gd (Nat.ble 0 qa)<|
 gd (Nat.ble 2 qc.length)<|
 gW (x0.1.set qa qb) x0.1.length<|
 gW r1 r1.length<|
 gW r2 r2.length<|
 yAA (f2 (x0.1.set qa qb,r1,r2,x0.2.2.2.1,x0.2.2.2.2.1,x0.2.2.2.2.2.1,x0.2.2.2.2.2.2.1,x0.2.2.2.2.2.2.2.1,x0.2.2.2.2.2.2.2.2.1,x0.2.2.2.2.2.2.2.2.2.1,x0.2.2.2.2.2.2.2.2.2.2.1,())) fun r3=>
 gW r3.2.1 r3.2.1.length<|
 gW r3.2.2.1 r3.2.2.1.length<|
 gW r3.2.2.2.1 r3.2.2.2.1.length<|
 some ((()),(r3.2.1,r3.2.2.1,r3.2.2.2.1,r3.2.2.2.2.1,r3.2.2.2.2.2.1,r3.2.2.2.2.2.2.1,r3.2.2.2.2.2.2.2.1,r3.2.2.2.2.2.2.2.2.1,r3.2.2.2.2.2.2.2.2.2.1,r3.2.2.2.2.2.2.2.2.2.2.1,r3.2.2.2.2.2.2.2.2.2.2.2.1,()))
theorem yUo(f1 f2):yDH.Eq [yAZ.s f1,yBt.s f2] .no (yKE f1 f2):=fun _ _=>by kernel_rfl
def yFn(L:Nat):yDH.T:=yKE (yAk L) (yCU L)
theorem yUn(L:Nat):yDH.C (yFn L):=yDH.c (yUo (yAk L) (yCU L)) (tC (yEf L).ent (tC (yKF L).ent tN)) Tryz.func361 (by kernel_rfl) (lN _)
abbrev yNB:=fw2 374 (caC yCI (caC yOF caN)) cdB
abbrev yVg(x0:yAR)(x1:yAK):Option Bool:=
 bif !(decide (x1.Hi<x1.Lo)) then
 bif decide (0<=x1.Lo) then
 some (decide (x1.Hi<x0.Blocks))
 else
 some false
 else
 some false
theorem xHi:yNB.Eq [] .no (yVg):=fun _=>by kernel_rfl
def yXI(L:Nat):yNB.T:=yVg
theorem xHh(L:Nat):yNB.C (yXI L):=yNB.c (xHi) tN Tryz.func374 (by kernel_rfl) (lN _)
set_option maxRecDepth 100000
set_option maxHeartbeats 16000000
abbrev yLC:=fw2 363 (caC yCI (caC yQq caN)) cdB
abbrev yTV(f1:yNB.T)(x0:yAR)(x1:yAL):Option Bool:=
 bif decide (0<x1.Key) then
 yAA (f1 x0 x1.Span) fun r1=>
 bif r1 then
 bif x1.Mode==1 then
 some true
 else
 some (x1.Mode==2)
 else
 some false
 else
 some false
theorem xFk(f1):yLC.Eq [yNB.s f1] .no (yTV f1):=fun _=>by kernel_rfl
def yRs(L:Nat):yLC.T:=yTV (yXI L)
theorem xFj(L:Nat):yLC.C (yRs L):=yLC.c (xFk (yXI L)) (tC (xHh L).ent tN) Tryz.func363 (by kernel_rfl) (lN _)
abbrev yF5:=fw2 377 (caC yOF (caC yOF caN)) cdB
abbrev yOf(f1:yCG.T)(x0:yAK)(x1:yAK):Option Bool:=
 yAA (f1 (⟨x0⟩:yAj) (⟨x1⟩:yAj)) fun r1=>
 some r1
theorem yZw(f1):yF5.Eq [yCG.s f1] .no (yOf f1):=fun _=>by kernel_rfl
def yGs(L:Nat):yF5.T:=yOf (yCz L)
theorem yZv(L:Nat):yF5.C (yGs L):=yF5.c (yZw (yCz L)) (tC (yNs L).ent tN) Tryz.func377 (by kernel_rfl) (lN _)
abbrev yAy:=(List (List V))×(((((Int×Unit)×yAK×Unit)×Unit)×Unit))×Int×Int×Unit
abbrev yBd:=Unit
abbrev yBe:=Int×Unit
abbrev yBA{α:Type}(f1:yF5.T)(s:yAy)(kn:yAy->Option α)(k0:yBd->Option α)(k1:yBe->Option α):Option α:=
 letI qa:=s.2.2.2.1
 bif decide (qa<s.2.2.1) then
 gI s.1 yAL.ks qa<|
 bif(aI s.1 qa.toNat 0) !=s.2.1.1.1.1.1 then
 kn (s.1,((((s.2.1.1.1.1.1,()),s.2.1.1.1.2.1,()),()),()),s.2.2.1,w64 (qa+1),())
 else
 yAA (f1 (⟨aI s.1 qa.toNat 1,aI s.1 qa.toNat 2⟩:yAK) s.2.1.1.1.2.1) fun r1=>
 bif !!r1 then
 k1 (qa,())
 else
 kn (s.1,((((s.2.1.1.1.1.1,()),s.2.1.1.1.2.1,()),()),()),s.2.2.1,w64 (qa+1),())
 else
 k0 (())
abbrev yAz:LW2 yAy yBd yBe:=⟨(lvC 0 (mP cdR) (lvC 1 (mP (cdF 387 (caC (cdP (caC (cdF 376 (caC (cdP (caC cI caN)) (caC (cdP yXU) caN))) caN)) caN))) (lvC 7 (mP cI) (lvC 8 (mP cI) lvN)))),(.exit 0),lvN,.ret,(lvC 4 (mP cI) lvN)⟩
theorem yEO{α:Type}(f1):yAz.Eq (α:=α) [yF5.s f1] Tryz.f366 [1,0,1,0] .no (yBA f1):=fun _ _ _=>by kernel_rfl
abbrev yAb:=fw2 366 (caC cdR (caC (cdF 387 (caC (cdP (caC (cdF 376 (caC (cdP (caC cI caN)) (caC (cdP yXU) caN))) caN)) caN)) caN)) cI
abbrev yBo(F0:LF2 yAy yBd yBe (Int))(x0:List (List V))(x1:(((Int×Unit)×yAK×Unit)×Unit)×Unit):Option Int:=
 F0 (x0,((((x1.1.1.1.1,()),x1.1.1.2.1,()),()),()),(x0.length:Int),0,()) (fun q1=>
 some (-1)) (fun q2=>
 some q2.1)
theorem yE7(F0):yAb.Eq [] (.two .no (.two (.two .no (.one (.lp (yAz.s F0)))) .no)) (yBo F0):=fun _=>by kernel_rfl
def yAn(L:Nat):yAb.T:=yBo (yAQ (yBA (yGs L)) L)
theorem yDr{α:Type}(L:Nat):LO Tryz.f366 [1,0,1,0] (yAz.s (α:=α) (yAQ (yBA (yGs L)) L)):=yAz.k (yEO (yGs L)) (tC (yZv L).ent tN) (lN _) (by kernel_rfl) L
theorem yE6(L:Nat):yAb.C (yAn L):=yAb.c (yE7 (yAQ (yBA (yGs L)) L)) tN Tryz.func366 (by kernel_rfl) (lS (lN _) (lS (lS (lN _) (lB (lL (yDr L)))) (lN _)))
abbrev yAU:=fw2 386 (caC cdR (caC (cdF 387 (caC (cdP (caC (cdF 376 (caC (cdP (caC cI caN)) (caC (cdP yXU) caN))) caN)) caN)) caN)) cdB
abbrev yBZ(f1:yAb.T)(x0:List (List V))(x1:(((Int×Unit)×yAK×Unit)×Unit)×Unit):Option Bool:=
 yAA (f1 x0 ((((x1.1.1.1.1,()),x1.1.1.2.1,()),()),())) fun r1=>
 some (decide (0<=r1))
theorem yEK(f1):yAU.Eq [(366,spF 1 [(387,(yAb.s f1).2)])] .no (yBZ f1):=fun _=>by kernel_rfl
def yA7(L:Nat):yAU.T:=yBZ (yAn L)
theorem yEJ(L:Nat):yAU.C (yA7 L):=yAU.c (yEK (yAn L)) (tC (yQW (yHi (yE6 L).ent yMd)) tN) Tryz.func386 (by kernel_rfl) (lN _)
abbrev yDb:=fw2 375 (caC (cdF 376 (caC (cdP (caC cI caN)) (caC (cdP yXU) caN))) (caC cdR caN)) cdB
abbrev yLE(f1:yAU.T)(x0:(Int×Unit)×yAK×Unit)(x1:List (List V)):Option Bool:=
 yAA (f1 x1 ((((x0.1.1,()),x0.2.1,()),()),())) fun r1=>
 some !r1
theorem yVk(f1):yDb.Eq [(386,spF 1 [(387,(yAU.s f1).2)])] .no (yLE f1):=fun _=>by kernel_rfl
def yKC(L:Nat):yDb.T:=yLE (yA7 L)
theorem yVj(L:Nat):yDb.C (yKC L):=yDb.c (yVk (yA7 L)) (tC (yQW (yHi (yEJ L).ent yMd)) tN) Tryz.func375 (by kernel_rfl) (lN _)
abbrev yF6:=fw3 364 (caC cdR (caC cI (caC yOF caN))) cdB
abbrev yOg(f1:yDb.T)(x0:List (List V))(x1:Int)(x2:yAK):Option Bool:=
 yAA (f1 ((x1,()),x2,()) x0) fun r1=>
 some !r1
theorem yZy(f1):yF6.Eq [(375,spF 0 [(376,(yDb.s f1).2)])] .no (yOg f1):=fun _=>by kernel_rfl
def yL2(L:Nat):yF6.T:=yOg (yKC L)
theorem yZx(L:Nat):yF6.C (yL2 L):=yF6.c (yZy (yKC L)) (tC (yQW (yHi (yVj L).ent yMd)) tN) Tryz.func364 (by kernel_rfl) (lN _)
set_option maxRecDepth 100000
set_option maxHeartbeats 16000000
abbrev yFf:=((List (List V))×(List (List V))×(List (List V))×Int×Int×Int×Int×Int×Int×Int×Int×Unit)×yAI×Bool×yAL×(List (List V))×Int×(List (List V))×Int×Int×Unit
abbrev yIo:=((List (List V))×(List (List V))×(List (List V))×Int×Int×Int×Int×Int×Int×Int×Int×Unit)×yAI×Bool×yAL×(List (List V))×Int×Unit
abbrev yFD{α:Type}(s:yFf)(kn:yFf->Option α)(k0:yIo->Option α):Option α:=
 letI qj:=s.1.2.2.2.2.2.2.1
 letI qi:=s.2.2.2.2.2.2.2.1
 letI qh:=s.1.2.2.2.2.2.2.2.1
 letI qg:=s.1.2.2.2.2.2.2.2.2.1
 letI qf:=s.2.2.2.2.2.2.1
 letI qe:=s.1.2.1
 letI qd:=s.1.2.2.2.2.2.2.2.2.2.1
 letI qc:=s.1.2.2.2.2.2.2.2.2.2.2.1
 letI qb:=s.1.2.2.1
 letI qa:=s.2.2.2.2.2.2.2.2.1
 bif decide (qa<qi) then
 gI qf yAL.ks qa<|
 bif(aI qf qa.toNat 0)==s.2.1.By then
 gW s.1.1 s.1.1.length<|
 gW qe qe.length<|
 gW qb qb.length<|
 kn ((s.1.1,qe,qb,s.1.2.2.2.1,s.1.2.2.2.2.1,s.1.2.2.2.2.2.1,qj,qh,qg,qd,qc,()),s.2.1,s.2.2.1,s.2.2.2.1,s.2.2.2.2.1,w64 (s.2.2.2.2.2.1+1),qf,qi,w64 (qa+1),())
 else
 gW s.1.1 s.1.1.length<|
 gW qe qe.length<|
 gW qb qb.length<|
 kn ((s.1.1,qe,qb,s.1.2.2.2.1,s.1.2.2.2.2.1,s.1.2.2.2.2.2.1,qj,qh,qg,qd,qc,()),s.2.1,s.2.2.1,s.2.2.2.1,s.2.2.2.2.1,s.2.2.2.2.2.1,qf,qi,w64 (qa+1),())
 else
 gW s.1.1 s.1.1.length<|
 gW qe qe.length<|
 gW qb qb.length<|
 k0 ((s.1.1,qe,qb,s.1.2.2.2.1,s.1.2.2.2.2.1,s.1.2.2.2.2.2.1,qj,qh,qg,qd,qc,()),s.2.1,s.2.2.1,s.2.2.2.1,s.2.2.2.2.1,s.2.2.2.2.2.1,())
abbrev yFg:LW1 yFf yIo:=⟨(lvC 0 (mR (zW 2 (zW 4 (zW 4 (zP cI (zP cI (zP cI (zP cI (zP cI (zP cI (zP cI (zP cI zN))))))))))) 11) (lvC 3 yQQ (lvC 5 (mP cdB) (lvC 6 xEx (lvC 7 (mP cdR) (lvC 8 (mP cI) (lvC 37 (mP cdR) (lvC 38 (mP cI) (lvC 39 (mP cI) lvN))))))))),(.exit 0),(lvC 0 (mR (zW 2 (zW 4 (zW 4 (zP cI (zP cI (zP cI (zP cI (zP cI (zP cI (zP cI (zP cI zN))))))))))) 11) (lvC 3 yQQ (lvC 5 (mP cdB) (lvC 6 xEx (lvC 7 (mP cdR) (lvC 8 (mP cI) lvN))))))⟩
theorem yTZ{α:Type}:yFg.Eq (α:=α) [] Tryz.f352 [1,1,1,1,1,0,1,0] .no (yFD):=fun _ _ _=>by kernel_rfl
abbrev yD2:=mw1 352 (zW 2 (zW 4 (zW 4 (zP cI (zP cI (zP cI (zP cI (zP cI (zP cI (zP cI (zP cI zN))))))))))) 11 (caC yNy caN) (cdT caN)
abbrev yMf(f1:yCY.T)(f3:yLC.T)(f4:yF6.T)(f5:yBt.T)(F0:LF1 yFf yIo (Unit×((List (List V))×(List (List V))×(List (List V))×Int×Int×Int×Int×Int×Int×Int×Int×Unit)))(x0:(List (List V))×(List (List V))×(List (List V))×Int×Int×Int×Int×Int×Int×Int×Int×Unit)(x1:yAI):Option (Unit×((List (List V))×(List (List V))×(List (List V))×Int×Int×Int×Int×Int×Int×Int×Int×Unit)):=
 letI qr:=x0.2.1
 letI qn:=x0.2.2.1
 letI qf:=(w64 (0+(qr.length:Int)))+(qn.length:Int)
 letI qc:=qn.take qn.length
 letI qb:=qr.take qr.length
 letI qs:=0+(qb.length)
 letI qa:=qs+(qc.length)
 gF x0.1 (0+x0.1.length)<|
 gF qr (0+qr.length)<|
 gF qn (0+qn.length)<|
 yAA (f1 (⟨(⟨x0.1.take x0.1.length,qr.take qr.length,qn.take qn.length⟩:yAF),(⟨x0.2.2.2.1,x0.2.2.2.2.1,x0.2.2.2.2.2.1,x0.2.2.2.2.2.2.1,x0.2.2.2.2.2.2.2.1,x0.2.2.2.2.2.2.2.2.1,x0.2.2.2.2.2.2.2.2.2.1,x0.2.2.2.2.2.2.2.2.2.2.1⟩:yAR)⟩:yBF) x1.By) fun r1=>
 bif decide (w64 (0+(qr.length:Int))<0) then none else
 bif decide (w64 qf<0) then none else
 gd (decide (0<=w64 qf))<|
 gd (decide (w64 qf<=1000000))<|
 gd (Nat.ble (0+qr.length) qr.length)<|
 gd (qb.all fun r=>Nat.beq r.length 4)<|
 gM qs 32<|
 gd (Nat.ble (0+qn.length) qn.length)<|
 gd (qc.all fun r=>Nat.beq r.length 4)<|
 gd (Nat.beq (0+qs) (qb.length))<|
 gM qa 32<|
 gW x0.1 x0.1.length<|
 gW qr qr.length<|
 gW qn qn.length<|
 gF (qb++qc) (0+qa)<|
 gF (qb++qc) (0+qa)<|
 F0 ((x0.1,qr,qn,x0.2.2.2.1,x0.2.2.2.2.1,x0.2.2.2.2.2.1,x0.2.2.2.2.2.2.1,x0.2.2.2.2.2.2.2.1,x0.2.2.2.2.2.2.2.2.1,x0.2.2.2.2.2.2.2.2.2.1,x0.2.2.2.2.2.2.2.2.2.2.1,()),x1,r1.2.1,(⟨x1.By,x1.Span,x1.Mode⟩:yAL),(qb++qc).take qa,0,(qb++qc).take qa,(qs+(qc.length):Int),0,()) (fun q2=>
 letI qt:=q2.2.2.2.1
 letI qq:=q2.1.2.2.2.1
 letI qp:=q2.1.1
 letI qo:=q2.1.2.2.2.2.1
 letI qm:=q2.1.2.2.2.2.2.1
 letI ql:=q2.1.2.2.2.2.2.2.1
 letI qk:=q2.1.2.1
 letI qj:=q2.1.2.2.2.2.2.2.2.1
 letI qi:=q2.1.2.2.2.2.2.2.2.2.1
 letI qh:=q2.1.2.2.2.2.2.2.2.2.2.1
 letI qg:= [[V.int .i64 qt.Key,V.int .i64 qt.Span.Lo,V.int .i64 qt.Span.Hi,V.int .i8 qt.Mode]]
 letI qe:=q2.1.2.2.2.2.2.2.2.2.2.2.1
 letI qd:=q2.1.2.2.1
 bif q2.2.2.1 then
 yAA (f3 (⟨qq,qo,qm,ql,qj,qi,qh,qe⟩:yAR) qt) fun r3=>
 bif r3 then
 yAA (f4 q2.2.2.2.2.1 q2.2.1.By q2.2.1.Span) fun r4=>
 bif !r4 then
 bif decide (q2.2.2.2.2.2.1<64) then
 gd (Nat.beq (0+qd.length) qd.length)<|
 gM (qd.length+1) 32<|
 gW qp qp.length<|
 gW qk qk.length<|
 gW (qd++qg) (qd.length+1)<|
 yAA (f5 (qp,qk,qd++qg,qq,qo,qm,ql,qj,qi,qh,qe,())) fun r5=>
 gW r5.2.1 r5.2.1.length<|
 gW r5.2.2.1 r5.2.2.1.length<|
 gW r5.2.2.2.1 r5.2.2.2.1.length<|
 some ((()),(r5.2.1,r5.2.2.1,r5.2.2.2.1,r5.2.2.2.2.1,r5.2.2.2.2.2.1,r5.2.2.2.2.2.2.1,r5.2.2.2.2.2.2.2.1,r5.2.2.2.2.2.2.2.2.1,r5.2.2.2.2.2.2.2.2.2.1,r5.2.2.2.2.2.2.2.2.2.2.1,r5.2.2.2.2.2.2.2.2.2.2.2.1,()))
 else
 gW qp qp.length<|
 gW qk qk.length<|
 gW qd qd.length<|
 some ((()),(qp,qk,qd,qq,qo,qm,ql,qj,qi,qh,qe,()))
 else
 gW qp qp.length<|
 gW qk qk.length<|
 gW qd qd.length<|
 some ((()),(qp,qk,qd,qq,qo,qm,ql,qj,qi,qh,qe,()))
 else
 gW qp qp.length<|
 gW qk qk.length<|
 gW qd qd.length<|
 some ((()),(qp,qk,qd,qq,qo,qm,ql,qj,qi,qh,qe,()))
 else
 gW qp qp.length<|
 gW qk qk.length<|
 gW qd qd.length<|
 some ((()),(qp,qk,qd,qq,qo,qm,ql,qj,qi,qh,qe,())))
theorem yW2(f1 f3 f4 f5 F0):yD2.Eq [yCY.s f1,sGr 373 4,yLC.s f3,yF6.s f4,yBt.s f5] (.two .no (.two .no (.two .no (.two .no (.two .no (.two (.two .no (.one (.lp (yFg.s F0)))) .no)))))) (yMf f1 f3 f4 f5 F0):=fun _ _=>by kernel_rfl
def yH9(L:Nat):yD2.T:=yMf (yDl L) (yRs L) (yL2 L) (yCU L) (yBV (yFD) L)
theorem ySK{α:Type}(L:Nat):LO Tryz.f352 [1,1,1,1,1,0,1,0] (yFg.s (α:=α) (yBV (yFD) L)):=yFg.k (yTZ) tN (lN _) (by kernel_rfl) L
theorem yW1(L:Nat):yD2.C (yH9 L):=yD2.c (yW2 (yDl L) (yRs L) (yL2 L) (yCU L) (yBV (yFD) L)) (tC (yPA L).ent (tC yTT (tC (xFj L).ent (tC (yZx L).ent (tC (yKF L).ent tN))))) Tryz.func352 (by kernel_rfl) (lS (lN _) (lS (lN _) (lS (lN _) (lS (lN _) (lS (lN _) (lS (lS (lN _) (lB (lL (ySK L)))) (lN _)))))))
abbrev yBC:=qw2 370 4 (caC cI (caC cI caN))
abbrev yCg(x0:List (List V))(x1:Int)(x2:Int):Option (List (List V)):=
 letI qh:=((x0.length:Int).toNat:Int)
 letI qg:=decide (0<=(x0.length:Int))
 letI qf:=decide ((x0.length:Int)<=(x0.length:Int))
 letI qe:=0+x1.toNat
 letI qa:=(x0.drop (0+x2.toNat)).take (x0.length-x2.toNat)
 letI qi:=qa.length
 letI qd:=x1.toNat+qi
 letI qc:=(x1.toNat+qi:Int)
 letI qb:=((x0.take qe)++(qa++(x0.drop (qe+qi)))).take (0+qc.toNat)
 gd qg<|
 gd qf<|
 gd (decide (0<=x2))<|
 gd (decide (x2<=qh))<|
 gd (decide (0<=x1))<|
 gd (decide (x1<=(x2.toNat:Int)))<|
 bif x1==x2 then
 gd (Nat.ble x0.length x0.length)<|
 gd (yCF (x0.take x0.length))<|
 some (x0.take x0.length)
 else
 gd (decide (0<=x1))<|
 gd (decide (x1<=(x0.length:Int)))<|
 gd (decide (0<=x2))<|
 gd (decide (x2<=(x0.length:Int)))<|
 gd (Nat.ble ((0+x2.toNat)+(x0.length-x2.toNat)) x0.length)<|
 gd (qa.all fun r=>Nat.beq r.length 4)<|
 gd (!(Nat.beq qe x0.length))<|
 gd (Nat.ble qd x0.length)<|
 gd (Nat.ble (qe+qi) x0.length)<|
 gd (Nat.ble 0 qe)<|
 gd qg<|
 gd qf<|
 gd (decide (0<=qc))<|
 gd (decide (qc<=qh))<|
 gd (Nat.ble 0 (0+qc.toNat))<|
 gd (Nat.ble qd (qb.length))<|
 gd (yCF (qb.take qd))<|
 some (qb.take qd)
theorem yJ7:yBC.Eq [] .no (yCg):=fun _ _=>by kernel_rfl
def yBm(L:Nat):yBC.T:=yCg
theorem yJ6(L:Nat):yBC.C (yBm L):=yBC.c (yJ7) tN Tryz.func370 (by kernel_rfl) (lN _)
set_option maxRecDepth 100000
set_option maxHeartbeats 16000000
abbrev yBG:=(List (List V))×((yAI×Unit))×Int×Int×Unit
abbrev yBu:=Unit
abbrev yBv:=Int×Unit
abbrev yBR{α:Type}(s:yBG)(kn:yBG->Option α)(k0:yBu->Option α)(k1:yBv->Option α):Option α:=
 letI qa:=s.2.2.2.1
 bif decide (qa<s.2.2.1) then
 gI s.1 yAL.ks qa<|
 bif(aI s.1 qa.toNat 0)==s.2.1.1.By then
 bif((aI s.1 qa.toNat 1)==s.2.1.1.Span.Lo)&&(((aI s.1 qa.toNat 2)==s.2.1.1.Span.Hi)&&true) then
 k1 (qa,())
 else
 kn (s.1,(s.2.1.1,()),s.2.2.1,w64 (qa+1),())
 else
 kn (s.1,(s.2.1.1,()),s.2.2.1,w64 (qa+1),())
 else
 k0 (())
abbrev yBH:LW2 yBG yBu yBv:=⟨(lvC 0 (mP cdR) (lvC 1 (mP (cdF 367 (caC (cdP xCW) caN))) (lvC 7 (mP cI) (lvC 8 (mP cI) lvN)))),(.exit 0),lvN,.ret,(lvC 4 (mP cI) lvN)⟩
theorem yFE{α:Type}:yBH.Eq (α:=α) [] Tryz.f366 [1,0,1,0] .no (yBR):=fun _ _ _=>by kernel_rfl
abbrev yAe:=fw2 366 (caC cdR (caC (cdF 367 (caC (cdP xCW) caN)) caN)) cI
abbrev yB5(F0:LF2 yBG yBu yBv (Int))(x0:List (List V))(x1:yAI×Unit):Option Int:=
 F0 (x0,(x1.1,()),(x0.length:Int),0,()) (fun q1=>
 some (-1)) (fun q2=>
 some q2.1)
theorem yGA(F0):yAe.Eq [] (.two .no (.two (.two .no (.one (.lp (yBH.s F0)))) .no)) (yB5 F0):=fun _=>by kernel_rfl
def yA3(L:Nat):yAe.T:=yB5 (yAQ (yBR) L)
theorem yE2{α:Type}(L:Nat):LO Tryz.f366 [1,0,1,0] (yBH.s (α:=α) (yAQ (yBR) L)):=yBH.k (yFE) tN (lN _) (by kernel_rfl) L
theorem yF9(L:Nat):yAe.C (yA3 L):=yAe.c (yGA (yAQ (yBR) L)) tN Tryz.func366 (by kernel_rfl) (lS (lN _) (lS (lS (lN _) (lB (lL (yE2 L)))) (lN _)))
abbrev yBI:=(List (List V))×((yAI×Unit))×Int×Int×Unit
abbrev yBw:=Unit
abbrev yBx:=Int×Unit
abbrev yBS{α:Type}(s:yBI)(kn:yBI->Option α)(k0:yBw->Option α)(k1:yBx->Option α):Option α:=
 letI qa:=s.2.2.2.1
 bif decide (qa<s.2.2.1) then
 gI s.1 yAL.ks qa<|
 bif(aI s.1 qa.toNat 0)==s.2.1.1.By then
 bif((aI s.1 qa.toNat 1)==s.2.1.1.Span.Lo)&&(((aI s.1 qa.toNat 2)==s.2.1.1.Span.Hi)&&true) then
 k1 (qa,())
 else
 kn (s.1,(s.2.1.1,()),s.2.2.1,w64 (qa+1),())
 else
 kn (s.1,(s.2.1.1,()),s.2.2.1,w64 (qa+1),())
 else
 k0 (())
abbrev yBJ:LW2 yBI yBw yBx:=⟨(lvC 0 (mP cdR) (lvC 1 (mP (cdF 371 (caC (cdP xCW) caN))) (lvC 7 (mP cI) (lvC 8 (mP cI) lvN)))),(.exit 0),lvN,.ret,(lvC 4 (mP cI) lvN)⟩
theorem yFF{α:Type}:yBJ.Eq (α:=α) [] Tryz.f366 [1,0,1,0] .no (yBS):=fun _ _ _=>by kernel_rfl
abbrev yAf:=fw2 366 (caC cdR (caC (cdF 371 (caC (cdP xCW) caN)) caN)) cI
abbrev yB6(F0:LF2 yBI yBw yBx (Int))(x0:List (List V))(x1:yAI×Unit):Option Int:=
 F0 (x0,(x1.1,()),(x0.length:Int),0,()) (fun q1=>
 some (-1)) (fun q2=>
 some q2.1)
theorem yGC(F0):yAf.Eq [] (.two .no (.two (.two .no (.one (.lp (yBJ.s F0)))) .no)) (yB6 F0):=fun _=>by kernel_rfl
def yA4(L:Nat):yAf.T:=yB6 (yAQ (yBS) L)
theorem yE3{α:Type}(L:Nat):LO Tryz.f366 [1,0,1,0] (yBJ.s (α:=α) (yAQ (yBS) L)):=yBJ.k (yFF) tN (lN _) (by kernel_rfl) L
theorem yGB(L:Nat):yAf.C (yA4 L):=yAf.c (yGC (yAQ (yBS) L)) tN Tryz.func366 (by kernel_rfl) (lS (lN _) (lS (lS (lN _) (lB (lL (yE3 L)))) (lN _)))
set_option maxRecDepth 100000
set_option maxHeartbeats 16000000
abbrev yES:=fw3 298 (caC yCI (caC yC1 (caC yNy caN))) yC1
abbrev yHj(f1:yNq.T)(f2:yNp.T)(f3:yCY.T)(f4:yAh.T)(f5:yDH.T)(f6:yD2.T)(f7:yAe.T)(f8:yBC.T)(f9:yBt.T)(f10:yAf.T)(x0:yAR)(x1:yAF)(x2:yAI):Option yAF:=
 bif decide (x2.Kind<0) then
 some x1
 else
 bif decide (6<=w64 x2.Kind) then
 some x1
 else
 yAA (f1 x1.Slots) fun r1=>
 letI qb:=0+r1.length
 yAA (f2 x1.Holds) fun r2=>
 letI qc:=0+r2.length
 yAA (f2 x1.Queue) fun r3=>
 letI qd:=0+r3.length
 letI qa:=(⟨r1.take r1.length,r2.take r2.length,r3.take r3.length⟩:yAF)
 letI qh:=(⟨qa,x0⟩:yBF)
 bif decide (x2.Kind=0) then
 gF r1 qb<|
 gF r2 qc<|
 gF r3 qd<|
 yAA (f3 qh x2.By) fun r4=>
 gF r1 qb<|
 yAA (f4 (r1.take r1.length) (())) fun r5=>
 letI qi:=r1.getD (0+r5.toNat) []
 letI qf:=r1.set (0+r5.toNat) (qi.take 0++([V.int .i64 x2.By]++qi.drop 1))
 bif !r4.2.1 then
 bif decide (0<=r5) then
 gB r5 r1.length<|
 gd (decide (0+r5.toNat<r1.length))<|
 gd (Nat.ble 0 (0+r5.toNat))<|
 gd (Nat.ble 1 qi.length)<|
 gF qf qb<|
 gF r2 qc<|
 gF r3 qd<|
 some (⟨qf.take r1.length,r2.take r2.length,r3.take r3.length⟩:yAF)
 else
 gF r1 qb<|
 gF r2 qc<|
 gF r3 qd<|
 some qa
 else
 gF r1 qb<|
 gF r2 qc<|
 gF r3 qd<|
 some qa
 else
 bif decide (x2.Kind=1) then
 gF r1 qb<|
 gF r2 qc<|
 gF r3 qd<|
 yAA (f3 qh x2.By) fun r6=>
 bif r6.2.1 then
 gW r1 r1.length<|
 gW r2 r2.length<|
 gW r3 r3.length<|
 yAA (f5 (r1,r2,r3,x0.Nodes,x0.Slots,x0.Blocks,x0.Per,x0.Journal,x0.Log,x0.Lease,x0.Wait,()) r6.1) fun r7=>
 gF r7.2.1 (0+r7.2.1.length)<|
 gF r7.2.2.1 (0+r7.2.2.1.length)<|
 gF r7.2.2.2.1 (0+r7.2.2.2.1.length)<|
 some (⟨r7.2.1.take r7.2.1.length,r7.2.2.1.take r7.2.2.1.length,r7.2.2.2.1.take r7.2.2.2.1.length⟩:yAF)
 else
 gF r1 qb<|
 gF r2 qc<|
 gF r3 qd<|
 some qa
 else
 bif decide (x2.Kind=2) then
 gW r1 r1.length<|
 gW r2 r2.length<|
 gW r3 r3.length<|
 yAA (f6 (r1,r2,r3,x0.Nodes,x0.Slots,x0.Blocks,x0.Per,x0.Journal,x0.Log,x0.Lease,x0.Wait,()) x2) fun r8=>
 gF r8.2.1 (0+r8.2.1.length)<|
 gF r8.2.2.1 (0+r8.2.2.1.length)<|
 gF r8.2.2.2.1 (0+r8.2.2.2.1.length)<|
 some (⟨r8.2.1.take r8.2.1.length,r8.2.2.1.take r8.2.2.1.length,r8.2.2.2.1.take r8.2.2.2.1.length⟩:yAF)
 else
 bif decide (x2.Kind=3) then
 gF r2 qc<|
 yAA (f7 (r2.take r2.length) (x2,())) fun r9=>
 bif decide (0<=r9) then
 gd (Nat.beq r2.length r2.length)<|
 gd (yCF r2)<|
 yAA (f8 r2 r9 (w64 (r9+1))) fun r10=>
 gW r1 r1.length<|
 gW r10 r10.length<|
 gW r3 r3.length<|
 yAA (f9 (r1,r10,r3,x0.Nodes,x0.Slots,x0.Blocks,x0.Per,x0.Journal,x0.Log,x0.Lease,x0.Wait,())) fun r11=>
 letI qj:=r11.2.2.2.1
 gF r11.2.1 (0+r11.2.1.length)<|
 gF r11.2.2.1 (0+r11.2.2.1.length)<|
 gF qj (0+qj.length)<|
 some (⟨r11.2.1.take r11.2.1.length,r11.2.2.1.take r11.2.2.1.length,qj.take qj.length⟩:yAF)
 else
 gF r3 qd<|
 yAA (f10 (r3.take r3.length) (x2,())) fun r12=>
 bif decide (0<=r12) then
 gd (Nat.beq r3.length r3.length)<|
 gd (yCF r3)<|
 yAA (f8 r3 r12 (w64 (r12+1))) fun r13=>
 gW r1 r1.length<|
 gW r2 r2.length<|
 gW r13 r13.length<|
 yAA (f9 (r1,r2,r13,x0.Nodes,x0.Slots,x0.Blocks,x0.Per,x0.Journal,x0.Log,x0.Lease,x0.Wait,())) fun r14=>
 letI qk:=r14.2.2.2.1
 gF r14.2.1 (0+r14.2.1.length)<|
 gF r14.2.2.1 (0+r14.2.2.1.length)<|
 gF qk (0+qk.length)<|
 some (⟨r14.2.1.take r14.2.1.length,r14.2.2.1.take r14.2.2.1.length,qk.take qk.length⟩:yAF)
 else
 gF r1 qb<|
 gF r2 qc<|
 gF r3 qd<|
 some qa
 else
 bif decide (x2.Kind=4) then
 gF r1 qb<|
 gF r2 qc<|
 gF r3 qd<|
 yAA (f3 qh x2.Dead) fun r15=>
 letI qe:=0+r15.1.toNat
 letI qg:=r1.set qe ((r1.getD qe []).take 1++([V.int .i64 x2.By]++(r1.getD qe []).drop 2))
 bif r15.2.1 then
 gB r15.1 r1.length<|
 gL r1 kI qe 1<|
 bif(aI r1 qe 1)==x2.Was then
 bif x2.By !=x2.Dead then
 gB r15.1 r1.length<|
 gd (decide (0+r15.1.toNat<r1.length))<|
 gd (Nat.ble 0 qe)<|
 gd (Nat.ble 2 (r1.getD qe []).length)<|
 gF qg qb<|
 gF r2 qc<|
 gF r3 qd<|
 some (⟨qg.take r1.length,r2.take r2.length,r3.take r3.length⟩:yAF)
 else
 gF r1 qb<|
 gF r2 qc<|
 gF r3 qd<|
 some qa
 else
 gF r1 qb<|
 gF r2 qc<|
 gF r3 qd<|
 some qa
 else
 gF r1 qb<|
 gF r2 qc<|
 gF r3 qd<|
 some qa
 else
 gd (decide (x2.Kind=5))<|
 gF r1 qb<|
 gF r2 qc<|
 gF r3 qd<|
 yAA (f3 qh x2.Dead) fun r16=>
 bif r16.2.1 then
 bif x2.By !=0 then
 gB r16.1 r1.length<|
 gL r1 kI (0+r16.1.toNat) 1<|
 bif(aI r1 (0+r16.1.toNat) 1)==x2.By then
 gW r1 r1.length<|
 gW r2 r2.length<|
 gW r3 r3.length<|
 yAA (f5 (r1,r2,r3,x0.Nodes,x0.Slots,x0.Blocks,x0.Per,x0.Journal,x0.Log,x0.Lease,x0.Wait,()) r16.1) fun r17=>
 letI ql:=r17.2.2.2.1
 gF r17.2.1 (0+r17.2.1.length)<|
 gF r17.2.2.1 (0+r17.2.2.1.length)<|
 gF ql (0+ql.length)<|
 some (⟨r17.2.1.take r17.2.1.length,r17.2.2.1.take r17.2.2.1.length,ql.take ql.length⟩:yAF)
 else
 gF r1 qb<|
 gF r2 qc<|
 gF r3 qd<|
 some qa
 else
 gF r1 qb<|
 gF r2 qc<|
 gF r3 qd<|
 some qa
 else
 gF r1 qb<|
 gF r2 qc<|
 gF r3 qd<|
 some qa
theorem xB4(f1 f2 f3 f4 f5 f6 f7 f8 f9 f10):yES.Eq [yNq.s f1,yNp.s f2,yCY.s f3,(260,spF 1 [(360,(yAh.s f4).2)]),yDH.s f5,yD2.s f6,(366,spF 1 [(367,(yAe.s f7).2),(371,(yAf.s f10).2)]),yBC.s f8,yBt.s f9] .no (yHj f1 f2 f3 f4 f5 f6 f7 f8 f9 f10):=fun _=>by kernel_rfl
def yC0(L:Nat):yES.T:=yHj (yHh L) (yHg L) (yDl L) (yA6 L) (yFn L) (yH9 L) (yA3 L) (yBm L) (yCU L) (yA4 L)
theorem yUm(L:Nat):yES.C (yC0 L):=yES.c (xB4 (yHh L) (yHg L) (yDl L) (yA6 L) (yFn L) (yH9 L) (yA3 L) (yBm L) (yCU L) (yA4 L)) (tC (yTS L).ent (tC (yTR L).ent (tC (yPA L).ent (tC (yQW (yHi (yGF L).ent yMd)) (tC (yUn L).ent (tC (yW1 L).ent (tC (yQW (yHi (yF9 L).ent (yHi (yGB L).ent yMd))) (tC (yJ6 L).ent (tC (yKF L).ent tN))))))))) Tryz.func298 (by kernel_rfl) (lN _)
abbrev yFL:=fw4 196 (caC yCI (caC yC1 (caC cI (caC cdS caN)))) (cdT (caC yC1 (caC cI (caC yNy (caC cdB (caC cI caN))))))
abbrev yN1(f1:yFv.T)(f2:yES.T)(x0:yAR)(x1:yAF)(x2:Int)(x3:ByteArray):Option (yAF×Int×yAI×Bool×Int×Unit):=
 yAA (f1 x3) fun r1=>
 bif r1.2.2.2.1==0 then
 bif r1.2.2.1 then
 yAA (f2 x0 x1 r1.1) fun r2=>
 some (r2,w64 (x2+1),r1.1,true,r1.2.2.2.1,())
 else
 some (x1,x2,r1.1,false,r1.2.2.2.1,())
 else
 some (x1,x2,r1.1,false,r1.2.2.2.1,())
theorem xC3(f1 f2):yFL.Eq [yFv.s f1,yES.s f2] .no (yN1 f1 f2):=fun _=>by kernel_rfl
def yG7(L:Nat):yFL.T:=yN1 (yGa L) (yC0 L)
theorem yV2(L:Nat):yFL.C (yG7 L):=yFL.c (xC3 (yGa L) (yC0 L)) (tC (yZB L).ent (tC (yUm L).ent tN)) Tryz.func196 (by kernel_rfl) (lN _)
abbrev yEu:=fw1 287 (caC (cdP yGW) caN) (cdT (caC yNy (caC cdB caN)))
abbrev yRG(f1:yBq.T)(x0:yAS):Option (yAI×Bool×Unit):=
 yAA (f1 x0.Prop_.Cmd) fun r1=>
 some (r1.1,r1.2.1==0,())
theorem yX8(f1):yEu.Eq [yBq.s f1] .no (yRG f1):=fun _=>by kernel_rfl
def yPY(L:Nat):yEu.T:=yRG (yCN L)
theorem yX7(L:Nat):yEu.C (yPY L):=yEu.c (yX8 (yCN L)) (tC (yH0 L).ent tN) Tryz.func287 (by kernel_rfl) (lN _)
abbrev yFu:=fw3 324 (caC yNy (caC cI (caC cI caN))) cdB
abbrev ySU(x0:yAI)(x1:Int)(x2:Int):Option Bool:=
 bif x0.By==x1 then
 some (x0.Serial==x2)
 else
 some false
theorem yY9:yFu.Eq [] .no (ySU):=fun _=>by kernel_rfl
def yQx(L:Nat):yFu.T:=ySU
theorem yY8(L:Nat):yFu.C (yQx L):=yFu.c (yY9) tN Tryz.func324 (by kernel_rfl) (lN _)
set_option maxRecDepth 100000
set_option maxHeartbeats 16000000
abbrev yM6:=fw1 288 (caC yCI caN) cI
abbrev xAD(f1:yCo.T)(x0:yAR):Option Int:=
 yAA (f1 x0) fun r1=>
 bif !r1 then
 some 0
 else
 some (w64 (4*x0.Slots))
theorem xHA(f1):yM6.Eq [yCo.s f1] .no (xAD f1):=fun _=>by kernel_rfl
def xAu(L:Nat):yM6.T:=xAD (yF8 L)
theorem xG9(L:Nat):yM6.C (xAu L):=yM6.c (xHA (yF8 L)) (tC (yNM L).ent tN) Tryz.func288 (by kernel_rfl) (lN _)
abbrev yC2:=fw1 244 (caC cI caN) yNF
abbrev yUA(x0:Int):Option yAp:=
 bif decide (x0<0) then
 some yAp.z
 else
 some (⟨1,x0,noS,0⟩:yAp)
theorem xBF:yC2.Eq [] .no (yUA):=fun _=>by kernel_rfl
def yIg(L:Nat):yC2.T:=yUA
theorem yPX(L:Nat):yC2.C (yIg L):=yC2.c (xBF) tN Tryz.func244 (by kernel_rfl) (lN _)
abbrev yDI:=fw2 245 (caC yCI (caC cI caN)) cI
abbrev yXr(f1:yGM.T)(x0:yAR)(x1:Int):Option Int:=
 yAA (f1 x0 3 x1 0) fun r1=>
 some r1
theorem xEo(f1):yDI.Eq [yGM.s f1] .no (yXr f1):=fun _=>by kernel_rfl
def yJa(L:Nat):yDI.T:=yXr (yNN L)
theorem yPM(L:Nat):yDI.C (yJa L):=yDI.c (xEo (yNN L)) (tC (yTz L).ent tN) Tryz.func245 (by kernel_rfl) (lN _)
abbrev yDx:=fw1 243 (caC (cdP yGW) caN) yNF
abbrev yQT(f1:yDI.T)(f2:yC2.T)(x0:yAS):Option yAp:=
 yAA (f1 x0.g_ x0.Prop_.Node) fun r1=>
 yAA (f2 r1) fun r2=>
 some r2
theorem yWa(f1 f2):yDx.Eq [yDI.s f1,yC2.s f2] .no (yQT f1 f2):=fun _=>by kernel_rfl
def yOM(L:Nat):yDx.T:=yQT (yJa L) (yIg L)
theorem yWZ(L:Nat):yDx.C (yOM L):=yDx.c (yWa (yJa L) (yIg L)) (tC (yPM L).ent (tC (yPX L).ent tN)) Tryz.func243 (by kernel_rfl) (lN _)
abbrev yFm:=(List (List V))×ByteArray×Int×(List (List V))×Int×Int×Unit
abbrev yIY:=(List (List V))×ByteArray×Int×Unit
abbrev yMc:=(List (List V))×ByteArray×Int×Unit
abbrev yCH{α:Type}(f1:yDM.T)(s:yFm)(kn:yFm->Option α)(k0:yIY->Option α)(k1:yMc->Option α):Option α:=
 letI qb:=s.2.2.2.1
 letI qa:=s.2.2.2.2.2.1
 bif decide (qa<s.2.2.2.2.1) then
 gI qb kI qa<|
 bif s.2.2.1 !=0 then
 gW s.1 s.1.length<|
 k0 (s.1,s.2.1,s.2.2.1,())
 else
 yAA (f1 s.2.1 0 (aI qb qa.toNat 0)) fun r1=>
 bif r1.2.1 !=0 then
 k1 ([],noS,30,())
 else
 gd (Nat.beq (0+s.1.length) s.1.length)<|
 gM (s.1.length+1) 8<|
 gd (decide (0<=aI qb qa.toNat 0))<|
 gd (decide (aI qb qa.toNat 0<=(s.2.1.size:Int)))<|
 gW (s.1++([[V.int .i64 r1.1]])) (s.1.length+1)<|
 kn (s.1++([[V.int .i64 r1.1]]),s.2.1.extract ((aI qb qa.toNat 0).toNat) s.2.1.size,s.2.2.1,qb,s.2.2.2.2.1,w64 (qa+1),())
 else
 gW s.1 s.1.length<|
 k0 (s.1,s.2.1,s.2.2.1,())
abbrev yIZ:LW2 yFm yIY yMc:=⟨(lvC 6 (mW 1) (lvC 7 (mP cdS) (lvC 8 (mP cI) (lvC 19 (mP cdR) (lvC 20 (mP cI) (lvC 21 (mP cI) lvN)))))),(.exit 0),(lvC 6 (mW 1) (lvC 7 (mP cdS) (lvC 8 (mP cI) lvN))),.ret,(lvC 6 (mW 1) (lvC 7 (mP cdS) (lvC 8 (mP cI) lvN)))⟩
theorem yWw{α:Type}(f1):yIZ.Eq (α:=α) [yDM.s f1] Tryz.f254 [1,1,0,1,0] .no (yCH f1):=fun _ _ _=>by kernel_rfl
abbrev yC7:=rw3 254 .t (caC (cdI .i8) (caC cdS (caC cdR caN))) (zW 1 (zP cdS (zP cI zN)))
abbrev yQG(f1:yL0.T)(F0:LF2 yFm yIY yMc ((List (List V))×ByteArray×Int×Unit))(x0:Int)(x1:ByteArray)(x2:List (List V)):Option ((List (List V))×ByteArray×Int×Unit):=
 yAA (f1 x0 x1) fun r1=>
 F0 ([],r1.1,r1.2.1,x2,(x2.length:Int),0,()) (fun q2=>
 bif q2.2.2.1 !=0 then
 some ([],noS,q2.2.2.1,())
 else
 gW q2.1 q2.1.length<|
 some (q2.1,q2.2.1,0,())) (fun q3=>
 gW q3.1 q3.1.length<|
 some (q3.1,q3.2.1,q3.2.2.1,()))
theorem xBu(f1 F0):yC7.Eq [yL0.s f1] (.two .no (.two .no (.two (.two .no (.one (.lp (yIZ.s F0)))) .no))) (yQG f1 F0):=fun _=>by kernel_rfl
def yEd(L:Nat):yC7.T:=yQG (yRo L) (yAQ (yCH (yBX L)) L)
theorem yVf{α:Type}(L:Nat):LO Tryz.f254 [1,1,0,1,0] (yIZ.s (α:=α) (yAQ (yCH (yBX L)) L)):=yIZ.k (yWw (yBX L)) (tC (yOt L).ent tN) (lN _) (by kernel_rfl) L
theorem yQF(L:Nat):yC7.C (yEd L):=yC7.c (xBu (yRo L) (yAQ (yCH (yBX L)) L)) (tC (xD5 L).ent tN) Tryz.func254 (by kernel_rfl) (lS (lN _) (lS (lN _) (lS (lS (lN _) (lB (lL (yVf L)))) (lN _))))
abbrev yCP:=fw1 326 (caC (cdP yMA) caN) cdR
abbrev yKL(x0:yAd):Option (List (List V)):=
 some ([[V.int .i64 2],[V.int .i64 6],[V.int .i64 6]])
theorem yQZ:yCP.Eq [] .no (yKL):=fun _=>by kernel_rfl
def yHm(L:Nat):yCP.T:=yKL
theorem yQY(L:Nat):yCP.C (yHm L):=yCP.c (yQZ) tN Tryz.func326 (by kernel_rfl) (lN _)
abbrev yCl:=fw3 329 (caC cI (caC cI (caC cI caN))) cdB
abbrev yQL(x0:Int)(x1:Int)(x2:Int):Option Bool:=
 bif decide (x1<=x0) then
 some (decide (x0<=x2))
 else
 some false
theorem yWI:yCl.Eq [] .no (yQL):=fun _=>by kernel_rfl
def yHw(L:Nat):yCl.T:=yQL
theorem yQK(L:Nat):yCl.C (yHw L):=yCl.c (yWI) tN Tryz.func329 (by kernel_rfl) (lN _)
abbrev yCB:=fw1 327 (caC (cdP yMA) caN) cdB
abbrev yNE(f1:yCl.T)(x0:yAd):Option Bool:=
 yAA (f1 x0.Rec.Inst 0 512) fun r1=>
 bif r1 then
 yAA (f1 x0.Rec.Mbal 0 1099511627776) fun r2=>
 bif r2 then
 yAA (f1 x0.Rec.Bal 0 x0.Rec.Mbal) fun r3=>
 bif r3 then
 bif decide ((x0.Rec.Val.size:Int)<=64) then
 some ((x0.Rec.Bal==0)==(x0.Rec.Val.toList==noS.toList))
 else
 some false
 else
 some false
 else
 some false
 else
 some false
theorem ySh(f1):yCB.Eq [yCl.s f1] .no (yNE f1):=fun _=>by kernel_rfl
def yEm(L:Nat):yCB.T:=yNE (yHw L)
theorem yND(L:Nat):yCB.C (yEm L):=yCB.c (ySh (yHw L)) (tC (yQK L).ent tN) Tryz.func327 (by kernel_rfl) (lN _)
abbrev yGw:=fw1 289 (caC cdS caN) (cdT (caC xCa (caC cI caN)))
abbrev yTd(f1:yC7.T)(f2:yCB.T)(x0:ByteArray):Option (yCn×Int×Unit):=
 bif x0.toList==noS.toList then
 some (yCn.z,0,())
 else
 yAA (f1 4 x0 ([[V.int .i64 2],[V.int .i64 6],[V.int .i64 6]])) fun r1=>
 letI qa:=(⟨aI r1.1 0 0,aI r1.1 1 0,aI r1.1 2 0,r1.2.1⟩:yCn)
 bif r1.2.2.1 !=0 then
 some (yCn.z,50,())
 else
 gd (decide (0<(r1.1.length:Int)))<|
 gL r1.1 kI 0 0<|
 gd (decide (1<(r1.1.length:Int)))<|
 gL r1.1 kI 1 0<|
 gd (decide (2<(r1.1.length:Int)))<|
 gL r1.1 kI 2 0<|
 yAA (f2 (⟨qa⟩:yAd)) fun r2=>
 bif !r2 then
 some (yCn.z,50,())
 else
 some (qa,0,())
theorem xAf(f1 f2):yGw.Eq [yC7.s f1,yCB.s f2] .no (yTd f1 f2):=fun _=>by kernel_rfl
def ySg(L:Nat):yGw.T:=yTd (yEd L) (yEm L)
theorem xAe(L:Nat):yGw.C (ySg L):=yGw.c (xAf (yEd L) (yEm L)) (tC (yQF L).ent (tC (yND L).ent tN)) Tryz.func289 (by kernel_rfl) (lN _)
abbrev yKM:=fw2 290 (caC xCa (caC cI caN)) xCa
abbrev yXP(x0:yCn)(x1:Int):Option yCn:=
 bif x0.Inst !=x1 then
 some (⟨x1,x0.Mbal,0,noS⟩:yCn)
 else
 some x0
theorem xEZ:yKM.Eq [] .no (yXP):=fun _=>by kernel_rfl
def yXO(L:Nat):yKM.T:=yXP
theorem xEY(L:Nat):yKM.C (yXO L):=yKM.c (xEZ) tN Tryz.func290 (by kernel_rfl) (lN _)
abbrev yDR:=(List (List V))×Int×Int×Unit
abbrev yFd:=Int×Unit
abbrev yER{α:Type}(s:yDR)(kn:yDR->Option α)(k0:yFd->Option α):Option α:=
 bif decide (s.2.2.1<(s.1.length:Int)) then
 gI s.1 kI s.2.2.1<|
 kn (s.1,yL4 true s.2.1 (aI s.1 s.2.2.1.toNat 0),w64 (s.2.2.1+1),())
 else
 k0 (s.2.1,())
abbrev yDS:LW1 yDR yFd:=⟨(lvC 0 (mP cdR) (lvC 3 (mP cI) (lvC 4 (mP cI) lvN))),(.exit 0),(lvC 3 (mP cI) lvN)⟩
theorem yQH{α:Type}:yDS.Eq (α:=α) [] Tryz.f328 [1,1,1,0,1,0] .no (yER):=fun _ _ _=>by kernel_rfl
abbrev yCj:=fw1 328 (caC cdR caN) cI
abbrev yMl(F0:LF1 yDR yFd (Int))(x0:List (List V)):Option Int:=
 bif decide ((x0.length:Int)<1) then none else
 gd (decide (0<(x0.length:Int)))<|
 gd (rowIs kI x0 0)<|
 F0 (x0,aI x0 0 0,1,()) (fun q1=>
 some q1.1)
theorem ySJ(F0):yCj.Eq [] (.two .no (.two .no (.two .no (.two (.two .no (.one (.lp (yDS.s F0)))) .no)))) (yMl F0):=fun _=>by kernel_rfl
def yKA(L:Nat):yCj.T:=yMl (yBV (yER) L)
theorem yO9{α:Type}(L:Nat):LO Tryz.f328 [1,1,1,0,1,0] (yDS.s (α:=α) (yBV (yER) L)):=yDS.k (yQH) tN (lN _) (by kernel_rfl) L
theorem ySI(L:Nat):yCj.C (yKA L):=yCj.c (ySJ (yBV (yER) L)) tN Tryz.func328 (by kernel_rfl) (lS (lN _) (lS (lN _) (lS (lN _) (lS (lS (lN _) (lB (lL (yO9 L)))) (lN _)))))
end Go.Proofs.YtakljpcmbpaeaaaGreat
