/- Typed functions. (printed by wip/sx) -/
import Derived.Test.YtakljpcmbpaeaaaGreatPaxosOneM36
import Derived.Test.YtakljpcmbpaeaaaGreatPaxosOneM37
set_option linter.unusedSimpArgs false
set_option linter.unusedVariables false
namespace Go.Proofs.YtakljpcmbpaeaaaGreat
open Go.RowKit
set_option maxRecDepth 100000
set_option maxHeartbeats 16000000
abbrev yEA:=((List (List V))×(List (List V))×(List (List V))×Int×Int×Int×Int×Int×Int×Int×Int×Unit)×(List (List V))×Int×Int×Unit
abbrev yGT:=((List (List V))×(List (List V))×(List (List V))×Int×Int×Int×Int×Int×Int×Int×Int×Unit)×Unit
abbrev yDL{α:Type}(f1:yKO.T)(s:yEA)(kn:yEA→Option α)(k0:yGT→Option α):Option α:=
 letI qq:=s.1.2.2.2.1
 letI qp:=s.1.2.2.2.2.1
 letI qo:=s.1.1
 letI qn:=s.2.1
 letI ql:=s.1.2.2.2.2.2.1
 letI qj:=s.1.2.2.2.2.2.2.1
 letI qi:=s.1.2.2.2.2.2.2.2.1
 letI qh:=s.1.2.2.2.2.2.2.2.2.1
 letI qg:=s.1.2.2.2.2.2.2.2.2.2.1
 letI qf:=s.1.2.2.2.2.2.2.2.2.2.2.1
 letI qe:=s.2.2.2.1
 letI qd:=s.1.2.1
 letI qc:=(⟨aI qn qe.toNat 0,(⟨aI qn qe.toNat 1,aI qn qe.toNat 2⟩:yAG),aI qn qe.toNat 3⟩:yAI)
 letI qb:=s.1.2.2.1
 letI qm:=Nat.beq (0+qb.length) qb.length
 letI qk:=qb.length+1
 letI qa:= [[V.int .i64 (aI qn qe.toNat 0),V.int .i64 (aI qn qe.toNat 1),V.int .i64 (aI qn qe.toNat 2),V.int .i8 (aI qn qe.toNat 3)]]
 bif decide (qe<s.2.2.1) then
 gI qn yAI.ks qe<|
 gF qd (0+qd.length)<|
 bindO (f1 qc (qd.take qd.length)) fun r1=>
 bif r1 then
 gF qb (0+qb.length)<|
 bindO (f1 qc (qb.take qb.length)) fun r2=>
 bif r2 then
 gd (Nat.beq (0+qd.length) qd.length)<|
 gM (qd.length+1) 32<|
 gW qo qo.length<|
 gW (qd++qa) (qd.length+1)<|
 gW qb qb.length<|
 kn ((qo,qd++qa,qb,qq,qp,ql,qj,qi,qh,qg,qf,()),qn,s.2.2.1,w64 (qe+1),())
 else
 gd qm<|
 gM qk 32<|
 gW qo qo.length<|
 gW qd qd.length<|
 gW (qb++qa) qk<|
 kn ((qo,qd,qb++qa,qq,qp,ql,qj,qi,qh,qg,qf,()),qn,s.2.2.1,w64 (qe+1),())
 else
 gd qm<|
 gM qk 32<|
 gW qo qo.length<|
 gW qd qd.length<|
 gW (qb++qa) qk<|
 kn ((qo,qd,qb++qa,qq,qp,ql,qj,qi,qh,qg,qf,()),qn,s.2.2.1,w64 (qe+1),())
 else
 gW qo qo.length<|
 gW qd qd.length<|
 gW qb qb.length<|
 k0 ((qo,qd,qb,qq,qp,ql,qj,qi,qh,qg,qf,()),())
abbrev yEB:LW1 yEA yGT:=⟨(lvC 0 (mR (zW 2 (zW 4 (zW 4 (zP cI (zP cI (zP cI (zP cI (zP cI (zP cI (zP cI (zP cI zN))))))))))) 11) (lvC 15 (mP cdR) (lvC 16 (mP cI) (lvC 17 (mP cI) lvN)))),(.exit 0),(lvC 0 (mR (zW 2 (zW 4 (zW 4 (zP cI (zP cI (zP cI (zP cI (zP cI (zP cI (zP cI (zP cI zN))))))))))) 11) lvN)⟩
theorem yPs{α:Type}(f1):yEB.Eq (α:=α) [yKO.s f1] Tryz.f365 [1,1,1,0] .no (yDL f1):=fun _ _ _=>by kernel_rfl
abbrev yB0:=mw0 365 (zW 2 (zW 4 (zW 4 (zP cI (zP cI (zP cI (zP cI (zP cI (zP cI (zP cI (zP cI zN))))))))))) 11 caN (cdT caN)
abbrev yJS(F0:LF1 yEA yGT (Unit×((List (List V))×(List (List V))×(List (List V))×Int×Int×Int×Int×Int×Int×Int×Int×Unit)))(x0:(List (List V))×(List (List V))×(List (List V))×Int×Int×Int×Int×Int×Int×Int×Int×Unit):Option (Unit×((List (List V))×(List (List V))×(List (List V))×Int×Int×Int×Int×Int×Int×Int×Int×Unit)):=
 gW x0.1 x0.1.length<|
 gW x0.2.1 x0.2.1.length<|
 gF x0.2.2.1 (0+x0.2.2.1.length)<|
 F0 ((x0.1,x0.2.1,[],x0.2.2.2.1,x0.2.2.2.2.1,x0.2.2.2.2.2.1,x0.2.2.2.2.2.2.1,x0.2.2.2.2.2.2.2.1,x0.2.2.2.2.2.2.2.2.1,x0.2.2.2.2.2.2.2.2.2.1,x0.2.2.2.2.2.2.2.2.2.2.1,()),x0.2.2.1.take x0.2.2.1.length,(x0.2.2.1.length:Int),0,()) (fun q1=>
 gW q1.1.1 q1.1.1.length<|
 gW q1.1.2.1 q1.1.2.1.length<|
 gW q1.1.2.2.1 q1.1.2.2.1.length<|
 some ((()),(q1.1.1,q1.1.2.1,q1.1.2.2.1,q1.1.2.2.2.1,q1.1.2.2.2.2.1,q1.1.2.2.2.2.2.1,q1.1.2.2.2.2.2.2.1,q1.1.2.2.2.2.2.2.2.1,q1.1.2.2.2.2.2.2.2.2.1,q1.1.2.2.2.2.2.2.2.2.2.1,q1.1.2.2.2.2.2.2.2.2.2.2.1,())))
theorem yRY(F0):yB0.Eq [] (.two .no (.two .no (.two .no (.one (.lp (yEB.s F0)))))) (yJS F0):=fun _ _=>by kernel_rfl
def yCx(L:Nat):yB0.T:=yJS (loop1 (yDL (yLA L)) L)
theorem yO3{α:Type}(L:Nat):LO Tryz.f365 [1,1,1,0] (yEB.s (α:=α) (loop1 (yDL (yLA L)) L)):=yEB.k (yPs (yLA L)) (tC (yXP L).ent tN) (lN _) (by kernel_rfl) L
theorem yM4(L:Nat):yB0.C (yCx L):=yB0.c (yRY (loop1 (yDL (yLA L)) L)) tN Tryz.func365 (by kernel_rfl) (lS (lN _) (lS (lN _) (lS (lN _) (lB (lL (yO3 L))))))
abbrev yAl:=(List (List V))×((((((Int×Unit)×Unit)×Unit)×Unit)×Unit))×Int×Int×Unit
abbrev yBK:=Unit
abbrev yBL:=Int×Unit
abbrev yAw{α:Type}(s:yAl)(kn:yAl→Option α)(k0:yBK→Option α)(k1:yBL→Option α):Option α:=
 bif decide (s.2.2.2.1<s.2.2.1) then
 gI s.1 yAI.ks s.2.2.2.1<|
 bif !((aI s.1 s.2.2.2.1.toNat 0)==s.2.1.1.1.1.1.1) then
 kn (s.1,(((((s.2.1.1.1.1.1.1,()),()),()),()),()),s.2.2.1,w64 (s.2.2.2.1+1),())
 else
 k1 (s.2.2.2.1,())
 else
 k0 (())
abbrev yAm:LW2 yAl yBK yBL:=⟨(lvC 0 (mP cdR) (lvC 1 (mP (cdF 382 (caC (cdP (caC (cdL (clvC (cdF 379 (caC (cdP (caC cI caN)) caN)) clvN)) caN)) caN))) (lvC 7 (mP cI) (lvC 8 (mP cI) lvN)))),(.exit 0),lvN,.ret,(lvC 4 (mP cI) lvN)⟩
theorem yD5{α:Type}:yAm.Eq (α:=α) [] Tryz.f366 [1,0,1,0] .no (yAw):=fun _ _ _=>by kernel_rfl
abbrev yAS:=fw2 366 (caC cdR (caC (cdF 382 (caC (cdP (caC (cdL (clvC (cdF 379 (caC (cdP (caC cI caN)) caN)) clvN)) caN)) caN)) caN)) cI
abbrev yBV(F0:LF2 yAl yBK yBL (Int))(x0:List (List V))(x1:((((Int×Unit)×Unit)×Unit)×Unit)×Unit):Option Int:=
 F0 (x0,(((((x1.1.1.1.1.1,()),()),()),()),()),(x0.length:Int),0,()) (fun q1=>
 some (-1)) (fun q2=>
 some q2.1)
theorem yEl(F0):yAS.Eq [] (.two .no (.two (.two .no (.one (.lp (yAm.s F0)))) .no)) (yBV F0):=fun _=>by kernel_rfl
def yAc(L:Nat):yAS.T:=yBV (loop2 (yAw) L)
theorem yDU{α:Type}(L:Nat):LO Tryz.f366 [1,0,1,0] (yAm.s (α:=α) (loop2 (yAw) L)):=yAm.k (yD5) tN (lN _) (by kernel_rfl) L
theorem yEk(L:Nat):yAS.C (yAc L):=yAS.c (yEl (loop2 (yAw) L)) tN Tryz.func366 (by kernel_rfl) (lS (lN _) (lS (lS (lN _) (lB (lL (yDU L)))) (lN _)))
end Go.Proofs.YtakljpcmbpaeaaaGreat

namespace Go.Proofs.YtakljpcmbpaeaaaGreat
open Go.RowKit
set_option maxRecDepth 100000
set_option maxHeartbeats 16000000
abbrev yAi:=(List (List V))×((((((Int×Unit)×Unit)×Unit)×Unit)×Unit))×Int×Int×Unit
abbrev yBF:=(List (List V))×Int×Unit
abbrev yAP{α:Type}(s:yAi)(kn:yAi→Option α)(k0:yBF→Option α):Option α:=
 letI qf:=s.2.2.2.1
 letI qd:=Nat.beq s.1.length s.1.length
 letI qc:=0+qf.toNat
 letI qb:=0+s.2.2.1.toNat
 letI qe:=s.1.getD qb []
 letI qa:=qe.take 0++([V.int .i64 (aI s.1 qc 0),V.int .i64 (aI s.1 qc 1),V.int .i64 (aI s.1 qc 2),V.int .i8 (aI s.1 qc 3)]++qe.drop 4)
 bif decide (qf<(s.1.length:Int)) then
 gB qf s.1.length<|
 gL s.1 yAI.ks qc 0<|
 bif !((aI s.1 qc 0)==s.2.1.1.1.1.1.1) then
 gB s.2.2.1 s.1.length<|
 gd (decide (0+s.2.2.1.toNat<s.1.length))<|
 gd (Nat.ble 0 qb)<|
 gd (Nat.ble 4 qe.length)<|
 gd (Nat.beq s.1.length ((s.1.set qb qa).length))<|
 gd (rowsNm (s.1.set qb qa))<|
 kn (s.1.set qb qa,(((((s.2.1.1.1.1.1.1,()),()),()),()),()),w64 (s.2.2.1+1),w64 (qf+1),())
 else
 gd qd<|
 gd (rowsNm s.1)<|
 kn (s.1,(((((s.2.1.1.1.1.1.1,()),()),()),()),()),s.2.2.1,w64 (qf+1),())
 else
 gd qd<|
 gd (rowsNm s.1)<|
 k0 (s.1,s.2.2.1,())
abbrev yAj:LW1 yAi yBF:=⟨(lvC 0 (mQ 4) (lvC 1 (mP (cdF 382 (caC (cdP (caC (cdL (clvC (cdF 379 (caC (cdP (caC cI caN)) caN)) clvN)) caN)) caN))) (lvC 5 (mP cI) (lvC 6 (mP cI) lvN)))),(.exit 0),(lvC 0 (mQ 4) (lvC 5 (mP cI) lvN))⟩
theorem yDT{α:Type}:yAj.Eq (α:=α) [] Tryz.f381 [1,1,1,0,1,0] .no (yAP):=fun _ _ _=>by kernel_rfl
abbrev yAQ:=qw1 381 4 (caC (cdF 382 (caC (cdP (caC (cdL (clvC (cdF 379 (caC (cdP (caC cI caN)) caN)) clvN)) caN)) caN)) caN)
abbrev yBR(f1:yAS.T)(F0:LF1 yAi yBF (List (List V)))(x0:List (List V))(x1:((((Int×Unit)×Unit)×Unit)×Unit)×Unit):Option (List (List V)):=
 letI qc:=x0.take x0.length
 gF x0 (0+x0.length)<|
 bindO (f1 qc (((((x1.1.1.1.1.1,()),()),()),()),())) fun r1=>
 bif r1==(-1) then
 gd (Nat.ble x0.length x0.length)<|
 gd (rowsNm qc)<|
 some qc
 else
 gd (Nat.beq x0.length x0.length)<|
 gd (rowsNm x0)<|
 F0 (x0,(((((x1.1.1.1.1.1,()),()),()),()),()),r1,w64 (r1+1),()) (fun q2=>
 letI qd:=q2.2.1
 letI qb:=decide (qd≤(q2.1.length:Int))
 letI qa:=q2.1.take (0+qd.toNat)
 gd (decide (0≤qd))<|
 gd qb<|
 gd (Nat.ble 0 (0+qd.toNat))<|
 gd (decide (0≤qd))<|
 gd qb<|
 gd (Nat.ble qd.toNat (qa.length))<|
 gd (rowsNm (qa.take qd.toNat))<|
 some (qa.take qd.toNat))
theorem yEN(f1 F0):yAQ.Eq [(366,spF 1 [(382,(yAS.s f1).2)])] (.two .no (.two .no (.two .no (.two (.two .no (.one (.lp (yAj.s F0)))) .no)))) (yBR f1 F0):=fun _ _=>by kernel_rfl
def yAb(L:Nat):yAQ.T:=yBR (yAc L) (loop1 (yAP) L)
theorem yDR{α:Type}(L:Nat):LO Tryz.f381 [1,1,1,0,1,0] (yAj.s (α:=α) (loop1 (yAP) L)):=yAj.k (yDT) tN (lN _) (by kernel_rfl) L
theorem yEM(L:Nat):yAQ.C (yAb L):=yAQ.c (yEN (yAc L) (loop1 (yAP) L)) (tC (spF_ok (spF_cons (yEk L).ent spF_nil)) tN) Tryz.func381 (by kernel_rfl) (lS (lN _) (lS (lN _) (lS (lN _) (lS (lS (lN _) (lB (lL (yDR L)))) (lN _)))))
abbrev yCr:=mw1 361 (zW 2 (zW 4 (zW 4 (zP cI (zP cI (zP cI (zP cI (zP cI (zP cI (zP cI (zP cI zN))))))))))) 11 (caC cI caN) (cdT caN)
abbrev yJR(f1:yAQ.T)(f2:yB0.T)(x0:(List (List V))×(List (List V))×(List (List V))×Int×Int×Int×Int×Int×Int×Int×Int×Unit)(x1:Int):Option (Unit×((List (List V))×(List (List V))×(List (List V))×Int×Int×Int×Int×Int×Int×Int×Int×Unit)):=
 letI qa:=0+x1.toNat
 letI qc:=x0.1.getD qa []
 letI qb:=qc.take 0++([V.int .i64 0,V.int .i64 0]++qc.drop 2)
 gB x1 x0.1.length<|
 gL x0.1 kI qa 0<|
 gd (Nat.beq x0.2.1.length x0.2.1.length)<|
 gd (rowsNm x0.2.1)<|
 bindO (f1 x0.2.1 (((((aI x0.1 qa 0,()),()),()),()),())) fun r1=>
 gd (Nat.beq x0.2.2.1.length x0.2.2.1.length)<|
 gd (rowsNm x0.2.2.1)<|
 bindO (f1 x0.2.2.1 (((((aI x0.1 qa 0,()),()),()),()),())) fun r2=>
 gB x1 x0.1.length<|
 gd (decide (0+x1.toNat<x0.1.length))<|
 gd (Nat.ble 0 qa)<|
 gd (Nat.ble 2 qc.length)<|
 gW (x0.1.set qa qb) x0.1.length<|
 gW r1 r1.length<|
 gW r2 r2.length<|
 bindO (f2 (x0.1.set qa qb,r1,r2,x0.2.2.2.1,x0.2.2.2.2.1,x0.2.2.2.2.2.1,x0.2.2.2.2.2.2.1,x0.2.2.2.2.2.2.2.1,x0.2.2.2.2.2.2.2.2.1,x0.2.2.2.2.2.2.2.2.2.1,x0.2.2.2.2.2.2.2.2.2.2.1,())) fun r3=>
 gW r3.2.1 r3.2.1.length<|
 gW r3.2.2.1 r3.2.2.1.length<|
 gW r3.2.2.2.1 r3.2.2.2.1.length<|
 some ((()),(r3.2.1,r3.2.2.1,r3.2.2.2.1,r3.2.2.2.2.1,r3.2.2.2.2.2.1,r3.2.2.2.2.2.2.1,r3.2.2.2.2.2.2.2.1,r3.2.2.2.2.2.2.2.2.1,r3.2.2.2.2.2.2.2.2.2.1,r3.2.2.2.2.2.2.2.2.2.2.1,r3.2.2.2.2.2.2.2.2.2.2.2.1,()))
theorem yRX(f1 f2):yCr.Eq [yAQ.s f1,yB0.s f2] .no (yJR f1 f2):=fun _ _=>by kernel_rfl
def yFZ(L:Nat):yCr.T:=yJR (yAb L) (yCx L)
theorem yRW(L:Nat):yCr.C (yFZ L):=yCr.c (yRX (yAb L) (yCx L)) (tC (yEM L).ent (tC (yM4 L).ent tN)) Tryz.func361 (by kernel_rfl) (lN _)
abbrev yMB:=fw2 374 (caC yCS (caC yM6 caN)) cdB
abbrev yR3(x0:yAN)(x1:yAG):Option Bool:=
 bif !(decide (x1.Hi<x1.Lo)) then
 bif decide (0≤x1.Lo) then
 some (decide (x1.Hi<x0.Blocks))
 else
 some false
 else
 some false
theorem yXe:yMB.Eq [] .no (yR3):=fun _=>by kernel_rfl
def yS3(L:Nat):yMB.T:=yR3
theorem yXd(L:Nat):yMB.C (yS3 L):=yMB.c (yXe) tN Tryz.func374 (by kernel_rfl) (lN _)
abbrev yKP:=fw2 363 (caC yCS (caC yO7 caN)) cdB
abbrev yQz(f1:yMB.T)(x0:yAN)(x1:yAI):Option Bool:=
 bif decide (0<x1.Key) then
 bindO (f1 x0 x1.Span) fun r1=>
 bif r1 then
 bif x1.Mode==1 then
 some true
 else
 some (x1.Mode==2)
 else
 some false
 else
 some false
theorem yXS(f1):yKP.Eq [yMB.s f1] .no (yQz f1):=fun _=>by kernel_rfl
def yPq(L:Nat):yKP.T:=yQz (yS3 L)
theorem yXR(L:Nat):yKP.C (yPq L):=yKP.c (yXS (yS3 L)) (tC (yXd L).ent tN) Tryz.func363 (by kernel_rfl) (lN _)
abbrev yFm:=fw2 377 (caC yM6 (caC yM6 caN)) cdB
abbrev yNX(f1:yBu.T)(x0:yAG)(x1:yAG):Option Bool:=
 bindO (f1 (⟨x0⟩:yAa) (⟨x1⟩:yAa)) fun r1=>
 some r1
theorem yUr(f1):yFm.Eq [yBu.s f1] .no (yNX f1):=fun _=>by kernel_rfl
def yGS(L:Nat):yFm.T:=yNX (yCb L)
theorem yUq(L:Nat):yFm.C (yGS L):=yFm.c (yUr (yCb L)) (tC (yMn L).ent tN) Tryz.func377 (by kernel_rfl) (lN _)
end Go.Proofs.YtakljpcmbpaeaaaGreat

namespace Go.Proofs.YtakljpcmbpaeaaaGreat
open Go.RowKit
set_option maxRecDepth 100000
set_option maxHeartbeats 16000000
abbrev yAn:=(List (List V))×(((((Int×Unit)×yAG×Unit)×Unit)×Unit))×Int×Int×Unit
abbrev yBM:=Unit
abbrev yBN:=Int×Unit
abbrev yAx{α:Type}(f1:yFm.T)(s:yAn)(kn:yAn→Option α)(k0:yBM→Option α)(k1:yBN→Option α):Option α:=
 letI qa:=s.2.2.2.1
 bif decide (qa<s.2.2.1) then
 gI s.1 yAI.ks qa<|
 bif(aI s.1 qa.toNat 0) !=s.2.1.1.1.1.1 then
 kn (s.1,((((s.2.1.1.1.1.1,()),s.2.1.1.1.2.1,()),()),()),s.2.2.1,w64 (qa+1),())
 else
 bindO (f1 (⟨aI s.1 qa.toNat 1,aI s.1 qa.toNat 2⟩:yAG) s.2.1.1.1.2.1) fun r1=>
 bif !!r1 then
 k1 (qa,())
 else
 kn (s.1,((((s.2.1.1.1.1.1,()),s.2.1.1.1.2.1,()),()),()),s.2.2.1,w64 (qa+1),())
 else
 k0 (())
abbrev yAo:LW2 yAn yBM yBN:=⟨(lvC 0 (mP cdR) (lvC 1 (mP (cdF 387 (caC (cdP (caC (cdF 376 (caC (cdP (caC cI caN)) (caC (cdP yS5) caN))) caN)) caN))) (lvC 7 (mP cI) (lvC 8 (mP cI) lvN)))),(.exit 0),lvN,.ret,(lvC 4 (mP cI) lvN)⟩
theorem yD6{α:Type}(f1):yAo.Eq (α:=α) [yFm.s f1] Tryz.f366 [1,0,1,0] .no (yAx f1):=fun _ _ _=>by kernel_rfl
abbrev yAT:=fw2 366 (caC cdR (caC (cdF 387 (caC (cdP (caC (cdF 376 (caC (cdP (caC cI caN)) (caC (cdP yS5) caN))) caN)) caN)) caN)) cI
abbrev yBW(F0:LF2 yAn yBM yBN (Int))(x0:List (List V))(x1:(((Int×Unit)×yAG×Unit)×Unit)×Unit):Option Int:=
 F0 (x0,((((x1.1.1.1.1,()),x1.1.1.2.1,()),()),()),(x0.length:Int),0,()) (fun q1=>
 some (-1)) (fun q2=>
 some q2.1)
theorem yEn(F0):yAT.Eq [] (.two .no (.two (.two .no (.one (.lp (yAo.s F0)))) .no)) (yBW F0):=fun _=>by kernel_rfl
def yAd(L:Nat):yAT.T:=yBW (loop2 (yAx (yGS L)) L)
theorem yDV{α:Type}(L:Nat):LO Tryz.f366 [1,0,1,0] (yAo.s (α:=α) (loop2 (yAx (yGS L)) L)):=yAo.k (yD6 (yGS L)) (tC (yUq L).ent tN) (lN _) (by kernel_rfl) L
theorem yEm(L:Nat):yAT.C (yAd L):=yAT.c (yEn (loop2 (yAx (yGS L)) L)) tN Tryz.func366 (by kernel_rfl) (lS (lN _) (lS (lS (lN _) (lB (lL (yDV L)))) (lN _)))
abbrev yAL:=fw2 386 (caC cdR (caC (cdF 387 (caC (cdP (caC (cdF 376 (caC (cdP (caC cI caN)) (caC (cdP yS5) caN))) caN)) caN)) caN)) cdB
abbrev yBI(f1:yAT.T)(x0:List (List V))(x1:(((Int×Unit)×yAG×Unit)×Unit)×Unit):Option Bool:=
 bindO (f1 x0 ((((x1.1.1.1.1,()),x1.1.1.2.1,()),()),())) fun r1=>
 some (decide (0≤r1))
theorem yD2(f1):yAL.Eq [(366,spF 1 [(387,(yAT.s f1).2)])] .no (yBI f1):=fun _=>by kernel_rfl
def yAu(L:Nat):yAL.T:=yBI (yAd L)
theorem yD1(L:Nat):yAL.C (yAu L):=yAL.c (yD2 (yAd L)) (tC (spF_ok (spF_cons (yEm L).ent spF_nil)) tN) Tryz.func386 (by kernel_rfl) (lN _)
abbrev yDG:=fw2 375 (caC (cdF 376 (caC (cdP (caC cI caN)) (caC (cdP yS5) caN))) (caC cdR caN)) cdB
abbrev yKR(f1:yAL.T)(x0:(Int×Unit)×yAG×Unit)(x1:List (List V)):Option Bool:=
 bindO (f1 x1 ((((x0.1.1,()),x0.2.1,()),()),())) fun r1=>
 some !r1
theorem yR7(f1):yDG.Eq [(386,spF 1 [(387,(yAL.s f1).2)])] .no (yKR f1):=fun _=>by kernel_rfl
def yJP(L:Nat):yDG.T:=yKR (yAu L)
theorem yR6(L:Nat):yDG.C (yJP L):=yDG.c (yR7 (yAu L)) (tC (spF_ok (spF_cons (yD1 L).ent spF_nil)) tN) Tryz.func375 (by kernel_rfl) (lN _)
abbrev yFn:=fw3 364 (caC cdR (caC cI (caC yM6 caN))) cdB
abbrev yNY(f1:yDG.T)(x0:List (List V))(x1:Int)(x2:yAG):Option Bool:=
 bindO (f1 ((x1,()),x2,()) x0) fun r1=>
 some !r1
theorem yUt(f1):yFn.Eq [(375,spF 0 [(376,(yDG.s f1).2)])] .no (yNY f1):=fun _=>by kernel_rfl
def yLB(L:Nat):yFn.T:=yNY (yJP L)
theorem yUs(L:Nat):yFn.C (yLB L):=yFn.c (yUt (yJP L)) (tC (spF_ok (spF_cons (yR6 L).ent spF_nil)) tN) Tryz.func364 (by kernel_rfl) (lN _)
end Go.Proofs.YtakljpcmbpaeaaaGreat

namespace Go.Proofs.YtakljpcmbpaeaaaGreat
open Go.RowKit
set_option maxRecDepth 100000
set_option maxHeartbeats 16000000
abbrev yFS:=((List (List V))×(List (List V))×(List (List V))×Int×Int×Int×Int×Int×Int×Int×Int×Unit)×yAE×Bool×yAI×(List (List V))×Int×(List (List V))×Int×Int×Unit
abbrev yH7:=((List (List V))×(List (List V))×(List (List V))×Int×Int×Int×Int×Int×Int×Int×Int×Unit)×yAE×Bool×yAI×(List (List V))×Int×Unit
abbrev yEu{α:Type}(s:yFS)(kn:yFS→Option α)(k0:yH7→Option α):Option α:=
 letI qj:=s.1.2.2.2.2.2.2.1
 letI qi:=s.2.2.2.2.2.2.2.1
 letI qh:=s.1.2.2.2.2.2.2.2.1
 letI qg:=s.1.2.2.2.2.2.2.2.2.1
 letI qf:=s.2.2.2.2.2.2.1
 letI qe:=s.1.2.1
 letI qd:=s.1.2.2.2.2.2.2.2.2.2.1
 letI qc:=s.1.2.2.2.2.2.2.2.2.2.2.1
 letI qb:=s.1.2.2.1
 letI qa:=s.2.2.2.2.2.2.2.2.1
 bif decide (qa<qi) then
 gI qf yAI.ks qa<|
 bif(aI qf qa.toNat 0)==s.2.1.By then
 gW s.1.1 s.1.1.length<|
 gW qe qe.length<|
 gW qb qb.length<|
 kn ((s.1.1,qe,qb,s.1.2.2.2.1,s.1.2.2.2.2.1,s.1.2.2.2.2.2.1,qj,qh,qg,qd,qc,()),s.2.1,s.2.2.1,s.2.2.2.1,s.2.2.2.2.1,w64 (s.2.2.2.2.2.1+1),qf,qi,w64 (qa+1),())
 else
 gW s.1.1 s.1.1.length<|
 gW qe qe.length<|
 gW qb qb.length<|
 kn ((s.1.1,qe,qb,s.1.2.2.2.1,s.1.2.2.2.2.1,s.1.2.2.2.2.2.1,qj,qh,qg,qd,qc,()),s.2.1,s.2.2.1,s.2.2.2.1,s.2.2.2.2.1,s.2.2.2.2.2.1,qf,qi,w64 (qa+1),())
 else
 gW s.1.1 s.1.1.length<|
 gW qe qe.length<|
 gW qb qb.length<|
 k0 ((s.1.1,qe,qb,s.1.2.2.2.1,s.1.2.2.2.2.1,s.1.2.2.2.2.2.1,qj,qh,qg,qd,qc,()),s.2.1,s.2.2.1,s.2.2.2.1,s.2.2.2.2.1,s.2.2.2.2.2.1,())
abbrev yFT:LW1 yFS yH7:=⟨(lvC 0 (mR (zW 2 (zW 4 (zW 4 (zP cI (zP cI (zP cI (zP cI (zP cI (zP cI (zP cI (zP cI zN))))))))))) 11) (lvC 3 yOs (lvC 5 (mP cdB) (lvC 6 yWr (lvC 7 (mP cdR) (lvC 8 (mP cI) (lvC 37 (mP cdR) (lvC 38 (mP cI) (lvC 39 (mP cI) lvN))))))))),(.exit 0),(lvC 0 (mR (zW 2 (zW 4 (zW 4 (zP cI (zP cI (zP cI (zP cI (zP cI (zP cI (zP cI (zP cI zN))))))))))) 11) (lvC 3 yOs (lvC 5 (mP cdB) (lvC 6 yWr (lvC 7 (mP cdR) (lvC 8 (mP cI) lvN))))))⟩
theorem yQ1{α:Type}:yFT.Eq (α:=α) [] Tryz.f352 [1,1,1,1,1,0,1,0] .no (yEu):=fun _ _ _=>by kernel_rfl
abbrev yDh:=mw1 352 (zW 2 (zW 4 (zW 4 (zP cI (zP cI (zP cI (zP cI (zP cI (zP cI (zP cI (zP cI zN))))))))))) 11 (caC yMp caN) (cdT caN)
abbrev yLi(f1:yCB.T)(f3:yKP.T)(f4:yFn.T)(f5:yB0.T)(F0:LF1 yFS yH7 (Unit×((List (List V))×(List (List V))×(List (List V))×Int×Int×Int×Int×Int×Int×Int×Int×Unit)))(x0:(List (List V))×(List (List V))×(List (List V))×Int×Int×Int×Int×Int×Int×Int×Int×Unit)(x1:yAE):Option (Unit×((List (List V))×(List (List V))×(List (List V))×Int×Int×Int×Int×Int×Int×Int×Int×Unit)):=
 letI qr:=x0.2.1
 letI qn:=x0.2.2.1
 letI qf:=(w64 (0+(qr.length:Int)))+(qn.length:Int)
 letI qc:=qn.take qn.length
 letI qb:=qr.take qr.length
 letI qs:=0+(qb.length)
 letI qa:=qs+(qc.length)
 gF x0.1 (0+x0.1.length)<|
 gF qr (0+qr.length)<|
 gF qn (0+qn.length)<|
 bindO (f1 (⟨(⟨x0.1.take x0.1.length,qr.take qr.length,qn.take qn.length⟩:yAC),(⟨x0.2.2.2.1,x0.2.2.2.2.1,x0.2.2.2.2.2.1,x0.2.2.2.2.2.2.1,x0.2.2.2.2.2.2.2.1,x0.2.2.2.2.2.2.2.2.1,x0.2.2.2.2.2.2.2.2.2.1,x0.2.2.2.2.2.2.2.2.2.2.1⟩:yAN)⟩:yBA) x1.By) fun r1=>
 bif decide (w64 (0+(qr.length:Int))<0) then none else
 bif decide (w64 qf<0) then none else
 gd (decide (0≤w64 qf))<|
 gd (decide (w64 qf≤1000000))<|
 gd (Nat.ble (0+qr.length) qr.length)<|
 gd (qb.all fun r=>Nat.beq r.length 4)<|
 gM qs 32<|
 gd (Nat.ble (0+qn.length) qn.length)<|
 gd (qc.all fun r=>Nat.beq r.length 4)<|
 gd (Nat.beq (0+qs) (qb.length))<|
 gM qa 32<|
 gW x0.1 x0.1.length<|
 gW qr qr.length<|
 gW qn qn.length<|
 gF (qb++qc) (0+qa)<|
 gF (qb++qc) (0+qa)<|
 F0 ((x0.1,qr,qn,x0.2.2.2.1,x0.2.2.2.2.1,x0.2.2.2.2.2.1,x0.2.2.2.2.2.2.1,x0.2.2.2.2.2.2.2.1,x0.2.2.2.2.2.2.2.2.1,x0.2.2.2.2.2.2.2.2.2.1,x0.2.2.2.2.2.2.2.2.2.2.1,()),x1,r1.2.1,(⟨x1.By,x1.Span,x1.Mode⟩:yAI),(qb++qc).take qa,0,(qb++qc).take qa,(qs+(qc.length):Int),0,()) (fun q2=>
 letI qt:=q2.2.2.2.1
 letI qq:=q2.1.2.2.2.1
 letI qp:=q2.1.1
 letI qo:=q2.1.2.2.2.2.1
 letI qm:=q2.1.2.2.2.2.2.1
 letI ql:=q2.1.2.2.2.2.2.2.1
 letI qk:=q2.1.2.1
 letI qj:=q2.1.2.2.2.2.2.2.2.1
 letI qi:=q2.1.2.2.2.2.2.2.2.2.1
 letI qh:=q2.1.2.2.2.2.2.2.2.2.2.1
 letI qg:= [[V.int .i64 qt.Key,V.int .i64 qt.Span.Lo,V.int .i64 qt.Span.Hi,V.int .i8 qt.Mode]]
 letI qe:=q2.1.2.2.2.2.2.2.2.2.2.2.1
 letI qd:=q2.1.2.2.1
 bif q2.2.2.1 then
 bindO (f3 (⟨qq,qo,qm,ql,qj,qi,qh,qe⟩:yAN) qt) fun r3=>
 bif r3 then
 bindO (f4 q2.2.2.2.2.1 q2.2.1.By q2.2.1.Span) fun r4=>
 bif !r4 then
 bif decide (q2.2.2.2.2.2.1<64) then
 gd (Nat.beq (0+qd.length) qd.length)<|
 gM (qd.length+1) 32<|
 gW qp qp.length<|
 gW qk qk.length<|
 gW (qd++qg) (qd.length+1)<|
 bindO (f5 (qp,qk,qd++qg,qq,qo,qm,ql,qj,qi,qh,qe,())) fun r5=>
 gW r5.2.1 r5.2.1.length<|
 gW r5.2.2.1 r5.2.2.1.length<|
 gW r5.2.2.2.1 r5.2.2.2.1.length<|
 some ((()),(r5.2.1,r5.2.2.1,r5.2.2.2.1,r5.2.2.2.2.1,r5.2.2.2.2.2.1,r5.2.2.2.2.2.2.1,r5.2.2.2.2.2.2.2.1,r5.2.2.2.2.2.2.2.2.1,r5.2.2.2.2.2.2.2.2.2.1,r5.2.2.2.2.2.2.2.2.2.2.1,r5.2.2.2.2.2.2.2.2.2.2.2.1,()))
 else
 gW qp qp.length<|
 gW qk qk.length<|
 gW qd qd.length<|
 some ((()),(qp,qk,qd,qq,qo,qm,ql,qj,qi,qh,qe,()))
 else
 gW qp qp.length<|
 gW qk qk.length<|
 gW qd qd.length<|
 some ((()),(qp,qk,qd,qq,qo,qm,ql,qj,qi,qh,qe,()))
 else
 gW qp qp.length<|
 gW qk qk.length<|
 gW qd qd.length<|
 some ((()),(qp,qk,qd,qq,qo,qm,ql,qj,qi,qh,qe,()))
 else
 gW qp qp.length<|
 gW qk qk.length<|
 gW qd qd.length<|
 some ((()),(qp,qk,qd,qq,qo,qm,ql,qj,qi,qh,qe,())))
theorem yS1(f1 f3 f4 f5 F0):yDh.Eq [yCB.s f1,sGr 373 4,yKP.s f3,yFn.s f4,yB0.s f5] (.two .no (.two .no (.two .no (.two .no (.two .no (.two (.two .no (.one (.lp (yFT.s F0)))) .no)))))) (yLi f1 f3 f4 f5 F0):=fun _ _=>by kernel_rfl
def yHN(L:Nat):yDh.T:=yLi (yDM L) (yPq L) (yLB L) (yCx L) (loop1 (yEu) L)
theorem yQF{α:Type}(L:Nat):LO Tryz.f352 [1,1,1,1,1,0,1,0] (yFT.s (α:=α) (loop1 (yEu) L)):=yFT.k (yQ1) tN (lN _) (by kernel_rfl) L
theorem yS0(L:Nat):yDh.C (yHN L):=yDh.c (yS1 (yDM L) (yPq L) (yLB L) (yCx L) (loop1 (yEu) L)) (tC (yNp L).ent (tC slices_Grow_Hold_ok (tC (yXR L).ent (tC (yUs L).ent (tC (yM4 L).ent tN))))) Tryz.func352 (by kernel_rfl) (lS (lN _) (lS (lN _) (lS (lN _) (lS (lN _) (lS (lN _) (lS (lS (lN _) (lB (lL (yQF L)))) (lN _)))))))
end Go.Proofs.YtakljpcmbpaeaaaGreat

namespace Go.Proofs.YtakljpcmbpaeaaaGreat
open Go.RowKit
set_option maxRecDepth 100000
set_option maxHeartbeats 16000000
abbrev yD9:=fw3 298 (caC yCS (caC yCp (caC yMp caN))) yCp
abbrev yOq(f1:yMl.T)(f2:yMk.T)(f3:yCB.T)(f4:yAY.T)(f5:yCr.T)(f6:yDh.T)(x0:yAN)(x1:yAC)(x2:yAE):Option yAC:=
 bif decide (x2.Kind<0) then
 some x1
 else
 bif decide (6≤w64 x2.Kind) then
 some x1
 else
 bindO (f1 x1.Slots) fun r1=>
 letI qc:=0+r1.length
 bindO (f2 x1.Holds) fun r2=>
 letI qd:=0+r2.length
 bindO (f2 x1.Queue) fun r3=>
 letI qe:=0+r3.length
 letI qa:=(⟨r1.take r1.length,r2.take r2.length,r3.take r3.length⟩:yAC)
 letI qg:=f3 (⟨qa,x0⟩:yBA) x2.By
 bif decide (x2.Kind=0) then
 gF r1 qc<|
 gF r2 qd<|
 gF r3 qe<|
 bindO qg fun r4=>
 gF r1 qc<|
 bindO (f4 (r1.take r1.length) (())) fun r5=>
 letI qf:=r1.getD (0+r5.toNat) []
 letI qb:=r1.set (0+r5.toNat) (qf.take 0++([V.int .i64 x2.By]++qf.drop 1))
 bif !r4.2.1 then
 bif decide (0≤r5) then
 gB r5 r1.length<|
 gd (decide (0+r5.toNat<r1.length))<|
 gd (Nat.ble 0 (0+r5.toNat))<|
 gd (Nat.ble 1 qf.length)<|
 gF qb qc<|
 gF r2 qd<|
 gF r3 qe<|
 some (⟨qb.take r1.length,r2.take r2.length,r3.take r3.length⟩:yAC)
 else
 gF r1 qc<|
 gF r2 qd<|
 gF r3 qe<|
 some qa
 else
 gF r1 qc<|
 gF r2 qd<|
 gF r3 qe<|
 some qa
 else
 bif decide (x2.Kind=1) then
 gF r1 qc<|
 gF r2 qd<|
 gF r3 qe<|
 bindO qg fun r6=>
 bif r6.2.1 then
 gW r1 r1.length<|
 gW r2 r2.length<|
 gW r3 r3.length<|
 bindO (f5 (r1,r2,r3,x0.Nodes,x0.Slots,x0.Blocks,x0.Per,x0.Journal,x0.Log,x0.Lease,x0.Wait,()) r6.1) fun r7=>
 gF r7.2.1 (0+r7.2.1.length)<|
 gF r7.2.2.1 (0+r7.2.2.1.length)<|
 gF r7.2.2.2.1 (0+r7.2.2.2.1.length)<|
 some (⟨r7.2.1.take r7.2.1.length,r7.2.2.1.take r7.2.2.1.length,r7.2.2.2.1.take r7.2.2.2.1.length⟩:yAC)
 else
 gF r1 qc<|
 gF r2 qd<|
 gF r3 qe<|
 some qa
 else
 bif decide (x2.Kind=2) then
 gW r1 r1.length<|
 gW r2 r2.length<|
 gW r3 r3.length<|
 bindO (f6 (r1,r2,r3,x0.Nodes,x0.Slots,x0.Blocks,x0.Per,x0.Journal,x0.Log,x0.Lease,x0.Wait,()) x2) fun r8=>
 gF r8.2.1 (0+r8.2.1.length)<|
 gF r8.2.2.1 (0+r8.2.2.1.length)<|
 gF r8.2.2.2.1 (0+r8.2.2.2.1.length)<|
 some (⟨r8.2.1.take r8.2.1.length,r8.2.2.1.take r8.2.2.1.length,r8.2.2.2.1.take r8.2.2.2.1.length⟩:yAC)
 else
 bif decide (x2.Kind=3) then none else
 bif decide (x2.Kind=4) then none else
 gd (decide (x2.Kind=5))<|
 none
theorem yVm(f1 f2 f3 f4 f5 f6):yD9.Eq [yMl.s f1,yMk.s f2,yCB.s f3,(260,spF 1 [(360,(yAY.s f4).2)]),yCr.s f5,yDh.s f6,sZ 353,sZ 354,sZ 355] .no (yOq f1 f2 f3 f4 f5 f6):=fun _=>by kernel_rfl
def yCw(L:Nat):yD9.T:=yOq (slices_Clone_Slot L) (slices_Clone_Hold L) (yDM L) (yAt L) (yFZ L) (yHN L)
theorem yRV(L:Nat):yD9.C (yCw L):=yD9.c (yVm (slices_Clone_Slot L) (slices_Clone_Hold L) (yDM L) (yAt L) (yFZ L) (yHN L)) (tC (slices_Clone_Slot_c L).ent (tC (slices_Clone_Hold_c L).ent (tC (yNp L).ent (tC (spF_ok (spF_cons (yFw L).ent spF_nil)) (tC (yRW L).ent (tC (yS0 L).ent (tC stub_ok (tC stub_ok (tC stub_ok tN))))))))) Tryz.func298 (by kernel_rfl) (lN _)
abbrev yIG:=fw4 196 (caC yCS (caC yCp (caC cI (caC cdS caN)))) (cdT (caC yCp (caC cI (caC yMp (caC cdB (caC cI caN))))))
abbrev yMu(f1:yFe.T)(f2:yD9.T)(x0:yAN)(x1:yAC)(x2:Int)(x3:ByteArray):Option (yAC×Int×yAE×Bool×Int×Unit):=
 bindO (f1 x3) fun r1=>
 bif r1.2.2.2.1==0 then
 bif r1.2.2.1 then
 bindO (f2 x0 x1 r1.1) fun r2=>
 some (r2,w64 (x2+1),r1.1,true,r1.2.2.2.1,())
 else
 some (x1,x2,r1.1,false,r1.2.2.2.1,())
 else
 some (x1,x2,r1.1,false,r1.2.2.2.1,())
theorem yVw(f1 f2):yIG.Eq [yFe.s f1,yD9.s f2] .no (yMu f1 f2):=fun _=>by kernel_rfl
def yJn(L:Nat):yIG.T:=yMu (yGD L) (yCw L)
theorem yVv(L:Nat):yIG.C (yJn L):=yIG.c (yVw (yGD L) (yCw L)) (tC (yUD L).ent (tC (yRV L).ent tN)) Tryz.func196 (by kernel_rfl) (lN _)
abbrev yEZ:=fw1 287 (caC (cdP yGA) caN) (cdT (caC yMp (caC cdB caN)))
abbrev yMN(f1:yBY.T)(x0:yAK):Option (yAE×Bool×Unit):=
 bindO (f1 x0.Prop_.Cmd) fun r1=>
 some (r1.1,r1.2.1==0,())
theorem yTV(f1):yEZ.Eq [yBY.s f1] .no (yMN f1):=fun _=>by kernel_rfl
def yIs(L:Nat):yEZ.T:=yMN (yBB L)
theorem yTU(L:Nat):yEZ.C (yIs L):=yEZ.c (yTV (yBB L)) (tC (yHF L).ent tN) Tryz.func287 (by kernel_rfl) (lN _)
abbrev yFd:=fw3 324 (caC yMp (caC cI (caC cI caN))) cdB
abbrev yNA(x0:yAE)(x1:Int)(x2:Int):Option Bool:=
 bif x0.By==x1 then
 some (x0.Serial==x2)
 else
 some false
theorem yUB:yFd.Eq [] .no (yNA):=fun _=>by kernel_rfl
def yK1(L:Nat):yFd.T:=yNA
theorem yUA(L:Nat):yFd.C (yK1 L):=yFd.c (yUB) tN Tryz.func324 (by kernel_rfl) (lN _)
abbrev yL8:=fw1 288 (caC yCS caN) cI
abbrev yRe(f1:yFV.T)(x0:yAN):Option Int:=
 bindO (f1 x0) fun r1=>
 bif !r1 then
 some 0
 else
 some (w64 (4*x0.Slots))
theorem yXW(f1):yL8.Eq [yFV.s f1] .no (yRe f1):=fun _=>by kernel_rfl
def yPu(L:Nat):yL8.T:=yRe (yLG L)
theorem yXV(L:Nat):yL8.C (yPu L):=yL8.c (yXW (yLG L)) (tC (yRA L).ent tN) Tryz.func288 (by kernel_rfl) (lN _)
abbrev yCd:=fw1 244 (caC cI caN) yNZ
abbrev yLs(x0:Int):Option yA5:=
 bif decide (x0<0) then
 some yA5.z
 else
 some (⟨1,x0,noS,0⟩:yA5)
theorem yVJ:yCd.Eq [] .no (yLs):=fun _=>by kernel_rfl
def yFJ(L:Nat):yCd.T:=yLs
theorem yN6(L:Nat):yCd.C (yFJ L):=yCd.c (yVJ) tN Tryz.func244 (by kernel_rfl) (lN _)
abbrev yCs:=fw2 245 (caC yCS (caC cI caN)) cI
abbrev yQX(f1:yMt.T)(x0:yAN)(x1:Int):Option Int:=
 bindO (f1 x0 3 x1 0) fun r1=>
 some r1
theorem yWk(f1):yCs.Eq [yMt.s f1] .no (yQX f1):=fun _=>by kernel_rfl
def yDq(L:Nat):yCs.T:=yQX (yRB L)
theorem yNy(L:Nat):yCs.C (yDq L):=yCs.c (yWk (yRB L)) (tC (yXU L).ent tN) Tryz.func245 (by kernel_rfl) (lN _)
abbrev yDb:=fw1 243 (caC (cdP yGA) caN) yNZ
abbrev yLQ(f1:yCs.T)(f2:yCd.T)(x0:yAK):Option yA5:=
 bindO (f1 x0.g_ x0.Prop_.Node) fun r1=>
 bindO (f2 r1) fun r2=>
 some r2
theorem ySZ(f1 f2):yDb.Eq [yCs.s f1,yCd.s f2] .no (yLQ f1 f2):=fun _=>by kernel_rfl
def yKb(L:Nat):yDb.T:=yLQ (yDq L) (yFJ L)
theorem ySY(L:Nat):yDb.C (yKb L):=yDb.c (ySZ (yDq L) (yFJ L)) (tC (yNy L).ent (tC (yN6 L).ent tN)) Tryz.func243 (by kernel_rfl) (lN _)
abbrev yFY:=(List (List V))×ByteArray×Int×(List (List V))×Int×Int×Unit
abbrev yHn:=(List (List V))×ByteArray×Int×Unit
abbrev yLg:=(List (List V))×ByteArray×Int×Unit
abbrev yBv{α:Type}(f1:yDu.T)(s:yFY)(kn:yFY→Option α)(k0:yHn→Option α)(k1:yLg→Option α):Option α:=
 letI qb:=s.2.2.2.1
 letI qa:=s.2.2.2.2.2.1
 bif decide (qa<s.2.2.2.2.1) then
 gI qb kI qa<|
 bif s.2.2.1 !=0 then
 gW s.1 s.1.length<|
 k0 (s.1,s.2.1,s.2.2.1,())
 else
 bindO (f1 s.2.1 0 (aI qb qa.toNat 0)) fun r1=>
 bif r1.2.1 !=0 then
 k1 ([],noS,30,())
 else
 gd (Nat.beq (0+s.1.length) s.1.length)<|
 gM (s.1.length+1) 8<|
 gd (decide (0≤aI qb qa.toNat 0))<|
 gd (decide (aI qb qa.toNat 0≤(s.2.1.size:Int)))<|
 gW (s.1++([[V.int .i64 r1.1]])) (s.1.length+1)<|
 kn (s.1++([[V.int .i64 r1.1]]),s.2.1.extract ((aI qb qa.toNat 0).toNat) s.2.1.size,s.2.2.1,qb,s.2.2.2.2.1,w64 (qa+1),())
 else
 gW s.1 s.1.length<|
 k0 (s.1,s.2.1,s.2.2.1,())
abbrev yHo:LW2 yFY yHn yLg:=⟨(lvC 6 (mW 1) (lvC 7 (mP cdS) (lvC 8 (mP cI) (lvC 19 (mP cdR) (lvC 20 (mP cI) (lvC 21 (mP cI) lvN)))))),(.exit 0),(lvC 6 (mW 1) (lvC 7 (mP cdS) (lvC 8 (mP cI) lvN))),.ret,(lvC 6 (mW 1) (lvC 7 (mP cdS) (lvC 8 (mP cI) lvN)))⟩
theorem ySx{α:Type}(f1):yHo.Eq (α:=α) [yDu.s f1] Tryz.f254 [1,1,0,1,0] .no (yBv f1):=fun _ _ _=>by kernel_rfl
abbrev yG2:=rw3 254 .t (caC (cdI .i8) (caC cdS (caC cdR caN))) (zW 1 (zP cdS (zP cI zN)))
abbrev yOo(f1:yK9.T)(F0:LF2 yFY yHn yLg ((List (List V))×ByteArray×Int×Unit))(x0:Int)(x1:ByteArray)(x2:List (List V)):Option ((List (List V))×ByteArray×Int×Unit):=
 bindO (f1 x0 x1) fun r1=>
 F0 ([],r1.1,r1.2.1,x2,(x2.length:Int),0,()) (fun q2=>
 bif q2.2.2.1 !=0 then
 some ([],noS,q2.2.2.1,())
 else
 gW q2.1 q2.1.length<|
 some (q2.1,q2.2.1,0,())) (fun q3=>
 gW q3.1 q3.1.length<|
 some (q3.1,q3.2.1,q3.2.2.1,()))
theorem yVl(f1 F0):yG2.Eq [yK9.s f1] (.two .no (.two .no (.two (.two .no (.one (.lp (yHo.s F0)))) .no))) (yOo f1 F0):=fun _=>by kernel_rfl
def yKI(L:Nat):yG2.T:=yOo (yPo L) (loop2 (yBv (yB4 L)) L)
theorem yR2{α:Type}(L:Nat):LO Tryz.f254 [1,1,0,1,0] (yHo.s (α:=α) (loop2 (yBv (yB4 L)) L)):=yHo.k (ySx (yB4 L)) (tC (yPM L).ent tN) (lN _) (by kernel_rfl) L
theorem yVk(L:Nat):yG2.C (yKI L):=yG2.c (yVl (yPo L) (loop2 (yBv (yB4 L)) L)) (tC (yWd L).ent tN) Tryz.func254 (by kernel_rfl) (lS (lN _) (lS (lN _) (lS (lS (lN _) (lB (lL (yR2 L)))) (lN _))))
end Go.Proofs.YtakljpcmbpaeaaaGreat

namespace Go.Proofs.YtakljpcmbpaeaaaGreat
open Go.RowKit
set_option maxRecDepth 100000
set_option maxHeartbeats 16000000
abbrev yB1:=fw1 326 (caC (cdP yLE) caN) cdR
abbrev yFo(x0:yAV):Option (List (List V)):=
 some ([[V.int .i64 2],[V.int .i64 6],[V.int .i64 6]])
theorem yOu:yB1.Eq [] .no (yFo):=fun _=>by kernel_rfl
def yEO(L:Nat):yB1.T:=yFo
theorem yOt(L:Nat):yB1.C (yEO L):=yB1.c (yOu) tN Tryz.func326 (by kernel_rfl) (lN _)
abbrev yCP:=fw3 329 (caC cI (caC cI (caC cI caN))) cdB
abbrev yLD(x0:Int)(x1:Int)(x2:Int):Option Bool:=
 bif decide (x1≤x0) then
 some (decide (x0≤x2))
 else
 some false
theorem ySK:yCP.Eq [] .no (yLD):=fun _=>by kernel_rfl
def yEF(L:Nat):yCP.T:=yLD
theorem yOr(L:Nat):yCP.C (yEF L):=yCP.c (ySK) tN Tryz.func329 (by kernel_rfl) (lN _)
abbrev yBr:=fw1 327 (caC (cdP yLE) caN) cdB
abbrev yHp(f1:yCP.T)(x0:yAV):Option Bool:=
 bindO (f1 x0.Rec.Inst 0 512) fun r1=>
 bif r1 then
 bindO (f1 x0.Rec.Mbal 0 1099511627776) fun r2=>
 bif r2 then
 bindO (f1 x0.Rec.Bal 0 x0.Rec.Mbal) fun r3=>
 bif r3 then
 bif decide ((x0.Rec.Val.size:Int)≤64) then
 some ((x0.Rec.Bal==0)==(x0.Rec.Val.toList==noS.toList))
 else
 some false
 else
 some false
 else
 some false
 else
 some false
theorem yQP(f1):yBr.Eq [yCP.s f1] .no (yHp f1):=fun _=>by kernel_rfl
def yB8(L:Nat):yBr.T:=yHp (yEF L)
theorem yMC(L:Nat):yBr.C (yB8 L):=yBr.c (yQP (yEF L)) (tC (yOr L).ent tN) Tryz.func327 (by kernel_rfl) (lN _)
abbrev yGV:=fw1 289 (caC cdS caN) (cdT (caC yVp (caC cI caN)))
abbrev yNr(f1:yG2.T)(f2:yBr.T)(x0:ByteArray):Option (yBG×Int×Unit):=
 bif x0.toList==noS.toList then
 some (yBG.z,0,())
 else
 bindO (f1 4 x0 ([[V.int .i64 2],[V.int .i64 6],[V.int .i64 6]])) fun r1=>
 letI qa:=(⟨aI r1.1 0 0,aI r1.1 1 0,aI r1.1 2 0,r1.2.1⟩:yBG)
 bif r1.2.2.1 !=0 then
 some (yBG.z,50,())
 else
 gd (decide (0<(r1.1.length:Int)))<|
 gL r1.1 kI 0 0<|
 gd (decide (1<(r1.1.length:Int)))<|
 gL r1.1 kI 1 0<|
 gd (decide (2<(r1.1.length:Int)))<|
 gL r1.1 kI 2 0<|
 bindO (f2 (⟨qa⟩:yAV)) fun r2=>
 bif !r2 then
 some (yBG.z,50,())
 else
 some (qa,0,())
theorem yU1(f1 f2):yGV.Eq [yG2.s f1,yBr.s f2] .no (yNr f1 f2):=fun _=>by kernel_rfl
def yEE(L:Nat):yGV.T:=yNr (yKI L) (yB8 L)
theorem yU0(L:Nat):yGV.C (yEE L):=yGV.c (yU1 (yKI L) (yB8 L)) (tC (yVk L).ent (tC (yMC L).ent tN)) Tryz.func289 (by kernel_rfl) (lN _)
abbrev yJW:=fw2 290 (caC yVp (caC cI caN)) yVp
abbrev yQO(x0:yBG)(x1:Int):Option yBG:=
 bif x0.Inst !=x1 then
 some (⟨x1,x0.Mbal,0,noS⟩:yBG)
 else
 some x0
theorem yWh:yJW.Eq [] .no (yQO):=fun _=>by kernel_rfl
def yO4(L:Nat):yJW.T:=yQO
theorem yWg(L:Nat):yJW.C (yO4 L):=yJW.c (yWh) tN Tryz.func290 (by kernel_rfl) (lN _)
abbrev yC7:=(List (List V))×Int×Int×Unit
abbrev yFQ:=Int×Unit
abbrev yBt{α:Type}(s:yC7)(kn:yC7→Option α)(k0:yFQ→Option α):Option α:=
 bif decide (s.2.2.1<(s.1.length:Int)) then
 gI s.1 kI s.2.2.1<|
 kn (s.1,minI true s.2.1 (aI s.1 s.2.2.1.toNat 0),w64 (s.2.2.1+1),())
 else
 k0 (s.2.1,())
abbrev yC8:LW1 yC7 yFQ:=⟨(lvC 0 (mP cdR) (lvC 3 (mP cI) (lvC 4 (mP cI) lvN))),(.exit 0),(lvC 3 (mP cI) lvN)⟩
theorem yOp{α:Type}:yC8.Eq (α:=α) [] Tryz.f328 [1,1,1,0,1,0] .no (yBt):=fun _ _ _=>by kernel_rfl
abbrev yCN:=fw1 328 (caC cdR caN) cI
abbrev yHD(F0:LF1 yC7 yFQ (Int))(x0:List (List V)):Option Int:=
 bif decide ((x0.length:Int)<1) then none else
 gd (decide (0<(x0.length:Int)))<|
 gd (rowIs kI x0 0)<|
 F0 (x0,aI x0 0 0,1,()) (fun q1=>
 some q1.1)
theorem yQE(F0):yCN.Eq [] (.two .no (.two .no (.two .no (.two (.two .no (.one (.lp (yC8.s F0)))) .no)))) (yHD F0):=fun _=>by kernel_rfl
def yD8(L:Nat):yCN.T:=yHD (loop1 (yBt) L)
theorem yNo{α:Type}(L:Nat):LO Tryz.f328 [1,1,1,0,1,0] (yC8.s (α:=α) (loop1 (yBt) L)):=yC8.k (yOp) tN (lN _) (by kernel_rfl) L
theorem yQD(L:Nat):yCN.C (yD8 L):=yCN.c (yQE (loop1 (yBt) L)) tN Tryz.func328 (by kernel_rfl) (lS (lN _) (lS (lN _) (lS (lN _) (lS (lS (lN _) (lB (lL (yNo L)))) (lN _)))))
abbrev yHO:=Int×Int×Int×Unit
abbrev yLC:=Int×Int×Unit
abbrev yED{α:Type}(s:yHO)(kn:yHO→Option α)(k0:yLC→Option α):Option α:=
 bif decide (w64 ((w64 (s.2.2.1*16))+s.1)≤s.2.1) then
 kn (s.1,s.2.1,w64 (s.2.2.1+1),())
 else
 k0 (s.1,s.2.2.1,())
abbrev yHP:LW1 yHO yLC:=⟨(lvC 0 (mP cI) (lvC 5 (mP cI) (lvC 6 (mP cI) lvN))),(.exit 0),(lvC 0 (mP cI) (lvC 6 (mP cI) lvN))⟩
theorem ySJ{α:Type}:yHP.Eq (α:=α) [] Tryz.f291 [1,1,1,1,0,0] .no (yED):=fun _ _ _=>by kernel_rfl
abbrev yGU:=fw2 291 (caC cI (caC cdR caN)) cI
abbrev yNq(f1:yCN.T)(f2:yCP.T)(F0:LF1 yHO yLC (Int))(x0:Int)(x1:List (List V)):Option Int:=
 gd (x1.all fun r=>Nat.beq r.length 1)<|
 gM (1+x1.length) 8<|
 gF (([[V.int .i64 0]])++x1) (0+(1+x1.length))<|
 bindO (f1 ((([[V.int .i64 0]])++x1).take (1+x1.length))) fun r1=>
 bindO (f2 x0 0 15) fun r2=>
 bif !r2 then
 some 0
 else
 bif decide (1099511627776<r1) then
 some 0
 else
 F0 (x0,r1,minI true 1 (w64 ((w64 (r1-x0)).tdiv 16)),()) (fun q3=>
 bif decide (w64 ((w64 (q3.2.1*16))+q3.1)≤1099511627776) then
 some (w64 ((w64 (q3.2.1*16))+q3.1))
 else
 some 0)
theorem yUz(f1 f2 F0):yGU.Eq [yCN.s f1,yCP.s f2] (.two .no (.two .no (.two .no (.two .no (.two (.one (.lp (yHP.s F0))) .no))))) (yNq f1 f2 F0):=fun _=>by kernel_rfl
def yJX(L:Nat):yGU.T:=yNq (yD8 L) (yEF L) (loop1 (yED) L)
theorem yRZ{α:Type}(L:Nat):LO Tryz.f291 [1,1,1,1,0,0] (yHP.s (α:=α) (loop1 (yED) L)):=yHP.k (ySJ) tN (lN _) (by kernel_rfl) L
theorem yUy(L:Nat):yGU.C (yJX L):=yGU.c (yUz (yD8 L) (yEF L) (loop1 (yED) L)) (tC (yQD L).ent (tC (yOr L).ent tN)) Tryz.func291 (by kernel_rfl) (lS (lN _) (lS (lN _) (lS (lN _) (lS (lN _) (lS (lB (lL (yRZ L))) (lN _))))))
abbrev yH9:=fw1 330 (caC yVp caN) cdB
abbrev yO5(f1:yBr.T)(x0:yBG):Option Bool:=
 bindO (f1 (⟨x0⟩:yAV)) fun r1=>
 some r1
theorem yVo(f1):yH9.Eq [yBr.s f1] .no (yO5 f1):=fun _=>by kernel_rfl
def yPt(L:Nat):yH9.T:=yO5 (yB8 L)
theorem yVn(L:Nat):yH9.C (yPt L):=yH9.c (yVo (yB8 L)) (tC (yMC L).ent tN) Tryz.func330 (by kernel_rfl) (lN _)
end Go.Proofs.YtakljpcmbpaeaaaGreat

namespace Go.Proofs.YtakljpcmbpaeaaaGreat
open Go.RowKit
set_option maxRecDepth 100000
set_option maxHeartbeats 16000000
abbrev yBk:=mw1 189 (zW 1 (zP cI (zP (cdI .i8) zN))) 3 (caC cdS caN) (cdT (caC cdS (caC cI caN)))
abbrev yG9(f1:yNe.T)(f2:yQ8.T)(x0:(List (List V))×Int×Int×Unit)(x1:ByteArray):Option ((ByteArray×Int×Unit)×((List (List V))×Int×Int×Unit)):=
 letI qh:=rowsS x1
 letI qg:=x0.2.2.1
 letI qe:= [[V.int .u8 (IntKind.u8.wrap qg)]]
 letI qb:=qh.length
 letI qf:=1+qb
 letI qa:=qe++qh
 letI qi:=qa.take qf
 bif decide (qg<1) then
 gW x0.1 x0.1.length<|
 some ((noS,2,()),(x0.1,x0.2.1,qg,()))
 else
 bif decide (505<(x1.size:Int)) then
 gW x0.1 x0.1.length<|
 some ((noS,2,()),(x0.1,x0.2.1,qg,()))
 else
 bindO (f1 qe 2 ([[V.int .i64 (x1.size:Int)]])) fun r1=>
 letI qd:=r1.1.length+qb
 letI qc:=r1.1++qh
 letI qj:=qc.take qd
 bif r1.2.1 !=0 then
 gM qf 1<|
 gF qa (0+qf)<|
 bindO (f2 qi) fun r2=>
 gF qa (0+qf)<|
 bindO (f1 qi 4 ([[V.int .i64 r2]])) fun r3=>
 bif r3.2.1 !=0 then
 gd (Nat.ble (0+qf) (qa.length))<|
 gd ((bytesOf qi).isSome)<|
 gd (Nat.beq (max 1 (min 2000000 (qa.length))) 0)<|
 gW qa qf<|
 some ((bytesS qi,2,()),(qe++qh,2,qg,()))
 else
 gd (Nat.ble (0+r3.1.length) r3.1.length)<|
 gd ((bytesOf (r3.1.take r3.1.length)).isSome)<|
 gW r3.1 r3.1.length<|
 some ((bytesS (r3.1.take r3.1.length),2,()),(r3.1,2,qg,()))
 else
 gd (Nat.beq (0+r1.1.length) r1.1.length)<|
 gM qd 1<|
 gF qc (0+qd)<|
 bindO (f2 qj) fun r4=>
 gF qc (0+qd)<|
 bindO (f1 qj 4 ([[V.int .i64 r4]])) fun r5=>
 bif r5.2.1 !=0 then
 gd (Nat.ble (0+qd) (qc.length))<|
 gd ((bytesOf qj).isSome)<|
 gd (Nat.beq (max 0 (min 2000000 (qc.length))) 0)<|
 gW qc qd<|
 some ((bytesS qj,2,()),(r1.1++qh,2,qg,()))
 else
 gd (Nat.ble (0+r5.1.length) r5.1.length)<|
 gd ((bytesOf (r5.1.take r5.1.length)).isSome)<|
 gW r5.1 r5.1.length<|
 some ((bytesS (r5.1.take r5.1.length),x0.2.1,()),(r5.1,x0.2.1,qg,()))
theorem yQC(f1 f2):yBk.Eq [yNe.s f1,yQ8.s f2] .no (yG9 f1 f2):=fun _ _=>by kernel_rfl
def yCH(L:Nat):yBk.T:=yG9 (num_Put L) (crc_Sum L)
theorem yLn(L:Nat):yBk.C (yCH L):=yBk.c (yQC (num_Put L) (crc_Sum L)) (tC (num_Put_c L).ent (tC (crc_Sum_c L).ent tN)) Tryz.func189 (by kernel_rfl) (lN _)
abbrev yKy:=ByteArray×(List (List V))×((List (List V))×Int×Int×Unit)×(List (List V))×Int×Int×Unit
abbrev yNS:=ByteArray×((List (List V))×Int×Int×Unit)×Unit
abbrev yNT:=ByteArray×Int×Unit
abbrev yE9{α:Type}(f1:yNe.T)(s:yKy)(kn:yKy→Option α)(k0:yNS→Option α)(k1:yNT→Option α):Option α:=
 letI qb:=s.2.2.1.1
 letI qa:=s.2.2.2.2.2.1
 bif decide (qa<s.2.2.2.2.1) then
 gI s.2.2.2.1 kI qa<|
 gI s.2.1 kI qa<|
 gF qb (0+qb.length)<|
 bindO (f1 (qb.take qb.length) (aI s.2.1 qa.toNat 0) ([[V.int .i64 (aI s.2.2.2.1 qa.toNat 0)]])) fun r1=>
 bif r1.2.1 !=0 then
 k1 (noS,2,())
 else
 bif s.2.2.1.2.1 !=0 then
 k1 (noS,2,())
 else
 bif decide (505<(r1.1.length:Int)) then
 k1 (noS,2,())
 else
 gW r1.1 r1.1.length<|
 kn (s.1,s.2.1,(r1.1,s.2.2.1.2.1,s.2.2.1.2.2.1,()),s.2.2.2.1,s.2.2.2.2.1,w64 (qa+1),())
 else
 gW qb qb.length<|
 k0 (s.1,(qb,s.2.2.1.2.1,s.2.2.1.2.2.1,()),())
abbrev yKz:LW2 yKy yNS yNT:=⟨(lvC 1 (mP cdS) (lvC 2 (mP cdR) (lvC 10 (mO (zW 1 (zP cI (zP (cdI .i8) zN))) 3) (lvC 21 (mP cdR) (lvC 22 (mP cI) (lvC 23 (mP cI) lvN)))))),(.exit 0),(lvC 1 (mP cdS) (lvC 10 (mO (zW 1 (zP cI (zP (cdI .i8) zN))) 3) lvN)),.ret,(lvC 8 (mP cdS) (lvC 9 (mP cI) lvN))⟩
theorem yUp{α:Type}(f1):yKz.Eq (α:=α) [yNe.s f1] Tryz.f139 [1,1,1,0,1,0] .no (yE9 f1):=fun _ _ _=>by kernel_rfl
abbrev yKJ:=fw4 139 (caC (cdI .i8) (caC cdS (caC cdR (caC cdR caN)))) (cdT (caC cdS (caC cI caN)))
abbrev yQv(f1:yBk.T)(F0:LF2 yKy yNS yNT (ByteArray×Int×Unit))(x0:Int)(x1:ByteArray)(x2:List (List V))(x3:List (List V)):Option (ByteArray×Int×Unit):=
 bif(x2.length:Int) !=(x3.length:Int) then
 some (noS,2,())
 else
 F0 (x1,x2,([],0,x0,()),x3,(x3.length:Int),0,()) (fun q1=>
 letI qa:=q1.2.1.1
 letI qb:=qa.take qa.length
 gd (Nat.ble (0+qa.length) qa.length)<|
 gd ((bytesOf qb).isSome)<|
 gd (decide (((bytesS qb).size)+q1.1.size≤9223372036854775807))<|
 gW qa qa.length<|
 bindO (f1 (qa,q1.2.1.2.1,q1.2.1.2.2.1,()) ((bytesS qb)++q1.1)) fun r2=>
 some (r2.1.1,r2.1.2.1,())) (fun q3=>
 some (q3.1,q3.2.1,()))
theorem yXK(f1 F0):yKJ.Eq [yBk.s f1] (.two .no (.two .no (.two .no (.two (.two .no (.one (.lp (yKz.s F0)))) .no)))) (yQv f1 F0):=fun _=>by kernel_rfl
def yNm(L:Nat):yKJ.T:=yQv (yCH L) (loop2 (yE9 (num_Put L)) L)
theorem yTz{α:Type}(L:Nat):LO Tryz.f139 [1,1,1,0,1,0] (yKz.s (α:=α) (loop2 (yE9 (num_Put L)) L)):=yKz.k (yUp (num_Put L)) (tC (num_Put_c L).ent tN) (lN _) (by kernel_rfl) L
theorem yXJ(L:Nat):yKJ.C (yNm L):=yKJ.c (yXK (yCH L) (loop2 (yE9 (num_Put L)) L)) (tC (yLn L).ent tN) Tryz.func139 (by kernel_rfl) (lS (lN _) (lS (lN _) (lS (lN _) (lS (lS (lN _) (lB (lL (yTz L)))) (lN _)))))
abbrev yCJ:=fw1 331 (caC (cdP yLE) caN) (cdT (caC cdS (caC cI caN)))
abbrev yG3(f1:yB1.T)(f2:yKJ.T)(x0:yAV):Option (ByteArray×Int×Unit):=
 bindO (f1 x0) fun r1=>
 bindO (f2 4 x0.Rec.Val r1 ([[V.int .i64 x0.Rec.Inst],[V.int .i64 x0.Rec.Mbal],[V.int .i64 x0.Rec.Bal]])) fun r2=>
 some (r2.1,r2.2.1,())
theorem yP1(f1 f2):yCJ.Eq [yB1.s f1,yKJ.s f2] .no (yG3 f1 f2):=fun _=>by kernel_rfl
def yFz(L:Nat):yCJ.T:=yG3 (yEO L) (yNm L)
theorem yP0(L:Nat):yCJ.C (yFz L):=yCJ.c (yP1 (yEO L) (yNm L)) (tC (yOt L).ent (tC (yXJ L).ent tN)) Tryz.func331 (by kernel_rfl) (lN _)
abbrev yFa:=fw1 292 (caC yVp caN) (cdT (caC cdS (caC cI caN)))
abbrev yM5(f1:yH9.T)(f2:yCJ.T)(x0:yBG):Option (ByteArray×Int×Unit):=
 bindO (f1 x0) fun r1=>
 bif !r1 then
 some (noS,2,())
 else
 bindO (f2 (⟨x0⟩:yAV)) fun r2=>
 some (r2.1,r2.2.1,())
theorem yT4(f1 f2):yFa.Eq [yH9.s f1,yCJ.s f2] .no (yM5 f1 f2):=fun _=>by kernel_rfl
def yH8(L:Nat):yFa.T:=yM5 (yPt L) (yFz L)
theorem yT3(L:Nat):yFa.C (yH8 L):=yFa.c (yT4 (yPt L) (yFz L)) (tC (yVn L).ent (tC (yP0 L).ent tN)) Tryz.func292 (by kernel_rfl) (lN _)
abbrev yDB:=fw3 293 (caC cI (caC cdS (caC cI caN))) yNZ
abbrev yKZ(x0:Int)(x1:ByteArray)(x2:Int):Option yA5:=
 bif x2 !=0 then
 some yA5.z
 else
 bif decide (x0<0) then
 some yA5.z
 else
 some (⟨2,x0,x1,0⟩:yA5)
theorem yUL:yDB.Eq [] .no (yKZ):=fun _=>by kernel_rfl
def yDw(L:Nat):yDB.T:=yKZ
theorem yQL(L:Nat):yDB.C (yDw L):=yDB.c (yUL) tN Tryz.func293 (by kernel_rfl) (lN _)
abbrev yCq:=fw1 247 (caC (cdP yGA) caN) yNZ
abbrev yIt(f1:yFa.T)(f2:yCs.T)(f3:yDB.T)(x0:yAK):Option yA5:=
 bindO (f1 x0.Prop_.Own) fun r1=>
 bindO (f2 x0.g_ x0.Prop_.Node) fun r2=>
 bindO (f3 r2 r1.1 r1.2.1) fun r3=>
 some r3
theorem yRG(f1 f2 f3):yCq.Eq [yFa.s f1,yCs.s f2,yDB.s f3] .no (yIt f1 f2 f3):=fun _=>by kernel_rfl
def yHX(L:Nat):yCq.T:=yIt (yH8 L) (yDq L) (yDw L)
theorem yRF(L:Nat):yCq.C (yHX L):=yCq.c (yRG (yH8 L) (yDq L) (yDw L)) (tC (yT3 L).ent (tC (yNy L).ent (tC (yQL L).ent tN))) Tryz.func247 (by kernel_rfl) (lN _)
abbrev yDN:=yAO×(List (List V))×Int×Int×Unit
abbrev yFp:=yAO×Unit
abbrev yEP{α:Type}(s:yDN)(kn:yDN→Option α)(k0:yFp→Option α):Option α:=
 bif decide (s.2.2.2.1<s.2.2.1) then
 gI s.2.1 kI s.2.2.2.1<|
 kn ((⟨{s.1.Tally with Seen:=minI true s.1.Tally.Seen (aI s.2.1 s.2.2.2.1.toNat 0)}⟩:yAO),s.2.1,s.2.2.1,w64 (s.2.2.2.1+1),())
 else
 k0 (s.1,())
abbrev yDO:LW1 yDN yFp:=⟨(lvC 0 yPK (lvC 6 (mP cdR) (lvC 7 (mP cI) (lvC 8 (mP cI) lvN)))),(.exit 0),(lvC 0 yPK lvN)⟩
theorem yOv{α:Type}:yDO.Eq (α:=α) [] Tryz.f332 [1,0] .no (yEP):=fun _ _ _=>by kernel_rfl
abbrev yCV:=mw1 332 (zS 7 yO6) 7 (caC cdR caN) (cdT caN)
abbrev yME(F0:LF1 yDN yFp (Unit×yAO))(x0:yAO)(x1:List (List V)):Option (Unit×yAO):=
 F0 (x0,x1,(x1.length:Int),0,()) (fun q1=>
 some ((()),q1.1))
theorem yQS(F0):yCV.Eq [] (.two .no (.one (.lp (yDO.s F0)))) (yME F0):=fun _ _=>by kernel_rfl
def yGY(L:Nat):yCV.T:=yME (loop1 (yEP) L)
theorem yNs{α:Type}(L:Nat):LO Tryz.f332 [1,0] (yDO.s (α:=α) (loop1 (yEP) L)):=yDO.k (yOv) tN (lN _) (by kernel_rfl) L
theorem yQR(L:Nat):yCV.C (yGY L):=yCV.c (yQS (loop1 (yEP) L)) tN Tryz.func332 (by kernel_rfl) (lS (lN _) (lB (lL (yNs L))))
end Go.Proofs.YtakljpcmbpaeaaaGreat
