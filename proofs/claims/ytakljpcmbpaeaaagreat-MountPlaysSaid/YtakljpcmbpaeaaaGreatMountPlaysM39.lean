/- Typed functions. (printed by wip/sx) -/
import Derived.Test.YtakljpcmbpaeaaaGreatMountPlaysM35
import Derived.Test.YtakljpcmbpaeaaaGreatMountPlaysM38
import Derived.Test.YtakljpcmbpaeaaaGreatMountPlaysM36
set_option linter.unusedSimpArgs false
set_option linter.unusedVariables false
namespace Go.Proofs.YtakljpcmbpaeaaaGreat
open Go.RowKit
set_option maxRecDepth 100000
set_option maxHeartbeats 16000000
abbrev yCv:=fw4 66 (caC yBQ (caC yDS (caC (cdI .i8) (caC (cdI .i8) caN)))) (cdT (caC yDS (caC yKr (caC cdB caN))))
abbrev yN9(f1:yEV.T)(f2:yIb.T)(x0:yAJ)(x1:yAL)(x2:Int)(x3:Int):Option (yAL×yAC×Bool×Unit):=
 letI qa:=(⟨2,noS,false⟩:yAC)
 yAB (f1 (⟨x2,x1.Key,w64 (x1.Serial+1),0,0,yAr.z,0⟩:yAc)) fun r1=>
 yAB (f2 x0 x1.Num r1.1) fun r2=>
 bif r1.2.1 !=0 then
 some ({x1 with At:=0,P:=yAH.z,St:=yAE.z },qa,true,())
 else
 bif r2.2.1 !=0 then
 some ({x1 with At:=0,P:=yAH.z,St:=yAE.z },qa,true,())
 else
 some ({x1 with Serial:=w64 (x1.Serial+1),At:=x3,P:=r2.1 },yAC.z,false,())
theorem yZo(f1 f2):yCv.Eq [yEV.s f1,yIb.s f2] .no (yN9 f1 f2):=fun _=>by kernel_rfl
def yDf(L:Nat):yCv.T:=yN9 (yHg L) (yPa L)
theorem ySs(L:Nat):yCv.C (yDf L):=yCv.c (yZo (yHg L) (yPa L)) (tC (yWr L).ent (tC (xFH L).ent tN)) Tryz.func66 (by kernel_rfl) (lN _)
abbrev yIi:=fw2 14 (caC yBQ (caC yDS caN)) (cdT (caC yDS (caC yKr (caC cdB caN))))
abbrev ySc(f1:yAn.T)(f2:yKc.T)(f3:yIh.T)(f4:yCv.T)(x0:yAJ)(x1:yAL):Option (yAL×yAC×Bool×Unit):=
 letI qc:=f4 x0 x1 0 4
 letI qb:=(⟨241,noS,false⟩:yAC)
 letI qa:=(⟨2,noS,false⟩:yAC)
 yAB (f1 x0) fun r1=>
 bif !r1 then
 some ({x1 with At:=0,P:=yAH.z,St:=yAE.z },qa,true,())
 else
 bif decide (x1.Num<0) then
 some ({x1 with At:=0,P:=yAH.z,St:=yAE.z },qa,true,())
 else
 bif decide (x0.Nodes<=x1.Num) then
 some ({x1 with At:=0,P:=yAH.z,St:=yAE.z },qa,true,())
 else
 yAB (f2 ([[V.int .i8 x1.Op.Kind]])) fun r2=>
 bif !r2 then
 some ({x1 with At:=0,P:=yAH.z,St:=yAE.z },qa,true,())
 else
 bif x1.Op.Kind==1 then
 bif !x1.Mounted then
 some ({x1 with At:=0,P:=yAH.z,St:=yAE.z },qb,true,())
 else
 bif x1.Txn.Open then
 some ({x1 with At:=0,P:=yAH.z,St:=yAE.z },(⟨252,noS,false⟩:yAC),true,())
 else
 yAB (f3 x0 x1.Pend) fun r3=>
 bif r3.2.1 !=0 then
 some ({x1 with At:=0,P:=yAH.z,St:=yAE.z },qa,true,())
 else
 bif decide (2<r3.1.At) then
 yAB (f4 x0 x1 1 7) fun r4=>
 some (r4.1,r4.2.1,r4.2.2.1,())
 else
 some ({x1 with At:=6,St:=r3.1 },yAC.z,false,())
 else
 bif x1.Op.Kind==13 then
 bif x1.Key !=0 then
 some ({x1 with At:=0,P:=yAH.z,St:=yAE.z },yAC.z,true,())
 else
 bif x1.Op.Kind==0 then
 bif x1.Mounted then
 some ({x1 with At:=0,P:=yAH.z,St:=yAE.z },qb,true,())
 else
 bif x1.Key !=0 then
 yAB qc fun r5=>
 some (r5.1,r5.2.1,r5.2.2.1,())
 else
 some ({x1 with At:=0 },yAC.z,false,())
 else
 bif x1.Key !=0 then
 yAB qc fun r6=>
 some (r6.1,r6.2.1,r6.2.2.1,())
 else
 some ({x1 with At:=0 },yAC.z,false,())
 else
 bif x1.Op.Kind==0 then
 bif x1.Mounted then
 some ({x1 with At:=0,P:=yAH.z,St:=yAE.z },qb,true,())
 else
 bif x1.Key !=0 then
 yAB qc fun r7=>
 some (r7.1,r7.2.1,r7.2.2.1,())
 else
 some ({x1 with At:=0 },yAC.z,false,())
 else
 bif x1.Key !=0 then
 yAB qc fun r8=>
 some (r8.1,r8.2.1,r8.2.2.1,())
 else
 some ({x1 with At:=0 },yAC.z,false,())
theorem xFS(f1 f2 f3 f4):yIi.Eq [yAn.s f1,yKc.s f2,yIh.s f3,yCv.s f4] .no (ySc f1 f2 f3 f4):=fun _=>by kernel_rfl
def yEx(L:Nat):yIi.T:=ySc (yBV L) (yRI L) (yPg L) (yDf L)
theorem xFR(L:Nat):yIi.C (yEx L):=yIi.c (xFS (yBV L) (yRI L) (yPg L) (yDf L)) (tC (yCi L).ent (tC (xHw L).ent (tC (xFP L).ent (tC (ySs L).ent tN)))) Tryz.func14 (by kernel_rfl) (lN _)
abbrev yE5:=(List (List V))×(List (List V))×Int×Unit
abbrev yIv:=Unit
abbrev yHE{α:Type}(s:yE5)(kn:yE5->Option α)(k0:yIv->Option α):Option α:=
 letI qa:=s.2.2.1
 bif decide (qa<(s.1.length:Int)) then
 gI s.1 yAd.ks qa<|
 gI s.2.1 yAd.ks qa<|
 bif !(((aI s.1 qa.toNat 0)==(aI s.2.1 qa.toNat 0))&&(((aI s.1 qa.toNat 1)==(aI s.2.1 qa.toNat 1))&&(((aI s.1 qa.toNat 2)==(aI s.2.1 qa.toNat 2))&&(((aI s.1 qa.toNat 3)==(aI s.2.1 qa.toNat 3))&&true)))) then none else
 kn (s.1,s.2.1,w64 (qa+1),())
 else
 k0 (())
abbrev yE6:LW1 yE5 yIv:=⟨(lvC 0 (mP cdR) (lvC 1 (mP cdR) (lvC 5 (mP cI) lvN))),(.exit 0),lvN⟩
theorem yUo{α:Type}:yE6.Eq (α:=α) [] Tryz.f104 [1,1,0,1,0] (.two .no (.two (.one (.two .no (.two xT .no))) .no)) (yHE):=fun _ _ _=>by kernel_rfl
abbrev yDi:=fw2 104 (caC cdR (caC cdR caN)) cdB
abbrev yRE(F0:LF1 yE5 yIv (Bool))(x0:List (List V))(x1:List (List V)):Option Bool:=
 bif(x0.length:Int) !=(x1.length:Int) then none else
 F0 (x0,x1,0,()) (fun q1=>
 some true)
theorem yX6(F0):yDi.Eq [] (.two .no (.two (.two .no (.two xT .no)) (.two (.two .no (.one (.lp (yE6.s F0)))) .no))) (yRE F0):=fun _=>by kernel_rfl
def yLF(L:Nat):yDi.T:=yRE (yAb (yHE) L)
theorem yT1{α:Type}(L:Nat):LO Tryz.f104 [1,1,0,1,0] (yE6.s (α:=α) (yAb (yHE) L)):=yE6.k (yUo) tN (lS (lN _) (lS (lB (lS (lN _) (lQ (lX _) (lN _)))) (lN _))) (by kernel_rfl) L
theorem yX5(L:Nat):yDi.C (yLF L):=yDi.c (yX6 (yAb (yHE) L)) tN Tryz.func104 (by kernel_rfl) (lS (lN _) (lS (lS (lN _) (lQ (lX _) (lN _))) (lS (lS (lN _) (lB (lL (yT1 L)))) (lN _))))
abbrev yLH:=yAG×yAG×Int×Unit
abbrev yPS:=Unit
abbrev yLG{α:Type}(s:yLH)(kn:yLH->Option α)(k0:yPS->Option α):Option α:=
 bif decide (s.2.2.1<(s.1.Slots.length:Int)) then
 gI s.1.Slots yAr.ks s.2.2.1<|
 gI s.2.1.Slots yAr.ks s.2.2.1<|
 bif !(((aI s.1.Slots s.2.2.1.toNat 0)==(aI s.2.1.Slots s.2.2.1.toNat 0))&&(((aI s.1.Slots s.2.2.1.toNat 1)==(aI s.2.1.Slots s.2.2.1.toNat 1))&&true)) then none else
 kn (s.1,s.2.1,w64 (s.2.2.1+1),())
 else
 k0 (())
abbrev yLI:LW1 yLH yPS:=⟨(lvC 2 yH5 (lvC 3 yH5 (lvC 5 (mP cI) lvN))),(.exit 0),lvN⟩
theorem xBS{α:Type}:yLI.Eq (α:=α) [] Tryz.f29 [1,1,0,1,0] (.two .no (.two (.one (.two .no (.two xT .no))) .no)) (yLG):=fun _ _ _=>by kernel_rfl
abbrev yKS:=fw2 29 (caC yCf (caC yCf caN)) cdB
abbrev yT2(f1:yDi.T)(F0:LF1 yLH yPS (Bool))(x0:yAG)(x1:yAG):Option Bool:=
 bif(x0.Slots.length:Int) !=(x1.Slots.length:Int) then none else
 yAB (f1 x0.Holds x1.Holds) fun r1=>
 bif !r1 then none else
 yAB (f1 x0.Queue x1.Queue) fun r2=>
 bif !r2 then none else
 F0 (x0,x1,0,()) (fun q3=>
 some true)
theorem xHZ(f1 F0):yKS.Eq [yDi.s f1] (.two .no (.two (.two .no (.two xT .no)) (.two (.two .no (.one (.lp (yLI.s F0)))) .no))) (yT2 f1 F0):=fun _=>by kernel_rfl
def yOw(L:Nat):yKS.T:=yT2 (yLF L) (yAb (yLG) L)
theorem yZe{α:Type}(L:Nat):LO Tryz.f29 [1,1,0,1,0] (yLI.s (α:=α) (yAb (yLG) L)):=yLI.k (xBS) tN (lS (lN _) (lS (lB (lS (lN _) (lQ (lX _) (lN _)))) (lN _))) (by kernel_rfl) L
theorem xHY(L:Nat):yKS.C (yOw L):=yKS.c (xHZ (yLF L) (yAb (yLG) L)) (tC (yX5 L).ent tN) Tryz.func29 (by kernel_rfl) (lS (lN _) (lS (lS (lN _) (lQ (lX _) (lN _))) (lS (lS (lN _) (lB (lL (yZe L)))) (lN _))))
abbrev yLQ:=(List (List V))×(List (List V))×Int×Unit
abbrev yPf:=Unit
abbrev yOi{α:Type}(s:yLQ)(kn:yLQ->Option α)(k0:yPf->Option α):Option α:=
 bif decide (s.2.2.1<(s.1.length:Int)) then
 gI s.1 yCw.ks s.2.2.1<|
 gI s.2.1 yCw.ks s.2.2.1<|
 bif !(((aI s.1 s.2.2.1.toNat 0)==(aI s.2.1 s.2.2.1.toNat 0))&&(((aS s.1 s.2.2.1.toNat 1).toList==(aS s.2.1 s.2.2.1.toNat 1).toList)&&true)) then none else
 kn (s.1,s.2.1,w64 (s.2.2.1+1),())
 else
 k0 (())
abbrev yLR:LW1 yLQ yPf:=⟨(lvC 0 (mP cdR) (lvC 1 (mP cdR) (lvC 5 (mP cI) lvN))),(.exit 0),lvN⟩
theorem xBa{α:Type}:yLR.Eq (α:=α) [] Tryz.f68 [1,1,0,1,0] (.two .no (.two (.one (.two .no (.two xT .no))) .no)) (yOi):=fun _ _ _=>by kernel_rfl
abbrev yKZ:=fw2 68 (caC cdR (caC cdR caN)) cdB
abbrev yYx(F0:LF1 yLQ yPf (Bool))(x0:List (List V))(x1:List (List V)):Option Bool:=
 bif(x0.length:Int) !=(x1.length:Int) then none else
 F0 (x0,x1,0,()) (fun q1=>
 some true)
theorem xHr(F0):yKZ.Eq [] (.two .no (.two (.two .no (.two xT .no)) (.two (.two .no (.one (.lp (yLR.s F0)))) .no))) (yYx F0):=fun _=>by kernel_rfl
def yUa(L:Nat):yKZ.T:=yYx (yAb (yOi) L)
theorem yZk{α:Type}(L:Nat):LO Tryz.f68 [1,1,0,1,0] (yLR.s (α:=α) (yAb (yOi) L)):=yLR.k (xBa) tN (lS (lN _) (lS (lB (lS (lN _) (lQ (lX _) (lN _)))) (lN _))) (by kernel_rfl) L
theorem xHq(L:Nat):yKZ.C (yUa L):=yKZ.c (xHr (yAb (yOi) L)) tN Tryz.func68 (by kernel_rfl) (lS (lN _) (lS (lS (lN _) (lQ (lX _) (lN _))) (lS (lS (lN _) (lB (lL (yZk L)))) (lN _))))
set_option maxRecDepth 100000
set_option maxHeartbeats 16000000
abbrev yHI:=(List (List V))×(List (List V))×Int×Unit
abbrev yLU:=Unit
abbrev yJl{α:Type}(s:yHI)(kn:yHI->Option α)(k0:yLU->Option α):Option α:=
 letI qa:=s.2.2.1
 bif decide (qa<(s.1.length:Int)) then
 gI s.1 yJo.ks qa<|
 gI s.2.1 yJo.ks qa<|
 bif !(((aI s.1 qa.toNat 0)==(aI s.2.1 qa.toNat 0))&&(((aI s.1 qa.toNat 1)==(aI s.2.1 qa.toNat 1))&&(((aI s.1 qa.toNat 2)==(aI s.2.1 qa.toNat 2))&&(((aB s.1 qa.toNat 3)==(aB s.2.1 qa.toNat 3))&&true)))) then none else
 kn (s.1,s.2.1,w64 (qa+1),())
 else
 k0 (())
abbrev yHJ:LW1 yHI yLU:=⟨(lvC 0 (mP cdR) (lvC 1 (mP cdR) (lvC 5 (mP cI) lvN))),(.exit 0),lvN⟩
theorem yW0{α:Type}:yHJ.Eq (α:=α) [] Tryz.f69 [1,1,0,1,0] (.two .no (.two (.one (.two .no (.two xT .no))) .no)) (yJl):=fun _ _ _=>by kernel_rfl
abbrev yFR:=fw2 69 (caC cdR (caC cdR caN)) cdB
abbrev yUB(F0:LF1 yHI yLU (Bool))(x0:List (List V))(x1:List (List V)):Option Bool:=
 bif(x0.length:Int) !=(x1.length:Int) then none else
 F0 (x0,x1,0,()) (fun q1=>
 some true)
theorem xBd(F0):yFR.Eq [] (.two .no (.two (.two .no (.two xT .no)) (.two (.two .no (.one (.lp (yHJ.s F0)))) .no))) (yUB F0):=fun _=>by kernel_rfl
def yOk(L:Nat):yFR.T:=yUB (yAb (yJl) L)
theorem yVn{α:Type}(L:Nat):LO Tryz.f69 [1,1,0,1,0] (yHJ.s (α:=α) (yAb (yJl) L)):=yHJ.k (yW0) tN (lS (lN _) (lS (lB (lS (lN _) (lQ (lX _) (lN _)))) (lN _))) (by kernel_rfl) L
theorem xBc(L:Nat):yFR.C (yOk L):=yFR.c (xBd (yAb (yJl) L)) tN Tryz.func69 (by kernel_rfl) (lS (lN _) (lS (lS (lN _) (lQ (lX _) (lN _))) (lS (lS (lN _) (lB (lL (yVn L)))) (lN _))))
abbrev yJh:=(List (List V))×(List (List V))×Int×Unit
abbrev yOA:=Unit
abbrev yM6{α:Type}(s:yJh)(kn:yJh->Option α)(k0:yOA->Option α):Option α:=
 bif decide (s.2.2.1<(s.1.length:Int)) then
 gI s.1 yAr.ks s.2.2.1<|
 gI s.2.1 yAr.ks s.2.2.1<|
 bif !(((aI s.1 s.2.2.1.toNat 0)==(aI s.2.1 s.2.2.1.toNat 0))&&(((aI s.1 s.2.2.1.toNat 1)==(aI s.2.1 s.2.2.1.toNat 1))&&true)) then none else
 kn (s.1,s.2.1,w64 (s.2.2.1+1),())
 else
 k0 (())
abbrev yJi:LW1 yJh yOA:=⟨(lvC 0 (mP cdR) (lvC 1 (mP cdR) (lvC 5 (mP cI) lvN))),(.exit 0),lvN⟩
theorem yZp{α:Type}:yJi.Eq (α:=α) [] Tryz.f70 [1,1,0,1,0] (.two .no (.two (.one (.two .no (.two xT .no))) .no)) (yM6):=fun _ _ _=>by kernel_rfl
abbrev yIj:=fw2 70 (caC cdR (caC cdR caN)) cdB
abbrev yWy(F0:LF1 yJh yOA (Bool))(x0:List (List V))(x1:List (List V)):Option Bool:=
 bif(x0.length:Int) !=(x1.length:Int) then none else
 F0 (x0,x1,0,()) (fun q1=>
 some true)
theorem xFU(F0):yIj.Eq [] (.two .no (.two (.two .no (.two xT .no)) (.two (.two .no (.one (.lp (yJi.s F0)))) .no))) (yWy F0):=fun _=>by kernel_rfl
def ySd(L:Nat):yIj.T:=yWy (yAb (yM6) L)
theorem yYD{α:Type}(L:Nat):LO Tryz.f70 [1,1,0,1,0] (yJi.s (α:=α) (yAb (yM6) L)):=yJi.k (yZp) tN (lS (lN _) (lS (lB (lS (lN _) (lQ (lX _) (lN _)))) (lN _))) (by kernel_rfl) L
theorem xFT(L:Nat):yIj.C (ySd L):=yIj.c (xFU (yAb (yM6) L)) tN Tryz.func70 (by kernel_rfl) (lS (lN _) (lS (lS (lN _) (lQ (lX _) (lN _))) (lS (lS (lN _) (lB (lL (yYD L)))) (lN _))))
abbrev yLN:=(List (List V))×(List (List V))×Int×Unit
abbrev yPd:=Unit
abbrev yOh{α:Type}(s:yLN)(kn:yLN->Option α)(k0:yPd->Option α):Option α:=
 letI qa:=s.2.2.1
 bif decide (qa<(s.1.length:Int)) then
 gI s.1 yF8.ks qa<|
 gI s.2.1 yF8.ks qa<|
 bif !(((aI s.1 qa.toNat 0)==(aI s.2.1 qa.toNat 0))&&(((aI s.1 qa.toNat 1)==(aI s.2.1 qa.toNat 1))&&(((aI s.1 qa.toNat 2)==(aI s.2.1 qa.toNat 2))&&(((aI s.1 qa.toNat 3)==(aI s.2.1 qa.toNat 3))&&(((aS s.1 qa.toNat 4).toList==(aS s.2.1 qa.toNat 4).toList)&&(((aI s.1 qa.toNat 5)==(aI s.2.1 qa.toNat 5))&&true)))))) then none else
 kn (s.1,s.2.1,w64 (qa+1),())
 else
 k0 (())
abbrev yLO:LW1 yLN yPd:=⟨(lvC 0 (mP cdR) (lvC 1 (mP cdR) (lvC 5 (mP cI) lvN))),(.exit 0),lvN⟩
theorem xBY{α:Type}:yLO.Eq (α:=α) [] Tryz.f131 [1,1,0,1,0] (.two .no (.two (.one (.two .no (.two xT .no))) .no)) (yOh):=fun _ _ _=>by kernel_rfl
abbrev yKY:=fw2 131 (caC cdR (caC cdR caN)) cdB
abbrev yYw(F0:LF1 yLN yPd (Bool))(x0:List (List V))(x1:List (List V)):Option Bool:=
 bif(x0.length:Int) !=(x1.length:Int) then none else
 F0 (x0,x1,0,()) (fun q1=>
 some true)
theorem xHp(F0):yKY.Eq [] (.two .no (.two (.two .no (.two xT .no)) (.two (.two .no (.one (.lp (yLO.s F0)))) .no))) (yYw F0):=fun _=>by kernel_rfl
def yUZ(L:Nat):yKY.T:=yYw (yAb (yOh) L)
theorem yZh{α:Type}(L:Nat):LO Tryz.f131 [1,1,0,1,0] (yLO.s (α:=α) (yAb (yOh) L)):=yLO.k (xBY) tN (lS (lN _) (lS (lB (lS (lN _) (lQ (lX _) (lN _)))) (lN _))) (by kernel_rfl) L
theorem xHo(L:Nat):yKY.C (yUZ L):=yKY.c (xHp (yAb (yOh) L)) tN Tryz.func131 (by kernel_rfl) (lS (lN _) (lS (lS (lN _) (lQ (lX _) (lN _))) (lS (lS (lN _) (lB (lL (yZh L)))) (lN _))))
abbrev yE7:=(List (List V))×(List (List V))×Int×Unit
abbrev yIw:=Unit
abbrev yHH{α:Type}(s:yE7)(kn:yE7->Option α)(k0:yIw->Option α):Option α:=
 bif decide (s.2.2.1<(s.1.length:Int)) then
 gI s.1 yCw.ks s.2.2.1<|
 gI s.2.1 yCw.ks s.2.2.1<|
 bif !(((aI s.1 s.2.2.1.toNat 0)==(aI s.2.1 s.2.2.1.toNat 0))&&(((aS s.1 s.2.2.1.toNat 1).toList==(aS s.2.1 s.2.2.1.toNat 1).toList)&&true)) then none else
 kn (s.1,s.2.1,w64 (s.2.2.1+1),())
 else
 k0 (())
abbrev yE8:LW1 yE7 yIw:=⟨(lvC 0 (mP cdR) (lvC 1 (mP cdR) (lvC 5 (mP cI) lvN))),(.exit 0),lvN⟩
theorem yUp{α:Type}:yE8.Eq (α:=α) [] Tryz.f134 [1,1,0,1,0] (.two .no (.two (.one (.two .no (.two xT .no))) .no)) (yHH):=fun _ _ _=>by kernel_rfl
abbrev yCZ:=fw2 134 (caC cdR (caC cdR caN)) cdB
abbrev yRH(F0:LF1 yE7 yIw (Bool))(x0:List (List V))(x1:List (List V)):Option Bool:=
 bif(x0.length:Int) !=(x1.length:Int) then none else
 F0 (x0,x1,0,()) (fun q1=>
 some true)
theorem yYB(F0):yCZ.Eq [] (.two .no (.two (.two .no (.two xT .no)) (.two (.two .no (.one (.lp (yE8.s F0)))) .no))) (yRH F0):=fun _=>by kernel_rfl
def yFP(L:Nat):yCZ.T:=yRH (yAb (yHH) L)
theorem yT8{α:Type}(L:Nat):LO Tryz.f134 [1,1,0,1,0] (yE8.s (α:=α) (yAb (yHH) L)):=yE8.k (yUp) tN (lS (lN _) (lS (lB (lS (lN _) (lQ (lX _) (lN _)))) (lN _))) (by kernel_rfl) L
theorem yRG(L:Nat):yCZ.C (yFP L):=yCZ.c (yYB (yAb (yHH) L)) tN Tryz.func134 (by kernel_rfl) (lS (lN _) (lS (lS (lN _) (lQ (lX _) (lN _))) (lS (lS (lN _) (lB (lL (yT8 L)))) (lN _))))
abbrev yKa:=fw2 132 (caC yHN (caC yHN caN)) cdB
abbrev yT9(f1:yCZ.T)(x0:yAE)(x1:yAE):Option Bool:=
 yAB (f1 x0.Cells x1.Cells) fun r1=>
 bif r1 then
 bif x0.I==x1.I then
 bif x0.Left==x1.Left then
 some (x0.At==x1.At)
 else
 some false
 else
 some false
 else
 some false
theorem xHt(f1):yKa.Eq [yCZ.s f1] .no (yT9 f1):=fun _=>by kernel_rfl
def yUb(L:Nat):yKa.T:=yT9 (yFP L)
theorem xHs(L:Nat):yKa.C (yUb L):=yKa.c (xHt (yFP L)) (tC (yRG L).ent tN) Tryz.func132 (by kernel_rfl) (lN _)
abbrev yJj:=(List (List V))×(List (List V))×Int×Unit
abbrev yOB:=Unit
abbrev yM7{α:Type}(s:yJj)(kn:yJj->Option α)(k0:yOB->Option α):Option α:=
 bif decide (s.2.2.1<(s.1.length:Int)) then
 gI s.1 kS s.2.2.1<|
 gI s.2.1 kS s.2.2.1<|
 bif !((aS s.1 s.2.2.1.toNat 0).toList==(aS s.2.1 s.2.2.1.toNat 0).toList) then none else
 kn (s.1,s.2.1,w64 (s.2.2.1+1),())
 else
 k0 (())
abbrev yJk:LW1 yJj yOB:=⟨(lvC 0 (mP cdR) (lvC 1 (mP cdR) (lvC 5 (mP cI) lvN))),(.exit 0),lvN⟩
theorem yZq{α:Type}:yJk.Eq (α:=α) [] Tryz.f133 [1,1,0,1,0] (.two .no (.two (.one (.two .no (.two xT .no))) .no)) (yM7):=fun _ _ _=>by kernel_rfl
abbrev yIk:=fw2 133 (caC cdR (caC cdR caN)) cdB
abbrev yWz(F0:LF1 yJj yOB (Bool))(x0:List (List V))(x1:List (List V)):Option Bool:=
 bif(x0.length:Int) !=(x1.length:Int) then none else
 F0 (x0,x1,0,()) (fun q1=>
 some true)
theorem xFW(F0):yIk.Eq [] (.two .no (.two (.two .no (.two xT .no)) (.two (.two .no (.one (.lp (yJk.s F0)))) .no))) (yWz F0):=fun _=>by kernel_rfl
def ySe(L:Nat):yIk.T:=yWz (yAb (yM7) L)
theorem yYE{α:Type}(L:Nat):LO Tryz.f133 [1,1,0,1,0] (yJk.s (α:=α) (yAb (yM7) L)):=yJk.k (yZq) tN (lS (lN _) (lS (lB (lS (lN _) (lQ (lX _) (lN _)))) (lN _))) (by kernel_rfl) L
theorem xFV(L:Nat):yIk.C (ySe L):=yIk.c (xFW (yAb (yM7) L)) tN Tryz.func133 (by kernel_rfl) (lS (lN _) (lS (lS (lN _) (lQ (lX _) (lN _))) (lS (lS (lN _) (lB (lL (yYE L)))) (lN _))))
set_option maxRecDepth 100000
set_option maxHeartbeats 16000000
abbrev yKg:=fw2 71 (caC yDS (caC yDS caN)) cdB
abbrev yUC(f1:yKY.T)(f2:yKa.T)(f3:yIk.T)(f4:yCZ.T)(x0:yAL)(x1:yAL):Option Bool:=
 bif(x0.P.Node==x1.P.Node)&&((x0.P.Cmd.toList==x1.P.Cmd.toList)&&((x0.P.At==x1.P.At)&&((x0.P.I==x1.P.I)&&((x0.P.Own.Inst==x1.P.Own.Inst)&&((x0.P.Own.Mbal==x1.P.Own.Mbal)&&((x0.P.Own.Bal==x1.P.Own.Bal)&&((x0.P.Own.Val.toList==x1.P.Own.Val.toList)&&((x0.P.T.Inst==x1.P.T.Inst)&&((x0.P.T.Mbal==x1.P.T.Mbal)&&((x0.P.T.Best==x1.P.T.Best)&&((x0.P.T.Val.toList==x1.P.T.Val.toList)&&((x0.P.T.Seen==x1.P.T.Seen)&&((x0.P.T.Ahead==x1.P.T.Ahead)&&((x0.P.T.Lost==x1.P.T.Lost)&&true)))))))))))))) then
 bif x0.Pu.I==x1.Pu.I then
 yAB (f1 x0.Pu.L x1.Pu.L) fun r1=>
 bif r1 then
 yAB (f2 x0.St x1.St) fun r2=>
 bif r2 then
 bif x0.F.Block==x1.F.Block then
 bif x0.F.K==x1.F.K then
 yAB (f3 x0.F.Parts x1.F.Parts) fun r3=>
 bif r3 then
 bif x0.R.Slot==x1.R.Slot then
 bif x0.R.Key==x1.R.Key then
 bif x0.R.At==x1.R.At then
 bif x0.R.Tail==x1.R.Tail then
 bif x0.R.I==x1.R.I then
 bif x0.R.End==x1.R.End then
 yAB (f1 x0.R.L x1.R.L) fun r4=>
 bif r4 then
 yAB (f4 x0.R.Cells x1.R.Cells) fun r5=>
 some r5
 else
 some false
 else
 some false
 else
 some false
 else
 some false
 else
 some false
 else
 some false
 else
 some false
 else
 some false
 else
 some false
 else
 some false
 else
 some false
 else
 some false
 else
 some false
 else
 some false
theorem xH5(f1 f2 f3 f4):yKg.Eq [yKY.s f1,yKa.s f2,yIk.s f3,yCZ.s f4] .no (yUC f1 f2 f3 f4):=fun _=>by kernel_rfl
def yUc(L:Nat):yKg.T:=yUC (yUZ L) (yUb L) (ySe L) (yFP L)
theorem xH4(L:Nat):yKg.C (yUc L):=yKg.c (xH5 (yUZ L) (yUb L) (ySe L) (yFP L)) (tC (xHo L).ent (tC (xHs L).ent (tC (xFV L).ent (tC (yRG L).ent tN)))) Tryz.func71 (by kernel_rfl) (lN _)
abbrev yKd:=fw2 15 (caC yDS (caC yDS caN)) cdB
abbrev yUA(f1:yKS.T)(f2:yKZ.T)(f3:yFR.T)(f4:yIj.T)(f5:yKg.T)(x0:yAL)(x1:yAL):Option Bool:=
 bif x0.Num !=x1.Num then none else
 bif x0.Clock !=x1.Clock then none else
 bif !(x0.Up==x1.Up) then none else
 bif x0.Over !=x1.Over then none else
 bif x0.Key !=x1.Key then none else
 bif x0.Asked !=x1.Asked then none else
 bif x0.Count !=x1.Count then none else
 bif !(x0.Mounted==x1.Mounted) then none else
 bif x0.Slot !=x1.Slot then none else
 bif x0.Head !=x1.Head then none else
 bif x0.Tail !=x1.Tail then none else
 bif x0.Done !=x1.Done then none else
 bif x0.Serial !=x1.Serial then none else
 bif !(x0.GivingAll==x1.GivingAll) then none else
 bif !(x0.Busy==x1.Busy) then none else
 bif !((x0.Op.Kind==x1.Op.Kind)&&((x0.Op.Span.Lo==x1.Op.Span.Lo)&&((x0.Op.Span.Hi==x1.Op.Span.Hi)&&((x0.Op.Mode==x1.Op.Mode)&&((x0.Op.Block==x1.Op.Block)&&((x0.Op.Text.toList==x1.Op.Text.toList)&&((x0.Op.Node==x1.Op.Node)&&((x0.Op.Key==x1.Op.Key)&&true)))))))) then none else
 bif x0.At !=x1.At then none else
 bif !(x0.Txn.Open==x1.Txn.Open) then none else
 yAB (f1 x0.Table x1.Table) fun r1=>
 bif r1 then
 yAB (f2 x0.Txn.Writes x1.Txn.Writes) fun r2=>
 bif r2 then
 yAB (f2 x0.Pend x1.Pend) fun r3=>
 bif r3 then
 yAB (f3 x0.Watch x1.Watch) fun r4=>
 bif r4 then
 yAB (f4 x0.Giving x1.Giving) fun r5=>
 bif r5 then
 yAB (f5 x0 x1) fun r6=>
 some r6
 else
 some false
 else
 some false
 else
 some false
 else
 some false
 else
 some false
theorem xHz(f1 f2 f3 f4 f5):yKd.Eq [yKS.s f1,yKZ.s f2,yFR.s f3,yIj.s f4,yKg.s f5] (.two .no (.two (.two .no (.two xT .no)) (.two (.two .no (.two xT .no)) .no))) (yUA f1 f2 f3 f4 f5):=fun _=>by kernel_rfl
def yFQ(L:Nat):yKd.T:=yUA (yOw L) (yUa L) (yOk L) (ySd L) (yUc L)
theorem xHy(L:Nat):yKd.C (yFQ L):=yKd.c (xHz (yOw L) (yUa L) (yOk L) (ySd L) (yUc L)) (tC (xHY L).ent (tC (xHq L).ent (tC (xBc L).ent (tC (xFT L).ent (tC (xH4 L).ent tN))))) Tryz.func15 (by kernel_rfl) (lS (lN _) (lS (lS (lN _) (lQ (lX _) (lN _))) (lS (lS (lN _) (lQ (lX _) (lN _))) (lN _))))
abbrev yIA:=fw2 28 (caC yBQ (caC cI caN)) cI
abbrev yRt(f1:yAn.T)(f2:yCn.T)(x0:yAJ)(x1:Int):Option Int:=
 yAB (f1 x0) fun r1=>
 bif !r1 then
 some (-1)
 else
 yAB (f2 x1 0 (w64 (x0.Nodes-1))) fun r2=>
 bif !r2 then
 some (-1)
 else
 some (w64 (1+x1))
theorem xEd(f1 f2):yIA.Eq [yAn.s f1,yCn.s f2] .no (yRt f1 f2):=fun _=>by kernel_rfl
def yPK(L:Nat):yIA.T:=yRt (yBV L) (yGE L)
theorem xEc(L:Nat):yIA.C (yPK L):=yIA.c (xEd (yBV L) (yGE L)) (tC (yCi L).ent (tC (yOs L).ent tN)) Tryz.func28 (by kernel_rfl) (lN _)
abbrev yIR:=fw2 72 (caC cI (caC cI caN)) (cdT (caC cdS (caC cI caN)))
abbrev ySP(f1:yCu.T)(x0:Int)(x1:Int):Option (ByteArray×Int×Unit):=
 bif decide (x0<1) then
 some (noS,2,())
 else
 bif decide (x1<1) then
 some (noS,2,())
 else
 yAB (f1 3 noS ([[V.int .i64 6],[V.int .i64 6]]) ([[V.int .i64 x0],[V.int .i64 x1]])) fun r1=>
 some (r1.1,r1.2.1,())
theorem xE0(f1):yIR.Eq [yCu.s f1] .no (ySP f1):=fun _=>by kernel_rfl
def yPM(L:Nat):yIR.T:=ySP (yD8 L)
theorem xEz(L:Nat):yIR.C (yPM L):=yIR.c (xE0 (yD8 L)) (tC (yP4 L).ent tN) Tryz.func72 (by kernel_rfl) (lN _)
abbrev yEt:=fw2 23 (caC yBQ (caC cI caN)) cI
abbrev yVb(f1:yAn.T)(f2:yCn.T)(x0:yAJ)(x1:Int):Option Int:=
 yAB (f1 x0) fun r1=>
 bif !r1 then
 some (-1)
 else
 yAB (f2 x1 0 (w64 (x0.Log-1))) fun r2=>
 bif !r2 then
 some (-1)
 else
 some (w64 ((w64 (1+(w64 (2*x0.Nodes))))+x1))
theorem xJX(f1 f2):yEt.Eq [yAn.s f1,yCn.s f2] .no (yVb f1 f2):=fun _=>by kernel_rfl
def yES(L:Nat):yEt.T:=yVb (yBV L) (yGE L)
theorem yVa(L:Nat):yEt.C (yES L):=yEt.c (xJX (yBV L) (yGE L)) (tC (yCi L).ent (tC (yOs L).ent tN)) Tryz.func23 (by kernel_rfl) (lN _)
abbrev yF2:=fw2 73 (caC yBQ (caC cI caN)) yKq
abbrev yP8(f1:yEt.T)(x0:yAJ)(x1:Int):Option yAV:=
 yAB (f1 x0 x1) fun r1=>
 bif decide (r1<0) then
 some yAV.z
 else
 some (⟨1,r1,noS,0⟩:yAV)
theorem xHe(f1):yF2.Eq [yEt.s f1] .no (yP8 f1):=fun _=>by kernel_rfl
def yGk(L:Nat):yF2.T:=yP8 (yES L)
theorem yYu(L:Nat):yF2.C (yGk L):=yF2.c (xHe (yES L)) (tC (yVa L).ent tN) Tryz.func73 (by kernel_rfl) (lN _)
abbrev yIW:=fw1 22 (caC cdS caN) (cdT (caC cdS (caC cI caN)))
abbrev ySW(f1:yCK.T)(f2:yDa.T)(x0:ByteArray):Option (ByteArray×Int×Unit):=
 yAB (f1 x0) fun r1=>
 bif r1.2.1 !=0 then
 some (noS,2,())
 else
 yAB (f2 5 x0) fun r2=>
 some (r2.1,r2.2.1,())
theorem xFA(f1 f2):yIW.Eq [yCK.s f1,yDa.s f2] .no (ySW f1 f2):=fun _=>by kernel_rfl
def yPW(L:Nat):yIW.T:=ySW (yCQ L) (yH9 L)
theorem xE9(L:Nat):yIW.C (yPW L):=yIW.c (xFA (yCQ L) (yH9 L)) (tC (yNN L).ent (tC (yTi L).ent tN)) Tryz.func22 (by kernel_rfl) (lN _)
abbrev yIB:=fw2 51 (caC yBQ (caC cI caN)) cI
abbrev yRu(f1:yAn.T)(f2:yCn.T)(x0:yAJ)(x1:Int):Option Int:=
 yAB (f1 x0) fun r1=>
 bif !r1 then
 some (-1)
 else
 yAB (f2 x1 0 (w64 (x0.Nodes-1))) fun r2=>
 bif !r2 then
 some (-1)
 else
 some (w64 ((w64 (1+x0.Nodes))+x1))
theorem xEf(f1 f2):yIB.Eq [yAn.s f1,yCn.s f2] .no (yRu f1 f2):=fun _=>by kernel_rfl
def yHc(L:Nat):yIB.T:=yRu (yBV L) (yGE L)
theorem xEe(L:Nat):yIB.C (yHc L):=yIB.c (xEf (yBV L) (yGE L)) (tC (yCi L).ent (tC (yOs L).ent tN)) Tryz.func51 (by kernel_rfl) (lN _)
abbrev yKX:=fw1 136 (caC cI caN) yKq
abbrev yP9(x0:Int):Option yAV:=
 bif decide (x0<0) then
 some yAV.z
 else
 some (⟨1,x0,noS,0⟩:yAV)
theorem xHn:yKX.Eq [] .no (yP9):=fun _=>by kernel_rfl
def yOx(L:Nat):yKX.T:=yP9
theorem xHm(L:Nat):yKX.C (yOx L):=yKX.c (xHn) tN Tryz.func136 (by kernel_rfl) (lN _)
abbrev yHf:=fw1 120 (caC yTH caN) cdB
abbrev yVf(x0:yAp):Option Bool:=
 bif decide (x0.Inst<0) then
 some false
 else
 bif decide (512<x0.Inst) then
 some false
 else
 bif decide (x0.Mbal<0) then
 some false
 else
 bif decide (1099511627776<x0.Mbal) then
 some false
 else
 bif decide (x0.Bal<0) then
 some false
 else
 bif decide (x0.Mbal<x0.Bal) then
 some false
 else
 bif decide (64<(x0.Val.size:Int)) then
 some false
 else
 some ((decide (0<x0.Bal))==(!(x0.Val.toList==noS.toList)))
theorem xJb:yHf.Eq [] .no (yVf):=fun _=>by kernel_rfl
def yNM(L:Nat):yHf.T:=yVf
theorem xBL(L:Nat):yHf.C (yNM L):=yHf.c (xJb) tN Tryz.func120 (by kernel_rfl) (lN _)
abbrev yIS:=fw1 137 (caC yTH caN) (cdT (caC cdS (caC cI caN)))
abbrev ySQ(f1:yHf.T)(f2:yCu.T)(x0:yAp):Option (ByteArray×Int×Unit):=
 yAB (f1 x0) fun r1=>
 bif !r1 then
 some (noS,2,())
 else
 yAB (f2 4 x0.Val ([[V.int .i64 2],[V.int .i64 6],[V.int .i64 6]]) ([[V.int .i64 x0.Inst],[V.int .i64 x0.Mbal],[V.int .i64 x0.Bal]])) fun r2=>
 some (r2.1,r2.2.1,())
theorem xE2(f1 f2):yIS.Eq [yHf.s f1,yCu.s f2] .no (ySQ f1 f2):=fun _=>by kernel_rfl
def yMB(L:Nat):yIS.T:=ySQ (yNM L) (yD8 L)
theorem xE1(L:Nat):yIS.C (yMB L):=yIS.c (xE2 (yNM L) (yD8 L)) (tC (xBL L).ent (tC (yP4 L).ent tN)) Tryz.func137 (by kernel_rfl) (lN _)
set_option maxRecDepth 100000
set_option maxHeartbeats 16000000
abbrev yIc:=fw3 138 (caC cI (caC cdS (caC cI caN))) yKq
abbrev yOg(x0:Int)(x1:ByteArray)(x2:Int):Option yAV:=
 bif decide (x0<0) then
 some yAV.z
 else
 bif x2 !=0 then
 some yAV.z
 else
 some (⟨2,x0,x1,0⟩:yAV)
theorem xFK:yIc.Eq [] .no (yOg):=fun _=>by kernel_rfl
def yHi(L:Nat):yIc.T:=yOg
theorem xFJ(L:Nat):yIc.C (yHi L):=yIc.c (xFK) tN Tryz.func138 (by kernel_rfl) (lN _)
abbrev yF5:=fw3 74 (caC yBQ (caC yGv (caC cI caN))) (cdT (caC yKq (caC cI caN)))
abbrev yF4(f1:yEt.T)(f2:yF2.T)(f3:yIB.T)(f4:yKX.T)(f5:yIS.T)(f6:yIc.T)(f7:yIW.T)(x0:yAJ)(x1:yAH)(x2:Int):Option (yAV×Int×Unit):=
 bif x1.At==0 then
 yAB (f1 x0 x2) fun r1=>
 bif decide (r1<0) then
 some (yAV.z,150,())
 else
 yAB (f2 x0 x2) fun r2=>
 some (r2,0,())
 else
 bif x1.At==1 then
 yAB (f3 x0 x1.Node) fun r3=>
 yAB (f4 r3) fun r4=>
 some (r4,0,())
 else
 bif x1.At==2 then
 yAB (f5 x1.Own) fun r5=>
 yAB (f3 x0 x1.Node) fun r6=>
 yAB (f6 r6 r5.1 r5.2.1) fun r7=>
 some (r7,0,())
 else
 bif x1.At==4 then
 yAB (f5 x1.Own) fun r8=>
 yAB (f3 x0 x1.Node) fun r9=>
 yAB (f6 r9 r8.1 r8.2.1) fun r10=>
 some (r10,0,())
 else
 bif x1.At==3 then
 yAB (f3 x0 x1.I) fun r11=>
 yAB (f4 r11) fun r12=>
 some (r12,0,())
 else
 bif x1.At==5 then
 yAB (f3 x0 x1.I) fun r13=>
 yAB (f4 r13) fun r14=>
 some (r14,0,())
 else
 bif x1.At==6 then
 yAB (f7 x1.Own.Val) fun r15=>
 yAB (f1 x0 x2) fun r16=>
 yAB (f6 r16 r15.1 r15.2.1) fun r17=>
 some (r17,0,())
 else
 some (yAV.z,0,())
theorem xHh(f1 f2 f3 f4 f5 f6 f7):yF5.Eq [yEt.s f1,yF2.s f2,yIB.s f3,yKX.s f4,yIS.s f5,yIc.s f6,yIW.s f7] .no (yF4 f1 f2 f3 f4 f5 f6 f7):=fun _=>by kernel_rfl
def yBw(L:Nat):yF5.T:=yF4 (yES L) (yGk L) (yHc L) (yOx L) (yMB L) (yHi L) (yPW L)
theorem yYv(L:Nat):yF5.C (yBw L):=yF5.c (xHh (yES L) (yGk L) (yHc L) (yOx L) (yMB L) (yHi L) (yPW L)) (tC (yVa L).ent (tC (yYu L).ent (tC (xEe L).ent (tC (xHm L).ent (tC (xE1 L).ent (tC (xFJ L).ent (tC (xE9 L).ent tN))))))) Tryz.func74 (by kernel_rfl) (lN _)
abbrev yKb:=fw4 76 (caC yBQ (caC yHN (caC cI (caC cI caN)))) yKq
abbrev yYy(f1:yFw.T)(f2:yDb.T)(x0:yAJ)(x1:yAE)(x2:Int)(x3:Int):Option yAV:=
 yAB (f1 x3) fun r1=>
 yAB (f2 x0 x2) fun r2=>
 bif r1.2.1 !=0 then none else
 bif decide (r2<0) then none else
 bif x1.At==0 then
 bif decide (0<=x1.I) then
 bif decide (x1.I<(x1.Cells.length:Int)) then none else
 bif x1.At==1 then none else
 bif x1.At==2 then none else
 some yAV.z
 else
 bif x1.At==1 then none else
 bif x1.At==2 then none else
 some yAV.z
 else
 bif x1.At==1 then none else
 bif x1.At==2 then none else
 some yAV.z
theorem xHv(f1 f2):yKb.Eq [yFw.s f1,yDb.s f2] (.two .no (.two .no (.two .no (.two (.two .no (.two xT .no)) (.two (.one (.two .no (.two xT (.two .no (.two xT (.two .no (.two xT .no))))))) .no))))) (yYy f1 f2):=fun _=>by kernel_rfl
def yYC(L:Nat):yKb.T:=yYy (yLx L) (yDI L)
theorem xHu(L:Nat):yKb.C (yYC L):=yKb.c (xHv (yLx L) (yDI L)) (tC (yYo L).ent (tC (yTl L).ent tN)) Tryz.func76 (by kernel_rfl) (lS (lN _) (lS (lN _) (lS (lN _) (lS (lS (lN _) (lQ (lX _) (lN _))) (lS (lB (lS (lN _) (lQ (lX _) (lS (lN _) (lQ (lX _) (lS (lN _) (lQ (lX _) (lN _)))))))) (lN _))))))
abbrev yKf:=fw2 16 (caC yBQ (caC yDS caN)) yKq
abbrev yEX(f1:yIR.T)(f2:yIA.T)(f3:yF2.T)(f4:yF5.T)(f5:yDb.T)(f6:yKb.T)(x0:yAJ)(x1:yAL):Option yAV:=
 bif x1.At==0 then
 some (⟨6,0,noS,0⟩:yAV)
 else
 bif x1.At==1 then
 some (⟨1,0,noS,0⟩:yAV)
 else
 bif x1.At==2 then
 yAB (f1 x1.Key 1) fun r1=>
 yAB (f2 x0 x1.Num) fun r2=>
 bif r1.2.1==0 then
 bif decide (0<=r2) then
 some (⟨2,r2,r1.1,0⟩:yAV)
 else
 some yAV.z
 else
 some yAV.z
 else
 bif x1.At==3 then
 yAB (f3 x0 x1.Done) fun r3=>
 some r3
 else
 bif x1.At==4 then
 yAB (f4 x0 x1.P x1.Done) fun r4=>
 bif r4.2.1==0 then
 some r4.1
 else
 some yAV.z
 else
 bif x1.At==7 then
 yAB (f4 x0 x1.P x1.Done) fun r5=>
 bif r5.2.1==0 then
 some r5.1
 else
 some yAV.z
 else
 bif x1.At==5 then
 yAB (f5 x0 x1.Slot) fun r6=>
 bif decide (0<=r6) then
 some (⟨1,r6,noS,0⟩:yAV)
 else
 some yAV.z
 else
 bif x1.At==6 then
 yAB (f6 x0 x1.St x1.Slot x1.Head) fun r7=>
 some r7
 else
 some yAV.z
theorem xH3(f1 f2 f3 f4 f5 f6):yKf.Eq [yIR.s f1,yIA.s f2,yF2.s f3,yF5.s f4,yDb.s f5,yKb.s f6] .no (yEX f1 f2 f3 f4 f5 f6):=fun _=>by kernel_rfl
def yB6(L:Nat):yKf.T:=yEX (yPM L) (yPK L) (yGk L) (yBw L) (yDI L) (yYC L)
theorem xH2(L:Nat):yKf.C (yB6 L):=yKf.c (xH3 (yPM L) (yPK L) (yGk L) (yBw L) (yDI L) (yYC L)) (tC (xEz L).ent (tC (xEc L).ent (tC (yYu L).ent (tC (yYv L).ent (tC (yTl L).ent (tC (xHu L).ent tN)))))) Tryz.func16 (by kernel_rfl) (lN _)
abbrev yMy:=yAJ×yAG×((List (List V))×(List (List V))×(List (List V))×Unit)×Int×Unit
abbrev yQc:=yAG×((List (List V))×(List (List V))×(List (List V))×Unit)×Unit
abbrev yNO{α:Type}(s:yMy)(kn:yMy->Option α)(k0:yQc->Option α):Option α:=
 letI qb:= [[V.int .i64 0,V.int .i64 0]]
 letI qa:=s.2.2.1.1
 bif decide (s.2.2.2.1<s.1.Slots) then
 bif decide (s.2.2.2.1<16) then
 gd (Nat.beq (0+qa.length) qa.length)<|
 gM (qa.length+1) 16<|
 gA (qa++qb) (qa.length+1)<|
 kn (s.1,s.2.1,(qa++qb,s.2.2.1.2.1,s.2.2.1.2.2.1,()),w64 (s.2.2.2.1+1),())
 else
 gA qa qa.length<|
 k0 (s.2.1,(qa,s.2.2.1.2.1,s.2.2.1.2.2.1,()),())
 else
 gA qa qa.length<|
 k0 (s.2.1,(qa,s.2.2.1.2.1,s.2.2.1.2.2.1,()),())
abbrev yMz:LW1 yMy yQc:=⟨(lvC 1 yOI (lvC 2 yH5 (lvC 3 (mO (zA 2 (zP cdR (zP cdR zN))) 3) (lvC 4 (mP cI) lvN)))),(.exit 0),(lvC 2 yH5 (lvC 3 (mO (zA 2 (zP cdR (zP cdR zN))) 3) lvN))⟩
theorem xCp{α:Type}:yMz.Eq (α:=α) [] Tryz.f39 [1,1,0,1,0] .no (yNO):=fun _ _ _=>by kernel_rfl
abbrev yME:=fw1 39 (caC yBQ caN) yCf
abbrev yVi(F0:LF1 yMy yQc (yAG))(x0:yAJ):Option yAG:=
 F0 (x0,yAG.z,([],[],[],()),0,()) (fun q1=>
 gF q1.2.1.1 (0+q1.2.1.1.length)<|
 some (⟨q1.2.1.1.take q1.2.1.1.length,q1.2.1.2.1,q1.2.1.2.2.1⟩:yAG))
theorem xJg(F0):yME.Eq [] (.two .no (.two .no (.two (.two .no (.one (.lp (yMz.s F0)))) .no))) (yVi F0):=fun _=>by kernel_rfl
def yRD(L:Nat):yME.T:=yVi (yAb (yNO) L)
theorem xBR{α:Type}(L:Nat):LO Tryz.f39 [1,1,0,1,0] (yMz.s (α:=α) (yAb (yNO) L)):=yMz.k (xCp) tN (lN _) (by kernel_rfl) L
theorem xJf(L:Nat):yME.C (yRD L):=yME.c (xJg (yAb (yNO) L)) tN Tryz.func39 (by kernel_rfl) (lS (lN _) (lS (lN _) (lS (lS (lN _) (lB (lL (xBR L)))) (lN _))))
abbrev yMr:=ByteArray×Int×(List (List V))×Int×Unit
abbrev yI3:=(List (List V))×Unit
abbrev yQW:=(List (List V))×Int×Unit
abbrev yCX{α:Type}(f1:yEs.T)(s:yMr)(kn:yMr->Option α)(k0:yI3->Option α)(k1:yQW->Option α):Option α:=
 letI qa:=s.2.2.1
 bif decide (s.2.2.2.1<(s.1.size:Int)) then
 yAB (f1 s.1 s.2.2.2.1 s.2.1) fun r1=>
 bif r1.2.1 !=0 then
 k1 ([],r1.2.1,())
 else
 gd (Nat.beq (0+qa.length) qa.length)<|
 gM (qa.length+1) 8<|
 gA (qa++([[V.int .i64 r1.1]])) (qa.length+1)<|
 kn (s.1,s.2.1,qa++([[V.int .i64 r1.1]]),w64 (s.2.2.2.1+s.2.1),())
 else
 gA qa qa.length<|
 k0 (qa,())
abbrev yMs:LW2 yMr yI3 yQW:=⟨(lvC 0 (mP cdS) (lvC 1 (mP cI) (lvC 6 (mA 1) (lvC 7 (mP cI) lvN)))),(.exit 0),(lvC 6 (mA 1) lvN),.ret,(lvC 4 (mP cdR) (lvC 5 (mP cI) lvN))⟩
theorem xCU{α:Type}(f1):yMs.Eq (α:=α) [yEs.s f1] Tryz.f93 [1,1,1,0,1,0] .no (yCX f1):=fun _ _ _=>by kernel_rfl
abbrev yLr:=fw2 93 (caC cdS (caC cI caN)) (cdT (caC cdR (caC cI caN)))
abbrev yVX(f1:yCs.T)(F0:LF2 yMr yI3 yQW ((List (List V))×Int×Unit))(x0:ByteArray)(x1:Int):Option ((List (List V))×Int×Unit):=
 yAB (f1 x1) fun r1=>
 bif decide (r1<0) then
 some ([],2,())
 else
 F0 (x0,x1,[],0,()) (fun q2=>
 gF q2.1 (0+q2.1.length)<|
 some (q2.1.take q2.1.length,0,())) (fun q3=>
 some (q3.1,q3.2.1,()))
theorem xJS(f1 F0):yLr.Eq [yCs.s f1] (.two .no (.two .no (.two .no (.two (.two .no (.one (.lp (yMs.s F0)))) .no)))) (yVX f1 F0):=fun _=>by kernel_rfl
def yTb(L:Nat):yLr.T:=yVX (yFH L) (yAf (yCX (yBj L)) L)
theorem xBD{α:Type}(L:Nat):LO Tryz.f93 [1,1,1,0,1,0] (yMs.s (α:=α) (yAf (yCX (yBj L)) L)):=yMs.k (xCU (yBj L)) (tC (yVU L).ent tN) (lN _) (by kernel_rfl) L
theorem xJR(L:Nat):yLr.C (yTb L):=yLr.c (xJS (yFH L) (yAf (yCX (yBj L)) L)) (tC (yP3 L).ent tN) Tryz.func93 (by kernel_rfl) (lS (lN _) (lS (lN _) (lS (lN _) (lS (lS (lN _) (lB (lL (xBD L)))) (lN _)))))
set_option maxRecDepth 100000
set_option maxHeartbeats 16000000
abbrev yKK:=fw1 216 (caC cdS caN) (cdT (caC (cdI .i8) (caC cdS (caC cI caN))))
abbrev yTh(f1:yDa.T)(x0:ByteArray):Option (Int×ByteArray×Int×Unit):=
 letI qc:=decide (0<(x0.size:Int))
 letI qb:=(x0.size:Int)-4
 letI qa:=(((x0[0]?).getD 0).toNat:Int)
 bif decide ((x0.size:Int)<7) then
 some (0,noS,30,())
 else
 bif decide (512<(x0.size:Int)) then
 some (0,noS,30,())
 else
 gd qc<|
 bif decide (qa<1) then
 some (0,noS,30,())
 else
 gd qc<|
 bif decide (127<qa) then
 some (0,noS,30,())
 else
 gd qc<|
 gd (decide (0<=w64 qb))<|
 gd (decide (w64 qb<=(x0.size:Int)))<|
 gd (decide (3<=((w64 qb).toNat:Int)))<|
 yAB (f1 (IntKind.i8.wrap qa) (x0.extract 3 ((w64 qb).toNat))) fun r1=>
 bif r1.2.1 !=0 then
 some (0,noS,30,())
 else
 bif !(r1.1.toList==x0.toList) then
 some (0,noS,30,())
 else
 some (IntKind.i8.wrap qa,x0.extract 3 ((w64 qb).toNat),0,())
theorem xHF(f1):yKK.Eq [yDa.s f1] .no (yTh f1):=fun _=>by kernel_rfl
def yQ8(L:Nat):yKK.T:=yTh (yH9 L)
theorem xHE(L:Nat):yKK.C (yQ8 L):=yKK.c (xHF (yH9 L)) (tC (yTi L).ent tN) Tryz.func216 (by kernel_rfl) (lN _)
abbrev yKJ:=fw2 163 (caC (cdI .i8) (caC cdS caN)) (cdT (caC cdS (caC cI caN)))
abbrev yXp(f1:yKK.T)(x0:Int)(x1:ByteArray):Option (ByteArray×Int×Unit):=
 yAB (f1 x1) fun r1=>
 bif r1.2.2.1 !=0 then
 some (noS,30,())
 else
 bif r1.1 !=x0 then
 some (noS,30,())
 else
 some (r1.2.1,0,())
theorem xLl(f1):yKJ.Eq [yKK.s f1] .no (yXp f1):=fun _=>by kernel_rfl
def yP5(L:Nat):yKJ.T:=yXp (yQ8 L)
theorem xDb(L:Nat):yKJ.C (yP5 L):=yKJ.c (xLl (yQ8 L)) (tC (xHE L).ent tN) Tryz.func163 (by kernel_rfl) (lN _)
abbrev yH7:=(List (List V))×ByteArray×(List (List V))×Int×Int×Unit
abbrev yLu:=ByteArray×(List (List V))×Int×Unit
abbrev yLv:=(List (List V))×ByteArray×Int×Unit
abbrev yDE{α:Type}(f1:yEs.T)(s:yH7)(kn:yH7->Option α)(k0:yLu->Option α)(k1:yLv->Option α):Option α:=
 letI qb:=s.2.2.1
 letI qa:=s.2.2.2.2.1
 bif decide (qa<(s.1.length:Int)) then
 gI s.1 kI qa<|
 yAB (f1 s.2.1 s.2.2.2.1 (aI s.1 qa.toNat 0)) fun r1=>
 bif r1.2.1 !=0 then
 k1 ([],noS,30,())
 else
 gd (Nat.beq (0+qb.length) qb.length)<|
 gM (qb.length+1) 8<|
 gI s.1 kI qa<|
 gW (qb++([[V.int .i64 r1.1]])) (qb.length+1)<|
 kn (s.1,s.2.1,qb++([[V.int .i64 r1.1]]),w64 (s.2.2.2.1+(aI s.1 qa.toNat 0)),w64 (qa+1),())
 else
 gW qb qb.length<|
 k0 (s.2.1,qb,s.2.2.2.1,())
abbrev yH8:LW2 yH7 yLu yLv:=⟨(lvC 2 (mP cdR) (lvC 9 (mP cdS) (lvC 11 (mW 1) (lvC 12 (mP cI) (lvC 13 (mP cI) lvN))))),(.exit 0),(lvC 9 (mP cdS) (lvC 11 (mW 1) (lvC 12 (mP cI) lvN))),.ret,(lvC 6 (mW 1) (lvC 7 (mP cdS) (lvC 8 (mP cI) lvN)))⟩
theorem yXo{α:Type}(f1):yH8.Eq (α:=α) [yEs.s f1] Tryz.f103 [1,1,1,1,1,0,1,0] .no (yDE f1):=fun _ _ _=>by kernel_rfl
abbrev yCe:=rw3 103 .t (caC (cdI .i8) (caC cdS (caC cdR caN))) (zW 1 (zP cdS (zP cI zN)))
abbrev yQZ(f1:yKJ.T)(F0:LF2 yH7 yLu yLv ((List (List V))×ByteArray×Int×Unit))(x0:Int)(x1:ByteArray)(x2:List (List V)):Option ((List (List V))×ByteArray×Int×Unit):=
 yAB (f1 x0 x1) fun r1=>
 bif r1.2.1 !=0 then
 some ([],noS,r1.2.1,())
 else
 F0 (x2,r1.1,[],0,0,()) (fun q2=>
 gd (decide (0<=q2.2.2.1))<|
 gd (decide (q2.2.2.1<=(q2.1.size:Int)))<|
 gW q2.2.1 q2.2.1.length<|
 some (q2.2.1,q2.1.extract q2.2.2.1.toNat q2.1.size,0,())) (fun q3=>
 gW q3.1 q3.1.length<|
 some (q3.1,q3.2.1,q3.2.2.1,()))
theorem xCW(f1 F0):yCe.Eq [yKJ.s f1] (.two .no (.two .no (.two .no (.two .no (.two .no (.two (.two .no (.one (.lp (yH8.s F0)))) .no)))))) (yQZ f1 F0):=fun _=>by kernel_rfl
def yCt(L:Nat):yCe.T:=yQZ (yP5 L) (yAf (yDE (yBj L)) L)
theorem yWf{α:Type}(L:Nat):LO Tryz.f103 [1,1,1,1,1,0,1,0] (yH8.s (α:=α) (yAf (yDE (yBj L)) L)):=yH8.k (yXo (yBj L)) (tC (yVU L).ent tN) (lN _) (by kernel_rfl) L
theorem yQY(L:Nat):yCe.C (yCt L):=yCe.c (xCW (yP5 L) (yAf (yDE (yBj L)) L)) (tC (xDb L).ent tN) Tryz.func103 (by kernel_rfl) (lS (lN _) (lS (lN _) (lS (lN _) (lS (lN _) (lS (lN _) (lS (lS (lN _) (lB (lL (yWf L)))) (lN _)))))))
abbrev yKM:=fw1 95 (caC cdS caN) (cdT (caC yBQ (caC cI caN)))
abbrev yTp(f1:yCe.T)(f2:yAn.T)(x0:ByteArray):Option (yAJ×Int×Unit):=
 letI qb:= [V.int .i64 2]
 yAB (f1 1 x0 ([qb,qb,qb,qb,qb,qb,[V.int .i64 4],[V.int .i64 4]])) fun r1=>
 letI qc:=r1.1
 letI qa:=(⟨aI qc 0 0,aI qc 1 0,aI qc 2 0,aI qc 3 0,aI qc 4 0,aI qc 5 0,aI qc 6 0,aI qc 7 0⟩:yAJ)
 bif r1.2.2.1 !=0 then
 some (yAJ.z,50,())
 else
 bif !(r1.2.1.toList==noS.toList) then
 some (yAJ.z,50,())
 else
 gd (decide (0<(qc.length:Int)))<|
 gL qc kI 0 0<|
 gd (decide (1<(qc.length:Int)))<|
 gL qc kI 1 0<|
 gd (decide (2<(qc.length:Int)))<|
 gL qc kI 2 0<|
 gd (decide (3<(qc.length:Int)))<|
 gL qc kI 3 0<|
 gd (decide (4<(qc.length:Int)))<|
 gL qc kI 4 0<|
 gd (decide (5<(qc.length:Int)))<|
 gL qc kI 5 0<|
 gd (decide (6<(qc.length:Int)))<|
 gL qc kI 6 0<|
 gd (decide (7<(qc.length:Int)))<|
 gL qc kI 7 0<|
 yAB (f2 qa) fun r2=>
 bif !r2 then
 some (yAJ.z,50,())
 else
 some (qa,0,())
theorem xHN(f1 f2):yKM.Eq [yCe.s f1,yAn.s f2] .no (yTp f1 f2):=fun _=>by kernel_rfl
def yRA(L:Nat):yKM.T:=yTp (yCt L) (yBV L)
theorem xHM(L:Nat):yKM.C (yRA L):=yKM.c (xHN (yCt L) (yBV L)) (tC (yQY L).ent (tC (yCi L).ent tN)) Tryz.func95 (by kernel_rfl) (lN _)
abbrev yGo:=fw2 158 (caC yBQ (caC yDS caN)) (cdT (caC yDS (caC yKr (caC cdB caN))))
abbrev yQg(f1:yCv.T)(x0:yAJ)(x1:yAL):Option (yAL×yAC×Bool×Unit):=
 bif x1.Op.Kind==0 then
 yAB (f1 x0 x1 0 4) fun r1=>
 some (r1.1,r1.2.1,r1.2.2.1,())
 else
 some ({x1 with At:=0,P:=yAH.z,St:=yAE.z },yAC.z,true,())
theorem xCz(f1):yGo.Eq [yCv.s f1] .no (yQg f1):=fun _=>by kernel_rfl
def yHk(L:Nat):yGo.T:=yQg (yDf L)
theorem xCy(L:Nat):yGo.C (yHk L):=yGo.c (xCz (yDf L)) (tC (ySs L).ent tN) Tryz.func158 (by kernel_rfl) (lN _)
abbrev yLJ:=Int×yAG×Int×Unit
abbrev yPT:=Unit
abbrev yPU:=Int×Bool×Unit
abbrev yOe{α:Type}(s:yLJ)(kn:yLJ->Option α)(k0:yPT->Option α)(k1:yPU->Option α):Option α:=
 bif decide (s.2.2.1<(s.2.1.Slots.length:Int)) then
 bif decide (1<=s.1) then
 gI s.2.1.Slots yAr.ks s.2.2.1<|
 bif(aI s.2.1.Slots s.2.2.1.toNat 0)==s.1 then
 k1 (s.2.2.1,true,())
 else
 kn (s.1,s.2.1,w64 (s.2.2.1+1),())
 else
 kn (s.1,s.2.1,w64 (s.2.2.1+1),())
 else
 k0 (())
abbrev yLK:LW2 yLJ yPT yPU:=⟨(lvC 1 (mP cI) (lvC 2 yH5 (lvC 6 (mP cI) lvN))),(.exit 0),lvN,.ret,(lvC 4 (mP cI) (lvC 5 (mP cdB) lvN))⟩
theorem xBT{α:Type}:yLK.Eq (α:=α) [] Tryz.f31 [1,0,1,0] .no (yOe):=fun _ _ _=>by kernel_rfl
abbrev yF0:=fw2 31 (caC yCf (caC cI caN)) (cdT (caC cI (caC cdB caN)))
abbrev yT3(F0:LF2 yLJ yPT yPU (Int×Bool×Unit))(x0:yAG)(x1:Int):Option (Int×Bool×Unit):=
 F0 (x1,x0,0,()) (fun q1=>
 some (0,false,())) (fun q2=>
 some (q2.1,q2.2.1,()))
theorem xHa(F0):yF0.Eq [] (.two .no (.two (.two .no (.one (.lp (yLK.s F0)))) .no)) (yT3 F0):=fun _=>by kernel_rfl
def yGi(L:Nat):yF0.T:=yT3 (yAf (yOe) L)
theorem yZf{α:Type}(L:Nat):LO Tryz.f31 [1,0,1,0] (yLK.s (α:=α) (yAf (yOe) L)):=yLK.k (xBT) tN (lN _) (by kernel_rfl) L
theorem yYs(L:Nat):yF0.C (yGi L):=yF0.c (xHa (yAf (yOe) L)) tN Tryz.func31 (by kernel_rfl) (lS (lN _) (lS (lS (lN _) (lB (lL (yZf L)))) (lN _)))
abbrev yDc:=rw1 208 .a (caC yCf caN) (zW 2 (zW 4 (zW 4 zN)))
abbrev yT0(x0:yAG):Option ((List (List V))×(List (List V))×(List (List V))×Unit):=
 gd (x0.Slots.all fun r=>Nat.beq r.length 2)<|
 gM (0+x0.Slots.length) 16<|
 gd (x0.Holds.all fun r=>Nat.beq r.length 4)<|
 gM (0+x0.Holds.length) 32<|
 gd (x0.Queue.all fun r=>Nat.beq r.length 4)<|
 gM (0+x0.Queue.length) 32<|
 gW x0.Slots (0+x0.Slots.length)<|
 gW x0.Holds (0+x0.Holds.length)<|
 gW x0.Queue (0+x0.Queue.length)<|
 some (x0.Slots,x0.Holds,x0.Queue,())
theorem xHX:yDc.Eq [] .no (yT0):=fun _=>by kernel_rfl
def yFM(L:Nat):yDc.T:=yT0
theorem yTz(L:Nat):yDc.C (yFM L):=yDc.c (xHX) tN Tryz.func208 (by kernel_rfl) (lN _)
abbrev yFL:=fw2 273 (caC yXU (caC yXU caN)) cdB
abbrev yTv(x0:yAr)(x1:yAr):Option Bool:=
 bif decide (x0.Lo<=x0.Hi) then
 bif decide (x1.Lo<=x1.Hi) then
 bif decide (x0.Lo<=x1.Hi) then
 some (decide (x1.Lo<=x0.Hi))
 else
 some false
 else
 some false
 else
 some false
theorem xBP:yFL.Eq [] .no (yTv):=fun _=>by kernel_rfl
def ySR(L:Nat):yFL.T:=yTv
theorem xBO(L:Nat):yFL.C (ySR L):=yFL.c (xBP) tN Tryz.func273 (by kernel_rfl) (lN _)
abbrev yD9:=fw2 305 (caC yVF (caC yVF caN)) cdB
abbrev ySr(f1:yFL.T)(x0:yAd)(x1:yAd):Option Bool:=
 bif x0.Key==x1.Key then
 some true
 else
 yAB (f1 x0.Span x1.Span) fun r1=>
 bif !r1 then
 some true
 else
 bif x0.Mode==1 then
 some (x1.Mode==1)
 else
 some false
theorem yZb(f1):yD9.Eq [yFL.s f1] .no (ySr f1):=fun _=>by kernel_rfl
def yI5(L:Nat):yD9.T:=ySr (ySR L)
theorem yZa(L:Nat):yD9.C (yI5 L):=yD9.c (yZb (ySR L)) (tC (xBO L).ent tN) Tryz.func305 (by kernel_rfl) (lN _)
set_option maxRecDepth 100000
set_option maxHeartbeats 16000000
abbrev yLD:=(List (List V))×yAd×Int×Unit
abbrev yPO:=Unit
abbrev yPP:=Bool×Unit
abbrev yOc{α:Type}(f1:yD9.T)(s:yLD)(kn:yLD->Option α)(k0:yPO->Option α)(k1:yPP->Option α):Option α:=
 letI qa:=s.2.2.1
 bif decide (qa<(s.1.length:Int)) then
 gI s.1 yAd.ks qa<|
 yAB (f1 s.2.1 (⟨aI s.1 qa.toNat 0,(⟨aI s.1 qa.toNat 1,aI s.1 qa.toNat 2⟩:yAr),aI s.1 qa.toNat 3⟩:yAd)) fun r1=>
 bif !r1 then
 k1 (false,())
 else
 kn (s.1,s.2.1,w64 (qa+1),())
 else
 k0 (())
abbrev yLE:LW2 yLD yPO yPP:=⟨(lvC 1 (mP cdR) (lvC 2 xI9 (lvC 5 (mP cI) lvN))),(.exit 0),lvN,.ret,(lvC 4 (mP cdB) lvN)⟩
theorem xBN{α:Type}(f1):yLE.Eq (α:=α) [yD9.s f1] Tryz.f274 [1,0,1,0] .no (yOc f1):=fun _ _ _=>by kernel_rfl
abbrev yKQ:=fw2 274 (caC yVF (caC cdR caN)) cdB
abbrev yYq(F0:LF2 yLD yPO yPP (Bool))(x0:yAd)(x1:List (List V)):Option Bool:=
 F0 (x1,x0,0,()) (fun q1=>
 some true) (fun q2=>
 some q2.1)
theorem xHU(F0):yKQ.Eq [] (.two .no (.two (.two .no (.one (.lp (yLE.s F0)))) .no)) (yYq F0):=fun _=>by kernel_rfl
def yOv(L:Nat):yKQ.T:=yYq (yAf (yOc (yI5 L)) L)
theorem yZZ{α:Type}(L:Nat):LO Tryz.f274 [1,0,1,0] (yLE.s (α:=α) (yAf (yOc (yI5 L)) L)):=yLE.k (xBN (yI5 L)) (tC (yZa L).ent tN) (lN _) (by kernel_rfl) L
theorem xHT(L:Nat):yKQ.C (yOv L):=yKQ.c (xHU (yAf (yOc (yI5 L)) L)) tN Tryz.func274 (by kernel_rfl) (lS (lN _) (lS (lS (lN _) (lB (lL (yZZ L)))) (lN _)))
abbrev yJX:=yAG×yAG×((List (List V))×(List (List V))×(List (List V))×Unit)×Int×Unit
abbrev yN5:=yAG×((List (List V))×(List (List V))×(List (List V))×Unit)×Unit
abbrev yI6{α:Type}(f1:yKQ.T)(s:yJX)(kn:yJX->Option α)(k0:yN5->Option α):Option α:=
 letI qd:=s.2.2.2.1
 letI qc:=s.2.2.1.2.1
 letI qb:=s.2.2.1.2.2.1
 letI qa:=(⟨aI s.1.Queue qd.toNat 0,(⟨aI s.1.Queue qd.toNat 1,aI s.1.Queue qd.toNat 2⟩:yAr),aI s.1.Queue qd.toNat 3⟩:yAd)
 bif decide (qd<(s.1.Queue.length:Int)) then
 gI s.1.Queue yAd.ks qd<|
 gF qc (0+qc.length)<|
 yAB (f1 qa (qc.take qc.length)) fun r1=>
 gd r1<|
 gF qb (0+qb.length)<|
 yAB (f1 qa (qb.take qb.length)) fun r2=>
 gd r2<|
 none
 else
 gW s.2.2.1.1 s.2.2.1.1.length<|
 gW qc qc.length<|
 gW qb qb.length<|
 k0 (s.2.1,(s.2.2.1.1,qc,qb,()),())
abbrev yJY:LW1 yJX yN5:=⟨(lvC 1 yH5 (lvC 2 yH5 (lvC 3 (mO (zW 2 (zW 4 (zW 4 zN))) 3) (lvC 4 (mP cI) lvN)))),(.exit 0),(lvC 2 yH5 (lvC 3 (mO (zW 2 (zW 4 (zW 4 zN))) 3) lvN))⟩
theorem yZd{α:Type}(f1):yJY.Eq (α:=α) [yKQ.s f1] Tryz.f213 [1,1,1,0,1,0] (.two .no (.two (.one (.two .no (.two .no (.two xT xT)))) .no)) (yI6 f1):=fun _ _ _=>by kernel_rfl
abbrev yIU:=rw1 213 .a (caC yCf caN) (zW 2 (zW 4 (zW 4 zN)))
abbrev ySU(f1:yDc.T)(F0:LF1 yJX yN5 ((List (List V))×(List (List V))×(List (List V))×Unit))(x0:yAG):Option ((List (List V))×(List (List V))×(List (List V))×Unit):=
 yAB (f1 x0) fun r1=>
 gW r1.1 r1.1.length<|
 gW r1.2.1 r1.2.1.length<|
 F0 (x0,yAG.z,(r1.1,r1.2.1,[],()),0,()) (fun q2=>
 gW q2.2.1.1 q2.2.1.1.length<|
 gW q2.2.1.2.1 q2.2.1.2.1.length<|
 gW q2.2.1.2.2.1 q2.2.1.2.2.1.length<|
 some (q2.2.1.1,q2.2.1.2.1,q2.2.1.2.2.1,()))
theorem xE6(f1 F0):yIU.Eq [yDc.s f1] (.two .no (.two .no (.two .no (.two (.two .no (.one (.lp (yJY.s F0)))) .no)))) (ySU f1 F0):=fun _=>by kernel_rfl
def yPR(L:Nat):yIU.T:=ySU (yFM L) (yAb (yI6 (yOv L)) L)
theorem yX4{α:Type}(L:Nat):LO Tryz.f213 [1,1,1,0,1,0] (yJY.s (α:=α) (yAb (yI6 (yOv L)) L)):=yJY.k (yZd (yOv L)) (tC (xHT L).ent tN) (lS (lN _) (lS (lB (lS (lN _) (lS (lN _) (lQ (lX _) (lX _))))) (lN _))) (by kernel_rfl) L
theorem xE5(L:Nat):yIU.C (yPR L):=yIU.c (xE6 (yFM L) (yAb (yI6 (yOv L)) L)) (tC (yTz L).ent tN) Tryz.func213 (by kernel_rfl) (lS (lN _) (lS (lN _) (lS (lN _) (lS (lS (lN _) (lB (lL (yX4 L)))) (lN _)))))
abbrev yHF:=(List (List V))×Int×(List (List V))×Int×Unit
abbrev yLL:=(List (List V))×Unit
abbrev yJZ{α:Type}(s:yHF)(kn:yHF->Option α)(k0:yLL->Option α):Option α:=
 letI qc:=s.2.2.1
 letI qb:=s.2.2.2.1
 letI qa:= [[V.int .i64 (aI s.1 qb.toNat 0),V.int .i64 (aI s.1 qb.toNat 1),V.int .i64 (aI s.1 qb.toNat 2),V.int .i8 (aI s.1 qb.toNat 3)]]
 bif decide (qb<(s.1.length:Int)) then
 gI s.1 yAd.ks qb<|
 bif(aI s.1 qb.toNat 0) !=s.2.1 then
 gI s.1 yAd.ks qb<|
 gd (Nat.beq (0+qc.length) qc.length)<|
 gM (qc.length+1) 32<|
 gW (qc++qa) (qc.length+1)<|
 kn (s.1,s.2.1,qc++qa,w64 (qb+1),())
 else
 gW qc qc.length<|
 kn (s.1,s.2.1,qc,w64 (qb+1),())
 else
 gW qc qc.length<|
 k0 (qc,())
abbrev yHG:LW1 yHF yLL:=⟨(lvC 0 (mP cdR) (lvC 1 (mP cI) (lvC 5 (mW 4) (lvC 6 (mP cI) lvN)))),(.exit 0),(lvC 5 (mW 4) lvN)⟩
theorem yWt{α:Type}:yHG.Eq (α:=α) [] Tryz.f271 [1,1,0,1,0] .no (yJZ):=fun _ _ _=>by kernel_rfl
abbrev yFN:=rw2 271 .s (caC cdR (caC cI caN)) (zW 4 zN)
abbrev yT4(F0:LF1 yHF yLL ((List (List V))×Unit))(x0:List (List V))(x1:Int):Option ((List (List V))×Unit):=
 F0 (x0,x1,[],0,()) (fun q1=>
 gW q1.1 q1.1.length<|
 some (q1.1,()))
theorem xBV(F0):yFN.Eq [] (.two .no (.two .no (.two (.two .no (.one (.lp (yHG.s F0)))) .no))) (yT4 F0):=fun _=>by kernel_rfl
def yOf(L:Nat):yFN.T:=yT4 (yAb (yJZ) L)
theorem yVj{α:Type}(L:Nat):LO Tryz.f271 [1,1,0,1,0] (yHG.s (α:=α) (yAb (yJZ) L)):=yHG.k (yWt) tN (lN _) (by kernel_rfl) L
theorem xBU(L:Nat):yFN.C (yOf L):=yFN.c (xBV (yAb (yJZ) L)) tN Tryz.func271 (by kernel_rfl) (lS (lN _) (lS (lN _) (lS (lS (lN _) (lB (lL (yVj L)))) (lN _))))
abbrev yIV:=rw2 209 .a (caC yCf (caC cI caN)) (zW 2 (zW 4 (zW 4 zN)))
abbrev ySV(f1:yDc.T)(f2:yFN.T)(f3:yIU.T)(x0:yAG)(x1:Int):Option ((List (List V))×(List (List V))×(List (List V))×Unit):=
 letI qb:=0+x1.toNat
 yAB (f1 x0) fun r1=>
 letI qc:=r1.1.getD qb []
 letI qa:=r1.1.set qb (qc.take 0++([V.int .i64 0,V.int .i64 0]++qc.drop 2))
 gB x1 r1.1.length<|
 gL r1.1 kI qb 0<|
 gF r1.2.1 (0+r1.2.1.length)<|
 yAB (f2 (r1.2.1.take r1.2.1.length) (aI r1.1 qb 0)) fun r2=>
 gF r1.2.2.1 (0+r1.2.2.1.length)<|
 yAB (f2 (r1.2.2.1.take r1.2.2.1.length) (aI r1.1 qb 0)) fun r3=>
 gB x1 r1.1.length<|
 gd (decide (0+x1.toNat<r1.1.length))<|
 gd (Nat.ble 0 qb)<|
 gd (Nat.ble 2 qc.length)<|
 gF qa (0+r1.1.length)<|
 gF r2.1 (0+r2.1.length)<|
 gF r3.1 (0+r3.1.length)<|
 yAB (f3 (⟨qa.take r1.1.length,r2.1.take r2.1.length,r3.1.take r3.1.length⟩:yAG)) fun r4=>
 gW r4.1 r4.1.length<|
 gW r4.2.1 r4.2.1.length<|
 gW r4.2.2.1 r4.2.2.1.length<|
 some (r4.1,r4.2.1,r4.2.2.1,())
theorem xE8(f1 f2 f3):yIV.Eq [yDc.s f1,yFN.s f2,yIU.s f3] .no (ySV f1 f2 f3):=fun _=>by kernel_rfl
def yPV(L:Nat):yIV.T:=ySV (yFM L) (yOf L) (yPR L)
theorem xE7(L:Nat):yIV.C (yPV L):=yIV.c (xE8 (yFM L) (yOf L) (yPR L)) (tC (yTz L).ent (tC (xBU L).ent (tC (xE5 L).ent tN))) Tryz.func209 (by kernel_rfl) (lN _)
set_option maxRecDepth 100000
set_option maxHeartbeats 16000000
abbrev yJV:=yAG×yAc×yAG×Bool×Int×Unit
abbrev yN3:=yAG×yAG×Unit
abbrev yN4:=yAG×Unit
abbrev yMx{α:Type}(f1:yDc.T)(s:yJV)(kn:yJV->Option α)(k0:yN3->Option α)(k1:yN4->Option α):Option α:=
 letI qb:=s.2.2.2.2.1
 bif decide (qb<(s.1.Slots.length:Int)) then
 bif !s.2.2.2.1 then
 gI s.1.Slots yAr.ks qb<|
 bif(aI s.1.Slots qb.toNat 0)==0 then
 yAB (f1 s.1) fun r1=>
 letI qc:=r1.1.getD (0+qb.toNat) []
 letI qa:=r1.1.set (0+qb.toNat) (qc.take 0++([V.int .i64 s.2.1.By]++qc.drop 1))
 gB qb r1.1.length<|
 gd (decide (0+qb.toNat<r1.1.length))<|
 gd (Nat.ble 0 (0+qb.toNat))<|
 gd (Nat.ble 1 qc.length)<|
 gF qa (0+r1.1.length)<|
 gF r1.2.1 (0+r1.2.1.length)<|
 gF r1.2.2.1 (0+r1.2.2.1.length)<|
 k1 ((⟨qa.take r1.1.length,r1.2.1.take r1.2.1.length,r1.2.2.1.take r1.2.2.1.length⟩:yAG),())
 else
 kn (s.1,s.2.1,s.2.2.1,s.2.2.2.1,w64 (qb+1),())
 else
 k0 (s.1,s.2.2.1,())
 else
 k0 (s.1,s.2.2.1,())
abbrev yJW:LW2 yJV yN3 yN4:=⟨(lvC 4 yH5 (lvC 5 xNO (lvC 6 yH5 (lvC 8 (mP cdB) (lvC 11 (mP cI) lvN))))),(.exit 1),(lvC 4 yH5 (lvC 6 yH5 lvN)),.ret,(lvC 6 yH5 lvN)⟩
theorem yZc{α:Type}(f1):yJW.Eq (α:=α) [yDc.s f1] Tryz.f162 [1,1,1,0,1,0,1,0,1,0] .no (yMx f1):=fun _ _ _=>by kernel_rfl
abbrev yEW:=fw3 162 (caC yBQ (caC yCf (caC yJ5 caN))) yCf
abbrev yST(f1:yF0.T)(f2:yIV.T)(F0:LF2 yJV yN3 yN4 (yAG))(x0:yAJ)(x1:yAG)(x2:yAc):Option yAG:=
 yAB (f1 x1 x2.By) fun r1=>
 yAB (f1 x1 x2.Dead) fun r2=>
 bif x2.Kind==0 then
 F0 (x1,x2,yAG.z,r1.2.1,0,()) (fun q3=>
 some q3.1) (fun q4=>
 some q4.1)
 else
 bif x2.Kind==1 then
 bif r1.2.1 then
 yAB (f2 x1 r1.1) fun r5=>
 gF r5.1 (0+r5.1.length)<|
 gF r5.2.1 (0+r5.2.1.length)<|
 gF r5.2.2.1 (0+r5.2.2.1.length)<|
 some (⟨r5.1.take r5.1.length,r5.2.1.take r5.2.1.length,r5.2.2.1.take r5.2.2.1.length⟩:yAG)
 else
 some x1
 else
 bif x2.Kind==2 then none else
 bif x2.Kind==3 then none else
 bif x2.Kind==4 then none else
 bif x2.Kind==5 then none else
 some x1
theorem xE4(f1 f2 F0):yEW.Eq [yF0.s f1,yIV.s f2] (.two .no (.two .no (.two .no (.two (.two .no (.one (.two .no (.two (.two .no (.one (.lp (yJW.s F0)))) (.two .no (.two .no (.two .no (.two xT (.two .no (.two xT (.two .no (.two xT (.two .no (.two xT .no)))))))))))))) .no)))) (yST f1 f2 F0):=fun _=>by kernel_rfl
def yC5(L:Nat):yEW.T:=yST (yGi L) (yPV L) (yAf (yMx (yFM L)) L)
theorem yX3{α:Type}(L:Nat):LO Tryz.f162 [1,1,1,0,1,0,1,0,1,0] (yJW.s (α:=α) (yAf (yMx (yFM L)) L)):=yJW.k (yZc (yFM L)) (tC (yTz L).ent tN) (lN _) (by kernel_rfl) L
theorem yWs(L:Nat):yEW.C (yC5 L):=yEW.c (xE4 (yGi L) (yPV L) (yAf (yMx (yFM L)) L)) (tC (yYs L).ent (tC (xE7 L).ent tN)) Tryz.func162 (by kernel_rfl) (lS (lN _) (lS (lN _) (lS (lN _) (lS (lS (lN _) (lB (lS (lN _) (lQ (lS (lN _) (lB (lL (yX3 L)))) (lS (lN _) (lQ (lN _) (lS (lN _) (lQ (lX _) (lS (lN _) (lQ (lX _) (lS (lN _) (lQ (lX _) (lS (lN _) (lQ (lX _) (lN _))))))))))))))) (lN _)))))
abbrev yKT:=fw1 178 (caC cdS caN) (cdT (caC yJ5 (caC cdS (caC cdB (caC cI caN)))))
abbrev yP6(f1:yKJ.T)(f2:yCK.T)(x0:ByteArray):Option (yAc×ByteArray×Bool×Int×Unit):=
 bif x0.toList==noS.toList then
 some (yAc.z,noS,false,0,())
 else
 yAB (f1 5 x0) fun r1=>
 bif r1.2.1 !=0 then
 some (yAc.z,noS,false,50,())
 else
 yAB (f2 r1.1) fun r2=>
 bif r2.2.1 !=0 then
 some (yAc.z,noS,false,50,())
 else
 some (r2.1,r1.1,true,0,())
theorem xHc(f1 f2):yKT.Eq [yKJ.s f1,yCK.s f2] .no (yP6 f1 f2):=fun _=>by kernel_rfl
def yMF(L:Nat):yKT.T:=yP6 (yP5 L) (yCQ L)
theorem xHb(L:Nat):yKT.C (yMF L):=yKT.c (xHc (yP5 L) (yCQ L)) (tC (xDb L).ent (tC (yNN L).ent tN)) Tryz.func178 (by kernel_rfl) (lN _)
abbrev yF1:=fw4 159 (caC yBQ (caC yCf (caC cI (caC cdS caN)))) (cdT (caC yCf (caC cI (caC yJ5 (caC cdB (caC cI caN))))))
abbrev yP7(f1:yKT.T)(f2:yEW.T)(x0:yAJ)(x1:yAG)(x2:Int)(x3:ByteArray):Option (yAG×Int×yAc×Bool×Int×Unit):=
 yAB (f1 x3) fun r1=>
 bif r1.2.2.2.1 !=0 then
 some (x1,x2,yAc.z,false,r1.2.2.2.1,())
 else
 bif !r1.2.2.1 then
 some (x1,x2,yAc.z,false,0,())
 else
 yAB (f2 x0 x1 r1.1) fun r2=>
 some (r2,w64 (x2+1),r1.1,true,0,())
theorem xHd(f1 f2):yF1.Eq [yKT.s f1,yEW.s f2] .no (yP7 f1 f2):=fun _=>by kernel_rfl
def yIa(L:Nat):yF1.T:=yP7 (yMF L) (yC5 L)
theorem yYt(L:Nat):yF1.C (yIa L):=yF1.c (xHd (yMF L) (yC5 L)) (tC (xHb L).ent (tC (yWs L).ent tN)) Tryz.func159 (by kernel_rfl) (lN _)
abbrev yGp:=fw3 96 (caC yBQ (caC yDS (caC cdS caN))) (cdT (caC yDS (caC yKr (caC cdB caN))))
abbrev yM5(f1:yEt.T)(f2:yGo.T)(f3:yF1.T)(x0:yAJ)(x1:yAL)(x2:ByteArray):Option (yAL×yAC×Bool×Unit):=
 yAB (f1 x0 x1.Done) fun r1=>
 bif decide (r1<0) then
 yAB (f2 x0 x1) fun r2=>
 some (r2.1,r2.2.1,r2.2.2.1,())
 else
 yAB (f3 x0 x1.Table x1.Done x2) fun r3=>
 bif r3.2.2.2.2.1 !=0 then
 some ({x1 with At:=0,P:=yAH.z,St:=yAE.z },(⟨r3.2.2.2.2.1,noS,false⟩:yAC),true,())
 else
 bif !r3.2.2.2.1 then
 yAB (f2 x0 ({x1 with Table:=r3.1,Done:=r3.2.1 })) fun r4=>
 some (r4.1,r4.2.1,r4.2.2.1,())
 else
 some ({x1 with Table:=r3.1,Done:=r3.2.1 },yAC.z,false,())
theorem xC1(f1 f2 f3):yGp.Eq [yEt.s f1,yGo.s f2,yF1.s f3] .no (yM5 f1 f2 f3):=fun _=>by kernel_rfl
def yNT(L:Nat):yGp.T:=yM5 (yES L) (yHk L) (yIa L)
theorem xC0(L:Nat):yGp.C (yNT L):=yGp.c (xC1 (yES L) (yHk L) (yIa L)) (tC (yVa L).ent (tC (xCy L).ent (tC (yYt L).ent tN))) Tryz.func96 (by kernel_rfl) (lN _)
abbrev yFz:=fw3 46 (caC yJ5 (caC cI (caC cI caN))) cdB
abbrev yTx(x0:yAc)(x1:Int)(x2:Int):Option Bool:=
 bif x0.By==x1 then
 some (x0.Serial==x2)
 else
 some false
theorem xHV:yFz.Eq [] .no (yTx):=fun _=>by kernel_rfl
def yMD(L:Nat):yFz.T:=yTx
theorem yYr(L:Nat):yFz.C (yMD L):=yFz.c (xHV) tN Tryz.func46 (by kernel_rfl) (lN _)
abbrev yKV:=fw1 263 (caC yJ5 caN) cdB
abbrev yT5(x0:yAc):Option Bool:=
 bif x0.Kind==0 then
 some true
 else
 some (x0.Kind==2)
theorem xHj:yKV.Eq [] .no (yT5):=fun _=>by kernel_rfl
def yRF(L:Nat):yKV.T:=yT5
theorem xHi(L:Nat):yKV.C (yRF L):=yKV.c (xHj) tN Tryz.func263 (by kernel_rfl) (lN _)
abbrev yKL:=fw1 264 (caC yBQ caN) cI
abbrev yTn(f1:yAn.T)(x0:yAJ):Option Int:=
 yAB (f1 x0) fun r1=>
 bif !r1 then
 some 0
 else
 some (w64 (4*x0.Slots))
theorem xHK(f1):yKL.Eq [yAn.s f1] .no (yTn f1):=fun _=>by kernel_rfl
def yQ9(L:Nat):yKL.T:=yTn (yBV L)
theorem xHJ(L:Nat):yKL.C (yQ9 L):=yKL.c (xHK (yBV L)) (tC (yCi L).ent tN) Tryz.func264 (by kernel_rfl) (lN _)
abbrev yGl:=fw5 201 (caC yBQ (caC yGv (caC yCf (caC cI (caC cdS caN))))) (cdT (caC yGv (caC yCf (caC cI (caC cdB (caC cI caN))))))
abbrev yM1(f1:yF1.T)(f2:yCK.T)(f3:yFz.T)(f4:yKV.T)(f5:yKL.T)(x0:yAJ)(x1:yAH)(x2:yAG)(x3:Int)(x4:ByteArray):Option (yAH×yAG×Int×Bool×Int×Unit):=
 letI qa:=(⟨x1.Node,x1.Cmd,0,0,yAp.z,(⟨0,0,0,noS,x1.T.Seen,false,false⟩:yAP)⟩:yAH)
 yAB (f1 x0 x2 x3 x4) fun r1=>
 bif r1.2.2.2.2.1 !=0 then
 some (x1,x2,x3,false,r1.2.2.2.2.1,())
 else
 yAB (f2 x1.Cmd) fun r2=>
 bif r1.2.2.2.1 then
 bif r2.2.1==0 then
 yAB (f3 r1.2.2.1 r2.1.By r2.1.Serial) fun r3=>
 some (qa,r1.1,r1.2.1,r3,0,())
 else
 some (qa,r1.1,r1.2.1,false,0,())
 else
 bif r2.2.1==0 then
 yAB (f4 r2.1) fun r4=>
 bif r4 then
 yAB (f5 x0) fun r5=>
 bif decide (w64 (x0.Log-r5)<=x3) then
 some (x1,x2,x3,false,150,())
 else
 some ({x1 with At:=1 },x2,x3,false,0,())
 else
 some ({x1 with At:=1 },x2,x3,false,0,())
 else
 some ({x1 with At:=1 },x2,x3,false,0,())
theorem xCt(f1 f2 f3 f4 f5):yGl.Eq [yF1.s f1,yCK.s f2,yFz.s f3,yKV.s f4,yKL.s f5] .no (yM1 f1 f2 f3 f4 f5):=fun _=>by kernel_rfl
def yNR(L:Nat):yGl.T:=yM1 (yIa L) (yCQ L) (yMD L) (yRF L) (yQ9 L)
theorem xCs(L:Nat):yGl.C (yNR L):=yGl.c (xCt (yIa L) (yCQ L) (yMD L) (yRF L) (yQ9 L)) (tC (yYt L).ent (tC (yNN L).ent (tC (yYr L).ent (tC (xHi L).ent (tC (xHJ L).ent tN))))) Tryz.func201 (by kernel_rfl) (lN _)
abbrev yFy:=fw1 50 (caC cdS caN) (cdT (caC yTH (caC cI caN)))
abbrev yTu(f1:yCe.T)(f2:yHf.T)(x0:ByteArray):Option (yAp×Int×Unit):=
 bif x0.toList==noS.toList then
 some (yAp.z,0,())
 else
 yAB (f1 4 x0 ([[V.int .i64 2],[V.int .i64 6],[V.int .i64 6]])) fun r1=>
 letI qa:=(⟨aI r1.1 0 0,aI r1.1 1 0,aI r1.1 2 0,r1.2.1⟩:yAp)
 bif r1.2.2.1 !=0 then
 some (yAp.z,50,())
 else
 gd (decide (0<(r1.1.length:Int)))<|
 gL r1.1 kI 0 0<|
 gd (decide (1<(r1.1.length:Int)))<|
 gL r1.1 kI 1 0<|
 gd (decide (2<(r1.1.length:Int)))<|
 gL r1.1 kI 2 0<|
 yAB (f2 qa) fun r2=>
 bif !r2 then
 some (yAp.z,50,())
 else
 some (qa,0,())
theorem xHS(f1 f2):yFy.Eq [yCe.s f1,yHf.s f2] .no (yTu f1 f2):=fun _=>by kernel_rfl
def yGh(L:Nat):yFy.T:=yTu (yCt L) (yNM L)
theorem yYp(L:Nat):yFy.C (yGh L):=yFy.c (xHS (yCt L) (yNM L)) (tC (yQY L).ent (tC (xBL L).ent tN)) Tryz.func50 (by kernel_rfl) (lN _)
set_option maxRecDepth 100000
set_option maxHeartbeats 16000000
abbrev yOt:=fw2 265 (caC yTH (caC cI caN)) yTH
abbrev yX2(x0:yAp)(x1:Int):Option yAp:=
 bif x0.Inst==x1 then
 some x0
 else
 some (⟨x1,x0.Mbal,0,noS⟩:yAp)
theorem xLp:yOt.Eq [] .no (yX2):=fun _=>by kernel_rfl
def yWq(L:Nat):yOt.T:=yX2
theorem xLo(L:Nat):yOt.C (yWq L):=yOt.c (xLp) tN Tryz.func265 (by kernel_rfl) (lN _)
abbrev yLB:=Int×(List (List V))×Int×Int×Unit
abbrev yPN:=Int×Int×Unit
abbrev yIT{α:Type}(s:yLB)(kn:yLB->Option α)(k0:yPN->Option α):Option α:=
 bif decide (s.2.2.2.1<(s.2.1.length:Int)) then
 gI s.2.1 kI s.2.2.2.1<|
 kn (s.1,s.2.1,yEr true s.2.2.1 (aI s.2.1 s.2.2.2.1.toNat 0),w64 (s.2.2.2.1+1),())
 else
 k0 (s.1,s.2.2.1,())
abbrev yLC:LW1 yLB yPN:=⟨(lvC 0 (mP cI) (lvC 1 (mP cdR) (lvC 5 (mP cI) (lvC 6 (mP cI) lvN)))),(.exit 0),(lvC 0 (mP cI) (lvC 5 (mP cI) lvN))⟩
theorem xBM{α:Type}:yLC.Eq (α:=α) [] Tryz.f266 [1,1,1,0,1,0] .no (yIT):=fun _ _ _=>by kernel_rfl
abbrev yKP:=fw2 266 (caC cI (caC cdR caN)) cI
abbrev yTt(F0:LF1 yLB yPN (Int))(x0:Int)(x1:List (List V)):Option Int:=
 bif decide (x0<0) then
 some 0
 else
 bif decide (16<=x0) then
 some 0
 else
 F0 (x0,x1,0,0,()) (fun q1=>
 letI qa:=(w64 ((w64 (q1.2.1.tdiv 16))*16))+q1.1
 letI qb:=(w64 qa)+16
 bif decide (1099511627776<q1.2.1) then
 some 0
 else
 bif decide (w64 qa<=q1.2.1) then
 bif decide (1099511627776<w64 qb) then
 some 0
 else
 some (w64 qb)
 else
 bif decide (w64 qa<16) then
 bif decide (1099511627776<w64 qb) then
 some 0
 else
 some (w64 qb)
 else
 bif decide (1099511627776<w64 qa) then
 some 0
 else
 some (w64 qa))
theorem xHR(F0):yKP.Eq [] (.two .no (.two .no (.two .no (.two (.two .no (.one (.lp (yLC.s F0)))) .no)))) (yTt F0):=fun _=>by kernel_rfl
def yOu(L:Nat):yKP.T:=yTt (yAb (yIT) L)
theorem yZY{α:Type}(L:Nat):LO Tryz.f266 [1,1,1,0,1,0] (yLC.s (α:=α) (yAb (yIT) L)):=yLC.k (xBM) tN (lN _) (by kernel_rfl) L
theorem xHQ(L:Nat):yKP.C (yOu L):=yKP.c (xHR (yAb (yIT) L)) tN Tryz.func266 (by kernel_rfl) (lS (lN _) (lS (lN _) (lS (lN _) (lS (lS (lN _) (lB (lL (yZY L)))) (lN _)))))
abbrev yMH:=fw3 202 (caC yGv (caC cI (caC cdS caN))) (cdT (caC yGv (caC cI caN)))
abbrev yVl(f1:yFy.T)(f2:yOt.T)(f3:yKP.T)(x0:yAH)(x1:Int)(x2:ByteArray):Option (yAH×Int×Unit):=
 yAB (f1 x2) fun r1=>
 bif r1.2.1 !=0 then
 some (x0,r1.2.1,())
 else
 yAB (f2 r1.1 x1) fun r2=>
 yAB (f3 x0.Node ([[V.int .i64 r2.Mbal],[V.int .i64 x0.T.Seen]])) fun r3=>
 bif r3==0 then
 some (x0,150,())
 else
 some ({x0 with At:=2,Own:={r2 with Mbal:=r3 }},0,())
theorem xJk(f1 f2 f3):yMH.Eq [yFy.s f1,yOt.s f2,yKP.s f3] .no (yVl f1 f2 f3):=fun _=>by kernel_rfl
def yWv(L:Nat):yMH.T:=yVl (yGh L) (yWq L) (yOu L)
theorem xJj(L:Nat):yMH.C (yWv L):=yMH.c (xJk (yGh L) (yWq L) (yOu L)) (tC (yYp L).ent (tC (xLo L).ent (tC (xHQ L).ent tN))) Tryz.func202 (by kernel_rfl) (lN _)
abbrev yGj:=fw3 267 (caC yBQ (caC cI (caC cI caN))) cI
abbrev yQd(x0:yAJ)(x1:Int)(x2:Int):Option Int:=
 bif(yEr true x2 0)==x1 then
 bif decide (x0.Nodes<=w64 ((yEr true x2 0)+1)) then
 some x0.Nodes
 else
 some (w64 ((yEr true x2 0)+1))
 else
 bif decide (x0.Nodes<=yEr true x2 0) then
 some x0.Nodes
 else
 some (yEr true x2 0)
theorem xCr:yGj.Eq [] .no (yQd):=fun _=>by kernel_rfl
def yNP(L:Nat):yGj.T:=yQd
theorem xCq(L:Nat):yGj.C (yNP L):=yGj.c (xCr) tN Tryz.func267 (by kernel_rfl) (lN _)
abbrev yIY:=fw1 301 (caC yPw caN) cdB
abbrev ySX(x0:yAP):Option Bool:=
 bif x0.Ahead then
 some true
 else
 some x0.Lost
theorem xFE:yIY.Eq [] .no (ySX):=fun _=>by kernel_rfl
def yPY(L:Nat):yIY.T:=ySX
theorem xFD(L:Nat):yIY.C (yPY L):=yIY.c (xFE) tN Tryz.func301 (by kernel_rfl) (lN _)
abbrev yIZ:=fw2 302 (caC yPw (caC cdS caN)) cdS
abbrev ySY(x0:yAP)(x1:ByteArray):Option ByteArray:=
 bif decide (0<x0.Best) then
 some x0.Val
 else
 some x1
theorem xFG:yIZ.Eq [] .no (ySY):=fun _=>by kernel_rfl
def yPZ(L:Nat):yIZ.T:=ySY
theorem xFF(L:Nat):yIZ.C (yPZ L):=yIZ.c (xFG) tN Tryz.func302 (by kernel_rfl) (lN _)
abbrev yKW:=fw1 268 (caC yGv caN) yGv
abbrev yT6(f1:yIY.T)(f2:yIZ.T)(x0:yAH):Option yAH:=
 yAB (f1 x0.T) fun r1=>
 bif r1 then
 some (⟨x0.Node,x0.Cmd,0,0,yAp.z,(⟨0,0,0,noS,x0.T.Seen,false,false⟩:yAP)⟩:yAH)
 else
 bif x0.At==5 then
 some ({x0 with At:=6 })
 else
 yAB (f2 x0.T x0.Cmd) fun r2=>
 some ({x0 with At:=4,Own:={x0.Own with Bal:=x0.Own.Mbal,Val:=r2 }})
theorem xHl(f1 f2):yKW.Eq [yIY.s f1,yIZ.s f2] .no (yT6 f1 f2):=fun _=>by kernel_rfl
def yUY(L:Nat):yKW.T:=yT6 (yPY L) (yPZ L)
theorem xHk(L:Nat):yKW.C (yUY L):=yKW.c (xHl (yPY L) (yPZ L)) (tC (xFD L).ent (tC (xFF L).ent tN)) Tryz.func268 (by kernel_rfl) (lN _)
abbrev yDd:=fw3 204 (caC yBQ (caC yGv (caC cI caN))) yGv
abbrev yQe(f1:yGj.T)(f2:yKW.T)(x0:yAJ)(x1:yAH)(x2:Int):Option yAH:=
 yAB (f1 x0 x1.Node x2) fun r1=>
 bif decide (x0.Nodes<=r1) then
 yAB (f2 ({x1 with I:=r1 })) fun r2=>
 some r2
 else
 some ({x1 with I:=r1 })
theorem xCu(f1 f2):yDd.Eq [yGj.s f1,yKW.s f2] .no (yQe f1 f2):=fun _=>by kernel_rfl
def yHj(L:Nat):yDd.T:=yQe (yNP L) (yUY L)
theorem yU6(L:Nat):yDd.C (yHj L):=yDd.c (xCu (yNP L) (yUY L)) (tC (xCq L).ent (tC (xHk L).ent tN)) Tryz.func204 (by kernel_rfl) (lN _)
abbrev yMG:=fw2 303 (caC yPw (caC yTH caN)) yPw
abbrev yVk(x0:yAP)(x1:yAp):Option yAP:=
 letI qc:={x0 with Seen:=yEr true x0.Seen x1.Mbal }
 letI qb:=x0.Best<x1.Bal
 letI qa:={x0 with Seen:=yEr true x0.Seen x1.Mbal,Ahead:=true }
 bif decide (x0.Inst<x1.Inst) then
 bif x1.Inst !=x0.Inst then
 some qa
 else
 bif decide (x0.Mbal<x1.Mbal) then
 bif decide qb then
 some (⟨x0.Inst,x0.Mbal,x1.Bal,x1.Val,yEr true x0.Seen x1.Mbal,true,true⟩:yAP)
 else
 some ({x0 with Seen:=yEr true x0.Seen x1.Mbal,Ahead:=true,Lost:=true })
 else
 bif decide qb then
 some (⟨x0.Inst,x0.Mbal,x1.Bal,x1.Val,yEr true x0.Seen x1.Mbal,true,x0.Lost⟩:yAP)
 else
 some qa
 else
 bif x1.Inst !=x0.Inst then
 some qc
 else
 bif decide (x0.Mbal<x1.Mbal) then
 bif decide qb then
 some (⟨x0.Inst,x0.Mbal,x1.Bal,x1.Val,yEr true x0.Seen x1.Mbal,x0.Ahead,true⟩:yAP)
 else
 some ({x0 with Seen:=yEr true x0.Seen x1.Mbal,Lost:=true })
 else
 bif decide qb then
 some ({x0 with Best:=x1.Bal,Val:=x1.Val,Seen:=yEr true x0.Seen x1.Mbal })
 else
 some qc
theorem xJi:yMG.Eq [] .no (yVk):=fun _=>by kernel_rfl
def yNQ(L:Nat):yMG.T:=yVk
theorem xJh(L:Nat):yMG.C (yNQ L):=yMG.c (xJi) tN Tryz.func303 (by kernel_rfl) (lN _)
abbrev yJa:=(List (List V))×yAP×yAP×Int×Unit
abbrev yN6:=yAP×yAP×Unit
abbrev yM0{α:Type}(f1:yMG.T)(s:yJa)(kn:yJa->Option α)(k0:yN6->Option α):Option α:=
 bif decide (s.2.2.2.1<(s.1.length:Int)) then
 gI s.1 yAp.ks s.2.2.2.1<|
 yAB (f1 s.2.1 (⟨aI s.1 s.2.2.2.1.toNat 0,aI s.1 s.2.2.2.1.toNat 1,aI s.1 s.2.2.2.1.toNat 2,aS s.1 s.2.2.2.1.toNat 3⟩:yAp)) fun r1=>
 kn (s.1,r1,s.2.2.1,w64 (s.2.2.2.1+1),())
 else
 k0 (s.2.1,s.2.2.1,())
abbrev yJb:LW1 yJa yN6:=⟨(lvC 1 (mP cdR) (lvC 2 yZ4 (lvC 4 yZ4 (lvC 5 (mP cI) lvN)))),(.exit 0),(lvC 2 yZ4 (lvC 4 yZ4 lvN))⟩
theorem yZg{α:Type}(f1):yJb.Eq (α:=α) [yMG.s f1] Tryz.f269 [1,0,1,0] .no (yM0 f1):=fun _ _ _=>by kernel_rfl
abbrev yIX:=fw2 269 (caC yPw (caC cdR caN)) yPw
abbrev yWu(F0:LF1 yJa yN6 (yAP))(x0:yAP)(x1:List (List V)):Option yAP:=
 F0 (x1,x0,yAP.z,0,()) (fun q1=>
 some q1.1)
theorem xFC(F0):yIX.Eq [] (.two .no (.two (.two .no (.one (.lp (yJb.s F0)))) .no)) (yWu F0):=fun _=>by kernel_rfl
def yPX(L:Nat):yIX.T:=yWu (yAb (yM0 (yNQ L)) L)
theorem yX7{α:Type}(L:Nat):LO Tryz.f269 [1,0,1,0] (yJb.s (α:=α) (yAb (yM0 (yNQ L)) L)):=yJb.k (yZg (yNQ L)) (tC (xJh L).ent tN) (lN _) (by kernel_rfl) L
theorem xFB(L:Nat):yIX.C (yPX L):=yIX.c (xFC (yAb (yM0 (yNQ L)) L)) tN Tryz.func269 (by kernel_rfl) (lS (lN _) (lS (lS (lN _) (lB (lL (yX7 L)))) (lN _)))
set_option maxRecDepth 100000
set_option maxHeartbeats 16000000
abbrev yFO:=fw3 205 (caC yBQ (caC yGv (caC cdS caN))) (cdT (caC yGv (caC cI caN)))
abbrev yPb(f1:yFy.T)(f2:yIX.T)(f3:yDd.T)(x0:yAJ)(x1:yAH)(x2:ByteArray):Option (yAH×Int×Unit):=
 yAB (f1 x2) fun r1=>
 bif r1.2.1 !=0 then
 some (x1,r1.2.1,())
 else
 yAB (f2 x1.T ([[V.int .i64 r1.1.Inst,V.int .i64 r1.1.Mbal,V.int .i64 r1.1.Bal,V.str r1.1.Val]])) fun r2=>
 yAB (f3 x0 ({x1 with T:=r2 }) (w64 (x1.I+1))) fun r3=>
 some (r3,0,())
theorem xBX(f1 f2 f3):yFO.Eq [yFy.s f1,yIX.s f2,yDd.s f3] .no (yPb f1 f2 f3):=fun _=>by kernel_rfl
def yLM(L:Nat):yFO.T:=yPb (yGh L) (yPX L) (yHj L)
theorem xBW(L:Nat):yFO.C (yLM L):=yFO.c (xBX (yGh L) (yPX L) (yHj L)) (tC (yYp L).ent (tC (xFB L).ent (tC (yU6 L).ent tN))) Tryz.func205 (by kernel_rfl) (lN _)
abbrev yKU:=fw5 160 (caC yBQ (caC yGv (caC yCf (caC cI (caC cdS caN))))) (cdT (caC yGv (caC yCf (caC cI (caC cdB (caC cI caN))))))
abbrev yF3(f1:yGl.T)(f2:yMH.T)(f3:yDd.T)(f4:yFO.T)(f5:yCK.T)(f6:yEW.T)(f7:yFz.T)(x0:yAJ)(x1:yAH)(x2:yAG)(x3:Int)(x4:ByteArray):Option (yAH×yAG×Int×Bool×Int×Unit):=
 letI qb:=(⟨x1.Node,x1.Cmd,0,0,yAp.z,(⟨0,0,0,noS,x1.T.Seen,false,false⟩:yAP)⟩:yAH)
 letI qa:=f3 x0 ({x1 with At:=IntKind.i8.wrap (x1.At+1),T:=(⟨x1.Own.Inst,x1.Own.Mbal,x1.Own.Bal,x1.Own.Val,yEr true x1.T.Seen x1.Own.Mbal,false,false⟩:yAP)}) 0
 bif x1.At==0 then
 yAB (f1 x0 x1 x2 x3 x4) fun r1=>
 some (r1.1,r1.2.1,r1.2.2.1,r1.2.2.2.1,r1.2.2.2.2.1,())
 else
 bif x1.At==1 then
 yAB (f2 x1 x3 x4) fun r2=>
 some (r2.1,x2,x3,false,r2.2.1,())
 else
 bif x1.At==2 then
 yAB qa fun r3=>
 some (r3,x2,x3,false,0,())
 else
 bif x1.At==4 then
 yAB qa fun r4=>
 some (r4,x2,x3,false,0,())
 else
 bif x1.At==3 then
 yAB (f4 x0 x1 x4) fun r5=>
 some (r5.1,x2,x3,false,r5.2.1,())
 else
 bif x1.At==5 then
 yAB (f4 x0 x1 x4) fun r6=>
 some (r6.1,x2,x3,false,r6.2.1,())
 else
 bif x1.At==6 then
 yAB (f5 x1.Own.Val) fun r7=>
 yAB (f5 x1.Cmd) fun r8=>
 bif r7.2.1 !=0 then
 some (x1,x2,x3,false,50,())
 else
 yAB (f6 x0 x2 r7.1) fun r9=>
 bif r8.2.1==0 then
 yAB (f7 r7.1 r8.1.By r8.1.Serial) fun r10=>
 some (qb,r9,w64 (x3+1),r10,0,())
 else
 some (qb,r9,w64 (x3+1),false,0,())
 else
 some (x1,x2,x3,false,0,())
theorem xHg(f1 f2 f3 f4 f5 f6 f7):yKU.Eq [yGl.s f1,yMH.s f2,yDd.s f3,yFO.s f4,yCK.s f5,yEW.s f6,yFz.s f7] .no (yF3 f1 f2 f3 f4 f5 f6 f7):=fun _=>by kernel_rfl
def yCY(L:Nat):yKU.T:=yF3 (yNR L) (yWv L) (yHj L) (yLM L) (yCQ L) (yC5 L) (yMD L)
theorem xHf(L:Nat):yKU.C (yCY L):=yKU.c (xHg (yNR L) (yWv L) (yHj L) (yLM L) (yCQ L) (yC5 L) (yMD L)) (tC (xCs L).ent (tC (xJj L).ent (tC (yU6 L).ent (tC (xBW L).ent (tC (yNN L).ent (tC (yWs L).ent (tC (yYr L).ent tN))))))) Tryz.func160 (by kernel_rfl) (lN _)
abbrev yEA:=fw3 97 (caC yBQ (caC yDS (caC cdS caN))) (cdT (caC yDS (caC yKr (caC cdB caN))))
abbrev yJg(f1:yF5.T)(f2:yKU.T)(f3:yF0.T)(x0:yAJ)(x1:yAL)(x2:ByteArray):Option (yAL×yAC×Bool×Unit):=
 yAB (f1 x0 x1.P x1.Done) fun r1=>
 bif r1.2.1 !=0 then
 some ({x1 with At:=0,P:=yAH.z,St:=yAE.z },(⟨r1.2.1,noS,false⟩:yAC),true,())
 else
 yAB (f2 x0 x1.P x1.Table x1.Done x2) fun r2=>
 bif r2.2.2.2.2.1 !=0 then
 some ({x1 with At:=0,P:=yAH.z,St:=yAE.z },(⟨r2.2.2.2.2.1,noS,false⟩:yAC),true,())
 else
 bif !r2.2.2.2.1 then
 some ({x1 with Table:=r2.2.1,Done:=r2.2.2.1,P:=r2.1 },yAC.z,false,())
 else
 bif x1.At==7 then
 some ({x1 with Mounted:=false,Slot:=0,Head:=0,Tail:=0,Table:=r2.2.1,Done:=r2.2.2.1,At:=0,P:=yAH.z,St:=yAE.z },yAC.z,true,())
 else
 yAB (f3 r2.2.1 x1.Key) fun r3=>
 bif !r3.2.1 then
 some ({x1 with Table:=r2.2.1,Done:=r2.2.2.1,At:=0,P:=yAH.z,St:=yAE.z },(⟨240,noS,false⟩:yAC),true,())
 else
 some ({x1 with Slot:=r3.1,Table:=r2.2.1,Done:=r2.2.2.1,At:=5,P:=r2.1 },yAC.z,false,())
theorem yZn(f1 f2 f3):yEA.Eq [yF5.s f1,yKU.s f2,yF0.s f3] .no (yJg f1 f2 f3):=fun _=>by kernel_rfl
def yGq(L:Nat):yEA.T:=yJg (yBw L) (yCY L) (yGi L)
theorem yZm(L:Nat):yEA.C (yGq L):=yEA.c (yZn (yBw L) (yCY L) (yGi L)) (tC (yYv L).ent (tC (xHf L).ent (tC (yYs L).ent tN))) Tryz.func97 (by kernel_rfl) (lN _)
abbrev yKN:=fw1 98 (caC cdS caN) (cdT (caC cI (caC cI caN)))
abbrev yTq(f1:yCe.T)(x0:ByteArray):Option (Int×Int×Unit):=
 yAB (f1 2 x0 ([[V.int .i64 6]])) fun r1=>
 bif r1.2.2.1 !=0 then
 some (0,50,())
 else
 bif !(r1.2.1.toList==noS.toList) then
 some (0,50,())
 else
 gd (decide (0<(r1.1.length:Int)))<|
 gL r1.1 kI 0 0<|
 some (aI r1.1 0 0,0,())
theorem xHP(f1):yKN.Eq [yCe.s f1] .no (yTq f1):=fun _=>by kernel_rfl
def yRB(L:Nat):yKN.T:=yTq (yCt L)
theorem xHO(L:Nat):yKN.C (yRB L):=yKN.c (xHP (yCt L)) (tC (yQY L).ent tN) Tryz.func98 (by kernel_rfl) (lN _)
abbrev yKe:=fw3 20 (caC yBQ (caC yDS (caC cdS caN))) (cdT (caC yDS (caC yKr (caC cdB caN))))
abbrev yDe(f1:yLr.T)(f2:yKR.T)(f3:yME.T)(f4:yKM.T)(f5:yGp.T)(f6:yEA.T)(f7:yKN.T)(x0:yAJ)(x1:yAL)(x2:ByteArray):Option (yAL×yAC×Bool×Unit):=
 bif x1.At==0 then
 yAB (f1 x2 6) fun r1=>
 letI qa:=decide (0<(r1.1.length:Int))
 bif r1.2.1 !=0 then none else
 bif(r1.1.length:Int) !=1 then none else
 gd qa<|
 gd (rowIs kI r1.1 0)<|
 yAB (f2 (aI r1.1 0 0)) fun r2=>
 bif r2 !=x1.Num then none else
 gd qa<|
 gd (rowIs kI r1.1 0)<|
 yAB (f3 x0) fun r3=>
 some ({x1 with Key:=aI r1.1 0 0,Count:=0,Table:=r3,Done:=0,Serial:=0,At:=1 },yAC.z,false,())
 else
 bif x1.At==1 then
 yAB (f4 x2) fun r4=>
 bif r4.2.1 !=0 then none else
 bif !((r4.1.Nodes==x0.Nodes)&&((r4.1.Slots==x0.Slots)&&((r4.1.Blocks==x0.Blocks)&&((r4.1.Per==x0.Per)&&((r4.1.Journal==x0.Journal)&&((r4.1.Log==x0.Log)&&((r4.1.Lease==x0.Lease)&&((r4.1.Wait==x0.Wait)&&true)))))))) then none else
 some ({x1 with At:=2 },yAC.z,false,())
 else
 bif x1.At==2 then
 some ({x1 with Asked:=x1.Clock,Count:=1,At:=3 },yAC.z,false,())
 else
 bif x1.At==3 then
 yAB (f5 x0 x1 x2) fun r5=>
 some (r5.1,r5.2.1,r5.2.2.1,())
 else
 bif x1.At==4 then
 yAB (f6 x0 x1 x2) fun r6=>
 some (r6.1,r6.2.1,r6.2.2.1,())
 else
 bif x1.At==7 then
 yAB (f6 x0 x1 x2) fun r7=>
 some (r7.1,r7.2.1,r7.2.2.1,())
 else
 bif x1.At==5 then
 yAB (f7 x2) fun r8=>
 bif r8.2.1 !=0 then none else
 some ({x1 with Mounted:=true,Head:=r8.1,Tail:=r8.1,At:=0,P:=yAH.z,St:=yAE.z },yAC.z,true,())
 else
 bif x1.At==6 then none else
 some ({x1 with At:=0,P:=yAH.z,St:=yAE.z },(⟨2,noS,false⟩:yAC),true,())
theorem xH1(f1 f2 f3 f4 f5 f6 f7):yKe.Eq [yLr.s f1,yKR.s f2,yME.s f3,yKM.s f4,yGp.s f5,yEA.s f6,yKN.s f7] (.two .no (.two (.two .no (.one (.two .no (.two (.two .no (.two (.two .no (.two xT .no)) .no)) (.two .no (.two (.two .no (.two (.two .no (.two xT .no)) .no)) (.two .no (.two .no (.two .no (.two .no (.two .no (.two .no (.two .no (.two (.two .no (.two (.two .no (.two xT .no)) .no)) (.two .no (.two xT .no)))))))))))))))) .no)) (yDe f1 f2 f3 f4 f5 f6 f7):=fun _=>by kernel_rfl
def yA7(L:Nat):yKe.T:=yDe (yTb L) (yOd L) (yRD L) (yRA L) (yNT L) (yGq L) (yRB L)
theorem xH0(L:Nat):yKe.C (yA7 L):=yKe.c (xH1 (yTb L) (yOd L) (yRD L) (yRA L) (yNT L) (yGq L) (yRB L)) (tC (xJR L).ent (tC (xDd L).ent (tC (xJf L).ent (tC (xHM L).ent (tC (xC0 L).ent (tC (yZm L).ent (tC (xHO L).ent tN))))))) Tryz.func20 (by kernel_rfl) (lS (lN _) (lS (lS (lN _) (lB (lS (lN _) (lQ (lS (lN _) (lS (lS (lN _) (lQ (lX _) (lN _))) (lN _))) (lS (lN _) (lQ (lS (lN _) (lS (lS (lN _) (lQ (lX _) (lN _))) (lN _))) (lS (lN _) (lQ (lN _) (lS (lN _) (lQ (lN _) (lS (lN _) (lQ (lN _) (lS (lN _) (lQ (lS (lN _) (lS (lS (lN _) (lQ (lX _) (lN _))) (lN _))) (lS (lN _) (lQ (lX _) (lN _))))))))))))))))) (lN _)))
set_option maxRecDepth 100000
set_option maxHeartbeats 16000000
abbrev yEL:=(List (List V))×yAJ×yAD×(List (List V))×Int×Unit
abbrev yHS:=Unit
abbrev yHT:=Bool×Unit
abbrev yDp{α:Type}(f1:yEN.T)(f2:yIi.T)(f3:yKd.T)(f4:yKf.T)(f5:yFq.T)(f6:yKO.T)(f7:yFp.T)(f8:yKe.T)(s:yEL)(kn:yEL->Option α)(k0:yHS->Option α)(k1:yHT->Option α):Option α:=
 letI ql:=s.2.1
 letI qg:=s.2.2.2.2.1
 letI qd:=s.2.2.2.1
 letI qa:=(w64 (((aI s.1 qg.toNat 0).tmod ql.Nodes)+ql.Nodes)).tmod ql.Nodes
 letI qk:=decide (0+qa.toNat<qd.length)
 letI qe:=0+qa.toNat
 letI qc:=yAL.at qd qe 0
 letI qf:={qc with Busy:=true,Op:=(⟨aI s.1 qg.toNat 1,yAr.z,0,0,noS,0,0⟩:xB2)}
 letI qb:=qd.getD qe []
 letI qm:=Nat.ble 64 qb.length
 bif decide (qg<(s.1.length:Int)) then
 gI s.1 yAx.ks qg<|
 gd (!(decide (ql.Nodes=0)))<|
 gd (!(decide (ql.Nodes=0)))<|
 gB qa qd.length<|
 gL qd xI3 qe 0<|
 bif !(aB qd qe 22) then
 gI s.1 yAx.ks qg<|
 bif decide (aI s.1 qg.toNat 1<0) then
 gW qd qd.length<|
 kn (s.1,ql,s.2.2.1,qd,w64 (qg+1),())
 else
 gI s.1 yAx.ks qg<|
 yAB (f1 ql qf) fun r1=>
 yAB (f2 ql qf) fun r2=>
 letI qi:=qb.take 0++((yAL.cs {r2.1 with Busy:= !r2.2.2.1 })++qb.drop 64)
 yAB (f3 r1.1 r2.1) fun r3=>
 bif !r3 then
 k1 (false,())
 else
 bif !((r1.2.1.E==r2.2.1.E)&&((r1.2.1.Text.toList==r2.2.1.Text.toList)&&((r1.2.1.Yes==r2.2.1.Yes)&&true))) then
 k1 (false,())
 else
 bif !(r1.2.2.1==r2.2.2.1) then
 k1 (false,())
 else
 gB qa qd.length<|
 gd qk<|
 gd (Nat.ble 0 qe)<|
 gd qm<|
 gW (qd.set qe qi) qd.length<|
 kn (s.1,ql,s.2.2.1,qd.set qe qi,w64 (qg+1),())
 else
 yAB (f4 ql qc) fun r4=>
 yAB (f5 ql qc) fun r5=>
 bif !((r5.Kind==r4.Kind)&&((r5.Sector==r4.Sector)&&((r5.B.toList==r4.B.toList)&&((r5.Key==r4.Key)&&true)))) then
 k1 (false,())
 else
 bif r4.Kind !=0 then
 yAB (f6 s.2.2.1 qa r4) fun r6=>
 bif r6.2.2.1 !=0 then
 k1 (false,())
 else
 yAB (f7 ql qc r6.2.1) fun r7=>
 yAB (f8 ql qc r6.2.1) fun r8=>
 letI qj:=qb.take 0++((yAL.cs {r8.1 with Busy:= !r8.2.2.1 })++qb.drop 64)
 yAB (f3 r7.1 r8.1) fun r9=>
 bif !r9 then
 k1 (false,())
 else
 bif !((r7.2.1.E==r8.2.1.E)&&((r7.2.1.Text.toList==r8.2.1.Text.toList)&&((r7.2.1.Yes==r8.2.1.Yes)&&true))) then
 k1 (false,())
 else
 bif !(r7.2.2.1==r8.2.2.1) then
 k1 (false,())
 else
 gB qa qd.length<|
 gd qk<|
 gd (Nat.ble 0 qe)<|
 gd qm<|
 gW (qd.set qe qj) qd.length<|
 kn (s.1,ql,r6.1,qd.set qe qj,w64 (qg+1),())
 else
 yAB (f7 ql qc noS) fun r10=>
 yAB (f8 ql qc noS) fun r11=>
 letI qh:=qb.take 0++((yAL.cs {r11.1 with Busy:= !r11.2.2.1 })++qb.drop 64)
 yAB (f3 r10.1 r11.1) fun r12=>
 bif !r12 then
 k1 (false,())
 else
 bif !((r10.2.1.E==r11.2.1.E)&&((r10.2.1.Text.toList==r11.2.1.Text.toList)&&((r10.2.1.Yes==r11.2.1.Yes)&&true))) then
 k1 (false,())
 else
 bif !(r10.2.2.1==r11.2.2.1) then
 k1 (false,())
 else
 gB qa qd.length<|
 gd qk<|
 gd (Nat.ble 0 qe)<|
 gd qm<|
 gW (qd.set qe qh) qd.length<|
 kn (s.1,ql,s.2.2.1,qd.set qe qh,w64 (qg+1),())
 else
 k0 (())
abbrev yEM:LW2 yEL yHS yHT:=⟨(lvC 1 (mP cdR) (lvC 2 yOI (lvC 5 yAM (lvC 7 (mW 64) (lvC 9 (mP cI) lvN))))),(.exit 2),lvN,.ret,(lvC 4 (mP cdB) lvN)⟩
theorem yTR{α:Type}(f1 f2 f3 f4 f5 f6 f7 f8):yEM.Eq (α:=α) [yEN.s f1,yIi.s f2,yKd.s f3,yKf.s f4,yFq.s f5,yKO.s f6,yFp.s f7,yKe.s f8] Tryz.f3 [1,1,1,1,1,1,0,1,0] .no (yDp f1 f2 f3 f4 f5 f6 f7 f8):=fun _ _ _=>by kernel_rfl
abbrev yEJ:=(List (List V))×yAJ×yAD×(List (List V))×Int×Unit
abbrev yHR:=(List (List V))×yAJ×yAD×(List (List V))×Unit
abbrev yDo{α:Type}(s:yEJ)(kn:yEJ->Option α)(k0:yHR->Option α):Option α:=
 letI qd:=s.2.2.2.2.1
 letI qc:=s.2.2.2.1
 letI qb:=0+qd.toNat
 letI qa:=(qc.getD qb []).take 0++([V.int .i64 qd,V.int .i64 0,V.bool true,V.int .i64 0,V.int .i64 0,V.int .i64 0,V.int .i64 0,V.bool false,V.int .i64 0,V.int .i64 0,V.int .i64 0,V.sl ([]) true,V.sl ([]) true,V.sl ([]) true,V.int .i64 0,V.int .i64 0,V.bool false,V.sl ([]) true,V.sl ([]) true,V.sl ([]) true,V.sl ([]) true,V.bool false,V.bool false,V.int .i8 0,V.int .i64 0,V.int .i64 0,V.int .i8 0,V.int .i64 0,V.str noS,V.int .i64 0,V.int .i64 0,V.int .i8 0,V.int .i64 0,V.str noS,V.int .i8 0,V.int .i64 0,V.int .i64 0,V.int .i64 0,V.int .i64 0,V.str noS,V.int .i64 0,V.int .i64 0,V.int .i64 0,V.str noS,V.int .i64 0,V.bool false,V.bool false,V.sl ([]) true,V.int .i64 0,V.sl ([]) true,V.int .i64 0,V.int .i64 0,V.int .i8 0,V.int .i64 0,V.int .i64 0,V.int .i8 0,V.int .i64 0,V.sl ([]) true,V.sl ([]) true,V.int .i64 0,V.int .i64 0,V.int .i64 0,V.int .i64 0,V.sl ([]) true]++(qc.getD qb []).drop 64)
 bif decide (qd<(qc.length:Int)) then
 gB qd qc.length<|
 gd (decide (0+qd.toNat<qc.length))<|
 gd (Nat.ble 0 qb)<|
 gd (Nat.ble 64 (qc.getD qb []).length)<|
 gW (qc.set qb qa) qc.length<|
 kn (s.1,s.2.1,s.2.2.1,qc.set qb qa,w64 (qd+1),())
 else
 gW qc qc.length<|
 k0 (s.1,s.2.1,s.2.2.1,qc,())
abbrev yEK:LW1 yEJ yHR:=⟨(lvC 1 (mP cdR) (lvC 2 yOI (lvC 5 yAM (lvC 7 (mW 64) (lvC 8 (mP cI) lvN))))),(.exit 0),(lvC 1 (mP cdR) (lvC 2 yOI (lvC 5 yAM (lvC 7 (mW 64) lvN))))⟩
theorem yTQ{α:Type}:yEK.Eq (α:=α) [] Tryz.f3 [1,1,1,1,1,0,1,0] .no (yDo):=fun _ _ _=>by kernel_rfl
abbrev yHC:=fw2 3 (caC yBQ (caC cdR caN)) cdB
abbrev yKy(f1:yAn.T)(f2:yH1.T)(f3:yFl.T)(F0:LF1 yEJ yHR (Bool))(F1:LF2 yEL yHS yHT (Bool))(x0:yAJ)(x1:List (List V)):Option Bool:=
 letI qa:= [V.int .i64 0,V.int .i64 0,V.bool false,V.int .i64 0,V.int .i64 0,V.int .i64 0,V.int .i64 0,V.bool false,V.int .i64 0,V.int .i64 0,V.int .i64 0,V.sl ([]) true,V.sl ([]) true,V.sl ([]) true,V.int .i64 0,V.int .i64 0,V.bool false,V.sl ([]) true,V.sl ([]) true,V.sl ([]) true,V.sl ([]) true,V.bool false,V.bool false,V.int .i8 0,V.int .i64 0,V.int .i64 0,V.int .i8 0,V.int .i64 0,V.str noS,V.int .i64 0,V.int .i64 0,V.int .i8 0,V.int .i64 0,V.str noS,V.int .i8 0,V.int .i64 0,V.int .i64 0,V.int .i64 0,V.int .i64 0,V.str noS,V.int .i64 0,V.int .i64 0,V.int .i64 0,V.str noS,V.int .i64 0,V.bool false,V.bool false,V.sl ([]) true,V.int .i64 0,V.sl ([]) true,V.int .i64 0,V.int .i64 0,V.int .i8 0,V.int .i64 0,V.int .i64 0,V.int .i8 0,V.int .i64 0,V.sl ([]) true,V.sl ([]) true,V.int .i64 0,V.int .i64 0,V.int .i64 0,V.int .i64 0,V.sl ([]) true]
 yAB (f1 x0) fun r1=>
 bif !r1 then
 yAB (f2) fun r2=>
 some r2
 else
 bif decide (8<x0.Blocks) then
 yAB (f2) fun r3=>
 some r3
 else
 bif decide (200<(x1.length:Int)) then
 yAB (f2) fun r4=>
 some r4
 else
 yAB (f3 x0) fun r5=>
 letI qb:=r5.2.2.2.2.1
 bif !r5.2.2.2.2.2.1 then
 some false
 else
 gd (decide (0<=x0.Nodes))<|
 gd (decide (x0.Nodes<=x0.Nodes))<|
 gd (decide (720*x0.Nodes.toNat<=281474976710656))<|
 gd (decide (x0.Nodes<=9223372036854775807))<|
 gF r5.1 (0+r5.1.length)<|
 gF r5.2.1 (0+r5.2.1.length)<|
 gF r5.2.2.1 (0+r5.2.2.1.length)<|
 gF qb (0+qb.length)<|
 gW (List.replicate x0.Nodes.toNat qa) x0.Nodes.toNat<|
 F0 (x1,x0,(⟨r5.1.take r5.1.length,r5.2.1.take r5.2.1.length,r5.2.2.1.take r5.2.2.1.length,r5.2.2.2.1,qb.take qb.length⟩:yAD),List.replicate x0.Nodes.toNat qa,0,()) (fun q6=>
 gW q6.2.2.2.1 q6.2.2.2.1.length<|
 F1 (q6.1,q6.2.1,q6.2.2.1,q6.2.2.2.1,0,()) (fun q7=>
 yAB (f2) fun r8=>
 some r8) (fun q9=>
 some q9.1))
theorem yWP(f1 f2 f3 F0 F1):yHC.Eq [yAn.s f1,yH1.s f2,yFl.s f3] (.two .no (.two .no (.two .no (.two .no (.two .no (.two (.two .no (.one (.lp (yEK.s F0)))) (.two (.two .no (.one (.lp (yEM.s F1)))) .no))))))) (yKy f1 f2 f3 F0 F1):=fun _=>by kernel_rfl
def yNd(L:Nat):yHC.T:=yKy (yBV L) (yLo L) (yH0 L) (yAb (yDo) L) (yAf (yDp (yDO L) (yEx L) (yFQ L) (yB6 L) (yBP L) (yDV L) (yAU L) (yA7 L)) L)
theorem yS2{α:Type}(L:Nat):LO Tryz.f3 [1,1,1,1,1,1,0,1,0] (yEM.s (α:=α) (yAf (yDp (yDO L) (yEx L) (yFQ L) (yB6 L) (yBP L) (yDV L) (yAU L) (yA7 L)) L)):=yEM.k (yTR (yDO L) (yEx L) (yFQ L) (yB6 L) (yBP L) (yDV L) (yAU L) (yA7 L)) (tC (yWT L).ent (tC (xFR L).ent (tC (xHy L).ent (tC (xH2 L).ent (tC (yYi L).ent (tC (xDc L).ent (tC (yYh L).ent (tC (xH0 L).ent tN)))))))) (lN _) (by kernel_rfl) L
theorem yS1{α:Type}(L:Nat):LO Tryz.f3 [1,1,1,1,1,0,1,0] (yEK.s (α:=α) (yAb (yDo) L)):=yEK.k (yTQ) tN (lN _) (by kernel_rfl) L
theorem yWO(L:Nat):yHC.C (yNd L):=yHC.c (yWP (yBV L) (yLo L) (yH0 L) (yAb (yDo) L) (yAf (yDp (yDO L) (yEx L) (yFQ L) (yB6 L) (yBP L) (yDV L) (yAU L) (yA7 L)) L)) (tC (yCi L).ent (tC (xEE L).ent (tC (yYa L).ent tN))) Tryz.func3 (by kernel_rfl) (lS (lN _) (lS (lN _) (lS (lN _) (lS (lN _) (lS (lN _) (lS (lS (lN _) (lB (lL (yS1 L)))) (lS (lS (lN _) (lB (lL (yS2 L)))) (lN _))))))))
end Go.Proofs.YtakljpcmbpaeaaaGreat
