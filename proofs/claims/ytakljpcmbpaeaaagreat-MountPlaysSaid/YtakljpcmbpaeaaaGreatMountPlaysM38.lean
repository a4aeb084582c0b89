/- Typed functions. (printed by wip/sx) -/
import Derived.Test.YtakljpcmbpaeaaaGreatMountPlaysM35
import Derived.Test.YtakljpcmbpaeaaaGreatMountPlaysM36
import Derived.Test.YtakljpcmbpaeaaaGreatMountPlaysM37
set_option linter.unusedSimpArgs false
set_option linter.unusedVariables false
namespace Go.Proofs.YtakljpcmbpaeaaaGreat
open Go.RowKit
set_option maxRecDepth 100000
set_option maxHeartbeats 16000000
abbrev yFq:=fw2 17 (caC yBQ (caC yDS caN)) yKq
abbrev yDY(f1:yH6.T)(f2:yJ3.T)(f3:yLm.T)(f4:yFn.T)(f5:yFt.T)(f6:yOo.T)(x0:yAJ)(x1:yAL):Option yAV:=
 bif x1.At==0 then
 some (⟨6,0,noS,0⟩:yAV)
 else
 bif x1.At==1 then
 yAB (f1 0) fun r1=>
 some r1
 else
 bif x1.At==2 then
 yAB (f2 x1.Key 1) fun r2=>
 yAB (f3 x0 x1.Num) fun r3=>
 bif r2.2.1==0 then
 bif decide (0<=r3) then
 some (⟨2,r3,r2.1,0⟩:yAV)
 else
 some yAV.z
 else
 some yAV.z
 else
 bif x1.At==3 then
 yAB (f4 x0 x1.Done) fun r4=>
 some r4
 else
 bif x1.At==4 then
 yAB (f5 x0 x1.P x1.Done) fun r5=>
 bif r5.2.1==0 then
 some r5.1
 else
 some yAV.z
 else
 bif x1.At==7 then
 yAB (f5 x0 x1.P x1.Done) fun r6=>
 bif r6.2.1==0 then
 some r6.1
 else
 some yAV.z
 else
 bif x1.At==5 then
 yAB (f6 x0 x1.Slot) fun r7=>
 yAB (f1 r7) fun r8=>
 some r8
 else
 bif x1.At==6 then none else
 some yAV.z
theorem xGq(f1 f2 f3 f4 f5 f6):yFq.Eq [yH6.s f1,yJ3.s f2,yLm.s f3,yFn.s f4,yFt.s f5,yOo.s f6] (.two .no (.two (.two .no (.one (.two .no (.two .no (.two .no (.two .no (.two .no (.two .no (.two .no (.two .no (.two .no (.two .no (.two .no (.two .no (.two .no (.two xT .no)))))))))))))))) .no)) (yDY f1 f2 f3 f4 f5 f6):=fun _=>by kernel_rfl
def yBP(L:Nat):yFq.T:=yDY (yPC L) (yQo L) (yQv L) (yGa L) (yBW L) (yWJ L)
theorem yYi(L:Nat):yFq.C (yBP L):=yFq.c (xGq (yPC L) (yQo L) (yQv L) (yGa L) (yBW L) (yWJ L)) (tC (xEL L).ent (tC (xF8 L).ent (tC (xIw L).ent (tC (yYd L).ent (tC (yYl L).ent (tC (xLK L).ent tN)))))) Tryz.func17 (by kernel_rfl) (lS (lN _) (lS (lS (lN _) (lB (lS (lN _) (lQ (lN _) (lS (lN _) (lQ (lN _) (lS (lN _) (lQ (lN _) (lS (lN _) (lQ (lN _) (lS (lN _) (lQ (lN _) (lS (lN _) (lQ (lN _) (lS (lN _) (lQ (lX _) (lN _))))))))))))))))) (lN _)))
abbrev yIH:=(List (List V))×yAD×Int×Int×Unit
abbrev yL3:=(List (List V))×yAD×Int×Unit
abbrev yL4:=Bool×Unit
abbrev yDF{α:Type}(s:yIH)(kn:yIH->Option α)(k0:yL3->Option α)(k1:yL4->Option α):Option α:=
 bif decide (s.2.2.2.1<(s.2.1.Fenced.length:Int)) then
 gI s.2.1.Fenced kI s.2.2.2.1<|
 gI s.1 kI s.2.2.1<|
 bif(aI s.2.1.Fenced s.2.2.2.1.toNat 0)==(aI s.1 s.2.2.1.toNat 0) then
 k1 (true,())
 else
 kn (s.1,s.2.1,s.2.2.1,w64 (s.2.2.2.1+1),())
 else
 k0 (s.1,s.2.1,s.2.2.1,())
abbrev yII:LW2 yIH yL3 yL4:=⟨(lvC 1 (mP cdR) (lvC 2 yAM (lvC 5 (mP cI) (lvC 6 (mP cI) lvN)))),(.exit 2),(lvC 1 (mP cdR) (lvC 2 yAM (lvC 5 (mP cI) lvN))),.ret,(lvC 4 (mP cdB) lvN)⟩
theorem yXw{α:Type}:yII.Eq (α:=α) [] Tryz.f86 [1,0,1,0,0,1,0,0,1,1,0] .no (yDF):=fun _ _ _=>by kernel_rfl
abbrev yIF:=(List (List V))×yAD×Int×Unit
abbrev yL1:=Unit
abbrev yL2:=Bool×Unit
abbrev yFI{α:Type}(F1:LF2 yIH yL3 yL4 α)(s:yIF)(kn:yIF->Option α)(k0:yL1->Option α)(k1:yL2->Option α):Option α:=
 bif decide (s.2.2.1<(s.1.length:Int)) then
 gI s.1 kI s.2.2.1<|
 bif decide (aI s.1 s.2.2.1.toNat 0<1) then
 k1 (true,())
 else
 F1 (s.1,s.2.1,s.2.2.1,0,()) (fun q1=>
 kn (q1.1,q1.2.1,w64 (q1.2.2.1+1),())) (fun q2=>
 k1 (q2.1,()))
 else
 k0 (())
abbrev yIG:LW2 yIF yL1 yL2:=⟨(lvC 1 (mP cdR) (lvC 2 yAM (lvC 5 (mP cI) lvN))),(.exit 0),lvN,.ret,(lvC 4 (mP cdB) lvN)⟩
theorem yXv{α:Type}(F1):yIG.Eq (α:=α) [] Tryz.f86 [1,0,1,0] (.two .no (.two (.one (.two .no (.two .no (.one (.lp (yII.s F1)))))) .no)) (yFI F1):=fun _ _ _=>by kernel_rfl
abbrev yGe:=fw2 86 (caC yNE (caC cdR caN)) cdB
abbrev yU4(F0:LF2 yIF yL1 yL2 (Bool))(x0:yAD)(x1:List (List V)):Option Bool:=
 F0 (x1,x0,0,()) (fun q1=>
 some false) (fun q2=>
 some q2.1)
theorem xCk(F0):yGe.Eq [] (.two .no (.two (.two .no (.one (.lp (yIG.s F0)))) .no)) (yU4 F0):=fun _=>by kernel_rfl
def yHd(L:Nat):yGe.T:=yU4 (yAf (yFI (yAf (yDF) L)) L)
theorem yWk{α:Type}(L:Nat):LO Tryz.f86 [1,0,1,0,0,1,0,0,1,1,0] (yII.s (α:=α) (yAf (yDF) L)):=yII.k (yXw) tN (lN _) (by kernel_rfl) L
theorem yWj{α:Type}(L:Nat):LO Tryz.f86 [1,0,1,0] (yIG.s (α:=α) (yAf (yFI (yAf (yDF) L)) L)):=yIG.k (yXv (yAf (yDF) L)) tN (lS (lN _) (lS (lB (lS (lN _) (lS (lN _) (lB (lL (yWk L)))))) (lN _))) (by kernel_rfl) L
theorem xCj(L:Nat):yGe.C (yHd L):=yGe.c (xCk (yAf (yFI (yAf (yDF) L)) L)) tN Tryz.func86 (by kernel_rfl) (lS (lN _) (lS (lS (lN _) (lB (lL (yWj L)))) (lN _)))
abbrev yIN:=yAD×yAD×((List (List V))×(List (List V))×(List (List V))×Int×(List (List V))×Unit)×Int×Unit
abbrev yMA:=yAD×((List (List V))×(List (List V))×(List (List V))×Int×(List (List V))×Unit)×Unit
abbrev yDs{α:Type}(s:yIN)(kn:yIN->Option α)(k0:yMA->Option α):Option α:=
 letI qg:=s.2.2.1.1
 letI qf:=s.2.2.2.1
 letI qd:=s.2.2.1.2.2.1
 letI qc:=s.2.2.1.2.2.2.2.1
 letI qb:=s.2.2.1.2.1
 letI qa:=0+((aR s.1.Cache qf.toNat 0).length)
 letI qe:=qb++([[V.bs 16 0 qa qa]])
 bif decide (qf<(s.1.Cache.length:Int)) then
 gI s.1.Cache kL qf<|
 gd ((aR s.1.Cache qf.toNat 0).all fun r=>Nat.beq r.length 2)<|
 gM qa 24<|
 gd (Nat.beq (0+qb.length) qb.length)<|
 gM (qb.length+1) 24<|
 gW qg qg.length<|
 gd (Nat.beq (qb.length+1) (qe.length))<|
 gd (xLH [(16,aR s.1.Cache qf.toNat 0)] qe)<|
 gW qd qd.length<|
 gW qc qc.length<|
 kn (s.1,s.2.1,(qg,xMR [(16,aR s.1.Cache qf.toNat 0)] qe,qd,s.2.2.1.2.2.2.1,qc,()),w64 (qf+1),())
 else
 gW qg qg.length<|
 gW qb qb.length<|
 gW qd qd.length<|
 gW qc qc.length<|
 k0 (s.2.1,(qg,qb,qd,s.2.2.1.2.2.2.1,qc,()),())
abbrev yIO:LW1 yIN yMA:=⟨(lvC 1 yAM (lvC 2 yAM (lvC 3 (mO (zW 1 (zF 1 [16] (zW 1 (zP cI (zW 1 zN))))) 5) (lvC 4 (mP cI) lvN)))),(.exit 0),(lvC 2 yAM (lvC 3 (mO (zW 1 (zW 1 (zW 1 (zP cI (zW 1 zN))))) 5) lvN))⟩
theorem yXz{α:Type}:yIO.Eq (α:=α) [] Tryz.f87 [1,1,0,1,0] .no (yDs):=fun _ _ _=>by kernel_rfl
abbrev yGg:=rw1 87 .a (caC yNE caN) (zW 1 (zW 1 (zW 1 (zP cI (zW 1 zN)))))
abbrev yQb(F0:LF1 yIN yMA ((List (List V))×(List (List V))×(List (List V))×Int×(List (List V))×Unit))(x0:yAD):Option ((List (List V))×(List (List V))×(List (List V))×Int×(List (List V))×Unit):=
 gd (x0.S.all fun r=>Nat.beq r.length 1)<|
 gM (0+x0.S.length) 16<|
 gd (x0.Keys.all fun r=>Nat.beq r.length 1)<|
 gM (0+x0.Keys.length) 8<|
 gd (x0.Fenced.all fun r=>Nat.beq r.length 1)<|
 gM (0+x0.Fenced.length) 8<|
 gW x0.S (0+x0.S.length)<|
 gW x0.Keys (0+x0.Keys.length)<|
 gW x0.Fenced (0+x0.Fenced.length)<|
 F0 (x0,yAD.z,(x0.S,[],x0.Keys,x0.Next,x0.Fenced,()),0,()) (fun q1=>
 letI qa:=q1.2.1.2.2.2.2.1
 gW q1.2.1.1 q1.2.1.1.length<|
 gW q1.2.1.2.1 q1.2.1.2.1.length<|
 gW q1.2.1.2.2.1 q1.2.1.2.2.1.length<|
 gW qa qa.length<|
 some (q1.2.1.1,q1.2.1.2.1,q1.2.1.2.2.1,q1.2.1.2.2.2.1,qa,()))
theorem xCo(F0):yGg.Eq [] (.two .no (.two .no (.two (.two .no (.one (.lp (yIO.s F0)))) .no))) (yQb F0):=fun _=>by kernel_rfl
def yFx(L:Nat):yGg.T:=yQb (yAb (yDs) L)
theorem yWn{α:Type}(L:Nat):LO Tryz.f87 [1,1,0,1,0] (yIO.s (α:=α) (yAb (yDs) L)):=yIO.k (yXz) tN (lN _) (by kernel_rfl) L
theorem xCn(L:Nat):yGg.C (yFx L):=yGg.c (xCo (yAb (yDs) L)) tN Tryz.func87 (by kernel_rfl) (lS (lN _) (lS (lN _) (lS (lS (lN _) (lB (lL (yWn L)))) (lN _))))
abbrev yJT:=(List (List V))×Int×Int×Unit
abbrev yN1:=Unit
abbrev yN2:=Int×Unit
abbrev yMw{α:Type}(s:yJT)(kn:yJT->Option α)(k0:yN1->Option α)(k1:yN2->Option α):Option α:=
 bif decide (s.2.2.1<(s.1.length:Int)) then
 gI s.1 yCw.ks s.2.2.1<|
 bif(aI s.1 s.2.2.1.toNat 0)==s.2.1 then
 k1 (s.2.2.1,())
 else
 kn (s.1,s.2.1,w64 (s.2.2.1+1),())
 else
 k0 (())
abbrev yJU:LW2 yJT yN1 yN2:=⟨(lvC 0 (mP cdR) (lvC 1 (mP cI) (lvC 5 (mP cI) lvN))),(.exit 0),lvN,.ret,(lvC 4 (mP cI) lvN)⟩
theorem yZX{α:Type}:yJU.Eq (α:=α) [] Tryz.f88 [1,0,1,0] .no (yMw):=fun _ _ _=>by kernel_rfl
abbrev yIQ:=fw2 88 (caC cdR (caC cI caN)) cI
abbrev yWp(F0:LF2 yJT yN1 yN2 (Int))(x0:List (List V))(x1:Int):Option Int:=
 F0 (x0,x1,0,()) (fun q1=>
 some (-1)) (fun q2=>
 some q2.1)
theorem xEy(F0):yIQ.Eq [] (.two .no (.two (.two .no (.one (.lp (yJU.s F0)))) .no)) (yWp F0):=fun _=>by kernel_rfl
def yJy(L:Nat):yIQ.T:=yWp (yAf (yMw) L)
theorem yX1{α:Type}(L:Nat):LO Tryz.f88 [1,0,1,0] (yJU.s (α:=α) (yAf (yMw) L)):=yJU.k (yZX) tN (lN _) (by kernel_rfl) L
theorem xEx(L:Nat):yIQ.C (yJy L):=yIQ.c (xEy (yAf (yMw) L)) tN Tryz.func88 (by kernel_rfl) (lS (lN _) (lS (lS (lN _) (lB (lL (yX1 L)))) (lN _)))
set_option maxRecDepth 100000
set_option maxHeartbeats 16000000
abbrev yFK:=fw2 89 (caC cdR (caC cI caN)) cdR
abbrev yTs(x0:List (List V))(x1:Int):Option (List (List V)):=
 letI qb:=x0.take x1.toNat
 letI qd:=0+(qb.length)
 letI qa:=(x0.drop ((w64 (x1+1)).toNat)).take (x0.length-((w64 (x1+1)).toNat))
 letI qc:=qd+(qa.length)
 gd (decide (0<=x1))<|
 gd (decide (x1<=(x0.length:Int)))<|
 gd (x0.all fun r=>Nat.beq r.length 2)<|
 gd (qb.all fun r=>Nat.beq r.length 2)<|
 gM qd 24<|
 gd (decide (0<=w64 (x1+1)))<|
 gd (decide (w64 (x1+1)<=(x0.length:Int)))<|
 gd (x0.all fun r=>Nat.beq r.length 2)<|
 gd (qa.all fun r=>Nat.beq r.length 2)<|
 gd (Nat.beq (0+qd) (qb.length))<|
 gM qc 24<|
 gF (qb++qa) (0+qc)<|
 some ((qb++qa).take qc)
theorem xBK:yFK.Eq [] .no (yTs):=fun _=>by kernel_rfl
def ySO(L:Nat):yFK.T:=yTs
theorem xBJ(L:Nat):yFK.C (ySO L):=yFK.c (xBK) tN Tryz.func89 (by kernel_rfl) (lN _)
abbrev yJR:=(List (List V))×Int×(List (List V))×Bool×Int×Unit
abbrev yN0:=Int×(List (List V))×Bool×Unit
abbrev yMv{α:Type}(s:yJR)(kn:yJR->Option α)(k0:yN0->Option α):Option α:=
 letI qg:=s.2.1
 letI qe:=s.2.2.1
 letI qf:=qe++([[V.int .i64 qg]])
 letI qd:=s.2.2.2.2.1
 letI qc:=Nat.beq (0+qe.length) qe.length
 letI qb:=qe.length+1
 letI qa:= [[V.int .i64 (aI s.1 qd.toNat 0)]]
 bif decide (qd<(s.1.length:Int)) then
 gI s.1 kI qd<|
 bif(aI s.1 qd.toNat 0)==qg then
 gI s.1 kI qd<|
 bif decide (qg<aI s.1 qd.toNat 0) then
 gI s.1 kI qd<|
 gd qc<|
 gM qb 8<|
 gA (qe++qa) qb<|
 kn (s.1,qg,qe++qa,true,w64 (qd+1),())
 else
 gI s.1 kI qd<|
 gd qc<|
 gM qb 8<|
 gA (qe++qa) qb<|
 kn (s.1,qg,qe++qa,true,w64 (qd+1),())
 else
 gI s.1 kI qd<|
 bif decide (qg<aI s.1 qd.toNat 0) then
 bif !s.2.2.2.1 then
 gd qc<|
 gM qb 8<|
 gI s.1 kI qd<|
 gd (Nat.beq (0+qb) (qf.length))<|
 gM (qb+1) 8<|
 gA (qf++qa) (qb+1)<|
 kn (s.1,qg,qf++qa,true,w64 (qd+1),())
 else
 gI s.1 kI qd<|
 gd qc<|
 gM qb 8<|
 gA (qe++qa) qb<|
 kn (s.1,qg,qe++qa,s.2.2.2.1,w64 (qd+1),())
 else
 gI s.1 kI qd<|
 gd qc<|
 gM qb 8<|
 gA (qe++qa) qb<|
 kn (s.1,qg,qe++qa,s.2.2.2.1,w64 (qd+1),())
 else
 gA qe qe.length<|
 k0 (qg,qe,s.2.2.2.1,())
abbrev yJS:LW1 yJR yN0:=⟨(lvC 0 (mP cdR) (lvC 1 (mP cI) (lvC 5 (mA 1) (lvC 6 (mP cdB) (lvC 7 (mP cI) lvN))))),(.exit 0),(lvC 1 (mP cI) (lvC 5 (mA 1) (lvC 6 (mP cdB) lvN)))⟩
theorem yZW{α:Type}:yJS.Eq (α:=α) [] Tryz.f90 [1,1,1,0,1,0] .no (yMv):=fun _ _ _=>by kernel_rfl
abbrev yIP:=fw2 90 (caC cdR (caC cI caN)) cdR
abbrev yWo(F0:LF1 yJR yN0 (List (List V)))(x0:List (List V))(x1:Int):Option (List (List V)):=
 F0 (x0,x1,[],false,0,()) (fun q1=>
 bif !q1.2.2.1 then
 gd (Nat.beq (0+q1.2.1.length) q1.2.1.length)<|
 gM (q1.2.1.length+1) 8<|
 gF (q1.2.1++([[V.int .i64 q1.1]])) (0+(q1.2.1.length+1))<|
 some ((q1.2.1++([[V.int .i64 q1.1]])).take (q1.2.1.length+1))
 else
 gF q1.2.1 (0+q1.2.1.length)<|
 some (q1.2.1.take q1.2.1.length))
theorem xEv(F0):yIP.Eq [] (.two .no (.two .no (.two .no (.two (.two .no (.one (.lp (yJS.s F0)))) .no)))) (yWo F0):=fun _=>by kernel_rfl
def yVe(L:Nat):yIP.T:=yWo (yAb (yMv) L)
theorem yX0{α:Type}(L:Nat):LO Tryz.f90 [1,1,1,0,1,0] (yJS.s (α:=α) (yAb (yMv) L)):=yJS.k (yZW) tN (lN _) (by kernel_rfl) L
theorem xEu(L:Nat):yIP.C (yVe L):=yIP.c (xEv (yAb (yMv) L)) tN Tryz.func90 (by kernel_rfl) (lS (lN _) (lS (lN _) (lS (lN _) (lS (lS (lN _) (lB (lL (yX0 L)))) (lN _)))))
set_option maxRecDepth 100000
set_option maxHeartbeats 16000000
abbrev yRz:=Int×yAD×yAV×yAD×Unit
abbrev yRy:=Int×yAD×yAV×yAD×Bool×Unit
abbrev yLy{α:Type}(f1:yEU.T)(s:yRz)(k0:yRy->Option α):Option α:=
 letI qb:=s.2.2.2.1
 letI qa:=s.2.2.1
 yAB (f1 s.2.1) fun r1=>
 bif r1 !=0 then
 k0 (s.1,s.2.1,qa,qb,true,())
 else
 bif decide (s.1<0) then
 k0 (s.1,s.2.1,qa,qb,true,())
 else
 bif decide ((s.2.1.Keys.length:Int)<=s.1) then
 k0 (s.1,s.2.1,qa,qb,true,())
 else
 bif decide (qa.Kind<1) then
 k0 (s.1,s.2.1,qa,qb,true,())
 else
 k0 (s.1,s.2.1,qa,qb,decide (6<qa.Kind),())
abbrev yOS:LW1 yRz yRy:=⟨(lvC 1 (mP cI) (lvC 3 yAM (lvC 5 yKB (lvC 6 yAM lvN)))),.normal,(lvC 1 (mP cI) (lvC 3 yAM (lvC 5 yKB (lvC 6 yAM (lvC 38 (mP cdB) lvN)))))⟩
theorem xEk{α:Type}(f1):yOS.Ep (α:=α) [yEU.s f1] Tryz.f18 [1,0,0] .no (yLy f1):=fun _ _=>by kernel_rfl
theorem xCZ{α:Type}(L:Nat):PO Tryz.f18 [1,0,0] (yOS.s (α:=α) (yLy (yDr L))):=yOS.kp (xEk (yDr L)) (tC (yWi L).ent tN) (lN _) (by kernel_rfl)
abbrev yR2:=Int×yAD×yAV×yAD×Bool×Unit
abbrev yR0:=Int×yAD×yAV×yAD×Unit
abbrev yR1:=yAD×ByteArray×Int×Unit
abbrev yJt{α:Type}(s:yR2)(k0:yR0->Option α)(k1:yR1->Option α):Option α:=
 bif s.2.2.2.2.1 then
 k1 (s.2.1,noS,2,())
 else
 k0 (s.1,s.2.1,s.2.2.1,s.2.2.2.1,())
abbrev yOT:LW2 yR2 yR0 yR1:=⟨(lvC 1 (mP cI) (lvC 3 yAM (lvC 5 yKB (lvC 6 yAM (lvC 38 (mP cdB) lvN))))),.normal,(lvC 1 (mP cI) (lvC 3 yAM (lvC 5 yKB (lvC 6 yAM lvN)))),.ret,(lvC 6 yAM (lvC 7 (mP cdS) (lvC 8 (mP cI) lvN)))⟩
theorem xEl{α:Type}:yOT.Ep (α:=α) [] Tryz.f18 [1,0,1] .no (yJt):=fun _ _=>by kernel_rfl
theorem xCa{α:Type}(L:Nat):PO Tryz.f18 [1,0,1] (yOT.s (α:=α) (yJt)):=yOT.kp (xEl) tN (lN _) (by kernel_rfl)
abbrev yR4:=Int×yAD×yAV×yAD×Unit
abbrev yR3:=Int×yAD×yAV×yAD×Bool×Unit
abbrev yJu{α:Type}(s:yR4)(k0:yR3->Option α):Option α:=
 bif s.2.2.1.Kind==2 then
 k0 (s.1,s.2.1,s.2.2.1,s.2.2.2.1,true,())
 else
 k0 (s.1,s.2.1,s.2.2.1,s.2.2.2.1,s.2.2.1.Kind==3,())
abbrev yOU:LW1 yR4 yR3:=⟨(lvC 1 (mP cI) (lvC 3 yAM (lvC 5 yKB (lvC 6 yAM lvN)))),.normal,(lvC 1 (mP cI) (lvC 3 yAM (lvC 5 yKB (lvC 6 yAM (lvC 9 (mP cdB) lvN)))))⟩
theorem xEm{α:Type}:yOU.Ep (α:=α) [] Tryz.f18 [1,1,0] .no (yJu):=fun _ _=>by kernel_rfl
theorem xCb{α:Type}(L:Nat):PO Tryz.f18 [1,1,0] (yOU.s (α:=α) (yJu)):=yOU.kp (xEm) tN (lN _) (by kernel_rfl)
abbrev yR6:=Int×yAD×yAV×yAD×Bool×Unit
abbrev yR5:=Int×yAD×yAV×yAD×Bool×Bool×Unit
abbrev yGF{α:Type}(f1:yC9.T)(s:yR6)(k0:yR5->Option α):Option α:=
 letI qe:=s.2.1
 letI qd:=s.2.2.2.1
 letI qc:=68719476736<=qe.Next
 letI qb:=s.2.2.1
 letI qa:=s.2.2.2.2.1
 bif qa then
 bif decide (512<(qb.B.size:Int)) then
 k0 (s.1,qe,qb,qd,qa,true,())
 else
 bif qb.Kind==5 then
 yAB (f1 qe qb.Key) fun r1=>
 bif !r1 then
 k0 (s.1,qe,qb,qd,qa,true,())
 else
 bif qb.Kind==6 then
 k0 (s.1,qe,qb,qd,qa,decide qc,())
 else
 k0 (s.1,qe,qb,qd,qa,false,())
 else
 bif qb.Kind==6 then
 k0 (s.1,qe,qb,qd,qa,decide qc,())
 else
 k0 (s.1,qe,qb,qd,qa,false,())
 else
 bif qb.Kind==5 then
 yAB (f1 qe qb.Key) fun r2=>
 bif !r2 then
 k0 (s.1,qe,qb,qd,qa,true,())
 else
 bif qb.Kind==6 then
 k0 (s.1,qe,qb,qd,qa,decide qc,())
 else
 k0 (s.1,qe,qb,qd,qa,false,())
 else
 bif qb.Kind==6 then
 k0 (s.1,qe,qb,qd,qa,decide qc,())
 else
 k0 (s.1,qe,qb,qd,qa,false,())
abbrev yOV:LW1 yR6 yR5:=⟨(lvC 1 (mP cI) (lvC 3 yAM (lvC 5 yKB (lvC 6 yAM (lvC 9 (mP cdB) lvN))))),.normal,(lvC 1 (mP cI) (lvC 3 yAM (lvC 5 yKB (lvC 6 yAM (lvC 9 (mP cdB) (lvC 76 (mP cdB) lvN))))))⟩
theorem xEn{α:Type}(f1):yOV.Ep (α:=α) [yC9.s f1] Tryz.f18 [1,1,1,0,0] .no (yGF f1):=fun _ _=>by kernel_rfl
theorem xCc{α:Type}(L:Nat):PO Tryz.f18 [1,1,1,0,0] (yOV.s (α:=α) (yGF (yBk L))):=yOV.kp (xEn (yBk L)) (tC (ySM L).ent tN) (lN _) (by kernel_rfl)
abbrev yR9:=Int×yAD×yAV×yAD×Bool×Bool×Unit
abbrev yR7:=Int×yAD×yAV×yAD×Bool×Unit
abbrev yR8:=yAD×ByteArray×Int×Unit
abbrev yJv{α:Type}(s:yR9)(k0:yR7->Option α)(k1:yR8->Option α):Option α:=
 bif s.2.2.2.2.2.1 then
 k1 (s.2.1,noS,2,())
 else
 k0 (s.1,s.2.1,s.2.2.1,s.2.2.2.1,s.2.2.2.2.1,())
abbrev yOW:LW2 yR9 yR7 yR8:=⟨(lvC 1 (mP cI) (lvC 3 yAM (lvC 5 yKB (lvC 6 yAM (lvC 9 (mP cdB) (lvC 76 (mP cdB) lvN)))))),.normal,(lvC 1 (mP cI) (lvC 3 yAM (lvC 5 yKB (lvC 6 yAM (lvC 9 (mP cdB) lvN))))),.ret,(lvC 6 yAM (lvC 7 (mP cdS) (lvC 8 (mP cI) lvN)))⟩
theorem xEo{α:Type}:yOW.Ep (α:=α) [] Tryz.f18 [1,1,1,0,1] .no (yJv):=fun _ _=>by kernel_rfl
theorem xCd{α:Type}(L:Nat):PO Tryz.f18 [1,1,1,0,1] (yOW.s (α:=α) (yJv)):=yOW.kp (xEo) tN (lN _) (by kernel_rfl)
abbrev ySC:=Int×yAD×yAV×yAD×Bool×Unit
abbrev ySA:=Int×yAD×yAV×yAD×Bool×Unit
abbrev ySB:=yAD×ByteArray×Int×Unit
abbrev yJw{α:Type}(f1:yGe.T)(s:ySC)(k0:ySA->Option α)(k1:ySB->Option α):Option α:=
 bif s.2.2.1.Kind !=6 then
 gI s.2.1.Keys kI s.1<|
 yAB (f1 s.2.1 ([[V.int .i64 (aI s.2.1.Keys s.1.toNat 0)]])) fun r1=>
 bif r1 then
 k1 (s.2.1,noS,61,())
 else
 k0 (s.1,s.2.1,s.2.2.1,s.2.2.2.1,s.2.2.2.2.1,())
 else
 k0 (s.1,s.2.1,s.2.2.1,s.2.2.2.1,s.2.2.2.2.1,())
abbrev yOX:LW2 ySC ySA ySB:=⟨(lvC 1 (mP cI) (lvC 3 yAM (lvC 5 yKB (lvC 6 yAM (lvC 9 (mP cdB) lvN))))),.normal,(lvC 1 (mP cI) (lvC 3 yAM (lvC 5 yKB (lvC 6 yAM (lvC 9 (mP cdB) lvN))))),.ret,(lvC 6 yAM (lvC 7 (mP cdS) (lvC 8 (mP cI) lvN)))⟩
theorem xEp{α:Type}(f1):yOX.Ep (α:=α) [yGe.s f1] Tryz.f18 [1,1,1,1,0] .no (yJw f1):=fun _ _=>by kernel_rfl
theorem xCe{α:Type}(L:Nat):PO Tryz.f18 [1,1,1,1,0] (yOX.s (α:=α) (yJw (yHd L))):=yOX.kp (xEp (yHd L)) (tC (xCj L).ent tN) (lN _) (by kernel_rfl)
abbrev ySE:=Int×yAD×yAV×yAD×Bool×Unit
abbrev ySD:=Int×yAD×yAV×yAD×Bool×Unit
abbrev yGG{α:Type}(s:ySE)(k0:ySD->Option α):Option α:=
 letI qc:=s.2.2.2.1
 letI qa:=s.2.2.1
 letI qb:=(s.2.1.S.length:Int)<=qa.Sector
 bif s.2.2.2.2.1 then
 bif decide (qa.Sector<0) then
 k0 (s.1,s.2.1,qa,qc,true,())
 else
 k0 (s.1,s.2.1,qa,qc,decide qb,())
 else
 bif qa.Kind==1 then
 bif decide (qa.Sector<0) then
 k0 (s.1,s.2.1,qa,qc,true,())
 else
 k0 (s.1,s.2.1,qa,qc,decide qb,())
 else
 k0 (s.1,s.2.1,qa,qc,false,())
abbrev yOY:LW1 ySE ySD:=⟨(lvC 1 (mP cI) (lvC 3 yAM (lvC 5 yKB (lvC 6 yAM (lvC 9 (mP cdB) lvN))))),.normal,(lvC 1 (mP cI) (lvC 3 yAM (lvC 5 yKB (lvC 6 yAM (lvC 110 (mP cdB) lvN)))))⟩
theorem xEq{α:Type}:yOY.Ep (α:=α) [] Tryz.f18 [1,1,1,1,1,0,0] .no (yGG):=fun _ _=>by kernel_rfl
theorem xCf{α:Type}(L:Nat):PO Tryz.f18 [1,1,1,1,1,0,0] (yOY.s (α:=α) (yGG)):=yOY.kp (xEq) tN (lN _) (by kernel_rfl)
abbrev ySH:=Int×yAD×yAV×yAD×Bool×Unit
abbrev ySF:=Int×yAD×yAV×yAD×Unit
abbrev ySG:=yAD×ByteArray×Int×Unit
abbrev yJx{α:Type}(s:ySH)(k0:ySF->Option α)(k1:ySG->Option α):Option α:=
 bif s.2.2.2.2.1 then
 k1 (s.2.1,noS,60,())
 else
 k0 (s.1,s.2.1,s.2.2.1,s.2.2.2.1,())
abbrev yOZ:LW2 ySH ySF ySG:=⟨(lvC 1 (mP cI) (lvC 3 yAM (lvC 5 yKB (lvC 6 yAM (lvC 110 (mP cdB) lvN))))),.normal,(lvC 1 (mP cI) (lvC 3 yAM (lvC 5 yKB (lvC 6 yAM lvN)))),.ret,(lvC 6 yAM (lvC 7 (mP cdS) (lvC 8 (mP cI) lvN)))⟩
theorem xEr{α:Type}:yOZ.Ep (α:=α) [] Tryz.f18 [1,1,1,1,1,0,1] .no (yJx):=fun _ _=>by kernel_rfl
theorem xCg{α:Type}(L:Nat):PO Tryz.f18 [1,1,1,1,1,0,1] (yOZ.s (α:=α) (yJx)):=yOZ.kp (xEr) tN (lN _) (by kernel_rfl)
abbrev ySJ:=Int×yAD×yAV×yAD×Unit
abbrev ySI:=Int×yAV×yAD×((List (List V))×(List (List V))×(List (List V))×Int×(List (List V))×Unit)×Unit
abbrev yLz{α:Type}(f1:yGg.T)(s:ySJ)(k0:ySI->Option α):Option α:=
 yAB (f1 s.2.1) fun r1=>
 gW r1.1 r1.1.length<|
 gW r1.2.1 r1.2.1.length<|
 gW r1.2.2.1 r1.2.2.1.length<|
 gF r1.2.2.2.2.1 (0+r1.2.2.2.2.1.length)<|
 k0 (s.1,s.2.2.1,s.2.2.2.1,(r1.1,r1.2.1,r1.2.2.1,r1.2.2.2.1,r1.2.2.2.2.1.take r1.2.2.2.2.1.length,()),())
abbrev yOa:LW1 ySJ ySI:=⟨(lvC 1 (mP cI) (lvC 3 yAM (lvC 5 yKB (lvC 6 yAM lvN)))),.normal,(lvC 1 (mP cI) (lvC 5 yKB (lvC 6 yAM (lvC 10 (mO (zW 1 (zW 1 (zW 1 (zP cI (zP cdR zN))))) 5) lvN))))⟩
theorem xEs{α:Type}(f1):yOa.Ep (α:=α) [yGg.s f1] Tryz.f18 [1,1,1,1,1,1,0] .no (yLz f1):=fun _ _=>by kernel_rfl
theorem xCh{α:Type}(L:Nat):PO Tryz.f18 [1,1,1,1,1,1,0] (yOa.s (α:=α) (yLz (yFx L))):=yOa.kp (xEs (yFx L)) (tC (xCn L).ent tN) (lN _) (by kernel_rfl)
abbrev ySL:=Int×yAV×yAD×((List (List V))×(List (List V))×(List (List V))×Int×(List (List V))×Unit)×(List (List V))×Unit
abbrev ySK:=Int×yAV×yAD×((List (List V))×(List (List V))×(List (List V))×Int×(List (List V))×Unit)×(List (List V))×Int×Unit
abbrev yL0{α:Type}(f1:yIQ.T)(s:ySL)(k0:ySK->Option α):Option α:=
 yAB (f1 s.2.2.2.2.1 s.2.1.Sector) fun r1=>
 gW s.2.2.2.1.1 s.2.2.2.1.1.length<|
 gW s.2.2.2.1.2.1 s.2.2.2.1.2.1.length<|
 gW s.2.2.2.1.2.2.1 s.2.2.2.1.2.2.1.length<|
 k0 (s.1,s.2.1,s.2.2.1,(s.2.2.2.1.1,s.2.2.2.1.2.1,s.2.2.2.1.2.2.1,s.2.2.2.1.2.2.2.1,s.2.2.2.1.2.2.2.2.1,()),s.2.2.2.2.1,r1,())
abbrev yOb:LW1 ySL ySK:=⟨(lvC 1 (mP cI) (lvC 5 yKB (lvC 6 yAM (lvC 10 (mO (zW 1 (zW 1 (zW 1 (zP cI (zP cdR zN))))) 5) (lvC 11 (mP cdR) lvN))))),.normal,(lvC 1 (mP cI) (lvC 5 yKB (lvC 6 yAM (lvC 10 (mO (zW 1 (zW 1 (zW 1 (zP cI (zP cdR zN))))) 5) (lvC 11 (mP cdR) (lvC 12 (mP cI) lvN))))))⟩
theorem xEt{α:Type}(f1):yOb.Ep (α:=α) [yIQ.s f1] Tryz.f18 [1,1,1,1,1,1,1,1,0] .no (yL0 f1):=fun _ _=>by kernel_rfl
theorem xCi{α:Type}(L:Nat):PO Tryz.f18 [1,1,1,1,1,1,1,1,0] (yOb.s (α:=α) (yL0 (yJy L))):=yOb.kp (xEt (yJy L)) (tC (xEx L).ent tN) (lN _) (by kernel_rfl)
abbrev yKO:=fw3 18 (caC yNE (caC cI (caC yKq caN))) (cdT (caC yNE (caC cdS (caC cI caN))))
abbrev yRC(f1:yFK.T)(f2:yIP.T)(f3:yDP.T)(P0:LF1 yRz yRy (yAD×ByteArray×Int×Unit))(P1:LF2 yR2 yR0 yR1 (yAD×ByteArray×Int×Unit))(P2:LF1 yR4 yR3 (yAD×ByteArray×Int×Unit))(P3:LF1 yR6 yR5 (yAD×ByteArray×Int×Unit))(P4:LF2 yR9 yR7 yR8 (yAD×ByteArray×Int×Unit))(P5:LF2 ySC ySA ySB (yAD×ByteArray×Int×Unit))(P6:LF1 ySE ySD (yAD×ByteArray×Int×Unit))(P7:LF2 ySH ySF ySG (yAD×ByteArray×Int×Unit))(P8:LF1 ySJ ySI (yAD×ByteArray×Int×Unit))(P9:LF1 ySL ySK (yAD×ByteArray×Int×Unit))(x0:yAD)(x1:Int)(x2:yAV):Option (yAD×ByteArray×Int×Unit):=
 P0 (x1,x0,x2,yAD.z,()) (fun q1=>
 P1 (q1.1,q1.2.1,q1.2.2.1,q1.2.2.2.1,q1.2.2.2.2.1,()) (fun q2=>
 P2 (q2.1,q2.2.1,q2.2.2.1,q2.2.2.2.1,()) (fun q3=>
 P3 (q3.1,q3.2.1,q3.2.2.1,q3.2.2.2.1,q3.2.2.2.2.1,()) (fun q4=>
 P4 (q4.1,q4.2.1,q4.2.2.1,q4.2.2.2.1,q4.2.2.2.2.1,q4.2.2.2.2.2.1,()) (fun q5=>
 P5 (q5.1,q5.2.1,q5.2.2.1,q5.2.2.2.1,q5.2.2.2.2.1,()) (fun q6=>
 P6 (q6.1,q6.2.1,q6.2.2.1,q6.2.2.2.1,q6.2.2.2.2.1,()) (fun q7=>
 P7 (q7.1,q7.2.1,q7.2.2.1,q7.2.2.2.1,q7.2.2.2.2.1,()) (fun q8=>
 P8 (q8.1,q8.2.1,q8.2.2.1,q8.2.2.2.1,()) (fun q9=>
 letI qB:=q9.2.2.2.1.2.2.1
 letI qt:=q9.2.2.2.1.2.1
 gB q9.1 qt.length<|
 gL qt kL (0+q9.1.toNat) 0<|
 gW q9.2.2.2.1.1 q9.2.2.2.1.1.length<|
 gW qt qt.length<|
 gW qB qB.length<|
 P9 (q9.1,q9.2.1,q9.2.2.1,(q9.2.2.2.1.1,qt,qB,q9.2.2.2.1.2.2.2.1,q9.2.2.2.1.2.2.2.2.1,()),aR qt (0+q9.1.toNat) 0,()) (fun q10=>
 letI qx:=q10.2.1
 letI qr:=q10.2.2.2.2.2.1
 letI qp:=q10.2.2.2.1.2.2.2.2.1
 letI qo:=q10.2.2.2.1.2.2.2.1
 letI qk:=0+qx.Sector.toNat
 letI qh:=q10.2.2.2.2.1
 letI qy:=0<(qh.length:Int)
 letI qq:=0+(aI qh 0 0).toNat
 letI qd:=0+q10.1.toNat
 letI qA:=Nat.ble 0 qd
 letI qc:=q10.2.2.2.1.1
 letI ql:=0+qc.length
 letI qj:=qc.set qq ((qc.getD qq []).take 0++([V.str (aS qh 0 1)]++(qc.getD qq []).drop 1))
 letI qe:=qc.set qk ((qc.getD qk []).take 0++([V.str qx.B]++(qc.getD qk []).drop 1))
 letI qb:=q10.2.2.2.1.2.1
 letI qs:=decide (0+q10.1.toNat<qb.length)
 letI qm:=0+qb.length
 letI qi:=qb.getD qd []
 letI qz:=Nat.ble 1 qi.length
 letI qw:=qb.set qd (qi.take 0++([V.sl ([]) true]++qi.drop 1))
 letI qa:=q10.2.2.2.1.2.2.1
 letI qn:=0+qa.length
 letI qg:=(⟨qc.take qc.length,qb.take qb.length,qa.take qa.length,qo,qp⟩:yAD)
 letI qf:=qa.set qd ((qa.getD qd []).take 0++([V.int .i64 (w64 ((w64 (16*qo))+q10.1))]++(qa.getD qd []).drop 1))
 bif qx.Kind==1 then
 bif decide (0<=qr) then
 gI qh yCw.ks qr<|
 gF qc ql<|
 gF qb qm<|
 gF qa qn<|
 some (qg,aS qh qr.toNat 1,0,())
 else
 gB qx.Sector qc.length<|
 gL qc kS qk 0<|
 gF qc ql<|
 gF qb qm<|
 gF qa qn<|
 some (qg,aS qc qk 0,0,())
 else
 bif qx.Kind==2 then
 gB qx.Sector qc.length<|
 gd (decide (0+qx.Sector.toNat<qc.length))<|
 gd (Nat.ble 0 qk)<|
 gd (Nat.ble 1 (qc.getD qk []).length)<|
 bif decide (0<=qr) then
 yAB (f1 qh qr) fun r11=>
 letI qu:=qb.set qd (qi.take 0++([V.sl r11 false]++qi.drop 1))
 gB q10.1 qb.length<|
 gd qs<|
 gd qA<|
 gd qz<|
 gF qe ql<|
 gF qu qm<|
 gF qa qn<|
 some ((⟨qe.take qc.length,qu.take qb.length,qa.take qa.length,qo,qp⟩:yAD),noS,0,())
 else
 gF qe ql<|
 gF qb qm<|
 gF qa qn<|
 some ((⟨qe.take qc.length,qb.take qb.length,qa.take qa.length,qo,qp⟩:yAD),noS,0,())
 else
 bif qx.Kind==3 then
 gd (decide (0<=qr))<|
 gI qh yCw.ks qr<|
 none
 else
 bif qx.Kind==4 then
 bif decide qy then
 gd (decide qy)<|
 gd (rowIs yCw.ks qh 0)<|
 gd (decide qy)<|
 gd (rowIs yCw.ks qh 0)<|
 gB (aI qh 0 0) qc.length<|
 gd (decide (0+(aI qh 0 0).toNat<qc.length))<|
 gd (Nat.ble 0 qq)<|
 gd (Nat.ble 1 (qc.getD qq []).length)<|
 yAB (f1 qh 0) fun r12=>
 letI qv:=qb.set qd (qi.take 0++([V.sl r12 false]++qi.drop 1))
 gB q10.1 qb.length<|
 gd qs<|
 gd qA<|
 gd qz<|
 gF qj ql<|
 gF qv qm<|
 gF qa qn<|
 some ((⟨qj.take qc.length,qv.take qb.length,qa.take qa.length,qo,qp⟩:yAD),noS,0,())
 else
 gF qc ql<|
 gF qb qm<|
 gF qa qn<|
 some (qg,noS,0,())
 else
 bif qx.Kind==5 then
 yAB (f2 qp qx.Key) fun r13=>
 gF qc ql<|
 gF qb qm<|
 gF qa qn<|
 some ((⟨qc.take qc.length,qb.take qb.length,qa.take qa.length,qo,r13⟩:yAD),noS,0,())
 else
 bif qx.Kind==6 then
 gB q10.1 qa.length<|
 gd (decide (0+q10.1.toNat<qa.length))<|
 gd qA<|
 gd (Nat.ble 1 (qa.getD qd []).length)<|
 gB q10.1 qb.length<|
 gd qs<|
 gd qA<|
 gd qz<|
 gB q10.1 qa.length<|
 gL qf kI qd 0<|
 yAB (f3 ([]) 6 ([[V.int .i64 (aI qf qd 0)]])) fun r14=>
 gd (Nat.ble (0+r14.1.length) r14.1.length)<|
 gd ((bytesOf (r14.1.take r14.1.length)).isSome)<|
 gF qc ql<|
 gF qw qm<|
 gF qf qn<|
 some ((⟨qc.take qc.length,qw.take qb.length,qf.take qa.length,w64 (qo+1),qp⟩:yAD),yPv (r14.1.take r14.1.length),0,())
 else
 gF qc ql<|
 gF qb qm<|
 gF qa qn<|
 some (qg,noS,0,())))) (fun q15=>
 some (q15.1,q15.2.1,q15.2.2.1,())))) (fun q16=>
 some (q16.1,q16.2.1,q16.2.2.1,()))) (fun q17=>
 some (q17.1,q17.2.1,q17.2.2.1,()))))) (fun q18=>
 some (q18.1,q18.2.1,q18.2.2.1,())))
theorem xLn(f1 f2 f3 P0 P1 P2 P3 P4 P5 P6 P7 P8 P9):yKO.Eq [yFK.s f1,yIP.s f2,yDP.s f3] (.two .no (.two (.two (.pt (yOS.s P0)) (.pt (yOT.s P1))) (.two (.pt (yOU.s P2)) (.two (.two (.pt (yOV.s P3)) (.pt (yOW.s P4))) (.two (.pt (yOX.s P5)) (.two (.two (.pt (yOY.s P6)) (.pt (yOZ.s P7))) (.two (.pt (yOa.s P8)) (.two .no (.two (.pt (yOb.s P9)) .no))))))))) (yRC f1 f2 f3 P0 P1 P2 P3 P4 P5 P6 P7 P8 P9):=fun _=>by kernel_rfl
def yDV(L:Nat):yKO.T:=yRC (ySO L) (yVe L) (yCh L) (yLy (yDr L)) (yJt) (yJu) (yGF (yBk L)) (yJv) (yJw (yHd L)) (yGG) (yJx) (yLz (yFx L)) (yL0 (yJy L))
theorem xDc(L:Nat):yKO.C (yDV L):=yKO.c (xLn (ySO L) (yVe L) (yCh L) (yLy (yDr L)) (yJt) (yJu) (yGF (yBk L)) (yJv) (yJw (yHd L)) (yGG) (yJx) (yLz (yFx L)) (yL0 (yJy L))) (tC (xBJ L).ent (tC (xEu L).ent (tC (yRs L).ent tN))) Tryz.func18 (by kernel_rfl) (lS (lN _) (lS (lS (lP (xCZ L)) (lP (xCa L))) (lS (lP (xCb L)) (lS (lS (lP (xCc L)) (lP (xCd L))) (lS (lP (xCe L)) (lS (lS (lP (xCf L)) (lP (xCg L))) (lS (lP (xCh L)) (lS (lN _) (lS (lP (xCi L)) (lN _))))))))))
set_option maxRecDepth 100000
set_option maxHeartbeats 16000000
abbrev yP1:=ByteArray×Int×(List (List V))×Int×Unit
abbrev yNK:=(List (List V))×Unit
abbrev yTW:=(List (List V))×Int×Unit
abbrev yC4{α:Type}(f1:yGN.T)(s:yP1)(kn:yP1->Option α)(k0:yNK->Option α)(k1:yTW->Option α):Option α:=
 letI qa:=s.2.2.1
 bif decide (s.2.2.2.1<(s.1.size:Int)) then
 yAB (f1 s.1 s.2.2.2.1 s.2.1) fun r1=>
 bif r1.2.1 !=0 then
 k1 ([],r1.2.1,())
 else
 gd (Nat.beq (0+qa.length) qa.length)<|
 gM (qa.length+1) 8<|
 gA (qa++([[V.int .i64 r1.1]])) (qa.length+1)<|
 kn (s.1,s.2.1,qa++([[V.int .i64 r1.1]]),w64 (s.2.2.2.1+s.2.1),())
 else
 gA qa qa.length<|
 k0 (qa,())
abbrev yP2:LW2 yP1 yNK yTW:=⟨(lvC 0 (mP cdS) (lvC 1 (mP cI) (lvC 4 (mA 1) (lvC 6 (mP cI) lvN)))),(.exit 1),(lvC 4 (mA 1) lvN),.ret,(lvC 4 (mP cdR) (lvC 5 (mP cI) lvN))⟩
theorem xGt{α:Type}(f1):yP2.Eq (α:=α) [yGN.s f1] Tryz.f193 [1,1,0,1,0] .no (yC4 f1):=fun _ _ _=>by kernel_rfl
abbrev yQ4:=fw2 193 (caC cdS (caC cI caN)) (cdT (caC cdR (caC cI caN)))
abbrev xAy(f1:yDC.T)(F0:LF2 yP1 yNK yTW ((List (List V))×Int×Unit))(x0:ByteArray)(x1:Int):Option ((List (List V))×Int×Unit):=
 yAB (f1 x1) fun r1=>
 bif !r1 then
 some ([],2,())
 else
 gd (!(decide (x1=0)))<|
 bif((x0.size:Int).tmod x1) !=0 then
 some ([],10,())
 else
 F0 (x0,x1,[],0,()) (fun q2=>
 gF q2.1 (0+q2.1.length)<|
 some (q2.1.take q2.1.length,0,())) (fun q3=>
 some (q3.1,q3.2.1,()))
theorem xNU(f1 F0):yQ4.Eq [yDC.s f1] (.two .no (.two .no (.two (.two .no (.one (.lp (yP2.s F0)))) .no))) (xAy f1 F0):=fun _=>by kernel_rfl
def xAx(L:Nat):yQ4.T:=xAy (yEO L) (yAf (yC4 (yCC L)) L)
theorem xET{α:Type}(L:Nat):LO Tryz.f193 [1,1,0,1,0] (yP2.s (α:=α) (yAf (yC4 (yCC L)) L)):=yP2.k (xGt (yCC L)) (tC (yWW L).ent tN) (lN _) (by kernel_rfl) L
theorem xNT(L:Nat):yQ4.C (xAx L):=yQ4.c (xNU (yEO L) (yAf (yC4 (yCC L)) L)) (tC (yTX L).ent tN) Tryz.func193 (by kernel_rfl) (lS (lN _) (lS (lN _) (lS (lS (lN _) (lB (lL (xET L)))) (lN _))))
abbrev yMT:=fw1 194 (caC yBQ caN) yCf
abbrev yVz(x0:yAJ):Option yAG:=
 letI qb:=yEr true x0.Slots 0
 letI qa:=(yEr false qb 16).toNat
 letI qc:=List.replicate qa [V.int .i64 0,V.int .i64 0]
 gd (decide (0<=yEr false qb 16))<|
 gd (decide (yEr false qb 16<=yEr false qb 16))<|
 gd (decide (16*qa<=281474976710656))<|
 gd (decide (yEr false qb 16<=9223372036854775807))<|
 gF qc (0+qa)<|
 some (⟨qc.take qa,[],[]⟩:yAG)
theorem xJ9:yMT.Eq [] .no (yVz):=fun _=>by kernel_rfl
def yRR(L:Nat):yMT.T:=yVz
theorem xJ8(L:Nat):yMT.C (yRR L):=yMT.c (xJ9) tN Tryz.func194 (by kernel_rfl) (lN _)
abbrev yDm:=fw1 257 (caC (cdP xB8) caN) cdB
abbrev yMS(f1:yCy.T)(x0:yA5):Option Bool:=
 yAB (f1 x0.Geo) fun r1=>
 some r1
theorem yYQ(f1):yDm.Eq [yCy.s f1] .no (yMS f1):=fun _=>by kernel_rfl
def yHm(L:Nat):yDm.T:=yMS (yFD L)
theorem yYP(L:Nat):yDm.C (yHm L):=yDm.c (yYQ (yFD L)) (tC (yO8 L).ent tN) Tryz.func257 (by kernel_rfl) (lN _)
end Go.Proofs.YtakljpcmbpaeaaaGreat

namespace Go.Proofs.YtakljpcmbpaeaaaGreat
set_option maxHeartbeats 16000000
set_option maxRecDepth 100000
open Go.RowKit
abbrev yKD:=fw5 111 (caC yBQ (caC yGv (caC yCf (caC cI (caC cdS caN))))) (cdT (caC yGv (caC yCf (caC cI (caC cdB (caC cI caN))))))
abbrev yFr(f1:yFm.T)(f2:yFG.T)(f3:yGX.T)(f4:yOp.T)(f5:yHq.T)(f6:yLf.T)(f7:yHp.T)(f8:yC1.T)(f9:yFB.T)(f10:yGU.T)(f11:yGV.T)(f12:yBl.T)(f13:yEi.T)(x0:yAJ)(x1:yAH)(x2:yAG)(x3:Int)(x4:ByteArray):Option (yAH×yAG×Int×Bool×Int×Unit):=
 letI qx:=(⟨x1.T⟩:yAR)
 letI qw:=x1.At+1
 letI qj:=f2 (⟨x1,x0,x2,x3,false⟩:yAQ)
 letI qg:=f8 (⟨(⟨x1.Own.Inst,x1.Own.Mbal,x1.Own.Bal,x1.Own.Val,x1.T.Seen,false,false⟩:yAP)⟩:yAR) ([[V.int .i64 x1.Own.Mbal]])
 letI qd:=(⟨x1.Node,x1.Cmd,0,0,yAp.z,(⟨0,0,0,noS,x1.T.Seen,false,false⟩:yAP)⟩:yAH)
 letI qc:=f9 x0 x1.Node (w64 (x1.I+1))
 bif decide (x1.At<0) then
 some (x1,x2,x3,false,0,())
 else
 bif decide (7<=w64 x1.At) then
 some (x1,x2,x3,false,0,())
 else
 bif decide (x1.At=0) then
 yAB (f1 x0 x2 x3 x4) fun r1=>
 bif r1.2.2.2.2.1 !=0 then
 bif r1.2.2.2.2.1 !=0 then
 some (x1,x2,x3,false,r1.2.2.2.2.1,())
 else
 some (x1,x2,x3,false,0,())
 else
 bif r1.2.2.2.1 then
 yAB qj fun r2=>
 bif r2.2.1 then
 yAB (f3 r1.2.2.1 r2.1.By r2.1.Serial) fun r3=>
 some (qd,r1.1,w64 (x3+1),r3,0,())
 else
 some (qd,r1.1,w64 (x3+1),false,0,())
 else
 yAB qj fun r4=>
 bif r4.2.1 then
 bif r4.1.Kind==0 then
 yAB (f4 x0) fun r5=>
 bif decide (w64 (x0.Log-r5)<=x3) then
 some (x1,x2,x3,false,150,())
 else
 some ({x1 with At:=1 },x2,x3,false,0,())
 else
 bif r4.1.Kind==2 then
 yAB (f4 x0) fun r6=>
 bif decide (w64 (x0.Log-r6)<=x3) then
 some (x1,x2,x3,false,150,())
 else
 some ({x1 with At:=1 },x2,x3,false,0,())
 else
 some ({x1 with At:=1 },x2,x3,false,0,())
 else
 some ({x1 with At:=1 },x2,x3,false,0,())
 else
 bif decide (x1.At=1) then
 yAB (f5 x4) fun r7=>
 bif r7.2.1 !=0 then
 bif r7.2.1 !=0 then
 some (x1,x2,x3,false,r7.2.1,())
 else
 some (x1,x2,x3,false,0,())
 else
 yAB (f6 r7.1 x3) fun r8=>
 yAB (f7 x1.Node ([[V.int .i64 r8.Mbal],[V.int .i64 x1.T.Seen]])) fun r9=>
 bif r9==0 then
 some (x1,x2,x3,false,150,())
 else
 some ({x1 with At:=2,Own:={r8 with Mbal:=r9 }},x2,x3,false,0,())
 else
 bif decide (x1.At=2) then
 yAB qg fun r10=>
 yAB (f9 x0 x1.Node 0) fun r11=>
 bif decide (r11<x0.Nodes) then
 some ({x1 with At:=IntKind.i8.wrap qw,I:=r11,T:=r10.2.Tally },x2,x3,false,0,())
 else
 yAB (f10 r10.2.Tally) fun r12=>
 bif r12 then
 some ((⟨x1.Node,x1.Cmd,0,0,yAp.z,(⟨0,0,0,noS,r10.2.Tally.Seen,false,false⟩:yAP)⟩:yAH),x2,x3,false,0,())
 else
 bif(IntKind.i8.wrap qw)==5 then
 some ({x1 with At:=6,I:=r11,T:=r10.2.Tally },x2,x3,false,0,())
 else
 yAB (f11 r10.2.Tally x1.Cmd) fun r13=>
 some ((⟨x1.Node,x1.Cmd,4,r11,{x1.Own with Bal:=x1.Own.Mbal,Val:=r13 },r10.2.Tally⟩:yAH),x2,x3,false,0,())
 else
 bif decide (x1.At=3) then
 yAB (f5 x4) fun r14=>
 letI qk:=r14.1
 bif r14.2.1 !=0 then
 bif r14.2.1 !=0 then
 some (x1,x2,x3,false,r14.2.1,())
 else
 some (x1,x2,x3,false,0,())
 else
 yAB (f8 qx ([[V.int .i64 qk.Mbal]])) fun r15=>
 letI qh:=r15.2
 letI qu:={qh.Tally with Lost:=true }
 letI qs:={qh.Tally with Ahead:=true }
 letI qo:={qh.Tally with Best:=qk.Bal,Val:=qk.Val,Lost:=true }
 letI qe:=qh.Tally.Mbal<qk.Mbal
 letI qq:={qh.Tally with Lost:=decide qe }
 letI qm:={qh.Tally with Best:=qk.Bal,Val:=qk.Val,Lost:=decide qe }
 letI qa:=(⟨x1.Node,x1.Cmd,0,0,yAp.z,(⟨0,0,0,noS,qh.Tally.Seen,false,false⟩:yAP)⟩:yAH)
 bif decide (qh.Tally.Inst<qk.Inst) then
 yAB qc fun r16=>
 bif decide (r16<x0.Nodes) then
 some ({x1 with I:=r16,T:={qh.Tally with Ahead:=true }},x2,x3,false,0,())
 else
 yAB (f10 qs) fun r17=>
 bif r17 then
 some (qa,x2,x3,false,0,())
 else
 bif x1.At==5 then
 some ({x1 with At:=6,I:=r16,T:={qh.Tally with Ahead:=true }},x2,x3,false,0,())
 else
 yAB (f11 qs x1.Cmd) fun r18=>
 some ((⟨x1.Node,x1.Cmd,4,r16,{x1.Own with Bal:=x1.Own.Mbal,Val:=r18 },{qh.Tally with Ahead:=true }⟩:yAH),x2,x3,false,0,())
 else
 bif qk.Inst==qh.Tally.Inst then
 bif qh.Tally.Lost then
 bif decide (qh.Tally.Best<qk.Bal) then
 yAB qc fun r19=>
 bif decide (r19<x0.Nodes) then
 some ({x1 with I:=r19,T:={qh.Tally with Best:=qk.Bal,Val:=qk.Val,Lost:=true }},x2,x3,false,0,())
 else
 yAB (f10 qo) fun r20=>
 bif r20 then
 some (qa,x2,x3,false,0,())
 else
 bif x1.At==5 then
 some ({x1 with At:=6,I:=r19,T:={qh.Tally with Best:=qk.Bal,Val:=qk.Val,Lost:=true }},x2,x3,false,0,())
 else
 yAB (f11 qo x1.Cmd) fun r21=>
 some ((⟨x1.Node,x1.Cmd,4,r19,{x1.Own with Bal:=x1.Own.Mbal,Val:=r21 },{qh.Tally with Best:=qk.Bal,Val:=qk.Val,Lost:=true }⟩:yAH),x2,x3,false,0,())
 else
 yAB qc fun r22=>
 bif decide (r22<x0.Nodes) then
 some ({x1 with I:=r22,T:={qh.Tally with Lost:=true }},x2,x3,false,0,())
 else
 yAB (f10 qu) fun r23=>
 bif r23 then
 some (qa,x2,x3,false,0,())
 else
 bif x1.At==5 then
 some ({x1 with At:=6,I:=r22,T:={qh.Tally with Lost:=true }},x2,x3,false,0,())
 else
 yAB (f11 qu x1.Cmd) fun r24=>
 some ((⟨x1.Node,x1.Cmd,4,r22,{x1.Own with Bal:=x1.Own.Mbal,Val:=r24 },{qh.Tally with Lost:=true }⟩:yAH),x2,x3,false,0,())
 else
 bif decide (qh.Tally.Best<qk.Bal) then
 yAB qc fun r25=>
 bif decide (r25<x0.Nodes) then
 some ({x1 with I:=r25,T:={qh.Tally with Best:=qk.Bal,Val:=qk.Val,Lost:=decide qe }},x2,x3,false,0,())
 else
 yAB (f10 qm) fun r26=>
 bif r26 then
 some (qa,x2,x3,false,0,())
 else
 bif x1.At==5 then
 some ({x1 with At:=6,I:=r25,T:={qh.Tally with Best:=qk.Bal,Val:=qk.Val,Lost:=decide qe }},x2,x3,false,0,())
 else
 yAB (f11 qm x1.Cmd) fun r27=>
 some ((⟨x1.Node,x1.Cmd,4,r25,{x1.Own with Bal:=x1.Own.Mbal,Val:=r27 },{qh.Tally with Best:=qk.Bal,Val:=qk.Val,Lost:=decide qe }⟩:yAH),x2,x3,false,0,())
 else
 yAB qc fun r28=>
 bif decide (r28<x0.Nodes) then
 some ({x1 with I:=r28,T:={qh.Tally with Lost:=decide qe }},x2,x3,false,0,())
 else
 yAB (f10 qq) fun r29=>
 bif r29 then
 some (qa,x2,x3,false,0,())
 else
 bif x1.At==5 then
 some ({x1 with At:=6,I:=r28,T:={qh.Tally with Lost:=decide qe }},x2,x3,false,0,())
 else
 yAB (f11 qq x1.Cmd) fun r30=>
 some ((⟨x1.Node,x1.Cmd,4,r28,{x1.Own with Bal:=x1.Own.Mbal,Val:=r30 },{qh.Tally with Lost:=decide qe }⟩:yAH),x2,x3,false,0,())
 else
 yAB qc fun r31=>
 bif decide (r31<x0.Nodes) then
 some ({x1 with I:=r31,T:=qh.Tally },x2,x3,false,0,())
 else
 yAB (f10 qh.Tally) fun r32=>
 bif r32 then
 some (qa,x2,x3,false,0,())
 else
 bif x1.At==5 then
 some ({x1 with At:=6,I:=r31,T:=qh.Tally },x2,x3,false,0,())
 else
 yAB (f11 qh.Tally x1.Cmd) fun r33=>
 some ((⟨x1.Node,x1.Cmd,4,r31,{x1.Own with Bal:=x1.Own.Mbal,Val:=r33 },qh.Tally⟩:yAH),x2,x3,false,0,())
 else
 bif decide (x1.At=4) then
 yAB qg fun r34=>
 yAB (f9 x0 x1.Node 0) fun r35=>
 bif decide (r35<x0.Nodes) then
 some ({x1 with At:=IntKind.i8.wrap qw,I:=r35,T:=r34.2.Tally },x2,x3,false,0,())
 else
 yAB (f10 r34.2.Tally) fun r36=>
 bif r36 then
 some ((⟨x1.Node,x1.Cmd,0,0,yAp.z,(⟨0,0,0,noS,r34.2.Tally.Seen,false,false⟩:yAP)⟩:yAH),x2,x3,false,0,())
 else
 bif(IntKind.i8.wrap qw)==5 then
 some ({x1 with At:=6,I:=r35,T:=r34.2.Tally },x2,x3,false,0,())
 else
 yAB (f11 r34.2.Tally x1.Cmd) fun r37=>
 some ((⟨x1.Node,x1.Cmd,4,r35,{x1.Own with Bal:=x1.Own.Mbal,Val:=r37 },r34.2.Tally⟩:yAH),x2,x3,false,0,())
 else
 bif decide (x1.At=5) then
 yAB (f5 x4) fun r38=>
 letI ql:=r38.1
 bif r38.2.1 !=0 then
 bif r38.2.1 !=0 then
 some (x1,x2,x3,false,r38.2.1,())
 else
 some (x1,x2,x3,false,0,())
 else
 yAB (f8 qx ([[V.int .i64 ql.Mbal]])) fun r39=>
 letI qi:=r39.2
 letI qv:={qi.Tally with Lost:=true }
 letI qt:={qi.Tally with Ahead:=true }
 letI qp:={qi.Tally with Best:=ql.Bal,Val:=ql.Val,Lost:=true }
 letI qf:=qi.Tally.Mbal<ql.Mbal
 letI qr:={qi.Tally with Lost:=decide qf }
 letI qn:={qi.Tally with Best:=ql.Bal,Val:=ql.Val,Lost:=decide qf }
 letI qb:=(⟨x1.Node,x1.Cmd,0,0,yAp.z,(⟨0,0,0,noS,qi.Tally.Seen,false,false⟩:yAP)⟩:yAH)
 bif decide (qi.Tally.Inst<ql.Inst) then
 yAB qc fun r40=>
 bif decide (r40<x0.Nodes) then
 some ({x1 with I:=r40,T:={qi.Tally with Ahead:=true }},x2,x3,false,0,())
 else
 yAB (f10 qt) fun r41=>
 bif r41 then
 some (qb,x2,x3,false,0,())
 else
 bif x1.At==5 then
 some ({x1 with At:=6,I:=r40,T:={qi.Tally with Ahead:=true }},x2,x3,false,0,())
 else
 yAB (f11 qt x1.Cmd) fun r42=>
 some ((⟨x1.Node,x1.Cmd,4,r40,{x1.Own with Bal:=x1.Own.Mbal,Val:=r42 },{qi.Tally with Ahead:=true }⟩:yAH),x2,x3,false,0,())
 else
 bif ql.Inst==qi.Tally.Inst then
 bif qi.Tally.Lost then
 bif decide (qi.Tally.Best<ql.Bal) then
 yAB qc fun r43=>
 bif decide (r43<x0.Nodes) then
 some ({x1 with I:=r43,T:={qi.Tally with Best:=ql.Bal,Val:=ql.Val,Lost:=true }},x2,x3,false,0,())
 else
 yAB (f10 qp) fun r44=>
 bif r44 then
 some (qb,x2,x3,false,0,())
 else
 bif x1.At==5 then
 some ({x1 with At:=6,I:=r43,T:={qi.Tally with Best:=ql.Bal,Val:=ql.Val,Lost:=true }},x2,x3,false,0,())
 else
 yAB (f11 qp x1.Cmd) fun r45=>
 some ((⟨x1.Node,x1.Cmd,4,r43,{x1.Own with Bal:=x1.Own.Mbal,Val:=r45 },{qi.Tally with Best:=ql.Bal,Val:=ql.Val,Lost:=true }⟩:yAH),x2,x3,false,0,())
 else
 yAB qc fun r46=>
 bif decide (r46<x0.Nodes) then
 some ({x1 with I:=r46,T:={qi.Tally with Lost:=true }},x2,x3,false,0,())
 else
 yAB (f10 qv) fun r47=>
 bif r47 then
 some (qb,x2,x3,false,0,())
 else
 bif x1.At==5 then
 some ({x1 with At:=6,I:=r46,T:={qi.Tally with Lost:=true }},x2,x3,false,0,())
 else
 yAB (f11 qv x1.Cmd) fun r48=>
 some ((⟨x1.Node,x1.Cmd,4,r46,{x1.Own with Bal:=x1.Own.Mbal,Val:=r48 },{qi.Tally with Lost:=true }⟩:yAH),x2,x3,false,0,())
 else
 bif decide (qi.Tally.Best<ql.Bal) then
 yAB qc fun r49=>
 bif decide (r49<x0.Nodes) then
 some ({x1 with I:=r49,T:={qi.Tally with Best:=ql.Bal,Val:=ql.Val,Lost:=decide qf }},x2,x3,false,0,())
 else
 yAB (f10 qn) fun r50=>
 bif r50 then
 some (qb,x2,x3,false,0,())
 else
 bif x1.At==5 then
 some ({x1 with At:=6,I:=r49,T:={qi.Tally with Best:=ql.Bal,Val:=ql.Val,Lost:=decide qf }},x2,x3,false,0,())
 else
 yAB (f11 qn x1.Cmd) fun r51=>
 some ((⟨x1.Node,x1.Cmd,4,r49,{x1.Own with Bal:=x1.Own.Mbal,Val:=r51 },{qi.Tally with Best:=ql.Bal,Val:=ql.Val,Lost:=decide qf }⟩:yAH),x2,x3,false,0,())
 else
 yAB qc fun r52=>
 bif decide (r52<x0.Nodes) then
 some ({x1 with I:=r52,T:={qi.Tally with Lost:=decide qf }},x2,x3,false,0,())
 else
 yAB (f10 qr) fun r53=>
 bif r53 then
 some (qb,x2,x3,false,0,())
 else
 bif x1.At==5 then
 some ({x1 with At:=6,I:=r52,T:={qi.Tally with Lost:=decide qf }},x2,x3,false,0,())
 else
 yAB (f11 qr x1.Cmd) fun r54=>
 some ((⟨x1.Node,x1.Cmd,4,r52,{x1.Own with Bal:=x1.Own.Mbal,Val:=r54 },{qi.Tally with Lost:=decide qf }⟩:yAH),x2,x3,false,0,())
 else
 yAB qc fun r55=>
 bif decide (r55<x0.Nodes) then
 some ({x1 with I:=r55,T:=qi.Tally },x2,x3,false,0,())
 else
 yAB (f10 qi.Tally) fun r56=>
 bif r56 then
 some (qb,x2,x3,false,0,())
 else
 bif x1.At==5 then
 some ({x1 with At:=6,I:=r55,T:=qi.Tally },x2,x3,false,0,())
 else
 yAB (f11 qi.Tally x1.Cmd) fun r57=>
 some ((⟨x1.Node,x1.Cmd,4,r55,{x1.Own with Bal:=x1.Own.Mbal,Val:=r57 },qi.Tally⟩:yAH),x2,x3,false,0,())
 else
 gd (decide (x1.At=6))<|
 yAB (f12 x1.Own.Val) fun r58=>
 bif r58.2.1 !=0 then
 some (x1,x2,x3,false,50,())
 else
 yAB (f13 x0 x2 r58.1) fun r59=>
 yAB qj fun r60=>
 bif r60.2.1 then
 yAB (f3 r58.1 r60.1.By r60.1.Serial) fun r61=>
 some (qd,r59,w64 (x3+1),r61,0,())
 else
 some (qd,r59,w64 (x3+1),false,0,())
theorem xG0(f1 f2 f3 f4 f5 f6 f7 f8 f9 f10 f11 f12 f13):yKD.Eq [yFm.s f1,yFG.s f2,yGX.s f3,yOp.s f4,yHq.s f5,yLf.s f6,yHp.s f7,yC1.s f8,yFB.s f9,yGU.s f10,yGV.s f11,yBl.s f12,yEi.s f13] .no (yFr f1 f2 f3 f4 f5 f6 f7 f8 f9 f10 f11 f12 f13):=fun _=>by kernel_rfl
def yB2(L:Nat):yKD.T:=yFr (yC3 L) (yK0 L) (yNF L) (yUS L) (yEp L) (yS7 L) (yLg L) (yHw L) (yHv L) (yJ6 L) (yJ7 L) (yBi L) (yDR L)
theorem xGz(L:Nat):yKD.C (yB2 L):=yKD.c (xG0 (yC3 L) (yK0 L) (yNF L) (yUS L) (yEp L) (yS7 L) (yLg L) (yHw L) (yHv L) (yJ6 L) (yJ7 L) (yBi L) (yDR L)) (tC (yYc L).ent (tC (xA3 L).ent (tC (xCE L).ent (tC (xLM L).ent (tC (xDt L).ent (tC (xIj L).ent (tC (xDr L).ent (tC (yVH L).ent (tC (xAS L).ent (tC (xCA L).ent (tC (xCC L).ent (tC (yI1 L).ent (tC (yXF L).ent tN))))))))))))) Tryz.func111 (by kernel_rfl) (lN _)
end Go.Proofs.YtakljpcmbpaeaaaGreat

namespace Go.Proofs.YtakljpcmbpaeaaaGreat
open Go.RowKit
set_option maxRecDepth 100000
set_option maxHeartbeats 16000000
abbrev yKi:=fw1 199 (caC cdS caN) (cdT (caC cI (caC cI caN)))
abbrev yUI(f1:yDA.T)(x0:ByteArray):Option (Int×Int×Unit):=
 yAB (f1 2 x0 ([[V.int .i64 6]])) fun r1=>
 bif r1.2.2.1==0 then
 bif r1.2.1.toList==noS.toList then
 gd (decide (0<(r1.1.length:Int)))<|
 gL r1.1 kI 0 0<|
 some (aI r1.1 0 0,0,())
 else
 some (0,50,())
 else
 some (0,50,())
theorem xIL(f1):yKi.Eq [yDA.s f1] .no (yUI f1):=fun _=>by kernel_rfl
def yRQ(L:Nat):yKi.T:=yUI (yDQ L)
theorem xIK(L:Nat):yKi.C (yRQ L):=yKi.c (xIL (yDQ L)) (tC (ySg L).ent tN) Tryz.func199 (by kernel_rfl) (lN _)
abbrev yCo:=fw1 262 (caC (cdP ySp) caN) (cdT caN)
abbrev yOK(x0:yAe):Option Unit:=
 bif x0.Settling.At==0 then none else
 bif x0.Settling.At==1 then none else
 bif x0.Settling.At==2 then none else
 some (())
theorem yUs:yCo.Eq [] (.two .no (.one (.two .no (.two xT (.two .no (.two xT (.two .no (.two xT .no)))))))) (yOK):=fun _=>by kernel_rfl
def yLV(L:Nat):yCo.T:=yOK
theorem yUr(L:Nat):yCo.C (yLV L):=yCo.c (yUs) tN Tryz.func262 (by kernel_rfl) (lS (lN _) (lB (lS (lN _) (lQ (lX _) (lS (lN _) (lQ (lX _) (lS (lN _) (lQ (lX _) (lN _)))))))))
abbrev yIl:=fw1 200 (caC yHN caN) yHN
abbrev yXC(f1:yCo.T)(x0:yAE):Option yAE:=
 yAB (f1 (⟨x0,0,noS⟩:yAe)) fun r1=>
 some x0
theorem xFj(f1):yIl.Eq [yCo.s f1] .no (yXC f1):=fun _=>by kernel_rfl
def yVr(L:Nat):yIl.T:=yXC (yLV L)
theorem xFi(L:Nat):yIl.C (yVr L):=yIl.c (xFj (yLV L)) (tC (yUr L).ent tN) Tryz.func200 (by kernel_rfl) (lN _)
end Go.Proofs.YtakljpcmbpaeaaaGreat

namespace Go.Proofs.YtakljpcmbpaeaaaGreat
set_option maxHeartbeats 16000000
set_option maxRecDepth 100000
open Go.RowKit
abbrev yFp:=fw3 19 (caC yBQ (caC yDS (caC cdS caN))) (cdT (caC yDS (caC yKr (caC cdB caN))))
abbrev yCB(f1:yQ4.T)(f2:yFk.T)(f3:yMT.T)(f4:yDA.T)(f5:yDm.T)(f6:yGM.T)(f7:yFm.T)(f8:yDB.T)(f9:yEP.T)(f10:yFt.T)(f11:yKD.T)(f12:yF7.T)(f13:yKi.T)(f14:yIl.T)(f15:yEY.T)(x0:yAJ)(x1:yAL)(x2:ByteArray):Option (yAL×yAC×Bool×Unit):=
 letI qi:=f11 x0 x1.P x1.Table x1.Done x2
 letI qf:= [V.int .i64 2]
 letI qe:=x1.Serial+1
 letI qc:=f8 (⟨0,x1.Key,w64 qe,0,0,yAr.z,0⟩:yAc)
 letI qb:=(⟨2,noS,false⟩:yAC)
 letI qa:=(⟨50,noS,false⟩:yAC)
 bif decide (x1.At<0) then none else
 bif decide (7<x1.At) then none else
 bif decide (x1.At=0) then
 yAB (f1 x2 6) fun r1=>
 letI qh:=decide (0<(r1.1.length:Int))
 bif r1.2.1 !=0 then
 some ({x1 with At:=0,P:=yAH.z,St:=yAE.z },qa,true,())
 else
 bif(r1.1.length:Int) !=1 then
 some ({x1 with At:=0,P:=yAH.z,St:=yAE.z },qa,true,())
 else
 gd qh<|
 gd (rowIs kI r1.1 0)<|
 yAB (f2 (aI r1.1 0 0)) fun r2=>
 bif r2 !=x1.Num then
 some ({x1 with At:=0,P:=yAH.z,St:=yAE.z },qa,true,())
 else
 gd qh<|
 gd (rowIs kI r1.1 0)<|
 yAB (f3 x0) fun r3=>
 some ({x1 with Key:=aI r1.1 0 0,Count:=0,Table:=r3,Done:=0,Serial:=0,At:=1 },yAC.z,false,())
 else
 bif decide (x1.At=1) then
 yAB (f4 1 x2 ([qf,qf,qf,qf,qf,qf,[V.int .i64 4],[V.int .i64 4]])) fun r4=>
 letI qj:=r4.2.1.toList==noS.toList
 letI qd:=r4.1
 bif r4.2.2.1==0 then
 gd (decide (0<(qd.length:Int)))<|
 gL qd kI 0 0<|
 gd (decide (1<(qd.length:Int)))<|
 gL qd kI 1 0<|
 gd (decide (2<(qd.length:Int)))<|
 gL qd kI 2 0<|
 gd (decide (3<(qd.length:Int)))<|
 gL qd kI 3 0<|
 gd (decide (4<(qd.length:Int)))<|
 gL qd kI 4 0<|
 gd (decide (5<(qd.length:Int)))<|
 gL qd kI 5 0<|
 gd (decide (6<(qd.length:Int)))<|
 gL qd kI 6 0<|
 gd (decide (7<(qd.length:Int)))<|
 gL qd kI 7 0<|
 bif r4.2.2.1 !=0 then
 some ({x1 with At:=0,P:=yAH.z,St:=yAE.z },qa,true,())
 else
 bif !qj then
 some ({x1 with At:=0,P:=yAH.z,St:=yAE.z },qa,true,())
 else
 yAB (f5 (⟨(⟨aI qd 0 0,aI qd 1 0,aI qd 2 0,aI qd 3 0,aI qd 4 0,aI qd 5 0,aI qd 6 0,aI qd 7 0⟩:yAJ)⟩:yA5)) fun r5=>
 bif !r5 then
 some ({x1 with At:=0,P:=yAH.z,St:=yAE.z },qa,true,())
 else
 bif !(((aI qd 0 0)==x0.Nodes)&&(((aI qd 1 0)==x0.Slots)&&(((aI qd 2 0)==x0.Blocks)&&(((aI qd 3 0)==x0.Per)&&(((aI qd 4 0)==x0.Journal)&&(((aI qd 5 0)==x0.Log)&&(((aI qd 6 0)==x0.Lease)&&(((aI qd 7 0)==x0.Wait)&&true)))))))) then
 some ({x1 with At:=0,P:=yAH.z,St:=yAE.z },qa,true,())
 else
 some ({x1 with At:=2 },yAC.z,false,())
 else
 bif r4.2.2.1 !=0 then
 some ({x1 with At:=0,P:=yAH.z,St:=yAE.z },qa,true,())
 else
 bif !qj then
 some ({x1 with At:=0,P:=yAH.z,St:=yAE.z },qa,true,())
 else
 yAB (f5 yA5.z) fun r6=>
 bif !r6 then
 some ({x1 with At:=0,P:=yAH.z,St:=yAE.z },qa,true,())
 else
 bif !((0==x0.Nodes)&&((0==x0.Slots)&&((0==x0.Blocks)&&((0==x0.Per)&&((0==x0.Journal)&&((0==x0.Log)&&((0==x0.Lease)&&((0==x0.Wait)&&true)))))))) then
 some ({x1 with At:=0,P:=yAH.z,St:=yAE.z },qa,true,())
 else
 some ({x1 with At:=2 },yAC.z,false,())
 else
 bif decide (x1.At=2) then
 some ({x1 with Asked:=x1.Clock,Count:=1,At:=3 },yAC.z,false,())
 else
 bif decide (x1.At=3) then
 yAB (f6 x0 x1.Done) fun r7=>
 bif decide (0<=r7) then
 yAB (f7 x0 x1.Table x1.Done x2) fun r8=>
 bif r8.2.2.2.2.1 !=0 then
 some ({x1 with At:=0,P:=yAH.z,St:=yAE.z },(⟨r8.2.2.2.2.1,noS,false⟩:yAC),true,())
 else
 bif r8.2.2.2.1 then
 some ({x1 with Table:=r8.1,Done:=r8.2.1 },yAC.z,false,())
 else
 bif x1.Op.Kind==0 then
 yAB qc fun r9=>
 yAB (f9 x0 x1.Num r9.1) fun r10=>
 bif r9.2.1 !=0 then
 some ({x1 with Table:=r8.1,Done:=r8.2.1,At:=0,P:=yAH.z,St:=yAE.z },qb,true,())
 else
 bif r10.2.1 !=0 then
 some ({x1 with Table:=r8.1,Done:=r8.2.1,At:=0,P:=yAH.z,St:=yAE.z },qb,true,())
 else
 some ({x1 with Table:=r8.1,Done:=r8.2.1,Serial:=w64 qe,At:=4,P:=r10.1 },yAC.z,false,())
 else
 some ({x1 with Table:=r8.1,Done:=r8.2.1,At:=0,P:=yAH.z,St:=yAE.z },yAC.z,true,())
 else
 bif x1.Op.Kind==0 then
 yAB qc fun r11=>
 yAB (f9 x0 x1.Num r11.1) fun r12=>
 bif r11.2.1 !=0 then
 some ({x1 with At:=0,P:=yAH.z,St:=yAE.z },qb,true,())
 else
 bif r12.2.1 !=0 then
 some ({x1 with At:=0,P:=yAH.z,St:=yAE.z },qb,true,())
 else
 some ({x1 with Serial:=w64 qe,At:=4,P:=r12.1 },yAC.z,false,())
 else
 some ({x1 with At:=0,P:=yAH.z,St:=yAE.z },yAC.z,true,())
 else
 bif decide (x1.At=4) then
 yAB (f10 x0 x1.P x1.Done) fun r13=>
 bif r13.2.1==0 then
 yAB qi fun r14=>
 bif r14.2.2.2.2.1==0 then
 bif !r14.2.2.2.1 then
 some ({x1 with Table:=r14.2.1,Done:=r14.2.2.1,P:=r14.1 },yAC.z,false,())
 else
 yAB (f12 r14.2.1 x1.Key) fun r15=>
 bif !r15.2.1 then
 some ({x1 with Table:=r14.2.1,Done:=r14.2.2.1,At:=0,P:=yAH.z,St:=yAE.z },(⟨240,noS,false⟩:yAC),true,())
 else
 some ({x1 with Slot:=r15.1,Table:=r14.2.1,Done:=r14.2.2.1,At:=5,P:=r14.1 },yAC.z,false,())
 else
 some ({x1 with At:=0,P:=yAH.z,St:=yAE.z },(⟨r14.2.2.2.2.1,noS,false⟩:yAC),true,())
 else
 some ({x1 with At:=0,P:=yAH.z,St:=yAE.z },(⟨r13.2.1,noS,false⟩:yAC),true,())
 else
 bif decide (x1.At=5) then
 yAB (f13 x2) fun r16=>
 letI qg:=(⟨r16.2.1,noS,false⟩:yAC)
 bif r16.2.1==0 then
 some ({x1 with Mounted:=true,Head:=r16.1,Tail:=r16.1,At:=0,P:=yAH.z,St:=yAE.z },qg,true,())
 else
 some ({x1 with At:=0,P:=yAH.z,St:=yAE.z },qg,true,())
 else
 bif decide (x1.At=6) then
 yAB (f14 x1.St) fun r17=>
 yAB (f15 r17) fun r18=>
 bif r18 then
 yAB (f8 (⟨1,x1.Key,w64 qe,0,0,yAr.z,0⟩:yAc)) fun r19=>
 yAB (f9 x0 x1.Num r19.1) fun r20=>
 bif r19.2.1 !=0 then
 some ({x1 with Tail:=x1.Head,Pend:= [],At:=0,P:=yAH.z,St:=yAE.z },qb,true,())
 else
 bif r20.2.1 !=0 then
 some ({x1 with Tail:=x1.Head,Pend:= [],At:=0,P:=yAH.z,St:=yAE.z },qb,true,())
 else
 some ({x1 with Tail:=x1.Head,Serial:=w64 qe,Pend:= [],At:=7,P:=r20.1,St:=yAE.z },yAC.z,false,())
 else
 some ({x1 with St:=r17 },yAC.z,false,())
 else
 gd (decide (x1.At=7))<|
 yAB (f10 x0 x1.P x1.Done) fun r21=>
 bif r21.2.1==0 then
 yAB qi fun r22=>
 bif r22.2.2.2.2.1==0 then
 bif r22.2.2.2.1 then
 some ({x1 with Mounted:=false,Slot:=0,Head:=0,Tail:=0,Table:=r22.2.1,Done:=r22.2.2.1,At:=0,P:=yAH.z,St:=yAE.z },yAC.z,true,())
 else
 some ({x1 with Table:=r22.2.1,Done:=r22.2.2.1,P:=r22.1 },yAC.z,false,())
 else
 some ({x1 with At:=0,P:=yAH.z,St:=yAE.z },(⟨r22.2.2.2.2.1,noS,false⟩:yAC),true,())
 else
 some ({x1 with At:=0,P:=yAH.z,St:=yAE.z },(⟨r21.2.1,noS,false⟩:yAC),true,())
theorem xGp(f1 f2 f3 f4 f5 f6 f7 f8 f9 f10 f11 f12 f13 f14 f15):yFp.Eq [yQ4.s f1,yFk.s f2,yMT.s f3,yDA.s f4,yDm.s f5,yGM.s f6,yFm.s f7,yDB.s f8,yEP.s f9,yFt.s f10,yKD.s f11,yF7.s f12,yKi.s f13,yIl.s f14,yEY.s f15] (.two .no (.two .no (.two (.two .no (.two xT .no)) .no))) (yCB f1 f2 f3 f4 f5 f6 f7 f8 f9 f10 f11 f12 f13 f14 f15):=fun _=>by kernel_rfl
def yAU(L:Nat):yFp.T:=yCB (xAx L) (yHy L) (yRR L) (yDQ L) (yHm L) (yGA L) (yC3 L) (yDT L) (yGB L) (yBW L) (yB2 L) (yEC L) (yRQ L) (yVr L) (yMN L)
theorem yYh(L:Nat):yFp.C (yAU L):=yFp.c (xGp (xAx L) (yHy L) (yRR L) (yDQ L) (yHm L) (yGA L) (yC3 L) (yDT L) (yGB L) (yBW L) (yB2 L) (yEC L) (yRQ L) (yVr L) (yMN L)) (tC (xNT L).ent (tC (yYW L).ent (tC (xJ8 L).ent (tC (ySg L).ent (tC (yYP L).ent (tC (yWK L).ent (tC (yYc L).ent (tC (yTI L).ent (tC (yWY L).ent (tC (yYl L).ent (tC (xGz L).ent (tC (yY0 L).ent (tC (xIK L).ent (tC (xFi L).ent (tC (yXA L).ent tN))))))))))))))) Tryz.func19 (by kernel_rfl) (lS (lN _) (lS (lN _) (lS (lS (lN _) (lQ (lX _) (lN _))) (lN _))))
end Go.Proofs.YtakljpcmbpaeaaaGreat

namespace Go.Proofs.YtakljpcmbpaeaaaGreat
open Go.RowKit
set_option maxRecDepth 100000
set_option maxHeartbeats 16000000
abbrev yMY:=Int×yAJ×yAD×yAL×yAD×yAL×yAC×yAL×yAC×Bool×Int×Unit
abbrev yQP:=yAD×yAD×yAL×yAC×yAL×yAC×Bool×Int×Unit
abbrev yQQ:=yAD×yAL×yAC×Int×Bool×Unit
abbrev yPy{α:Type}(f1:yFq.T)(f2:yKO.T)(f3:yFp.T)(s:yMY)(kn:yMY->Option α)(k0:yQP->Option α)(k1:yQQ->Option α):Option α:=
 letI qg:=s.2.2.2.2.1
 letI qf:=s.2.2.2.2.2.1
 letI qe:=s.2.2.2.2.2.2.2.2.1
 letI qd:=s.2.2.2.2.2.2.2.2.2.1
 letI qc:=s.2.2.2.2.2.2.1
 letI qb:=s.2.2.2.2.2.2.2.1
 letI qa:=s.2.2.2.2.2.2.2.2.2.2.1
 bif !qd then
 bif decide (qa<s.1) then
 yAB (f1 s.2.1 qb) fun r1=>
 bif r1.Kind !=0 then
 yAB (f2 s.2.2.1 s.2.2.2.1.Num r1) fun r2=>
 bif r2.2.2.1 !=0 then
 k1 (s.2.2.1,qb,qe,qa,false,())
 else
 yAB (f3 s.2.1 qb r2.2.1) fun r3=>
 kn (s.1,s.2.1,r2.1,s.2.2.2.1,qg,qf,qc,r3.1,r3.2.1,r3.2.2.1,w64 (qa+1),())
 else
 yAB (f3 s.2.1 qb noS) fun r4=>
 kn (s.1,s.2.1,s.2.2.1,s.2.2.2.1,qg,qf,qc,r4.1,r4.2.1,r4.2.2.1,w64 (qa+1),())
 else
 k0 (s.2.2.1,qg,qf,qc,qb,qe,qd,qa,())
 else
 k0 (s.2.2.1,qg,qf,qc,qb,qe,qd,qa,())
abbrev yMZ:LW2 yMY yQP yQQ:=⟨(lvC 4 (mP cI) (lvC 5 yOI (lvC 6 yAM (lvC 7 yNp (lvC 10 yAM (lvC 11 yNp (lvC 12 yHX (lvC 15 yNp (lvC 16 yHX (lvC 17 (mP cdB) (lvC 18 (mP cI) lvN))))))))))),(.exit 0),(lvC 6 yAM (lvC 10 yAM (lvC 11 yNp (lvC 12 yHX (lvC 15 yNp (lvC 16 yHX (lvC 17 (mP cdB) (lvC 18 (mP cI) lvN)))))))),.ret,(lvC 10 yAM (lvC 11 yNp (lvC 12 yHX (lvC 13 (mP cI) (lvC 14 (mP cdB) lvN)))))⟩
theorem xCL{α:Type}(f1 f2 f3):yMZ.Eq (α:=α) [yFq.s f1,yKO.s f2,yFp.s f3] Tryz.f24 [1,1,1,1,1,0,0] .no (yPy f1 f2 f3):=fun _ _ _=>by kernel_rfl
abbrev yHU:=fw5 24 (caC yBQ (caC yNE (caC yDS (caC (cdI .i8) (caC cI caN))))) (cdT (caC yNE (caC yDS (caC yKr (caC cI (caC cdB caN))))))
abbrev xAs(f1:yEN.T)(F0:LF2 yMY yQP yQQ (yAD×yAL×yAC×Int×Bool×Unit))(x0:yAJ)(x1:yAD)(x2:yAL)(x3:Int)(x4:Int):Option (yAD×yAL×yAC×Int×Bool×Unit):=
 letI qa:=(⟨x3,yAr.z,0,0,noS,0,0⟩:xB2)
 yAB (f1 x0 ({x2 with Busy:=true,Op:=qa })) fun r1=>
 F0 (x4,x0,x1,{x2 with Busy:=true,Op:=qa },yAD.z,yAL.z,yAC.z,r1.1,r1.2.1,r1.2.2.1,0,()) (fun q2=>
 some (q2.1,q2.2.2.2.2.1,q2.2.2.2.2.2.1,q2.2.2.2.2.2.2.2.1,q2.2.2.2.2.2.2.1,())) (fun q3=>
 some (q3.1,q3.2.1,q3.2.2.1,q3.2.2.2.1,q3.2.2.2.2.1,()))
theorem xI4(f1 F0):yHU.Eq [yEN.s f1] (.two .no (.two .no (.two .no (.two .no (.two .no (.two (.one (.lp (yMZ.s F0))) .no)))))) (xAs f1 F0):=fun _=>by kernel_rfl
def yKz(L:Nat):yHU.T:=xAs (yDO L) (yAf (yPy (yBP L) (yDV L) (yAU L)) L)
theorem xAq{α:Type}(L:Nat):LO Tryz.f24 [1,1,1,1,1,0,0] (yMZ.s (α:=α) (yAf (yPy (yBP L) (yDV L) (yAU L)) L)):=yMZ.k (xCL (yBP L) (yDV L) (yAU L)) (tC (yYi L).ent (tC (xDc L).ent (tC (yYh L).ent tN))) (lN _) (by kernel_rfl) L
theorem xAr(L:Nat):yHU.C (yKz L):=yHU.c (xI4 (yDO L) (yAf (yPy (yBP L) (yDV L) (yAU L)) L)) (tC (yWT L).ent tN) Tryz.func24 (by kernel_rfl) (lS (lN _) (lS (lN _) (lS (lN _) (lS (lN _) (lS (lN _) (lS (lB (lL (xAq L))) (lN _)))))))
abbrev yNf:=Unit
abbrev yNe:=yAD×Bool×Unit
abbrev yMa{α:Type}(f1:yFl.T)(s:yNf)(k0:yNe->Option α):Option α:=
 yAB (f1 (⟨1,1,1,1,3,8,1,2⟩:yAJ)) fun r1=>
 letI qa:=r1.2.2.2.2.1
 gF r1.1 (0+r1.1.length)<|
 gF r1.2.1 (0+r1.2.1.length)<|
 gF r1.2.2.1 (0+r1.2.2.1.length)<|
 gF qa (0+qa.length)<|
 k0 ((⟨r1.1.take r1.1.length,r1.2.1.take r1.2.1.length,r1.2.2.1.take r1.2.2.1.length,r1.2.2.2.1,qa.take qa.length⟩:yAD),r1.2.2.2.2.2.1,())
abbrev yJF:LW1 yNf yNe:=⟨lvN,.normal,(lvC 1 yAM (lvC 2 (mP cdB) lvN))⟩
theorem yZA{α:Type}(f1):yJF.Ep (α:=α) [yFl.s f1] Tryz.f11 [1,0] .no (yMa f1):=fun _ _=>by kernel_rfl
theorem yXd{α:Type}(L:Nat):PO Tryz.f11 [1,0] (yJF.s (α:=α) (yMa (yH0 L))):=yJF.kp (yZA (yH0 L)) (tC (yYa L).ent tN) (lN _) (by kernel_rfl)
abbrev yNh:=yAD×Bool×Unit
abbrev yNg:=yAD×Bool×yAL×yAC×Int×Bool×Unit
abbrev yMb{α:Type}(f1:yHU.T)(s:yNh)(k0:yNg->Option α):Option α:=
 yAB (f1 (⟨1,1,1,1,3,8,1,2⟩:yAJ) s.1 (⟨0,0,true,0,0,0,0,false,0,0,0,yAG.z,0,0,yQE.z,[],[],[],false,false,xB2.z,0,yAH.z,yCx.z,yAE.z,yBx.z,yCO.z⟩:yAL) 13 20) fun r1=>
 k0 (r1.1,s.2.1,r1.2.1,r1.2.2.1,r1.2.2.2.1,r1.2.2.2.2.1,())
abbrev yJG:LW1 yNh yNg:=⟨(lvC 1 yAM (lvC 2 (mP cdB) lvN)),.normal,(lvC 1 yAM (lvC 2 (mP cdB) (lvC 3 yNp (lvC 4 yHX (lvC 5 (mP cI) (lvC 6 (mP cdB) lvN))))))⟩
theorem yZB{α:Type}(f1):yJG.Ep (α:=α) [yHU.s f1] Tryz.f11 [1,1,0] .no (yMb f1):=fun _ _=>by kernel_rfl
theorem yXe{α:Type}(L:Nat):PO Tryz.f11 [1,1,0] (yJG.s (α:=α) (yMb (yKz L))):=yJG.kp (yZB (yKz L)) (tC (xAr L).ent tN) (lN _) (by kernel_rfl)
abbrev yNk:=yAD×Bool×yAL×yAC×Int×Bool×Unit
abbrev yNi:=yAD×yAL×yAC×Unit
abbrev yNj:=Bool×Unit
abbrev yMc{α:Type}(s:yNk)(k0:yNi->Option α)(k1:yNj->Option α):Option α:=
 bif !s.2.1 then
 k1 (false,())
 else
 bif !s.2.2.2.2.2.1 then
 k1 (false,())
 else
 bif s.2.2.2.1.E !=0 then
 k1 (false,())
 else
 bif s.2.2.2.2.1 !=4 then
 k1 (false,())
 else
 bif s.2.2.1.Key !=16 then
 k1 (false,())
 else
 bif s.2.2.1.Count !=1 then
 k1 (false,())
 else
 k0 (s.1,s.2.2.1,s.2.2.2.1,())
abbrev yJH:LW2 yNk yNi yNj:=⟨(lvC 1 yAM (lvC 2 (mP cdB) (lvC 3 yNp (lvC 4 yHX (lvC 5 (mP cI) (lvC 6 (mP cdB) lvN)))))),.normal,(lvC 1 yAM (lvC 3 yNp (lvC 4 yHX lvN))),.ret,(lvC 0 (mP cdB) lvN)⟩
theorem yZC{α:Type}:yJH.Ep (α:=α) [] Tryz.f11 [1,1,1,0] .no (yMc):=fun _ _=>by kernel_rfl
theorem yXf{α:Type}(L:Nat):PO Tryz.f11 [1,1,1,0] (yJH.s (α:=α) (yMc)):=yJH.kp (yZC) tN (lN _) (by kernel_rfl)
abbrev yNm:=yAD×yAL×yAC×Unit
abbrev yNl:=yAD×yAL×yAC×Int×Bool×Unit
abbrev yMd{α:Type}(f1:yHU.T)(s:yNm)(k0:yNl->Option α):Option α:=
 yAB (f1 (⟨1,1,1,1,3,8,1,2⟩:yAJ) s.1 s.2.1 0 20) fun r1=>
 k0 (r1.1,r1.2.1,r1.2.2.1,r1.2.2.2.1,r1.2.2.2.2.1,())
abbrev yJI:LW1 yNm yNl:=⟨(lvC 1 yAM (lvC 3 yNp (lvC 4 yHX lvN))),.normal,(lvC 1 yAM (lvC 3 yNp (lvC 4 yHX (lvC 5 (mP cI) (lvC 6 (mP cdB) lvN)))))⟩
theorem yZD{α:Type}(f1):yJI.Ep (α:=α) [yHU.s f1] Tryz.f11 [1,1,1,1,0] .no (yMd f1):=fun _ _=>by kernel_rfl
theorem yXg{α:Type}(L:Nat):PO Tryz.f11 [1,1,1,1,0] (yJI.s (α:=α) (yMd (yKz L))):=yJI.kp (yZD (yKz L)) (tC (xAr L).ent tN) (lN _) (by kernel_rfl)
abbrev yNo:=yAD×yAL×yAC×Int×Bool×Unit
abbrev yNn:=Bool×Unit
abbrev yMe{α:Type}(f1:yET.T)(s:yNo)(k0:yNn->Option α):Option α:=
 bif s.2.2.2.2.1 then
 bif s.2.2.1.E==0 then
 bif s.2.2.2.1==6 then
 bif s.2.1.Mounted then
 bif s.2.1.Slot==0 then
 bif s.2.1.Done==1 then
 yAB (f1 (⟨1,1,1,1,3,8,1,2⟩:yAJ)) fun r1=>
 k0 ((s.1.S.length:Int)==r1,())
 else
 k0 (false,())
 else
 k0 (false,())
 else
 k0 (false,())
 else
 k0 (false,())
 else
 k0 (false,())
 else
 k0 (false,())
abbrev yJJ:LW1 yNo yNn:=⟨(lvC 1 yAM (lvC 3 yNp (lvC 4 yHX (lvC 5 (mP cI) (lvC 6 (mP cdB) lvN))))),.normal,(lvC 0 (mP cdB) lvN)⟩
theorem yZE{α:Type}(f1):yJJ.Ep (α:=α) [yET.s f1] Tryz.f11 [1,1,1,1,1,0] .no (yMe f1):=fun _ _=>by kernel_rfl
theorem yXh{α:Type}(L:Nat):PO Tryz.f11 [1,1,1,1,1,0] (yJJ.s (α:=α) (yMe (yEu L))):=yJJ.kp (yZE (yEu L)) (tC (yWg L).ent tN) (lN _) (by kernel_rfl)
abbrev yH1:=fw0 11 caN cdB
abbrev yWQ(P0:LF1 yNf yNe (Bool))(P1:LF1 yNh yNg (Bool))(P2:LF2 yNk yNi yNj (Bool))(P3:LF1 yNm yNl (Bool))(P4:LF1 yNo yNn (Bool)):Option Bool:=
 P0 (()) (fun q1=>
 P1 (q1.1,q1.2.1,()) (fun q2=>
 P2 (q2.1,q2.2.1,q2.2.2.1,q2.2.2.2.1,q2.2.2.2.2.1,q2.2.2.2.2.2.1,()) (fun q3=>
 P3 (q3.1,q3.2.1,q3.2.2.1,()) (fun q4=>
 P4 (q4.1,q4.2.1,q4.2.2.1,q4.2.2.2.1,q4.2.2.2.2.1,()) (fun q5=>
 some q5.1))) (fun q6=>
 some q6.1)))
theorem xEF(P0 P1 P2 P3 P4):yH1.Eq [] (.two .no (.two (.pt (yJF.s P0)) (.two (.pt (yJG.s P1)) (.two (.pt (yJH.s P2)) (.two (.pt (yJI.s P3)) (.two (.pt (yJJ.s P4)) .no)))))) (yWQ P0 P1 P2 P3 P4):=fun _=>by kernel_rfl
def yLo(L:Nat):yH1.T:=yWQ (yMa (yH0 L)) (yMb (yKz L)) (yMc) (yMd (yKz L)) (yMe (yEu L))
theorem xEE(L:Nat):yH1.C (yLo L):=yH1.c (xEF (yMa (yH0 L)) (yMb (yKz L)) (yMc) (yMd (yKz L)) (yMe (yEu L))) tN Tryz.func11 (by kernel_rfl) (lS (lN _) (lS (lP (yXd L)) (lS (lP (yXe L)) (lS (lP (yXf L)) (lS (lP (yXg L)) (lS (lP (yXh L)) (lN _)))))))
set_option maxRecDepth 100000
set_option maxHeartbeats 16000000
abbrev yLS:=(List (List V))×Int×Unit
abbrev yPh:=Unit
abbrev yPi:=Bool×Unit
abbrev yOj{α:Type}(s:yLS)(kn:yLS->Option α)(k0:yPh->Option α)(k1:yPi->Option α):Option α:=
 letI qa:=aI s.1 s.2.1.toNat 0
 bif decide (s.2.1<(s.1.length:Int)) then
 gI s.1 [.i .i8] s.2.1<|
 bif qa !=13 then
 gI s.1 [.i .i8] s.2.1<|
 bif qa !=0 then
 gI s.1 [.i .i8] s.2.1<|
 bif qa !=1 then
 k1 (false,())
 else
 kn (s.1,w64 (s.2.1+1),())
 else
 kn (s.1,w64 (s.2.1+1),())
 else
 kn (s.1,w64 (s.2.1+1),())
 else
 k0 (())
abbrev yLT:LW2 yLS yPh yPi:=⟨(lvC 0 (mP cdR) (lvC 3 (mP cI) lvN)),(.exit 0),lvN,.ret,(lvC 2 (mP cdB) lvN)⟩
theorem xBb{α:Type}:yLT.Eq (α:=α) [] Tryz.f62 [1,0,1,0] .no (yOj):=fun _ _ _=>by kernel_rfl
abbrev yKc:=fw1 62 (caC cdR caN) cdB
abbrev yYz(F0:LF2 yLS yPh yPi (Bool))(x0:List (List V)):Option Bool:=
 F0 (x0,0,()) (fun q1=>
 some true) (fun q2=>
 some q2.1)
theorem xHx(F0):yKc.Eq [] (.two .no (.two (.two .no (.one (.lp (yLT.s F0)))) .no)) (yYz F0):=fun _=>by kernel_rfl
def yRI(L:Nat):yKc.T:=yYz (yAf (yOj) L)
theorem yZl{α:Type}(L:Nat):LO Tryz.f62 [1,0,1,0] (yLT.s (α:=α) (yAf (yOj) L)):=yLT.k (xBb) tN (lN _) (by kernel_rfl) L
theorem xHw(L:Nat):yKc.C (yRI L):=yKc.c (xHx (yAf (yOj) L)) tN Tryz.func62 (by kernel_rfl) (lS (lN _) (lS (lS (lN _) (lB (lL (yZl L)))) (lN _)))
abbrev yM3:=(List (List V))×yAJ×Int×Unit
abbrev yQf:=Unit
abbrev yQA{α:Type}(s:yM3)(kn:yM3->Option α)(k0:yQf->Option α):Option α:=
 letI qa:=s.2.2.1
 letI qb:=w64 (s.2.1.Per*256)<((aS s.1 qa.toNat 1).size:Int)
 bif decide (qa<(s.1.length:Int)) then
 gI s.1 yCw.ks qa<|
 bif decide (aI s.1 qa.toNat 0<0) then none else
 gI s.1 yCw.ks qa<|
 bif decide (s.2.1.Blocks<=aI s.1 qa.toNat 0) then none else
 bif decide (0<qa) then
 gI s.1 yCw.ks qa<|
 gI s.1 yCw.ks (w64 (qa-1))<|
 bif decide (aI s.1 qa.toNat 0<=aI s.1 ((w64 (qa-1)).toNat) 0) then none else
 gI s.1 yCw.ks qa<|
 bif decide qb then none else
 kn (s.1,s.2.1,w64 (qa+1),())
 else
 gI s.1 yCw.ks qa<|
 bif decide qb then none else
 kn (s.1,s.2.1,w64 (qa+1),())
 else
 k0 (())
abbrev yM4:LW1 yM3 yQf:=⟨(lvC 1 (mP cdR) (lvC 2 yOI (lvC 5 (mP cI) lvN))),(.exit 0),lvN⟩
theorem xCv{α:Type}:yM4.Eq (α:=α) [] Tryz.f30 [1,1,0,1,0] (.two .no (.two (.one (.two .no (.two xT .no))) .no)) (yQA):=fun _ _ _=>by kernel_rfl
abbrev yMI:=fw2 30 (caC yBQ (caC cdR caN)) cdB
abbrev yVm(f1:yAn.T)(F0:LF1 yM3 yQf (Bool))(x0:yAJ)(x1:List (List V)):Option Bool:=
 yAB (f1 x0) fun r1=>
 bif !r1 then none else
 F0 (x1,x0,0,()) (fun q2=>
 some true)
theorem xJm(f1 F0):yMI.Eq [yAn.s f1] (.two .no (.two (.two .no (.two xT .no)) (.two (.two .no (.one (.lp (yM4.s F0)))) .no))) (yVm f1 F0):=fun _=>by kernel_rfl
def yT7(L:Nat):yMI.T:=yVm (yBV L) (yAb (yQA) L)
theorem xBZ{α:Type}(L:Nat):LO Tryz.f30 [1,1,0,1,0] (yM4.s (α:=α) (yAb (yQA) L)):=yM4.k (xCv) tN (lS (lN _) (lS (lB (lS (lN _) (lQ (lX _) (lN _)))) (lN _))) (by kernel_rfl) L
theorem xJl(L:Nat):yMI.C (yT7 L):=yMI.c (xJm (yBV L) (yAb (yQA) L)) (tC (yCi L).ent tN) Tryz.func30 (by kernel_rfl) (lS (lN _) (lS (lS (lN _) (lQ (lX _) (lN _))) (lS (lS (lN _) (lB (lL (xBZ L)))) (lN _))))
abbrev yId:=fw2 239 (caC cdS (caC cI caN)) cdS
abbrev yWw(x0:ByteArray)(x1:Int):Option ByteArray:=
 letI qc:=w64 (x1*256)
 letI qa:=w64 ((w64 (x1+1))*256)
 letI qb:=yEr false qa (x0.size:Int)
 gd (decide (0<=yEr false qa (x0.size:Int)))<|
 gd (decide (yEr false qa (x0.size:Int)<=(x0.size:Int)))<|
 gd (decide (0<=yEr false qc (x0.size:Int)))<|
 gd (decide (yEr false qc (x0.size:Int)<=(qb.toNat:Int)))<|
 some (x0.extract ((yEr false qc (x0.size:Int)).toNat) (qb.toNat))
theorem xFM:yId.Eq [] .no (yWw):=fun _=>by kernel_rfl
def yPc(L:Nat):yId.T:=yWw
theorem xFL(L:Nat):yId.C (yPc L):=yId.c (xFM) tN Tryz.func239 (by kernel_rfl) (lN _)
abbrev yIf:=ByteArray×yAJ×(List (List V))×Int×Unit
abbrev yMJ:=(List (List V))×Unit
abbrev yLP{α:Type}(f1:yId.T)(s:yIf)(kn:yIf->Option α)(k0:yMJ->Option α):Option α:=
 letI qa:=s.2.2.1
 bif decide (s.2.2.2.1<s.2.1.Per) then
 yAB (f1 s.1 s.2.2.2.1) fun r1=>
 gd (Nat.beq (0+qa.length) qa.length)<|
 gM (qa.length+1) 16<|
 gA (qa++([[V.str r1]])) (qa.length+1)<|
 kn (s.1,s.2.1,qa++([[V.str r1]]),w64 (s.2.2.2.1+1),())
 else
 gA qa qa.length<|
 k0 (qa,())
abbrev yIg:LW1 yIf yMJ:=⟨(lvC 1 (mP cdS) (lvC 2 yOI (lvC 6 (mA 1) (lvC 7 (mP cI) lvN)))),(.exit 0),(lvC 6 (mA 1) lvN)⟩
theorem yYA{α:Type}(f1):yIg.Eq (α:=α) [yId.s f1] Tryz.f187 [1,1,1,1,0,1,0] .no (yLP f1):=fun _ _ _=>by kernel_rfl
abbrev yGn:=fw2 187 (caC yBQ (caC cdS caN)) (cdT (caC cdR (caC cI caN)))
abbrev yU7(f1:yAn.T)(F0:LF1 yIf yMJ ((List (List V))×Int×Unit))(x0:yAJ)(x1:ByteArray):Option ((List (List V))×Int×Unit):=
 yAB (f1 x0) fun r1=>
 bif !r1 then none else
 bif decide (w64 (x0.Per*256)<(x1.size:Int)) then none else
 F0 (x1,x0,[],0,()) (fun q2=>
 gF q2.1 (0+q2.1.length)<|
 some (q2.1.take q2.1.length,0,()))
theorem xCx(f1 F0):yGn.Eq [yAn.s f1] (.two .no (.two (.two .no (.two xT .no)) (.two (.two .no (.two xT .no)) (.two .no (.two (.two .no (.one (.lp (yIg.s F0)))) .no))))) (yU7 f1 F0):=fun _=>by kernel_rfl
def yNS(L:Nat):yGn.T:=yU7 (yBV L) (yAb (yLP (yPc L)) L)
theorem yWx{α:Type}(L:Nat):LO Tryz.f187 [1,1,1,1,0,1,0] (yIg.s (α:=α) (yAb (yLP (yPc L)) L)):=yIg.k (yYA (yPc L)) (tC (xFL L).ent tN) (lN _) (by kernel_rfl) L
theorem xCw(L:Nat):yGn.C (yNS L):=yGn.c (xCx (yBV L) (yAb (yLP (yPc L)) L)) (tC (yCi L).ent tN) Tryz.func187 (by kernel_rfl) (lS (lN _) (lS (lS (lN _) (lQ (lX _) (lN _))) (lS (lS (lN _) (lQ (lX _) (lN _))) (lS (lN _) (lS (lS (lN _) (lB (lL (yWx L)))) (lN _))))))
abbrev yJe:=(List (List V))×yAJ×(List (List V))×Int×(List (List V))×Int×Unit
abbrev yN8:=(List (List V))×yAJ×(List (List V))×Int×Unit
abbrev yGm{α:Type}(f1:yFv.T)(s:yJe)(kn:yJe->Option α)(k0:yN8->Option α):Option α:=
 letI qd:=s.2.2.2.2.1
 letI qc:=s.2.2.1
 letI qb:=s.2.2.2.2.2.1
 bif decide (qb<(qd.length:Int)) then
 gI s.1 yCw.ks s.2.2.2.1<|
 yAB (f1 s.2.1 (aI s.1 s.2.2.2.1.toNat 0) qb) fun r1=>
 letI qa:= [[V.int .i64 r1,V.str (aS qd qb.toNat 0)]]
 gI qd kS qb<|
 gd (Nat.beq (0+qc.length) qc.length)<|
 gM (qc.length+1) 24<|
 gA (qc++qa) (qc.length+1)<|
 kn (s.1,s.2.1,qc++qa,s.2.2.2.1,qd,w64 (qb+1),())
 else
 gA qc qc.length<|
 k0 (s.1,s.2.1,qc,s.2.2.2.1,())
abbrev yJf:LW1 yJe yN8:=⟨(lvC 1 (mP cdR) (lvC 2 yOI (lvC 6 (mA 2) (lvC 7 (mP cI) (lvC 8 (mP cdR) (lvC 10 (mP cI) lvN)))))),(.exit 2),(lvC 1 (mP cdR) (lvC 2 yOI (lvC 6 (mA 2) (lvC 7 (mP cI) lvN))))⟩
theorem yZj{α:Type}(f1):yJf.Eq (α:=α) [yFv.s f1] Tryz.f129 [1,1,1,0,1,0,0,1,0,0,1,1,0] .no (yGm f1):=fun _ _ _=>by kernel_rfl
abbrev yJc:=(List (List V))×yAJ×(List (List V))×Int×Unit
abbrev yN7:=(List (List V))×Unit
abbrev yM2{α:Type}(f1:yGn.T)(F1:LF1 yJe yN8 α)(s:yJc)(kn:yJc->Option α)(k0:yN7->Option α):Option α:=
 bif decide (s.2.2.2.1<(s.1.length:Int)) then
 gI s.1 yCw.ks s.2.2.2.1<|
 yAB (f1 s.2.1 (aS s.1 s.2.2.2.1.toNat 1)) fun r1=>
 gA s.2.2.1 s.2.2.1.length<|
 F1 (s.1,s.2.1,s.2.2.1,s.2.2.2.1,r1.1,0,()) (fun q2=>
 gA q2.2.2.1 q2.2.2.1.length<|
 kn (q2.1,q2.2.1,q2.2.2.1,w64 (q2.2.2.2.1+1),()))
 else
 gA s.2.2.1 s.2.2.1.length<|
 k0 (s.2.2.1,())
abbrev yJd:LW1 yJc yN7:=⟨(lvC 1 (mP cdR) (lvC 2 yOI (lvC 6 (mA 2) (lvC 7 (mP cI) lvN)))),(.exit 0),(lvC 6 (mA 2) lvN)⟩
theorem yZi{α:Type}(f1 F1):yJd.Eq (α:=α) [yGn.s f1] Tryz.f129 [1,1,1,0,1,0] (.two .no (.two (.one (.two .no (.two .no (.one (.lp (yJf.s F1)))))) .no)) (yM2 f1 F1):=fun _ _ _=>by kernel_rfl
abbrev yIe:=fw2 129 (caC yBQ (caC cdR caN)) (cdT (caC cdR (caC cI caN)))
abbrev ySa(f1:yMI.T)(F0:LF1 yJc yN7 ((List (List V))×Int×Unit))(x0:yAJ)(x1:List (List V)):Option ((List (List V))×Int×Unit):=
 yAB (f1 x0 x1) fun r1=>
 bif !r1 then none else
 F0 (x1,x0,[],0,()) (fun q2=>
 gF q2.1 (0+q2.1.length)<|
 some (q2.1.take q2.1.length,0,()))
theorem xFO(f1 F0):yIe.Eq [yMI.s f1] (.two .no (.two (.two .no (.two xT .no)) (.two .no (.two (.two .no (.one (.lp (yJd.s F0)))) .no)))) (ySa f1 F0):=fun _=>by kernel_rfl
def yPe(L:Nat):yIe.T:=ySa (yT7 L) (yAb (yM2 (yNS L) (yAb (yGm (yGc L)) L)) L)
theorem yX9{α:Type}(L:Nat):LO Tryz.f129 [1,1,1,0,1,0,0,1,0,0,1,1,0] (yJf.s (α:=α) (yAb (yGm (yGc L)) L)):=yJf.k (yZj (yGc L)) (tC (yYn L).ent tN) (lN _) (by kernel_rfl) L
theorem yX8{α:Type}(L:Nat):LO Tryz.f129 [1,1,1,0,1,0] (yJd.s (α:=α) (yAb (yM2 (yNS L) (yAb (yGm (yGc L)) L)) L)):=yJd.k (yZi (yNS L) (yAb (yGm (yGc L)) L)) (tC (xCw L).ent tN) (lS (lN _) (lS (lB (lS (lN _) (lS (lN _) (lB (lL (yX9 L)))))) (lN _))) (by kernel_rfl) L
theorem xFN(L:Nat):yIe.C (yPe L):=yIe.c (xFO (yT7 L) (yAb (yM2 (yNS L) (yAb (yGm (yGc L)) L)) L)) (tC (xJl L).ent tN) Tryz.func129 (by kernel_rfl) (lS (lN _) (lS (lS (lN _) (lQ (lX _) (lN _))) (lS (lN _) (lS (lS (lN _) (lB (lL (yX8 L)))) (lN _)))))
set_option maxRecDepth 100000
set_option maxHeartbeats 16000000
abbrev yIh:=fw2 64 (caC yBQ (caC cdR caN)) (cdT (caC yHN (caC cI caN)))
abbrev ySb(f1:yIe.T)(x0:yAJ)(x1:List (List V)):Option (yAE×Int×Unit):=
 yAB (f1 x0 x1) fun r1=>
 bif r1.2.1 !=0 then none else
 bif(r1.1.length:Int)==0 then
 some ((⟨[],0,0,3⟩:yAE),0,())
 else
 some ((⟨r1.1,0,0,0⟩:yAE),0,())
theorem xFQ(f1):yIh.Eq [yIe.s f1] (.two .no (.two .no (.two (.two .no (.two xT .no)) .no))) (ySb f1):=fun _=>by kernel_rfl
def yPg(L:Nat):yIh.T:=ySb (yPe L)
theorem xFP(L:Nat):yIh.C (yPg L):=yIh.c (xFQ (yPe L)) (tC (xFN L).ent tN) Tryz.func64 (by kernel_rfl) (lS (lN _) (lS (lN _) (lS (lS (lN _) (lQ (lX _) (lN _))) (lN _))))
abbrev yHh:=fw1 156 (caC cI caN) cdB
abbrev yVg(x0:Int):Option Bool:=
 bif decide (16<=x0) then
 some (decide (x0<=1099511627776))
 else
 some false
theorem xJc:yHh.Eq [] .no (yVg):=fun _=>by kernel_rfl
def yPQ(L:Nat):yHh.T:=yVg
theorem xBQ(L:Nat):yHh.C (yPQ L):=yHh.c (xJc) tN Tryz.func156 (by kernel_rfl) (lN _)
abbrev yMC:=fw1 100 (caC yJ5 caN) cdB
abbrev yVh(f1:yHh.T)(x0:yAc):Option Bool:=
 letI qa:=(x0.Kind==x0.Kind)&&((x0.By==x0.By)&&((x0.Serial==x0.Serial)&&((x0.Dead==0)&&((x0.Was==0)&&((x0.Span.Lo==0)&&((x0.Span.Hi==0)&&((x0.Mode==0)&&true)))))))
 yAB (f1 x0.By) fun r1=>
 bif !r1 then none else
 bif decide (x0.Serial<1) then none else
 bif decide (2147483648<x0.Serial) then none else
 bif decide (0<=x0.Span.Lo) then
 bif decide (x0.Span.Lo<=x0.Span.Hi) then
 bif x0.Kind==0 then
 some qa
 else
 bif x0.Kind==1 then
 some qa
 else
 bif x0.Kind==2 then none else
 bif x0.Kind==3 then none else
 bif x0.Kind==4 then none else
 bif x0.Kind==5 then none else
 some false
 else
 bif x0.Kind==0 then
 some qa
 else
 bif x0.Kind==1 then
 some qa
 else
 bif x0.Kind==2 then none else
 bif x0.Kind==3 then none else
 bif x0.Kind==4 then none else
 bif x0.Kind==5 then none else
 some false
 else
 bif x0.Kind==0 then
 some qa
 else
 bif x0.Kind==1 then
 some qa
 else
 bif x0.Kind==2 then none else
 bif x0.Kind==3 then none else
 bif x0.Kind==4 then none else
 bif x0.Kind==5 then none else
 some false
theorem xJe(f1):yMC.Eq [yHh.s f1] (.two .no (.two (.two .no (.two xT .no)) (.two .no (.two .no (.two (.two .no (.one (.two .no (.two .no (.two .no (.two xT (.two .no (.two xT (.two .no (.two xT (.two .no (.two xT .no)))))))))))) .no))))) (yVh f1):=fun _=>by kernel_rfl
def yTw(L:Nat):yMC.T:=yVh (yPQ L)
theorem xJd(L:Nat):yMC.C (yTw L):=yMC.c (xJe (yPQ L)) (tC (xBQ L).ent tN) Tryz.func100 (by kernel_rfl) (lS (lN _) (lS (lS (lN _) (lQ (lX _) (lN _))) (lS (lN _) (lS (lN _) (lS (lS (lN _) (lB (lS (lN _) (lQ (lN _) (lS (lN _) (lQ (lX _) (lS (lN _) (lQ (lX _) (lS (lN _) (lQ (lX _) (lS (lN _) (lQ (lX _) (lN _))))))))))))) (lN _))))))
abbrev yEV:=fw1 21 (caC yJ5 caN) (cdT (caC cdS (caC cI caN)))
abbrev ySS(f1:yMC.T)(f2:yDP.T)(x0:yAc):Option (ByteArray×Int×Unit):=
 yAB (f1 x0) fun r1=>
 bif !r1 then none else
 yAB (f2 ([[V.int .u8 (IntKind.u8.wrap x0.Kind)]]) 6 ([[V.int .i64 x0.By]])) fun r2=>
 gF r2.1 (0+r2.1.length)<|
 yAB (f2 (r2.1.take r2.1.length) 4 ([[V.int .i64 x0.Serial]])) fun r3=>
 bif x0.Kind==2 then none else
 bif x0.Kind==3 then none else
 bif x0.Kind==4 then none else
 bif x0.Kind==5 then none else
 gd (Nat.ble (0+r3.1.length) r3.1.length)<|
 gd ((bytesOf (r3.1.take r3.1.length)).isSome)<|
 some (yPv (r3.1.take r3.1.length),0,())
theorem xE3(f1 f2):yEV.Eq [yMC.s f1,yDP.s f2] (.two .no (.two (.two .no (.two xT .no)) (.two .no (.two .no (.two (.two .no (.one (.two .no (.two xT (.two .no (.two xT (.two .no (.two xT (.two .no (.two xT .no)))))))))) .no))))) (ySS f1 f2):=fun _=>by kernel_rfl
def yHg(L:Nat):yEV.T:=ySS (yTw L) (yCh L)
theorem yWr(L:Nat):yEV.C (yHg L):=yEV.c (xE3 (yTw L) (yCh L)) (tC (xJd L).ent (tC (yRs L).ent tN)) Tryz.func21 (by kernel_rfl) (lS (lN _) (lS (lS (lN _) (lQ (lX _) (lN _))) (lS (lN _) (lS (lN _) (lS (lS (lN _) (lB (lS (lN _) (lQ (lX _) (lS (lN _) (lQ (lX _) (lS (lN _) (lQ (lX _) (lS (lN _) (lQ (lX _) (lN _))))))))))) (lN _))))))
abbrev yMk:=ByteArray×Int×Int×Int×Unit
abbrev yQT:=Int×Unit
abbrev yHZ{α:Type}(s:yMk)(kn:yMk->Option α)(k0:yQT->Option α):Option α:=
 bif decide (0<=s.2.2.2.1) then
 gB (w64 (s.2.1+s.2.2.2.1)) s.1.size<|
 kn (s.1,s.2.1,w64 ((w64 (s.2.2.1*256))+(w64 (((s.1[(w64 (s.2.1+s.2.2.2.1)).toNat]?).getD 0).toNat:Int))),w64 (s.2.2.2.1-1),())
 else
 k0 (s.2.2.1,())
abbrev yMl:LW1 yMk yQT:=⟨(lvC 0 (mP cdS) (lvC 1 (mP cI) (lvC 8 (mP cI) (lvC 9 (mP cI) lvN)))),(.exit 0),(lvC 8 (mP cI) lvN)⟩
theorem xCR{α:Type}:yMl.Eq (α:=α) [] Tryz.f117 [1,1,1,1,0,1,0] .no (yHZ):=fun _ _ _=>by kernel_rfl
abbrev yEs:=fw3 117 (caC cdS (caC cI (caC cI caN))) (cdT (caC cI (caC cI caN)))
abbrev yVV(f1:yCs.T)(F0:LF1 yMk yQT (Int×Int×Unit))(x0:ByteArray)(x1:Int)(x2:Int):Option (Int×Int×Unit):=
 yAB (f1 x2) fun r1=>
 bif decide (r1<0) then
 some (0,2,())
 else
 bif decide (x1<0) then
 some (0,10,())
 else
 bif decide ((x0.size:Int)<x1) then
 some (0,10,())
 else
 bif decide (w64 ((x0.size:Int)-x1)<x2) then
 some (0,10,())
 else
 F0 (x0,x1,0,w64 (x2-1),()) (fun q2=>
 bif decide (1099511627776<q2.1) then
 some (0,10,())
 else
 some (q2.1,0,()))
theorem xJP(f1 F0):yEs.Eq [yCs.s f1] (.two .no (.two .no (.two .no (.two .no (.two (.two .no (.one (.lp (yMl.s F0)))) .no))))) (yVV f1 F0):=fun _=>by kernel_rfl
def yBj(L:Nat):yEs.T:=yVV (yFH L) (yAb (yHZ) L)
theorem xBA{α:Type}(L:Nat):LO Tryz.f117 [1,1,1,1,0,1,0] (yMl.s (α:=α) (yAb (yHZ) L)):=yMl.k (xCR) tN (lN _) (by kernel_rfl) L
theorem yVU(L:Nat):yEs.C (yBj L):=yEs.c (xJP (yFH L) (yAb (yHZ) L)) (tC (yP3 L).ent tN) Tryz.func117 (by kernel_rfl) (lS (lN _) (lS (lN _) (lS (lN _) (lS (lN _) (lS (lS (lN _) (lB (lL (xBA L)))) (lN _))))))
abbrev yCK:=fw1 45 (caC cdS caN) (cdT (caC yJ5 (caC cI caN)))
abbrev yTy(f1:yEs.T)(f2:yEV.T)(x0:ByteArray):Option (yAc×Int×Unit):=
 letI qd:=decide (0<(x0.size:Int))
 letI qa:=(((x0[0]?).getD 0).toNat:Int)
 letI qc:=IntKind.i8.wrap qa
 bif decide ((x0.size:Int)<11) then none else
 yAB (f1 x0 1 6) fun r1=>
 yAB (f1 x0 7 4) fun r2=>
 letI qb:=(⟨IntKind.i8.wrap qa,r1.1,r2.1,0,0,yAr.z,0⟩:yAc)
 bif r1.2.1 !=0 then none else
 bif r2.2.1 !=0 then none else
 gd qd<|
 bif decide (127<qa) then none else
 gd qd<|
 gd (decide (11<=(x0.size:Int)))<|
 bif qc==2 then none else
 bif qc==3 then none else
 bif qc==4 then none else
 bif qc==5 then none else
 yAB (f2 qb) fun r3=>
 bif r3.2.1 !=0 then none else
 bif !(r3.1.toList==x0.toList) then none else
 some (qb,0,())
theorem xHW(f1 f2):yCK.Eq [yEs.s f1,yEV.s f2] (.two .no (.two (.two .no (.two xT .no)) (.two .no (.two .no (.two (.two .no (.two xT .no)) (.two .no (.two .no (.two (.two .no (.one (.two .no (.two xT (.two .no (.two xT .no)))))) (.two .no (.two (.two .no (.two xT .no)) .no)))))))))) (yTy f1 f2):=fun _=>by kernel_rfl
def yCQ(L:Nat):yCK.T:=yTy (yBj L) (yHg L)
theorem yNN(L:Nat):yCK.C (yCQ L):=yCK.c (xHW (yBj L) (yHg L)) (tC (yVU L).ent (tC (yWr L).ent tN)) Tryz.func45 (by kernel_rfl) (lS (lN _) (lS (lS (lN _) (lQ (lX _) (lN _))) (lS (lN _) (lS (lN _) (lS (lS (lN _) (lQ (lX _) (lN _))) (lS (lN _) (lS (lN _) (lS (lS (lN _) (lB (lS (lN _) (lQ (lX _) (lS (lN _) (lQ (lX _) (lN _))))))) (lS (lN _) (lS (lS (lN _) (lQ (lX _) (lN _))) (lN _)))))))))))
abbrev yKR:=fw1 94 (caC cI caN) cI
abbrev yUX(f1:yHh.T)(x0:Int):Option Int:=
 yAB (f1 x0) fun r1=>
 bif !r1 then none else
 some (x0.tmod 16)
theorem xLq(f1):yKR.Eq [yHh.s f1] (.two .no (.two (.two .no (.two xT .no)) .no)) (yUX f1):=fun _=>by kernel_rfl
def yOd(L:Nat):yKR.T:=yUX (yPQ L)
theorem xDd(L:Nat):yKR.C (yOd L):=yKR.c (xLq (yPQ L)) (tC (xBQ L).ent tN) Tryz.func94 (by kernel_rfl) (lS (lN _) (lS (lS (lN _) (lQ (lX _) (lN _))) (lN _)))
abbrev yIb:=fw3 130 (caC yBQ (caC cI (caC cdS caN))) (cdT (caC yGv (caC cI caN)))
abbrev ySZ(f1:yCK.T)(f2:yAn.T)(f3:yKR.T)(x0:yAJ)(x1:Int)(x2:ByteArray):Option (yAH×Int×Unit):=
 yAB (f1 x2) fun r1=>
 bif r1.2.1 !=0 then
 some (yAH.z,2,())
 else
 yAB (f2 x0) fun r2=>
 bif !r2 then
 some (yAH.z,2,())
 else
 bif decide (x1<0) then
 some (yAH.z,2,())
 else
 bif decide (x0.Nodes<=x1) then
 some (yAH.z,2,())
 else
 yAB (f3 r1.1.By) fun r3=>
 bif r3 !=x1 then
 some (yAH.z,2,())
 else
 some ((⟨x1,x2,0,0,yAp.z,yAP.z⟩:yAH),0,())
theorem xFI(f1 f2 f3):yIb.Eq [yCK.s f1,yAn.s f2,yKR.s f3] .no (ySZ f1 f2 f3):=fun _=>by kernel_rfl
def yPa(L:Nat):yIb.T:=ySZ (yCQ L) (yBV L) (yOd L)
theorem xFH(L:Nat):yIb.C (yPa L):=yIb.c (xFI (yCQ L) (yBV L) (yOd L)) (tC (yNN L).ent (tC (yCi L).ent (tC (xDd L).ent tN))) Tryz.func130 (by kernel_rfl) (lN _)
end Go.Proofs.YtakljpcmbpaeaaaGreat
