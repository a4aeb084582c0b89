/- Typed functions. (printed by wip/sx) -/
import Derived.Test.YtakljpcmbpaeaaaGreatMountPlaysM35
set_option linter.unusedSimpArgs false
set_option linter.unusedVariables false
namespace Go.Proofs.YtakljpcmbpaeaaaGreat
open Go.RowKit
set_option maxRecDepth 100000
set_option maxHeartbeats 16000000
abbrev yGb:=fw1 125 (caC (cdI .i8) caN) cdB
abbrev yQS(x0:Int):Option Bool:=
 bif x0 !=13 then
 bif x0 !=0 then
 some (x0 !=1)
 else
 some false
 else
 some false
theorem xCO:yGb.Eq [] .no (yQS):=fun _=>by kernel_rfl
def yFo(L:Nat):yGb.T:=yQS
theorem xCN(L:Nat):yGb.C (yFo L):=yGb.c (xCO) tN Tryz.func125 (by kernel_rfl) (lN _)
abbrev yBm:=(List (List V))×Unit×Int×Int×Unit
abbrev yCS:=Unit
abbrev yCT:=Int×Unit
abbrev yB1{α:Type}(f1:yGb.T)(s:yBm)(kn:yBm->Option α)(k0:yCS->Option α)(k1:yCT->Option α):Option α:=
 letI qa:=s.2.2.2.1
 bif decide (qa<s.2.2.1) then
 gI s.1 [.i .i8] qa<|
 yAB (f1 (aI s.1 qa.toNat 0)) fun r1=>
 bif r1 then
 k1 (qa,())
 else
 kn (s.1,(()),s.2.2.1,w64 (qa+1),())
 else
 k0 (())
abbrev yBn:LW2 yBm yCS yCT:=⟨(lvC 0 (mP cdR) (lvC 1 (mP (cdF 125 caN)) (lvC 7 (mP cI) (lvC 8 (mP cI) lvN)))),(.exit 0),lvN,.ret,(lvC 4 (mP cI) lvN)⟩
theorem yI9{α:Type}(f1):yBn.Eq (α:=α) [yGb.s f1] Tryz.f182 [1,0,1,0] .no (yB1 f1):=fun _ _ _=>by kernel_rfl
abbrev yBD:=fw2 182 (caC cdR (caC (cdF 125 caN) caN)) cI
abbrev yEg(F0:LF2 yBm yCS yCT (Int))(x0:List (List V))(x1:Unit):Option Int:=
 F0 (x0,(()),(x0.length:Int),0,()) (fun q1=>
 some (-1)) (fun q2=>
 some q2.1)
theorem yLX(F0):yBD.Eq [] (.two .no (.two (.two .no (.one (.lp (yBn.s F0)))) .no)) (yEg F0):=fun _=>by kernel_rfl
def yC7(L:Nat):yBD.T:=yEg (yAf (yB1 (yFo L)) L)
theorem yIy{α:Type}(L:Nat):LO Tryz.f182 [1,0,1,0] (yBn.s (α:=α) (yAf (yB1 (yFo L)) L)):=yBn.k (yI9 (yFo L)) (tC (xCN L).ent tN) (lN _) (by kernel_rfl) L
theorem yLW(L:Nat):yBD.C (yC7 L):=yBD.c (yLX (yAf (yB1 (yFo L)) L)) tN Tryz.func182 (by kernel_rfl) (lS (lN _) (lS (lS (lN _) (lB (lL (yIy L)))) (lN _)))
abbrev yAu:=fw2 124 (caC cdR (caC (cdF 125 caN) caN)) cdB
abbrev yDg(f1:yBD.T)(x0:List (List V))(x1:Unit):Option Bool:=
 yAB (f1 x0 (())) fun r1=>
 some (decide (0<=r1))
theorem yI8(f1):yAu.Eq [(182,spF 1 [(125,(yBD.s f1).2)])] .no (yDg f1):=fun _=>by kernel_rfl
def yCd(L:Nat):yAu.T:=yDg (yC7 L)
theorem yI7(L:Nat):yAu.C (yCd L):=yAu.c (yI8 (yC7 L)) (tC (ySt (yIo (yLW L).ent yOD)) tN) Tryz.func124 (by kernel_rfl) (lN _)
abbrev yKC:=fw1 57 (caC cdR caN) cdB
abbrev yYg(f1:yAu.T)(x0:List (List V)):Option Bool:=
 yAB (f1 x0 (())) fun r1=>
 some !r1
theorem xGo(f1):yKC.Eq [(124,spF 1 [(125,(yAu.s f1).2)])] .no (yYg f1):=fun _=>by kernel_rfl
def yQ1(L:Nat):yKC.T:=yYg (yCd L)
theorem xGn(L:Nat):yKC.C (yQ1 L):=yKC.c (xGo (yCd L)) (tC (ySt (yIo (yI7 L).ent yOD)) tN) Tryz.func57 (by kernel_rfl) (lN _)
abbrev yDC:=fw1 232 (caC cI caN) cdB
abbrev yPE(x0:Int):Option Bool:=
 bif decide (1<=x0) then
 some (decide (x0<=6))
 else
 some false
theorem xAz:yDC.Eq [] .no (yPE):=fun _=>by kernel_rfl
def yEO(L:Nat):yDC.T:=yPE
theorem yTX(L:Nat):yDC.C (yEO L):=yDC.c (xAz) tN Tryz.func232 (by kernel_rfl) (lN _)
abbrev yPz:=ByteArray×Int×Int×Int×Int×Unit
abbrev yTV:=Int×Unit
abbrev yLp{α:Type}(s:yPz)(kn:yPz->Option α)(k0:yTV->Option α):Option α:=
 letI qa:=s.2.2.2.2.1
 bif decide (qa<s.2.2.2.1) then
 gB (w64 (s.2.1+qa)) s.1.size<|
 gd (!(decide (w64 (8*qa)<0)))<|
 kn (s.1,s.2.1,IntKind.i64.wrap ((BitVec.ofInt IntKind.i64.bits s.2.2.1 ||| BitVec.ofInt IntKind.i64.bits (IntKind.i64.wrap ((w64 (((s.1[(w64 (s.2.1+qa)).toNat]?).getD 0).toNat:Int))*2^(min (w64 (8*qa)).toNat IntKind.i64.bits)))).toNat:Int),s.2.2.2.1,w64 (qa+1),())
 else
 k0 (s.2.2.1,())
abbrev yP0:LW1 yPz yTV:=⟨(lvC 0 (mP cdS) (lvC 1 (mP cI) (lvC 6 (mP cI) (lvC 30 (mP cI) (lvC 31 (mP cI) lvN))))),(.exit 1),(lvC 6 (mP cI) lvN)⟩
theorem xGs{α:Type}:yP0.Eq (α:=α) [] Tryz.f234 [1,1,0,1,0] .no (yLp):=fun _ _ _=>by kernel_rfl
abbrev yGN:=fw3 234 (caC cdS (caC cI (caC cI caN))) (cdT (caC cI (caC cI caN)))
abbrev xAv(f1:yDC.T)(F0:LF1 yPz yTV (Int×Int×Unit))(x0:ByteArray)(x1:Int)(x2:Int):Option (Int×Int×Unit):=
 yAB (f1 x2) fun r1=>
 bif !r1 then
 some (0,2,())
 else
 bif decide (x1<0) then
 some (0,10,())
 else
 bif decide ((x0.size:Int)<x1) then
 some (0,10,())
 else
 bif decide (w64 ((x0.size:Int)-x1)<x2) then
 some (0,10,())
 else
 F0 (x0,x1,0,x2,0,()) (fun q2=>
 bif decide (1099511627776<q2.1) then
 some (0,10,())
 else
 some (q2.1,0,()))
theorem xNS(f1 F0):yGN.Eq [yDC.s f1] (.two .no (.two .no (.two (.two .no (.one (.lp (yP0.s F0)))) .no))) (xAv f1 F0):=fun _=>by kernel_rfl
def yCC(L:Nat):yGN.T:=xAv (yEO L) (yAb (yLp) L)
theorem xES{α:Type}(L:Nat):LO Tryz.f234 [1,1,0,1,0] (yP0.s (α:=α) (yAb (yLp) L)):=yP0.k (xGs) tN (lN _) (by kernel_rfl) L
theorem yWW(L:Nat):yGN.C (yCC L):=yGN.c (xNS (yEO L) (yAb (yLp) L)) (tC (yTX L).ent tN) Tryz.func234 (by kernel_rfl) (lS (lN _) (lS (lN _) (lS (lS (lN _) (lB (lL (xES L)))) (lN _))))
abbrev yEG:=fw1 181 (caC cI caN) cdB
abbrev yRb(x0:Int):Option Bool:=
 bif decide (16<=x0) then
 some (decide (x0<=1099511627776))
 else
 some false
theorem xD5:yEG.Eq [] .no (yRb):=fun _=>by kernel_rfl
def yJr(L:Nat):yEG.T:=yRb
theorem yWD(L:Nat):yEG.C (yJr L):=yEG.c (xD5) tN Tryz.func181 (by kernel_rfl) (lN _)
abbrev yCA:=fw1 185 (caC (cdP yY3) caN) cdB
abbrev yJs(f1:yEG.T)(x0:yAm):Option Bool:=
 letI qa:=(x0.Cmd.Span.Hi==0)&&true
 yAB (f1 x0.Cmd.By) fun r1=>
 bif !r1 then none else
 bif decide (x0.Cmd.Serial<1) then none else
 bif decide (2147483648<x0.Cmd.Serial) then none else
 bif x0.Cmd.Kind==0 then
 bif(x0.Cmd.Span.Lo==0)&&qa then
 bif x0.Cmd.Mode==0 then
 bif x0.Cmd.Dead==0 then
 bif x0.Cmd.Was==0 then
 some true
 else
 some false
 else
 some false
 else
 some false
 else
 some false
 else
 bif x0.Cmd.Kind==1 then
 bif(x0.Cmd.Span.Lo==0)&&qa then
 bif x0.Cmd.Mode==0 then
 bif x0.Cmd.Dead==0 then
 bif x0.Cmd.Was==0 then
 some true
 else
 some false
 else
 some false
 else
 some false
 else
 some false
 else
 bif x0.Cmd.Kind==2 then none else
 bif x0.Cmd.Kind==3 then none else
 bif x0.Cmd.Kind==4 then none else
 bif x0.Cmd.Kind==5 then none else
 some false
theorem yVJ(f1):yCA.Eq [yEG.s f1] (.two .no (.two (.two .no (.two xT .no)) (.two (.two .no (.one (.two .no (.two .no (.two .no (.two xT (.two .no (.two xT (.two .no (.two xT (.two .no (.two xT .no)))))))))))) .no))) (yJs f1):=fun _=>by kernel_rfl
def yC2(L:Nat):yCA.T:=yJs (yJr L)
theorem yO5(L:Nat):yCA.C (yC2 L):=yCA.c (yVJ (yJr L)) (tC (yWD L).ent tN) Tryz.func185 (by kernel_rfl) (lS (lN _) (lS (lS (lN _) (lQ (lX _) (lN _))) (lS (lS (lN _) (lB (lS (lN _) (lQ (lN _) (lS (lN _) (lQ (lX _) (lS (lN _) (lQ (lX _) (lS (lN _) (lQ (lX _) (lS (lN _) (lQ (lX _) (lN _))))))))))))) (lN _))))
abbrev yHx:=fw1 180 (caC yJ5 caN) cdB
abbrev yON(f1:yCA.T)(x0:yAc):Option Bool:=
 yAB (f1 (⟨x0,[]⟩:yAm)) fun r1=>
 some r1
theorem xD7(f1):yHx.Eq [yCA.s f1] .no (yON f1):=fun _=>by kernel_rfl
def yLk(L:Nat):yHx.T:=yON (yC2 L)
theorem xD6(L:Nat):yHx.C (yLk L):=yHx.c (xD7 (yC2 L)) (tC (yO5 L).ent tN) Tryz.func180 (by kernel_rfl) (lN _)
set_option maxRecDepth 100000
set_option maxHeartbeats 16000000
abbrev yBl:=fw1 118 (caC cdS caN) (cdT (caC yJ5 (caC cI caN)))
abbrev yQM(f1:yGN.T)(f2:yHx.T)(x0:ByteArray):Option (yAc×Int×Unit):=
 letI qb:=x0.extract 1 x0.size
 letI qd:=qb.extract 6 (qb.size)
 yAB (f1 x0 0 1) fun r1=>
 letI qa:=IntKind.i8.wrap (yEr false r1.1 127)
 bif r1.2.1 !=0 then
 yAB (f1 x0 0 6) fun r2=>
 bif r2.2.1 !=0 then
 yAB (f1 x0 0 4) fun r3=>
 bif r3.2.1 !=0 then none else
 gd (decide (4<=(x0.size:Int)))<|
 none
 else
 gd (decide (6<=(x0.size:Int)))<|
 yAB (f1 (x0.extract 6 x0.size) 0 4) fun r4=>
 bif r4.2.1 !=0 then none else
 gd (decide (4<=((x0.extract 6 x0.size).size:Int)))<|
 none
 else
 gd (decide (1<=(x0.size:Int)))<|
 yAB (f1 qb 0 6) fun r5=>
 bif r5.2.1 !=0 then
 yAB (f1 qb 0 4) fun r6=>
 bif r6.2.1 !=0 then
 bif qa==2 then none else
 bif qa==3 then none else
 bif qa==4 then none else
 gd (qa==5)<|
 none
 else
 gd (decide (4<=(qb.size:Int)))<|
 bif qa==2 then none else
 bif qa==3 then none else
 bif qa==4 then none else
 gd (qa==5)<|
 none
 else
 gd (decide (6<=(qb.size:Int)))<|
 yAB (f1 qd 0 4) fun r7=>
 letI qc:=(⟨IntKind.i8.wrap (yEr false r1.1 127),r5.1,r7.1,0,0,yAr.z,0⟩:yAc)
 bif r7.2.1 !=0 then
 bif qa==2 then none else
 bif qa==3 then none else
 bif qa==4 then none else
 gd (qa==5)<|
 none
 else
 gd (decide (4<=(qd.size:Int)))<|
 bif qa==2 then none else
 bif qa==3 then none else
 bif qa==4 then none else
 bif qa==5 then none else
 bif !((qd.extract 4 (qd.size)).toList==noS.toList) then none else
 yAB (f2 qc) fun r8=>
 bif !r8 then none else
 some (qc,0,())
theorem xCG(f1 f2):yBl.Eq [yGN.s f1,yHx.s f2] (.two .no (.two .no (.two .no (.two .no (.two (.two .no (.one (.two .no (.two xT (.two .no (.two xT .no)))))) (.two (.two .no (.two xT .no)) .no)))))) (yQM f1 f2):=fun _=>by kernel_rfl
def yBi(L:Nat):yBl.T:=yQM (yCC L) (yLk L)
theorem yI1(L:Nat):yBl.C (yBi L):=yBl.c (xCG (yCC L) (yLk L)) (tC (yWW L).ent (tC (xD6 L).ent tN)) Tryz.func118 (by kernel_rfl) (lS (lN _) (lS (lN _) (lS (lN _) (lS (lN _) (lS (lS (lN _) (lB (lS (lN _) (lQ (lX _) (lS (lN _) (lQ (lX _) (lN _))))))) (lS (lS (lN _) (lQ (lX _) (lN _))) (lN _)))))))
abbrev yFk:=fw1 119 (caC cI caN) cI
abbrev yPx(f1:yEG.T)(x0:Int):Option Int:=
 yAB (f1 x0) fun r1=>
 bif r1 then
 some (x0.tmod 16)
 else
 some (-1)
theorem xGM(f1):yFk.Eq [yEG.s f1] .no (yPx f1):=fun _=>by kernel_rfl
def yHy(L:Nat):yFk.T:=yPx (yJr L)
theorem yYW(L:Nat):yFk.C (yHy L):=yFk.c (xGM (yJr L)) (tC (yWD L).ent tN) Tryz.func119 (by kernel_rfl) (lN _)
abbrev yEP:=fw3 47 (caC yBQ (caC cI (caC cdS caN))) (cdT (caC yGv (caC cI caN)))
abbrev yRq(f1:yBl.T)(f2:yCy.T)(f3:yFk.T)(x0:yAJ)(x1:Int)(x2:ByteArray):Option (yAH×Int×Unit):=
 yAB (f1 x2) fun r1=>
 bif r1.2.1 !=0 then
 some (yAH.z,2,())
 else
 yAB (f2 x0) fun r2=>
 bif !r2 then
 some (yAH.z,2,())
 else
 bif decide (x1<0) then
 some (yAH.z,2,())
 else
 bif decide (x0.Nodes<=x1) then
 some (yAH.z,2,())
 else
 yAB (f3 r1.1.By) fun r3=>
 bif r3 !=x1 then
 some (yAH.z,2,())
 else
 some ((⟨x1,x2,0,0,yAp.z,yAP.z⟩:yAH),0,())
theorem xEV(f1 f2 f3):yEP.Eq [yBl.s f1,yCy.s f2,yFk.s f3] .no (yRq f1 f2 f3):=fun _=>by kernel_rfl
def yGB(L:Nat):yEP.T:=yRq (yBi L) (yFD L) (yHy L)
theorem yWY(L:Nat):yEP.C (yGB L):=yEP.c (xEV (yBi L) (yFD L) (yHy L)) (tC (yI1 L).ent (tC (yO8 L).ent (tC (yYW L).ent tN))) Tryz.func47 (by kernel_rfl) (lN _)
abbrev yDB:=fw1 128 (caC yJ5 caN) (cdT (caC cdS (caC cI caN)))
abbrev yO4(f1:yCA.T)(f2:yQ3.T)(x0:yAc):Option (ByteArray×Int×Unit):=
 yAB (f1 (⟨x0,[]⟩:yAm)) fun r1=>
 bif !r1 then none else
 yAB (f2 ([]) 1 ([[V.int .i64 (w64 x0.Kind)]])) fun r2=>
 gF r2.1 (0+r2.1.length)<|
 yAB (f2 (r2.1.take r2.1.length) 6 ([[V.int .i64 x0.By]])) fun r3=>
 gF r3.1 (0+r3.1.length)<|
 yAB (f2 (r3.1.take r3.1.length) 4 ([[V.int .i64 x0.Serial]])) fun r4=>
 bif x0.Kind==2 then none else
 bif x0.Kind==3 then none else
 bif x0.Kind==4 then none else
 bif x0.Kind==5 then none else
 gd (Nat.ble (0+r4.1.length) r4.1.length)<|
 gd ((bytesOf (r4.1.take r4.1.length)).isSome)<|
 some (yPv (r4.1.take r4.1.length),0,())
theorem xAV(f1 f2):yDB.Eq [yCA.s f1,yQ3.s f2] (.two .no (.two .no (.two (.two .no (.two xT .no)) (.two .no (.two .no (.two .no (.two (.two .no (.one (.two .no (.two xT (.two .no (.two xT (.two .no (.two xT (.two .no (.two xT .no)))))))))) .no))))))) (yO4 f1 f2):=fun _=>by kernel_rfl
def yDT(L:Nat):yDB.T:=yO4 (yC2 L) (yHY L)
theorem yTI(L:Nat):yDB.C (yDT L):=yDB.c (xAV (yC2 L) (yHY L)) (tC (yO5 L).ent (tC (xAw L).ent tN)) Tryz.func128 (by kernel_rfl) (lS (lN _) (lS (lN _) (lS (lS (lN _) (lQ (lX _) (lN _))) (lS (lN _) (lS (lN _) (lS (lN _) (lS (lS (lN _) (lB (lS (lN _) (lQ (lX _) (lS (lN _) (lQ (lX _) (lS (lN _) (lQ (lX _) (lS (lN _) (lQ (lX _) (lN _))))))))))) (lN _))))))))
abbrev yEE:=yAt×Int×(List (List V))×Int×Int×Unit
abbrev yHK:=Unit
abbrev yF9{α:Type}(s:yEE)(kn:yEE->Option α)(k0:yHK->Option α):Option α:=
 letI qa:=s.2.2.2.2.1
 bif decide (qa<s.2.2.2.1) then
 gI s.2.2.1 yCw.ks qa<|
 bif decide (aI s.2.2.1 qa.toNat 0<=s.2.1) then none else
 bif decide (s.1.g_.Blocks<=aI s.2.2.1 qa.toNat 0) then none else
 bif decide (w64 (s.1.g_.Per*256)<((aS s.2.2.1 qa.toNat 1).size:Int)) then none else
 kn (s.1,aI s.2.2.1 qa.toNat 0,s.2.2.1,s.2.2.2.1,w64 (qa+1),())
 else
 k0 (())
abbrev yEF:LW1 yEE yHK:=⟨(lvC 0 (mP (cdP yTF)) (lvC 3 (mP cI) (lvC 16 (mP cdR) (lvC 17 (mP cI) (lvC 18 (mP cI) lvN))))),(.exit 0),lvN⟩
theorem yTD{α:Type}:yEF.Eq (α:=α) [] Tryz.f283 [1,1,1,0,1,0] (.two .no (.two .no (.two (.one (.two .no (.two (.two .no (.two xT .no)) .no))) .no))) (yF9):=fun _ _ _=>by kernel_rfl
abbrev yDG:=fw1 283 (caC (cdP yTF) caN) cdB
abbrev yKp(f1:yCy.T)(F0:LF1 yEE yHK (Bool))(x0:yAt):Option Bool:=
 yAB (f1 x0.g_) fun r1=>
 bif !r1 then none else
 F0 (x0,(-1),x0.row_.l_,(x0.row_.l_.length:Int),0,()) (fun q2=>
 some true)
theorem yV9(f1 F0):yDG.Eq [yCy.s f1] (.two .no (.two (.two .no (.two xT .no)) (.two .no (.two (.two .no (.one (.lp (yEF.s F0)))) .no)))) (yKp f1 F0):=fun _=>by kernel_rfl
def yJD(L:Nat):yDG.T:=yKp (yFD L) (yAb (yF9) L)
theorem ySy{α:Type}(L:Nat):LO Tryz.f283 [1,1,1,0,1,0] (yEF.s (α:=α) (yAb (yF9) L)):=yEF.k (yTD) tN (lS (lN _) (lS (lN _) (lS (lB (lS (lN _) (lS (lS (lN _) (lQ (lX _) (lN _))) (lN _)))) (lN _)))) (by kernel_rfl) L
theorem yV8(L:Nat):yDG.C (yJD L):=yDG.c (yV9 (yFD L) (yAb (yF9) L)) (tC (yO8 L).ent tN) Tryz.func283 (by kernel_rfl) (lS (lN _) (lS (lS (lN _) (lQ (lX _) (lN _))) (lS (lN _) (lS (lS (lN _) (lB (lL (ySy L)))) (lN _)))))
abbrev yJ4:=fw2 235 (caC yBQ (caC cdR caN)) cdB
abbrev yTB(f1:yDG.T)(x0:yAJ)(x1:List (List V)):Option Bool:=
 yAB (f1 (⟨(⟨x1⟩:yB8),x0⟩:yAt)) fun r1=>
 some r1
theorem xGE(f1):yJ4.Eq [yDG.s f1] .no (yTB f1):=fun _=>by kernel_rfl
def yQq(L:Nat):yJ4.T:=yTB (yJD L)
theorem xGD(L:Nat):yJ4.C (yQq L):=yJ4.c (xGE (yJD L)) (tC (yV8 L).ent tN) Tryz.func235 (by kernel_rfl) (lN _)
set_option maxRecDepth 100000
set_option maxHeartbeats 16000000
abbrev yG7:=ByteArray×(List (List V))×Int×Int×Unit
abbrev yKo:=(List (List V))×Unit
abbrev yJC{α:Type}(s:yG7)(kn:yG7->Option α)(k0:yKo->Option α):Option α:=
 letI qg:=s.2.2.2.1
 letI qe:=(yEr false (s.1.size:Int) 256).toNat
 letI qd:=decide (0<=yEr false (s.1.size:Int) 256)
 letI qc:=decide (yEr false (s.1.size:Int) 256<=(s.1.size:Int))
 letI qb:=0+qg.toNat
 letI qf:=s.2.1.getD qb []
 letI qa:=qf.take 0++([V.str (s.1.extract 0 qe)]++qf.drop 1)
 bif decide (qg<s.2.2.1) then
 gd qd<|
 gd qc<|
 gd qd<|
 gd qc<|
 gB qg s.2.1.length<|
 gd (decide (0+qg.toNat<s.2.1.length))<|
 gd (Nat.ble 0 qb)<|
 gd (Nat.ble 1 qf.length)<|
 gW (s.2.1.set qb qa) s.2.1.length<|
 kn (s.1.extract qe s.1.size,s.2.1.set qb qa,s.2.2.1,w64 (qg+1),())
 else
 gW s.2.1 s.2.1.length<|
 k0 (s.2.1,())
abbrev yG8:LW1 yG7 yKo:=⟨(lvC 1 (mP cdS) (lvC 6 (mW 1) (lvC 22 (mP cI) (lvC 23 (mP cI) lvN)))),(.exit 0),(lvC 6 (mW 1) lvN)⟩
theorem yV7{α:Type}:yG8.Eq (α:=α) [] Tryz.f236 [1,1,1,1,0,1,0] .no (yJC):=fun _ _ _=>by kernel_rfl
abbrev yFA:=fw2 236 (caC yBQ (caC cdS caN)) (cdT (caC cdR (caC cI caN)))
abbrev yTC(f1:yCy.T)(F0:LF1 yG7 yKo ((List (List V))×Int×Unit))(x0:yAJ)(x1:ByteArray):Option ((List (List V))×Int×Unit):=
 yAB (f1 x0) fun r1=>
 bif !r1 then none else
 bif decide (w64 (x0.Per*256)<(x1.size:Int)) then none else
 gd (decide (0<=x0.Per))<|
 gd (decide (x0.Per<=x0.Per))<|
 gd (decide (16*x0.Per.toNat<=281474976710656))<|
 gd (decide (x0.Per<=9223372036854775807))<|
 gW (List.replicate x0.Per.toNat [V.str noS]) x0.Per.toNat<|
 F0 (x1,List.replicate x0.Per.toNat [V.str noS],(x0.Per.toNat:Int),0,()) (fun q2=>
 gF q2.1 (0+q2.1.length)<|
 some (q2.1.take q2.1.length,0,()))
theorem xAM(f1 F0):yFA.Eq [yCy.s f1] (.two .no (.two (.two .no (.two xT .no)) (.two (.two .no (.two xT .no)) (.two .no (.two (.two .no (.one (.lp (yG8.s F0)))) .no))))) (yTC f1 F0):=fun _=>by kernel_rfl
def yKn(L:Nat):yFA.T:=yTC (yFD L) (yAb (yJC) L)
theorem yVE{α:Type}(L:Nat):LO Tryz.f236 [1,1,1,1,0,1,0] (yG8.s (α:=α) (yAb (yJC) L)):=yG8.k (yV7) tN (lN _) (by kernel_rfl) L
theorem xAL(L:Nat):yFA.C (yKn L):=yFA.c (xAM (yFD L) (yAb (yJC) L)) (tC (yO8 L).ent tN) Tryz.func236 (by kernel_rfl) (lS (lN _) (lS (lS (lN _) (lQ (lX _) (lN _))) (lS (lS (lN _) (lQ (lX _) (lN _))) (lS (lN _) (lS (lS (lN _) (lB (lL (yVE L)))) (lN _))))))
abbrev yHz:=fw1 220 (caC yBQ caN) cdR
abbrev yRj(f1:yCy.T)(x0:yAJ):Option (List (List V)):=
 letI qc:=w64 (1+x0.Journal)
 letI qa:=w64 (x0.Nodes*1)
 letI qb:=w64 ((w64 ((w64 (1+qa))+qa))+(w64 (x0.Log*1)))
 yAB (f1 x0) fun r1=>
 bif !r1 then
 some ([])
 else
 some ([[V.int .i64 0,V.int .i64 1,V.int .i8 1,V.int .i64 1],[V.int .i64 1,V.int .i64 qa,V.int .i8 2,V.int .i64 1],[V.int .i64 (w64 (1+qa)),V.int .i64 qa,V.int .i8 3,V.int .i64 1],[V.int .i64 (w64 ((w64 (1+qa))+qa)),V.int .i64 (w64 (x0.Log*1)),V.int .i8 4,V.int .i64 1],[V.int .i64 qb,V.int .i64 (w64 (x0.Slots*qc)),V.int .i8 6,V.int .i64 qc],[V.int .i64 (w64 (qb+(w64 (x0.Slots*qc)))),V.int .i64 (w64 (x0.Blocks*x0.Per)),V.int .i8 7,V.int .i64 x0.Per]])
theorem xEB(f1):yHz.Eq [yCy.s f1] .no (yRj f1):=fun _=>by kernel_rfl
def yLn(L:Nat):yHz.T:=yRj (yFD L)
theorem xEA(L:Nat):yHz.C (yLn L):=yHz.c (xEB (yFD L)) (tC (yO8 L).ent tN) Tryz.func220 (by kernel_rfl) (lN _)
abbrev yOP:=Int×yAK×(List (List V))×Int×Int×Unit
abbrev yRh:=yAK×Unit
abbrev yRi:=yAK×Unit
abbrev yHQ{α:Type}(s:yOP)(kn:yOP->Option α)(k0:yRh->Option α)(k1:yRi->Option α):Option α:=
 letI qb:=s.2.2.1
 letI qa:=s.2.2.2.2.1
 bif decide (qa<s.2.2.2.1) then
 gI qb yAK.ks qa<|
 bif(aI qb qa.toNat 2)==s.1 then
 k1 ((⟨(⟨aI qb qa.toNat 0,aI qb qa.toNat 1⟩:yAs),aI qb qa.toNat 2,aI qb qa.toNat 3⟩:yAK),())
 else
 kn (s.1,s.2.1,qb,s.2.2.2.1,w64 (qa+1),())
 else
 k0 (s.2.1,())
abbrev yOQ:LW2 yOP yRh yRi:=⟨(lvC 1 (mP (cdI .i8)) (lvC 4 yRm (lvC 8 (mP cdR) (lvC 9 (mP cI) (lvC 10 (mP cI) lvN))))),(.exit 0),(lvC 4 yRm lvN),.ret,(lvC 4 yRm lvN)⟩
theorem xD9{α:Type}:yOQ.Eq (α:=α) [] Tryz.f167 [1,0,1,0] .no (yHQ):=fun _ _ _=>by kernel_rfl
abbrev yOq:=fw2 167 (caC yBQ (caC (cdI .i8) caN)) xD1
abbrev yXb(f1:yHz.T)(F0:LF2 yOP yRh yRi (yAK))(x0:yAJ)(x1:Int):Option yAK:=
 yAB (f1 x0) fun r1=>
 F0 (x1,yAK.z,r1,(r1.length:Int),0,()) (fun q2=>
 some (⟨yAs.z,0,1⟩:yAK)) (fun q3=>
 some q3.1)
theorem xLP(f1 F0):yOq.Eq [yHz.s f1] (.two .no (.two (.two .no (.one (.lp (yOQ.s F0)))) .no)) (yXb f1 F0):=fun _=>by kernel_rfl
def yWL(L:Nat):yOq.T:=yXb (yLn L) (yAf (yHQ) L)
theorem xCK{α:Type}(L:Nat):LO Tryz.f167 [1,0,1,0] (yOQ.s (α:=α) (yAf (yHQ) L)):=yOQ.k (xD9) tN (lN _) (by kernel_rfl) L
theorem xLO(L:Nat):yOq.C (yWL L):=yOq.c (xLP (yLn L) (yAf (yHQ) L)) (tC (xEA L).ent tN) Tryz.func167 (by kernel_rfl) (lS (lN _) (lS (lS (lN _) (lB (lL (xCK L)))) (lN _)))
abbrev yD3:=fw2 190 (caC xB9 (caC cI caN)) cI
abbrev yJE(x0:yAs)(x1:Int):Option Int:=
 bif decide (x1<0) then
 some (-1)
 else
 bif decide (x0.many_<=x1) then
 some (-1)
 else
 some (w64 (x0.first_+x1))
theorem yY7:yD3.Eq [] .no (yJE):=fun _=>by kernel_rfl
def yGZ(L:Nat):yD3.T:=yJE
theorem yY6(L:Nat):yD3.C (yGZ L):=yD3.c (yY7) tN Tryz.func190 (by kernel_rfl) (lN _)
abbrev yHB:=fw4 140 (caC yBQ (caC (cdI .i8) (caC cI (caC cI caN)))) cI
abbrev yWN(f1:yOq.T)(f2:yD3.T)(x0:yAJ)(x1:Int)(x2:Int)(x3:Int):Option Int:=
 yAB (f1 x0 x1) fun r1=>
 bif decide (x2<0) then
 some (-1)
 else
 gd (!(decide (r1.per_=0)))<|
 bif decide (w64 (r1.stretch_.many_.tdiv r1.per_)<=x2) then
 some (-1)
 else
 bif decide (x3<0) then
 some (-1)
 else
 bif decide (r1.per_<=x3) then
 some (-1)
 else
 yAB (f2 r1.stretch_ (w64 ((w64 (x2*r1.per_))+x3))) fun r2=>
 some r2
theorem xO4(f1 f2):yHB.Eq [yOq.s f1,yD3.s f2] .no (yWN f1 f2):=fun _=>by kernel_rfl
def yNH(L:Nat):yHB.T:=yWN (yWL L) (yGZ L)
theorem yWM(L:Nat):yHB.C (yNH L):=yHB.c (xO4 (yWL L) (yGZ L)) (tC (xLO L).ent (tC (yY6 L).ent tN)) Tryz.func140 (by kernel_rfl) (lN _)
abbrev yOn:=fw3 237 (caC yBQ (caC cI (caC cI caN))) cI
abbrev xDO(f1:yHB.T)(x0:yAJ)(x1:Int)(x2:Int):Option Int:=
 yAB (f1 x0 7 x1 x2) fun r1=>
 some r1
theorem xLJ(f1):yOn.Eq [yHB.s f1] .no (xDO f1):=fun _=>by kernel_rfl
def yRf(L:Nat):yOn.T:=xDO (yNH L)
theorem xLI(L:Nat):yOn.C (yRf L):=yOn.c (xLJ (yNH L)) (tC (yWM L).ent tN) Tryz.func237 (by kernel_rfl) (lN _)
set_option maxRecDepth 100000
set_option maxHeartbeats 16000000
abbrev yHt:=yAJ×(List (List V))×yEm×(List (List V))×Int×Int×(List (List V))×Int×Int×Unit
abbrev yLi:=yAJ×(List (List V))×(List (List V))×Int×Int×Unit
abbrev yE9{α:Type}(f1:yOn.T)(s:yHt)(kn:yHt->Option α)(k0:yLi->Option α):Option α:=
 letI qa:=s.2.2.2.2.2.2.2.2.1
 bif decide (qa<s.2.2.2.2.2.2.2.1) then
 gI s.2.2.2.2.2.2.1 kS qa<|
 yAB (f1 s.1 s.2.2.1.N qa) fun r1=>
 letI qb:= [[V.int .i64 r1,V.str (aS s.2.2.2.2.2.2.1 qa.toNat 0)]]
 gd (Nat.beq (0+s.2.1.length) s.2.1.length)<|
 gM (s.2.1.length+1) 24<|
 gA (s.2.1++qb) (s.2.1.length+1)<|
 kn (s.1,s.2.1++qb,s.2.2.1,s.2.2.2.1,s.2.2.2.2.1,s.2.2.2.2.2.1,s.2.2.2.2.2.2.1,s.2.2.2.2.2.2.2.1,w64 (qa+1),())
 else
 gA s.2.1 s.2.1.length<|
 k0 (s.1,s.2.1,s.2.2.2.1,s.2.2.2.2.1,s.2.2.2.2.2.1,())
abbrev yHu:LW1 yHt yLi:=⟨(lvC 2 yOI (lvC 4 (mA 2) (lvC 7 xPF (lvC 16 (mP cdR) (lvC 17 (mP cI) (lvC 18 (mP cI) (lvC 29 (mP cdR) (lvC 30 (mP cI) (lvC 31 (mP cI) lvN))))))))),(.exit 2),(lvC 2 yOI (lvC 4 (mA 2) (lvC 16 (mP cdR) (lvC 17 (mP cI) (lvC 18 (mP cI) lvN)))))⟩
theorem yXT{α:Type}(f1):yHu.Eq (α:=α) [yOn.s f1] Tryz.f183 [1,1,0,1,0,0,1,1,0,0,1,1,1,0] .no (yE9 f1):=fun _ _ _=>by kernel_rfl
abbrev yHr:=yAJ×(List (List V))×(List (List V))×Int×Int×Unit
abbrev yLh:=(List (List V))×Unit
abbrev yKm{α:Type}(f1:yFA.T)(F1:LF1 yHt yLi α)(s:yHr)(kn:yHr->Option α)(k0:yLh->Option α):Option α:=
 letI qa:=s.2.2.2.2.1
 bif decide (qa<s.2.2.2.1) then
 gI s.2.2.1 yCw.ks qa<|
 yAB (f1 s.1 (aS s.2.2.1 qa.toNat 1)) fun r1=>
 gA s.2.1 s.2.1.length<|
 F1 (s.1,s.2.1,(⟨aI s.2.2.1 qa.toNat 0,aS s.2.2.1 qa.toNat 1⟩:yEm),s.2.2.1,s.2.2.2.1,qa,r1.1,(r1.1.length:Int),0,()) (fun q2=>
 gA q2.2.1 q2.2.1.length<|
 kn (q2.1,q2.2.1,q2.2.2.1,q2.2.2.2.1,w64 (q2.2.2.2.2.1+1),()))
 else
 gA s.2.1 s.2.1.length<|
 k0 (s.2.1,())
abbrev yHs:LW1 yHr yLh:=⟨(lvC 2 yOI (lvC 4 (mA 2) (lvC 16 (mP cdR) (lvC 17 (mP cI) (lvC 18 (mP cI) lvN))))),(.exit 0),(lvC 4 (mA 2) lvN)⟩
theorem yXS{α:Type}(f1 F1):yHs.Eq (α:=α) [yFA.s f1] Tryz.f183 [1,1,0,1,0] (.two .no (.two .no (.two (.one (.two .no (.two .no (.two .no (.one (.lp (yHu.s F1))))))) .no))) (yKm f1 F1):=fun _ _ _=>by kernel_rfl
abbrev yGT:=fw2 183 (caC yBQ (caC cdR caN)) (cdT (caC cdR (caC cI caN)))
abbrev yQH(f1:yJ4.T)(F0:LF1 yHr yLh ((List (List V))×Int×Unit))(x0:yAJ)(x1:List (List V)):Option ((List (List V))×Int×Unit):=
 yAB (f1 x0 x1) fun r1=>
 bif !r1 then none else
 F0 (x0,[],x1,(x1.length:Int),0,()) (fun q2=>
 gF q2.1 (0+q2.1.length)<|
 some (q2.1.take q2.1.length,0,()))
theorem xB7(f1 F0):yGT.Eq [yJ4.s f1] (.two .no (.two (.two .no (.two xT .no)) (.two (.two .no (.one (.lp (yHs.s F0)))) .no))) (yQH f1 F0):=fun _=>by kernel_rfl
def yNC(L:Nat):yGT.T:=yQH (yQq L) (yAb (yKm (yKn L) (yAb (yE9 (yRf L)) L)) L)
theorem yV6{α:Type}(L:Nat):LO Tryz.f183 [1,1,0,1,0,0,1,1,0,0,1,1,1,0] (yHu.s (α:=α) (yAb (yE9 (yRf L)) L)):=yHu.k (yXT (yRf L)) (tC (xLI L).ent tN) (lN _) (by kernel_rfl) L
theorem yV5{α:Type}(L:Nat):LO Tryz.f183 [1,1,0,1,0] (yHs.s (α:=α) (yAb (yKm (yKn L) (yAb (yE9 (yRf L)) L)) L)):=yHs.k (yXS (yKn L) (yAb (yE9 (yRf L)) L)) (tC (xAL L).ent tN) (lS (lN _) (lS (lN _) (lS (lB (lS (lN _) (lS (lN _) (lS (lN _) (lB (lL (yV6 L))))))) (lN _)))) (by kernel_rfl) L
theorem xB6(L:Nat):yGT.C (yNC L):=yGT.c (xB7 (yQq L) (yAb (yKm (yKn L) (yAb (yE9 (yRf L)) L)) L)) (tC (xGD L).ent tN) Tryz.func183 (by kernel_rfl) (lS (lN _) (lS (lS (lN _) (lQ (lX _) (lN _))) (lS (lS (lN _) (lB (lL (yV5 L)))) (lN _))))
abbrev yGr:=fw2 126 (caC yBQ (caC cdR caN)) (cdT (caC yHN (caC cI caN)))
abbrev yQj(f1:yGT.T)(x0:yAJ)(x1:List (List V)):Option (yAE×Int×Unit):=
 yAB (f1 x0 x1) fun r1=>
 bif r1.2.1==0 then
 bif(r1.1.length:Int)==0 then
 some ((⟨r1.1,0,0,3⟩:yAE),r1.2.1,())
 else
 some ((⟨r1.1,0,0,0⟩:yAE),r1.2.1,())
 else
 some ((⟨r1.1,0,0,0⟩:yAE),r1.2.1,())
theorem xC4(f1):yGr.Eq [yGT.s f1] .no (yQj f1):=fun _=>by kernel_rfl
def yNW(L:Nat):yGr.T:=yQj (yNC L)
theorem xC3(L:Nat):yGr.C (yNW L):=yGr.c (xC4 (yNC L)) (tC (xB6 L).ent tN) Tryz.func126 (by kernel_rfl) (lN _)
abbrev yC6:=fw1 184 (caC (cdP ySp) caN) cdB
abbrev yPk(x0:yAe):Option Bool:=
 some (decide (2<x0.Settling.At))
theorem yVt:yC6.Eq [] .no (yPk):=fun _=>by kernel_rfl
def yMO(L:Nat):yC6.T:=yPk
theorem yVs(L:Nat):yC6.C (yMO L):=yC6.c (yVt) tN Tryz.func184 (by kernel_rfl) (lN _)
abbrev yEY:=fw1 127 (caC yHN caN) cdB
abbrev yXB(f1:yC6.T)(x0:yAE):Option Bool:=
 yAB (f1 (⟨x0,0,noS⟩:yAe)) fun r1=>
 some r1
theorem xFh(f1):yEY.Eq [yC6.s f1] .no (yXB f1):=fun _=>by kernel_rfl
def yMN(L:Nat):yEY.T:=yXB (yMO L)
theorem yXA(L:Nat):yEY.C (yMN L):=yEY.c (xFh (yMO L)) (tC (yVs L).ent tN) Tryz.func127 (by kernel_rfl) (lN _)
set_option maxRecDepth 100000
set_option maxHeartbeats 16000000
abbrev yEN:=fw2 13 (caC yBQ (caC yDS caN)) (cdT (caC yDS (caC yKr (caC cdB caN))))
abbrev yRn(f1:yCy.T)(f2:yKC.T)(f3:yGr.T)(f4:yEY.T)(f5:yDB.T)(f6:yEP.T)(x0:yAJ)(x1:yAL):Option (yAL×yAC×Bool×Unit):=
 letI qd:=(⟨241,noS,false⟩:yAC)
 letI qc:=x1.Serial+1
 letI qb:=f5 (⟨0,x1.Key,w64 qc,0,0,yAr.z,0⟩:yAc)
 letI qa:=(⟨2,noS,false⟩:yAC)
 yAB (f1 x0) fun r1=>
 bif !r1 then
 some ({x1 with At:=0,P:=yAH.z,St:=yAE.z },qa,true,())
 else
 bif decide (x1.Num<0) then
 some ({x1 with At:=0,P:=yAH.z,St:=yAE.z },qa,true,())
 else
 bif decide (x0.Nodes<=x1.Num) then
 some ({x1 with At:=0,P:=yAH.z,St:=yAE.z },qa,true,())
 else
 yAB (f2 ([[V.int .i8 x1.Op.Kind]])) fun r2=>
 bif !r2 then
 some ({x1 with At:=0,P:=yAH.z,St:=yAE.z },qa,true,())
 else
 bif x1.Op.Kind==1 then
 yAB (f3 x0 x1.Pend) fun r3=>
 bif !x1.Mounted then
 some ({x1 with At:=0,P:=yAH.z,St:=yAE.z },qd,true,())
 else
 bif x1.Txn.Open then
 some ({x1 with At:=0,P:=yAH.z,St:=yAE.z },(⟨252,noS,false⟩:yAC),true,())
 else
 bif r3.2.1 !=0 then
 some ({x1 with At:=0,P:=yAH.z,St:=yAE.z },qa,true,())
 else
 yAB (f4 r3.1) fun r4=>
 bif r4 then
 yAB (f5 (⟨1,x1.Key,w64 qc,0,0,yAr.z,0⟩:yAc)) fun r5=>
 yAB (f6 x0 x1.Num r5.1) fun r6=>
 bif r5.2.1 !=0 then
 some ({x1 with At:=0,P:=yAH.z,St:=yAE.z },qa,true,())
 else
 bif r6.2.1 !=0 then
 some ({x1 with At:=0,P:=yAH.z,St:=yAE.z },qa,true,())
 else
 some ({x1 with Serial:=w64 qc,At:=7,P:=r6.1 },yAC.z,false,())
 else
 some ({x1 with At:=6,St:=r3.1 },yAC.z,false,())
 else
 bif x1.Op.Kind==13 then
 bif x1.Key !=0 then
 some ({x1 with At:=0,P:=yAH.z,St:=yAE.z },yAC.z,true,())
 else
 bif x1.Op.Kind==0 then
 bif x1.Mounted then
 some ({x1 with At:=0,P:=yAH.z,St:=yAE.z },qd,true,())
 else
 bif x1.Key !=0 then
 yAB qb fun r7=>
 yAB (f6 x0 x1.Num r7.1) fun r8=>
 bif r7.2.1 !=0 then
 some ({x1 with At:=0,P:=yAH.z,St:=yAE.z },qa,true,())
 else
 bif r8.2.1 !=0 then
 some ({x1 with At:=0,P:=yAH.z,St:=yAE.z },qa,true,())
 else
 some ({x1 with Serial:=w64 qc,At:=4,P:=r8.1 },yAC.z,false,())
 else
 some ({x1 with At:=0 },yAC.z,false,())
 else
 bif x1.Key !=0 then
 yAB qb fun r9=>
 yAB (f6 x0 x1.Num r9.1) fun r10=>
 bif r9.2.1 !=0 then
 some ({x1 with At:=0,P:=yAH.z,St:=yAE.z },qa,true,())
 else
 bif r10.2.1 !=0 then
 some ({x1 with At:=0,P:=yAH.z,St:=yAE.z },qa,true,())
 else
 some ({x1 with Serial:=w64 qc,At:=4,P:=r10.1 },yAC.z,false,())
 else
 some ({x1 with At:=0 },yAC.z,false,())
 else
 bif x1.Op.Kind==0 then
 bif x1.Mounted then
 some ({x1 with At:=0,P:=yAH.z,St:=yAE.z },qd,true,())
 else
 bif x1.Key !=0 then
 yAB qb fun r11=>
 yAB (f6 x0 x1.Num r11.1) fun r12=>
 bif r11.2.1 !=0 then
 some ({x1 with At:=0,P:=yAH.z,St:=yAE.z },qa,true,())
 else
 bif r12.2.1 !=0 then
 some ({x1 with At:=0,P:=yAH.z,St:=yAE.z },qa,true,())
 else
 some ({x1 with Serial:=w64 qc,At:=4,P:=r12.1 },yAC.z,false,())
 else
 some ({x1 with At:=0 },yAC.z,false,())
 else
 bif x1.Key !=0 then
 yAB qb fun r13=>
 yAB (f6 x0 x1.Num r13.1) fun r14=>
 bif r13.2.1 !=0 then
 some ({x1 with At:=0,P:=yAH.z,St:=yAE.z },qa,true,())
 else
 bif r14.2.1 !=0 then
 some ({x1 with At:=0,P:=yAH.z,St:=yAE.z },qa,true,())
 else
 some ({x1 with Serial:=w64 qc,At:=4,P:=r14.1 },yAC.z,false,())
 else
 some ({x1 with At:=0 },yAC.z,false,())
theorem xEK(f1 f2 f3 f4 f5 f6):yEN.Eq [yCy.s f1,yKC.s f2,yGr.s f3,yEY.s f4,yDB.s f5,yEP.s f6] .no (yRn f1 f2 f3 f4 f5 f6):=fun _=>by kernel_rfl
def yDO(L:Nat):yEN.T:=yRn (yFD L) (yQ1 L) (yNW L) (yMN L) (yDT L) (yGB L)
theorem yWT(L:Nat):yEN.C (yDO L):=yEN.c (xEK (yFD L) (yQ1 L) (yNW L) (yMN L) (yDT L) (yGB L)) (tC (yO8 L).ent (tC (xGn L).ent (tC (xC3 L).ent (tC (yXA L).ent (tC (yTI L).ent (tC (yWY L).ent tN)))))) Tryz.func13 (by kernel_rfl) (lN _)
abbrev yH6:=fw1 77 (caC cI caN) yKq
abbrev yRo(x0:Int):Option yAV:=
 bif decide (x0<0) then none else
 some (⟨1,x0,noS,0⟩:yAV)
theorem xEM:yH6.Eq [] (.two .no (.two (.two .no (.two xT .no)) .no)) (yRo):=fun _=>by kernel_rfl
def yPC(L:Nat):yH6.T:=yRo
theorem xEL(L:Nat):yH6.C (yPC L):=yH6.c (xEM) tN Tryz.func77 (by kernel_rfl) (lS (lN _) (lS (lS (lN _) (lQ (lX _) (lN _))) (lN _)))
abbrev yB3:=mw1 189 (zW 1 (zP cI (zP (cdI .i8) zN))) 3 (caC cdS caN) (cdT (caC cdS (caC cI caN)))
abbrev yIx(f1:yQ3.T)(f2:yWE.T)(x0:(List (List V))×Int×Int×Unit)(x1:ByteArray):Option ((ByteArray×Int×Unit)×((List (List V))×Int×Int×Unit)):=
 letI qh:=yCj x1
 letI qg:=x0.2.2.1
 letI qe:= [[V.int .u8 (IntKind.u8.wrap qg)]]
 letI qb:=qh.length
 letI qf:=1+qb
 letI qa:=qe++qh
 letI qi:=qa.take qf
 bif decide (qg<1) then
 gW x0.1 x0.1.length<|
 some ((noS,2,()),(x0.1,x0.2.1,qg,()))
 else
 bif decide (505<(x1.size:Int)) then
 gW x0.1 x0.1.length<|
 some ((noS,2,()),(x0.1,x0.2.1,qg,()))
 else
 yAB (f1 qe 2 ([[V.int .i64 (x1.size:Int)]])) fun r1=>
 letI qd:=r1.1.length+qb
 letI qc:=r1.1++qh
 letI qj:=qc.take qd
 bif r1.2.1 !=0 then
 gM qf 1<|
 gF qa (0+qf)<|
 yAB (f2 qi) fun r2=>
 gF qa (0+qf)<|
 yAB (f1 qi 4 ([[V.int .i64 r2]])) fun r3=>
 bif r3.2.1 !=0 then
 gd (Nat.ble (0+qf) (qa.length))<|
 gd ((bytesOf qi).isSome)<|
 gd (Nat.beq (max 1 (min 2000000 (qa.length))) 0)<|
 gW qa qf<|
 some ((yPv qi,2,()),(qe++qh,2,qg,()))
 else
 gd (Nat.ble (0+r3.1.length) r3.1.length)<|
 gd ((bytesOf (r3.1.take r3.1.length)).isSome)<|
 gW r3.1 r3.1.length<|
 some ((yPv (r3.1.take r3.1.length),2,()),(r3.1,2,qg,()))
 else
 gd (Nat.beq (0+r1.1.length) r1.1.length)<|
 gM qd 1<|
 gF qc (0+qd)<|
 yAB (f2 qj) fun r4=>
 gF qc (0+qd)<|
 yAB (f1 qj 4 ([[V.int .i64 r4]])) fun r5=>
 bif r5.2.1 !=0 then
 gd (Nat.ble (0+qd) (qc.length))<|
 gd ((bytesOf qj).isSome)<|
 gd (Nat.beq (max 0 (min 2000000 (qc.length))) 0)<|
 gW qc qd<|
 some ((yPv qj,2,()),(r1.1++qh,2,qg,()))
 else
 gd (Nat.ble (0+r5.1.length) r5.1.length)<|
 gd ((bytesOf (r5.1.take r5.1.length)).isSome)<|
 gW r5.1 r5.1.length<|
 some ((yPv (r5.1.take r5.1.length),x0.2.1,()),(r5.1,x0.2.1,qg,()))
theorem yUq(f1 f2):yB3.Eq [yQ3.s f1,yWE.s f2] .no (yIx f1 f2):=fun _ _=>by kernel_rfl
def yCk(L:Nat):yB3.T:=yIx (yHY L) (yVK L)
theorem yOJ(L:Nat):yB3.C (yCk L):=yB3.c (yUq (yHY L) (yVK L)) (tC (xAw L).ent (tC (xGO L).ent tN)) Tryz.func189 (by kernel_rfl) (lN _)
set_option maxRecDepth 100000
set_option maxHeartbeats 16000000
abbrev yM8:=ByteArray×(List (List V))×((List (List V))×Int×Int×Unit)×(List (List V))×Int×Int×Unit
abbrev yQh:=ByteArray×((List (List V))×Int×Int×Unit)×Unit
abbrev yQi:=ByteArray×Int×Unit
abbrev yF6{α:Type}(f1:yQ3.T)(s:yM8)(kn:yM8->Option α)(k0:yQh->Option α)(k1:yQi->Option α):Option α:=
 letI qb:=s.2.2.1.1
 letI qa:=s.2.2.2.2.2.1
 bif decide (qa<s.2.2.2.2.1) then
 gI s.2.2.2.1 kI qa<|
 gI s.2.1 kI qa<|
 gF qb (0+qb.length)<|
 yAB (f1 (qb.take qb.length) (aI s.2.1 qa.toNat 0) ([[V.int .i64 (aI s.2.2.2.1 qa.toNat 0)]])) fun r1=>
 bif r1.2.1 !=0 then
 k1 (noS,2,())
 else
 bif s.2.2.1.2.1 !=0 then
 k1 (noS,2,())
 else
 bif decide (505<(r1.1.length:Int)) then
 k1 (noS,2,())
 else
 gW r1.1 r1.1.length<|
 kn (s.1,s.2.1,(r1.1,s.2.2.1.2.1,s.2.2.1.2.2.1,()),s.2.2.2.1,s.2.2.2.2.1,w64 (qa+1),())
 else
 gW qb qb.length<|
 k0 (s.1,(qb,s.2.2.1.2.1,s.2.2.1.2.2.1,()),())
abbrev yM9:LW2 yM8 yQh yQi:=⟨(lvC 1 (mP cdS) (lvC 2 (mP cdR) (lvC 10 (mO (zW 1 (zP cI (zP (cdI .i8) zN))) 3) (lvC 21 (mP cdR) (lvC 22 (mP cI) (lvC 23 (mP cI) lvN)))))),(.exit 0),(lvC 1 (mP cdS) (lvC 10 (mO (zW 1 (zP cI (zP (cdI .i8) zN))) 3) lvN)),.ret,(lvC 8 (mP cdS) (lvC 9 (mP cI) lvN))⟩
theorem xC2{α:Type}(f1):yM9.Eq (α:=α) [yQ3.s f1] Tryz.f139 [1,1,1,0,1,0] .no (yF6 f1):=fun _ _ _=>by kernel_rfl
abbrev yHl:=fw4 139 (caC (cdI .i8) (caC cdS (caC cdR (caC cdR caN)))) (cdT (caC cdS (caC cI caN)))
abbrev yVo(f1:yB3.T)(F0:LF2 yM8 yQh yQi (ByteArray×Int×Unit))(x0:Int)(x1:ByteArray)(x2:List (List V))(x3:List (List V)):Option (ByteArray×Int×Unit):=
 bif(x2.length:Int) !=(x3.length:Int) then
 some (noS,2,())
 else
 F0 (x1,x2,([],0,x0,()),x3,(x3.length:Int),0,()) (fun q1=>
 letI qa:=q1.2.1.1
 letI qb:=qa.take qa.length
 gd (Nat.ble (0+qa.length) qa.length)<|
 gd ((bytesOf qb).isSome)<|
 gd (decide (((yPv qb).size)+q1.1.size<=9223372036854775807))<|
 gW qa qa.length<|
 yAB (f1 (qa,q1.2.1.2.1,q1.2.1.2.2.1,()) ((yPv qb)++q1.1)) fun r2=>
 some (r2.1.1,r2.1.2.1,())) (fun q3=>
 some (q3.1,q3.2.1,()))
theorem xJv(f1 F0):yHl.Eq [yB3.s f1] (.two .no (.two .no (.two .no (.two (.two .no (.one (.lp (yM9.s F0)))) .no)))) (yVo f1 F0):=fun _=>by kernel_rfl
def yNU(L:Nat):yHl.T:=yVo (yCk L) (yAf (yF6 (yHY L)) L)
theorem xBm{α:Type}(L:Nat):LO Tryz.f139 [1,1,1,0,1,0] (yM9.s (α:=α) (yAf (yF6 (yHY L)) L)):=yM9.k (xC2 (yHY L)) (tC (xAw L).ent tN) (lN _) (by kernel_rfl) L
theorem xBn(L:Nat):yHl.C (yNU L):=yHl.c (xJv (yCk L) (yAf (yF6 (yHY L)) L)) (tC (yOJ L).ent tN) Tryz.func139 (by kernel_rfl) (lS (lN _) (lS (lN _) (lS (lN _) (lS (lS (lN _) (lB (lL (xBm L)))) (lN _)))))
abbrev yJ3:=fw2 78 (caC cI (caC cI caN)) (cdT (caC cdS (caC cI caN)))
abbrev yS9(f1:yHl.T)(x0:Int)(x1:Int):Option (ByteArray×Int×Unit):=
 bif decide (yEr false x0 x1<1) then
 some (noS,2,())
 else
 yAB (f1 3 noS ([[V.int .i64 6],[V.int .i64 6]]) ([[V.int .i64 x0],[V.int .i64 x1]])) fun r1=>
 some (r1.1,r1.2.1,())
theorem xF9(f1):yJ3.Eq [yHl.s f1] .no (yS9 f1):=fun _=>by kernel_rfl
def yQo(L:Nat):yJ3.T:=yS9 (yNU L)
theorem xF8(L:Nat):yJ3.C (yQo L):=yJ3.c (xF9 (yNU L)) (tC (xBn L).ent tN) Tryz.func78 (by kernel_rfl) (lN _)
abbrev yLm:=fw2 79 (caC yBQ (caC cI caN)) cI
abbrev yVM(f1:yHB.T)(x0:yAJ)(x1:Int):Option Int:=
 yAB (f1 x0 2 x1 0) fun r1=>
 some r1
theorem xIx(f1):yLm.Eq [yHB.s f1] .no (yVM f1):=fun _=>by kernel_rfl
def yQv(L:Nat):yLm.T:=yVM (yNH L)
theorem xIw(L:Nat):yLm.C (yQv L):=yLm.c (xIx (yNH L)) (tC (yWM L).ent tN) Tryz.func79 (by kernel_rfl) (lN _)
abbrev yGM:=fw2 141 (caC yBQ (caC cI caN)) cI
abbrev xAk(f1:yHB.T)(x0:yAJ)(x1:Int):Option Int:=
 yAB (f1 x0 4 x1 0) fun r1=>
 some r1
theorem xMz(f1):yGM.Eq [yHB.s f1] .no (xAk f1):=fun _=>by kernel_rfl
def yGA(L:Nat):yGM.T:=xAk (yNH L)
theorem yWK(L:Nat):yGM.C (yGA L):=yGM.c (xMz (yNH L)) (tC (yWM L).ent tN) Tryz.func141 (by kernel_rfl) (lN _)
abbrev yFn:=fw2 80 (caC yBQ (caC cI caN)) yKq
abbrev yNI(f1:yGM.T)(x0:yAJ)(x1:Int):Option yAV:=
 yAB (f1 x0 x1) fun r1=>
 bif decide (0<=r1) then
 some (⟨1,r1,noS,0⟩:yAV)
 else
 some yAV.z
theorem xGm(f1):yFn.Eq [yGM.s f1] .no (yNI f1):=fun _=>by kernel_rfl
def yGa(L:Nat):yFn.T:=yNI (yGA L)
theorem yYd(L:Nat):yFn.C (yGa L):=yFn.c (xGm (yGA L)) (tC (yWK L).ent tN) Tryz.func80 (by kernel_rfl) (lN _)
abbrev yD4:=fw1 241 (caC (cdP yHL) caN) yKq
abbrev yNq(f1:yFn.T)(x0:yAQ):Option yAV:=
 yAB (f1 x0.g_ x0.done_) fun r1=>
 some r1
theorem yZH(f1):yD4.Eq [yFn.s f1] .no (yNq f1):=fun _=>by kernel_rfl
def yMg(L:Nat):yD4.T:=yNq (yGa L)
theorem yZG(L:Nat):yD4.C (yMg L):=yD4.c (yZH (yGa L)) (tC (yYd L).ent tN) Tryz.func241 (by kernel_rfl) (lN _)
abbrev yML:=fw1 340 (caC cdS caN) (cdT (caC (cdI .i8) (caC cdS (caC cI caN))))
abbrev yVp(f1:yGN.T)(f2:yWE.T)(x0:ByteArray):Option (Int×ByteArray×Int×Unit):=
 letI qd:=decide (0<(x0.size:Int))
 letI qc:=(((x0[0]?).getD 0).toNat:Int)
 yAB (f1 x0 1 2) fun r1=>
 letI qb:=3+r1.1
 letI qe:=decide (w64 qb<=(x0.size:Int))
 letI qa:=x0.extract 0 ((w64 qb).toNat)
 bif r1.2.1 !=0 then
 some (0,noS,30,())
 else
 bif(x0.size:Int) !=(w64 ((w64 qb)+4)) then
 some (0,noS,30,())
 else
 bif decide (505<r1.1) then
 some (0,noS,30,())
 else
 gd qd<|
 bif qc==0 then
 some (0,noS,30,())
 else
 gd qd<|
 bif decide (127<qc) then
 some (0,noS,30,())
 else
 yAB (f1 x0 (w64 qb) 4) fun r2=>
 gd (decide (0<=w64 qb))<|
 gd qe<|
 gF (yCj qa) (0+(qa.size))<|
 yAB (f2 ((yCj qa).take (qa.size))) fun r3=>
 bif r2.1 !=r3 then
 some (0,noS,30,())
 else
 gd qd<|
 gd (decide (0<=w64 qb))<|
 gd qe<|
 gd (decide (3<=((w64 qb).toNat:Int)))<|
 some (IntKind.i8.wrap qc,x0.extract 3 ((w64 qb).toNat),0,())
theorem xJx(f1 f2):yML.Eq [yGN.s f1,yWE.s f2] .no (yVp f1 f2):=fun _=>by kernel_rfl
def yUF(L:Nat):yML.T:=yVp (yCC L) (yVK L)
theorem xJw(L:Nat):yML.C (yUF L):=yML.c (xJx (yCC L) (yVK L)) (tC (yWW L).ent (tC (xGO L).ent tN)) Tryz.func340 (by kernel_rfl) (lN _)
abbrev yNV:=fw2 299 (caC (cdI .i8) (caC cdS caN)) (cdT (caC cdS (caC cI caN)))
abbrev xBo(f1:yML.T)(x0:Int)(x1:ByteArray):Option (ByteArray×Int×Unit):=
 yAB (f1 x1) fun r1=>
 bif r1.2.2.1 !=0 then
 some (noS,30,())
 else
 bif r1.1 !=x0 then
 some (noS,30,())
 else
 some (r1.2.1,0,())
theorem xN9(f1):yNV.Eq [yML.s f1] .no (xBo f1):=fun _=>by kernel_rfl
def yUE(L:Nat):yNV.T:=xBo (yUF L)
theorem xIG(L:Nat):yNV.C (yUE L):=yNV.c (xN9 (yUF L)) (tC (xJw L).ent tN) Tryz.func299 (by kernel_rfl) (lN _)
abbrev yGY:=fw1 258 (caC cdS caN) (cdT (caC yJ5 (caC cdS (caC cdB (caC cI caN)))))
abbrev yMW(f1:yNV.T)(f2:yBl.T)(x0:ByteArray):Option (yAc×ByteArray×Bool×Int×Unit):=
 bif x0.toList==noS.toList then
 some (yAc.z,noS,false,0,())
 else
 yAB (f1 5 x0) fun r1=>
 bif r1.2.1 !=0 then
 some (yAc.z,noS,false,50,())
 else
 yAB (f2 r1.1) fun r2=>
 bif r2.2.1 !=0 then
 some (yAc.z,noS,false,50,())
 else
 some (r2.1,r1.1,true,0,())
theorem xCI(f1 f2):yGY.Eq [yNV.s f1,yBl.s f2] .no (yMW f1 f2):=fun _=>by kernel_rfl
def yHO(L:Nat):yGY.T:=yMW (yUE L) (yBi L)
theorem xCH(L:Nat):yGY.C (yHO L):=yGY.c (xCI (yUE L) (yBi L)) (tC (xIG L).ent (tC (yI1 L).ent tN)) Tryz.func258 (by kernel_rfl) (lN _)
set_option maxRecDepth 100000
set_option maxHeartbeats 16000000
abbrev yBK:=(List (List V))×(((Int×Unit)×Unit))×Int×Int×Unit
abbrev yBs:=Unit
abbrev yBt:=Int×Unit
abbrev yBT{α:Type}(s:yBK)(kn:yBK->Option α)(k0:yBs->Option α)(k1:yBt->Option α):Option α:=
 letI qa:=s.2.2.2.1
 bif decide (qa<s.2.2.1) then
 gI s.1 yAr.ks qa<|
 bif(aI s.1 qa.toNat 0)==s.2.1.1.1 then
 k1 (qa,())
 else
 kn (s.1,((s.2.1.1.1,()),()),s.2.2.1,w64 (qa+1),())
 else
 k0 (())
abbrev yBL:LW2 yBK yBs yBt:=⟨(lvC 0 (mP cdR) (lvC 1 (mP (cdF 261 (caC (cdP (caC cI caN)) caN))) (lvC 7 (mP cI) (lvC 8 (mP cI) lvN)))),(.exit 0),lvN,.ret,(lvC 4 (mP cI) lvN)⟩
theorem yFi{α:Type}:yBL.Eq (α:=α) [] Tryz.f260 [1,0,1,0] .no (yBT):=fun _ _ _=>by kernel_rfl
abbrev yAk:=fw2 260 (caC cdR (caC (cdF 261 (caC (cdP (caC cI caN)) caN)) caN)) cI
abbrev yB4(F0:LF2 yBK yBs yBt (Int))(x0:List (List V))(x1:(Int×Unit)×Unit):Option Int:=
 F0 (x0,((x1.1.1,()),()),(x0.length:Int),0,()) (fun q1=>
 some (-1)) (fun q2=>
 some q2.1)
theorem yG3(F0):yAk.Eq [] (.two .no (.two (.two .no (.one (.lp (yBL.s F0)))) .no)) (yB4 F0):=fun _=>by kernel_rfl
def yA8(L:Nat):yAk.T:=yB4 (yAf (yBT) L)
theorem yFb{α:Type}(L:Nat):LO Tryz.f260 [1,0,1,0] (yBL.s (α:=α) (yAf (yBT) L)):=yBL.k (yFi) tN (lN _) (by kernel_rfl) L
theorem yG2(L:Nat):yAk.C (yA8 L):=yAk.c (yG3 (yAf (yBT) L)) tN Tryz.func260 (by kernel_rfl) (lS (lN _) (lS (lS (lN _) (lB (lL (yFb L)))) (lN _)))
abbrev yF7:=fw2 198 (caC yCf (caC cI caN)) (cdT (caC cI (caC cdB caN)))
abbrev yUK(f1:yAk.T)(x0:yAG)(x1:Int):Option (Int×Bool×Unit):=
 bif decide (x1<1) then none else
 yAB (f1 x0.Slots ((x1,()),())) fun r1=>
 some (yEr true r1 0,decide (0<=r1),())
theorem xIO(f1):yF7.Eq [(260,spF 1 [(261,(yAk.s f1).2)])] (.two .no (.two (.two .no (.two xT .no)) .no)) (yUK f1):=fun _=>by kernel_rfl
def yEC(L:Nat):yF7.T:=yUK (yA8 L)
theorem yY0(L:Nat):yF7.C (yEC L):=yF7.c (xIO (yA8 L)) (tC (ySt (yIo (yG2 L).ent yOD)) tN) Tryz.func198 (by kernel_rfl) (lS (lN _) (lS (lS (lN _) (lQ (lX _) (lN _))) (lN _)))
abbrev yBZ:=fw2 359 (caC (cdP yOM) (caC cI caN)) (cdT (caC cI (caC cdB caN)))
abbrev yMU(f1:yF7.T)(x0:yAo)(x1:Int):Option (Int×Bool×Unit):=
 yAB (f1 x0.Table x1) fun r1=>
 some (r1.1,r1.2.1,())
theorem yYU(f1):yBZ.Eq [yF7.s f1] .no (yMU f1):=fun _=>by kernel_rfl
def yCH(L:Nat):yBZ.T:=yMU (yEC L)
theorem yIq(L:Nat):yBZ.C (yCH L):=yBZ.c (yYU (yEC L)) (tC (yY0 L).ent tN) Tryz.func359 (by kernel_rfl) (lN _)
abbrev yCq:=fw1 360 (caC xQx caN) cdB
abbrev yOL(x0:yJ0):Option Bool:=
 some (x0.Key==0)
theorem yUx:yCq.Eq [] .no (yOL):=fun _=>by kernel_rfl
def yEl(L:Nat):yCq.T:=yOL
theorem yUw(L:Nat):yCq.C (yEl L):=yCq.c (yUx) tN Tryz.func360 (by kernel_rfl) (lN _)
abbrev yBM:=(List (List V))×Unit×Int×Int×Unit
abbrev yBu:=Unit
abbrev yBv:=Int×Unit
abbrev yBU{α:Type}(f1:yCq.T)(s:yBM)(kn:yBM->Option α)(k0:yBu->Option α)(k1:yBv->Option α):Option α:=
 letI qa:=s.2.2.2.1
 bif decide (qa<s.2.2.1) then
 gI s.1 yAr.ks qa<|
 yAB (f1 (⟨aI s.1 qa.toNat 0,aI s.1 qa.toNat 1⟩:yJ0)) fun r1=>
 bif r1 then
 k1 (qa,())
 else
 kn (s.1,(()),s.2.2.1,w64 (qa+1),())
 else
 k0 (())
abbrev yBN:LW2 yBM yBu yBv:=⟨(lvC 0 (mP cdR) (lvC 1 (mP (cdF 360 caN)) (lvC 7 (mP cI) (lvC 8 (mP cI) lvN)))),(.exit 0),lvN,.ret,(lvC 4 (mP cI) lvN)⟩
theorem yFj{α:Type}(f1):yBN.Eq (α:=α) [yCq.s f1] Tryz.f260 [1,0,1,0] .no (yBU f1):=fun _ _ _=>by kernel_rfl
abbrev yAl:=fw2 260 (caC cdR (caC (cdF 360 caN) caN)) cI
abbrev yB5(F0:LF2 yBM yBu yBv (Int))(x0:List (List V))(x1:Unit):Option Int:=
 F0 (x0,(()),(x0.length:Int),0,()) (fun q1=>
 some (-1)) (fun q2=>
 some q2.1)
theorem yG5(F0):yAl.Eq [] (.two .no (.two (.two .no (.one (.lp (yBN.s F0)))) .no)) (yB5 F0):=fun _=>by kernel_rfl
def yA9(L:Nat):yAl.T:=yB5 (yAf (yBU (yEl L)) L)
theorem yFc{α:Type}(L:Nat):LO Tryz.f260 [1,0,1,0] (yBN.s (α:=α) (yAf (yBU (yEl L)) L)):=yBN.k (yFj (yEl L)) (tC (yUw L).ent tN) (lN _) (by kernel_rfl) L
theorem yG4(L:Nat):yAl.C (yA9 L):=yAl.c (yG5 (yAf (yBU (yEl L)) L)) tN Tryz.func260 (by kernel_rfl) (lS (lN _) (lS (lS (lN _) (lB (lL (yFc L)))) (lN _)))
abbrev yDj:=fw2 392 (caC yQI (caC cI caN)) cdB
abbrev yRN(x0:yAg)(x1:Int):Option Bool:=
 bif decide (x0.Span.Lo<=x1) then
 some (decide (x1<=x0.Span.Hi))
 else
 some false
theorem yYK:yDj.Eq [] .no (yRN):=fun _=>by kernel_rfl
def yPn(L:Nat):yDj.T:=yRN
theorem yYJ(L:Nat):yDj.C (yPn L):=yDj.c (yYK) tN Tryz.func392 (by kernel_rfl) (lN _)
abbrev yCG:=fw2 388 (caC yQI (caC yQI caN)) cdB
abbrev yPp(f1:yDj.T)(x0:yAg)(x1:yAg):Option Bool:=
 bif !(decide (x0.Span.Hi<x0.Span.Lo)) then
 bif !(decide (x1.Span.Hi<x1.Span.Lo)) then
 yAB (f1 x0 x1.Span.Lo) fun r1=>
 bif r1 then
 some true
 else
 yAB (f1 x1 x0.Span.Lo) fun r2=>
 some r2
 else
 some false
 else
 some false
theorem yVx(f1):yCG.Eq [yDj.s f1] .no (yPp f1):=fun _=>by kernel_rfl
def yFe(L:Nat):yCG.T:=yPp (yPn L)
theorem yPo(L:Nat):yCG.C (yFe L):=yCG.c (yVx (yPn L)) (tC (yYJ L).ent tN) Tryz.func388 (by kernel_rfl) (lN _)
abbrev yEB:=fw2 394 (caC yYV (caC yYV caN)) cdB
abbrev ySu(f1:yCG.T)(x0:yBX)(x1:yBX):Option Bool:=
 bif x0.key_==x1.key_ then
 some true
 else
 yAB (f1 x0.blocks_ x1.blocks_) fun r1=>
 bif !r1 then
 some true
 else
 bif x0.mode_==1 then
 some (x1.mode_==1)
 else
 some false
theorem yZt(f1):yEB.Eq [yCG.s f1] .no (ySu f1):=fun _=>by kernel_rfl
def yQl(L:Nat):yEB.T:=ySu (yFe L)
theorem yZs(L:Nat):yEB.C (yQl L):=yEB.c (yZt (yFe L)) (tC (yPo L).ent tN) Tryz.func394 (by kernel_rfl) (lN _)
abbrev yFd:=fw2 390 (caC yVF (caC yVF caN)) cdB
abbrev yUG(f1:yEB.T)(x0:yAd)(x1:yAd):Option Bool:=
 yAB (f1 (⟨(⟨x0.Span⟩:yAg),x0.Key,x0.Mode⟩:yBX) (⟨(⟨x1.Span⟩:yAg),x1.Key,x1.Mode⟩:yBX)) fun r1=>
 some r1
theorem xBt(f1):yFd.Eq [yEB.s f1] .no (yUG f1):=fun _=>by kernel_rfl
def yLY(L:Nat):yFd.T:=yUG (yQl L)
theorem xBs(L:Nat):yFd.C (yLY L):=yFd.c (xBt (yQl L)) (tC (yZs L).ent tN) Tryz.func390 (by kernel_rfl) (lN _)
set_option maxRecDepth 100000
set_option maxHeartbeats 16000000
abbrev yA3:=(List (List V))×((((yAd×Unit)×Unit)×Unit))×Int×Int×Unit
abbrev yBe:=Unit
abbrev yBf:=Int×Unit
abbrev yBC{α:Type}(f1:yFd.T)(s:yA3)(kn:yA3->Option α)(k0:yBe->Option α)(k1:yBf->Option α):Option α:=
 letI qa:=s.2.2.2.1
 bif decide (qa<s.2.2.1) then
 gI s.1 yAd.ks qa<|
 yAB (f1 s.2.1.1.1.1 (⟨aI s.1 qa.toNat 0,(⟨aI s.1 qa.toNat 1,aI s.1 qa.toNat 2⟩:yAr),aI s.1 qa.toNat 3⟩:yAd)) fun r1=>
 bif !r1 then
 k1 (qa,())
 else
 kn (s.1,(((s.2.1.1.1.1,()),()),()),s.2.2.1,w64 (qa+1),())
 else
 k0 (())
abbrev yA4:LW2 yA3 yBe yBf:=⟨(lvC 0 (mP cdR) (lvC 1 (mP (cdF 387 (caC (cdP (caC (cdF 389 (caC (cdP xAO) caN)) caN)) caN))) (lvC 7 (mP cI) (lvC 8 (mP cI) lvN)))),(.exit 0),lvN,.ret,(lvC 4 (mP cI) lvN)⟩
theorem yEf{α:Type}(f1):yA4.Eq (α:=α) [yFd.s f1] Tryz.f366 [1,0,1,0] .no (yBC f1):=fun _ _ _=>by kernel_rfl
abbrev yAa:=fw2 366 (caC cdR (caC (cdF 387 (caC (cdP (caC (cdF 389 (caC (cdP xAO) caN)) caN)) caN)) caN)) cI
abbrev yCc(F0:LF2 yA3 yBe yBf (Int))(x0:List (List V))(x1:((yAd×Unit)×Unit)×Unit):Option Int:=
 F0 (x0,(((x1.1.1.1,()),()),()),(x0.length:Int),0,()) (fun q1=>
 some (-1)) (fun q2=>
 some q2.1)
theorem yFa(F0):yAa.Eq [] (.two .no (.two (.two .no (.one (.lp (yA4.s F0)))) .no)) (yCc F0):=fun _=>by kernel_rfl
def yB0(L:Nat):yAa.T:=yCc (yAf (yBC (yLY L)) L)
theorem yD1{α:Type}(L:Nat):LO Tryz.f366 [1,0,1,0] (yA4.s (α:=α) (yAf (yBC (yLY L)) L)):=yA4.k (yEf (yLY L)) (tC (xBs L).ent tN) (lN _) (by kernel_rfl) L
theorem yFZ(L:Nat):yAa.C (yB0 L):=yAa.c (yFa (yAf (yBC (yLY L)) L)) tN Tryz.func366 (by kernel_rfl) (lS (lN _) (lS (lS (lN _) (lB (lL (yD1 L)))) (lN _)))
abbrev yAT:=fw2 386 (caC cdR (caC (cdF 387 (caC (cdP (caC (cdF 389 (caC (cdP xAO) caN)) caN)) caN)) caN)) cdB
abbrev yCN(f1:yAa.T)(x0:List (List V))(x1:((yAd×Unit)×Unit)×Unit):Option Bool:=
 yAB (f1 x0 (((x1.1.1.1,()),()),())) fun r1=>
 some (decide (0<=r1))
theorem yEc(f1):yAT.Eq [(366,spF 1 [(387,(yAa.s f1).2)])] .no (yCN f1):=fun _=>by kernel_rfl
def yBh(L:Nat):yAT.T:=yCN (yB0 L)
theorem yEb(L:Nat):yAT.C (yBh L):=yAT.c (yEc (yB0 L)) (tC (ySt (yIo (yFZ L).ent yOD)) tN) Tryz.func386 (by kernel_rfl) (lN _)
abbrev yDl:=fw2 375 (caC (cdF 389 (caC (cdP xAO) caN)) (caC cdR caN)) cdB
abbrev yRP(f1:yAT.T)(x0:yAd×Unit)(x1:List (List V)):Option Bool:=
 yAB (f1 x1 (((x0.1,()),()),())) fun r1=>
 some !r1
theorem yYO(f1):yDl.Eq [(386,spF 1 [(387,(yAT.s f1).2)])] .no (yRP f1):=fun _=>by kernel_rfl
def yPr(L:Nat):yDl.T:=yRP (yBh L)
theorem yYN(L:Nat):yDl.C (yPr L):=yDl.c (yYO (yBh L)) (tC (ySt (yIo (yEb L).ent yOD)) tN) Tryz.func375 (by kernel_rfl) (lN _)
abbrev yMQ:=fw2 378 (caC yVF (caC cdR caN)) cdB
abbrev xBp(f1:yDl.T)(x0:yAd)(x1:List (List V)):Option Bool:=
 yAB (f1 (x0,()) x1) fun r1=>
 some r1
theorem xJ1(f1):yMQ.Eq [(375,spF 0 [(389,(yDl.s f1).2)])] .no (xBp f1):=fun _=>by kernel_rfl
def yRM(L:Nat):yMQ.T:=xBp (yPr L)
theorem xJ0(L:Nat):yMQ.C (yRM L):=yMQ.c (xJ1 (yPr L)) (tC (ySt (yIo (yYN L).ent yOD)) tN) Tryz.func378 (by kernel_rfl) (lN _)
abbrev yEj:=((List (List V))×(List (List V))×(List (List V))×Int×Int×Int×Int×Int×Int×Int×Int×Unit)×(List (List V))×Int×Int×Unit
abbrev yHn:=((List (List V))×(List (List V))×(List (List V))×Int×Int×Int×Int×Int×Int×Int×Int×Unit)×Unit
abbrev yDt{α:Type}(f1:yMQ.T)(s:yEj)(kn:yEj->Option α)(k0:yHn->Option α):Option α:=
 letI qm:=s.1.2.2.2.2.2.2.1
 letI ql:=s.2.1
 letI qj:=s.1.2.2.2.2.2.2.2.1
 letI qi:=s.1.2.2.2.2.2.2.2.2.1
 letI qg:=s.1.2.2.2.2.2.2.2.2.2.1
 letI qf:=s.1.2.2.2.2.2.2.2.2.2.2.1
 letI qe:=s.1.2.1
 letI qd:=s.2.2.2.1
 letI qc:=s.1.2.2.1
 letI qk:=Nat.beq (0+qc.length) qc.length
 letI qh:=qc.length+1
 letI qb:=(⟨aI ql qd.toNat 0,(⟨aI ql qd.toNat 1,aI ql qd.toNat 2⟩:yAr),aI ql qd.toNat 3⟩:yAd)
 letI qa:= [[V.int .i64 (aI ql qd.toNat 0),V.int .i64 (aI ql qd.toNat 1),V.int .i64 (aI ql qd.toNat 2),V.int .i8 (aI ql qd.toNat 3)]]
 bif decide (qd<s.2.2.1) then
 gI ql yAd.ks qd<|
 gF qe (0+qe.length)<|
 yAB (f1 qb (qe.take qe.length)) fun r1=>
 bif r1 then
 gF qc (0+qc.length)<|
 yAB (f1 qb (qc.take qc.length)) fun r2=>
 bif r2 then none else
 gd qk<|
 gM qh 32<|
 gW s.1.1 s.1.1.length<|
 gW qe qe.length<|
 gW (qc++qa) qh<|
 kn ((s.1.1,qe,qc++qa,s.1.2.2.2.1,s.1.2.2.2.2.1,s.1.2.2.2.2.2.1,qm,qj,qi,qg,qf,()),ql,s.2.2.1,w64 (qd+1),())
 else
 gd qk<|
 gM qh 32<|
 gW s.1.1 s.1.1.length<|
 gW qe qe.length<|
 gW (qc++qa) qh<|
 kn ((s.1.1,qe,qc++qa,s.1.2.2.2.1,s.1.2.2.2.2.1,s.1.2.2.2.2.2.1,qm,qj,qi,qg,qf,()),ql,s.2.2.1,w64 (qd+1),())
 else
 gW s.1.1 s.1.1.length<|
 gW qe qe.length<|
 gW qc qc.length<|
 k0 ((s.1.1,qe,qc,s.1.2.2.2.1,s.1.2.2.2.2.1,s.1.2.2.2.2.2.1,qm,qj,qi,qg,qf,()),())
abbrev yEk:LW1 yEj yHn:=⟨(lvC 0 (mR (zW 2 (zW 4 (zW 4 (zP cI (zP cI (zP cI (zP cI (zP cI (zP cI (zP cI (zP cI zN))))))))))) 11) (lvC 15 (mP cdR) (lvC 16 (mP cI) (lvC 17 (mP cI) lvN)))),(.exit 0),(lvC 0 (mR (zW 2 (zW 4 (zW 4 (zP cI (zP cI (zP cI (zP cI (zP cI (zP cI (zP cI (zP cI zN))))))))))) 11) lvN)⟩
theorem yUL{α:Type}(f1):yEk.Eq (α:=α) [yMQ.s f1] Tryz.f365 [1,1,1,0] (.two .no (.two .no (.two (.one (.two .no (.two .no (.two (.two .no (.two xT .no)) .no)))) .no))) (yDt f1):=fun _ _ _=>by kernel_rfl
abbrev yDL:=mw0 365 (zW 2 (zW 4 (zW 4 (zP cI (zP cI (zP cI (zP cI (zP cI (zP cI (zP cI (zP cI zN))))))))))) 11 caN (cdT caN)
abbrev yLa(F0:LF1 yEj yHn (Unit×((List (List V))×(List (List V))×(List (List V))×Int×Int×Int×Int×Int×Int×Int×Int×Unit)))(x0:(List (List V))×(List (List V))×(List (List V))×Int×Int×Int×Int×Int×Int×Int×Int×Unit):Option (Unit×((List (List V))×(List (List V))×(List (List V))×Int×Int×Int×Int×Int×Int×Int×Int×Unit)):=
 gW x0.1 x0.1.length<|
 gW x0.2.1 x0.2.1.length<|
 gF x0.2.2.1 (0+x0.2.2.1.length)<|
 F0 ((x0.1,x0.2.1,[],x0.2.2.2.1,x0.2.2.2.2.1,x0.2.2.2.2.2.1,x0.2.2.2.2.2.2.1,x0.2.2.2.2.2.2.2.1,x0.2.2.2.2.2.2.2.2.1,x0.2.2.2.2.2.2.2.2.2.1,x0.2.2.2.2.2.2.2.2.2.2.1,()),x0.2.2.1.take x0.2.2.1.length,(x0.2.2.1.length:Int),0,()) (fun q1=>
 gW q1.1.1 q1.1.1.length<|
 gW q1.1.2.1 q1.1.2.1.length<|
 gW q1.1.2.2.1 q1.1.2.2.1.length<|
 some ((()),(q1.1.1,q1.1.2.1,q1.1.2.2.1,q1.1.2.2.2.1,q1.1.2.2.2.2.1,q1.1.2.2.2.2.2.1,q1.1.2.2.2.2.2.2.1,q1.1.2.2.2.2.2.2.2.1,q1.1.2.2.2.2.2.2.2.2.1,q1.1.2.2.2.2.2.2.2.2.2.1,q1.1.2.2.2.2.2.2.2.2.2.2.1,())))
theorem yXL(F0):yDL.Eq [] (.two .no (.two .no (.two .no (.one (.lp (yEk.s F0)))))) (yLa F0):=fun _ _=>by kernel_rfl
def yGQ(L:Nat):yDL.T:=yLa (yAb (yDt (yRM L)) L)
theorem yS4{α:Type}(L:Nat):LO Tryz.f365 [1,1,1,0] (yEk.s (α:=α) (yAb (yDt (yRM L)) L)):=yEk.k (yUL (yRM L)) (tC (xJ0 L).ent tN) (lS (lN _) (lS (lN _) (lS (lB (lS (lN _) (lS (lN _) (lS (lS (lN _) (lQ (lX _) (lN _))) (lN _))))) (lN _)))) (by kernel_rfl) L
theorem yXK(L:Nat):yDL.C (yGQ L):=yDL.c (yXL (yAb (yDt (yRM L)) L)) tN Tryz.func365 (by kernel_rfl) (lS (lN _) (lS (lN _) (lS (lN _) (lB (lL (yS4 L))))))
end Go.Proofs.YtakljpcmbpaeaaaGreat
