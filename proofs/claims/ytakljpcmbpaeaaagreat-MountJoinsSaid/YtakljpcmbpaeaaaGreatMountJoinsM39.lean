/- Typed functions. (printed by wip/sx) -/
import Derived.Test.YtakljpcmbpaeaaaGreatMountJoinsM36
import Derived.Test.YtakljpcmbpaeaaaGreatMountJoinsM37
import Derived.Test.YtakljpcmbpaeaaaGreatMountJoinsM38
set_option linter.unusedSimpArgs false
set_option linter.unusedVariables false
namespace Go.Proofs.YtakljpcmbpaeaaaGreat
open Go.RowKit
set_option maxRecDepth 100000
set_option maxHeartbeats 16000000
abbrev yIA:=Int×Int×Int×Unit
abbrev yL6:=Int×Int×Unit
abbrev yLJ{α:Type}(s:yIA)(kn:yIA->Option α)(k0:yL6->Option α):Option α:=
 bif decide (w64 ((w64 (s.2.2.1*16))+s.1)<=s.2.1) then
 kn (s.1,s.2.1,w64 (s.2.2.1+1),())
 else
 k0 (s.1,s.2.2.1,())
abbrev yIB:LW1 yIA yL6:=⟨(lvC 0 (mP cI) (lvC 5 (mP cI) (lvC 6 (mP cI) lvN))),(.exit 0),(lvC 0 (mP cI) (lvC 6 (mP cI) lvN))⟩
theorem yWH{α:Type}:yIB.Eq (α:=α) [] Tryz.f291 [1,1,1,1,0,0] .no (yLJ):=fun _ _ _=>by kernel_rfl
abbrev yGv:=fw2 291 (caC cI (caC cdR caN)) cI
abbrev yTc(f1:yCj.T)(f2:yCl.T)(F0:LF1 yIA yL6 (Int))(x0:Int)(x1:List (List V)):Option Int:=
 gd (x1.all fun r=>Nat.beq r.length 1)<|
 gM (1+x1.length) 8<|
 gF (([[V.int .i64 0]])++x1) (0+(1+x1.length))<|
 yAA (f1 ((([[V.int .i64 0]])++x1).take (1+x1.length))) fun r1=>
 yAA (f2 x0 0 15) fun r2=>
 bif !r2 then
 some 0
 else
 bif decide (1099511627776<r1) then
 some 0
 else
 F0 (x0,r1,yL4 true 1 (w64 ((w64 (r1-x0)).tdiv 16)),()) (fun q3=>
 bif decide (w64 ((w64 (q3.2.1*16))+q3.1)<=1099511627776) then
 some (w64 ((w64 (q3.2.1*16))+q3.1))
 else
 some 0)
theorem xAd(f1 f2 F0):yGv.Eq [yCj.s f1,yCl.s f2] (.two .no (.two .no (.two .no (.two .no (.two (.one (.lp (yIB.s F0))) .no))))) (yTc f1 f2 F0):=fun _=>by kernel_rfl
def ySf(L:Nat):yGv.T:=yTc (yKA L) (yHw L) (yBV (yLJ) L)
theorem yUu{α:Type}(L:Nat):LO Tryz.f291 [1,1,1,1,0,0] (yIB.s (α:=α) (yBV (yLJ) L)):=yIB.k (yWH) tN (lN _) (by kernel_rfl) L
theorem xAc(L:Nat):yGv.C (ySf L):=yGv.c (xAd (yKA L) (yHw L) (yBV (yLJ) L)) (tC (ySI L).ent (tC (yQK L).ent tN)) Tryz.func291 (by kernel_rfl) (lS (lN _) (lS (lN _) (lS (lN _) (lS (lN _) (lS (lB (lL (yUu L))) (lN _))))))
abbrev yIp:=fw1 330 (caC xCa caN) cdB
abbrev yVs(f1:yCB.T)(x0:yCn):Option Bool:=
 yAA (f1 (⟨x0⟩:yAd)) fun r1=>
 some r1
theorem xCM(f1):yIp.Eq [yCB.s f1] .no (yVs f1):=fun _=>by kernel_rfl
def yUt(L:Nat):yIp.T:=yVs (yEm L)
theorem xCL(L:Nat):yIp.C (yUt L):=yIp.c (xCM (yEm L)) (tC (yND L).ent tN) Tryz.func330 (by kernel_rfl) (lN _)
abbrev yCh:=fw1 331 (caC (cdP yMA) caN) (cdT (caC cdS (caC cI caN)))
abbrev yMh(f1:yCP.T)(f2:yEe.T)(x0:yAd):Option (ByteArray×Int×Unit):=
 yAA (f1 x0) fun r1=>
 yAA (f2 4 x0.Rec.Val r1 ([[V.int .i64 x0.Rec.Inst],[V.int .i64 x0.Rec.Mbal],[V.int .i64 x0.Rec.Bal]])) fun r2=>
 some (r2.1,r2.2.1,())
theorem ySA(f1 f2):yCh.Eq [yCP.s f1,yEe.s f2] .no (yMh f1 f2):=fun _=>by kernel_rfl
def yJR(L:Nat):yCh.T:=yMh (yHm L) (yJ5 L)
theorem yR9(L:Nat):yCh.C (yJR L):=yCh.c (ySA (yHm L) (yJ5 L)) (tC (yQY L).ent (tC (yTI L).ent tN)) Tryz.func331 (by kernel_rfl) (lN _)
abbrev yFp:=fw1 292 (caC xCa caN) (cdT (caC cdS (caC cI caN)))
abbrev ySO(f1:yIp.T)(f2:yCh.T)(x0:yCn):Option (ByteArray×Int×Unit):=
 yAA (f1 x0) fun r1=>
 bif !r1 then
 some (noS,2,())
 else
 yAA (f2 (⟨x0⟩:yAd)) fun r2=>
 some (r2.1,r2.2.1,())
theorem yYz(f1 f2):yFp.Eq [yIp.s f1,yCh.s f2] .no (ySO f1 f2):=fun _=>by kernel_rfl
def yQi(L:Nat):yFp.T:=ySO (yUt L) (yJR L)
theorem yYy(L:Nat):yFp.C (yQi L):=yFp.c (yYz (yUt L) (yJR L)) (tC (xCL L).ent (tC (yR9 L).ent tN)) Tryz.func292 (by kernel_rfl) (lN _)
abbrev yDU:=fw3 293 (caC cI (caC cdS (caC cI caN))) yNF
abbrev ySX(x0:Int)(x1:ByteArray)(x2:Int):Option yAp:=
 bif x2 !=0 then
 some yAp.z
 else
 bif decide (x0<0) then
 some yAp.z
 else
 some (⟨2,x0,x1,0⟩:yAp)
theorem yZL:yDU.Eq [] .no (ySX):=fun _=>by kernel_rfl
def yLv(L:Nat):yDU.T:=ySX
theorem ySW(L:Nat):yDU.C (yLv L):=yDU.c (yZL) tN Tryz.func293 (by kernel_rfl) (lN _)
abbrev yDF:=fw1 247 (caC (cdP yGW) caN) yNF
abbrev yN7(f1:yFp.T)(f2:yDI.T)(f3:yDU.T)(x0:yAS):Option yAp:=
 yAA (f1 x0.Prop_.Own) fun r1=>
 yAA (f2 x0.g_ x0.Prop_.Node) fun r2=>
 yAA (f3 r2 r1.1 r1.2.1) fun r3=>
 some r3
theorem yUC(f1 f2 f3):yDF.Eq [yFp.s f1,yDI.s f2,yDU.s f3] .no (yN7 f1 f2 f3):=fun _=>by kernel_rfl
def yMO(L:Nat):yDF.T:=yN7 (yQi L) (yJa L) (yLv L)
theorem yUB(L:Nat):yDF.C (yMO L):=yDF.c (yUC (yQi L) (yJa L) (yLv L)) (tC (yYy L).ent (tC (yPM L).ent (tC (ySW L).ent tN))) Tryz.func247 (by kernel_rfl) (lN _)
abbrev yDm:=yAW×(List (List V))×Int×Int×Unit
abbrev yF7:=yAW×Unit
abbrev yEh{α:Type}(s:yDm)(kn:yDm->Option α)(k0:yF7->Option α):Option α:=
 bif decide (s.2.2.2.1<s.2.2.1) then
 gI s.2.1 kI s.2.2.2.1<|
 kn ((⟨{s.1.Tally with Seen:=yL4 true s.1.Tally.Seen (aI s.2.1 s.2.2.2.1.toNat 0)}⟩:yAW),s.2.1,s.2.2.1,w64 (s.2.2.2.1+1),())
 else
 k0 (s.1,())
abbrev yDn:LW1 yDm yF7:=⟨(lvC 0 yRA (lvC 6 (mP cdR) (lvC 7 (mP cI) (lvC 8 (mP cI) lvN)))),(.exit 0),(lvC 0 yRA lvN)⟩
theorem yQb{α:Type}:yDn.Eq (α:=α) [] Tryz.f332 [1,0] .no (yEh):=fun _ _ _=>by kernel_rfl
abbrev yCq:=mw1 332 (zS 7 yQp) 7 (caC cdR caN) (cdT caN)
abbrev yNH(F0:LF1 yDm yF7 (Unit×yAW))(x0:yAW)(x1:List (List V)):Option (Unit×yAW):=
 F0 (x0,x1,(x1.length:Int),0,()) (fun q1=>
 some ((()),q1.1))
theorem ySn(F0):yCq.Eq [] (.two .no (.one (.lp (yDn.s F0)))) (yNH F0):=fun _ _=>by kernel_rfl
def yKP(L:Nat):yCq.T:=yNH (yBV (yEh) L)
theorem yPE{α:Type}(L:Nat):LO Tryz.f332 [1,0] (yDn.s (α:=α) (yBV (yEh) L)):=yDn.k (yQb) tN (lN _) (by kernel_rfl) L
theorem ySm(L:Nat):yCq.C (yKP L):=yCq.c (ySn (yBV (yEh) L)) tN Tryz.func332 (by kernel_rfl) (lS (lN _) (lB (lL (yPE L))))
abbrev yGJ:=Int×yAR×Int×Unit
abbrev yJV:=yAR×Unit
abbrev yJW:=Int×Unit
abbrev yID{α:Type}(s:yGJ)(kn:yGJ->Option α)(k0:yJV->Option α)(k1:yJW->Option α):Option α:=
 bif decide (s.2.2.1<s.2.1.Nodes) then
 bif s.2.2.1 !=s.1 then
 k1 (s.2.2.1,())
 else
 kn (s.1,s.2.1,w64 (s.2.2.1+1),())
 else
 k0 (s.2.1,())
abbrev yGK:LW2 yGJ yJV yJW:=⟨(lvC 1 (mP cI) (lvC 3 yQR (lvC 7 (mP cI) lvN))),(.exit 0),(lvC 3 yQR lvN),.ret,(lvC 6 (mP cI) lvN)⟩
theorem yTl{α:Type}:yGK.Eq (α:=α) [] Tryz.f333 [1,0,1,0] .no (yID):=fun _ _ _=>by kernel_rfl
abbrev yEp:=fw3 333 (caC yCI (caC cI (caC cI caN))) cI
abbrev yQr(F0:LF2 yGJ yJV yJW (Int))(x0:yAR)(x1:Int)(x2:Int):Option Int:=
 F0 (x1,x0,yL4 true x2 0,()) (fun q1=>
 some q1.1.Nodes) (fun q2=>
 some q2.1)
theorem yXb(F0):yEp.Eq [] (.two .no (.two (.two .no (.one (.lp (yGK.s F0)))) .no)) (yQr F0):=fun _=>by kernel_rfl
def yPD(L:Nat):yEp.T:=yQr (yAQ (yID) L)
theorem ySl{α:Type}(L:Nat):LO Tryz.f333 [1,0,1,0] (yGK.s (α:=α) (yAQ (yID) L)):=yGK.k (yTl) tN (lN _) (by kernel_rfl) L
theorem yXa(L:Nat):yEp.C (yPD L):=yEp.c (yXb (yAQ (yID) L)) tN Tryz.func333 (by kernel_rfl) (lS (lN _) (lS (lS (lN _) (lB (lL (ySl L)))) (lN _)))
abbrev yFr:=fw1 334 (caC xF3 caN) cdB
abbrev ySS(x0:yBh):Option Bool:=
 bif x0.Ahead then
 some true
 else
 some x0.Lost
theorem yY5:yFr.Eq [] .no (ySS):=fun _=>by kernel_rfl
def yQs(L:Nat):yFr.T:=ySS
theorem yY4(L:Nat):yFr.C (yQs L):=yFr.c (yY5) tN Tryz.func334 (by kernel_rfl) (lN _)
abbrev yFs:=fw2 335 (caC xF3 (caC cdS caN)) cdS
abbrev yST(x0:yBh)(x1:ByteArray):Option ByteArray:=
 bif decide (0<x0.Best) then
 some x0.Val
 else
 some x1
theorem yY7:yFs.Eq [] .no (yST):=fun _=>by kernel_rfl
def yQt(L:Nat):yFs.T:=yST
theorem yY6(L:Nat):yFs.C (yQt L):=yFs.c (yY7) tN Tryz.func335 (by kernel_rfl) (lN _)
abbrev yDy:=fw1 249 (caC (cdP yGW) caN) yNF
abbrev yQU(f1:yDI.T)(f2:yC2.T)(x0:yAS):Option yAp:=
 yAA (f1 x0.g_ x0.Prop_.I) fun r1=>
 yAA (f2 r1) fun r2=>
 some r2
theorem yWc(f1 f2):yDy.Eq [yDI.s f1,yC2.s f2] .no (yQU f1 f2):=fun _=>by kernel_rfl
def yON(L:Nat):yDy.T:=yQU (yJa L) (yIg L)
theorem yWb(L:Nat):yDy.C (yON L):=yDy.c (yWc (yJa L) (yIg L)) (tC (yPM L).ent (tC (yPX L).ent tN)) Tryz.func249 (by kernel_rfl) (lN _)
set_option maxRecDepth 100000
set_option maxHeartbeats 16000000
abbrev yDz:=fw1 251 (caC (cdP yGW) caN) yNF
abbrev yQV(f1:yDI.T)(f2:yC2.T)(x0:yAS):Option yAp:=
 yAA (f1 x0.g_ x0.Prop_.I) fun r1=>
 yAA (f2 r1) fun r2=>
 some r2
theorem yWe(f1 f2):yDz.Eq [yDI.s f1,yC2.s f2] .no (yQV f1 f2):=fun _=>by kernel_rfl
def yOO(L:Nat):yDz.T:=yQV (yJa L) (yIg L)
theorem yWd(L:Nat):yDz.C (yOO L):=yDz.c (yWe (yJa L) (yIg L)) (tC (yPM L).ent (tC (yPX L).ent tN)) Tryz.func251 (by kernel_rfl) (lN _)
abbrev yK7:=fw2 337 (caC (cdI .i8) (caC cdS caN)) (cdT (caC cdS (caC cI caN)))
abbrev yYl(f1:yB4.T)(x0:Int)(x1:ByteArray):Option (ByteArray×Int×Unit):=
 yAA (f1 ([],0,x0,()) x1) fun r1=>
 some (r1.1.1,r1.1.2.1,())
theorem xFg(f1):yK7.Eq [yB4.s f1] .no (yYl f1):=fun _=>by kernel_rfl
def yYk(L:Nat):yK7.T:=yYl (yCf L)
theorem xFf(L:Nat):yK7.C (yYk L):=yK7.c (xFg (yCf L)) (tC (yMk L).ent tN) Tryz.func337 (by kernel_rfl) (lN _)
abbrev yEq:=fw1 297 (caC cdS caN) (cdT (caC cdS (caC cI caN)))
abbrev yQ0(f1:yBq.T)(f2:yK7.T)(x0:ByteArray):Option (ByteArray×Int×Unit):=
 yAA (f1 x0) fun r1=>
 bif r1.2.1 !=0 then
 some (noS,2,())
 else
 yAA (f2 5 x0) fun r2=>
 some (r2.1,r2.2.1,())
theorem yXh(f1 f2):yEq.Eq [yBq.s f1,yK7.s f2] .no (yQ0 f1 f2):=fun _=>by kernel_rfl
def yPH(L:Nat):yEq.T:=yQ0 (yCN L) (yYk L)
theorem yXg(L:Nat):yEq.C (yPH L):=yEq.c (yXh (yCN L) (yYk L)) (tC (yH0 L).ent (tC (xFf L).ent tN)) Tryz.func297 (by kernel_rfl) (lN _)
abbrev yCi:=fw1 252 (caC (cdP yGW) caN) yNF
abbrev yMj(f1:yEq.T)(f2:yFj.T)(f3:yDU.T)(x0:yAS):Option yAp:=
 yAA (f1 x0.Prop_.Own.Val) fun r1=>
 yAA (f2 x0.g_ x0.done_) fun r2=>
 yAA (f3 r2 r1.1 r1.2.1) fun r3=>
 some r3
theorem ySE(f1 f2 f3):yCi.Eq [yEq.s f1,yFj.s f2,yDU.s f3] .no (yMj f1 f2 f3):=fun _=>by kernel_rfl
def yJj(L:Nat):yCi.T:=yMj (yPH L) (yJZ L) (yLv L)
theorem ySD(L:Nat):yCi.C (yJj L):=yCi.c (ySE (yPH L) (yJZ L) (yLv L)) (tC (yXg L).ent (tC (yTx L).ent (tC (ySW L).ent tN))) Tryz.func252 (by kernel_rfl) (lN _)
abbrev yFN:=fw3 81 (caC yCI (caC xAk (caC cI caN))) (cdT (caC yNF (caC cI caN)))
abbrev yWA(f1:yFj.T)(f2:yDw.T)(f3:yDx.T)(f4:yDF.T)(f5:yDy.T)(f6:yDz.T)(f7:yCi.T)(x0:yAR)(x1:yAP)(x2:Int):Option (yAp×Int×Unit):=
 letI qb:=f1 x0 x2
 letI qa:=(⟨x1,x0,yAF.z,x2,false⟩:yAS)
 bif decide (x1.At<0) then
 some (yAp.z,0,())
 else
 bif decide (7<=w64 x1.At) then
 some (yAp.z,0,())
 else
 bif decide (x1.At=0) then
 bif x1.At==0 then
 yAA qb fun r1=>
 bif decide (r1<0) then
 some (yAp.z,150,())
 else
 yAA (f2 qa) fun r2=>
 some (r2,0,())
 else
 yAA (f2 qa) fun r3=>
 some (r3,0,())
 else
 bif decide (x1.At=1) then
 bif x1.At==0 then
 yAA qb fun r4=>
 bif decide (r4<0) then
 some (yAp.z,150,())
 else
 yAA (f3 qa) fun r5=>
 some (r5,0,())
 else
 yAA (f3 qa) fun r6=>
 some (r6,0,())
 else
 bif decide (x1.At=2) then
 bif x1.At==0 then
 yAA qb fun r7=>
 bif decide (r7<0) then
 some (yAp.z,150,())
 else
 yAA (f4 qa) fun r8=>
 some (r8,0,())
 else
 yAA (f4 qa) fun r9=>
 some (r9,0,())
 else
 bif decide (x1.At=3) then
 bif x1.At==0 then
 yAA qb fun r10=>
 bif decide (r10<0) then
 some (yAp.z,150,())
 else
 yAA (f5 qa) fun r11=>
 some (r11,0,())
 else
 yAA (f5 qa) fun r12=>
 some (r12,0,())
 else
 bif decide (x1.At=4) then
 bif x1.At==0 then
 yAA qb fun r13=>
 bif decide (r13<0) then
 some (yAp.z,150,())
 else
 yAA (f4 qa) fun r14=>
 some (r14,0,())
 else
 yAA (f4 qa) fun r15=>
 some (r15,0,())
 else
 bif decide (x1.At=5) then
 bif x1.At==0 then
 yAA qb fun r16=>
 bif decide (r16<0) then
 some (yAp.z,150,())
 else
 yAA (f6 qa) fun r17=>
 some (r17,0,())
 else
 yAA (f6 qa) fun r18=>
 some (r18,0,())
 else
 gd (decide (x1.At=6))<|
 bif x1.At==0 then
 yAA qb fun r19=>
 bif decide (r19<0) then
 some (yAp.z,150,())
 else
 yAA (f7 qa) fun r20=>
 some (r20,0,())
 else
 yAA (f7 qa) fun r21=>
 some (r21,0,())
theorem xDM(f1 f2 f3 f4 f5 f6 f7):yFN.Eq [yFj.s f1,yDw.s f2,yDx.s f3,yDF.s f4,yDy.s f5,yDz.s f6,yCi.s f7] .no (yWA f1 f2 f3 f4 f5 f6 f7):=fun _=>by kernel_rfl
def yOy(L:Nat):yFN.T:=yWA (yJZ L) (yOL L) (yOM L) (yMO L) (yON L) (yOO L) (yJj L)
theorem yV9(L:Nat):yFN.C (yOy L):=yFN.c (xDM (yJZ L) (yOL L) (yOM L) (yMO L) (yON L) (yOO L) (yJj L)) (tC (yTx L).ent (tC (yWX L).ent (tC (yWZ L).ent (tC (yUB L).ent (tC (yWb L).ent (tC (yWd L).ent (tC (ySD L).ent tN))))))) Tryz.func81 (by kernel_rfl) (lN _)
abbrev yIt:=fw2 82 (caC yCI (caC cI caN)) cI
abbrev xAC(f1:yGM.T)(x0:yAR)(x1:Int):Option Int:=
 yAA (f1 x0 6 x1 0) fun r1=>
 some r1
theorem xG8(f1):yIt.Eq [yGM.s f1] .no (xAC f1):=fun _=>by kernel_rfl
def yTw(L:Nat):yIt.T:=xAC (yNN L)
theorem xAB(L:Nat):yIt.C (yTw L):=yIt.c (xG8 (yNN L)) (tC (yTz L).ent tN) Tryz.func82 (by kernel_rfl) (lN _)
abbrev yJN:=fw1 192 (caC cI caN) (cdT (caC cdS (caC cI caN)))
abbrev yWD(f1:yEe.T)(x0:Int):Option (ByteArray×Int×Unit):=
 yAA (f1 2 noS ([[V.int .i64 6]]) ([[V.int .i64 x0]])) fun r1=>
 some (r1.1,r1.2.1,())
theorem xD9(f1):yJN.Eq [yEe.s f1] .no (yWD f1):=fun _=>by kernel_rfl
def yVn(L:Nat):yJN.T:=yWD (yJ5 L)
theorem xD8(L:Nat):yJN.C (yVn L):=yJN.c (xD9 (yJ5 L)) (tC (yTI L).ent tN) Tryz.func192 (by kernel_rfl) (lN _)
abbrev yCw:=fw1 144 (caC (cdP yQO) caN) yNF
abbrev yNn(x0:yAi):Option yAp:=
 bif x0.Settling.At==0 then
 bif decide (0<=x0.Settling.I) then
 bif decide (x0.Settling.I<(x0.Settling.Cells.length:Int)) then
 gI x0.Settling.Cells yFh.ks x0.Settling.I<|
 gI x0.Settling.Cells yFh.ks x0.Settling.I<|
 some (⟨3,aI x0.Settling.Cells x0.Settling.I.toNat 0,aS x0.Settling.Cells x0.Settling.I.toNat 1,0⟩:yAp)
 else
 some yAp.z
 else
 some yAp.z
 else
 bif x0.Settling.At==1 then
 some (⟨4,0,noS,0⟩:yAp)
 else
 bif x0.Settling.At==2 then
 some (⟨2,x0.sector_,x0.header_,0⟩:yAp)
 else
 some yAp.z
theorem yTO:yCw.Eq [] .no (yNn):=fun _=>by kernel_rfl
def yK8(L:Nat):yCw.T:=yNn
theorem yTN(L:Nat):yCw.C (yK8 L):=yCw.c (yTO) tN Tryz.func144 (by kernel_rfl) (lN _)
abbrev yHf:=fw4 83 (caC yCI (caC yNG (caC cI (caC cI caN)))) yNF
abbrev yUj(f1:yJN.T)(f2:yIt.T)(f3:yCw.T)(x0:yAR)(x1:yAG)(x2:Int)(x3:Int):Option yAp:=
 yAA (f1 x3) fun r1=>
 yAA (f2 x0 x2) fun r2=>
 bif r1.2.1==0 then
 bif !(decide (0<=r2)) then
 some yAp.z
 else
 yAA (f3 (⟨x1,r2,r1.1⟩:yAi)) fun r3=>
 some r3
 else
 some yAp.z
theorem xB1(f1 f2 f3):yHf.Eq [yJN.s f1,yIt.s f2,yCw.s f3] .no (yUj f1 f2 f3):=fun _=>by kernel_rfl
def yTM(L:Nat):yHf.T:=yUj (yVn L) (yTw L) (yK8 L)
theorem xB0(L:Nat):yHf.C (yTM L):=yHf.c (xB1 (yVn L) (yTw L) (yK8 L)) (tC (xD8 L).ent (tC (xAB L).ent (tC (yTN L).ent tN))) Tryz.func83 (by kernel_rfl) (lN _)
set_option maxRecDepth 100000
set_option maxHeartbeats 16000000
abbrev yIz:=fw2 17 (caC yCI (caC ySk caN)) yNF
abbrev yGi(f1:yHB.T)(f2:yIq.T)(f3:yKZ.T)(f4:yFM.T)(f5:yFN.T)(f6:yIt.T)(f7:yHf.T)(x0:yAR)(x1:yBO):Option yAp:=
 bif x1.At==0 then
 some (⟨6,0,noS,0⟩:yAp)
 else
 bif x1.At==1 then
 yAA (f1 0) fun r1=>
 some r1
 else
 bif x1.At==2 then
 yAA (f2 x1.Key 1) fun r2=>
 yAA (f3 x0 x1.Num) fun r3=>
 bif r2.2.1==0 then
 bif decide (0<=r3) then
 some (⟨2,r3,r2.1,0⟩:yAp)
 else
 some yAp.z
 else
 some yAp.z
 else
 bif x1.At==3 then
 yAA (f4 x0 x1.Done) fun r4=>
 some r4
 else
 bif x1.At==4 then
 yAA (f5 x0 x1.P x1.Done) fun r5=>
 bif r5.2.1==0 then
 some r5.1
 else
 some yAp.z
 else
 bif x1.At==7 then
 yAA (f5 x0 x1.P x1.Done) fun r6=>
 bif r6.2.1==0 then
 some r6.1
 else
 some yAp.z
 else
 bif x1.At==5 then
 yAA (f6 x0 x1.Slot) fun r7=>
 yAA (f1 r7) fun r8=>
 some r8
 else
 bif x1.At==6 then
 yAA (f7 x0 x1.St x1.Slot x1.Head) fun r9=>
 some r9
 else
 some yAp.z
theorem xDC(f1 f2 f3 f4 f5 f6 f7):yIz.Eq [yHB.s f1,yIq.s f2,yKZ.s f3,yFM.s f4,yFN.s f5,yIt.s f6,yHf.s f7] .no (yGi f1 f2 f3 f4 f5 f6 f7):=fun _=>by kernel_rfl
def yCK(L:Nat):yIz.T:=yGi (ySx L) (yOi L) (yOp L) (yG8 L) (yOy L) (yTw L) (yTM L)
theorem xDB(L:Nat):yIz.C (yCK L):=yIz.c (xDC (ySx L) (yOi L) (yOp L) (yG8 L) (yOy L) (yTw L) (yTM L)) (tC (xA7 L).ent (tC (xCN L).ent (tC (xEm L).ent (tC (yV3 L).ent (tC (yV9 L).ent (tC (xAB L).ent (tC (xB0 L).ent tN))))))) Tryz.func17 (by kernel_rfl) (lN _)
abbrev yHM:=(List (List V))×yAC×Int×Int×Unit
abbrev yKo:=(List (List V))×yAC×Int×Unit
abbrev yKp:=Bool×Unit
abbrev yDC{α:Type}(s:yHM)(kn:yHM->Option α)(k0:yKo->Option α)(k1:yKp->Option α):Option α:=
 bif decide (s.2.2.2.1<(s.2.1.Fenced.length:Int)) then
 gI s.2.1.Fenced kI s.2.2.2.1<|
 gI s.1 kI s.2.2.1<|
 bif(aI s.2.1.Fenced s.2.2.2.1.toNat 0)==(aI s.1 s.2.2.1.toNat 0) then
 k1 (true,())
 else
 kn (s.1,s.2.1,s.2.2.1,w64 (s.2.2.2.1+1),())
 else
 k0 (s.1,s.2.1,s.2.2.1,())
abbrev yHN:LW2 yHM yKo yKp:=⟨(lvC 1 (mP cdR) (lvC 2 yAM (lvC 5 (mP cI) (lvC 6 (mP cI) lvN)))),(.exit 2),(lvC 1 (mP cdR) (lvC 2 yAM (lvC 5 (mP cI) lvN))),.ret,(lvC 4 (mP cdB) lvN)⟩
theorem yVS{α:Type}:yHN.Eq (α:=α) [] Tryz.f86 [1,0,1,0,0,1,0,0,1,1,0] .no (yDC):=fun _ _ _=>by kernel_rfl
abbrev yHK:=(List (List V))×yAC×Int×Unit
abbrev yKm:=Unit
abbrev yKn:=Bool×Unit
abbrev yEw{α:Type}(F1:LF2 yHM yKo yKp α)(s:yHK)(kn:yHK->Option α)(k0:yKm->Option α)(k1:yKn->Option α):Option α:=
 bif decide (s.2.2.1<(s.1.length:Int)) then
 gI s.1 kI s.2.2.1<|
 bif decide (aI s.1 s.2.2.1.toNat 0<1) then
 k1 (true,())
 else
 F1 (s.1,s.2.1,s.2.2.1,0,()) (fun q1=>
 kn (q1.1,q1.2.1,w64 (q1.2.2.1+1),())) (fun q2=>
 k1 (q2.1,()))
 else
 k0 (())
abbrev yHL:LW2 yHK yKm yKn:=⟨(lvC 1 (mP cdR) (lvC 2 yAM (lvC 5 (mP cI) lvN))),(.exit 0),lvN,.ret,(lvC 4 (mP cdB) lvN)⟩
theorem yVR{α:Type}(F1):yHL.Eq (α:=α) [] Tryz.f86 [1,0,1,0] (.two .no (.two (.one (.two .no (.two .no (.one (.lp (yHN.s F1)))))) .no)) (yEw F1):=fun _ _ _=>by kernel_rfl
abbrev yFz:=fw2 86 (caC yHy (caC cdR caN)) cdB
abbrev ySZ(F0:LF2 yHK yKm yKn (Bool))(x0:yAC)(x1:List (List V)):Option Bool:=
 F0 (x1,x0,0,()) (fun q1=>
 some false) (fun q2=>
 some q2.1)
theorem yZh(F0):yFz.Eq [] (.two .no (.two (.two .no (.one (.lp (yHL.s F0)))) .no)) (ySZ F0):=fun _=>by kernel_rfl
def yGo(L:Nat):yFz.T:=ySZ (yAQ (yEw (yAQ (yDC) L)) L)
theorem yUN{α:Type}(L:Nat):LO Tryz.f86 [1,0,1,0,0,1,0,0,1,1,0] (yHN.s (α:=α) (yAQ (yDC) L)):=yHN.k (yVS) tN (lN _) (by kernel_rfl) L
theorem yUM{α:Type}(L:Nat):LO Tryz.f86 [1,0,1,0] (yHL.s (α:=α) (yAQ (yEw (yAQ (yDC) L)) L)):=yHL.k (yVR (yAQ (yDC) L)) tN (lS (lN _) (lS (lB (lS (lN _) (lS (lN _) (lB (lL (yUN L)))))) (lN _))) (by kernel_rfl) L
theorem yZg(L:Nat):yFz.C (yGo L):=yFz.c (yZh (yAQ (yEw (yAQ (yDC) L)) L)) tN Tryz.func86 (by kernel_rfl) (lS (lN _) (lS (lS (lN _) (lB (lL (yUM L)))) (lN _)))
abbrev yHS:=yAC×yAC×((List (List V))×(List (List V))×(List (List V))×Int×(List (List V))×Unit)×Int×Unit
abbrev yKv:=yAC×((List (List V))×(List (List V))×(List (List V))×Int×(List (List V))×Unit)×Unit
abbrev yDi{α:Type}(s:yHS)(kn:yHS->Option α)(k0:yKv->Option α):Option α:=
 letI qg:=s.2.2.1.1
 letI qf:=s.2.2.2.1
 letI qd:=s.2.2.1.2.2.1
 letI qc:=s.2.2.1.2.2.2.2.1
 letI qb:=s.2.2.1.2.1
 letI qa:=0+((aR s.1.Cache qf.toNat 0).length)
 letI qe:=qb++([[V.bs 16 0 qa qa]])
 bif decide (qf<(s.1.Cache.length:Int)) then
 gI s.1.Cache kL qf<|
 gd ((aR s.1.Cache qf.toNat 0).all fun r=>Nat.beq r.length 2)<|
 gM qa 24<|
 gd (Nat.beq (0+qb.length) qb.length)<|
 gM (qb.length+1) 24<|
 gW qg qg.length<|
 gd (Nat.beq (qb.length+1) (qe.length))<|
 gd (xG4 [(16,aR s.1.Cache qf.toNat 0)] qe)<|
 gW qd qd.length<|
 gW qc qc.length<|
 kn (s.1,s.2.1,(qg,xH6 [(16,aR s.1.Cache qf.toNat 0)] qe,qd,s.2.2.1.2.2.2.1,qc,()),w64 (qf+1),())
 else
 gW qg qg.length<|
 gW qb qb.length<|
 gW qd qd.length<|
 gW qc qc.length<|
 k0 (s.2.1,(qg,qb,qd,s.2.2.1.2.2.2.1,qc,()),())
abbrev yHT:LW1 yHS yKv:=⟨(lvC 1 yAM (lvC 2 yAM (lvC 3 (mO (zW 1 (zF 1 [16] (zW 1 (zP cI (zW 1 zN))))) 5) (lvC 4 (mP cI) lvN)))),(.exit 0),(lvC 2 yAM (lvC 3 (mO (zW 1 (zW 1 (zW 1 (zP cI (zW 1 zN))))) 5) lvN))⟩
theorem yVV{α:Type}:yHT.Eq (α:=α) [] Tryz.f87 [1,1,0,1,0] .no (yDi):=fun _ _ _=>by kernel_rfl
abbrev yF1:=rw1 87 .a (caC yHy caN) (zW 1 (zW 1 (zW 1 (zP cI (zW 1 zN)))))
abbrev yOW(F0:LF1 yHS yKv ((List (List V))×(List (List V))×(List (List V))×Int×(List (List V))×Unit))(x0:yAC):Option ((List (List V))×(List (List V))×(List (List V))×Int×(List (List V))×Unit):=
 gd (x0.S.all fun r=>Nat.beq r.length 1)<|
 gM (0+x0.S.length) 16<|
 gd (x0.Keys.all fun r=>Nat.beq r.length 1)<|
 gM (0+x0.Keys.length) 8<|
 gd (x0.Fenced.all fun r=>Nat.beq r.length 1)<|
 gM (0+x0.Fenced.length) 8<|
 gW x0.S (0+x0.S.length)<|
 gW x0.Keys (0+x0.Keys.length)<|
 gW x0.Fenced (0+x0.Fenced.length)<|
 F0 (x0,yAC.z,(x0.S,[],x0.Keys,x0.Next,x0.Fenced,()),0,()) (fun q1=>
 letI qa:=q1.2.1.2.2.2.2.1
 gW q1.2.1.1 q1.2.1.1.length<|
 gW q1.2.1.2.1 q1.2.1.2.1.length<|
 gW q1.2.1.2.2.1 q1.2.1.2.2.1.length<|
 gW qa qa.length<|
 some (q1.2.1.1,q1.2.1.2.1,q1.2.1.2.2.1,q1.2.1.2.2.2.1,qa,()))
theorem yZl(F0):yF1.Eq [] (.two .no (.two .no (.two (.two .no (.one (.lp (yHT.s F0)))) .no))) (yOW F0):=fun _=>by kernel_rfl
def yFQ(L:Nat):yF1.T:=yOW (yBV (yDi) L)
theorem yUQ{α:Type}(L:Nat):LO Tryz.f87 [1,1,0,1,0] (yHT.s (α:=α) (yBV (yDi) L)):=yHT.k (yVV) tN (lN _) (by kernel_rfl) L
theorem yZk(L:Nat):yF1.C (yFQ L):=yF1.c (yZl (yBV (yDi) L)) tN Tryz.func87 (by kernel_rfl) (lS (lN _) (lS (lN _) (lS (lS (lN _) (lB (lL (yUQ L)))) (lN _))))
abbrev yIR:=(List (List V))×Int×Int×Unit
abbrev yMW:=Unit
abbrev yMX:=Int×Unit
abbrev yLg{α:Type}(s:yIR)(kn:yIR->Option α)(k0:yMW->Option α)(k1:yMX->Option α):Option α:=
 bif decide (s.2.2.1<(s.1.length:Int)) then
 gI s.1 yFh.ks s.2.2.1<|
 bif(aI s.1 s.2.2.1.toNat 0)==s.2.1 then
 k1 (s.2.2.1,())
 else
 kn (s.1,s.2.1,w64 (s.2.2.1+1),())
 else
 k0 (())
abbrev yIS:LW2 yIR yMW yMX:=⟨(lvC 0 (mP cdR) (lvC 1 (mP cI) (lvC 5 (mP cI) lvN))),(.exit 0),lvN,.ret,(lvC 4 (mP cI) lvN)⟩
theorem yWo{α:Type}:yIS.Eq (α:=α) [] Tryz.f88 [1,0,1,0] .no (yLg):=fun _ _ _=>by kernel_rfl
abbrev yHV:=fw2 88 (caC cdR (caC cI caN)) cI
abbrev yUS(F0:LF2 yIR yMW yMX (Int))(x0:List (List V))(x1:Int):Option Int:=
 F0 (x0,x1,0,()) (fun q1=>
 some (-1)) (fun q2=>
 some q2.1)
theorem xBc(F0):yHV.Eq [] (.two .no (.two (.two .no (.one (.lp (yIS.s F0)))) .no)) (yUS F0):=fun _=>by kernel_rfl
def yIm(L:Nat):yHV.T:=yUS (yAQ (yLg) L)
theorem yVX{α:Type}(L:Nat):LO Tryz.f88 [1,0,1,0] (yIS.s (α:=α) (yAQ (yLg) L)):=yIS.k (yWo) tN (lN _) (by kernel_rfl) L
theorem xBb(L:Nat):yHV.C (yIm L):=yHV.c (xBc (yAQ (yLg) L)) tN Tryz.func88 (by kernel_rfl) (lS (lN _) (lS (lS (lN _) (lB (lL (yVX L)))) (lN _)))
set_option maxRecDepth 100000
set_option maxHeartbeats 16000000
abbrev yEy:=fw2 89 (caC cdR (caC cI caN)) cdR
abbrev yRW(x0:List (List V))(x1:Int):Option (List (List V)):=
 letI qb:=x0.take x1.toNat
 letI qd:=0+(qb.length)
 letI qa:=(x0.drop ((w64 (x1+1)).toNat)).take (x0.length-((w64 (x1+1)).toNat))
 letI qc:=qd+(qa.length)
 gd (decide (0<=x1))<|
 gd (decide (x1<=(x0.length:Int)))<|
 gd (x0.all fun r=>Nat.beq r.length 2)<|
 gd (qb.all fun r=>Nat.beq r.length 2)<|
 gM qd 24<|
 gd (decide (0<=w64 (x1+1)))<|
 gd (decide (w64 (x1+1)<=(x0.length:Int)))<|
 gd (x0.all fun r=>Nat.beq r.length 2)<|
 gd (qa.all fun r=>Nat.beq r.length 2)<|
 gd (Nat.beq (0+qd) (qb.length))<|
 gM qc 24<|
 gF (qb++qa) (0+qc)<|
 some ((qb++qa).take qc)
theorem yYO:yEy.Eq [] .no (yRW):=fun _=>by kernel_rfl
def yP7(L:Nat):yEy.T:=yRW
theorem yYN(L:Nat):yEy.C (yP7 L):=yEy.c (yYO) tN Tryz.func89 (by kernel_rfl) (lN _)
abbrev yIP:=(List (List V))×Int×(List (List V))×Bool×Int×Unit
abbrev yMV:=Int×(List (List V))×Bool×Unit
abbrev yLf{α:Type}(s:yIP)(kn:yIP->Option α)(k0:yMV->Option α):Option α:=
 letI qg:=s.2.1
 letI qe:=s.2.2.1
 letI qf:=qe++([[V.int .i64 qg]])
 letI qd:=s.2.2.2.2.1
 letI qc:=Nat.beq (0+qe.length) qe.length
 letI qb:=qe.length+1
 letI qa:= [[V.int .i64 (aI s.1 qd.toNat 0)]]
 bif decide (qd<(s.1.length:Int)) then
 gI s.1 kI qd<|
 bif(aI s.1 qd.toNat 0)==qg then
 gI s.1 kI qd<|
 bif decide (qg<aI s.1 qd.toNat 0) then
 gI s.1 kI qd<|
 gd qc<|
 gM qb 8<|
 gA (qe++qa) qb<|
 kn (s.1,qg,qe++qa,true,w64 (qd+1),())
 else
 gI s.1 kI qd<|
 gd qc<|
 gM qb 8<|
 gA (qe++qa) qb<|
 kn (s.1,qg,qe++qa,true,w64 (qd+1),())
 else
 gI s.1 kI qd<|
 bif decide (qg<aI s.1 qd.toNat 0) then
 bif !s.2.2.2.1 then
 gd qc<|
 gM qb 8<|
 gI s.1 kI qd<|
 gd (Nat.beq (0+qb) (qf.length))<|
 gM (qb+1) 8<|
 gA (qf++qa) (qb+1)<|
 kn (s.1,qg,qf++qa,true,w64 (qd+1),())
 else
 gI s.1 kI qd<|
 gd qc<|
 gM qb 8<|
 gA (qe++qa) qb<|
 kn (s.1,qg,qe++qa,s.2.2.2.1,w64 (qd+1),())
 else
 gI s.1 kI qd<|
 gd qc<|
 gM qb 8<|
 gA (qe++qa) qb<|
 kn (s.1,qg,qe++qa,s.2.2.2.1,w64 (qd+1),())
 else
 gA qe qe.length<|
 k0 (qg,qe,s.2.2.2.1,())
abbrev yIQ:LW1 yIP yMV:=⟨(lvC 0 (mP cdR) (lvC 1 (mP cI) (lvC 5 (mA 1) (lvC 6 (mP cdB) (lvC 7 (mP cI) lvN))))),(.exit 0),(lvC 1 (mP cI) (lvC 5 (mA 1) (lvC 6 (mP cdB) lvN)))⟩
theorem yWn{α:Type}:yIQ.Eq (α:=α) [] Tryz.f90 [1,1,1,0,1,0] .no (yLf):=fun _ _ _=>by kernel_rfl
abbrev yHU:=fw2 90 (caC cdR (caC cI caN)) cdR
abbrev yUR(F0:LF1 yIP yMV (List (List V)))(x0:List (List V))(x1:Int):Option (List (List V)):=
 F0 (x0,x1,[],false,0,()) (fun q1=>
 bif !q1.2.2.1 then
 gd (Nat.beq (0+q1.2.1.length) q1.2.1.length)<|
 gM (q1.2.1.length+1) 8<|
 gF (q1.2.1++([[V.int .i64 q1.1]])) (0+(q1.2.1.length+1))<|
 some ((q1.2.1++([[V.int .i64 q1.1]])).take (q1.2.1.length+1))
 else
 gF q1.2.1 (0+q1.2.1.length)<|
 some (q1.2.1.take q1.2.1.length))
theorem xBZ(F0):yHU.Eq [] (.two .no (.two .no (.two .no (.two (.two .no (.one (.lp (yIQ.s F0)))) .no)))) (yUR F0):=fun _=>by kernel_rfl
def yS7(L:Nat):yHU.T:=yUR (yBV (yLf) L)
theorem yVW{α:Type}(L:Nat):LO Tryz.f90 [1,1,1,0,1,0] (yIQ.s (α:=α) (yBV (yLf) L)):=yIQ.k (yWn) tN (lN _) (by kernel_rfl) L
theorem xBY(L:Nat):yHU.C (yS7 L):=yHU.c (xBZ (yBV (yLf) L)) tN Tryz.func90 (by kernel_rfl) (lS (lN _) (lS (lN _) (lS (lN _) (lS (lS (lN _) (lB (lL (yVW L)))) (lN _)))))
set_option maxRecDepth 100000
set_option maxHeartbeats 16000000
abbrev yPi:=Int×yAC×yAp×yAC×Unit
abbrev yPh:=Int×yAC×yAp×yAC×Bool×Unit
abbrev yKj{α:Type}(f1:yC4.T)(s:yPi)(k0:yPh->Option α):Option α:=
 letI qb:=s.2.2.2.1
 letI qa:=s.2.2.1
 yAA (f1 s.2.1) fun r1=>
 bif r1 !=0 then
 k0 (s.1,s.2.1,qa,qb,true,())
 else
 bif decide (s.1<0) then
 k0 (s.1,s.2.1,qa,qb,true,())
 else
 bif decide ((s.2.1.Keys.length:Int)<=s.1) then
 k0 (s.1,s.2.1,qa,qb,true,())
 else
 bif decide (qa.Kind<1) then
 k0 (s.1,s.2.1,qa,qb,true,())
 else
 k0 (s.1,s.2.1,qa,qb,decide (6<qa.Kind),())
abbrev yMp:LW1 yPi yPh:=⟨(lvC 1 (mP cI) (lvC 3 yAM (lvC 5 yIw (lvC 6 yAM lvN)))),.normal,(lvC 1 (mP cI) (lvC 3 yAM (lvC 5 yIw (lvC 6 yAM (lvC 38 (mP cdB) lvN)))))⟩
theorem xBO{α:Type}(f1):yMp.Ep (α:=α) [yC4.s f1] Tryz.f18 [1,0,0] .no (yKj f1):=fun _ _=>by kernel_rfl
theorem yZW{α:Type}(L:Nat):PO Tryz.f18 [1,0,0] (yMp.s (α:=α) (yKj (yCd L))):=yMp.kp (xBO (yCd L)) (tC (yPf L).ent tN) (lN _) (by kernel_rfl)
abbrev yPl:=Int×yAC×yAp×yAC×Bool×Unit
abbrev yPj:=Int×yAC×yAp×yAC×Unit
abbrev yPk:=yAC×ByteArray×Int×Unit
abbrev yIh{α:Type}(s:yPl)(k0:yPj->Option α)(k1:yPk->Option α):Option α:=
 bif s.2.2.2.2.1 then
 k1 (s.2.1,noS,2,())
 else
 k0 (s.1,s.2.1,s.2.2.1,s.2.2.2.1,())
abbrev yMq:LW2 yPl yPj yPk:=⟨(lvC 1 (mP cI) (lvC 3 yAM (lvC 5 yIw (lvC 6 yAM (lvC 38 (mP cdB) lvN))))),.normal,(lvC 1 (mP cI) (lvC 3 yAM (lvC 5 yIw (lvC 6 yAM lvN)))),.ret,(lvC 6 yAM (lvC 7 (mP cdS) (lvC 8 (mP cI) lvN)))⟩
theorem xBP{α:Type}:yMq.Ep (α:=α) [] Tryz.f18 [1,0,1] .no (yIh):=fun _ _=>by kernel_rfl
theorem yZX{α:Type}(L:Nat):PO Tryz.f18 [1,0,1] (yMq.s (α:=α) (yIh)):=yMq.kp (xBP) tN (lN _) (by kernel_rfl)
abbrev yPn:=Int×yAC×yAp×yAC×Unit
abbrev yPm:=Int×yAC×yAp×yAC×Bool×Unit
abbrev yIi{α:Type}(s:yPn)(k0:yPm->Option α):Option α:=
 bif s.2.2.1.Kind==2 then
 k0 (s.1,s.2.1,s.2.2.1,s.2.2.2.1,true,())
 else
 k0 (s.1,s.2.1,s.2.2.1,s.2.2.2.1,s.2.2.1.Kind==3,())
abbrev yMr:LW1 yPn yPm:=⟨(lvC 1 (mP cI) (lvC 3 yAM (lvC 5 yIw (lvC 6 yAM lvN)))),.normal,(lvC 1 (mP cI) (lvC 3 yAM (lvC 5 yIw (lvC 6 yAM (lvC 9 (mP cdB) lvN)))))⟩
theorem xBQ{α:Type}:yMr.Ep (α:=α) [] Tryz.f18 [1,1,0] .no (yIi):=fun _ _=>by kernel_rfl
theorem yZY{α:Type}(L:Nat):PO Tryz.f18 [1,1,0] (yMr.s (α:=α) (yIi)):=yMr.kp (xBQ) tN (lN _) (by kernel_rfl)
abbrev yPp:=Int×yAC×yAp×yAC×Bool×Unit
abbrev yPo:=Int×yAC×yAp×yAC×Bool×Bool×Unit
abbrev yFa{α:Type}(f1:yC5.T)(s:yPp)(k0:yPo->Option α):Option α:=
 letI qe:=s.2.1
 letI qd:=s.2.2.2.1
 letI qc:=68719476736<=qe.Next
 letI qb:=s.2.2.1
 letI qa:=s.2.2.2.2.1
 bif qa then
 bif decide (512<(qb.B.size:Int)) then
 k0 (s.1,qe,qb,qd,qa,true,())
 else
 bif qb.Kind==5 then
 yAA (f1 qe qb.Key) fun r1=>
 bif !r1 then
 k0 (s.1,qe,qb,qd,qa,true,())
 else
 bif qb.Kind==6 then
 k0 (s.1,qe,qb,qd,qa,decide qc,())
 else
 k0 (s.1,qe,qb,qd,qa,false,())
 else
 bif qb.Kind==6 then
 k0 (s.1,qe,qb,qd,qa,decide qc,())
 else
 k0 (s.1,qe,qb,qd,qa,false,())
 else
 bif qb.Kind==5 then
 yAA (f1 qe qb.Key) fun r2=>
 bif !r2 then
 k0 (s.1,qe,qb,qd,qa,true,())
 else
 bif qb.Kind==6 then
 k0 (s.1,qe,qb,qd,qa,decide qc,())
 else
 k0 (s.1,qe,qb,qd,qa,false,())
 else
 bif qb.Kind==6 then
 k0 (s.1,qe,qb,qd,qa,decide qc,())
 else
 k0 (s.1,qe,qb,qd,qa,false,())
abbrev yMs:LW1 yPp yPo:=⟨(lvC 1 (mP cI) (lvC 3 yAM (lvC 5 yIw (lvC 6 yAM (lvC 9 (mP cdB) lvN))))),.normal,(lvC 1 (mP cI) (lvC 3 yAM (lvC 5 yIw (lvC 6 yAM (lvC 9 (mP cdB) (lvC 76 (mP cdB) lvN))))))⟩
theorem xBR{α:Type}(f1):yMs.Ep (α:=α) [yC5.s f1] Tryz.f18 [1,1,1,0,0] .no (yFa f1):=fun _ _=>by kernel_rfl
theorem yZZ{α:Type}(L:Nat):PO Tryz.f18 [1,1,1,0,0] (yMs.s (α:=α) (yFa (yBl L))):=yMs.kp (xBR (yBl L)) (tC (yP5 L).ent tN) (lN _) (by kernel_rfl)
abbrev yPs:=Int×yAC×yAp×yAC×Bool×Bool×Unit
abbrev yPq:=Int×yAC×yAp×yAC×Bool×Unit
abbrev yPr:=yAC×ByteArray×Int×Unit
abbrev yIj{α:Type}(s:yPs)(k0:yPq->Option α)(k1:yPr->Option α):Option α:=
 bif s.2.2.2.2.2.1 then
 k1 (s.2.1,noS,2,())
 else
 k0 (s.1,s.2.1,s.2.2.1,s.2.2.2.1,s.2.2.2.2.1,())
abbrev yMt:LW2 yPs yPq yPr:=⟨(lvC 1 (mP cI) (lvC 3 yAM (lvC 5 yIw (lvC 6 yAM (lvC 9 (mP cdB) (lvC 76 (mP cdB) lvN)))))),.normal,(lvC 1 (mP cI) (lvC 3 yAM (lvC 5 yIw (lvC 6 yAM (lvC 9 (mP cdB) lvN))))),.ret,(lvC 6 yAM (lvC 7 (mP cdS) (lvC 8 (mP cI) lvN)))⟩
theorem xBS{α:Type}:yMt.Ep (α:=α) [] Tryz.f18 [1,1,1,0,1] .no (yIj):=fun _ _=>by kernel_rfl
theorem yZa{α:Type}(L:Nat):PO Tryz.f18 [1,1,1,0,1] (yMt.s (α:=α) (yIj)):=yMt.kp (xBS) tN (lN _) (by kernel_rfl)
abbrev yPv:=Int×yAC×yAp×yAC×Bool×Unit
abbrev yPt:=Int×yAC×yAp×yAC×Bool×Unit
abbrev yPu:=yAC×ByteArray×Int×Unit
abbrev yIk{α:Type}(f1:yFz.T)(s:yPv)(k0:yPt->Option α)(k1:yPu->Option α):Option α:=
 bif s.2.2.1.Kind !=6 then
 gI s.2.1.Keys kI s.1<|
 yAA (f1 s.2.1 ([[V.int .i64 (aI s.2.1.Keys s.1.toNat 0)]])) fun r1=>
 bif r1 then
 k1 (s.2.1,noS,61,())
 else
 k0 (s.1,s.2.1,s.2.2.1,s.2.2.2.1,s.2.2.2.2.1,())
 else
 k0 (s.1,s.2.1,s.2.2.1,s.2.2.2.1,s.2.2.2.2.1,())
abbrev yMu:LW2 yPv yPt yPu:=⟨(lvC 1 (mP cI) (lvC 3 yAM (lvC 5 yIw (lvC 6 yAM (lvC 9 (mP cdB) lvN))))),.normal,(lvC 1 (mP cI) (lvC 3 yAM (lvC 5 yIw (lvC 6 yAM (lvC 9 (mP cdB) lvN))))),.ret,(lvC 6 yAM (lvC 7 (mP cdS) (lvC 8 (mP cI) lvN)))⟩
theorem xBT{α:Type}(f1):yMu.Ep (α:=α) [yFz.s f1] Tryz.f18 [1,1,1,1,0] .no (yIk f1):=fun _ _=>by kernel_rfl
theorem yZb{α:Type}(L:Nat):PO Tryz.f18 [1,1,1,1,0] (yMu.s (α:=α) (yIk (yGo L))):=yMu.kp (xBT (yGo L)) (tC (yZg L).ent tN) (lN _) (by kernel_rfl)
abbrev yPx:=Int×yAC×yAp×yAC×Bool×Unit
abbrev yPw:=Int×yAC×yAp×yAC×Bool×Unit
abbrev yFb{α:Type}(s:yPx)(k0:yPw->Option α):Option α:=
 letI qc:=s.2.2.2.1
 letI qa:=s.2.2.1
 letI qb:=(s.2.1.S.length:Int)<=qa.Sector
 bif s.2.2.2.2.1 then
 bif decide (qa.Sector<0) then
 k0 (s.1,s.2.1,qa,qc,true,())
 else
 k0 (s.1,s.2.1,qa,qc,decide qb,())
 else
 bif qa.Kind==1 then
 bif decide (qa.Sector<0) then
 k0 (s.1,s.2.1,qa,qc,true,())
 else
 k0 (s.1,s.2.1,qa,qc,decide qb,())
 else
 k0 (s.1,s.2.1,qa,qc,false,())
abbrev yMv:LW1 yPx yPw:=⟨(lvC 1 (mP cI) (lvC 3 yAM (lvC 5 yIw (lvC 6 yAM (lvC 9 (mP cdB) lvN))))),.normal,(lvC 1 (mP cI) (lvC 3 yAM (lvC 5 yIw (lvC 6 yAM (lvC 110 (mP cdB) lvN)))))⟩
theorem xBU{α:Type}:yMv.Ep (α:=α) [] Tryz.f18 [1,1,1,1,1,0,0] .no (yFb):=fun _ _=>by kernel_rfl
theorem yZc{α:Type}(L:Nat):PO Tryz.f18 [1,1,1,1,1,0,0] (yMv.s (α:=α) (yFb)):=yMv.kp (xBU) tN (lN _) (by kernel_rfl)
abbrev yP0:=Int×yAC×yAp×yAC×Bool×Unit
abbrev yPy:=Int×yAC×yAp×yAC×Unit
abbrev yPz:=yAC×ByteArray×Int×Unit
abbrev yIl{α:Type}(s:yP0)(k0:yPy->Option α)(k1:yPz->Option α):Option α:=
 bif s.2.2.2.2.1 then
 k1 (s.2.1,noS,60,())
 else
 k0 (s.1,s.2.1,s.2.2.1,s.2.2.2.1,())
abbrev yMw:LW2 yP0 yPy yPz:=⟨(lvC 1 (mP cI) (lvC 3 yAM (lvC 5 yIw (lvC 6 yAM (lvC 110 (mP cdB) lvN))))),.normal,(lvC 1 (mP cI) (lvC 3 yAM (lvC 5 yIw (lvC 6 yAM lvN)))),.ret,(lvC 6 yAM (lvC 7 (mP cdS) (lvC 8 (mP cI) lvN)))⟩
theorem xBV{α:Type}:yMw.Ep (α:=α) [] Tryz.f18 [1,1,1,1,1,0,1] .no (yIl):=fun _ _=>by kernel_rfl
theorem yZd{α:Type}(L:Nat):PO Tryz.f18 [1,1,1,1,1,0,1] (yMw.s (α:=α) (yIl)):=yMw.kp (xBV) tN (lN _) (by kernel_rfl)
abbrev yP2:=Int×yAC×yAp×yAC×Unit
abbrev yP1:=Int×yAp×yAC×((List (List V))×(List (List V))×(List (List V))×Int×(List (List V))×Unit)×Unit
abbrev yKk{α:Type}(f1:yF1.T)(s:yP2)(k0:yP1->Option α):Option α:=
 yAA (f1 s.2.1) fun r1=>
 gW r1.1 r1.1.length<|
 gW r1.2.1 r1.2.1.length<|
 gW r1.2.2.1 r1.2.2.1.length<|
 gF r1.2.2.2.2.1 (0+r1.2.2.2.2.1.length)<|
 k0 (s.1,s.2.2.1,s.2.2.2.1,(r1.1,r1.2.1,r1.2.2.1,r1.2.2.2.1,r1.2.2.2.2.1.take r1.2.2.2.2.1.length,()),())
abbrev yMx:LW1 yP2 yP1:=⟨(lvC 1 (mP cI) (lvC 3 yAM (lvC 5 yIw (lvC 6 yAM lvN)))),.normal,(lvC 1 (mP cI) (lvC 5 yIw (lvC 6 yAM (lvC 10 (mO (zW 1 (zW 1 (zW 1 (zP cI (zP cdR zN))))) 5) lvN))))⟩
theorem xBW{α:Type}(f1):yMx.Ep (α:=α) [yF1.s f1] Tryz.f18 [1,1,1,1,1,1,0] .no (yKk f1):=fun _ _=>by kernel_rfl
theorem yZe{α:Type}(L:Nat):PO Tryz.f18 [1,1,1,1,1,1,0] (yMx.s (α:=α) (yKk (yFQ L))):=yMx.kp (xBW (yFQ L)) (tC (yZk L).ent tN) (lN _) (by kernel_rfl)
abbrev yP4:=Int×yAp×yAC×((List (List V))×(List (List V))×(List (List V))×Int×(List (List V))×Unit)×(List (List V))×Unit
abbrev yP3:=Int×yAp×yAC×((List (List V))×(List (List V))×(List (List V))×Int×(List (List V))×Unit)×(List (List V))×Int×Unit
abbrev yKl{α:Type}(f1:yHV.T)(s:yP4)(k0:yP3->Option α):Option α:=
 yAA (f1 s.2.2.2.2.1 s.2.1.Sector) fun r1=>
 gW s.2.2.2.1.1 s.2.2.2.1.1.length<|
 gW s.2.2.2.1.2.1 s.2.2.2.1.2.1.length<|
 gW s.2.2.2.1.2.2.1 s.2.2.2.1.2.2.1.length<|
 k0 (s.1,s.2.1,s.2.2.1,(s.2.2.2.1.1,s.2.2.2.1.2.1,s.2.2.2.1.2.2.1,s.2.2.2.1.2.2.2.1,s.2.2.2.1.2.2.2.2.1,()),s.2.2.2.2.1,r1,())
abbrev yMy:LW1 yP4 yP3:=⟨(lvC 1 (mP cI) (lvC 5 yIw (lvC 6 yAM (lvC 10 (mO (zW 1 (zW 1 (zW 1 (zP cI (zP cdR zN))))) 5) (lvC 11 (mP cdR) lvN))))),.normal,(lvC 1 (mP cI) (lvC 5 yIw (lvC 6 yAM (lvC 10 (mO (zW 1 (zW 1 (zW 1 (zP cI (zP cdR zN))))) 5) (lvC 11 (mP cdR) (lvC 12 (mP cI) lvN))))))⟩
theorem xBX{α:Type}(f1):yMy.Ep (α:=α) [yHV.s f1] Tryz.f18 [1,1,1,1,1,1,1,1,0] .no (yKl f1):=fun _ _=>by kernel_rfl
theorem yZf{α:Type}(L:Nat):PO Tryz.f18 [1,1,1,1,1,1,1,1,0] (yMy.s (α:=α) (yKl (yIm L))):=yMy.kp (xBX (yIm L)) (tC (xBb L).ent tN) (lN _) (by kernel_rfl)
abbrev yM9:=fw3 18 (caC yHy (caC cI (caC yNF caN))) (cdT (caC yHy (caC cdS (caC cI caN))))
abbrev yO3(f1:yEy.T)(f2:yHU.T)(f3:yDK.T)(P0:LF1 yPi yPh (yAC×ByteArray×Int×Unit))(P1:LF2 yPl yPj yPk (yAC×ByteArray×Int×Unit))(P2:LF1 yPn yPm (yAC×ByteArray×Int×Unit))(P3:LF1 yPp yPo (yAC×ByteArray×Int×Unit))(P4:LF2 yPs yPq yPr (yAC×ByteArray×Int×Unit))(P5:LF2 yPv yPt yPu (yAC×ByteArray×Int×Unit))(P6:LF1 yPx yPw (yAC×ByteArray×Int×Unit))(P7:LF2 yP0 yPy yPz (yAC×ByteArray×Int×Unit))(P8:LF1 yP2 yP1 (yAC×ByteArray×Int×Unit))(P9:LF1 yP4 yP3 (yAC×ByteArray×Int×Unit))(x0:yAC)(x1:Int)(x2:yAp):Option (yAC×ByteArray×Int×Unit):=
 P0 (x1,x0,x2,yAC.z,()) (fun q1=>
 P1 (q1.1,q1.2.1,q1.2.2.1,q1.2.2.2.1,q1.2.2.2.2.1,()) (fun q2=>
 P2 (q2.1,q2.2.1,q2.2.2.1,q2.2.2.2.1,()) (fun q3=>
 P3 (q3.1,q3.2.1,q3.2.2.1,q3.2.2.2.1,q3.2.2.2.2.1,()) (fun q4=>
 P4 (q4.1,q4.2.1,q4.2.2.1,q4.2.2.2.1,q4.2.2.2.2.1,q4.2.2.2.2.2.1,()) (fun q5=>
 P5 (q5.1,q5.2.1,q5.2.2.1,q5.2.2.2.1,q5.2.2.2.2.1,()) (fun q6=>
 P6 (q6.1,q6.2.1,q6.2.2.1,q6.2.2.2.1,q6.2.2.2.2.1,()) (fun q7=>
 P7 (q7.1,q7.2.1,q7.2.2.1,q7.2.2.2.1,q7.2.2.2.2.1,()) (fun q8=>
 P8 (q8.1,q8.2.1,q8.2.2.1,q8.2.2.2.1,()) (fun q9=>
 letI qB:=q9.2.2.2.1.2.2.1
 letI qt:=q9.2.2.2.1.2.1
 gB q9.1 qt.length<|
 gL qt kL (0+q9.1.toNat) 0<|
 gW q9.2.2.2.1.1 q9.2.2.2.1.1.length<|
 gW qt qt.length<|
 gW qB qB.length<|
 P9 (q9.1,q9.2.1,q9.2.2.1,(q9.2.2.2.1.1,qt,qB,q9.2.2.2.1.2.2.2.1,q9.2.2.2.1.2.2.2.2.1,()),aR qt (0+q9.1.toNat) 0,()) (fun q10=>
 letI qx:=q10.2.1
 letI qr:=q10.2.2.2.2.2.1
 letI qp:=q10.2.2.2.1.2.2.2.2.1
 letI qo:=q10.2.2.2.1.2.2.2.1
 letI qk:=0+qx.Sector.toNat
 letI qh:=q10.2.2.2.2.1
 letI qy:=0<(qh.length:Int)
 letI qq:=0+(aI qh 0 0).toNat
 letI qd:=0+q10.1.toNat
 letI qA:=Nat.ble 0 qd
 letI qc:=q10.2.2.2.1.1
 letI ql:=0+qc.length
 letI qj:=qc.set qq ((qc.getD qq []).take 0++([V.str (aS qh 0 1)]++(qc.getD qq []).drop 1))
 letI qe:=qc.set qk ((qc.getD qk []).take 0++([V.str qx.B]++(qc.getD qk []).drop 1))
 letI qb:=q10.2.2.2.1.2.1
 letI qs:=decide (0+q10.1.toNat<qb.length)
 letI qm:=0+qb.length
 letI qi:=qb.getD qd []
 letI qz:=Nat.ble 1 qi.length
 letI qw:=qb.set qd (qi.take 0++([V.sl ([]) true]++qi.drop 1))
 letI qa:=q10.2.2.2.1.2.2.1
 letI qn:=0+qa.length
 letI qg:=(⟨qc.take qc.length,qb.take qb.length,qa.take qa.length,qo,qp⟩:yAC)
 letI qf:=qa.set qd ((qa.getD qd []).take 0++([V.int .i64 (w64 ((w64 (16*qo))+q10.1))]++(qa.getD qd []).drop 1))
 bif qx.Kind==1 then
 bif decide (0<=qr) then
 gI qh yFh.ks qr<|
 gF qc ql<|
 gF qb qm<|
 gF qa qn<|
 some (qg,aS qh qr.toNat 1,0,())
 else
 gB qx.Sector qc.length<|
 gL qc kS qk 0<|
 gF qc ql<|
 gF qb qm<|
 gF qa qn<|
 some (qg,aS qc qk 0,0,())
 else
 bif qx.Kind==2 then
 gB qx.Sector qc.length<|
 gd (decide (0+qx.Sector.toNat<qc.length))<|
 gd (Nat.ble 0 qk)<|
 gd (Nat.ble 1 (qc.getD qk []).length)<|
 bif decide (0<=qr) then
 yAA (f1 qh qr) fun r11=>
 letI qu:=qb.set qd (qi.take 0++([V.sl r11 false]++qi.drop 1))
 gB q10.1 qb.length<|
 gd qs<|
 gd qA<|
 gd qz<|
 gF qe ql<|
 gF qu qm<|
 gF qa qn<|
 some ((⟨qe.take qc.length,qu.take qb.length,qa.take qa.length,qo,qp⟩:yAC),noS,0,())
 else
 gF qe ql<|
 gF qb qm<|
 gF qa qn<|
 some ((⟨qe.take qc.length,qb.take qb.length,qa.take qa.length,qo,qp⟩:yAC),noS,0,())
 else
 bif qx.Kind==3 then
 gd (decide (0<=qr))<|
 gI qh yFh.ks qr<|
 none
 else
 bif qx.Kind==4 then
 bif decide qy then
 gd (decide qy)<|
 gd (rowIs yFh.ks qh 0)<|
 gd (decide qy)<|
 gd (rowIs yFh.ks qh 0)<|
 gB (aI qh 0 0) qc.length<|
 gd (decide (0+(aI qh 0 0).toNat<qc.length))<|
 gd (Nat.ble 0 qq)<|
 gd (Nat.ble 1 (qc.getD qq []).length)<|
 yAA (f1 qh 0) fun r12=>
 letI qv:=qb.set qd (qi.take 0++([V.sl r12 false]++qi.drop 1))
 gB q10.1 qb.length<|
 gd qs<|
 gd qA<|
 gd qz<|
 gF qj ql<|
 gF qv qm<|
 gF qa qn<|
 some ((⟨qj.take qc.length,qv.take qb.length,qa.take qa.length,qo,qp⟩:yAC),noS,0,())
 else
 gF qc ql<|
 gF qb qm<|
 gF qa qn<|
 some (qg,noS,0,())
 else
 bif qx.Kind==5 then
 yAA (f2 qp qx.Key) fun r13=>
 gF qc ql<|
 gF qb qm<|
 gF qa qn<|
 some ((⟨qc.take qc.length,qb.take qb.length,qa.take qa.length,qo,r13⟩:yAC),noS,0,())
 else
 bif qx.Kind==6 then
 gB q10.1 qa.length<|
 gd (decide (0+q10.1.toNat<qa.length))<|
 gd qA<|
 gd (Nat.ble 1 (qa.getD qd []).length)<|
 gB q10.1 qb.length<|
 gd qs<|
 gd qA<|
 gd qz<|
 gB q10.1 qa.length<|
 gL qf kI qd 0<|
 yAA (f3 ([]) 6 ([[V.int .i64 (aI qf qd 0)]])) fun r14=>
 gd (Nat.ble (0+r14.1.length) r14.1.length)<|
 gd ((bytesOf (r14.1.take r14.1.length)).isSome)<|
 gF qc ql<|
 gF qw qm<|
 gF qf qn<|
 some ((⟨qc.take qc.length,qw.take qb.length,qf.take qa.length,w64 (qo+1),qp⟩:yAC),yHk (r14.1.take r14.1.length),0,())
 else
 gF qc ql<|
 gF qb qm<|
 gF qa qn<|
 some (qg,noS,0,())))) (fun q15=>
 some (q15.1,q15.2.1,q15.2.2.1,())))) (fun q16=>
 some (q16.1,q16.2.1,q16.2.2.1,()))) (fun q17=>
 some (q17.1,q17.2.1,q17.2.2.1,()))))) (fun q18=>
 some (q18.1,q18.2.1,q18.2.2.1,())))
theorem xHZ(f1 f2 f3 P0 P1 P2 P3 P4 P5 P6 P7 P8 P9):yM9.Eq [yEy.s f1,yHU.s f2,yDK.s f3] (.two .no (.two (.two (.pt (yMp.s P0)) (.pt (yMq.s P1))) (.two (.pt (yMr.s P2)) (.two (.two (.pt (yMs.s P3)) (.pt (yMt.s P4))) (.two (.pt (yMu.s P5)) (.two (.two (.pt (yMv.s P6)) (.pt (yMw.s P7))) (.two (.pt (yMx.s P8)) (.two .no (.two (.pt (yMy.s P9)) .no))))))))) (yO3 f1 f2 f3 P0 P1 P2 P3 P4 P5 P6 P7 P8 P9):=fun _=>by kernel_rfl
def yFZ(L:Nat):yM9.T:=yO3 (yP7 L) (yS7 L) (yCX L) (yKj (yCd L)) (yIh) (yIi) (yFa (yBl L)) (yIj) (yIk (yGo L)) (yFb) (yIl) (yKk (yFQ L)) (yKl (yIm L))
theorem xHY(L:Nat):yM9.C (yFZ L):=yM9.c (xHZ (yP7 L) (yS7 L) (yCX L) (yKj (yCd L)) (yIh) (yIi) (yFa (yBl L)) (yIj) (yIk (yGo L)) (yFb) (yIl) (yKk (yFQ L)) (yKl (yIm L))) (tC (yYN L).ent (tC (xBY L).ent (tC (yPZ L).ent tN))) Tryz.func18 (by kernel_rfl) (lS (lN _) (lS (lS (lP (yZW L)) (lP (yZX L))) (lS (lP (yZY L)) (lS (lS (lP (yZZ L)) (lP (yZa L))) (lS (lP (yZb L)) (lS (lS (lP (yZc L)) (lP (yZd L))) (lS (lP (yZe L)) (lS (lN _) (lS (lP (yZf L)) (lN _))))))))))
set_option maxRecDepth 100000
set_option maxHeartbeats 16000000
abbrev yN5:=ByteArray×Int×(List (List V))×Int×Unit
abbrev yLu:=(List (List V))×Unit
abbrev yRD:=(List (List V))×Int×Unit
abbrev yCs{α:Type}(f1:yDM.T)(s:yN5)(kn:yN5->Option α)(k0:yLu->Option α)(k1:yRD->Option α):Option α:=
 letI qa:=s.2.2.1
 bif decide (s.2.2.2.1<(s.1.size:Int)) then
 yAA (f1 s.1 s.2.2.2.1 s.2.1) fun r1=>
 bif r1.2.1 !=0 then
 k1 ([],r1.2.1,())
 else
 gd (Nat.beq (0+qa.length) qa.length)<|
 gM (qa.length+1) 8<|
 gA (qa++([[V.int .i64 r1.1]])) (qa.length+1)<|
 kn (s.1,s.2.1,qa++([[V.int .i64 r1.1]]),w64 (s.2.2.2.1+s.2.1),())
 else
 gA qa qa.length<|
 k0 (qa,())
abbrev yN6:LW2 yN5 yLu yRD:=⟨(lvC 0 (mP cdS) (lvC 1 (mP cI) (lvC 4 (mA 1) (lvC 6 (mP cI) lvN)))),(.exit 1),(lvC 4 (mA 1) lvN),.ret,(lvC 4 (mP cdR) (lvC 5 (mP cI) lvN))⟩
theorem xDG{α:Type}(f1):yN6.Eq (α:=α) [yDM.s f1] Tryz.f193 [1,1,0,1,0] .no (yCs f1):=fun _ _ _=>by kernel_rfl
abbrev yOv:=fw2 193 (caC cdS (caC cI caN)) (cdT (caC cdR (caC cI caN)))
abbrev yX3(f1:yC9.T)(F0:LF2 yN5 yLu yRD ((List (List V))×Int×Unit))(x0:ByteArray)(x1:Int):Option ((List (List V))×Int×Unit):=
 yAA (f1 x1) fun r1=>
 bif !r1 then
 some ([],2,())
 else
 gd (!(decide (x1=0)))<|
 bif((x0.size:Int).tmod x1) !=0 then
 some ([],10,())
 else
 F0 (x0,x1,[],0,()) (fun q2=>
 gF q2.1 (0+q2.1.length)<|
 some (q2.1.take q2.1.length,0,())) (fun q3=>
 some (q3.1,q3.2.1,()))
theorem xI8(f1 F0):yOv.Eq [yC9.s f1] (.two .no (.two .no (.two (.two .no (.one (.lp (yN6.s F0)))) .no))) (yX3 f1 F0):=fun _=>by kernel_rfl
def yX2(L:Nat):yOv.T:=yX3 (yEC L) (yAQ (yCs (yBX L)) L)
theorem xBC{α:Type}(L:Nat):LO Tryz.f193 [1,1,0,1,0] (yN6.s (α:=α) (yAQ (yCs (yBX L)) L)):=yN6.k (xDG (yBX L)) (tC (yOt L).ent tN) (lN _) (by kernel_rfl) L
theorem xI7(L:Nat):yOv.C (yX2 L):=yOv.c (xI8 (yEC L) (yAQ (yCs (yBX L)) L)) (tC (yRE L).ent tN) Tryz.func193 (by kernel_rfl) (lS (lN _) (lS (lN _) (lS (lS (lN _) (lB (lL (xBC L)))) (lN _))))
abbrev yLH:=fw1 194 (caC yCI caN) yC1
abbrev yTY(x0:yAR):Option yAF:=
 letI qb:=yL4 true x0.Slots 0
 letI qa:=(yL4 false qb 16).toNat
 letI qc:=List.replicate qa [V.int .i64 0,V.int .i64 0]
 gd (decide (0<=yL4 false qb 16))<|
 gd (decide (yL4 false qb 16<=yL4 false qb 16))<|
 gd (decide (16*qa<=281474976710656))<|
 gd (decide (yL4 false qb 16<=9223372036854775807))<|
 gF qc (0+qa)<|
 some (⟨qc.take qa,[],[]⟩:yAF)
theorem xFq:yLH.Eq [] .no (yTY):=fun _=>by kernel_rfl
def yRt(L:Nat):yLH.T:=yTY
theorem xFp(L:Nat):yLH.C (yRt L):=yLH.c (xFq) tN Tryz.func194 (by kernel_rfl) (lN _)
abbrev yDd:=fw1 257 (caC (cdP yY2) caN) cdB
abbrev yLG(f1:yCo.T)(x0:yBQ):Option Bool:=
 yAA (f1 x0.Geo) fun r1=>
 some r1
theorem yVq(f1):yDd.Eq [yCo.s f1] .no (yLG f1):=fun _=>by kernel_rfl
def yGt(L:Nat):yDd.T:=yLG (yF8 L)
theorem yVp(L:Nat):yDd.C (yGt L):=yDd.c (yVq (yF8 L)) (tC (yNM L).ent tN) Tryz.func257 (by kernel_rfl) (lN _)
end Go.Proofs.YtakljpcmbpaeaaaGreat

namespace Go.Proofs.YtakljpcmbpaeaaaGreat
set_option maxHeartbeats 16000000
set_option maxRecDepth 100000
open Go.RowKit
abbrev yI0:=fw5 111 (caC yCI (caC xAk (caC yC1 (caC cI (caC cdS caN))))) (cdT (caC xAk (caC yC1 (caC cI (caC cdB (caC cI caN))))))
abbrev yV8(f1:yFL.T)(f2:yEu.T)(f3:yFu.T)(f4:yM6.T)(f5:yGw.T)(f6:yKM.T)(f7:yGv.T)(f8:yCq.T)(f9:yEp.T)(f10:yFr.T)(f11:yFs.T)(f12:yBq.T)(f13:yES.T)(x0:yAR)(x1:yAP)(x2:yAF)(x3:Int)(x4:ByteArray):Option (yAP×yAF×Int×Bool×Int×Unit):=
 letI qx:=(⟨x1.T⟩:yAW)
 letI qw:=x1.At+1
 letI qj:=f2 (⟨x1,x0,x2,x3,false⟩:yAS)
 letI qg:=f8 (⟨(⟨x1.Own.Inst,x1.Own.Mbal,x1.Own.Bal,x1.Own.Val,x1.T.Seen,false,false⟩:yBh)⟩:yAW) ([[V.int .i64 x1.Own.Mbal]])
 letI qd:=(⟨x1.Node,x1.Cmd,0,0,yCn.z,(⟨0,0,0,noS,x1.T.Seen,false,false⟩:yBh)⟩:yAP)
 letI qc:=f9 x0 x1.Node (w64 (x1.I+1))
 bif decide (x1.At<0) then
 some (x1,x2,x3,false,0,())
 else
 bif decide (7<=w64 x1.At) then
 some (x1,x2,x3,false,0,())
 else
 bif decide (x1.At=0) then
 yAA (f1 x0 x2 x3 x4) fun r1=>
 bif r1.2.2.2.2.1 !=0 then
 bif r1.2.2.2.2.1 !=0 then
 some (x1,x2,x3,false,r1.2.2.2.2.1,())
 else
 some (x1,x2,x3,false,0,())
 else
 bif r1.2.2.2.1 then
 yAA qj fun r2=>
 bif r2.2.1 then
 yAA (f3 r1.2.2.1 r2.1.By r2.1.Serial) fun r3=>
 some (qd,r1.1,w64 (x3+1),r3,0,())
 else
 some (qd,r1.1,w64 (x3+1),false,0,())
 else
 yAA qj fun r4=>
 bif r4.2.1 then
 bif r4.1.Kind==0 then
 yAA (f4 x0) fun r5=>
 bif decide (w64 (x0.Log-r5)<=x3) then
 some (x1,x2,x3,false,150,())
 else
 some ({x1 with At:=1 },x2,x3,false,0,())
 else
 bif r4.1.Kind==2 then
 yAA (f4 x0) fun r6=>
 bif decide (w64 (x0.Log-r6)<=x3) then
 some (x1,x2,x3,false,150,())
 else
 some ({x1 with At:=1 },x2,x3,false,0,())
 else
 some ({x1 with At:=1 },x2,x3,false,0,())
 else
 some ({x1 with At:=1 },x2,x3,false,0,())
 else
 bif decide (x1.At=1) then
 yAA (f5 x4) fun r7=>
 bif r7.2.1 !=0 then
 bif r7.2.1 !=0 then
 some (x1,x2,x3,false,r7.2.1,())
 else
 some (x1,x2,x3,false,0,())
 else
 yAA (f6 r7.1 x3) fun r8=>
 yAA (f7 x1.Node ([[V.int .i64 r8.Mbal],[V.int .i64 x1.T.Seen]])) fun r9=>
 bif r9==0 then
 some (x1,x2,x3,false,150,())
 else
 some ({x1 with At:=2,Own:={r8 with Mbal:=r9 }},x2,x3,false,0,())
 else
 bif decide (x1.At=2) then
 yAA qg fun r10=>
 yAA (f9 x0 x1.Node 0) fun r11=>
 bif decide (r11<x0.Nodes) then
 some ({x1 with At:=IntKind.i8.wrap qw,I:=r11,T:=r10.2.Tally },x2,x3,false,0,())
 else
 yAA (f10 r10.2.Tally) fun r12=>
 bif r12 then
 some ((⟨x1.Node,x1.Cmd,0,0,yCn.z,(⟨0,0,0,noS,r10.2.Tally.Seen,false,false⟩:yBh)⟩:yAP),x2,x3,false,0,())
 else
 bif(IntKind.i8.wrap qw)==5 then
 some ({x1 with At:=6,I:=r11,T:=r10.2.Tally },x2,x3,false,0,())
 else
 yAA (f11 r10.2.Tally x1.Cmd) fun r13=>
 some ((⟨x1.Node,x1.Cmd,4,r11,{x1.Own with Bal:=x1.Own.Mbal,Val:=r13 },r10.2.Tally⟩:yAP),x2,x3,false,0,())
 else
 bif decide (x1.At=3) then
 yAA (f5 x4) fun r14=>
 letI qk:=r14.1
 bif r14.2.1 !=0 then
 bif r14.2.1 !=0 then
 some (x1,x2,x3,false,r14.2.1,())
 else
 some (x1,x2,x3,false,0,())
 else
 yAA (f8 qx ([[V.int .i64 qk.Mbal]])) fun r15=>
 letI qh:=r15.2
 letI qu:={qh.Tally with Lost:=true }
 letI qs:={qh.Tally with Ahead:=true }
 letI qo:={qh.Tally with Best:=qk.Bal,Val:=qk.Val,Lost:=true }
 letI qe:=qh.Tally.Mbal<qk.Mbal
 letI qq:={qh.Tally with Lost:=decide qe }
 letI qm:={qh.Tally with Best:=qk.Bal,Val:=qk.Val,Lost:=decide qe }
 letI qa:=(⟨x1.Node,x1.Cmd,0,0,yCn.z,(⟨0,0,0,noS,qh.Tally.Seen,false,false⟩:yBh)⟩:yAP)
 bif decide (qh.Tally.Inst<qk.Inst) then
 yAA qc fun r16=>
 bif decide (r16<x0.Nodes) then
 some ({x1 with I:=r16,T:={qh.Tally with Ahead:=true }},x2,x3,false,0,())
 else
 yAA (f10 qs) fun r17=>
 bif r17 then
 some (qa,x2,x3,false,0,())
 else
 bif x1.At==5 then
 some ({x1 with At:=6,I:=r16,T:={qh.Tally with Ahead:=true }},x2,x3,false,0,())
 else
 yAA (f11 qs x1.Cmd) fun r18=>
 some ((⟨x1.Node,x1.Cmd,4,r16,{x1.Own with Bal:=x1.Own.Mbal,Val:=r18 },{qh.Tally with Ahead:=true }⟩:yAP),x2,x3,false,0,())
 else
 bif qk.Inst==qh.Tally.Inst then
 bif qh.Tally.Lost then
 bif decide (qh.Tally.Best<qk.Bal) then
 yAA qc fun r19=>
 bif decide (r19<x0.Nodes) then
 some ({x1 with I:=r19,T:={qh.Tally with Best:=qk.Bal,Val:=qk.Val,Lost:=true }},x2,x3,false,0,())
 else
 yAA (f10 qo) fun r20=>
 bif r20 then
 some (qa,x2,x3,false,0,())
 else
 bif x1.At==5 then
 some ({x1 with At:=6,I:=r19,T:={qh.Tally with Best:=qk.Bal,Val:=qk.Val,Lost:=true }},x2,x3,false,0,())
 else
 yAA (f11 qo x1.Cmd) fun r21=>
 some ((⟨x1.Node,x1.Cmd,4,r19,{x1.Own with Bal:=x1.Own.Mbal,Val:=r21 },{qh.Tally with Best:=qk.Bal,Val:=qk.Val,Lost:=true }⟩:yAP),x2,x3,false,0,())
 else
 yAA qc fun r22=>
 bif decide (r22<x0.Nodes) then
 some ({x1 with I:=r22,T:={qh.Tally with Lost:=true }},x2,x3,false,0,())
 else
 yAA (f10 qu) fun r23=>
 bif r23 then
 some (qa,x2,x3,false,0,())
 else
 bif x1.At==5 then
 some ({x1 with At:=6,I:=r22,T:={qh.Tally with Lost:=true }},x2,x3,false,0,())
 else
 yAA (f11 qu x1.Cmd) fun r24=>
 some ((⟨x1.Node,x1.Cmd,4,r22,{x1.Own with Bal:=x1.Own.Mbal,Val:=r24 },{qh.Tally with Lost:=true }⟩:yAP),x2,x3,false,0,())
 else
 bif decide (qh.Tally.Best<qk.Bal) then
 yAA qc fun r25=>
 bif decide (r25<x0.Nodes) then
 some ({x1 with I:=r25,T:={qh.Tally with Best:=qk.Bal,Val:=qk.Val,Lost:=decide qe }},x2,x3,false,0,())
 else
 yAA (f10 qm) fun r26=>
 bif r26 then
 some (qa,x2,x3,false,0,())
 else
 bif x1.At==5 then
 some ({x1 with At:=6,I:=r25,T:={qh.Tally with Best:=qk.Bal,Val:=qk.Val,Lost:=decide qe }},x2,x3,false,0,())
 else
 yAA (f11 qm x1.Cmd) fun r27=>
 some ((⟨x1.Node,x1.Cmd,4,r25,{x1.Own with Bal:=x1.Own.Mbal,Val:=r27 },{qh.Tally with Best:=qk.Bal,Val:=qk.Val,Lost:=decide qe }⟩:yAP),x2,x3,false,0,())
 else
 yAA qc fun r28=>
 bif decide (r28<x0.Nodes) then
 some ({x1 with I:=r28,T:={qh.Tally with Lost:=decide qe }},x2,x3,false,0,())
 else
 yAA (f10 qq) fun r29=>
 bif r29 then
 some (qa,x2,x3,false,0,())
 else
 bif x1.At==5 then
 some ({x1 with At:=6,I:=r28,T:={qh.Tally with Lost:=decide qe }},x2,x3,false,0,())
 else
 yAA (f11 qq x1.Cmd) fun r30=>
 some ((⟨x1.Node,x1.Cmd,4,r28,{x1.Own with Bal:=x1.Own.Mbal,Val:=r30 },{qh.Tally with Lost:=decide qe }⟩:yAP),x2,x3,false,0,())
 else
 yAA qc fun r31=>
 bif decide (r31<x0.Nodes) then
 some ({x1 with I:=r31,T:=qh.Tally },x2,x3,false,0,())
 else
 yAA (f10 qh.Tally) fun r32=>
 bif r32 then
 some (qa,x2,x3,false,0,())
 else
 bif x1.At==5 then
 some ({x1 with At:=6,I:=r31,T:=qh.Tally },x2,x3,false,0,())
 else
 yAA (f11 qh.Tally x1.Cmd) fun r33=>
 some ((⟨x1.Node,x1.Cmd,4,r31,{x1.Own with Bal:=x1.Own.Mbal,Val:=r33 },qh.Tally⟩:yAP),x2,x3,false,0,())
 else
 bif decide (x1.At=4) then
 yAA qg fun r34=>
 yAA (f9 x0 x1.Node 0) fun r35=>
 bif decide (r35<x0.Nodes) then
 some ({x1 with At:=IntKind.i8.wrap qw,I:=r35,T:=r34.2.Tally },x2,x3,false,0,())
 else
 yAA (f10 r34.2.Tally) fun r36=>
 bif r36 then
 some ((⟨x1.Node,x1.Cmd,0,0,yCn.z,(⟨0,0,0,noS,r34.2.Tally.Seen,false,false⟩:yBh)⟩:yAP),x2,x3,false,0,())
 else
 bif(IntKind.i8.wrap qw)==5 then
 some ({x1 with At:=6,I:=r35,T:=r34.2.Tally },x2,x3,false,0,())
 else
 yAA (f11 r34.2.Tally x1.Cmd) fun r37=>
 some ((⟨x1.Node,x1.Cmd,4,r35,{x1.Own with Bal:=x1.Own.Mbal,Val:=r37 },r34.2.Tally⟩:yAP),x2,x3,false,0,())
 else
 bif decide (x1.At=5) then
 yAA (f5 x4) fun r38=>
 letI ql:=r38.1
 bif r38.2.1 !=0 then
 bif r38.2.1 !=0 then
 some (x1,x2,x3,false,r38.2.1,())
 else
 some (x1,x2,x3,false,0,())
 else
 yAA (f8 qx ([[V.int .i64 ql.Mbal]])) fun r39=>
 letI qi:=r39.2
 letI qv:={qi.Tally with Lost:=true }
 letI qt:={qi.Tally with Ahead:=true }
 letI qp:={qi.Tally with Best:=ql.Bal,Val:=ql.Val,Lost:=true }
 letI qf:=qi.Tally.Mbal<ql.Mbal
 letI qr:={qi.Tally with Lost:=decide qf }
 letI qn:={qi.Tally with Best:=ql.Bal,Val:=ql.Val,Lost:=decide qf }
 letI qb:=(⟨x1.Node,x1.Cmd,0,0,yCn.z,(⟨0,0,0,noS,qi.Tally.Seen,false,false⟩:yBh)⟩:yAP)
 bif decide (qi.Tally.Inst<ql.Inst) then
 yAA qc fun r40=>
 bif decide (r40<x0.Nodes) then
 some ({x1 with I:=r40,T:={qi.Tally with Ahead:=true }},x2,x3,false,0,())
 else
 yAA (f10 qt) fun r41=>
 bif r41 then
 some (qb,x2,x3,false,0,())
 else
 bif x1.At==5 then
 some ({x1 with At:=6,I:=r40,T:={qi.Tally with Ahead:=true }},x2,x3,false,0,())
 else
 yAA (f11 qt x1.Cmd) fun r42=>
 some ((⟨x1.Node,x1.Cmd,4,r40,{x1.Own with Bal:=x1.Own.Mbal,Val:=r42 },{qi.Tally with Ahead:=true }⟩:yAP),x2,x3,false,0,())
 else
 bif ql.Inst==qi.Tally.Inst then
 bif qi.Tally.Lost then
 bif decide (qi.Tally.Best<ql.Bal) then
 yAA qc fun r43=>
 bif decide (r43<x0.Nodes) then
 some ({x1 with I:=r43,T:={qi.Tally with Best:=ql.Bal,Val:=ql.Val,Lost:=true }},x2,x3,false,0,())
 else
 yAA (f10 qp) fun r44=>
 bif r44 then
 some (qb,x2,x3,false,0,())
 else
 bif x1.At==5 then
 some ({x1 with At:=6,I:=r43,T:={qi.Tally with Best:=ql.Bal,Val:=ql.Val,Lost:=true }},x2,x3,false,0,())
 else
 yAA (f11 qp x1.Cmd) fun r45=>
 some ((⟨x1.Node,x1.Cmd,4,r43,{x1.Own with Bal:=x1.Own.Mbal,Val:=r45 },{qi.Tally with Best:=ql.Bal,Val:=ql.Val,Lost:=true }⟩:yAP),x2,x3,false,0,())
 else
 yAA qc fun r46=>
 bif decide (r46<x0.Nodes) then
 some ({x1 with I:=r46,T:={qi.Tally with Lost:=true }},x2,x3,false,0,())
 else
 yAA (f10 qv) fun r47=>
 bif r47 then
 some (qb,x2,x3,false,0,())
 else
 bif x1.At==5 then
 some ({x1 with At:=6,I:=r46,T:={qi.Tally with Lost:=true }},x2,x3,false,0,())
 else
 yAA (f11 qv x1.Cmd) fun r48=>
 some ((⟨x1.Node,x1.Cmd,4,r46,{x1.Own with Bal:=x1.Own.Mbal,Val:=r48 },{qi.Tally with Lost:=true }⟩:yAP),x2,x3,false,0,())
 else
 bif decide (qi.Tally.Best<ql.Bal) then
 yAA qc fun r49=>
 bif decide (r49<x0.Nodes) then
 some ({x1 with I:=r49,T:={qi.Tally with Best:=ql.Bal,Val:=ql.Val,Lost:=decide qf }},x2,x3,false,0,())
 else
 yAA (f10 qn) fun r50=>
 bif r50 then
 some (qb,x2,x3,false,0,())
 else
 bif x1.At==5 then
 some ({x1 with At:=6,I:=r49,T:={qi.Tally with Best:=ql.Bal,Val:=ql.Val,Lost:=decide qf }},x2,x3,false,0,())
 else
 yAA (f11 qn x1.Cmd) fun r51=>
 some ((⟨x1.Node,x1.Cmd,4,r49,{x1.Own with Bal:=x1.Own.Mbal,Val:=r51 },{qi.Tally with Best:=ql.Bal,Val:=ql.Val,Lost:=decide qf }⟩:yAP),x2,x3,false,0,())
 else
 yAA qc fun r52=>
 bif decide (r52<x0.Nodes) then
 some ({x1 with I:=r52,T:={qi.Tally with Lost:=decide qf }},x2,x3,false,0,())
 else
 yAA (f10 qr) fun r53=>
 bif r53 then
 some (qb,x2,x3,false,0,())
 else
 bif x1.At==5 then
 some ({x1 with At:=6,I:=r52,T:={qi.Tally with Lost:=decide qf }},x2,x3,false,0,())
 else
 yAA (f11 qr x1.Cmd) fun r54=>
 some ((⟨x1.Node,x1.Cmd,4,r52,{x1.Own with Bal:=x1.Own.Mbal,Val:=r54 },{qi.Tally with Lost:=decide qf }⟩:yAP),x2,x3,false,0,())
 else
 yAA qc fun r55=>
 bif decide (r55<x0.Nodes) then
 some ({x1 with I:=r55,T:=qi.Tally },x2,x3,false,0,())
 else
 yAA (f10 qi.Tally) fun r56=>
 bif r56 then
 some (qb,x2,x3,false,0,())
 else
 bif x1.At==5 then
 some ({x1 with At:=6,I:=r55,T:=qi.Tally },x2,x3,false,0,())
 else
 yAA (f11 qi.Tally x1.Cmd) fun r57=>
 some ((⟨x1.Node,x1.Cmd,4,r55,{x1.Own with Bal:=x1.Own.Mbal,Val:=r57 },qi.Tally⟩:yAP),x2,x3,false,0,())
 else
 gd (decide (x1.At=6))<|
 yAA (f12 x1.Own.Val) fun r58=>
 bif r58.2.1 !=0 then
 some (x1,x2,x3,false,50,())
 else
 yAA (f13 x0 x2 r58.1) fun r59=>
 yAA qj fun r60=>
 bif r60.2.1 then
 yAA (f3 r58.1 r60.1.By r60.1.Serial) fun r61=>
 some (qd,r59,w64 (x3+1),r61,0,())
 else
 some (qd,r59,w64 (x3+1),false,0,())
theorem xDL(f1 f2 f3 f4 f5 f6 f7 f8 f9 f10 f11 f12 f13):yI0.Eq [yFL.s f1,yEu.s f2,yFu.s f3,yM6.s f4,yGw.s f5,yKM.s f6,yGv.s f7,yCq.s f8,yEp.s f9,yFr.s f10,yFs.s f11,yBq.s f12,yES.s f13] .no (yV8 f1 f2 f3 f4 f5 f6 f7 f8 f9 f10 f11 f12 f13):=fun _=>by kernel_rfl
def yVG(L:Nat):yI0.T:=yV8 (yG7 L) (yPY L) (yQx L) (xAu L) (ySg L) (yXO L) (ySf L) (yKP L) (yPD L) (yQs L) (yQt L) (yCN L) (yC0 L)
theorem xDK(L:Nat):yI0.C (yVG L):=yI0.c (xDL (yG7 L) (yPY L) (yQx L) (xAu L) (ySg L) (yXO L) (ySf L) (yKP L) (yPD L) (yQs L) (yQt L) (yCN L) (yC0 L)) (tC (yV2 L).ent (tC (yX7 L).ent (tC (yY8 L).ent (tC (xG9 L).ent (tC (xAe L).ent (tC (xEY L).ent (tC (xAc L).ent (tC (ySm L).ent (tC (yXa L).ent (tC (yY4 L).ent (tC (yY6 L).ent (tC (yH0 L).ent (tC (yUm L).ent tN))))))))))))) Tryz.func111 (by kernel_rfl) (lN _)
end Go.Proofs.YtakljpcmbpaeaaaGreat

namespace Go.Proofs.YtakljpcmbpaeaaaGreat
open Go.RowKit
set_option maxRecDepth 100000
set_option maxHeartbeats 16000000
abbrev yJO:=fw1 199 (caC cdS caN) (cdT (caC cI (caC cI caN)))
abbrev yWE(f1:yC7.T)(x0:ByteArray):Option (Int×Int×Unit):=
 yAA (f1 2 x0 ([[V.int .i64 6]])) fun r1=>
 bif r1.2.2.1==0 then
 bif r1.2.1.toList==noS.toList then
 gd (decide (0<(r1.1.length:Int)))<|
 gL r1.1 kI 0 0<|
 some (aI r1.1 0 0,0,())
 else
 some (0,50,())
 else
 some (0,50,())
theorem xEB(f1):yJO.Eq [yC7.s f1] .no (yWE f1):=fun _=>by kernel_rfl
def yVo(L:Nat):yJO.T:=yWE (yEd L)
theorem xEA(L:Nat):yJO.C (yVo L):=yJO.c (xEB (yEd L)) (tC (yQF L).ent tN) Tryz.func199 (by kernel_rfl) (lN _)
abbrev yHe:=fw1 200 (caC yNG caN) yNG
abbrev yUi(x0:yAG):Option yAG:=
 bif x0.At==0 then
 bif decide ((x0.Cells.length:Int)<=w64 (x0.I+1)) then
 some (⟨x0.Cells,w64 (x0.I+1),(x0.Cells.length:Int),1⟩:yAG)
 else
 some ({x0 with I:=w64 (x0.I+1)})
 else
 bif x0.At==1 then
 bif decide (w64 (x0.Left-1)<=0) then
 some ({x0 with Left:=0,At:=2 })
 else
 some ({x0 with Left:=w64 (x0.Left-1)})
 else
 bif x0.At==2 then
 some ({x0 with At:=3 })
 else
 some x0
theorem xBz:yHe.Eq [] .no (yUi):=fun _=>by kernel_rfl
def yTL(L:Nat):yHe.T:=yUi
theorem xBy(L:Nat):yHe.C (yTL L):=yHe.c (xBz) tN Tryz.func200 (by kernel_rfl) (lN _)
abbrev yIy:=fw3 19 (caC yCI (caC ySk (caC cdS caN))) (cdT (caC ySk (caC yXX (caC cdB caN))))
abbrev yGh(f1:yOv.T)(f2:yFI.T)(f3:yLH.T)(f4:yC7.T)(f5:yDd.T)(f6:yFj.T)(f7:yFL.T)(f8:yC8.T)(f9:yED.T)(f10:yFN.T)(f11:yI0.T)(f12:yFV.T)(f13:yJO.T)(f14:yHe.T)(f15:yEI.T)(x0:yAR)(x1:yBO)(x2:ByteArray):Option (yBO×yAE×Bool×Unit):=
 letI qi:=f11 x0 x1.P x1.Table x1.Done x2
 letI qf:= [V.int .i64 2]
 letI qe:=x1.Serial+1
 letI qc:=f8 (⟨0,x1.Key,w64 qe,0,0,yAK.z,0⟩:yAI)
 letI qb:=(⟨2,noS,false⟩:yAE)
 letI qa:=(⟨50,noS,false⟩:yAE)
 bif decide (x1.At<0) then
 some ({x1 with At:=0,P:=yAP.z,St:=yAG.z },qb,true,())
 else
 bif decide (7<x1.At) then
 some ({x1 with At:=0,P:=yAP.z,St:=yAG.z },qb,true,())
 else
 bif decide (x1.At=0) then
 yAA (f1 x2 6) fun r1=>
 letI qh:=decide (0<(r1.1.length:Int))
 bif r1.2.1 !=0 then
 some ({x1 with At:=0,P:=yAP.z,St:=yAG.z },qa,true,())
 else
 bif(r1.1.length:Int) !=1 then
 some ({x1 with At:=0,P:=yAP.z,St:=yAG.z },qa,true,())
 else
 gd qh<|
 gd (rowIs kI r1.1 0)<|
 yAA (f2 (aI r1.1 0 0)) fun r2=>
 bif r2 !=x1.Num then
 some ({x1 with At:=0,P:=yAP.z,St:=yAG.z },qa,true,())
 else
 gd qh<|
 gd (rowIs kI r1.1 0)<|
 yAA (f3 x0) fun r3=>
 some ({x1 with Key:=aI r1.1 0 0,Count:=0,Table:=r3,Done:=0,Serial:=0,At:=1 },yAE.z,false,())
 else
 bif decide (x1.At=1) then
 yAA (f4 1 x2 ([qf,qf,qf,qf,qf,qf,[V.int .i64 4],[V.int .i64 4]])) fun r4=>
 letI qj:=r4.2.1.toList==noS.toList
 letI qd:=r4.1
 bif r4.2.2.1==0 then
 gd (decide (0<(qd.length:Int)))<|
 gL qd kI 0 0<|
 gd (decide (1<(qd.length:Int)))<|
 gL qd kI 1 0<|
 gd (decide (2<(qd.length:Int)))<|
 gL qd kI 2 0<|
 gd (decide (3<(qd.length:Int)))<|
 gL qd kI 3 0<|
 gd (decide (4<(qd.length:Int)))<|
 gL qd kI 4 0<|
 gd (decide (5<(qd.length:Int)))<|
 gL qd kI 5 0<|
 gd (decide (6<(qd.length:Int)))<|
 gL qd kI 6 0<|
 gd (decide (7<(qd.length:Int)))<|
 gL qd kI 7 0<|
 bif r4.2.2.1 !=0 then
 some ({x1 with At:=0,P:=yAP.z,St:=yAG.z },qa,true,())
 else
 bif !qj then
 some ({x1 with At:=0,P:=yAP.z,St:=yAG.z },qa,true,())
 else
 yAA (f5 (⟨(⟨aI qd 0 0,aI qd 1 0,aI qd 2 0,aI qd 3 0,aI qd 4 0,aI qd 5 0,aI qd 6 0,aI qd 7 0⟩:yAR)⟩:yBQ)) fun r5=>
 bif !r5 then
 some ({x1 with At:=0,P:=yAP.z,St:=yAG.z },qa,true,())
 else
 bif !(((aI qd 0 0)==x0.Nodes)&&(((aI qd 1 0)==x0.Slots)&&(((aI qd 2 0)==x0.Blocks)&&(((aI qd 3 0)==x0.Per)&&(((aI qd 4 0)==x0.Journal)&&(((aI qd 5 0)==x0.Log)&&(((aI qd 6 0)==x0.Lease)&&(((aI qd 7 0)==x0.Wait)&&true)))))))) then
 some ({x1 with At:=0,P:=yAP.z,St:=yAG.z },qa,true,())
 else
 some ({x1 with At:=2 },yAE.z,false,())
 else
 bif r4.2.2.1 !=0 then
 some ({x1 with At:=0,P:=yAP.z,St:=yAG.z },qa,true,())
 else
 bif !qj then
 some ({x1 with At:=0,P:=yAP.z,St:=yAG.z },qa,true,())
 else
 yAA (f5 yBQ.z) fun r6=>
 bif !r6 then
 some ({x1 with At:=0,P:=yAP.z,St:=yAG.z },qa,true,())
 else
 bif !((0==x0.Nodes)&&((0==x0.Slots)&&((0==x0.Blocks)&&((0==x0.Per)&&((0==x0.Journal)&&((0==x0.Log)&&((0==x0.Lease)&&((0==x0.Wait)&&true)))))))) then
 some ({x1 with At:=0,P:=yAP.z,St:=yAG.z },qa,true,())
 else
 some ({x1 with At:=2 },yAE.z,false,())
 else
 bif decide (x1.At=2) then
 some ({x1 with Asked:=x1.Clock,Count:=1,At:=3 },yAE.z,false,())
 else
 bif decide (x1.At=3) then
 yAA (f6 x0 x1.Done) fun r7=>
 bif decide (0<=r7) then
 yAA (f7 x0 x1.Table x1.Done x2) fun r8=>
 bif r8.2.2.2.2.1 !=0 then
 some ({x1 with At:=0,P:=yAP.z,St:=yAG.z },(⟨r8.2.2.2.2.1,noS,false⟩:yAE),true,())
 else
 bif r8.2.2.2.1 then
 some ({x1 with Table:=r8.1,Done:=r8.2.1 },yAE.z,false,())
 else
 bif x1.Op.Kind==0 then
 yAA qc fun r9=>
 yAA (f9 x0 x1.Num r9.1) fun r10=>
 bif r9.2.1 !=0 then
 some ({x1 with Table:=r8.1,Done:=r8.2.1,At:=0,P:=yAP.z,St:=yAG.z },qb,true,())
 else
 bif r10.2.1 !=0 then
 some ({x1 with Table:=r8.1,Done:=r8.2.1,At:=0,P:=yAP.z,St:=yAG.z },qb,true,())
 else
 some ({x1 with Table:=r8.1,Done:=r8.2.1,Serial:=w64 qe,At:=4,P:=r10.1 },yAE.z,false,())
 else
 some ({x1 with Table:=r8.1,Done:=r8.2.1,At:=0,P:=yAP.z,St:=yAG.z },yAE.z,true,())
 else
 bif x1.Op.Kind==0 then
 yAA qc fun r11=>
 yAA (f9 x0 x1.Num r11.1) fun r12=>
 bif r11.2.1 !=0 then
 some ({x1 with At:=0,P:=yAP.z,St:=yAG.z },qb,true,())
 else
 bif r12.2.1 !=0 then
 some ({x1 with At:=0,P:=yAP.z,St:=yAG.z },qb,true,())
 else
 some ({x1 with Serial:=w64 qe,At:=4,P:=r12.1 },yAE.z,false,())
 else
 some ({x1 with At:=0,P:=yAP.z,St:=yAG.z },yAE.z,true,())
 else
 bif decide (x1.At=4) then
 yAA (f10 x0 x1.P x1.Done) fun r13=>
 bif r13.2.1==0 then
 yAA qi fun r14=>
 bif r14.2.2.2.2.1==0 then
 bif !r14.2.2.2.1 then
 some ({x1 with Table:=r14.2.1,Done:=r14.2.2.1,P:=r14.1 },yAE.z,false,())
 else
 yAA (f12 r14.2.1 x1.Key) fun r15=>
 bif !r15.2.1 then
 some ({x1 with Table:=r14.2.1,Done:=r14.2.2.1,At:=0,P:=yAP.z,St:=yAG.z },(⟨240,noS,false⟩:yAE),true,())
 else
 some ({x1 with Slot:=r15.1,Table:=r14.2.1,Done:=r14.2.2.1,At:=5,P:=r14.1 },yAE.z,false,())
 else
 some ({x1 with At:=0,P:=yAP.z,St:=yAG.z },(⟨r14.2.2.2.2.1,noS,false⟩:yAE),true,())
 else
 some ({x1 with At:=0,P:=yAP.z,St:=yAG.z },(⟨r13.2.1,noS,false⟩:yAE),true,())
 else
 bif decide (x1.At=5) then
 yAA (f13 x2) fun r16=>
 letI qg:=(⟨r16.2.1,noS,false⟩:yAE)
 bif r16.2.1==0 then
 some ({x1 with Mounted:=true,Head:=r16.1,Tail:=r16.1,At:=0,P:=yAP.z,St:=yAG.z },qg,true,())
 else
 some ({x1 with At:=0,P:=yAP.z,St:=yAG.z },qg,true,())
 else
 bif decide (x1.At=6) then
 yAA (f14 x1.St) fun r17=>
 yAA (f15 r17) fun r18=>
 bif r18 then
 yAA (f8 (⟨1,x1.Key,w64 qe,0,0,yAK.z,0⟩:yAI)) fun r19=>
 yAA (f9 x0 x1.Num r19.1) fun r20=>
 bif r19.2.1 !=0 then
 some ({x1 with Tail:=x1.Head,Pend:= [],At:=0,P:=yAP.z,St:=yAG.z },qb,true,())
 else
 bif r20.2.1 !=0 then
 some ({x1 with Tail:=x1.Head,Pend:= [],At:=0,P:=yAP.z,St:=yAG.z },qb,true,())
 else
 some ({x1 with Tail:=x1.Head,Serial:=w64 qe,Pend:= [],At:=7,P:=r20.1,St:=yAG.z },yAE.z,false,())
 else
 some ({x1 with St:=r17 },yAE.z,false,())
 else
 gd (decide (x1.At=7))<|
 yAA (f10 x0 x1.P x1.Done) fun r21=>
 bif r21.2.1==0 then
 yAA qi fun r22=>
 bif r22.2.2.2.2.1==0 then
 bif r22.2.2.2.1 then
 some ({x1 with Mounted:=false,Slot:=0,Head:=0,Tail:=0,Table:=r22.2.1,Done:=r22.2.2.1,At:=0,P:=yAP.z,St:=yAG.z },yAE.z,true,())
 else
 some ({x1 with Table:=r22.2.1,Done:=r22.2.2.1,P:=r22.1 },yAE.z,false,())
 else
 some ({x1 with At:=0,P:=yAP.z,St:=yAG.z },(⟨r22.2.2.2.2.1,noS,false⟩:yAE),true,())
 else
 some ({x1 with At:=0,P:=yAP.z,St:=yAG.z },(⟨r21.2.1,noS,false⟩:yAE),true,())
theorem xDA(f1 f2 f3 f4 f5 f6 f7 f8 f9 f10 f11 f12 f13 f14 f15):yIy.Eq [yOv.s f1,yFI.s f2,yLH.s f3,yC7.s f4,yDd.s f5,yFj.s f6,yFL.s f7,yC8.s f8,yED.s f9,yFN.s f10,yI0.s f11,yFV.s f12,yJO.s f13,yHe.s f14,yEI.s f15] .no (yGh f1 f2 f3 f4 f5 f6 f7 f8 f9 f10 f11 f12 f13 f14 f15):=fun _=>by kernel_rfl
def yCJ(L:Nat):yIy.T:=yGh (yX2 L) (yKR L) (yRt L) (yEd L) (yGt L) (yJZ L) (yG7 L) (yJX L) (yNU L) (yOy L) (yVG L) (yNC L) (yVo L) (yTL L) (yNm L)
theorem xC9(L:Nat):yIy.C (yCJ L):=yIy.c (xDA (yX2 L) (yKR L) (yRt L) (yEd L) (yGt L) (yJZ L) (yG7 L) (yJX L) (yNU L) (yOy L) (yVG L) (yNC L) (yVo L) (yTL L) (yNm L)) (tC (xI7 L).ent (tC (yVv L).ent (tC (xFp L).ent (tC (yQF L).ent (tC (yVp L).ent (tC (yTx L).ent (tC (yV2 L).ent (tC (yQv L).ent (tC (yT8 L).ent (tC (yV9 L).ent (tC (xDK L).ent (tC (yWF L).ent (tC (xEA L).ent (tC (xBy L).ent (tC (yUg L).ent tN))))))))))))))) Tryz.func19 (by kernel_rfl) (lN _)
set_option maxRecDepth 100000
set_option maxHeartbeats 16000000
abbrev yLN:=Int×yAR×yAC×yBO×yAC×yBO×yAE×yBO×yAE×Bool×Int×Unit
abbrev yDT:=yAC×yAC×yBO×yAE×yBO×yAE×Bool×Int×Unit
abbrev yOJ:=yAC×yBO×yAE×Int×Bool×Unit
abbrev yFK{α:Type}(f1:yIz.T)(f2:yM9.T)(f3:yIy.T)(s:yLN)(kn:yLN->Option α)(k0:yDT->Option α)(k1:yOJ->Option α):Option α:=
 letI qg:=s.2.2.2.2.1
 letI qf:=s.2.2.2.2.2.1
 letI qe:=s.2.2.2.2.2.2.2.2.1
 letI qd:=s.2.2.2.2.2.2.2.2.2.1
 letI qc:=s.2.2.2.2.2.2.1
 letI qb:=s.2.2.2.2.2.2.2.1
 letI qa:=s.2.2.2.2.2.2.2.2.2.2.1
 bif !qd then
 bif decide (qa<s.1) then
 yAA (f1 s.2.1 qb) fun r1=>
 bif r1.Kind !=0 then
 yAA (f2 s.2.2.1 s.2.2.2.1.Num r1) fun r2=>
 bif r2.2.2.1 !=0 then
 k1 (s.2.2.1,qb,qe,qa,false,())
 else
 yAA (f3 s.2.1 qb r2.2.1) fun r3=>
 kn (s.1,s.2.1,r2.1,s.2.2.2.1,qg,qf,qc,r3.1,r3.2.1,r3.2.2.1,w64 (qa+1),())
 else
 yAA (f3 s.2.1 qb noS) fun r4=>
 kn (s.1,s.2.1,s.2.2.1,s.2.2.2.1,qg,qf,qc,r4.1,r4.2.1,r4.2.2.1,w64 (qa+1),())
 else
 k0 (s.2.2.1,qg,qf,qc,qb,qe,qd,qa,())
 else
 k0 (s.2.2.1,qg,qf,qc,qb,qe,qd,qa,())
abbrev yLO:LW2 yLN yDT yOJ:=⟨(lvC 4 (mP cI) (lvC 5 yQR (lvC 6 yAM (lvC 7 yJi (lvC 10 yAM (lvC 11 yJi (lvC 12 yGg (lvC 15 yJi (lvC 16 yGg (lvC 17 (mP cdB) (lvC 18 (mP cI) lvN))))))))))),(.exit 0),(lvC 6 yAM (lvC 10 yAM (lvC 11 yJi (lvC 12 yGg (lvC 15 yJi (lvC 16 yGg (lvC 17 (mP cdB) (lvC 18 (mP cI) lvN)))))))),.ret,(lvC 10 yAM (lvC 11 yJi (lvC 12 yGg (lvC 13 (mP cI) (lvC 14 (mP cdB) lvN)))))⟩
theorem yZH{α:Type}(f1 f2 f3):yLO.Eq (α:=α) [yIz.s f1,yM9.s f2,yIy.s f3] Tryz.f24 [1,1,1,1,1,0,0] .no (yFK f1 f2 f3):=fun _ _ _=>by kernel_rfl
abbrev yEX:=fw5 24 (caC yCI (caC yHy (caC ySk (caC (cdI .i8) (caC cI caN))))) (cdT (caC yHy (caC ySk (caC yXX (caC cI (caC cdB caN))))))
abbrev ySv(f1:yHA.T)(F0:LF2 yLN yDT yOJ (yAC×yBO×yAE×Int×Bool×Unit))(x0:yAR)(x1:yAC)(x2:yBO)(x3:Int)(x4:Int):Option (yAC×yBO×yAE×Int×Bool×Unit):=
 letI qa:=(⟨x3,yAK.z,0,0,noS,0,0⟩:xCH)
 yAA (f1 x0 ({x2 with Busy:=true,Op:=qa })) fun r1=>
 F0 (x4,x0,x1,{x2 with Busy:=true,Op:=qa },yAC.z,yBO.z,yAE.z,r1.1,r1.2.1,r1.2.2.1,0,()) (fun q2=>
 some (q2.1,q2.2.2.2.2.1,q2.2.2.2.2.2.1,q2.2.2.2.2.2.2.2.1,q2.2.2.2.2.2.2.1,())) (fun q3=>
 some (q3.1,q3.2.1,q3.2.2.1,q3.2.2.2.1,q3.2.2.2.2.1,()))
theorem xEs(f1 F0):yEX.Eq [yHA.s f1] (.two .no (.two .no (.two .no (.two .no (.two .no (.two (.one (.lp (yLO.s F0))) .no)))))) (ySv f1 F0):=fun _=>by kernel_rfl
def yEr(L:Nat):yEX.T:=ySv (yNR L) (yAQ (yFK (yCK L) (yFZ L) (yCJ L)) L)
theorem yXv{α:Type}(L:Nat):LO Tryz.f24 [1,1,1,1,1,0,0] (yLO.s (α:=α) (yAQ (yFK (yCK L) (yFZ L) (yCJ L)) L)):=yLO.k (yZH (yCK L) (yFZ L) (yCJ L)) (tC (xDB L).ent (tC (xHY L).ent (tC (xC9 L).ent tN))) (lN _) (by kernel_rfl) L
theorem ySu(L:Nat):yEX.C (yEr L):=yEX.c (xEs (yNR L) (yAQ (yFK (yCK L) (yFZ L) (yCJ L)) L)) (tC (xA5 L).ent tN) Tryz.func24 (by kernel_rfl) (lS (lN _) (lS (lN _) (lS (lN _) (lS (lN _) (lS (lN _) (lS (lB (lL (yXv L))) (lN _)))))))
abbrev yME:=Unit
abbrev yMD:=yAC×Bool×Unit
abbrev yLP{α:Type}(f1:yFJ.T)(s:yME)(k0:yMD->Option α):Option α:=
 yAA (f1 (⟨1,1,1,1,3,8,1,2⟩:yAR)) fun r1=>
 letI qa:=r1.2.2.2.2.1
 gF r1.1 (0+r1.1.length)<|
 gF r1.2.1 (0+r1.2.1.length)<|
 gF r1.2.2.1 (0+r1.2.2.1.length)<|
 gF qa (0+qa.length)<|
 k0 ((⟨r1.1.take r1.1.length,r1.2.1.take r1.2.1.length,r1.2.2.1.take r1.2.2.1.length,r1.2.2.2.1,qa.take qa.length⟩:yAC),r1.2.2.2.2.2.1,())
abbrev yIE:LW1 yME yMD:=⟨lvN,.normal,(lvC 1 yAM (lvC 2 (mP cdB) lvN))⟩
theorem yWR{α:Type}(f1):yIE.Ep (α:=α) [yFJ.s f1] Tryz.f11 [1,0] .no (yLP f1):=fun _ _=>by kernel_rfl
theorem yU8{α:Type}(L:Nat):PO Tryz.f11 [1,0] (yIE.s (α:=α) (yLP (yG6 L))):=yIE.kp (yWR (yG6 L)) (tC (yV0 L).ent tN) (lN _) (by kernel_rfl)
abbrev yMG:=yAC×Bool×Unit
abbrev yMF:=yAC×Bool×yBO×yAE×Int×Bool×Unit
abbrev yLQ{α:Type}(f1:yEX.T)(s:yMG)(k0:yMF->Option α):Option α:=
 yAA (f1 (⟨1,1,1,1,3,8,1,2⟩:yAR) s.1 (⟨0,0,true,0,0,0,0,false,0,0,0,yAF.z,0,0,ySe.z,[],[],[],false,false,xCH.z,0,yAP.z,yDe.z,yAG.z,yCV.z,yCp.z⟩:yBO) 13 20) fun r1=>
 k0 (r1.1,s.2.1,r1.2.1,r1.2.2.1,r1.2.2.2.1,r1.2.2.2.2.1,())
abbrev yIF:LW1 yMG yMF:=⟨(lvC 1 yAM (lvC 2 (mP cdB) lvN)),.normal,(lvC 1 yAM (lvC 2 (mP cdB) (lvC 3 yJi (lvC 4 yGg (lvC 5 (mP cI) (lvC 6 (mP cdB) lvN))))))⟩
theorem yWS{α:Type}(f1):yIF.Ep (α:=α) [yEX.s f1] Tryz.f11 [1,1,0] .no (yLQ f1):=fun _ _=>by kernel_rfl
theorem yU9{α:Type}(L:Nat):PO Tryz.f11 [1,1,0] (yIF.s (α:=α) (yLQ (yEr L))):=yIF.kp (yWS (yEr L)) (tC (ySu L).ent tN) (lN _) (by kernel_rfl)
abbrev yMJ:=yAC×Bool×yBO×yAE×Int×Bool×Unit
abbrev yMH:=yAC×yBO×yAE×Unit
abbrev yMI:=Bool×Unit
abbrev yLR{α:Type}(s:yMJ)(k0:yMH->Option α)(k1:yMI->Option α):Option α:=
 bif !s.2.1 then
 k1 (false,())
 else
 bif !s.2.2.2.2.2.1 then
 k1 (false,())
 else
 bif s.2.2.2.1.E !=0 then
 k1 (false,())
 else
 bif s.2.2.2.2.1 !=4 then
 k1 (false,())
 else
 bif s.2.2.1.Key !=16 then
 k1 (false,())
 else
 bif s.2.2.1.Count !=1 then
 k1 (false,())
 else
 k0 (s.1,s.2.2.1,s.2.2.2.1,())
abbrev yIG:LW2 yMJ yMH yMI:=⟨(lvC 1 yAM (lvC 2 (mP cdB) (lvC 3 yJi (lvC 4 yGg (lvC 5 (mP cI) (lvC 6 (mP cdB) lvN)))))),.normal,(lvC 1 yAM (lvC 3 yJi (lvC 4 yGg lvN))),.ret,(lvC 0 (mP cdB) lvN)⟩
theorem yWT{α:Type}:yIG.Ep (α:=α) [] Tryz.f11 [1,1,1,0] .no (yLR):=fun _ _=>by kernel_rfl
theorem yVA{α:Type}(L:Nat):PO Tryz.f11 [1,1,1,0] (yIG.s (α:=α) (yLR)):=yIG.kp (yWT) tN (lN _) (by kernel_rfl)
abbrev yML:=yAC×yBO×yAE×Unit
abbrev yMK:=yAC×yBO×yAE×Int×Bool×Unit
abbrev yLS{α:Type}(f1:yEX.T)(s:yML)(k0:yMK->Option α):Option α:=
 yAA (f1 (⟨1,1,1,1,3,8,1,2⟩:yAR) s.1 s.2.1 0 20) fun r1=>
 k0 (r1.1,r1.2.1,r1.2.2.1,r1.2.2.2.1,r1.2.2.2.2.1,())
abbrev yIH:LW1 yML yMK:=⟨(lvC 1 yAM (lvC 3 yJi (lvC 4 yGg lvN))),.normal,(lvC 1 yAM (lvC 3 yJi (lvC 4 yGg (lvC 5 (mP cI) (lvC 6 (mP cdB) lvN)))))⟩
theorem yWU{α:Type}(f1):yIH.Ep (α:=α) [yEX.s f1] Tryz.f11 [1,1,1,1,0] .no (yLS f1):=fun _ _=>by kernel_rfl
theorem yVB{α:Type}(L:Nat):PO Tryz.f11 [1,1,1,1,0] (yIH.s (α:=α) (yLS (yEr L))):=yIH.kp (yWU (yEr L)) (tC (ySu L).ent tN) (lN _) (by kernel_rfl)
abbrev yMN:=yAC×yBO×yAE×Int×Bool×Unit
abbrev yMM:=Bool×Unit
abbrev yLT{α:Type}(f1:yC3.T)(s:yMN)(k0:yMM->Option α):Option α:=
 bif s.2.2.2.2.1 then
 bif s.2.2.1.E==0 then
 bif s.2.2.2.1==6 then
 bif s.2.1.Mounted then
 bif s.2.1.Slot==0 then
 bif s.2.1.Done==1 then
 yAA (f1 (⟨1,1,1,1,3,8,1,2⟩:yAR)) fun r1=>
 k0 ((s.1.S.length:Int)==r1,())
 else
 k0 (false,())
 else
 k0 (false,())
 else
 k0 (false,())
 else
 k0 (false,())
 else
 k0 (false,())
 else
 k0 (false,())
abbrev yII:LW1 yMN yMM:=⟨(lvC 1 yAM (lvC 3 yJi (lvC 4 yGg (lvC 5 (mP cI) (lvC 6 (mP cdB) lvN))))),.normal,(lvC 0 (mP cdB) lvN)⟩
theorem yWV{α:Type}(f1):yII.Ep (α:=α) [yC3.s f1] Tryz.f11 [1,1,1,1,1,0] .no (yLT f1):=fun _ _=>by kernel_rfl
theorem yVC{α:Type}(L:Nat):PO Tryz.f11 [1,1,1,1,1,0] (yII.s (α:=α) (yLT (yCt L))):=yII.kp (yWV (yCt L)) (tC (yPc L).ent tN) (lN _) (by kernel_rfl)
abbrev yEB:=fw0 11 caN cdB
abbrev yT4(P0:LF1 yME yMD (Bool))(P1:LF1 yMG yMF (Bool))(P2:LF2 yMJ yMH yMI (Bool))(P3:LF1 yML yMK (Bool))(P4:LF1 yMN yMM (Bool)):Option Bool:=
 P0 (()) (fun q1=>
 P1 (q1.1,q1.2.1,()) (fun q2=>
 P2 (q2.1,q2.2.1,q2.2.2.1,q2.2.2.2.1,q2.2.2.2.2.1,q2.2.2.2.2.2.1,()) (fun q3=>
 P3 (q3.1,q3.2.1,q3.2.2.1,()) (fun q4=>
 P4 (q4.1,q4.2.1,q4.2.2.1,q4.2.2.2.1,q4.2.2.2.2.1,()) (fun q5=>
 some q5.1))) (fun q6=>
 some q6.1)))
theorem xA0(P0 P1 P2 P3 P4):yEB.Eq [] (.two .no (.two (.pt (yIE.s P0)) (.two (.pt (yIF.s P1)) (.two (.pt (yIG.s P2)) (.two (.pt (yIH.s P3)) (.two (.pt (yII.s P4)) .no)))))) (yT4 P0 P1 P2 P3 P4):=fun _=>by kernel_rfl
def yDJ(L:Nat):yEB.T:=yT4 (yLP (yG6 L)) (yLQ (yEr L)) (yLR) (yLS (yEr L)) (yLT (yCt L))
theorem yT3(L:Nat):yEB.C (yDJ L):=yEB.c (xA0 (yLP (yG6 L)) (yLQ (yEr L)) (yLR) (yLS (yEr L)) (yLT (yCt L))) tN Tryz.func11 (by kernel_rfl) (lS (lN _) (lS (lP (yU8 L)) (lS (lP (yU9 L)) (lS (lP (yVA L)) (lS (lP (yVB L)) (lS (lP (yVC L)) (lN _)))))))
abbrev yKx:=fw1 156 (caC cI caN) cdB
abbrev yTA(x0:Int):Option Bool:=
 bif decide (16<=x0) then
 some (decide (x0<=1099511627776))
 else
 some false
theorem xFJ:yKx.Eq [] .no (yTA):=fun _=>by kernel_rfl
def yRb(L:Nat):yKx.T:=yTA
theorem xFI(L:Nat):yKx.C (yRb L):=yKx.c (xFJ) tN Tryz.func156 (by kernel_rfl) (lN _)
end Go.Proofs.YtakljpcmbpaeaaaGreat
