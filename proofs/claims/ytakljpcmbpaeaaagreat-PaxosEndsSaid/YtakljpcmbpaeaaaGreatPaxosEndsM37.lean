/- Typed functions. (printed by wip/sx) -/
import Derived.Test.YtakljpcmbpaeaaaGreatPaxosEndsM36
set_option linter.unusedSimpArgs false
set_option linter.unusedVariables false
namespace Go.Proofs.YtakljpcmbpaeaaaGreat
open Go.RowKit
set_option maxRecDepth 100000
set_option maxHeartbeats 16000000
abbrev yOv:=Int×yAA×yBN×yAA×Unit
abbrev yOu:=Int×yAA×yBN×yAA×Bool×Unit
abbrev yKF{α:Type}(f1:yC8.T)(s:yOv)(k0:yOu->Option α):Option α:=
 letI qb:=s.2.2.2.1
 letI qa:=s.2.2.1
 yAB (f1 s.2.1) fun r1=>
 bif r1 !=0 then
 k0 (s.1,s.2.1,qa,qb,true,())
 else
 bif decide (s.1<0) then
 k0 (s.1,s.2.1,qa,qb,true,())
 else
 bif decide ((s.2.1.Keys.length:Int)<=s.1) then
 k0 (s.1,s.2.1,qa,qb,true,())
 else
 bif decide (qa.Kind<1) then
 k0 (s.1,s.2.1,qa,qb,true,())
 else
 k0 (s.1,s.2.1,qa,qb,decide (6<qa.Kind),())
abbrev yL2:LW1 yOv yOu:=⟨(lvC 1 (mP cI) (lvC 3 yAI (lvC 5 yIf (lvC 6 yAI lvN)))),.normal,(lvC 1 (mP cI) (lvC 3 yAI (lvC 5 yIf (lvC 6 yAI (lvC 38 (mP cdB) lvN)))))⟩
theorem yZB{α:Type}(f1):yL2.Ep (α:=α) [yC8.s f1] Tryz.f18 [1,0,0] .no (yKF f1):=fun _ _=>by kernel_rfl
theorem yXO{α:Type}(L:Nat):PO Tryz.f18 [1,0,0] (yL2.s (α:=α) (yKF (yCl L))):=yL2.kp (yZB (yCl L)) (tC (yOs L).ent tN) (lN _) (by kernel_rfl)
abbrev yOy:=Int×yAA×yBN×yAA×Bool×Unit
abbrev yOw:=Int×yAA×yBN×yAA×Unit
abbrev yOx:=yAA×ByteArray×Int×Unit
abbrev yII{α:Type}(s:yOy)(k0:yOw->Option α)(k1:yOx->Option α):Option α:=
 bif s.2.2.2.2.1 then
 k1 (s.2.1,noS,2,())
 else
 k0 (s.1,s.2.1,s.2.2.1,s.2.2.2.1,())
abbrev yL3:LW2 yOy yOw yOx:=⟨(lvC 1 (mP cI) (lvC 3 yAI (lvC 5 yIf (lvC 6 yAI (lvC 38 (mP cdB) lvN))))),.normal,(lvC 1 (mP cI) (lvC 3 yAI (lvC 5 yIf (lvC 6 yAI lvN)))),.ret,(lvC 6 yAI (lvC 7 (mP cdS) (lvC 8 (mP cI) lvN)))⟩
theorem yZC{α:Type}:yL3.Ep (α:=α) [] Tryz.f18 [1,0,1] .no (yII):=fun _ _=>by kernel_rfl
theorem yXP{α:Type}(L:Nat):PO Tryz.f18 [1,0,1] (yL3.s (α:=α) (yII)):=yL3.kp (yZC) tN (lN _) (by kernel_rfl)
abbrev yO0:=Int×yAA×yBN×yAA×Unit
abbrev yOz:=Int×yAA×yBN×yAA×Bool×Unit
abbrev yIJ{α:Type}(s:yO0)(k0:yOz->Option α):Option α:=
 bif s.2.2.1.Kind==2 then
 k0 (s.1,s.2.1,s.2.2.1,s.2.2.2.1,true,())
 else
 k0 (s.1,s.2.1,s.2.2.1,s.2.2.2.1,s.2.2.1.Kind==3,())
abbrev yL4:LW1 yO0 yOz:=⟨(lvC 1 (mP cI) (lvC 3 yAI (lvC 5 yIf (lvC 6 yAI lvN)))),.normal,(lvC 1 (mP cI) (lvC 3 yAI (lvC 5 yIf (lvC 6 yAI (lvC 9 (mP cdB) lvN)))))⟩
theorem yZD{α:Type}:yL4.Ep (α:=α) [] Tryz.f18 [1,1,0] .no (yIJ):=fun _ _=>by kernel_rfl
theorem yXQ{α:Type}(L:Nat):PO Tryz.f18 [1,1,0] (yL4.s (α:=α) (yIJ)):=yL4.kp (yZD) tN (lN _) (by kernel_rfl)
abbrev yO2:=Int×yAA×yBN×yAA×Bool×Unit
abbrev yO1:=Int×yAA×yBN×yAA×Bool×Bool×Unit
abbrev yFj{α:Type}(f1:yC9.T)(s:yO2)(k0:yO1->Option α):Option α:=
 letI qe:=s.2.1
 letI qd:=s.2.2.2.1
 letI qc:=68719476736<=qe.Next
 letI qb:=s.2.2.1
 letI qa:=s.2.2.2.2.1
 bif qa then
 bif decide (512<(qb.B.size:Int)) then
 k0 (s.1,qe,qb,qd,qa,true,())
 else
 bif qb.Kind==5 then
 yAB (f1 qe qb.Key) fun r1=>
 bif !r1 then
 k0 (s.1,qe,qb,qd,qa,true,())
 else
 bif qb.Kind==6 then
 k0 (s.1,qe,qb,qd,qa,decide qc,())
 else
 k0 (s.1,qe,qb,qd,qa,false,())
 else
 bif qb.Kind==6 then
 k0 (s.1,qe,qb,qd,qa,decide qc,())
 else
 k0 (s.1,qe,qb,qd,qa,false,())
 else
 bif qb.Kind==5 then
 yAB (f1 qe qb.Key) fun r2=>
 bif !r2 then
 k0 (s.1,qe,qb,qd,qa,true,())
 else
 bif qb.Kind==6 then
 k0 (s.1,qe,qb,qd,qa,decide qc,())
 else
 k0 (s.1,qe,qb,qd,qa,false,())
 else
 bif qb.Kind==6 then
 k0 (s.1,qe,qb,qd,qa,decide qc,())
 else
 k0 (s.1,qe,qb,qd,qa,false,())
abbrev yL5:LW1 yO2 yO1:=⟨(lvC 1 (mP cI) (lvC 3 yAI (lvC 5 yIf (lvC 6 yAI (lvC 9 (mP cdB) lvN))))),.normal,(lvC 1 (mP cI) (lvC 3 yAI (lvC 5 yIf (lvC 6 yAI (lvC 9 (mP cdB) (lvC 76 (mP cdB) lvN))))))⟩
theorem yZE{α:Type}(f1):yL5.Ep (α:=α) [yC9.s f1] Tryz.f18 [1,1,1,0,0] .no (yFj f1):=fun _ _=>by kernel_rfl
theorem yXR{α:Type}(L:Nat):PO Tryz.f18 [1,1,1,0,0] (yL5.s (α:=α) (yFj (yBm L))):=yL5.kp (yZE (yBm L)) (tC (yPJ L).ent tN) (lN _) (by kernel_rfl)
abbrev yO5:=Int×yAA×yBN×yAA×Bool×Bool×Unit
abbrev yO3:=Int×yAA×yBN×yAA×Bool×Unit
abbrev yO4:=yAA×ByteArray×Int×Unit
abbrev yIK{α:Type}(s:yO5)(k0:yO3->Option α)(k1:yO4->Option α):Option α:=
 bif s.2.2.2.2.2.1 then
 k1 (s.2.1,noS,2,())
 else
 k0 (s.1,s.2.1,s.2.2.1,s.2.2.2.1,s.2.2.2.2.1,())
abbrev yL6:LW2 yO5 yO3 yO4:=⟨(lvC 1 (mP cI) (lvC 3 yAI (lvC 5 yIf (lvC 6 yAI (lvC 9 (mP cdB) (lvC 76 (mP cdB) lvN)))))),.normal,(lvC 1 (mP cI) (lvC 3 yAI (lvC 5 yIf (lvC 6 yAI (lvC 9 (mP cdB) lvN))))),.ret,(lvC 6 yAI (lvC 7 (mP cdS) (lvC 8 (mP cI) lvN)))⟩
theorem yZF{α:Type}:yL6.Ep (α:=α) [] Tryz.f18 [1,1,1,0,1] .no (yIK):=fun _ _=>by kernel_rfl
theorem yXS{α:Type}(L:Nat):PO Tryz.f18 [1,1,1,0,1] (yL6.s (α:=α) (yIK)):=yL6.kp (yZF) tN (lN _) (by kernel_rfl)
abbrev yO8:=Int×yAA×yBN×yAA×Bool×Unit
abbrev yO6:=Int×yAA×yBN×yAA×Bool×Unit
abbrev yO7:=yAA×ByteArray×Int×Unit
abbrev yIL{α:Type}(f1:yF8.T)(s:yO8)(k0:yO6->Option α)(k1:yO7->Option α):Option α:=
 bif s.2.2.1.Kind !=6 then
 gI s.2.1.Keys kI s.1<|
 yAB (f1 s.2.1 ([[V.int .i64 (aI s.2.1.Keys s.1.toNat 0)]])) fun r1=>
 bif r1 then
 k1 (s.2.1,noS,61,())
 else
 k0 (s.1,s.2.1,s.2.2.1,s.2.2.2.1,s.2.2.2.2.1,())
 else
 k0 (s.1,s.2.1,s.2.2.1,s.2.2.2.1,s.2.2.2.2.1,())
abbrev yL7:LW2 yO8 yO6 yO7:=⟨(lvC 1 (mP cI) (lvC 3 yAI (lvC 5 yIf (lvC 6 yAI (lvC 9 (mP cdB) lvN))))),.normal,(lvC 1 (mP cI) (lvC 3 yAI (lvC 5 yIf (lvC 6 yAI (lvC 9 (mP cdB) lvN))))),.ret,(lvC 6 yAI (lvC 7 (mP cdS) (lvC 8 (mP cI) lvN)))⟩
theorem yZG{α:Type}(f1):yL7.Ep (α:=α) [yF8.s f1] Tryz.f18 [1,1,1,1,0] .no (yIL f1):=fun _ _=>by kernel_rfl
theorem yXT{α:Type}(L:Nat):PO Tryz.f18 [1,1,1,1,0] (yL7.s (α:=α) (yIL (yGr L))):=yL7.kp (yZG (yGr L)) (tC (yXY L).ent tN) (lN _) (by kernel_rfl)
abbrev yPA:=Int×yAA×yBN×yAA×Bool×Unit
abbrev yO9:=Int×yAA×yBN×yAA×Bool×Unit
abbrev yFk{α:Type}(s:yPA)(k0:yO9->Option α):Option α:=
 letI qc:=s.2.2.2.1
 letI qa:=s.2.2.1
 letI qb:=(s.2.1.S.length:Int)<=qa.Sector
 bif s.2.2.2.2.1 then
 bif decide (qa.Sector<0) then
 k0 (s.1,s.2.1,qa,qc,true,())
 else
 k0 (s.1,s.2.1,qa,qc,decide qb,())
 else
 bif qa.Kind==1 then
 bif decide (qa.Sector<0) then
 k0 (s.1,s.2.1,qa,qc,true,())
 else
 k0 (s.1,s.2.1,qa,qc,decide qb,())
 else
 k0 (s.1,s.2.1,qa,qc,false,())
abbrev yL8:LW1 yPA yO9:=⟨(lvC 1 (mP cI) (lvC 3 yAI (lvC 5 yIf (lvC 6 yAI (lvC 9 (mP cdB) lvN))))),.normal,(lvC 1 (mP cI) (lvC 3 yAI (lvC 5 yIf (lvC 6 yAI (lvC 110 (mP cdB) lvN)))))⟩
theorem yZH{α:Type}:yL8.Ep (α:=α) [] Tryz.f18 [1,1,1,1,1,0,0] .no (yFk):=fun _ _=>by kernel_rfl
theorem yXU{α:Type}(L:Nat):PO Tryz.f18 [1,1,1,1,1,0,0] (yL8.s (α:=α) (yFk)):=yL8.kp (yZH) tN (lN _) (by kernel_rfl)
abbrev yPD:=Int×yAA×yBN×yAA×Bool×Unit
abbrev yPB:=Int×yAA×yBN×yAA×Unit
abbrev yPC:=yAA×ByteArray×Int×Unit
abbrev yIM{α:Type}(s:yPD)(k0:yPB->Option α)(k1:yPC->Option α):Option α:=
 bif s.2.2.2.2.1 then
 k1 (s.2.1,noS,60,())
 else
 k0 (s.1,s.2.1,s.2.2.1,s.2.2.2.1,())
abbrev yL9:LW2 yPD yPB yPC:=⟨(lvC 1 (mP cI) (lvC 3 yAI (lvC 5 yIf (lvC 6 yAI (lvC 110 (mP cdB) lvN))))),.normal,(lvC 1 (mP cI) (lvC 3 yAI (lvC 5 yIf (lvC 6 yAI lvN)))),.ret,(lvC 6 yAI (lvC 7 (mP cdS) (lvC 8 (mP cI) lvN)))⟩
theorem yZI{α:Type}:yL9.Ep (α:=α) [] Tryz.f18 [1,1,1,1,1,0,1] .no (yIM):=fun _ _=>by kernel_rfl
theorem yXV{α:Type}(L:Nat):PO Tryz.f18 [1,1,1,1,1,0,1] (yL9.s (α:=α) (yIM)):=yL9.kp (yZI) tN (lN _) (by kernel_rfl)
abbrev yPF:=Int×yAA×yBN×yAA×Unit
abbrev yPE:=Int×yBN×yAA×((List (List V))×(List (List V))×(List (List V))×Int×(List (List V))×Unit)×Unit
abbrev yKG{α:Type}(f1:yGA.T)(s:yPF)(k0:yPE->Option α):Option α:=
 yAB (f1 s.2.1) fun r1=>
 gW r1.1 r1.1.length<|
 gW r1.2.1 r1.2.1.length<|
 gW r1.2.2.1 r1.2.2.1.length<|
 gF r1.2.2.2.2.1 (0+r1.2.2.2.2.1.length)<|
 k0 (s.1,s.2.2.1,s.2.2.2.1,(r1.1,r1.2.1,r1.2.2.1,r1.2.2.2.1,r1.2.2.2.2.1.take r1.2.2.2.2.1.length,()),())
abbrev yMA:LW1 yPF yPE:=⟨(lvC 1 (mP cI) (lvC 3 yAI (lvC 5 yIf (lvC 6 yAI lvN)))),.normal,(lvC 1 (mP cI) (lvC 5 yIf (lvC 6 yAI (lvC 10 (mO (zW 1 (zW 1 (zW 1 (zP cI (zP cdR zN))))) 5) lvN))))⟩
theorem yZJ{α:Type}(f1):yMA.Ep (α:=α) [yGA.s f1] Tryz.f18 [1,1,1,1,1,1,0] .no (yKG f1):=fun _ _=>by kernel_rfl
theorem yXW{α:Type}(L:Nat):PO Tryz.f18 [1,1,1,1,1,1,0] (yMA.s (α:=α) (yKG (yFa L))):=yMA.kp (yZJ (yFa L)) (tC (yXc L).ent tN) (lN _) (by kernel_rfl)
abbrev yPH:=Int×yBN×yAA×((List (List V))×(List (List V))×(List (List V))×Int×(List (List V))×Unit)×(List (List V))×Unit
abbrev yPG:=Int×yBN×yAA×((List (List V))×(List (List V))×(List (List V))×Int×(List (List V))×Unit)×(List (List V))×Int×Unit
abbrev yKH{α:Type}(f1:yHP.T)(s:yPH)(k0:yPG->Option α):Option α:=
 yAB (f1 s.2.2.2.2.1 s.2.1.Sector) fun r1=>
 gW s.2.2.2.1.1 s.2.2.2.1.1.length<|
 gW s.2.2.2.1.2.1 s.2.2.2.1.2.1.length<|
 gW s.2.2.2.1.2.2.1 s.2.2.2.1.2.2.1.length<|
 k0 (s.1,s.2.1,s.2.2.1,(s.2.2.2.1.1,s.2.2.2.1.2.1,s.2.2.2.1.2.2.1,s.2.2.2.1.2.2.2.1,s.2.2.2.1.2.2.2.2.1,()),s.2.2.2.2.1,r1,())
abbrev yMB:LW1 yPH yPG:=⟨(lvC 1 (mP cI) (lvC 5 yIf (lvC 6 yAI (lvC 10 (mO (zW 1 (zW 1 (zW 1 (zP cI (zP cdR zN))))) 5) (lvC 11 (mP cdR) lvN))))),.normal,(lvC 1 (mP cI) (lvC 5 yIf (lvC 6 yAI (lvC 10 (mO (zW 1 (zW 1 (zW 1 (zP cI (zP cdR zN))))) 5) (lvC 11 (mP cdR) (lvC 12 (mP cI) lvN))))))⟩
theorem yZK{α:Type}(f1):yMB.Ep (α:=α) [yHP.s f1] Tryz.f18 [1,1,1,1,1,1,1,1,0] .no (yKH f1):=fun _ _=>by kernel_rfl
theorem yXX{α:Type}(L:Nat):PO Tryz.f18 [1,1,1,1,1,1,1,1,0] (yMB.s (α:=α) (yKH (yIO L))):=yMB.kp (yZK (yIO L)) (tC (yZO L).ent tN) (lN _) (by kernel_rfl)
abbrev yIq:=fw3 18 (caC yCY (caC cI (caC yNq caN))) (cdT (caC yCY (caC cdS (caC cI caN))))
abbrev yOE(f1:yE8.T)(f2:yHO.T)(f3:yDL.T)(P0:LF1 yOv yOu (yAA×ByteArray×Int×Unit))(P1:LF2 yOy yOw yOx (yAA×ByteArray×Int×Unit))(P2:LF1 yO0 yOz (yAA×ByteArray×Int×Unit))(P3:LF1 yO2 yO1 (yAA×ByteArray×Int×Unit))(P4:LF2 yO5 yO3 yO4 (yAA×ByteArray×Int×Unit))(P5:LF2 yO8 yO6 yO7 (yAA×ByteArray×Int×Unit))(P6:LF1 yPA yO9 (yAA×ByteArray×Int×Unit))(P7:LF2 yPD yPB yPC (yAA×ByteArray×Int×Unit))(P8:LF1 yPF yPE (yAA×ByteArray×Int×Unit))(P9:LF1 yPH yPG (yAA×ByteArray×Int×Unit))(x0:yAA)(x1:Int)(x2:yBN):Option (yAA×ByteArray×Int×Unit):=
 P0 (x1,x0,x2,yAA.z,()) (fun q1=>
 P1 (q1.1,q1.2.1,q1.2.2.1,q1.2.2.2.1,q1.2.2.2.2.1,()) (fun q2=>
 P2 (q2.1,q2.2.1,q2.2.2.1,q2.2.2.2.1,()) (fun q3=>
 P3 (q3.1,q3.2.1,q3.2.2.1,q3.2.2.2.1,q3.2.2.2.2.1,()) (fun q4=>
 P4 (q4.1,q4.2.1,q4.2.2.1,q4.2.2.2.1,q4.2.2.2.2.1,q4.2.2.2.2.2.1,()) (fun q5=>
 P5 (q5.1,q5.2.1,q5.2.2.1,q5.2.2.2.1,q5.2.2.2.2.1,()) (fun q6=>
 P6 (q6.1,q6.2.1,q6.2.2.1,q6.2.2.2.1,q6.2.2.2.2.1,()) (fun q7=>
 P7 (q7.1,q7.2.1,q7.2.2.1,q7.2.2.2.1,q7.2.2.2.2.1,()) (fun q8=>
 P8 (q8.1,q8.2.1,q8.2.2.1,q8.2.2.2.1,()) (fun q9=>
 letI qB:=q9.2.2.2.1.2.2.1
 letI qt:=q9.2.2.2.1.2.1
 gB q9.1 qt.length<|
 gL qt kL (0+q9.1.toNat) 0<|
 gW q9.2.2.2.1.1 q9.2.2.2.1.1.length<|
 gW qt qt.length<|
 gW qB qB.length<|
 P9 (q9.1,q9.2.1,q9.2.2.1,(q9.2.2.2.1.1,qt,qB,q9.2.2.2.1.2.2.2.1,q9.2.2.2.1.2.2.2.2.1,()),aR qt (0+q9.1.toNat) 0,()) (fun q10=>
 letI qx:=q10.2.1
 letI qr:=q10.2.2.2.2.2.1
 letI qp:=q10.2.2.2.1.2.2.2.2.1
 letI qo:=q10.2.2.2.1.2.2.2.1
 letI qk:=0+qx.Sector.toNat
 letI qh:=q10.2.2.2.2.1
 letI qy:=0<(qh.length:Int)
 letI qq:=0+(aI qh 0 0).toNat
 letI qd:=0+q10.1.toNat
 letI qA:=Nat.ble 0 qd
 letI qc:=q10.2.2.2.1.1
 letI ql:=0+qc.length
 letI qj:=qc.set qq ((qc.getD qq []).take 0++([V.str (aS qh 0 1)]++(qc.getD qq []).drop 1))
 letI qe:=qc.set qk ((qc.getD qk []).take 0++([V.str qx.B]++(qc.getD qk []).drop 1))
 letI qb:=q10.2.2.2.1.2.1
 letI qs:=decide (0+q10.1.toNat<qb.length)
 letI qm:=0+qb.length
 letI qi:=qb.getD qd []
 letI qz:=Nat.ble 1 qi.length
 letI qw:=qb.set qd (qi.take 0++([V.sl ([]) true]++qi.drop 1))
 letI qa:=q10.2.2.2.1.2.2.1
 letI qn:=0+qa.length
 letI qg:=(⟨qc.take qc.length,qb.take qb.length,qa.take qa.length,qo,qp⟩:yAA)
 letI qf:=qa.set qd ((qa.getD qd []).take 0++([V.int .i64 (w64 ((w64 (16*qo))+q10.1))]++(qa.getD qd []).drop 1))
 bif qx.Kind==1 then
 bif decide (0<=qr) then
 gI qh yEs.ks qr<|
 gF qc ql<|
 gF qb qm<|
 gF qa qn<|
 some (qg,aS qh qr.toNat 1,0,())
 else
 gB qx.Sector qc.length<|
 gL qc kS qk 0<|
 gF qc ql<|
 gF qb qm<|
 gF qa qn<|
 some (qg,aS qc qk 0,0,())
 else
 bif qx.Kind==2 then
 gB qx.Sector qc.length<|
 gd (decide (0+qx.Sector.toNat<qc.length))<|
 gd (Nat.ble 0 qk)<|
 gd (Nat.ble 1 (qc.getD qk []).length)<|
 bif decide (0<=qr) then
 yAB (f1 qh qr) fun r11=>
 letI qu:=qb.set qd (qi.take 0++([V.sl r11 false]++qi.drop 1))
 gB q10.1 qb.length<|
 gd qs<|
 gd qA<|
 gd qz<|
 gF qe ql<|
 gF qu qm<|
 gF qa qn<|
 some ((⟨qe.take qc.length,qu.take qb.length,qa.take qa.length,qo,qp⟩:yAA),noS,0,())
 else
 gF qe ql<|
 gF qb qm<|
 gF qa qn<|
 some ((⟨qe.take qc.length,qb.take qb.length,qa.take qa.length,qo,qp⟩:yAA),noS,0,())
 else
 bif qx.Kind==3 then
 gd (decide (0<=qr))<|
 gI qh yEs.ks qr<|
 none
 else
 bif qx.Kind==4 then
 bif decide qy then
 gd (decide qy)<|
 gd (rowIs yEs.ks qh 0)<|
 gd (decide qy)<|
 gd (rowIs yEs.ks qh 0)<|
 gB (aI qh 0 0) qc.length<|
 gd (decide (0+(aI qh 0 0).toNat<qc.length))<|
 gd (Nat.ble 0 qq)<|
 gd (Nat.ble 1 (qc.getD qq []).length)<|
 yAB (f1 qh 0) fun r12=>
 letI qv:=qb.set qd (qi.take 0++([V.sl r12 false]++qi.drop 1))
 gB q10.1 qb.length<|
 gd qs<|
 gd qA<|
 gd qz<|
 gF qj ql<|
 gF qv qm<|
 gF qa qn<|
 some ((⟨qj.take qc.length,qv.take qb.length,qa.take qa.length,qo,qp⟩:yAA),noS,0,())
 else
 gF qc ql<|
 gF qb qm<|
 gF qa qn<|
 some (qg,noS,0,())
 else
 bif qx.Kind==5 then
 yAB (f2 qp qx.Key) fun r13=>
 gF qc ql<|
 gF qb qm<|
 gF qa qn<|
 some ((⟨qc.take qc.length,qb.take qb.length,qa.take qa.length,qo,r13⟩:yAA),noS,0,())
 else
 bif qx.Kind==6 then
 gB q10.1 qa.length<|
 gd (decide (0+q10.1.toNat<qa.length))<|
 gd qA<|
 gd (Nat.ble 1 (qa.getD qd []).length)<|
 gB q10.1 qb.length<|
 gd qs<|
 gd qA<|
 gd qz<|
 gB q10.1 qa.length<|
 gL qf kI qd 0<|
 yAB (f3 ([]) 6 ([[V.int .i64 (aI qf qd 0)]])) fun r14=>
 gd (Nat.ble (0+r14.1.length) r14.1.length)<|
 gd ((bytesOf (r14.1.take r14.1.length)).isSome)<|
 gF qc ql<|
 gF qw qm<|
 gF qf qn<|
 some ((⟨qc.take qc.length,qw.take qb.length,qf.take qa.length,w64 (qo+1),qp⟩:yAA),yI2 (r14.1.take r14.1.length),0,())
 else
 gF qc ql<|
 gF qb qm<|
 gF qa qn<|
 some (qg,noS,0,())))) (fun q15=>
 some (q15.1,q15.2.1,q15.2.2.1,())))) (fun q16=>
 some (q16.1,q16.2.1,q16.2.2.1,()))) (fun q17=>
 some (q17.1,q17.2.1,q17.2.2.1,()))))) (fun q18=>
 some (q18.1,q18.2.1,q18.2.2.1,())))
theorem xFO(f1 f2 f3 P0 P1 P2 P3 P4 P5 P6 P7 P8 P9):yIq.Eq [yE8.s f1,yHO.s f2,yDL.s f3] (.two .no (.two (.two (.pt (yL2.s P0)) (.pt (yL3.s P1))) (.two (.pt (yL4.s P2)) (.two (.two (.pt (yL5.s P3)) (.pt (yL6.s P4))) (.two (.pt (yL7.s P5)) (.two (.two (.pt (yL8.s P6)) (.pt (yL9.s P7))) (.two (.pt (yMA.s P8)) (.two .no (.two (.pt (yMB.s P9)) .no))))))))) (yOE f1 f2 f3 P0 P1 P2 P3 P4 P5 P6 P7 P8 P9):=fun _=>by kernel_rfl
def yEM(L:Nat):yIq.T:=yOE (yPL L) (yR2 L) (yCa L) (yKF (yCl L)) (yII) (yIJ) (yFj (yBm L)) (yIK) (yIL (yGr L)) (yFk) (yIM) (yKG (yFa L)) (yKH (yIO L))
theorem yYA(L:Nat):yIq.C (yEM L):=yIq.c (xFO (yPL L) (yR2 L) (yCa L) (yKF (yCl L)) (yII) (yIJ) (yFj (yBm L)) (yIK) (yIL (yGr L)) (yFk) (yIM) (yKG (yFa L)) (yKH (yIO L))) (tC (yWO L).ent (tC (yZL L).ent (tC (yOo L).ent tN))) Tryz.func18 (by kernel_rfl) (lS (lN _) (lS (lS (lP (yXO L)) (lP (yXP L))) (lS (lP (yXQ L)) (lS (lS (lP (yXR L)) (lP (yXS L))) (lS (lP (yXT L)) (lS (lS (lP (yXU L)) (lP (yXV L))) (lS (lP (yXW L)) (lS (lN _) (lS (lP (yXX L)) (lN _))))))))))
set_option maxRecDepth 100000
set_option maxHeartbeats 16000000
abbrev yIo:=fw2 75 (caC yDX (caC cI caN)) cI
abbrev yQO(f1:yB4.T)(f2:yD3.T)(x0:yAQ)(x1:Int):Option Int:=
 yAB (f1 x0) fun r1=>
 bif !r1 then
 some (-1)
 else
 yAB (f2 x1 0 (w64 (x0.Slots-1))) fun r2=>
 bif !r2 then
 some (-1)
 else
 some (w64 ((w64 ((w64 (1+(w64 (2*x0.Nodes))))+x0.Log))+(w64 (x1*(w64 (1+x0.Journal))))))
theorem xBF(f1 f2):yIo.Eq [yB4.s f1,yD3.s f2] .no (yQO f1 f2):=fun _=>by kernel_rfl
def yHA(L:Nat):yIo.T:=yQO (yCk L) (yJS L)
theorem xBE(L:Nat):yIo.C (yHA L):=yIo.c (xBF (yCk L) (yJS L)) (tC (yIH L).ent (tC (yQx L).ent tN)) Tryz.func75 (by kernel_rfl) (lN _)
abbrev yIl:=fw1 304 (caC cI caN) cI
abbrev yQJ(x0:Int):Option Int:=
 bif(IntKind.i64.wrap ((BitVec.ofInt IntKind.i64.bits x0 &&& BitVec.ofInt IntKind.i64.bits 1).toNat:Int))==1 then
 some (IntKind.i64.wrap ((BitVec.ofInt IntKind.i64.bits (x0.fdiv (2^(min (1:Int).toNat IntKind.i64.bits))) ^^^ BitVec.ofInt IntKind.i64.bits 2197175160).toNat:Int))
 else
 some (x0.fdiv (2^(min (1:Int).toNat IntKind.i64.bits)))
theorem xA7:yIl.Eq [] .no (yQJ):=fun _=>by kernel_rfl
def yDa(L:Nat):yIl.T:=yQJ
theorem xA6(L:Nat):yIl.C (yDa L):=yIl.c (xA7) tN Tryz.func304 (by kernel_rfl) (lN _)
abbrev yJO:=Int×Int×Int×Int×Unit
abbrev yMi:=Int×Int×Int×Unit
abbrev yCT{α:Type}(f1:yIl.T)(s:yJO)(kn:yJO->Option α)(k0:yMi->Option α):Option α:=
 bif decide (s.2.2.2.1<8) then
 yAB (f1 s.1) fun r1=>
 kn (r1,s.2.1,s.2.2.1,w64 (s.2.2.2.1+1),())
 else
 k0 (s.1,s.2.1,s.2.2.1,())
abbrev yJP:LW1 yJO yMi:=⟨(lvC 0 (mP cI) (lvC 1 (mP cI) (lvC 5 (mP cI) (lvC 6 (mP cI) lvN)))),(.exit 2),(lvC 0 (mP cI) (lvC 1 (mP cI) (lvC 5 (mP cI) lvN)))⟩
theorem yWK{α:Type}(f1):yJP.Eq (α:=α) [yIl.s f1] Tryz.f270 [1,1,0,1,0,0,1,0,0,1,0] .no (yCT f1):=fun _ _ _=>by kernel_rfl
abbrev yGq:=Int×Int×Int×Unit
abbrev yJM:=Int×Unit
abbrev yDT{α:Type}(F1:LF1 yJO yMi α)(s:yGq)(kn:yGq->Option α)(k0:yJM->Option α):Option α:=
 bif decide (s.2.2.1<s.2.1) then
 F1 (s.1,s.2.1,s.2.2.1,0,()) (fun q1=>
 kn (q1.1,q1.2.1,w64 (q1.2.2.1+1),()))
 else
 k0 (s.1,())
abbrev yJN:LW1 yGq yJM:=⟨(lvC 0 (mP cI) (lvC 1 (mP cI) (lvC 5 (mP cI) lvN))),(.exit 0),(lvC 0 (mP cI) lvN)⟩
theorem yWJ{α:Type}(F1):yJN.Eq (α:=α) [] Tryz.f270 [1,1,0,1,0] (.two .no (.two (.one (.two .no (.one (.lp (yJP.s F1))))) .no)) (yDT F1):=fun _ _ _=>by kernel_rfl
abbrev yIk:=fw2 270 (caC cI (caC cI caN)) cI
abbrev yQH(F0:LF1 yGq yJM (Int))(x0:Int)(x1:Int):Option Int:=
 F0 (IntKind.i64.wrap ((BitVec.ofInt IntKind.i64.bits x0 &&& BitVec.ofInt IntKind.i64.bits 4294967295).toNat:Int),x1,0,()) (fun q1=>
 some q1.1)
theorem xA5(F0):yIk.Eq [] (.two .no (.two .no (.two (.two .no (.one (.lp (yJN.s F0)))) .no))) (yQH F0):=fun _=>by kernel_rfl
def yIj(L:Nat):yIk.T:=yQH (yBL (yDT (yBL (yCT (yDa L)) L)) L)
theorem yUf{α:Type}(L:Nat):LO Tryz.f270 [1,1,0,1,0,0,1,0,0,1,0] (yJP.s (α:=α) (yBL (yCT (yDa L)) L)):=yJP.k (yWK (yDa L)) (tC (xA6 L).ent tN) (lN _) (by kernel_rfl) L
theorem yUe{α:Type}(L:Nat):LO Tryz.f270 [1,1,0,1,0] (yJN.s (α:=α) (yBL (yDT (yBL (yCT (yDa L)) L)) L)):=yJN.k (yWJ (yBL (yCT (yDa L)) L)) tN (lS (lN _) (lS (lB (lS (lN _) (lB (lL (yUf L))))) (lN _))) (by kernel_rfl) L
theorem xA4(L:Nat):yIk.C (yIj L):=yIk.c (xA5 (yBL (yDT (yBL (yCT (yDa L)) L)) L)) tN Tryz.func270 (by kernel_rfl) (lS (lN _) (lS (lN _) (lS (lS (lN _) (lB (lL (yUe L)))) (lN _))))
abbrev yK7:=(List (List V))×Int×Int×Unit
abbrev yNY:=Int×Unit
abbrev yGp{α:Type}(f1:yIk.T)(s:yK7)(kn:yK7->Option α)(k0:yNY->Option α):Option α:=
 bif decide (s.2.2.1<(s.1.length:Int)) then
 gI s.1 kU s.2.2.1<|
 yAB (f1 (IntKind.i64.wrap ((BitVec.ofInt IntKind.i64.bits s.2.1 ^^^ BitVec.ofInt IntKind.i64.bits (w64 (aI s.1 s.2.2.1.toNat 0))).toNat:Int)) 1) fun r1=>
 kn (s.1,r1,w64 (s.2.2.1+1),())
 else
 k0 (s.2.1,())
abbrev yK8:LW1 yK7 yNY:=⟨(lvC 1 (mP cdR) (lvC 5 (mP cI) (lvC 6 (mP cI) lvN))),(.exit 0),(lvC 5 (mP cI) lvN)⟩
theorem yXL{α:Type}(f1):yK8.Eq (α:=α) [yIk.s f1] Tryz.f207 [1,1,0,1,0] .no (yGp f1):=fun _ _ _=>by kernel_rfl
abbrev yJ9:=fw2 207 (caC cI (caC cdR caN)) cI
abbrev yRv(F0:LF1 yK7 yNY (Int))(x0:Int)(x1:List (List V)):Option Int:=
 F0 (x1,IntKind.i64.wrap ((BitVec.ofInt IntKind.i64.bits (IntKind.i64.wrap ((BitVec.ofInt IntKind.i64.bits x0 &&& BitVec.ofInt IntKind.i64.bits 4294967295).toNat:Int)) ^^^ BitVec.ofInt IntKind.i64.bits 4294967295).toNat:Int),0,()) (fun q1=>
 some (IntKind.i64.wrap ((BitVec.ofInt IntKind.i64.bits q1.1 ^^^ BitVec.ofInt IntKind.i64.bits 4294967295).toNat:Int)))
theorem xCo(F0):yJ9.Eq [] (.two .no (.two .no (.two (.two .no (.one (.lp (yK8.s F0)))) .no))) (yRv F0):=fun _=>by kernel_rfl
def ySs(L:Nat):yJ9.T:=yRv (yBL (yGp (yIj L)) L)
theorem yWI{α:Type}(L:Nat):LO Tryz.f207 [1,1,0,1,0] (yK8.s (α:=α) (yBL (yGp (yIj L)) L)):=yK8.k (yXL (yIj L)) (tC (xA4 L).ent tN) (lN _) (by kernel_rfl) L
theorem xCn(L:Nat):yJ9.C (ySs L):=yJ9.c (xCo (yBL (yGp (yIj L)) L)) tN Tryz.func207 (by kernel_rfl) (lS (lN _) (lS (lN _) (lS (lS (lN _) (lB (lL (yWI L)))) (lN _))))
abbrev yKA:=fw1 161 (caC cdR caN) cI
abbrev yRw(f1:yJ9.T)(x0:List (List V)):Option Int:=
 yAB (f1 0 x0) fun r1=>
 some r1
theorem xCq(f1):yKA.Eq [yJ9.s f1] .no (yRw f1):=fun _=>by kernel_rfl
def yQI(L:Nat):yKA.T:=yRw (ySs L)
theorem xCp(L:Nat):yKA.C (yQI L):=yKA.c (xCq (ySs L)) (tC (xCn L).ent tN) Tryz.func161 (by kernel_rfl) (lN _)
abbrev yFZ:=fw2 101 (caC (cdI .i8) (caC cdS caN)) (cdT (caC cdS (caC cI caN)))
abbrev yQM(f1:yDL.T)(f2:yKA.T)(x0:Int)(x1:ByteArray):Option (ByteArray×Int×Unit):=
 bif decide (x0<1) then
 some (noS,2,())
 else
 bif decide (505<(x1.size:Int)) then
 some (noS,2,())
 else
 yAB (f1 ([[V.int .u8 (IntKind.u8.wrap x0)]]) 2 ([[V.int .i64 (x1.size:Int)]])) fun r1=>
 letI qc:=r1.1++(yCm x1)
 letI qb:=r1.1.length+((yCm x1).length)
 gd (Nat.beq (0+r1.1.length) r1.1.length)<|
 gM qb 1<|
 gF qc (0+qb)<|
 yAB (f2 (qc.take qb)) fun r2=>
 letI qa:=qc++([[V.int .u8 (IntKind.u8.wrap r2)],[V.int .u8 (IntKind.u8.wrap (r2.fdiv (2^(min (8:Int).toNat IntKind.i64.bits))))],[V.int .u8 (IntKind.u8.wrap (r2.fdiv (2^(min (16:Int).toNat IntKind.i64.bits))))],[V.int .u8 (IntKind.u8.wrap (r2.fdiv (2^(min (24:Int).toNat IntKind.i64.bits))))]])
 gd (Nat.beq (0+qb) (qc.length))<|
 gM (qb+4) 1<|
 gd (Nat.ble (0+(qb+4)) (qa.length))<|
 gd ((bytesOf (qa.take (qb+4))).isSome)<|
 some (yI2 (qa.take (qb+4)),0,())
theorem xBB(f1 f2):yFZ.Eq [yDL.s f1,yKA.s f2] .no (yQM f1 f2):=fun _=>by kernel_rfl
def yKC(L:Nat):yFZ.T:=yQM (yCa L) (yQI L)
theorem yUE(L:Nat):yFZ.C (yKC L):=yFZ.c (xBB (yCa L) (yQI L)) (tC (yOo L).ent (tC (xCp L).ent tN)) Tryz.func101 (by kernel_rfl) (lN _)
set_option maxRecDepth 100000
set_option maxHeartbeats 16000000
abbrev yJQ:=Int×ByteArray×(List (List V))×(List (List V))×(List (List V))×Int×Unit
abbrev yMj:=Int×ByteArray×(List (List V))×Unit
abbrev yMk:=ByteArray×Int×Unit
abbrev yEL{α:Type}(f1:yDL.T)(s:yJQ)(kn:yJQ->Option α)(k0:yMj->Option α)(k1:yMk->Option α):Option α:=
 letI qa:=s.2.2.2.2.2.1
 bif decide (qa<(s.2.2.2.1.length:Int)) then
 gI s.2.2.1 kI qa<|
 gI s.2.2.2.1 kI qa<|
 yAB (f1 s.2.2.2.2.1 (aI s.2.2.1 qa.toNat 0) ([[V.int .i64 (aI s.2.2.2.1 qa.toNat 0)]])) fun r1=>
 bif r1.2.1 !=0 then
 k1 (noS,2,())
 else
 bif decide (505<(r1.1.length:Int)) then
 k1 (noS,2,())
 else
 gF r1.1 (0+r1.1.length)<|
 kn (s.1,s.2.1,s.2.2.1,s.2.2.2.1,r1.1.take r1.1.length,w64 (qa+1),())
 else
 k0 (s.1,s.2.1,s.2.2.2.2.1,())
abbrev yJR:LW2 yJQ yMj yMk:=⟨(lvC 0 (mP (cdI .i8)) (lvC 1 (mP cdS) (lvC 2 (mP cdR) (lvC 3 (mP cdR) (lvC 10 (mP cdR) (lvC 11 (mP cI) lvN)))))),(.exit 0),(lvC 0 (mP (cdI .i8)) (lvC 1 (mP cdS) (lvC 10 (mP cdR) lvN))),.ret,(lvC 8 (mP cdS) (lvC 9 (mP cI) lvN))⟩
theorem yWL{α:Type}(f1):yJR.Eq (α:=α) [yDL.s f1] Tryz.f135 [1,1,1,0,1,0] .no (yEL f1):=fun _ _ _=>by kernel_rfl
abbrev yFY:=fw4 135 (caC (cdI .i8) (caC cdS (caC cdR (caC cdR caN)))) (cdT (caC cdS (caC cI caN)))
abbrev yQK(f1:yFZ.T)(F0:LF2 yJQ yMj yMk (ByteArray×Int×Unit))(x0:Int)(x1:ByteArray)(x2:List (List V))(x3:List (List V)):Option (ByteArray×Int×Unit):=
 bif(x2.length:Int) !=(x3.length:Int) then
 some (noS,2,())
 else
 F0 (x0,x1,x2,x3,[],0,()) (fun q1=>
 gd ((bytesOf q1.2.2.1).isSome)<|
 gd (decide (((yI2 q1.2.2.1).size)+q1.2.1.size<=9223372036854775807))<|
 yAB (f1 q1.1 ((yI2 q1.2.2.1)++q1.2.1)) fun r2=>
 some (r2.1,r2.2.1,())) (fun q3=>
 some (q3.1,q3.2.1,()))
theorem xA8(f1 F0):yFY.Eq [yFZ.s f1] (.two .no (.two .no (.two .no (.two (.two .no (.one (.lp (yJR.s F0)))) .no)))) (yQK f1 F0):=fun _=>by kernel_rfl
def yKB(L:Nat):yFY.T:=yQK (yKC L) (yAe (yEL (yCa L)) L)
theorem yUg{α:Type}(L:Nat):LO Tryz.f135 [1,1,1,0,1,0] (yJR.s (α:=α) (yAe (yEL (yCa L)) L)):=yJR.k (yWL (yCa L)) (tC (yOo L).ent tN) (lN _) (by kernel_rfl) L
theorem yUD(L:Nat):yFY.C (yKB L):=yFY.c (xA8 (yKC L) (yAe (yEL (yCa L)) L)) (tC (yUE L).ent tN) Tryz.func135 (by kernel_rfl) (lS (lN _) (lS (lN _) (lS (lN _) (lS (lS (lN _) (lB (lL (yUg L)))) (lN _)))))
abbrev yHB:=fw1 121 (caC yDX caN) (cdT (caC cdS (caC cI caN)))
abbrev yOr(f1:yB4.T)(f2:yFY.T)(x0:yAQ):Option (ByteArray×Int×Unit):=
 letI qa:= [V.int .i64 2]
 yAB (f1 x0) fun r1=>
 bif !r1 then
 some (noS,40,())
 else
 yAB (f2 1 noS ([qa,qa,qa,qa,qa,qa,[V.int .i64 4],[V.int .i64 4]]) ([[V.int .i64 x0.Nodes],[V.int .i64 x0.Slots],[V.int .i64 x0.Blocks],[V.int .i64 x0.Per],[V.int .i64 x0.Journal],[V.int .i64 x0.Log],[V.int .i64 x0.Lease],[V.int .i64 x0.Wait]])) fun r2=>
 some (r2.1,r2.2.1,())
theorem yY9(f1 f2):yHB.Eq [yB4.s f1,yFY.s f2] .no (yOr f1 f2):=fun _=>by kernel_rfl
def yMl(L:Nat):yHB.T:=yOr (yCk L) (yKB L)
theorem yY8(L:Nat):yHB.C (yMl L):=yHB.c (yY9 (yCk L) (yKB L)) (tC (yIH L).ent (tC (yUD L).ent tN)) Tryz.func121 (by kernel_rfl) (lN _)
abbrev yIp:=fw1 122 (caC cI caN) (cdT (caC cdS (caC cI caN)))
abbrev yQP(f1:yFY.T)(x0:Int):Option (ByteArray×Int×Unit):=
 yAB (f1 2 noS ([[V.int .i64 6]]) ([[V.int .i64 x0]])) fun r1=>
 some (r1.1,r1.2.1,())
theorem xBH(f1):yIp.Eq [yFY.s f1] .no (yQP f1):=fun _=>by kernel_rfl
def yOD(L:Nat):yIp.T:=yQP (yKB L)
theorem xBG(L:Nat):yIp.C (yOD L):=yIp.c (xBH (yKB L)) (tC (yUD L).ent tN) Tryz.func122 (by kernel_rfl) (lN _)
abbrev yHC:=yAQ×ByteArray×(List (List V))×Int×Unit
abbrev yKE:=(List (List V))×Unit
abbrev yDh{α:Type}(f1:yIo.T)(s:yHC)(kn:yHC->Option α)(k0:yKE->Option α):Option α:=
 letI qc:=s.2.2.1
 bif decide (s.2.2.2.1<s.1.Slots) then
 yAB (f1 s.1 s.2.2.2.1) fun r1=>
 letI qd:=0+r1.toNat
 letI qa:=qc.getD qd []
 letI qb:=qa.take 0++([V.str s.2.1]++qa.drop 1)
 gB r1 qc.length<|
 gd (decide (0+r1.toNat<qc.length))<|
 gd (Nat.ble 0 qd)<|
 gd (Nat.ble 1 qa.length)<|
 gW (qc.set qd qb) qc.length<|
 kn (s.1,s.2.1,qc.set qd qb,w64 (s.2.2.2.1+1),())
 else
 gW qc qc.length<|
 k0 (qc,())
abbrev yHD:LW1 yHC yKE:=⟨(lvC 1 yRR (lvC 6 (mP cdS) (lvC 8 (mW 1) (lvC 9 (mP cI) lvN)))),(.exit 0),(lvC 8 (mW 1) lvN)⟩
theorem yTe{α:Type}(f1):yHD.Eq (α:=α) [yIo.s f1] Tryz.f54 [1,1,1,1,1,1,0,1,0] .no (yDh f1):=fun _ _ _=>by kernel_rfl
abbrev yF7:=fw1 54 (caC yDX caN) (cdT (caC cdR (caC cI caN)))
abbrev yNZ(f1:yHB.T)(f2:yIp.T)(f3:yC7.T)(F0:LF1 yHC yKE ((List (List V))×Int×Unit))(x0:yAQ):Option ((List (List V))×Int×Unit):=
 yAB (f1 x0) fun r1=>
 bif r1.2.1 !=0 then
 some ([],r1.2.1,())
 else
 yAB (f2 0) fun r2=>
 yAB (f3 x0) fun r3=>
 letI qa:=List.replicate r3.toNat [V.str noS]
 letI qb:=(qa.getD 0 []).take 0++([V.str r1.1]++(qa.getD 0 []).drop 1)
 gd (decide (0<=r3))<|
 gd (decide (r3<=r3))<|
 gd (decide (16*r3.toNat<=281474976710656))<|
 gd (decide (r3<=9223372036854775807))<|
 gd (decide (0<(r3.toNat:Int)))<|
 gd (decide (0<qa.length))<|
 gd (Nat.ble 1 (qa.getD 0 []).length)<|
 gW (qa.set 0 qb) r3.toNat<|
 F0 (x0,r2.1,qa.set 0 qb,0,()) (fun q4=>
 gF q4.1 (0+q4.1.length)<|
 some (q4.1.take q4.1.length,0,()))
theorem yXN(f1 f2 f3 F0):yF7.Eq [yHB.s f1,yIp.s f2,yC7.s f3] (.two .no (.two .no (.two .no (.two .no (.two .no (.two .no (.two (.two .no (.one (.lp (yHD.s F0)))) .no))))))) (yNZ f1 f2 f3 F0):=fun _=>by kernel_rfl
def yLN(L:Nat):yF7.T:=yNZ (yMl L) (yOD L) (yDg L) (yBL (yDh (yHA L)) L)
theorem ySt{α:Type}(L:Nat):LO Tryz.f54 [1,1,1,1,1,1,0,1,0] (yHD.s (α:=α) (yBL (yDh (yHA L)) L)):=yHD.k (yTe (yHA L)) (tC (xBE L).ent tN) (lN _) (by kernel_rfl) L
theorem yXM(L:Nat):yF7.C (yLN L):=yF7.c (yXN (yMl L) (yOD L) (yDg L) (yBL (yDh (yHA L)) L)) (tC (yY8 L).ent (tC (xBG L).ent (tC (yOp L).ent tN))) Tryz.func54 (by kernel_rfl) (lS (lN _) (lS (lN _) (lS (lN _) (lS (lN _) (lS (lN _) (lS (lN _) (lS (lS (lN _) (lB (lL (ySt L)))) (lN _))))))))
abbrev yKM:=fw2 55 (caC cI (caC cdR caN)) (cdT (caC yCY (caC cI caN)))
abbrev yRz(f1:yC8.T)(x0:Int)(x1:List (List V)):Option (yAA×Int×Unit):=
 letI qf:=decide (x0<=9223372036854775807)
 letI qe:=0+x0.toNat
 letI qd:=0+x1.length
 letI qc:=List.replicate x0.toNat [V.int .i64 0]
 letI qb:=List.replicate x0.toNat [V.sl ([]) true]
 letI qa:=(⟨x1.take qd,qb.take x0.toNat,qc.take x0.toNat,1,[]⟩:yAA)
 bif decide (x0<1) then
 some (yAA.z,2,())
 else
 bif decide (16<x0) then
 some (yAA.z,2,())
 else
 gd (x1.all fun r=>Nat.beq r.length 1)<|
 gM qd 16<|
 gd (decide (0<=x0))<|
 gd (decide (x0<=x0))<|
 gd (decide (24*x0.toNat<=281474976710656))<|
 gd qf<|
 gd (decide (0<=x0))<|
 gd (decide (x0<=x0))<|
 gd (decide (8*x0.toNat<=281474976710656))<|
 gd qf<|
 gF x1 (0+qd)<|
 gF qb qe<|
 gF qc qe<|
 yAB (f1 qa) fun r1=>
 bif r1 !=0 then
 some (yAA.z,2,())
 else
 gF x1 (0+qd)<|
 gF qb qe<|
 gF qc qe<|
 some (qa,0,())
theorem xCv(f1):yKM.Eq [yC8.s f1] .no (yRz f1):=fun _=>by kernel_rfl
def yQQ(L:Nat):yKM.T:=yRz (yCl L)
theorem xCu(L:Nat):yKM.C (yQQ L):=yKM.c (xCv (yCl L)) (tC (yOs L).ent tN) Tryz.func55 (by kernel_rfl) (lN _)
abbrev yJC:=yAQ×yAA×Int×yAA×Int×Unit
abbrev yMa:=yAA×Int×yAA×Unit
abbrev yEG{α:Type}(f1:yIq.T)(s:yJC)(kn:yJC->Option α)(k0:yMa->Option α):Option α:=
 bif decide (s.2.2.2.2.1<s.1.Nodes) then
 bif s.2.2.1==0 then
 yAB (f1 s.2.2.2.1 s.2.2.2.2.1 (⟨6,0,noS,0⟩:yBN)) fun r1=>
 kn (s.1,s.2.1,r1.2.2.1,r1.1,w64 (s.2.2.2.2.1+1),())
 else
 k0 (s.2.1,s.2.2.1,s.2.2.2.1,())
 else
 k0 (s.2.1,s.2.2.1,s.2.2.2.1,())
abbrev yJD:LW1 yJC yMa:=⟨(lvC 1 yRR (lvC 2 yAI (lvC 5 (mP cI) (lvC 6 yAI (lvC 7 (mP cI) lvN))))),(.exit 0),(lvC 2 yAI (lvC 5 (mP cI) (lvC 6 yAI lvN)))⟩
theorem yVs{α:Type}(f1):yJD.Eq (α:=α) [yIq.s f1] Tryz.f38 [1,1,1,1,0,1,0] .no (yEG f1):=fun _ _ _=>by kernel_rfl
abbrev yFR:=fw1 38 (caC yDX caN) (cdT (caC yCY (caC cdB caN)))
abbrev yP5(f1:yF7.T)(f2:yKM.T)(F0:LF1 yJC yMa (yAA×Bool×Unit))(x0:yAQ):Option (yAA×Bool×Unit):=
 yAB (f1 x0) fun r1=>
 bif r1.2.1 !=0 then
 some (yAA.z,false,())
 else
 yAB (f2 x0.Nodes r1.1) fun r2=>
 F0 (x0,yAA.z,r2.2.1,r2.1,0,()) (fun q3=>
 some (q3.2.2.1,q3.2.1==0,()))
theorem xAd(f1 f2 F0):yFR.Eq [yF7.s f1,yKM.s f2] (.two .no (.two .no (.two .no (.two .no (.two (.two .no (.one (.lp (yJD.s F0)))) .no))))) (yP5 f1 f2 F0):=fun _=>by kernel_rfl
def yJ5(L:Nat):yFR.T:=yP5 (yLN L) (yQQ L) (yBL (yEG (yEM L)) L)
theorem yUR{α:Type}(L:Nat):LO Tryz.f38 [1,1,1,1,0,1,0] (yJD.s (α:=α) (yBL (yEG (yEM L)) L)):=yJD.k (yVs (yEM L)) (tC (yYA L).ent tN) (lN _) (by kernel_rfl) L
theorem yT5(L:Nat):yFR.C (yJ5 L):=yFR.c (xAd (yLN L) (yQQ L) (yBL (yEG (yEM L)) L)) (tC (yXM L).ent (tC (xCu L).ent tN)) Tryz.func38 (by kernel_rfl) (lS (lN _) (lS (lN _) (lS (lN _) (lS (lN _) (lS (lS (lN _) (lB (lL (yUR L)))) (lN _))))))
set_option maxRecDepth 100000
set_option maxHeartbeats 16000000
abbrev yLB:=yAQ×yAM×((List (List V))×(List (List V))×(List (List V))×Unit)×Int×Unit
abbrev yNb:=yAM×((List (List V))×(List (List V))×(List (List V))×Unit)×Unit
abbrev yLO{α:Type}(s:yLB)(kn:yLB->Option α)(k0:yNb->Option α):Option α:=
 letI qb:= [[V.int .i64 0,V.int .i64 0]]
 letI qa:=s.2.2.1.1
 bif decide (s.2.2.2.1<s.1.Slots) then
 bif decide (s.2.2.2.1<16) then
 gd (Nat.beq (0+qa.length) qa.length)<|
 gM (qa.length+1) 16<|
 gA (qa++qb) (qa.length+1)<|
 kn (s.1,s.2.1,(qa++qb,s.2.2.1.2.1,s.2.2.1.2.2.1,()),w64 (s.2.2.2.1+1),())
 else
 gA qa qa.length<|
 k0 (s.2.1,(qa,s.2.2.1.2.1,s.2.2.1.2.2.1,()),())
 else
 gA qa qa.length<|
 k0 (s.2.1,(qa,s.2.2.1.2.1,s.2.2.1.2.2.1,()),())
abbrev yLC:LW1 yLB yNb:=⟨(lvC 1 yRR (lvC 2 yYw (lvC 3 (mO (zA 2 (zP cdR (zP cdR zN))) 3) (lvC 4 (mP cI) lvN)))),(.exit 0),(lvC 2 yYw (lvC 3 (mO (zA 2 (zP cdR (zP cdR zN))) 3) lvN))⟩
theorem yXe{α:Type}:yLC.Eq (α:=α) [] Tryz.f39 [1,1,0,1,0] .no (yLO):=fun _ _ _=>by kernel_rfl
abbrev yGt:=fw1 39 (caC yDX caN) yKl
abbrev yR5(F0:LF1 yLB yNb (yAM))(x0:yAQ):Option yAM:=
 F0 (x0,yAM.z,([],[],[],()),0,()) (fun q1=>
 gF q1.2.1.1 (0+q1.2.1.1.length)<|
 some (⟨q1.2.1.1.take q1.2.1.1.length,q1.2.1.2.1,q1.2.1.2.2.1⟩:yAM))
theorem xC0(F0):yGt.Eq [] (.two .no (.two .no (.two (.two .no (.one (.lp (yLC.s F0)))) .no))) (yR5 F0):=fun _=>by kernel_rfl
def yHo(L:Nat):yGt.T:=yR5 (yBL (yLO) L)
theorem yWQ{α:Type}(L:Nat):LO Tryz.f39 [1,1,0,1,0] (yLC.s (α:=α) (yBL (yLO) L)):=yLC.k (yXe) tN (lN _) (by kernel_rfl) L
theorem yWR(L:Nat):yGt.C (yHo L):=yGt.c (xC0 (yBL (yLO) L)) tN Tryz.func39 (by kernel_rfl) (lS (lN _) (lS (lN _) (lS (lS (lN _) (lB (lL (yWQ L)))) (lN _))))
abbrev yI9:=(List (List V))×Int×Unit
abbrev yMV:=Unit
abbrev yMW:=Bool×Unit
abbrev yEE{α:Type}(s:yI9)(kn:yI9->Option α)(k0:yMV->Option α)(k1:yMW->Option α):Option α:=
 bif decide (s.2.1<(s.1.length:Int)) then
 gI s.1 kI (w64 (s.2.1-1))<|
 gI s.1 kI s.2.1<|
 bif decide (aI s.1 s.2.1.toNat 0<aI s.1 ((w64 (s.2.1-1)).toNat) 0) then
 k1 (false,())
 else
 kn (s.1,w64 (s.2.1+1),())
 else
 k0 (())
abbrev yJA:LW2 yI9 yMV yMW:=⟨(lvC 0 (mP cdR) (lvC 3 (mP cI) lvN)),(.exit 0),lvN,.ret,(lvC 2 (mP cdB) lvN)⟩
theorem yVn{α:Type}:yJA.Eq (α:=α) [] Tryz.f123 [1,0,1,0] .no (yEE):=fun _ _ _=>by kernel_rfl
abbrev yIb:=fw1 123 (caC cdR caN) cdB
abbrev yPy(F0:LF2 yI9 yMV yMW (Bool))(x0:List (List V)):Option Bool:=
 F0 (x0,1,()) (fun q1=>
 some true) (fun q2=>
 some q2.1)
theorem xAV(F0):yIb.Eq [] (.two .no (.two (.two .no (.one (.lp (yJA.s F0)))) .no)) (yPy F0):=fun _=>by kernel_rfl
def yIa(L:Nat):yIb.T:=yPy (yAe (yEE) L)
theorem yUQ{α:Type}(L:Nat):LO Tryz.f123 [1,0,1,0] (yJA.s (α:=α) (yAe (yEE) L)):=yJA.k (yVn) tN (lN _) (by kernel_rfl) L
theorem xAU(L:Nat):yIb.C (yIa L):=yIb.c (xAV (yAe (yEE) L)) tN Tryz.func123 (by kernel_rfl) (lS (lN _) (lS (lS (lN _) (lB (lL (yUQ L)))) (lN _)))
abbrev yFu:=fw1 56 (caC yDX caN) cdB
abbrev yVm(f1:yIb.T)(x0:yAQ):Option Bool:=
 yAB (f1 ([[V.int .i64 1],[V.int .i64 x0.Slots],[V.int .i64 x0.Nodes],[V.int .i64 16]])) fun r1=>
 bif r1 then
 yAB (f1 ([[V.int .i64 1],[V.int .i64 x0.Blocks],[V.int .i64 64]])) fun r2=>
 bif r2 then
 yAB (f1 ([[V.int .i64 1],[V.int .i64 x0.Per],[V.int .i64 8]])) fun r3=>
 bif r3 then
 yAB (f1 ([[V.int .i64 (w64 (x0.Per+2))],[V.int .i64 x0.Journal],[V.int .i64 64]])) fun r4=>
 bif r4 then
 yAB (f1 ([[V.int .i64 (w64 (8*x0.Slots))],[V.int .i64 x0.Log],[V.int .i64 512]])) fun r5=>
 bif r5 then
 yAB (f1 ([[V.int .i64 1],[V.int .i64 x0.Lease],[V.int .i64 (w64 (x0.Wait-1))],[V.int .i64 1048575]])) fun r6=>
 some r6
 else
 some false
 else
 some false
 else
 some false
 else
 some false
 else
 some false
theorem xGa(f1):yFu.Eq [yIb.s f1] .no (yVm f1):=fun _=>by kernel_rfl
def yJ0(L:Nat):yFu.T:=yVm (yIa L)
theorem ySc(L:Nat):yFu.C (yJ0 L):=yFu.c (xGa (yIa L)) (tC (xAU L).ent tN) Tryz.func56 (by kernel_rfl) (lN _)
abbrev yG5:=fw1 220 (caC yDX caN) cdR
abbrev yOh(f1:yFu.T)(x0:yAQ):Option (List (List V)):=
 letI qc:=w64 (1+x0.Journal)
 letI qa:=w64 (x0.Nodes*1)
 letI qb:=w64 ((w64 ((w64 (1+qa))+qa))+(w64 (x0.Log*1)))
 yAB (f1 x0) fun r1=>
 bif !r1 then
 some ([])
 else
 some ([[V.int .i64 0,V.int .i64 1,V.int .i8 1,V.int .i64 1],[V.int .i64 1,V.int .i64 qa,V.int .i8 2,V.int .i64 1],[V.int .i64 (w64 (1+qa)),V.int .i64 qa,V.int .i8 3,V.int .i64 1],[V.int .i64 (w64 ((w64 (1+qa))+qa)),V.int .i64 (w64 (x0.Log*1)),V.int .i8 4,V.int .i64 1],[V.int .i64 qb,V.int .i64 (w64 (x0.Slots*qc)),V.int .i8 6,V.int .i64 qc],[V.int .i64 (w64 (qb+(w64 (x0.Slots*qc)))),V.int .i64 (w64 (x0.Blocks*x0.Per)),V.int .i8 7,V.int .i64 x0.Per]])
theorem yYo(f1):yG5.Eq [yFu.s f1] .no (yOh f1):=fun _=>by kernel_rfl
def yJ2(L:Nat):yG5.T:=yOh (yJ0 L)
theorem yYn(L:Nat):yG5.C (yJ2 L):=yG5.c (yYo (yJ0 L)) (tC (ySc L).ent tN) Tryz.func220 (by kernel_rfl) (lN _)
abbrev yLz:=Int×yAK×(List (List V))×Int×Int×Unit
abbrev yOf:=yAK×Unit
abbrev yOg:=yAK×Unit
abbrev yGk{α:Type}(s:yLz)(kn:yLz->Option α)(k0:yOf->Option α)(k1:yOg->Option α):Option α:=
 letI qb:=s.2.2.1
 letI qa:=s.2.2.2.2.1
 bif decide (qa<s.2.2.2.1) then
 gI qb yAK.ks qa<|
 bif(aI qb qa.toNat 2)==s.1 then
 k1 ((⟨(⟨aI qb qa.toNat 0,aI qb qa.toNat 1⟩:yAr),aI qb qa.toNat 2,aI qb qa.toNat 3⟩:yAK),())
 else
 kn (s.1,s.2.1,qb,s.2.2.2.1,w64 (qa+1),())
 else
 k0 (s.2.1,())
abbrev yL0:LW2 yLz yOf yOg:=⟨(lvC 1 (mP (cdI .i8)) (lvC 4 yOk (lvC 8 (mP cdR) (lvC 9 (mP cI) (lvC 10 (mP cI) lvN))))),(.exit 0),(lvC 4 yOk lvN),.ret,(lvC 4 yOk lvN)⟩
theorem yYm{α:Type}:yL0.Eq (α:=α) [] Tryz.f167 [1,0,1,0] .no (yGk):=fun _ _ _=>by kernel_rfl
abbrev yIZ:=fw2 167 (caC yDX (caC (cdI .i8) caN)) yYa
abbrev yTT(f1:yG5.T)(F0:LF2 yLz yOf yOg (yAK))(x0:yAQ)(x1:Int):Option yAK:=
 yAB (f1 x0) fun r1=>
 F0 (x1,yAK.z,r1,(r1.length:Int),0,()) (fun q2=>
 some (⟨yAr.z,0,1⟩:yAK)) (fun q3=>
 some q3.1)
theorem xE2(f1 F0):yIZ.Eq [yG5.s f1] (.two .no (.two (.two .no (.one (.lp (yL0.s F0)))) .no)) (yTT f1 F0):=fun _=>by kernel_rfl
def yOe(L:Nat):yIZ.T:=yTT (yJ2 L) (yAe (yGk) L)
theorem yW9{α:Type}(L:Nat):LO Tryz.f167 [1,0,1,0] (yL0.s (α:=α) (yAe (yGk) L)):=yL0.k (yYm) tN (lN _) (by kernel_rfl) L
theorem yXz(L:Nat):yIZ.C (yOe L):=yIZ.c (xE2 (yJ2 L) (yAe (yGk) L)) (tC (yYn L).ent tN) Tryz.func167 (by kernel_rfl) (lS (lN _) (lS (lS (lN _) (lB (lL (yW9 L)))) (lN _)))
abbrev yDx:=fw2 190 (caC yWt (caC cI caN)) cI
abbrev yLY(x0:yAr)(x1:Int):Option Int:=
 bif decide (x1<0) then
 some (-1)
 else
 bif decide (x0.many_<=x1) then
 some (-1)
 else
 some (w64 (x0.first_+x1))
theorem yUP:yDx.Eq [] .no (yLY):=fun _=>by kernel_rfl
def yHl(L:Nat):yDx.T:=yLY
theorem yUO(L:Nat):yDx.C (yHl L):=yDx.c (yUP) tN Tryz.func190 (by kernel_rfl) (lN _)
abbrev yM4:=fw4 140 (caC yDX (caC (cdI .i8) (caC cI (caC cI caN)))) cI
abbrev yU3(f1:yIZ.T)(f2:yDx.T)(x0:yAQ)(x1:Int)(x2:Int)(x3:Int):Option Int:=
 yAB (f1 x0 x1) fun r1=>
 bif decide (x2<0) then
 some (-1)
 else
 gd (!(decide (r1.per_=0)))<|
 bif decide (w64 (r1.stretch_.many_.tdiv r1.per_)<=x2) then
 some (-1)
 else
 bif decide (x3<0) then
 some (-1)
 else
 bif decide (r1.per_<=x3) then
 some (-1)
 else
 yAB (f2 r1.stretch_ (w64 ((w64 (x2*r1.per_))+x3))) fun r2=>
 some r2
theorem xIM(f1 f2):yM4.Eq [yIZ.s f1,yDx.s f2] .no (yU3 f1 f2):=fun _=>by kernel_rfl
def ySd(L:Nat):yM4.T:=yU3 (yOe L) (yHl L)
theorem xDn(L:Nat):yM4.C (ySd L):=yM4.c (xIM (yOe L) (yHl L)) (tC (yXz L).ent (tC (yUO L).ent tN)) Tryz.func140 (by kernel_rfl) (lN _)
abbrev yHk:=fw2 141 (caC yDX (caC cI caN)) cI
abbrev yVl(f1:yM4.T)(x0:yAQ)(x1:Int):Option Int:=
 yAB (f1 x0 4 x1 0) fun r1=>
 some r1
theorem xGZ(f1):yHk.Eq [yM4.s f1] .no (yVl f1):=fun _=>by kernel_rfl
def yLX(L:Nat):yHk.T:=yVl (ySd L)
theorem yVk(L:Nat):yHk.C (yLX L):=yHk.c (xGZ (ySd L)) (tC (xDn L).ent tN) Tryz.func141 (by kernel_rfl) (lN _)
abbrev yId:=fw2 80 (caC yDX (caC cI caN)) yNq
abbrev yP6(f1:yHk.T)(x0:yAQ)(x1:Int):Option yBN:=
 yAB (f1 x0 x1) fun r1=>
 bif decide (0<=r1) then
 some (⟨1,r1,noS,0⟩:yBN)
 else
 some yBN.z
theorem xAk(f1):yId.Eq [yHk.s f1] .no (yP6 f1):=fun _=>by kernel_rfl
def yQr(L:Nat):yId.T:=yP6 (yLX L)
theorem xAj(L:Nat):yId.C (yQr L):=yId.c (xAk (yLX L)) (tC (yVk L).ent tN) Tryz.func80 (by kernel_rfl) (lN _)
set_option maxRecDepth 100000
set_option maxHeartbeats 16000000
abbrev yDz:=fw1 241 (caC (cdP yGZ) caN) yNq
abbrev yLZ(f1:yId.T)(x0:yAP):Option yBN:=
 yAB (f1 x0.g_ x0.done_) fun r1=>
 some r1
theorem yUV(f1):yDz.Eq [yId.s f1] .no (yLZ f1):=fun _=>by kernel_rfl
def yKu(L:Nat):yDz.T:=yLZ (yQr L)
theorem yUU(L:Nat):yDz.C (yKu L):=yDz.c (yUV (yQr L)) (tC (xAj L).ent tN) Tryz.func241 (by kernel_rfl) (lN _)
abbrev yE1:=fw1 232 (caC cI caN) cdB
abbrev yMd(x0:Int):Option Bool:=
 bif decide (1<=x0) then
 some (decide (x0<=6))
 else
 some false
theorem yVy:yE1.Eq [] .no (yMd):=fun _=>by kernel_rfl
def yJE(L:Nat):yE1.T:=yMd
theorem yVx(L:Nat):yE1.C (yJE L):=yE1.c (yVy) tN Tryz.func232 (by kernel_rfl) (lN _)
abbrev yM6:=ByteArray×Int×Int×Int×Int×Unit
abbrev yQA:=Int×Unit
abbrev yJ7{α:Type}(s:yM6)(kn:yM6->Option α)(k0:yQA->Option α):Option α:=
 letI qa:=s.2.2.2.2.1
 bif decide (qa<s.2.2.2.1) then
 gB (w64 (s.2.1+qa)) s.1.size<|
 gd (!(decide (w64 (8*qa)<0)))<|
 kn (s.1,s.2.1,IntKind.i64.wrap ((BitVec.ofInt IntKind.i64.bits s.2.2.1 ||| BitVec.ofInt IntKind.i64.bits (IntKind.i64.wrap ((w64 (((s.1[(w64 (s.2.1+qa)).toNat]?).getD 0).toNat:Int))*2^(min (w64 (8*qa)).toNat IntKind.i64.bits)))).toNat:Int),s.2.2.2.1,w64 (qa+1),())
 else
 k0 (s.2.2.1,())
abbrev yM7:LW1 yM6 yQA:=⟨(lvC 0 (mP cdS) (lvC 1 (mP cI) (lvC 6 (mP cI) (lvC 30 (mP cI) (lvC 31 (mP cI) lvN))))),(.exit 1),(lvC 6 (mP cI) lvN)⟩
theorem xAo{α:Type}:yM7.Eq (α:=α) [] Tryz.f234 [1,1,0,1,0] .no (yJ7):=fun _ _ _=>by kernel_rfl
abbrev yEH:=fw3 234 (caC cdS (caC cI (caC cI caN))) (cdT (caC cI (caC cI caN)))
abbrev yVv(f1:yE1.T)(F0:LF1 yM6 yQA (Int×Int×Unit))(x0:ByteArray)(x1:Int)(x2:Int):Option (Int×Int×Unit):=
 yAB (f1 x2) fun r1=>
 bif !r1 then
 some (0,2,())
 else
 bif decide (x1<0) then
 some (0,10,())
 else
 bif decide ((x0.size:Int)<x1) then
 some (0,10,())
 else
 bif decide (w64 ((x0.size:Int)-x1)<x2) then
 some (0,10,())
 else
 F0 (x0,x1,0,x2,0,()) (fun q2=>
 bif decide (1099511627776<q2.1) then
 some (0,10,())
 else
 some (q2.1,0,()))
theorem xG2(f1 F0):yEH.Eq [yE1.s f1] (.two .no (.two .no (.two (.two .no (.one (.lp (yM7.s F0)))) .no))) (yVv f1 F0):=fun _=>by kernel_rfl
def yCQ(L:Nat):yEH.T:=yVv (yJE L) (yBL (yJ7) L)
theorem yY0{α:Type}(L:Nat):LO Tryz.f234 [1,1,0,1,0] (yM7.s (α:=α) (yBL (yJ7) L)):=yM7.k (xAo) tN (lN _) (by kernel_rfl) L
theorem yQB(L:Nat):yEH.C (yCQ L):=yEH.c (xG2 (yJE L) (yBL (yJ7) L)) (tC (yVx L).ent tN) Tryz.func234 (by kernel_rfl) (lS (lN _) (lS (lN _) (lS (lS (lN _) (lB (lL (yY0 L)))) (lN _))))
abbrev yD6:=fw1 181 (caC cI caN) cdB
abbrev yOU(x0:Int):Option Bool:=
 bif decide (16<=x0) then
 some (decide (x0<=1099511627776))
 else
 some false
theorem yYe:yD6.Eq [] .no (yOU):=fun _=>by kernel_rfl
def yIA(L:Nat):yD6.T:=yOU
theorem ySS(L:Nat):yD6.C (yIA L):=yD6.c (yYe) tN Tryz.func181 (by kernel_rfl) (lN _)
abbrev yC1:=fw1 185 (caC (cdP yUK) caN) cdB
abbrev yIB(f1:yD6.T)(x0:yAu):Option Bool:=
 letI qc:=x0.Cmd.Span.Lo<=x0.Cmd.Span.Hi
 letI qb:=x0.Cmd.Span.Lo==0
 letI qa:=(x0.Cmd.Span.Hi==0)&&true
 yAB (f1 x0.Cmd.By) fun r1=>
 bif !r1 then
 some false
 else
 bif decide (x0.Cmd.Serial<1) then
 some false
 else
 bif decide (2147483648<x0.Cmd.Serial) then
 some false
 else
 bif x0.Cmd.Kind==0 then
 bif qb&&qa then
 bif x0.Cmd.Mode==0 then
 bif x0.Cmd.Dead==0 then
 bif x0.Cmd.Was==0 then
 some true
 else
 some false
 else
 some false
 else
 some false
 else
 some false
 else
 bif x0.Cmd.Kind==1 then
 bif qb&&qa then
 bif x0.Cmd.Mode==0 then
 bif x0.Cmd.Dead==0 then
 bif x0.Cmd.Was==0 then
 some true
 else
 some false
 else
 some false
 else
 some false
 else
 some false
 else
 bif x0.Cmd.Kind==2 then
 bif decide (0<=x0.Cmd.Span.Lo) then
 bif decide qc then
 bif decide (x0.Cmd.Span.Hi<64) then
 bif x0.Cmd.Mode==1 then
 bif x0.Cmd.Dead==0 then
 bif x0.Cmd.Was==0 then
 some true
 else
 some false
 else
 some false
 else
 bif x0.Cmd.Mode==2 then
 bif x0.Cmd.Dead==0 then
 bif x0.Cmd.Was==0 then
 some true
 else
 some false
 else
 some false
 else
 some false
 else
 some false
 else
 some false
 else
 some false
 else
 bif x0.Cmd.Kind==3 then
 bif decide (0<=x0.Cmd.Span.Lo) then
 bif decide qc then
 bif decide (x0.Cmd.Span.Hi<64) then
 bif x0.Cmd.Mode==0 then
 bif x0.Cmd.Dead==0 then
 bif x0.Cmd.Was==0 then
 some true
 else
 some false
 else
 some false
 else
 some false
 else
 some false
 else
 some false
 else
 some false
 else
 bif x0.Cmd.Kind==4 then
 bif qb&&qa then
 bif x0.Cmd.Mode==0 then
 yAB (f1 x0.Cmd.Dead) fun r2=>
 bif r2 then
 bif x0.Cmd.Was==0 then
 some true
 else
 yAB (f1 x0.Cmd.Was) fun r3=>
 some r3
 else
 some false
 else
 some false
 else
 some false
 else
 bif x0.Cmd.Kind==5 then
 bif qb&&qa then
 bif x0.Cmd.Mode==0 then
 yAB (f1 x0.Cmd.Dead) fun r4=>
 bif r4 then
 bif x0.Cmd.Was==0 then
 some true
 else
 some false
 else
 some false
 else
 some false
 else
 some false
 else
 some false
theorem yRe(f1):yC1.Eq [yD6.s f1] .no (yIB f1):=fun _=>by kernel_rfl
def yG4(L:Nat):yC1.T:=yIB (yIA L)
theorem yRd(L:Nat):yC1.C (yG4 L):=yC1.c (yRe (yIA L)) (tC (ySS L).ent tN) Tryz.func185 (by kernel_rfl) (lN _)
abbrev yG0:=fw1 180 (caC yNr caN) cdB
abbrev yOV(f1:yC1.T)(x0:yAG):Option Bool:=
 yAB (f1 (⟨x0,[]⟩:yAu)) fun r1=>
 some r1
theorem yYg(f1):yG0.Eq [yC1.s f1] .no (yOV f1):=fun _=>by kernel_rfl
def yMQ(L:Nat):yG0.T:=yOV (yG4 L)
theorem yYf(L:Nat):yG0.C (yMQ L):=yG0.c (yYg (yG4 L)) (tC (yRd L).ent tN) Tryz.func180 (by kernel_rfl) (lN _)
set_option maxRecDepth 100000
set_option maxHeartbeats 16000000
abbrev yJt:=yAG×yAF×Unit
abbrev yJs:=yAG×yAF×Int×Unit
abbrev yGb{α:Type}(f1:yEH.T)(s:yJt)(k0:yJs->Option α):Option α:=
 yAB (f1 s.2.1.s_ 0 1) fun r1=>
 bif r1.2.1 !=0 then
 k0 (s.1,{s.2.1 with bad_:=true },0,())
 else
 gd (decide (1<=(s.2.1.s_.size:Int)))<|
 k0 (s.1,{s.2.1 with s_:=s.2.1.s_.extract 1 s.2.1.s_.size },r1.1,())
abbrev yG1:LW1 yJt yJs:=⟨(lvC 2 yP7 (lvC 4 yDy lvN)),.normal,(lvC 2 yP7 (lvC 4 yDy (lvC 5 (mP cI) lvN)))⟩
theorem yTN{α:Type}(f1):yG1.Ep (α:=α) [yEH.s f1] Tryz.f118 [1,1,0] .no (yGb f1):=fun _ _=>by kernel_rfl
theorem yST{α:Type}(L:Nat):PO Tryz.f118 [1,1,0] (yG1.s (α:=α) (yGb (yCQ L))):=yG1.kp (yTN (yCQ L)) (tC (yQB L).ent tN) (lN _) (by kernel_rfl)
abbrev yJv:=yAG×yAF×Int×Unit
abbrev yJu:=yAG×yAF×yAG×Unit
abbrev yGc{α:Type}(f1:yEH.T)(s:yJv)(k0:yJu->Option α):Option α:=
 letI qc:=s.2.1
 letI qb:=yDK false s.2.2.1 127
 letI qa:=qc.s_.extract 6 qc.s_.size
 yAB (f1 qc.s_ 0 6) fun r1=>
 bif r1.2.1 !=0 then
 yAB (f1 qc.s_ 0 4) fun r2=>
 bif r2.2.1 !=0 then
 k0 (s.1,{qc with bad_:=true },(⟨IntKind.i8.wrap qb,0,0,0,0,yAN.z,0⟩:yAG),())
 else
 gd (decide (4<=(qc.s_.size:Int)))<|
 k0 (s.1,(⟨qc.s_.extract 4 qc.s_.size,true⟩:yAF),(⟨IntKind.i8.wrap qb,0,r2.1,0,0,yAN.z,0⟩:yAG),())
 else
 gd (decide (6<=(qc.s_.size:Int)))<|
 yAB (f1 qa 0 4) fun r3=>
 bif r3.2.1 !=0 then
 k0 (s.1,(⟨qc.s_.extract 6 qc.s_.size,true⟩:yAF),(⟨IntKind.i8.wrap qb,r1.1,0,0,0,yAN.z,0⟩:yAG),())
 else
 gd (decide (4<=(qa.size:Int)))<|
 k0 (s.1,{qc with s_:=qa.extract 4 (qa.size)},(⟨IntKind.i8.wrap qb,r1.1,r3.1,0,0,yAN.z,0⟩:yAG),())
abbrev yG2:LW1 yJv yJu:=⟨(lvC 2 yP7 (lvC 4 yDy (lvC 5 (mP cI) lvN))),.normal,(lvC 2 yP7 (lvC 4 yDy (lvC 6 yP7 lvN)))⟩
theorem yTO{α:Type}(f1):yG2.Ep (α:=α) [yEH.s f1] Tryz.f118 [1,1,1,0] .no (yGc f1):=fun _ _=>by kernel_rfl
theorem ySU{α:Type}(L:Nat):PO Tryz.f118 [1,1,1,0] (yG2.s (α:=α) (yGc (yCQ L))):=yG2.kp (yTO (yCQ L)) (tC (yQB L).ent tN) (lN _) (by kernel_rfl)
abbrev yJx:=yAG×yAF×yAG×Unit
abbrev yJw:=yAG×yAF×yAG×Unit
abbrev yCg{α:Type}(f1:yEH.T)(s:yJx)(k0:yJw->Option α):Option α:=
 letI qu:=s.1
 letI qj:=s.2.1
 letI qt:=f1 qj.s_ 0 6
 letI ql:=f1 qj.s_ 0 1
 letI qk:=decide (6<=(qj.s_.size:Int))
 letI qg:=decide (1<=(qj.s_.size:Int))
 letI qf:=(⟨qj.s_.extract 6 qj.s_.size,true⟩:yAF)
 letI qe:=qj.s_.extract 6 qj.s_.size
 letI qw:=decide (6<=(qe.size:Int))
 letI qd:=s.2.2.1
 letI qb:=(⟨qj.s_.extract 1 qj.s_.size,true⟩:yAF)
 letI qa:=qj.s_.extract 1 qj.s_.size
 letI qo:=f1 qa 0 1
 letI qi:=decide (1<=(qa.size:Int))
 letI qh:=qa.extract 1 (qa.size)
 letI qv:=decide (1<=(qh.size:Int))
 letI qc:=(⟨qa.extract 1 (qa.size),true⟩:yAF)
 bif qd.Kind==2 then
 yAB ql fun r1=>
 letI qq:=(⟨r1.1,0⟩:yAN)
 bif r1.2.1 !=0 then
 yAB ql fun r2=>
 letI qp:=(⟨0,r2.1⟩:yAN)
 bif r2.2.1 !=0 then
 bif qd.Kind==2 then
 yAB ql fun r3=>
 bif r3.2.1 !=0 then
 k0 (qu,{qj with bad_:=true },{qd with Span:=yAN.z,Mode:=0 },())
 else
 gd qg<|
 k0 (qu,qb,{qd with Span:=yAN.z,Mode:=IntKind.i8.wrap (yDK false r3.1 127)},())
 else
 k0 (qu,{qj with bad_:=true },{qd with Span:=yAN.z },())
 else
 gd qg<|
 bif qd.Kind==2 then
 yAB qo fun r4=>
 bif r4.2.1 !=0 then
 k0 (qu,qb,{qd with Span:=qp,Mode:=0 },())
 else
 gd qi<|
 k0 (qu,qc,{qd with Span:=qp,Mode:=IntKind.i8.wrap (yDK false r4.1 127)},())
 else
 k0 (qu,qb,{qd with Span:=qp },())
 else
 gd qg<|
 yAB qo fun r5=>
 letI qn:=(⟨r1.1,r5.1⟩:yAN)
 bif r5.2.1 !=0 then
 bif qd.Kind==2 then
 yAB qo fun r6=>
 bif r6.2.1 !=0 then
 k0 (qu,qb,{qd with Span:=qq,Mode:=0 },())
 else
 gd qi<|
 k0 (qu,qc,{qd with Span:=qq,Mode:=IntKind.i8.wrap (yDK false r6.1 127)},())
 else
 k0 (qu,qb,{qd with Span:=qq },())
 else
 gd qi<|
 bif qd.Kind==2 then
 yAB (f1 qh 0 1) fun r7=>
 bif r7.2.1 !=0 then
 k0 (qu,qc,{qd with Span:=qn,Mode:=0 },())
 else
 gd qv<|
 k0 (qu,{qj with s_:=qh.extract 1 (qh.size)},{qd with Span:=qn,Mode:=IntKind.i8.wrap (yDK false r7.1 127)},())
 else
 k0 (qu,{qj with s_:=qa.extract 1 (qa.size)},{qd with Span:=qn },())
 else
 bif qd.Kind==3 then
 yAB ql fun r8=>
 letI qs:=(⟨r8.1,0⟩:yAN)
 bif r8.2.1 !=0 then
 yAB ql fun r9=>
 letI qr:=(⟨0,r9.1⟩:yAN)
 bif r9.2.1 !=0 then
 bif qd.Kind==2 then
 yAB ql fun r10=>
 bif r10.2.1 !=0 then
 k0 (qu,{qj with bad_:=true },{qd with Span:=yAN.z,Mode:=0 },())
 else
 gd qg<|
 k0 (qu,qb,{qd with Span:=yAN.z,Mode:=IntKind.i8.wrap (yDK false r10.1 127)},())
 else
 k0 (qu,{qj with bad_:=true },{qd with Span:=yAN.z },())
 else
 gd qg<|
 bif qd.Kind==2 then
 yAB qo fun r11=>
 bif r11.2.1 !=0 then
 k0 (qu,qb,{qd with Span:=qr,Mode:=0 },())
 else
 gd qi<|
 k0 (qu,qc,{qd with Span:=qr,Mode:=IntKind.i8.wrap (yDK false r11.1 127)},())
 else
 k0 (qu,qb,{qd with Span:=qr },())
 else
 gd qg<|
 yAB qo fun r12=>
 letI qm:=(⟨r8.1,r12.1⟩:yAN)
 bif r12.2.1 !=0 then
 bif qd.Kind==2 then
 yAB qo fun r13=>
 bif r13.2.1 !=0 then
 k0 (qu,qb,{qd with Span:=qs,Mode:=0 },())
 else
 gd qi<|
 k0 (qu,qc,{qd with Span:=qs,Mode:=IntKind.i8.wrap (yDK false r13.1 127)},())
 else
 k0 (qu,qb,{qd with Span:=qs },())
 else
 gd qi<|
 bif qd.Kind==2 then
 yAB (f1 qh 0 1) fun r14=>
 bif r14.2.1 !=0 then
 k0 (qu,qc,{qd with Span:=qm,Mode:=0 },())
 else
 gd qv<|
 k0 (qu,{qj with s_:=qh.extract 1 (qh.size)},{qd with Span:=qm,Mode:=IntKind.i8.wrap (yDK false r14.1 127)},())
 else
 k0 (qu,{qj with s_:=qa.extract 1 (qa.size)},{qd with Span:=qm },())
 else
 bif qd.Kind==4 then
 yAB qt fun r15=>
 bif r15.2.1 !=0 then
 bif qd.Kind==4 then
 yAB qt fun r16=>
 bif r16.2.1 !=0 then
 k0 (qu,{qj with bad_:=true },{qd with Dead:=0,Was:=0 },())
 else
 gd qk<|
 k0 (qu,qf,{qd with Dead:=0,Was:=r16.1 },())
 else
 k0 (qu,{qj with bad_:=true },{qd with Dead:=0 },())
 else
 gd qk<|
 bif qd.Kind==4 then
 yAB (f1 qe 0 6) fun r17=>
 bif r17.2.1 !=0 then
 k0 (qu,qf,{qd with Dead:=r15.1,Was:=0 },())
 else
 gd qw<|
 k0 (qu,{qj with s_:=qe.extract 6 (qe.size)},{qd with Dead:=r15.1,Was:=r17.1 },())
 else
 k0 (qu,{qj with s_:=qj.s_.extract 6 qj.s_.size },{qd with Dead:=r15.1 },())
 else
 bif qd.Kind==5 then
 yAB qt fun r18=>
 bif r18.2.1 !=0 then
 bif qd.Kind==4 then
 yAB qt fun r19=>
 bif r19.2.1 !=0 then
 k0 (qu,{qj with bad_:=true },{qd with Dead:=0,Was:=0 },())
 else
 gd qk<|
 k0 (qu,qf,{qd with Dead:=0,Was:=r19.1 },())
 else
 k0 (qu,{qj with bad_:=true },{qd with Dead:=0 },())
 else
 gd qk<|
 bif qd.Kind==4 then
 yAB (f1 qe 0 6) fun r20=>
 bif r20.2.1 !=0 then
 k0 (qu,qf,{qd with Dead:=r18.1,Was:=0 },())
 else
 gd qw<|
 k0 (qu,{qj with s_:=qe.extract 6 (qe.size)},{qd with Dead:=r18.1,Was:=r20.1 },())
 else
 k0 (qu,{qj with s_:=qj.s_.extract 6 qj.s_.size },{qd with Dead:=r18.1 },())
 else
 k0 (qu,qj,qd,())
abbrev yG3:LW1 yJx yJw:=⟨(lvC 2 yP7 (lvC 4 yDy (lvC 6 yP7 lvN))),.normal,(lvC 2 yP7 (lvC 4 yDy (lvC 6 yP7 lvN)))⟩
theorem yTP{α:Type}(f1):yG3.Ep (α:=α) [yEH.s f1] Tryz.f118 [1,1,1,1,0] .no (yCg f1):=fun _ _=>by kernel_rfl
theorem ySV{α:Type}(L:Nat):PO Tryz.f118 [1,1,1,1,0] (yG3.s (α:=α) (yCg (yCQ L))):=yG3.kp (yTP (yCQ L)) (tC (yQB L).ent tN) (lN _) (by kernel_rfl)
abbrev yBq:=fw1 118 (caC cdS caN) (cdT (caC yNr (caC cI caN)))
abbrev yNN(f1:yG0.T)(P0:LF1 yJt yJs (yAG×Int×Unit))(P1:LF1 yJv yJu (yAG×Int×Unit))(P2:LF1 yJx yJw (yAG×Int×Unit))(x0:ByteArray):Option (yAG×Int×Unit):=
 P0 (yAG.z,(⟨x0,false⟩:yAF),()) (fun q1=>
 P1 (q1.1,q1.2.1,q1.2.2.1,()) (fun q2=>
 P2 (q2.1,q2.2.1,q2.2.2.1,()) (fun q3=>
 bif q3.2.1.bad_ then
 some (yAG.z,100,())
 else
 bif !(q3.2.1.s_.toList==noS.toList) then
 some (yAG.z,100,())
 else
 yAB (f1 q3.2.2.1) fun r4=>
 bif !r4 then
 some (yAG.z,100,())
 else
 some (q3.2.2.1,0,()))))
theorem yW0(f1 P0 P1 P2):yBq.Eq [yG0.s f1] (.two .no (.two .no (.two (.pt (yG1.s P0)) (.two (.pt (yG2.s P1)) (.two (.pt (yG3.s P2)) .no))))) (yNN f1 P0 P1 P2):=fun _=>by kernel_rfl
def yBB(L:Nat):yBq.T:=yNN (yMQ L) (yGb (yCQ L)) (yGc (yCQ L)) (yCg (yCQ L))
theorem yHj(L:Nat):yBq.C (yBB L):=yBq.c (yW0 (yMQ L) (yGb (yCQ L)) (yGc (yCQ L)) (yCg (yCQ L))) (tC (yYf L).ent tN) Tryz.func118 (by kernel_rfl) (lS (lN _) (lS (lN _) (lS (lP (yST L)) (lS (lP (ySU L)) (lS (lP (ySV L)) (lN _))))))
set_option maxRecDepth 100000
set_option maxHeartbeats 16000000
abbrev yKZ:=fw1 340 (caC cdS caN) (cdT (caC (cdI .i8) (caC cdS (caC cI caN))))
abbrev ySA(f1:yEH.T)(f2:ySW.T)(x0:ByteArray):Option (Int×ByteArray×Int×Unit):=
 letI qd:=decide (0<(x0.size:Int))
 letI qc:=(((x0[0]?).getD 0).toNat:Int)
 yAB (f1 x0 1 2) fun r1=>
 letI qb:=3+r1.1
 letI qe:=decide (w64 qb<=(x0.size:Int))
 letI qa:=x0.extract 0 ((w64 qb).toNat)
 bif r1.2.1 !=0 then
 some (0,noS,30,())
 else
 bif(x0.size:Int) !=(w64 ((w64 qb)+4)) then
 some (0,noS,30,())
 else
 bif decide (505<r1.1) then
 some (0,noS,30,())
 else
 gd qd<|
 bif qc==0 then
 some (0,noS,30,())
 else
 gd qd<|
 bif decide (127<qc) then
 some (0,noS,30,())
 else
 yAB (f1 x0 (w64 qb) 4) fun r2=>
 gd (decide (0<=w64 qb))<|
 gd qe<|
 gF (yCm qa) (0+(qa.size))<|
 yAB (f2 ((yCm qa).take (qa.size))) fun r3=>
 bif r2.1 !=r3 then
 some (0,noS,30,())
 else
 gd qd<|
 gd (decide (0<=w64 qb))<|
 gd qe<|
 gd (decide (3<=((w64 qb).toNat:Int)))<|
 some (IntKind.i8.wrap qc,x0.extract 3 ((w64 qb).toNat),0,())
theorem xDD(f1 f2):yKZ.Eq [yEH.s f1,ySW.s f2] .no (ySA f1 f2):=fun _=>by kernel_rfl
def yQc(L:Nat):yKZ.T:=ySA (yCQ L) (yRf L)
theorem xDC(L:Nat):yKZ.C (yQc L):=yKZ.c (xDD (yCQ L) (yRf L)) (tC (yQB L).ent (tC (xAE L).ent tN)) Tryz.func340 (by kernel_rfl) (lN _)
abbrev yLP:=fw2 299 (caC (cdI .i8) (caC cdS caN)) (cdT (caC cdS (caC cI caN)))
abbrev yWd(f1:yKZ.T)(x0:Int)(x1:ByteArray):Option (ByteArray×Int×Unit):=
 yAB (f1 x1) fun r1=>
 bif r1.2.2.1 !=0 then
 some (noS,30,())
 else
 bif r1.1 !=x0 then
 some (noS,30,())
 else
 some (r1.2.1,0,())
theorem xHS(f1):yLP.Eq [yKZ.s f1] .no (yWd f1):=fun _=>by kernel_rfl
def yQb(L:Nat):yLP.T:=yWd (yQc L)
theorem xBZ(L:Nat):yLP.C (yQb L):=yLP.c (xHS (yQc L)) (tC (xDC L).ent tN) Tryz.func299 (by kernel_rfl) (lN _)
abbrev yF5:=fw1 258 (caC cdS caN) (cdT (caC yNr (caC cdS (caC cdB (caC cI caN)))))
abbrev yKm(f1:yLP.T)(f2:yBq.T)(x0:ByteArray):Option (yAG×ByteArray×Bool×Int×Unit):=
 bif x0.toList==noS.toList then
 some (yAG.z,noS,false,0,())
 else
 yAB (f1 5 x0) fun r1=>
 bif r1.2.1 !=0 then
 some (yAG.z,noS,false,50,())
 else
 yAB (f2 r1.1) fun r2=>
 bif r2.2.1 !=0 then
 some (yAG.z,noS,false,50,())
 else
 some (r2.1,r1.1,true,0,())
theorem yW2(f1 f2):yF5.Eq [yLP.s f1,yBq.s f2] .no (yKm f1 f2):=fun _=>by kernel_rfl
def yGd(L:Nat):yF5.T:=yKm (yQb L) (yBB L)
theorem yW1(L:Nat):yF5.C (yGd L):=yF5.c (yW2 (yQb L) (yBB L)) (tC (xBZ L).ent (tC (yHj L).ent tN)) Tryz.func258 (by kernel_rfl) (lN _)
abbrev yBE:=(List (List V))×(((Int×Unit)×Unit))×Int×Int×Unit
abbrev yBt:=Unit
abbrev yBu:=Int×Unit
abbrev yBQ{α:Type}(s:yBE)(kn:yBE->Option α)(k0:yBt->Option α)(k1:yBu->Option α):Option α:=
 letI qa:=s.2.2.2.1
 bif decide (qa<s.2.2.1) then
 gI s.1 yAN.ks qa<|
 bif(aI s.1 qa.toNat 0)==s.2.1.1.1 then
 k1 (qa,())
 else
 kn (s.1,((s.2.1.1.1,()),()),s.2.2.1,w64 (qa+1),())
 else
 k0 (())
abbrev yBF:LW2 yBE yBt yBu:=⟨(lvC 0 (mP cdR) (lvC 1 (mP (cdF 261 (caC (cdP (caC cI caN)) caN))) (lvC 7 (mP cI) (lvC 8 (mP cI) lvN)))),(.exit 0),lvN,.ret,(lvC 4 (mP cI) lvN)⟩
theorem yFO{α:Type}:yBF.Eq (α:=α) [] Tryz.f260 [1,0,1,0] .no (yBQ):=fun _ _ _=>by kernel_rfl
abbrev yAg:=fw2 260 (caC cdR (caC (cdF 261 (caC (cdP (caC cI caN)) caN)) caN)) cI
abbrev yB5(F0:LF2 yBE yBt yBu (Int))(x0:List (List V))(x1:(Int×Unit)×Unit):Option Int:=
 F0 (x0,((x1.1.1,()),()),(x0.length:Int),0,()) (fun q1=>
 some (-1)) (fun q2=>
 some q2.1)
theorem yGL(F0):yAg.Eq [] (.two .no (.two (.two .no (.one (.lp (yBF.s F0)))) .no)) (yB5 F0):=fun _=>by kernel_rfl
def yA3(L:Nat):yAg.T:=yB5 (yAe (yBQ) L)
theorem yFH{α:Type}(L:Nat):LO Tryz.f260 [1,0,1,0] (yBF.s (α:=α) (yAe (yBQ) L)):=yBF.k (yFO) tN (lN _) (by kernel_rfl) L
theorem yGK(L:Nat):yAg.C (yA3 L):=yAg.c (yGL (yAe (yBQ) L)) tN Tryz.func260 (by kernel_rfl) (lS (lN _) (lS (lS (lN _) (lB (lL (yFH L)))) (lN _)))
abbrev yIw:=fw2 198 (caC yKl (caC cI caN)) (cdT (caC cI (caC cdB caN)))
abbrev yQe(f1:yAg.T)(x0:yAM)(x1:Int):Option (Int×Bool×Unit):=
 bif decide (x1<1) then
 some (0,false,())
 else
 yAB (f1 x0.Slots ((x1,()),())) fun r1=>
 some (yDK true r1 0,decide (0<=r1),())
theorem xBf(f1):yIw.Eq [(260,spF 1 [(261,(yAg.s f1).2)])] .no (yQe f1):=fun _=>by kernel_rfl
def yQz(L:Nat):yIw.T:=yQe (yA3 L)
theorem xBe(L:Nat):yIw.C (yQz L):=yIw.c (xBf (yA3 L)) (tC (yNE (yGT (yGK L).ent yJd)) tN) Tryz.func198 (by kernel_rfl) (lN _)
abbrev yCb:=fw2 359 (caC (cdP yYX) (caC cI caN)) (cdT (caC cI (caC cdB caN)))
abbrev yKj(f1:yIw.T)(x0:yBT)(x1:Int):Option (Int×Bool×Unit):=
 yAB (f1 x0.Table x1) fun r1=>
 some (r1.1,r1.2.1,())
theorem yT0(f1):yCb.Eq [yIw.s f1] .no (yKj f1):=fun _=>by kernel_rfl
def yDk(L:Nat):yCb.T:=yKj (yQz L)
theorem yOM(L:Nat):yCb.C (yDk L):=yCb.c (yT0 (yQz L)) (tC (xBe L).ent tN) Tryz.func359 (by kernel_rfl) (lN _)
abbrev yCu:=fw1 360 (caC xJ3 caN) cdB
abbrev yLx(x0:yJl):Option Bool:=
 some (x0.Key==0)
theorem yRL:yCu.Eq [] .no (yLx):=fun _=>by kernel_rfl
def yEY(L:Nat):yCu.T:=yLx
theorem yRK(L:Nat):yCu.C (yEY L):=yCu.c (yRL) tN Tryz.func360 (by kernel_rfl) (lN _)
abbrev yBG:=(List (List V))×Unit×Int×Int×Unit
abbrev yBv:=Unit
abbrev yBw:=Int×Unit
abbrev yBR{α:Type}(f1:yCu.T)(s:yBG)(kn:yBG->Option α)(k0:yBv->Option α)(k1:yBw->Option α):Option α:=
 letI qa:=s.2.2.2.1
 bif decide (qa<s.2.2.1) then
 gI s.1 yAN.ks qa<|
 yAB (f1 (⟨aI s.1 qa.toNat 0,aI s.1 qa.toNat 1⟩:yJl)) fun r1=>
 bif r1 then
 k1 (qa,())
 else
 kn (s.1,(()),s.2.2.1,w64 (qa+1),())
 else
 k0 (())
abbrev yBH:LW2 yBG yBv yBw:=⟨(lvC 0 (mP cdR) (lvC 1 (mP (cdF 360 caN)) (lvC 7 (mP cI) (lvC 8 (mP cI) lvN)))),(.exit 0),lvN,.ret,(lvC 4 (mP cI) lvN)⟩
theorem yFP{α:Type}(f1):yBH.Eq (α:=α) [yCu.s f1] Tryz.f260 [1,0,1,0] .no (yBR f1):=fun _ _ _=>by kernel_rfl
abbrev yAh:=fw2 260 (caC cdR (caC (cdF 360 caN) caN)) cI
abbrev yB6(F0:LF2 yBG yBv yBw (Int))(x0:List (List V))(x1:Unit):Option Int:=
 F0 (x0,(()),(x0.length:Int),0,()) (fun q1=>
 some (-1)) (fun q2=>
 some q2.1)
theorem yGN(F0):yAh.Eq [] (.two .no (.two (.two .no (.one (.lp (yBH.s F0)))) .no)) (yB6 F0):=fun _=>by kernel_rfl
def yA4(L:Nat):yAh.T:=yB6 (yAe (yBR (yEY L)) L)
theorem yFI{α:Type}(L:Nat):LO Tryz.f260 [1,0,1,0] (yBH.s (α:=α) (yAe (yBR (yEY L)) L)):=yBH.k (yFP (yEY L)) (tC (yRK L).ent tN) (lN _) (by kernel_rfl) L
theorem yGM(L:Nat):yAh.C (yA4 L):=yAh.c (yGN (yAe (yBR (yEY L)) L)) tN Tryz.func260 (by kernel_rfl) (lS (lN _) (lS (lS (lN _) (lB (lL (yFI L)))) (lN _)))
set_option maxRecDepth 100000
set_option maxHeartbeats 16000000
abbrev yDb:=fw2 392 (caC yNJ (caC cI caN)) cdB
abbrev yKg(x0:yAk)(x1:Int):Option Bool:=
 bif decide (x0.Span.Lo<=x1) then
 some (decide (x1<=x0.Span.Hi))
 else
 some false
theorem yTv:yDb.Eq [] .no (yKg):=fun _=>by kernel_rfl
def yJe(L:Nat):yDb.T:=yKg
theorem yTu(L:Nat):yDb.C (yJe L):=yDb.c (yTv) tN Tryz.func392 (by kernel_rfl) (lN _)
abbrev yCG:=fw2 388 (caC yNJ (caC yNJ caN)) cdB
abbrev yIQ(f1:yDb.T)(x0:yAk)(x1:yAk):Option Bool:=
 bif !(decide (x0.Span.Hi<x0.Span.Lo)) then
 bif !(decide (x1.Span.Hi<x1.Span.Lo)) then
 yAB (f1 x0 x1.Span.Lo) fun r1=>
 bif r1 then
 some true
 else
 yAB (f1 x1 x0.Span.Lo) fun r2=>
 some r2
 else
 some false
 else
 some false
theorem ySI(f1):yCG.Eq [yDb.s f1] .no (yIQ f1):=fun _=>by kernel_rfl
def yC4(L:Nat):yCG.T:=yIQ (yJe L)
theorem yMw(L:Nat):yCG.C (yC4 L):=yCG.c (ySI (yJe L)) (tC (yTu L).ent tN) Tryz.func388 (by kernel_rfl) (lN _)
abbrev yD4:=fw2 394 (caC yT1 (caC yT1 caN)) cdB
abbrev yLp(f1:yCG.T)(x0:yBk)(x1:yBk):Option Bool:=
 bif x0.key_==x1.key_ then
 some true
 else
 yAB (f1 x0.blocks_ x1.blocks_) fun r1=>
 bif !r1 then
 some true
 else
 bif x0.mode_==1 then
 some (x1.mode_==1)
 else
 some false
theorem yUs(f1):yD4.Eq [yCG.s f1] .no (yLp f1):=fun _=>by kernel_rfl
def yLH(L:Nat):yD4.T:=yLp (yC4 L)
theorem yUr(L:Nat):yD4.C (yLH L):=yD4.c (yUs (yC4 L)) (tC (yMw L).ent tN) Tryz.func394 (by kernel_rfl) (lN _)
abbrev yFK:=fw2 390 (caC yYY (caC yYY caN)) cdB
abbrev yMv(f1:yD4.T)(x0:yAR)(x1:yAR):Option Bool:=
 yAB (f1 (⟨(⟨x0.Span⟩:yAk),x0.Key,x0.Mode⟩:yBk) (⟨(⟨x1.Span⟩:yAk),x1.Key,x1.Mode⟩:yBk)) fun r1=>
 some r1
theorem yWf(f1):yFK.Eq [yD4.s f1] .no (yMv f1):=fun _=>by kernel_rfl
def yFo(L:Nat):yFK.T:=yMv (yLH L)
theorem yWe(L:Nat):yFK.C (yFo L):=yFK.c (yWf (yLH L)) (tC (yUr L).ent tN) Tryz.func390 (by kernel_rfl) (lN _)
abbrev yA0:=(List (List V))×((((yAR×Unit)×Unit)×Unit))×Int×Int×Unit
abbrev yBf:=Unit
abbrev yBg:=Int×Unit
abbrev yA9{α:Type}(f1:yFK.T)(s:yA0)(kn:yA0->Option α)(k0:yBf->Option α)(k1:yBg->Option α):Option α:=
 letI qa:=s.2.2.2.1
 bif decide (qa<s.2.2.1) then
 gI s.1 yAR.ks qa<|
 yAB (f1 s.2.1.1.1.1 (⟨aI s.1 qa.toNat 0,(⟨aI s.1 qa.toNat 1,aI s.1 qa.toNat 2⟩:yAN),aI s.1 qa.toNat 3⟩:yAR)) fun r1=>
 bif !r1 then
 k1 (qa,())
 else
 kn (s.1,(((s.2.1.1.1.1,()),()),()),s.2.2.1,w64 (qa+1),())
 else
 k0 (())
abbrev yA1:LW2 yA0 yBf yBg:=⟨(lvC 0 (mP cdR) (lvC 1 (mP (cdF 387 (caC (cdP (caC (cdF 389 (caC (cdP yVO) caN)) caN)) caN))) (lvC 7 (mP cI) (lvC 8 (mP cI) lvN)))),(.exit 0),lvN,.ret,(lvC 4 (mP cI) lvN)⟩
theorem yET{α:Type}(f1):yA1.Eq (α:=α) [yFK.s f1] Tryz.f366 [1,0,1,0] .no (yA9 f1):=fun _ _ _=>by kernel_rfl
abbrev yAZ:=fw2 366 (caC cdR (caC (cdF 387 (caC (cdP (caC (cdF 389 (caC (cdP yVO) caN)) caN)) caN)) caN)) cI
abbrev yBp(F0:LF2 yA0 yBf yBg (Int))(x0:List (List V))(x1:((yAR×Unit)×Unit)×Unit):Option Int:=
 F0 (x0,(((x1.1.1.1,()),()),()),(x0.length:Int),0,()) (fun q1=>
 some (-1)) (fun q2=>
 some q2.1)
theorem yFG(F0):yAZ.Eq [] (.two .no (.two (.two .no (.one (.lp (yA1.s F0)))) .no)) (yBp F0):=fun _=>by kernel_rfl
def yAp(L:Nat):yAZ.T:=yBp (yAe (yA9 (yFo L)) L)
theorem yDv{α:Type}(L:Nat):LO Tryz.f366 [1,0,1,0] (yA1.s (α:=α) (yAe (yA9 (yFo L)) L)):=yA1.k (yET (yFo L)) (tC (yWe L).ent tN) (lN _) (by kernel_rfl) L
theorem yFF(L:Nat):yAZ.C (yAp L):=yAZ.c (yFG (yAe (yA9 (yFo L)) L)) tN Tryz.func366 (by kernel_rfl) (lS (lN _) (lS (lS (lN _) (lB (lL (yDv L)))) (lN _)))
abbrev yAT:=fw2 386 (caC cdR (caC (cdF 387 (caC (cdP (caC (cdF 389 (caC (cdP yVO) caN)) caN)) caN)) caN)) cdB
abbrev yBa(f1:yAZ.T)(x0:List (List V))(x1:((yAR×Unit)×Unit)×Unit):Option Bool:=
 yAB (f1 x0 (((x1.1.1.1,()),()),())) fun r1=>
 some (decide (0<=r1))
theorem yEQ(f1):yAT.Eq [(366,spF 1 [(387,(yAZ.s f1).2)])] .no (yBa f1):=fun _=>by kernel_rfl
def yA6(L:Nat):yAT.T:=yBa (yAp L)
theorem yEP(L:Nat):yAT.C (yA6 L):=yAT.c (yEQ (yAp L)) (tC (yNE (yGT (yFF L).ent yJd)) tN) Tryz.func386 (by kernel_rfl) (lN _)
abbrev yDd:=fw2 375 (caC (cdF 389 (caC (cdP yVO) caN)) (caC cdR caN)) cdB
abbrev yKi(f1:yAT.T)(x0:yAR×Unit)(x1:List (List V)):Option Bool:=
 yAB (f1 x1 (((x0.1,()),()),())) fun r1=>
 some !r1
theorem yTz(f1):yDd.Eq [(386,spF 1 [(387,(yAT.s f1).2)])] .no (yKi f1):=fun _=>by kernel_rfl
def yJg(L:Nat):yDd.T:=yKi (yA6 L)
theorem yTy(L:Nat):yDd.C (yJg L):=yDd.c (yTz (yA6 L)) (tC (yNE (yGT (yEP L).ent yJd)) tN) Tryz.func375 (by kernel_rfl) (lN _)
abbrev yKe:=fw2 378 (caC yYY (caC cdR caN)) cdB
abbrev ySG(f1:yDd.T)(x0:yAR)(x1:List (List V)):Option Bool:=
 yAB (f1 (x0,()) x1) fun r1=>
 some r1
theorem xDJ(f1):yKe.Eq [(375,spF 0 [(389,(yDd.s f1).2)])] .no (ySG f1):=fun _=>by kernel_rfl
def yLQ(L:Nat):yKe.T:=ySG (yJg L)
theorem xDI(L:Nat):yKe.C (yLQ L):=yKe.c (xDJ (yJg L)) (tC (yNE (yGT (yTy L).ent yJd)) tN) Tryz.func378 (by kernel_rfl) (lN _)
end Go.Proofs.YtakljpcmbpaeaaaGreat
