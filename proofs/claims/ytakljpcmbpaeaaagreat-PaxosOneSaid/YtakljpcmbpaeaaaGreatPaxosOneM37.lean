/- Typed functions. (printed by wip/sx) -/
import Derived.Test.YtakljpcmbpaeaaaGreatPaxosOneM36
set_option linter.unusedSimpArgs false
set_option linter.unusedVariables false
namespace Go.Proofs.YtakljpcmbpaeaaaGreat
open Go.RowKit
set_option maxRecDepth 100000
set_option maxHeartbeats 16000000
abbrev yOE:=Int×yAA×yA5×yAA×Unit
abbrev yOD:=Int×yAA×yA5×yAA×Bool×Unit
abbrev yJw{α:Type}(f1:yCf.T)(s:yOE)(k0:yOD→Option α):Option α:=
 letI qb:=s.2.2.2.1
 letI qa:=s.2.2.1
 bindO (f1 s.2.1) fun r1=>
 bif r1 !=0 then
 k0 (s.1,s.2.1,qa,qb,true,())
 else
 bif decide (s.1<0) then
 k0 (s.1,s.2.1,qa,qb,true,())
 else
 bif decide ((s.2.1.Keys.length:Int)≤s.1) then
 k0 (s.1,s.2.1,qa,qb,true,())
 else
 bif decide (qa.Kind<1) then
 k0 (s.1,s.2.1,qa,qb,true,())
 else
 k0 (s.1,s.2.1,qa,qb,decide (6<qa.Kind),())
abbrev yLt:LW1 yOE yOD:=⟨(lvC 1 (mP cI) (lvC 3 yAF (lvC 5 yII (lvC 6 yAF lvN)))),.normal,(lvC 1 (mP cI) (lvC 3 yAF (lvC 5 yII (lvC 6 yAF (lvC 38 (mP cdB) lvN)))))⟩
theorem yVO{α:Type}(f1):yLt.Ep (α:=α) [yCf.s f1] Tryz.f18 [1,0,0] .no (yJw f1):=fun _ _=>by kernel_rfl
theorem yUT{α:Type}(L:Nat):PO Tryz.f18 [1,0,0] (yLt.s (α:=α) (yJw (yCF L))):=yLt.kp (yVO (yCF L)) (tC (yOB L).ent tN) (lN _) (by kernel_rfl)
abbrev yOH:=Int×yAA×yA5×yAA×Bool×Unit
abbrev yOF:=Int×yAA×yA5×yAA×Unit
abbrev yOG:=yAA×ByteArray×Int×Unit
abbrev yHy{α:Type}(s:yOH)(k0:yOF→Option α)(k1:yOG→Option α):Option α:=
 bif s.2.2.2.2.1 then
 k1 (s.2.1,noS,2,())
 else
 k0 (s.1,s.2.1,s.2.2.1,s.2.2.2.1,())
abbrev yLu:LW2 yOH yOF yOG:=⟨(lvC 1 (mP cI) (lvC 3 yAF (lvC 5 yII (lvC 6 yAF (lvC 38 (mP cdB) lvN))))),.normal,(lvC 1 (mP cI) (lvC 3 yAF (lvC 5 yII (lvC 6 yAF lvN)))),.ret,(lvC 6 yAF (lvC 7 (mP cdS) (lvC 8 (mP cI) lvN)))⟩
theorem yVP{α:Type}:yLu.Ep (α:=α) [] Tryz.f18 [1,0,1] .no (yHy):=fun _ _=>by kernel_rfl
theorem yUU{α:Type}(L:Nat):PO Tryz.f18 [1,0,1] (yLu.s (α:=α) (yHy)):=yLu.kp (yVP) tN (lN _) (by kernel_rfl)
abbrev yOJ:=Int×yAA×yA5×yAA×Unit
abbrev yOI:=Int×yAA×yA5×yAA×Bool×Unit
abbrev yHz{α:Type}(s:yOJ)(k0:yOI→Option α):Option α:=
 bif s.2.2.1.Kind==2 then
 k0 (s.1,s.2.1,s.2.2.1,s.2.2.2.1,true,())
 else
 k0 (s.1,s.2.1,s.2.2.1,s.2.2.2.1,s.2.2.1.Kind==3,())
abbrev yLv:LW1 yOJ yOI:=⟨(lvC 1 (mP cI) (lvC 3 yAF (lvC 5 yII (lvC 6 yAF lvN)))),.normal,(lvC 1 (mP cI) (lvC 3 yAF (lvC 5 yII (lvC 6 yAF (lvC 9 (mP cdB) lvN)))))⟩
theorem yVQ{α:Type}:yLv.Ep (α:=α) [] Tryz.f18 [1,1,0] .no (yHz):=fun _ _=>by kernel_rfl
theorem yUV{α:Type}(L:Nat):PO Tryz.f18 [1,1,0] (yLv.s (α:=α) (yHz)):=yLv.kp (yVQ) tN (lN _) (by kernel_rfl)
abbrev yOL:=Int×yAA×yA5×yAA×Bool×Unit
abbrev yOK:=Int×yAA×yA5×yAA×Bool×Bool×Unit
abbrev yFL{α:Type}(f1:yCg.T)(s:yOL)(k0:yOK→Option α):Option α:=
 letI qe:=s.2.1
 letI qd:=s.2.2.2.1
 letI qc:=68719476736≤qe.Next
 letI qb:=s.2.2.1
 letI qa:=s.2.2.2.2.1
 bif qa then
 bif decide (512<(qb.B.size:Int)) then
 k0 (s.1,qe,qb,qd,qa,true,())
 else
 bif qb.Kind==5 then
 bindO (f1 qe qb.Key) fun r1=>
 bif !r1 then
 k0 (s.1,qe,qb,qd,qa,true,())
 else
 bif qb.Kind==6 then
 k0 (s.1,qe,qb,qd,qa,decide qc,())
 else
 k0 (s.1,qe,qb,qd,qa,false,())
 else
 bif qb.Kind==6 then
 k0 (s.1,qe,qb,qd,qa,decide qc,())
 else
 k0 (s.1,qe,qb,qd,qa,false,())
 else
 bif qb.Kind==5 then
 bindO (f1 qe qb.Key) fun r2=>
 bif !r2 then
 k0 (s.1,qe,qb,qd,qa,true,())
 else
 bif qb.Kind==6 then
 k0 (s.1,qe,qb,qd,qa,decide qc,())
 else
 k0 (s.1,qe,qb,qd,qa,false,())
 else
 bif qb.Kind==6 then
 k0 (s.1,qe,qb,qd,qa,decide qc,())
 else
 k0 (s.1,qe,qb,qd,qa,false,())
abbrev yLw:LW1 yOL yOK:=⟨(lvC 1 (mP cI) (lvC 3 yAF (lvC 5 yII (lvC 6 yAF (lvC 9 (mP cdB) lvN))))),.normal,(lvC 1 (mP cI) (lvC 3 yAF (lvC 5 yII (lvC 6 yAF (lvC 9 (mP cdB) (lvC 76 (mP cdB) lvN))))))⟩
theorem yVR{α:Type}(f1):yLw.Ep (α:=α) [yCg.s f1] Tryz.f18 [1,1,1,0,0] .no (yFL f1):=fun _ _=>by kernel_rfl
theorem yUW{α:Type}(L:Nat):PO Tryz.f18 [1,1,1,0,0] (yLw.s (α:=α) (yFL (yBU L))):=yLw.kp (yVR (yBU L)) (tC (yOc L).ent tN) (lN _) (by kernel_rfl)
abbrev yOO:=Int×yAA×yA5×yAA×Bool×Bool×Unit
abbrev yOM:=Int×yAA×yA5×yAA×Bool×Unit
abbrev yON:=yAA×ByteArray×Int×Unit
abbrev yH0{α:Type}(s:yOO)(k0:yOM→Option α)(k1:yON→Option α):Option α:=
 bif s.2.2.2.2.2.1 then
 k1 (s.2.1,noS,2,())
 else
 k0 (s.1,s.2.1,s.2.2.1,s.2.2.2.1,s.2.2.2.2.1,())
abbrev yLx:LW2 yOO yOM yON:=⟨(lvC 1 (mP cI) (lvC 3 yAF (lvC 5 yII (lvC 6 yAF (lvC 9 (mP cdB) (lvC 76 (mP cdB) lvN)))))),.normal,(lvC 1 (mP cI) (lvC 3 yAF (lvC 5 yII (lvC 6 yAF (lvC 9 (mP cdB) lvN))))),.ret,(lvC 6 yAF (lvC 7 (mP cdS) (lvC 8 (mP cI) lvN)))⟩
theorem yVS{α:Type}:yLx.Ep (α:=α) [] Tryz.f18 [1,1,1,0,1] .no (yH0):=fun _ _=>by kernel_rfl
theorem yUX{α:Type}(L:Nat):PO Tryz.f18 [1,1,1,0,1] (yLx.s (α:=α) (yH0)):=yLx.kp (yVS) tN (lN _) (by kernel_rfl)
abbrev yOR:=Int×yAA×yA5×yAA×Bool×Unit
abbrev yOP:=Int×yAA×yA5×yAA×Bool×Unit
abbrev yOQ:=yAA×ByteArray×Int×Unit
abbrev yH1{α:Type}(f1:yFh.T)(s:yOR)(k0:yOP→Option α)(k1:yOQ→Option α):Option α:=
 bif s.2.2.1.Kind !=6 then
 gI s.2.1.Keys kI s.1<|
 bindO (f1 s.2.1 ([[V.int .i64 (aI s.2.1.Keys s.1.toNat 0)]])) fun r1=>
 bif r1 then
 k1 (s.2.1,noS,61,())
 else
 k0 (s.1,s.2.1,s.2.2.1,s.2.2.2.1,s.2.2.2.2.1,())
 else
 k0 (s.1,s.2.1,s.2.2.1,s.2.2.2.1,s.2.2.2.2.1,())
abbrev yLy:LW2 yOR yOP yOQ:=⟨(lvC 1 (mP cI) (lvC 3 yAF (lvC 5 yII (lvC 6 yAF (lvC 9 (mP cdB) lvN))))),.normal,(lvC 1 (mP cI) (lvC 3 yAF (lvC 5 yII (lvC 6 yAF (lvC 9 (mP cdB) lvN))))),.ret,(lvC 6 yAF (lvC 7 (mP cdS) (lvC 8 (mP cI) lvN)))⟩
theorem yVT{α:Type}(f1):yLy.Ep (α:=α) [yFh.s f1] Tryz.f18 [1,1,1,1,0] .no (yH1 f1):=fun _ _=>by kernel_rfl
theorem yUY{α:Type}(L:Nat):PO Tryz.f18 [1,1,1,1,0] (yLy.s (α:=α) (yH1 (yGO L))):=yLy.kp (yVT (yGO L)) (tC (yUd L).ent tN) (lN _) (by kernel_rfl)
abbrev yOT:=Int×yAA×yA5×yAA×Bool×Unit
abbrev yOS:=Int×yAA×yA5×yAA×Bool×Unit
abbrev yFM{α:Type}(s:yOT)(k0:yOS→Option α):Option α:=
 letI qc:=s.2.2.2.1
 letI qa:=s.2.2.1
 letI qb:=(s.2.1.S.length:Int)≤qa.Sector
 bif s.2.2.2.2.1 then
 bif decide (qa.Sector<0) then
 k0 (s.1,s.2.1,qa,qc,true,())
 else
 k0 (s.1,s.2.1,qa,qc,decide qb,())
 else
 bif qa.Kind==1 then
 bif decide (qa.Sector<0) then
 k0 (s.1,s.2.1,qa,qc,true,())
 else
 k0 (s.1,s.2.1,qa,qc,decide qb,())
 else
 k0 (s.1,s.2.1,qa,qc,false,())
abbrev yLz:LW1 yOT yOS:=⟨(lvC 1 (mP cI) (lvC 3 yAF (lvC 5 yII (lvC 6 yAF (lvC 9 (mP cdB) lvN))))),.normal,(lvC 1 (mP cI) (lvC 3 yAF (lvC 5 yII (lvC 6 yAF (lvC 110 (mP cdB) lvN)))))⟩
theorem yVU{α:Type}:yLz.Ep (α:=α) [] Tryz.f18 [1,1,1,1,1,0,0] .no (yFM):=fun _ _=>by kernel_rfl
theorem yUZ{α:Type}(L:Nat):PO Tryz.f18 [1,1,1,1,1,0,0] (yLz.s (α:=α) (yFM)):=yLz.kp (yVU) tN (lN _) (by kernel_rfl)
abbrev yOW:=Int×yAA×yA5×yAA×Bool×Unit
abbrev yOU:=Int×yAA×yA5×yAA×Unit
abbrev yOV:=yAA×ByteArray×Int×Unit
abbrev yH2{α:Type}(s:yOW)(k0:yOU→Option α)(k1:yOV→Option α):Option α:=
 bif s.2.2.2.2.1 then
 k1 (s.2.1,noS,60,())
 else
 k0 (s.1,s.2.1,s.2.2.1,s.2.2.2.1,())
abbrev yL0:LW2 yOW yOU yOV:=⟨(lvC 1 (mP cI) (lvC 3 yAF (lvC 5 yII (lvC 6 yAF (lvC 110 (mP cdB) lvN))))),.normal,(lvC 1 (mP cI) (lvC 3 yAF (lvC 5 yII (lvC 6 yAF lvN)))),.ret,(lvC 6 yAF (lvC 7 (mP cdS) (lvC 8 (mP cI) lvN)))⟩
theorem yVV{α:Type}:yL0.Ep (α:=α) [] Tryz.f18 [1,1,1,1,1,0,1] .no (yH2):=fun _ _=>by kernel_rfl
theorem yUa{α:Type}(L:Nat):PO Tryz.f18 [1,1,1,1,1,0,1] (yL0.s (α:=α) (yH2)):=yL0.kp (yVV) tN (lN _) (by kernel_rfl)
abbrev yOY:=Int×yAA×yA5×yAA×Unit
abbrev yOX:=Int×yA5×yAA×((List (List V))×(List (List V))×(List (List V))×Int×(List (List V))×Unit)×Unit
abbrev yJx{α:Type}(f1:yFj.T)(s:yOY)(k0:yOX→Option α):Option α:=
 bindO (f1 s.2.1) fun r1=>
 gW r1.1 r1.1.length<|
 gW r1.2.1 r1.2.1.length<|
 gW r1.2.2.1 r1.2.2.1.length<|
 gF r1.2.2.2.2.1 (0+r1.2.2.2.2.1.length)<|
 k0 (s.1,s.2.2.1,s.2.2.2.1,(r1.1,r1.2.1,r1.2.2.1,r1.2.2.2.1,r1.2.2.2.2.1.take r1.2.2.2.2.1.length,()),())
abbrev yL1:LW1 yOY yOX:=⟨(lvC 1 (mP cI) (lvC 3 yAF (lvC 5 yII (lvC 6 yAF lvN)))),.normal,(lvC 1 (mP cI) (lvC 5 yII (lvC 6 yAF (lvC 10 (mO (zW 1 (zW 1 (zW 1 (zP cI (zP cdR zN))))) 5) lvN))))⟩
theorem yVW{α:Type}(f1):yL1.Ep (α:=α) [yFj.s f1] Tryz.f18 [1,1,1,1,1,1,0] .no (yJx f1):=fun _ _=>by kernel_rfl
theorem yUb{α:Type}(L:Nat):PO Tryz.f18 [1,1,1,1,1,1,0] (yL1.s (α:=α) (yJx (yE6 L))):=yL1.kp (yVW (yE6 L)) (tC (yUh L).ent tN) (lN _) (by kernel_rfl)
abbrev yOa:=Int×yA5×yAA×((List (List V))×(List (List V))×(List (List V))×Int×(List (List V))×Unit)×(List (List V))×Unit
abbrev yOZ:=Int×yA5×yAA×((List (List V))×(List (List V))×(List (List V))×Int×(List (List V))×Unit)×(List (List V))×Int×Unit
abbrev yJy{α:Type}(f1:yGx.T)(s:yOa)(k0:yOZ→Option α):Option α:=
 bindO (f1 s.2.2.2.2.1 s.2.1.Sector) fun r1=>
 gW s.2.2.2.1.1 s.2.2.2.1.1.length<|
 gW s.2.2.2.1.2.1 s.2.2.2.1.2.1.length<|
 gW s.2.2.2.1.2.2.1 s.2.2.2.1.2.2.1.length<|
 k0 (s.1,s.2.1,s.2.2.1,(s.2.2.2.1.1,s.2.2.2.1.2.1,s.2.2.2.1.2.2.1,s.2.2.2.1.2.2.2.1,s.2.2.2.1.2.2.2.2.1,()),s.2.2.2.2.1,r1,())
abbrev yL2:LW1 yOa yOZ:=⟨(lvC 1 (mP cI) (lvC 5 yII (lvC 6 yAF (lvC 10 (mO (zW 1 (zW 1 (zW 1 (zP cI (zP cdR zN))))) 5) (lvC 11 (mP cdR) lvN))))),.normal,(lvC 1 (mP cI) (lvC 5 yII (lvC 6 yAF (lvC 10 (mO (zW 1 (zW 1 (zW 1 (zP cI (zP cdR zN))))) 5) (lvC 11 (mP cdR) (lvC 12 (mP cI) lvN))))))⟩
theorem yVX{α:Type}(f1):yL2.Ep (α:=α) [yGx.s f1] Tryz.f18 [1,1,1,1,1,1,1,1,0] .no (yJy f1):=fun _ _=>by kernel_rfl
theorem yUc{α:Type}(L:Nat):PO Tryz.f18 [1,1,1,1,1,1,1,1,0] (yL2.s (α:=α) (yJy (yH4 L))):=yL2.kp (yVX (yH4 L)) (tC (yVb L).ent tN) (lN _) (by kernel_rfl)
abbrev yIT:=fw3 18 (caC yBx (caC cI (caC yNZ caN))) (cdT (caC yBx (caC cdS (caC cI caN))))
abbrev yNh(f1:yEe.T)(f2:yGw.T)(f3:yCt.T)(P0:LF1 yOE yOD (yAA×ByteArray×Int×Unit))(P1:LF2 yOH yOF yOG (yAA×ByteArray×Int×Unit))(P2:LF1 yOJ yOI (yAA×ByteArray×Int×Unit))(P3:LF1 yOL yOK (yAA×ByteArray×Int×Unit))(P4:LF2 yOO yOM yON (yAA×ByteArray×Int×Unit))(P5:LF2 yOR yOP yOQ (yAA×ByteArray×Int×Unit))(P6:LF1 yOT yOS (yAA×ByteArray×Int×Unit))(P7:LF2 yOW yOU yOV (yAA×ByteArray×Int×Unit))(P8:LF1 yOY yOX (yAA×ByteArray×Int×Unit))(P9:LF1 yOa yOZ (yAA×ByteArray×Int×Unit))(x0:yAA)(x1:Int)(x2:yA5):Option (yAA×ByteArray×Int×Unit):=
 P0 (x1,x0,x2,yAA.z,()) (fun q1=>
 P1 (q1.1,q1.2.1,q1.2.2.1,q1.2.2.2.1,q1.2.2.2.2.1,()) (fun q2=>
 P2 (q2.1,q2.2.1,q2.2.2.1,q2.2.2.2.1,()) (fun q3=>
 P3 (q3.1,q3.2.1,q3.2.2.1,q3.2.2.2.1,q3.2.2.2.2.1,()) (fun q4=>
 P4 (q4.1,q4.2.1,q4.2.2.1,q4.2.2.2.1,q4.2.2.2.2.1,q4.2.2.2.2.2.1,()) (fun q5=>
 P5 (q5.1,q5.2.1,q5.2.2.1,q5.2.2.2.1,q5.2.2.2.2.1,()) (fun q6=>
 P6 (q6.1,q6.2.1,q6.2.2.1,q6.2.2.2.1,q6.2.2.2.2.1,()) (fun q7=>
 P7 (q7.1,q7.2.1,q7.2.2.1,q7.2.2.2.1,q7.2.2.2.2.1,()) (fun q8=>
 P8 (q8.1,q8.2.1,q8.2.2.1,q8.2.2.2.1,()) (fun q9=>
 letI qB:=q9.2.2.2.1.2.2.1
 letI qt:=q9.2.2.2.1.2.1
 gB q9.1 qt.length<|
 gL qt kL (0+q9.1.toNat) 0<|
 gW q9.2.2.2.1.1 q9.2.2.2.1.1.length<|
 gW qt qt.length<|
 gW qB qB.length<|
 P9 (q9.1,q9.2.1,q9.2.2.1,(q9.2.2.2.1.1,qt,qB,q9.2.2.2.1.2.2.2.1,q9.2.2.2.1.2.2.2.2.1,()),aR qt (0+q9.1.toNat) 0,()) (fun q10=>
 letI qx:=q10.2.1
 letI qr:=q10.2.2.2.2.2.1
 letI qp:=q10.2.2.2.1.2.2.2.2.1
 letI qo:=q10.2.2.2.1.2.2.2.1
 letI qk:=0+qx.Sector.toNat
 letI qh:=q10.2.2.2.2.1
 letI qy:=0<(qh.length:Int)
 letI qq:=0+(aI qh 0 0).toNat
 letI qd:=0+q10.1.toNat
 letI qA:=Nat.ble 0 qd
 letI qc:=q10.2.2.2.1.1
 letI ql:=0+qc.length
 letI qj:=qc.set qq ((qc.getD qq []).take 0++([V.str (aS qh 0 1)]++(qc.getD qq []).drop 1))
 letI qe:=qc.set qk ((qc.getD qk []).take 0++([V.str qx.B]++(qc.getD qk []).drop 1))
 letI qb:=q10.2.2.2.1.2.1
 letI qs:=decide (0+q10.1.toNat<qb.length)
 letI qm:=0+qb.length
 letI qi:=qb.getD qd []
 letI qz:=Nat.ble 1 qi.length
 letI qw:=qb.set qd (qi.take 0++([V.sl ([]) true]++qi.drop 1))
 letI qa:=q10.2.2.2.1.2.2.1
 letI qn:=0+qa.length
 letI qg:=(⟨qc.take qc.length,qb.take qb.length,qa.take qa.length,qo,qp⟩:yAA)
 letI qf:=qa.set qd ((qa.getD qd []).take 0++([V.int .i64 (w64 ((w64 (16*qo))+q10.1))]++(qa.getD qd []).drop 1))
 bif qx.Kind==1 then
 bif decide (0≤qr) then
 gI qh yES.ks qr<|
 gF qc ql<|
 gF qb qm<|
 gF qa qn<|
 some (qg,aS qh qr.toNat 1,0,())
 else
 gB qx.Sector qc.length<|
 gL qc kS qk 0<|
 gF qc ql<|
 gF qb qm<|
 gF qa qn<|
 some (qg,aS qc qk 0,0,())
 else
 bif qx.Kind==2 then
 gB qx.Sector qc.length<|
 gd (decide (0+qx.Sector.toNat<qc.length))<|
 gd (Nat.ble 0 qk)<|
 gd (Nat.ble 1 (qc.getD qk []).length)<|
 bif decide (0≤qr) then
 bindO (f1 qh qr) fun r11=>
 letI qu:=qb.set qd (qi.take 0++([V.sl r11 false]++qi.drop 1))
 gB q10.1 qb.length<|
 gd qs<|
 gd qA<|
 gd qz<|
 gF qe ql<|
 gF qu qm<|
 gF qa qn<|
 some ((⟨qe.take qc.length,qu.take qb.length,qa.take qa.length,qo,qp⟩:yAA),noS,0,())
 else
 gF qe ql<|
 gF qb qm<|
 gF qa qn<|
 some ((⟨qe.take qc.length,qb.take qb.length,qa.take qa.length,qo,qp⟩:yAA),noS,0,())
 else
 bif qx.Kind==3 then
 gd (decide (0≤qr))<|
 gI qh yES.ks qr<|
 none
 else
 bif qx.Kind==4 then
 bif decide qy then
 gd (decide qy)<|
 gd (rowIs yES.ks qh 0)<|
 gd (decide qy)<|
 gd (rowIs yES.ks qh 0)<|
 gB (aI qh 0 0) qc.length<|
 gd (decide (0+(aI qh 0 0).toNat<qc.length))<|
 gd (Nat.ble 0 qq)<|
 gd (Nat.ble 1 (qc.getD qq []).length)<|
 bindO (f1 qh 0) fun r12=>
 letI qv:=qb.set qd (qi.take 0++([V.sl r12 false]++qi.drop 1))
 gB q10.1 qb.length<|
 gd qs<|
 gd qA<|
 gd qz<|
 gF qj ql<|
 gF qv qm<|
 gF qa qn<|
 some ((⟨qj.take qc.length,qv.take qb.length,qa.take qa.length,qo,qp⟩:yAA),noS,0,())
 else
 gF qc ql<|
 gF qb qm<|
 gF qa qn<|
 some (qg,noS,0,())
 else
 bif qx.Kind==5 then
 bindO (f2 qp qx.Key) fun r13=>
 gF qc ql<|
 gF qb qm<|
 gF qa qn<|
 some ((⟨qc.take qc.length,qb.take qb.length,qa.take qa.length,qo,r13⟩:yAA),noS,0,())
 else
 bif qx.Kind==6 then
 gB q10.1 qa.length<|
 gd (decide (0+q10.1.toNat<qa.length))<|
 gd qA<|
 gd (Nat.ble 1 (qa.getD qd []).length)<|
 gB q10.1 qb.length<|
 gd qs<|
 gd qA<|
 gd qz<|
 gB q10.1 qa.length<|
 gL qf kI qd 0<|
 bindO (f3 ([]) 6 ([[V.int .i64 (aI qf qd 0)]])) fun r14=>
 gd (Nat.ble (0+r14.1.length) r14.1.length)<|
 gd ((bytesOf (r14.1.take r14.1.length)).isSome)<|
 gF qc ql<|
 gF qw qm<|
 gF qf qn<|
 some ((⟨qc.take qc.length,qw.take qb.length,qf.take qa.length,w64 (qo+1),qp⟩:yAA),bytesS (r14.1.take r14.1.length),0,())
 else
 gF qc ql<|
 gF qb qm<|
 gF qa qn<|
 some (qg,noS,0,())))) (fun q15=>
 some (q15.1,q15.2.1,q15.2.2.1,())))) (fun q16=>
 some (q16.1,q16.2.1,q16.2.2.1,()))) (fun q17=>
 some (q17.1,q17.2.1,q17.2.2.1,()))))) (fun q18=>
 some (q18.1,q18.2.1,q18.2.2.1,())))
theorem yXb(f1 f2 f3 P0 P1 P2 P3 P4 P5 P6 P7 P8 P9):yIT.Eq [yEe.s f1,yGw.s f2,yCt.s f3] (.two .no (.two (.two (.pt (yLt.s P0)) (.pt (yLu.s P1))) (.two (.pt (yLv.s P2)) (.two (.two (.pt (yLw.s P3)) (.pt (yLx.s P4))) (.two (.pt (yLy.s P5)) (.two (.two (.pt (yLz.s P6)) (.pt (yL0.s P7))) (.two (.pt (yL1.s P8)) (.two .no (.two (.pt (yL2.s P9)) .no))))))))) (yNh f1 f2 f3 P0 P1 P2 P3 P4 P5 P6 P7 P8 P9):=fun _=>by kernel_rfl
def yDz(L:Nat):yIT.T:=yNh (yOe L) (yQl L) (yCA L) (yJw (yCF L)) (yHy) (yHz) (yFL (yBU L)) (yH0) (yH1 (yGO L)) (yFM) (yH2) (yJx (yE6 L)) (yJy (yH4 L))
theorem yUv(L:Nat):yIT.C (yDz L):=yIT.c (yXb (yOe L) (yQl L) (yCA L) (yJw (yCF L)) (yHy) (yHz) (yFL (yBU L)) (yH0) (yH1 (yGO L)) (yFM) (yH2) (yJx (yE6 L)) (yJy (yH4 L))) (tC (yTm L).ent (tC (yVY L).ent (tC (yN7 L).ent tN))) Tryz.func18 (by kernel_rfl) (lS (lN _) (lS (lS (lP (yUT L)) (lP (yUU L))) (lS (lP (yUV L)) (lS (lS (lP (yUW L)) (lP (yUX L))) (lS (lP (yUY L)) (lS (lS (lP (yUZ L)) (lP (yUa L))) (lS (lP (yUb L)) (lS (lN _) (lS (lP (yUc L)) (lN _))))))))))
end Go.Proofs.YtakljpcmbpaeaaaGreat

namespace Go.Proofs.YtakljpcmbpaeaaaGreat
open Go.RowKit
set_option maxRecDepth 100000
set_option maxHeartbeats 16000000
abbrev yIR:=fw2 75 (caC yCS (caC cI caN)) cI
abbrev yPX(f1:yBl.T)(f2:yDe.T)(x0:yAN)(x1:Int):Option Int:=
 bindO (f1 x0) fun r1=>
 bif !r1 then
 some (-1)
 else
 bindO (f2 x1 0 (w64 (x0.Slots-1))) fun r2=>
 bif !r2 then
 some (-1)
 else
 some (w64 ((w64 ((w64 (1+(w64 (2*x0.Nodes))))+x0.Log))+(w64 (x1*(w64 (1+x0.Journal))))))
theorem yWI(f1 f2):yIR.Eq [yBl.s f1,yDe.s f2] .no (yPX f1 f2):=fun _=>by kernel_rfl
def yGi(L:Nat):yIR.T:=yPX (yCT L) (yI5 L)
theorem yWH(L:Nat):yIR.C (yGi L):=yIR.c (yWI (yCT L) (yI5 L)) (tC (yHx L).ent (tC (yPy L).ent tN)) Tryz.func75 (by kernel_rfl) (lN _)
abbrev yIO:=fw1 304 (caC cI caN) cI
abbrev yPS(x0:Int):Option Int:=
 bif(IntKind.i64.wrap ((BitVec.ofInt IntKind.i64.bits x0 &&& BitVec.ofInt IntKind.i64.bits 1).toNat:Int))==1 then
 some (IntKind.i64.wrap ((BitVec.ofInt IntKind.i64.bits (x0.fdiv (2^(min (1:Int).toNat IntKind.i64.bits))) ^^^ BitVec.ofInt IntKind.i64.bits 2197175160).toNat:Int))
 else
 some (x0.fdiv (2^(min (1:Int).toNat IntKind.i64.bits)))
theorem yWA:yIO.Eq [] .no (yPS):=fun _=>by kernel_rfl
def yDD(L:Nat):yIO.T:=yPS
theorem yV9(L:Nat):yIO.C (yDD L):=yIO.c (yWA) tN Tryz.func304 (by kernel_rfl) (lN _)
abbrev yI1:=Int×Int×Int×Int×Unit
abbrev yMR:=Int×Int×Int×Unit
abbrev yB5{α:Type}(f1:yIO.T)(s:yI1)(kn:yI1→Option α)(k0:yMR→Option α):Option α:=
 bif decide (s.2.2.2.1<8) then
 bindO (f1 s.1) fun r1=>
 kn (r1,s.2.1,s.2.2.1,w64 (s.2.2.2.1+1),())
 else
 k0 (s.1,s.2.1,s.2.2.1,())
abbrev yI2:LW1 yI1 yMR:=⟨(lvC 0 (mP cI) (lvC 1 (mP cI) (lvC 5 (mP cI) (lvC 6 (mP cI) lvN)))),(.exit 2),(lvC 0 (mP cI) (lvC 1 (mP cI) (lvC 5 (mP cI) lvN)))⟩
theorem yTh{α:Type}(f1):yI2.Eq (α:=α) [yIO.s f1] Tryz.f270 [1,1,0,1,0,0,1,0,0,1,0] .no (yB5 f1):=fun _ _ _=>by kernel_rfl
abbrev yGM:=Int×Int×Int×Unit
abbrev yIz:=Int×Unit
abbrev yC4{α:Type}(F1:LF1 yI1 yMR α)(s:yGM)(kn:yGM→Option α)(k0:yIz→Option α):Option α:=
 bif decide (s.2.2.1<s.2.1) then
 F1 (s.1,s.2.1,s.2.2.1,0,()) (fun q1=>
 kn (q1.1,q1.2.1,w64 (q1.2.2.1+1),()))
 else
 k0 (s.1,())
abbrev yI0:LW1 yGM yIz:=⟨(lvC 0 (mP cI) (lvC 1 (mP cI) (lvC 5 (mP cI) lvN))),(.exit 0),(lvC 0 (mP cI) lvN)⟩
theorem yTg{α:Type}(F1):yI0.Eq (α:=α) [] Tryz.f270 [1,1,0,1,0] (.two .no (.two (.one (.two .no (.one (.lp (yI2.s F1))))) .no)) (yC4 F1):=fun _ _ _=>by kernel_rfl
abbrev yIN:=fw2 270 (caC cI (caC cI caN)) cI
abbrev yPQ(F0:LF1 yGM yIz (Int))(x0:Int)(x1:Int):Option Int:=
 F0 (IntKind.i64.wrap ((BitVec.ofInt IntKind.i64.bits x0 &&& BitVec.ofInt IntKind.i64.bits 4294967295).toNat:Int),x1,0,()) (fun q1=>
 some q1.1)
theorem yV8(F0):yIN.Eq [] (.two .no (.two .no (.two (.two .no (.one (.lp (yI0.s F0)))) .no))) (yPQ F0):=fun _=>by kernel_rfl
def yIM(L:Nat):yIN.T:=yPQ (loop1 (yC4 (loop1 (yB5 (yDD L)) L)) L)
theorem ySh{α:Type}(L:Nat):LO Tryz.f270 [1,1,0,1,0,0,1,0,0,1,0] (yI2.s (α:=α) (loop1 (yB5 (yDD L)) L)):=yI2.k (yTh (yDD L)) (tC (yV9 L).ent tN) (lN _) (by kernel_rfl) L
theorem ySg{α:Type}(L:Nat):LO Tryz.f270 [1,1,0,1,0] (yI0.s (α:=α) (loop1 (yC4 (loop1 (yB5 (yDD L)) L)) L)):=yI0.k (yTg (loop1 (yB5 (yDD L)) L)) tN (lS (lN _) (lS (lB (lS (lN _) (lB (lL (ySh L))))) (lN _))) (by kernel_rfl) L
theorem yV7(L:Nat):yIN.C (yIM L):=yIN.c (yV8 (loop1 (yC4 (loop1 (yB5 (yDD L)) L)) L)) tN Tryz.func270 (by kernel_rfl) (lS (lN _) (lS (lN _) (lS (lS (lN _) (lB (lL (ySg L)))) (lN _))))
abbrev yKn:=(List (List V))×Int×Int×Unit
abbrev yNK:=Int×Unit
abbrev yGL{α:Type}(f1:yIN.T)(s:yKn)(kn:yKn→Option α)(k0:yNK→Option α):Option α:=
 bif decide (s.2.2.1<(s.1.length:Int)) then
 gI s.1 kU s.2.2.1<|
 bindO (f1 (IntKind.i64.wrap ((BitVec.ofInt IntKind.i64.bits s.2.1 ^^^ BitVec.ofInt IntKind.i64.bits (w64 (aI s.1 s.2.2.1.toNat 0))).toNat:Int)) 1) fun r1=>
 kn (s.1,r1,w64 (s.2.2.1+1),())
 else
 k0 (s.2.1,())
abbrev yKo:LW1 yKn yNK:=⟨(lvC 1 (mP cdR) (lvC 5 (mP cI) (lvC 6 (mP cI) lvN))),(.exit 0),(lvC 5 (mP cI) lvN)⟩
theorem yUQ{α:Type}(f1):yKo.Eq (α:=α) [yIN.s f1] Tryz.f207 [1,1,0,1,0] .no (yGL f1):=fun _ _ _=>by kernel_rfl
abbrev yJr:=fw2 207 (caC cI (caC cdR caN)) cI
abbrev yQe(F0:LF1 yKn yNK (Int))(x0:Int)(x1:List (List V)):Option Int:=
 F0 (x1,IntKind.i64.wrap ((BitVec.ofInt IntKind.i64.bits (IntKind.i64.wrap ((BitVec.ofInt IntKind.i64.bits x0 &&& BitVec.ofInt IntKind.i64.bits 4294967295).toNat:Int)) ^^^ BitVec.ofInt IntKind.i64.bits 4294967295).toNat:Int),0,()) (fun q1=>
 some (IntKind.i64.wrap ((BitVec.ofInt IntKind.i64.bits q1.1 ^^^ BitVec.ofInt IntKind.i64.bits 4294967295).toNat:Int)))
theorem yWz(F0):yJr.Eq [] (.two .no (.two .no (.two (.two .no (.one (.lp (yKo.s F0)))) .no))) (yQe F0):=fun _=>by kernel_rfl
def yRH(L:Nat):yJr.T:=yQe (loop1 (yGL (yIM L)) L)
theorem yTf{α:Type}(L:Nat):LO Tryz.f207 [1,1,0,1,0] (yKo.s (α:=α) (loop1 (yGL (yIM L)) L)):=yKo.k (yUQ (yIM L)) (tC (yV7 L).ent tN) (lN _) (by kernel_rfl) L
theorem yWy(L:Nat):yJr.C (yRH L):=yJr.c (yWz (loop1 (yGL (yIM L)) L)) tN Tryz.func207 (by kernel_rfl) (lS (lN _) (lS (lN _) (lS (lS (lN _) (lB (lL (yTf L)))) (lN _))))
abbrev yJs:=fw1 161 (caC cdR caN) cI
abbrev yQf(f1:yJr.T)(x0:List (List V)):Option Int:=
 bindO (f1 0 x0) fun r1=>
 some r1
theorem yW1(f1):yJs.Eq [yJr.s f1] .no (yQf f1):=fun _=>by kernel_rfl
def yPR(L:Nat):yJs.T:=yQf (yRH L)
theorem yW0(L:Nat):yJs.C (yPR L):=yJs.c (yW1 (yRH L)) (tC (yWy L).ent tN) Tryz.func161 (by kernel_rfl) (lN _)
abbrev yE5:=fw2 101 (caC (cdI .i8) (caC cdS caN)) (cdT (caC cdS (caC cI caN)))
abbrev yPV(f1:yCt.T)(f2:yJs.T)(x0:Int)(x1:ByteArray):Option (ByteArray×Int×Unit):=
 bif decide (x0<1) then
 some (noS,2,())
 else
 bif decide (505<(x1.size:Int)) then
 some (noS,2,())
 else
 bindO (f1 ([[V.int .u8 (IntKind.u8.wrap x0)]]) 2 ([[V.int .i64 (x1.size:Int)]])) fun r1=>
 letI qc:=r1.1++(rowsS x1)
 letI qb:=r1.1.length+((rowsS x1).length)
 gd (Nat.beq (0+r1.1.length) r1.1.length)<|
 gM qb 1<|
 gF qc (0+qb)<|
 bindO (f2 (qc.take qb)) fun r2=>
 letI qa:=qc++([[V.int .u8 (IntKind.u8.wrap r2)],[V.int .u8 (IntKind.u8.wrap (r2.fdiv (2^(min (8:Int).toNat IntKind.i64.bits))))],[V.int .u8 (IntKind.u8.wrap (r2.fdiv (2^(min (16:Int).toNat IntKind.i64.bits))))],[V.int .u8 (IntKind.u8.wrap (r2.fdiv (2^(min (24:Int).toNat IntKind.i64.bits))))]])
 gd (Nat.beq (0+qb) (qc.length))<|
 gM (qb+4) 1<|
 gd (Nat.ble (0+(qb+4)) (qa.length))<|
 gd ((bytesOf (qa.take (qb+4))).isSome)<|
 some (bytesS (qa.take (qb+4)),0,())
theorem yWE(f1 f2):yE5.Eq [yCt.s f1,yJs.s f2] .no (yPV f1 f2):=fun _=>by kernel_rfl
def yJu(L:Nat):yE5.T:=yPV (yCA L) (yPR L)
theorem ySG(L:Nat):yE5.C (yJu L):=yE5.c (yWE (yCA L) (yPR L)) (tC (yN7 L).ent (tC (yW0 L).ent tN)) Tryz.func101 (by kernel_rfl) (lN _)
end Go.Proofs.YtakljpcmbpaeaaaGreat

namespace Go.Proofs.YtakljpcmbpaeaaaGreat
open Go.RowKit
set_option maxRecDepth 100000
set_option maxHeartbeats 16000000
abbrev yI3:=Int×ByteArray×(List (List V))×(List (List V))×(List (List V))×Int×Unit
abbrev yMS:=Int×ByteArray×(List (List V))×Unit
abbrev yMT:=ByteArray×Int×Unit
abbrev yDy{α:Type}(f1:yCt.T)(s:yI3)(kn:yI3→Option α)(k0:yMS→Option α)(k1:yMT→Option α):Option α:=
 letI qa:=s.2.2.2.2.2.1
 bif decide (qa<(s.2.2.2.1.length:Int)) then
 gI s.2.2.1 kI qa<|
 gI s.2.2.2.1 kI qa<|
 bindO (f1 s.2.2.2.2.1 (aI s.2.2.1 qa.toNat 0) ([[V.int .i64 (aI s.2.2.2.1 qa.toNat 0)]])) fun r1=>
 bif r1.2.1 !=0 then
 k1 (noS,2,())
 else
 bif decide (505<(r1.1.length:Int)) then
 k1 (noS,2,())
 else
 gF r1.1 (0+r1.1.length)<|
 kn (s.1,s.2.1,s.2.2.1,s.2.2.2.1,r1.1.take r1.1.length,w64 (qa+1),())
 else
 k0 (s.1,s.2.1,s.2.2.2.2.1,())
abbrev yI4:LW2 yI3 yMS yMT:=⟨(lvC 0 (mP (cdI .i8)) (lvC 1 (mP cdS) (lvC 2 (mP cdR) (lvC 3 (mP cdR) (lvC 10 (mP cdR) (lvC 11 (mP cI) lvN)))))),(.exit 0),(lvC 0 (mP (cdI .i8)) (lvC 1 (mP cdS) (lvC 10 (mP cdR) lvN))),.ret,(lvC 8 (mP cdS) (lvC 9 (mP cI) lvN))⟩
theorem yTi{α:Type}(f1):yI4.Eq (α:=α) [yCt.s f1] Tryz.f135 [1,1,1,0,1,0] .no (yDy f1):=fun _ _ _=>by kernel_rfl
abbrev yE4:=fw4 135 (caC (cdI .i8) (caC cdS (caC cdR (caC cdR caN)))) (cdT (caC cdS (caC cI caN)))
abbrev yPT(f1:yE5.T)(F0:LF2 yI3 yMS yMT (ByteArray×Int×Unit))(x0:Int)(x1:ByteArray)(x2:List (List V))(x3:List (List V)):Option (ByteArray×Int×Unit):=
 bif(x2.length:Int) !=(x3.length:Int) then
 some (noS,2,())
 else
 F0 (x0,x1,x2,x3,[],0,()) (fun q1=>
 gd ((bytesOf q1.2.2.1).isSome)<|
 gd (decide (((bytesS q1.2.2.1).size)+q1.2.1.size≤9223372036854775807))<|
 bindO (f1 q1.1 ((bytesS q1.2.2.1)++q1.2.1)) fun r2=>
 some (r2.1,r2.2.1,())) (fun q3=>
 some (q3.1,q3.2.1,()))
theorem yWB(f1 F0):yE4.Eq [yE5.s f1] (.two .no (.two .no (.two .no (.two (.two .no (.one (.lp (yI4.s F0)))) .no)))) (yPT f1 F0):=fun _=>by kernel_rfl
def yJt(L:Nat):yE4.T:=yPT (yJu L) (loop2 (yDy (yCA L)) L)
theorem ySi{α:Type}(L:Nat):LO Tryz.f135 [1,1,1,0,1,0] (yI4.s (α:=α) (loop2 (yDy (yCA L)) L)):=yI4.k (yTi (yCA L)) (tC (yN7 L).ent tN) (lN _) (by kernel_rfl) L
theorem ySF(L:Nat):yE4.C (yJt L):=yE4.c (yWB (yJu L) (loop2 (yDy (yCA L)) L)) (tC (ySG L).ent tN) Tryz.func135 (by kernel_rfl) (lS (lN _) (lS (lN _) (lS (lN _) (lS (lS (lN _) (lB (lL (ySi L)))) (lN _)))))
abbrev yGj:=fw1 121 (caC yCS caN) (cdT (caC cdS (caC cI caN)))
abbrev yOA(f1:yBl.T)(f2:yE4.T)(x0:yAN):Option (ByteArray×Int×Unit):=
 letI qa:= [V.int .i64 2]
 bindO (f1 x0) fun r1=>
 bif !r1 then
 some (noS,40,())
 else
 bindO (f2 1 noS ([qa,qa,qa,qa,qa,qa,[V.int .i64 4],[V.int .i64 4]]) ([[V.int .i64 x0.Nodes],[V.int .i64 x0.Slots],[V.int .i64 x0.Blocks],[V.int .i64 x0.Per],[V.int .i64 x0.Journal],[V.int .i64 x0.Log],[V.int .i64 x0.Lease],[V.int .i64 x0.Wait]])) fun r2=>
 some (r2.1,r2.2.1,())
theorem yVM(f1 f2):yGj.Eq [yBl.s f1,yE4.s f2] .no (yOA f1 f2):=fun _=>by kernel_rfl
def yMU(L:Nat):yGj.T:=yOA (yCT L) (yJt L)
theorem yVL(L:Nat):yGj.C (yMU L):=yGj.c (yVM (yCT L) (yJt L)) (tC (yHx L).ent (tC (ySF L).ent tN)) Tryz.func121 (by kernel_rfl) (lN _)
abbrev yIS:=fw1 122 (caC cI caN) (cdT (caC cdS (caC cI caN)))
abbrev yPY(f1:yE4.T)(x0:Int):Option (ByteArray×Int×Unit):=
 bindO (f1 2 noS ([[V.int .i64 6]]) ([[V.int .i64 x0]])) fun r1=>
 some (r1.1,r1.2.1,())
theorem yWK(f1):yIS.Eq [yE4.s f1] .no (yPY f1):=fun _=>by kernel_rfl
def yNg(L:Nat):yIS.T:=yPY (yJt L)
theorem yWJ(L:Nat):yIS.C (yNg L):=yIS.c (yWK (yJt L)) (tC (ySF L).ent tN) Tryz.func122 (by kernel_rfl) (lN _)
abbrev yGk:=yAN×ByteArray×(List (List V))×Int×Unit
abbrev yJv:=(List (List V))×Unit
abbrev yDJ{α:Type}(f1:yIR.T)(s:yGk)(kn:yGk→Option α)(k0:yJv→Option α):Option α:=
 letI qc:=s.2.2.1
 bif decide (s.2.2.2.1<s.1.Slots) then
 bindO (f1 s.1 s.2.2.2.1) fun r1=>
 letI qd:=0+r1.toNat
 letI qa:=qc.getD qd []
 letI qb:=qa.take 0++([V.str s.2.1]++qa.drop 1)
 gB r1 qc.length<|
 gd (decide (0+r1.toNat<qc.length))<|
 gd (Nat.ble 0 qd)<|
 gd (Nat.ble 1 qa.length)<|
 gW (qc.set qd qb) qc.length<|
 kn (s.1,s.2.1,qc.set qd qb,w64 (s.2.2.2.1+1),())
 else
 gW qc qc.length<|
 k0 (qc,())
abbrev yGl:LW1 yGk yJv:=⟨(lvC 1 yLm (lvC 6 (mP cdS) (lvC 8 (mW 1) (lvC 9 (mP cI) lvN)))),(.exit 0),(lvC 8 (mW 1) lvN)⟩
theorem yRl{α:Type}(f1):yGl.Eq (α:=α) [yIR.s f1] Tryz.f54 [1,1,1,1,1,1,0,1,0] .no (yDJ f1):=fun _ _ _=>by kernel_rfl
abbrev yFg:=fw1 54 (caC yCS caN) (cdT (caC cdR (caC cI caN)))
abbrev yNL(f1:yGj.T)(f2:yIS.T)(f3:yCe.T)(F0:LF1 yGk yJv ((List (List V))×Int×Unit))(x0:yAN):Option ((List (List V))×Int×Unit):=
 bindO (f1 x0) fun r1=>
 bif r1.2.1 !=0 then
 some ([],r1.2.1,())
 else
 bindO (f2 0) fun r2=>
 bindO (f3 x0) fun r3=>
 letI qa:=List.replicate r3.toNat [V.str noS]
 letI qb:=(qa.getD 0 []).take 0++([V.str r1.1]++(qa.getD 0 []).drop 1)
 gd (decide (0≤r3))<|
 gd (decide (r3≤r3))<|
 gd (decide (16*r3.toNat≤281474976710656))<|
 gd (decide (r3≤9223372036854775807))<|
 gd (decide (0<(r3.toNat:Int)))<|
 gd (decide (0<qa.length))<|
 gd (Nat.ble 1 (qa.getD 0 []).length)<|
 gW (qa.set 0 qb) r3.toNat<|
 F0 (x0,r2.1,qa.set 0 qb,0,()) (fun q4=>
 gF q4.1 (0+q4.1.length)<|
 some (q4.1.take q4.1.length,0,()))
theorem yUS(f1 f2 f3 F0):yFg.Eq [yGj.s f1,yIS.s f2,yCe.s f3] (.two .no (.two .no (.two .no (.two .no (.two .no (.two .no (.two (.two .no (.one (.lp (yGl.s F0)))) .no))))))) (yNL f1 f2 f3 F0):=fun _=>by kernel_rfl
def yK4(L:Nat):yFg.T:=yNL (yMU L) (yNg L) (yDI L) (loop1 (yDJ (yGi L)) L)
theorem yRI{α:Type}(L:Nat):LO Tryz.f54 [1,1,1,1,1,1,0,1,0] (yGl.s (α:=α) (loop1 (yDJ (yGi L)) L)):=yGl.k (yRl (yGi L)) (tC (yWH L).ent tN) (lN _) (by kernel_rfl) L
theorem yUR(L:Nat):yFg.C (yK4 L):=yFg.c (yUS (yMU L) (yNg L) (yDI L) (loop1 (yDJ (yGi L)) L)) (tC (yVL L).ent (tC (yWJ L).ent (tC (yN8 L).ent tN))) Tryz.func54 (by kernel_rfl) (lS (lN _) (lS (lN _) (lS (lN _) (lS (lN _) (lS (lN _) (lS (lN _) (lS (lS (lN _) (lB (lL (yRI L)))) (lN _))))))))
abbrev yJ3:=fw2 55 (caC cI (caC cdR caN)) (cdT (caC yBx (caC cI caN)))
abbrev yQi(f1:yCf.T)(x0:Int)(x1:List (List V)):Option (yAA×Int×Unit):=
 letI qf:=decide (x0≤9223372036854775807)
 letI qe:=0+x0.toNat
 letI qd:=0+x1.length
 letI qc:=List.replicate x0.toNat [V.int .i64 0]
 letI qb:=List.replicate x0.toNat [V.sl ([]) true]
 letI qa:=(⟨x1.take qd,qb.take x0.toNat,qc.take x0.toNat,1,[]⟩:yAA)
 bif decide (x0<1) then
 some (yAA.z,2,())
 else
 bif decide (16<x0) then
 some (yAA.z,2,())
 else
 gd (x1.all fun r=>Nat.beq r.length 1)<|
 gM qd 16<|
 gd (decide (0≤x0))<|
 gd (decide (x0≤x0))<|
 gd (decide (24*x0.toNat≤281474976710656))<|
 gd qf<|
 gd (decide (0≤x0))<|
 gd (decide (x0≤x0))<|
 gd (decide (8*x0.toNat≤281474976710656))<|
 gd qf<|
 gF x1 (0+qd)<|
 gF qb qe<|
 gF qc qe<|
 bindO (f1 qa) fun r1=>
 bif r1 !=0 then
 some (yAA.z,2,())
 else
 gF x1 (0+qd)<|
 gF qb qe<|
 gF qc qe<|
 some (qa,0,())
theorem yW5(f1):yJ3.Eq [yCf.s f1] .no (yQi f1):=fun _=>by kernel_rfl
def yPZ(L:Nat):yJ3.T:=yQi (yCF L)
theorem yW4(L:Nat):yJ3.C (yPZ L):=yJ3.c (yW5 (yCF L)) (tC (yOB L).ent tN) Tryz.func55 (by kernel_rfl) (lN _)
abbrev yIp:=yAN×yAA×Int×yAA×Int×Unit
abbrev yML:=yAA×Int×yAA×Unit
abbrev yDs{α:Type}(f1:yIT.T)(s:yIp)(kn:yIp→Option α)(k0:yML→Option α):Option α:=
 bif decide (s.2.2.2.2.1<s.1.Nodes) then
 bif s.2.2.1==0 then
 bindO (f1 s.2.2.2.1 s.2.2.2.2.1 (⟨6,0,noS,0⟩:yA5)) fun r1=>
 kn (s.1,s.2.1,r1.2.2.1,r1.1,w64 (s.2.2.2.2.1+1),())
 else
 k0 (s.2.1,s.2.2.1,s.2.2.2.1,())
 else
 k0 (s.2.1,s.2.2.1,s.2.2.2.1,())
abbrev yIq:LW1 yIp yML:=⟨(lvC 1 yLm (lvC 2 yAF (lvC 5 (mP cI) (lvC 6 yAF (lvC 7 (mP cI) lvN))))),(.exit 0),(lvC 2 yAF (lvC 5 (mP cI) (lvC 6 yAF lvN)))⟩
theorem yTN{α:Type}(f1):yIq.Eq (α:=α) [yIT.s f1] Tryz.f38 [1,1,1,1,0,1,0] .no (yDs f1):=fun _ _ _=>by kernel_rfl
abbrev yEy:=fw1 38 (caC yCS caN) (cdT (caC yBx (caC cdB caN)))
abbrev yPI(f1:yFg.T)(f2:yJ3.T)(F0:LF1 yIp yML (yAA×Bool×Unit))(x0:yAN):Option (yAA×Bool×Unit):=
 bindO (f1 x0) fun r1=>
 bif r1.2.1 !=0 then
 some (yAA.z,false,())
 else
 bindO (f2 x0.Nodes r1.1) fun r2=>
 F0 (x0,yAA.z,r2.2.1,r2.1,0,()) (fun q3=>
 some (q3.2.2.1,q3.2.1==0,()))
theorem yVu(f1 f2 F0):yEy.Eq [yFg.s f1,yJ3.s f2] (.two .no (.two .no (.two .no (.two .no (.two (.two .no (.one (.lp (yIq.s F0)))) .no))))) (yPI f1 f2 F0):=fun _=>by kernel_rfl
def yJl(L:Nat):yEy.T:=yPI (yK4 L) (yPZ L) (loop1 (yDs (yDz L)) L)
theorem ySS{α:Type}(L:Nat):LO Tryz.f38 [1,1,1,1,0,1,0] (yIq.s (α:=α) (loop1 (yDs (yDz L)) L)):=yIq.k (yTN (yDz L)) (tC (yUv L).ent tN) (lN _) (by kernel_rfl) L
theorem ySC(L:Nat):yEy.C (yJl L):=yEy.c (yVu (yK4 L) (yPZ L) (loop1 (yDs (yDz L)) L)) (tC (yUR L).ent (tC (yW4 L).ent tN)) Tryz.func38 (by kernel_rfl) (lS (lN _) (lS (lN _) (lS (lN _) (lS (lN _) (lS (lS (lN _) (lB (lL (ySS L)))) (lN _))))))
end Go.Proofs.YtakljpcmbpaeaaaGreat

namespace Go.Proofs.YtakljpcmbpaeaaaGreat
open Go.RowKit
set_option maxRecDepth 100000
set_option maxHeartbeats 16000000
abbrev yKs:=yAN×yAC×((List (List V))×(List (List V))×(List (List V))×Unit)×Int×Unit
abbrev yNN:=yAC×((List (List V))×(List (List V))×(List (List V))×Unit)×Unit
abbrev yK6{α:Type}(s:yKs)(kn:yKs→Option α)(k0:yNN→Option α):Option α:=
 letI qb:= [[V.int .i64 0,V.int .i64 0]]
 letI qa:=s.2.2.1.1
 bif decide (s.2.2.2.1<s.1.Slots) then
 bif decide (s.2.2.2.1<16) then
 gd (Nat.beq (0+qa.length) qa.length)<|
 gM (qa.length+1) 16<|
 gA (qa++qb) (qa.length+1)<|
 kn (s.1,s.2.1,(qa++qb,s.2.2.1.2.1,s.2.2.1.2.2.1,()),w64 (s.2.2.2.1+1),())
 else
 gA qa qa.length<|
 k0 (s.2.1,(qa,s.2.2.1.2.1,s.2.2.1.2.2.1,()),())
 else
 gA qa qa.length<|
 k0 (s.2.1,(qa,s.2.2.1.2.1,s.2.2.1.2.2.1,()),())
abbrev yKt:LW1 yKs yNN:=⟨(lvC 1 yLm (lvC 2 yDt (lvC 3 (mO (zA 2 (zP cdR (zP cdR zN))) 3) (lvC 4 (mP cI) lvN)))),(.exit 0),(lvC 2 yDt (lvC 3 (mO (zA 2 (zP cdR (zP cdR zN))) 3) lvN))⟩
theorem yUj{α:Type}:yKt.Eq (α:=α) [] Tryz.f39 [1,1,0,1,0] .no (yK6):=fun _ _ _=>by kernel_rfl
abbrev yCu:=fw1 39 (caC yCS caN) yCp
abbrev yQq(F0:LF1 yKs yNN (yAC))(x0:yAN):Option yAC:=
 F0 (x0,yAC.z,([],[],[],()),0,()) (fun q1=>
 gF q1.2.1.1 (0+q1.2.1.1.length)<|
 some (⟨q1.2.1.1.take q1.2.1.1.length,q1.2.1.2.1,q1.2.1.2.2.1⟩:yAC))
theorem yXC(F0):yCu.Eq [] (.two .no (.two .no (.two (.two .no (.one (.lp (yKt.s F0)))) .no))) (yQq F0):=fun _=>by kernel_rfl
def yCG(L:Nat):yCu.T:=yQq (loop1 (yK6) L)
theorem yTs{α:Type}(L:Nat):LO Tryz.f39 [1,1,0,1,0] (yKt.s (α:=α) (loop1 (yK6) L)):=yKt.k (yUj) tN (lN _) (by kernel_rfl) L
theorem yOj(L:Nat):yCu.C (yCG L):=yCu.c (yXC (loop1 (yK6) L)) tN Tryz.func39 (by kernel_rfl) (lS (lN _) (lS (lN _) (lS (lS (lN _) (lB (lL (yTs L)))) (lN _))))
abbrev yIm:=(List (List V))×Int×Unit
abbrev yMI:=Unit
abbrev yMJ:=Bool×Unit
abbrev yDr{α:Type}(s:yIm)(kn:yIm→Option α)(k0:yMI→Option α)(k1:yMJ→Option α):Option α:=
 bif decide (s.2.1<(s.1.length:Int)) then
 gI s.1 kI (w64 (s.2.1-1))<|
 gI s.1 kI s.2.1<|
 bif decide (aI s.1 s.2.1.toNat 0<aI s.1 ((w64 (s.2.1-1)).toNat) 0) then
 k1 (false,())
 else
 kn (s.1,w64 (s.2.1+1),())
 else
 k0 (())
abbrev yIn:LW2 yIm yMI yMJ:=⟨(lvC 0 (mP cdR) (lvC 3 (mP cI) lvN)),(.exit 0),lvN,.ret,(lvC 2 (mP cdB) lvN)⟩
theorem yTK{α:Type}:yIn.Eq (α:=α) [] Tryz.f123 [1,0,1,0] .no (yDr):=fun _ _ _=>by kernel_rfl
abbrev yIF:=fw1 123 (caC cdR caN) cdB
abbrev yPG(F0:LF2 yIm yMI yMJ (Bool))(x0:List (List V)):Option Bool:=
 F0 (x0,1,()) (fun q1=>
 some true) (fun q2=>
 some q2.1)
theorem yVt(F0):yIF.Eq [] (.two .no (.two (.two .no (.one (.lp (yIn.s F0)))) .no)) (yPG F0):=fun _=>by kernel_rfl
def yIE(L:Nat):yIF.T:=yPG (loop2 (yDr) L)
theorem ySP{α:Type}(L:Nat):LO Tryz.f123 [1,0,1,0] (yIn.s (α:=α) (loop2 (yDr) L)):=yIn.k (yTK) tN (lN _) (by kernel_rfl) L
theorem yVs(L:Nat):yIF.C (yIE L):=yIF.c (yVt (loop2 (yDr) L)) tN Tryz.func123 (by kernel_rfl) (lS (lN _) (lS (lS (lN _) (lB (lL (ySP L)))) (lN _)))
abbrev yFV:=fw1 56 (caC yCS caN) cdB
abbrev yTH(f1:yIF.T)(x0:yAN):Option Bool:=
 bindO (f1 ([[V.int .i64 1],[V.int .i64 x0.Slots],[V.int .i64 x0.Nodes],[V.int .i64 16]])) fun r1=>
 bif r1 then
 bindO (f1 ([[V.int .i64 1],[V.int .i64 x0.Blocks],[V.int .i64 64]])) fun r2=>
 bif r2 then
 bindO (f1 ([[V.int .i64 1],[V.int .i64 x0.Per],[V.int .i64 8]])) fun r3=>
 bif r3 then
 bindO (f1 ([[V.int .i64 (w64 (x0.Per+2))],[V.int .i64 x0.Journal],[V.int .i64 64]])) fun r4=>
 bif r4 then
 bindO (f1 ([[V.int .i64 (w64 (8*x0.Slots))],[V.int .i64 x0.Log],[V.int .i64 512]])) fun r5=>
 bif r5 then
 bindO (f1 ([[V.int .i64 1],[V.int .i64 x0.Lease],[V.int .i64 (w64 (x0.Wait-1))],[V.int .i64 1048575]])) fun r6=>
 some r6
 else
 some false
 else
 some false
 else
 some false
 else
 some false
 else
 some false
theorem yXg(f1):yFV.Eq [yIF.s f1] .no (yTH f1):=fun _=>by kernel_rfl
def yLG(L:Nat):yFV.T:=yTH (yIE L)
theorem yRA(L:Nat):yFV.C (yLG L):=yFV.c (yXg (yIE L)) (tC (yVs L).ent tN) Tryz.func56 (by kernel_rfl) (lN _)
abbrev yGe:=fw1 220 (caC yCS caN) cdR
abbrev yN2(f1:yFV.T)(x0:yAN):Option (List (List V)):=
 letI qc:=w64 (1+x0.Journal)
 letI qa:=w64 (x0.Nodes*1)
 letI qb:=w64 ((w64 ((w64 (1+qa))+qa))+(w64 (x0.Log*1)))
 bindO (f1 x0) fun r1=>
 bif !r1 then
 some ([])
 else
 some ([[V.int .i64 0,V.int .i64 1,V.int .i8 1,V.int .i64 1],[V.int .i64 1,V.int .i64 qa,V.int .i8 2,V.int .i64 1],[V.int .i64 (w64 (1+qa)),V.int .i64 qa,V.int .i8 3,V.int .i64 1],[V.int .i64 (w64 ((w64 (1+qa))+qa)),V.int .i64 (w64 (x0.Log*1)),V.int .i8 4,V.int .i64 1],[V.int .i64 qb,V.int .i64 (w64 (x0.Slots*qc)),V.int .i8 6,V.int .i64 qc],[V.int .i64 (w64 (qb+(w64 (x0.Slots*qc)))),V.int .i64 (w64 (x0.Blocks*x0.Per)),V.int .i8 7,V.int .i64 x0.Per]])
theorem yVA(f1):yGe.Eq [yFV.s f1] .no (yN2 f1):=fun _=>by kernel_rfl
def yJh(L:Nat):yGe.T:=yN2 (yLG L)
theorem yU9(L:Nat):yGe.C (yJh L):=yGe.c (yVA (yLG L)) (tC (yRA L).ent tN) Tryz.func220 (by kernel_rfl) (lN _)
abbrev yLq:=Int×yAH×(List (List V))×Int×Int×Unit
abbrev yN0:=yAH×Unit
abbrev yN1:=yAH×Unit
abbrev yGI{α:Type}(s:yLq)(kn:yLq→Option α)(k0:yN0→Option α)(k1:yN1→Option α):Option α:=
 bif decide (s.2.2.2.2.1<s.2.2.2.1) then
 gI s.2.2.1 yAH.ks s.2.2.2.2.1<|
 bif(aI s.2.2.1 s.2.2.2.2.1.toNat 2)==s.1 then
 k1 ((⟨(⟨aI s.2.2.1 s.2.2.2.2.1.toNat 0,aI s.2.2.1 s.2.2.2.2.1.toNat 1⟩:yAh),aI s.2.2.1 s.2.2.2.2.1.toNat 2,aI s.2.2.1 s.2.2.2.2.1.toNat 3⟩:yAH),())
 else
 kn (s.1,s.2.1,s.2.2.1,s.2.2.2.1,w64 (s.2.2.2.2.1+1),())
 else
 k0 (s.2.1,())
abbrev yLr:LW2 yLq yN0 yN1:=⟨(lvC 1 (mP (cdI .i8)) (lvC 4 yN4 (lvC 8 (mP cdR) (lvC 9 (mP cI) (lvC 10 (mP cI) lvN))))),(.exit 0),(lvC 4 yN4 lvN),.ret,(lvC 4 yN4 lvN)⟩
theorem yU8{α:Type}:yLr.Eq (α:=α) [] Tryz.f167 [1,0,1,0] .no (yGI):=fun _ _ _=>by kernel_rfl
abbrev yID:=fw2 167 (caC yCS (caC (cdI .i8) caN)) yU4
abbrev yRf(f1:yGe.T)(F0:LF2 yLq yN0 yN1 (yAH))(x0:yAN)(x1:Int):Option yAH:=
 bindO (f1 x0) fun r1=>
 F0 (x1,yAH.z,r1,(r1.length:Int),0,()) (fun q2=>
 some (⟨yAh.z,0,1⟩:yAH)) (fun q3=>
 some q3.1)
theorem yXX(f1 F0):yID.Eq [yGe.s f1] (.two .no (.two (.two .no (.one (.lp (yLr.s F0)))) .no)) (yRf f1 F0):=fun _=>by kernel_rfl
def yNz(L:Nat):yID.T:=yRf (yJh L) (loop2 (yGI) L)
theorem yUJ{α:Type}(L:Nat):LO Tryz.f167 [1,0,1,0] (yLr.s (α:=α) (loop2 (yGI) L)):=yLr.k (yU8) tN (lN _) (by kernel_rfl) L
theorem yUu(L:Nat):yID.C (yNz L):=yID.c (yXX (yJh L) (loop2 (yGI) L)) (tC (yU9 L).ent tN) Tryz.func167 (by kernel_rfl) (lS (lN _) (lS (lS (lN _) (lB (lL (yUJ L)))) (lN _)))
abbrev yDY:=fw2 190 (caC yT5 (caC cI caN)) cI
abbrev yLH(x0:yAh)(x1:Int):Option Int:=
 bif decide (x1<0) then
 some (-1)
 else
 bif decide (x0.many_≤x1) then
 some (-1)
 else
 some (w64 (x0.first_+x1))
theorem ySO:yDY.Eq [] .no (yLH):=fun _=>by kernel_rfl
def yHH(L:Nat):yDY.T:=yLH
theorem ySN(L:Nat):yDY.C (yHH L):=yDY.c (ySO) tN Tryz.func190 (by kernel_rfl) (lN _)
abbrev yMt:=fw4 140 (caC yCS (caC (cdI .i8) (caC cI (caC cI caN)))) cI
abbrev yS2(f1:yID.T)(f2:yDY.T)(x0:yAN)(x1:Int)(x2:Int)(x3:Int):Option Int:=
 bindO (f1 x0 x1) fun r1=>
 bif decide (x2<0) then
 some (-1)
 else
 gd (!(decide (r1.per_=0)))<|
 bif decide (w64 (r1.stretch_.many_.tdiv r1.per_)≤x2) then
 some (-1)
 else
 bif decide (x3<0) then
 some (-1)
 else
 bif decide (r1.per_≤x3) then
 some (-1)
 else
 bindO (f2 r1.stretch_ (w64 ((w64 (x2*r1.per_))+x3))) fun r2=>
 some r2
theorem yXl(f1 f2):yMt.Eq [yID.s f1,yDY.s f2] .no (yS2 f1 f2):=fun _=>by kernel_rfl
def yRB(L:Nat):yMt.T:=yS2 (yNz L) (yHH L)
theorem yXU(L:Nat):yMt.C (yRB L):=yMt.c (yXl (yNz L) (yHH L)) (tC (yUu L).ent (tC (ySN L).ent tN)) Tryz.func140 (by kernel_rfl) (lN _)
abbrev yHG:=fw2 141 (caC yCS (caC cI caN)) cI
abbrev yTG(f1:yMt.T)(x0:yAN)(x1:Int):Option Int:=
 bindO (f1 x0 4 x1 0) fun r1=>
 some r1
theorem yXf(f1):yHG.Eq [yMt.s f1] .no (yTG f1):=fun _=>by kernel_rfl
def yLF(L:Nat):yHG.T:=yTG (yRB L)
theorem yTF(L:Nat):yHG.C (yLF L):=yHG.c (yXf (yRB L)) (tC (yXU L).ent tN) Tryz.func141 (by kernel_rfl) (lN _)
abbrev yIH:=fw2 80 (caC yCS (caC cI caN)) yNZ
abbrev yPJ(f1:yHG.T)(x0:yAN)(x1:Int):Option yA5:=
 bindO (f1 x0 x1) fun r1=>
 bif decide (0≤r1) then
 some (⟨1,r1,noS,0⟩:yA5)
 else
 some yA5.z
theorem yVy(f1):yIH.Eq [yHG.s f1] .no (yPJ f1):=fun _=>by kernel_rfl
def yPv(L:Nat):yIH.T:=yPJ (yLF L)
theorem yVx(L:Nat):yIH.C (yPv L):=yIH.c (yVy (yLF L)) (tC (yTF L).ent tN) Tryz.func80 (by kernel_rfl) (lN _)
end Go.Proofs.YtakljpcmbpaeaaaGreat

namespace Go.Proofs.YtakljpcmbpaeaaaGreat
open Go.RowKit
set_option maxRecDepth 100000
set_option maxHeartbeats 16000000
abbrev yDa:=fw1 241 (caC (cdP yGA) caN) yNZ
abbrev yLP(f1:yIH.T)(x0:yAK):Option yA5:=
 bindO (f1 x0.g_ x0.done_) fun r1=>
 some r1
theorem ySX(f1):yDa.Eq [yIH.s f1] .no (yLP f1):=fun _=>by kernel_rfl
def yKa(L:Nat):yDa.T:=yLP (yPv L)
theorem ySW(L:Nat):yDa.C (yKa L):=yDa.c (ySX (yPv L)) (tC (yVx L).ent tN) Tryz.func241 (by kernel_rfl) (lN _)
abbrev yEY:=fw1 232 (caC cI caN) cdB
abbrev yMM(x0:Int):Option Bool:=
 bif decide (1≤x0) then
 some (decide (x0≤6))
 else
 some false
theorem yTQ:yEY.Eq [] .no (yMM):=fun _=>by kernel_rfl
def yIr(L:Nat):yEY.T:=yMM
theorem yTP(L:Nat):yEY.C (yIr L):=yEY.c (yTQ) tN Tryz.func232 (by kernel_rfl) (lN _)
abbrev yMv:=ByteArray×Int×Int×Int×Int×Unit
abbrev yPL:=Int×Unit
abbrev yJo{α:Type}(s:yMv)(kn:yMv→Option α)(k0:yPL→Option α):Option α:=
 letI qa:=s.2.2.2.2.1
 bif decide (qa<s.2.2.2.1) then
 gB (w64 (s.2.1+qa)) s.1.size<|
 gd (!(decide (w64 (8*qa)<0)))<|
 kn (s.1,s.2.1,IntKind.i64.wrap ((BitVec.ofInt IntKind.i64.bits s.2.2.1 ||| BitVec.ofInt IntKind.i64.bits (IntKind.i64.wrap ((w64 (((s.1[(w64 (s.2.1+qa)).toNat]?).getD 0).toNat:Int))*2^(min (w64 (8*qa)).toNat IntKind.i64.bits)))).toNat:Int),s.2.2.2.1,w64 (qa+1),())
 else
 k0 (s.2.2.1,())
abbrev yMw:LW1 yMv yPL:=⟨(lvC 0 (mP cdS) (lvC 1 (mP cI) (lvC 6 (mP cI) (lvC 30 (mP cI) (lvC 31 (mP cI) lvN))))),(.exit 1),(lvC 6 (mP cI) lvN)⟩
theorem yVz{α:Type}:yMw.Eq (α:=α) [] Tryz.f234 [1,1,0,1,0] .no (yJo):=fun _ _ _=>by kernel_rfl
abbrev yDu:=fw3 234 (caC cdS (caC cI (caC cI caN))) (cdT (caC cI (caC cI caN)))
abbrev yTO(f1:yEY.T)(F0:LF1 yMv yPL (Int×Int×Unit))(x0:ByteArray)(x1:Int)(x2:Int):Option (Int×Int×Unit):=
 bindO (f1 x2) fun r1=>
 bif !r1 then
 some (0,2,())
 else
 bif decide (x1<0) then
 some (0,10,())
 else
 bif decide ((x0.size:Int)<x1) then
 some (0,10,())
 else
 bif decide (w64 ((x0.size:Int)-x1)<x2) then
 some (0,10,())
 else
 F0 (x0,x1,0,x2,0,()) (fun q2=>
 bif decide (1099511627776<q2.1) then
 some (0,10,())
 else
 some (q2.1,0,()))
theorem yXi(f1 F0):yDu.Eq [yEY.s f1] (.two .no (.two .no (.two (.two .no (.one (.lp (yMw.s F0)))) .no))) (yTO f1 F0):=fun _=>by kernel_rfl
def yB4(L:Nat):yDu.T:=yTO (yIr L) (loop1 (yJo) L)
theorem yVH{α:Type}(L:Nat):LO Tryz.f234 [1,1,0,1,0] (yMw.s (α:=α) (loop1 (yJo) L)):=yMw.k (yVz) tN (lN _) (by kernel_rfl) L
theorem yPM(L:Nat):yDu.C (yB4 L):=yDu.c (yXi (yIr L) (loop1 (yJo) L)) (tC (yTP L).ent tN) Tryz.func234 (by kernel_rfl) (lS (lN _) (lS (lN _) (lS (lS (lN _) (lB (lL (yVH L)))) (lN _))))
abbrev yDi:=fw1 181 (caC cI caN) cdB
abbrev yNt(x0:Int):Option Bool:=
 bif decide (16≤x0) then
 some (decide (x0≤1099511627776))
 else
 some false
theorem yU5:yDi.Eq [] .no (yNt):=fun _=>by kernel_rfl
def yHq(L:Nat):yDi.T:=yNt
theorem yQ4(L:Nat):yDi.C (yHq L):=yDi.c (yU5) tN Tryz.func181 (by kernel_rfl) (lN _)
abbrev yCW:=fw1 185 (caC (cdP ySL) caN) cdB
abbrev yHr(f1:yDi.T)(x0:yAk):Option Bool:=
 letI qc:=x0.Cmd.Span.Lo≤x0.Cmd.Span.Hi
 letI qb:=x0.Cmd.Span.Lo==0
 letI qa:=(x0.Cmd.Span.Hi==0)&&true
 bindO (f1 x0.Cmd.By) fun r1=>
 bif !r1 then
 some false
 else
 bif decide (x0.Cmd.Serial<1) then
 some false
 else
 bif decide (2147483648<x0.Cmd.Serial) then
 some false
 else
 bif x0.Cmd.Kind==0 then
 bif qb&&qa then
 bif x0.Cmd.Mode==0 then
 bif x0.Cmd.Dead==0 then
 bif x0.Cmd.Was==0 then
 some true
 else
 some false
 else
 some false
 else
 some false
 else
 some false
 else
 bif x0.Cmd.Kind==1 then
 bif qb&&qa then
 bif x0.Cmd.Mode==0 then
 bif x0.Cmd.Dead==0 then
 bif x0.Cmd.Was==0 then
 some true
 else
 some false
 else
 some false
 else
 some false
 else
 some false
 else
 bif x0.Cmd.Kind==2 then
 bif decide (0≤x0.Cmd.Span.Lo) then
 bif decide qc then
 bif decide (x0.Cmd.Span.Hi<64) then
 bif x0.Cmd.Mode==1 then
 bif x0.Cmd.Dead==0 then
 bif x0.Cmd.Was==0 then
 some true
 else
 some false
 else
 some false
 else
 bif x0.Cmd.Mode==2 then
 bif x0.Cmd.Dead==0 then
 bif x0.Cmd.Was==0 then
 some true
 else
 some false
 else
 some false
 else
 some false
 else
 some false
 else
 some false
 else
 some false
 else
 bif x0.Cmd.Kind==3 then
 bif decide (0≤x0.Cmd.Span.Lo) then
 bif decide qc then
 bif decide (x0.Cmd.Span.Hi<64) then
 bif x0.Cmd.Mode==0 then
 bif x0.Cmd.Dead==0 then
 bif x0.Cmd.Was==0 then
 some true
 else
 some false
 else
 some false
 else
 some false
 else
 some false
 else
 some false
 else
 some false
 else
 bif x0.Cmd.Kind==4 then
 bif qb&&qa then
 bif x0.Cmd.Mode==0 then
 bindO (f1 x0.Cmd.Dead) fun r2=>
 bif r2 then
 bif x0.Cmd.Was==0 then
 some true
 else
 bindO (f1 x0.Cmd.Was) fun r3=>
 some r3
 else
 some false
 else
 some false
 else
 some false
 else
 bif x0.Cmd.Kind==5 then
 bif qb&&qa then
 bif x0.Cmd.Mode==0 then
 bindO (f1 x0.Cmd.Dead) fun r4=>
 bif r4 then
 bif x0.Cmd.Was==0 then
 some true
 else
 some false
 else
 some false
 else
 some false
 else
 some false
 else
 some false
theorem yQU(f1):yCW.Eq [yDi.s f1] .no (yHr f1):=fun _=>by kernel_rfl
def yGd(L:Nat):yCW.T:=yHr (yHq L)
theorem yQT(L:Nat):yCW.C (yGd L):=yCW.c (yQU (yHq L)) (tC (yQ4 L).ent tN) Tryz.func185 (by kernel_rfl) (lN _)
abbrev yGZ:=fw1 180 (caC yMp caN) cdB
abbrev yNu(f1:yCW.T)(x0:yAE):Option Bool:=
 bindO (f1 (⟨x0,[]⟩:yAk)) fun r1=>
 some r1
theorem yU7(f1):yGZ.Eq [yCW.s f1] .no (yNu f1):=fun _=>by kernel_rfl
def yMF(L:Nat):yGZ.T:=yNu (yGd L)
theorem yU6(L:Nat):yGZ.C (yMF L):=yGZ.c (yU7 (yGd L)) (tC (yQT L).ent tN) Tryz.func180 (by kernel_rfl) (lN _)
end Go.Proofs.YtakljpcmbpaeaaaGreat

namespace Go.Proofs.YtakljpcmbpaeaaaGreat
open Go.RowKit
set_option maxRecDepth 100000
set_option maxHeartbeats 16000000
abbrev yJZ:=yAE×yAD×Unit
abbrev yJY:=yAE×yAD×Int×Unit
abbrev yGB{α:Type}(f1:yDu.T)(s:yJZ)(k0:yJY→Option α):Option α:=
 bindO (f1 s.2.1.s_ 0 1) fun r1=>
 bif r1.2.1 !=0 then
 k0 (s.1,{s.2.1 with bad_:=true },0,())
 else
 gd (decide (1≤(s.2.1.s_.size:Int)))<|
 k0 (s.1,{s.2.1 with s_:=s.2.1.s_.extract 1 s.2.1.s_.size },r1.1,())
abbrev yGa:LW1 yJZ yJY:=⟨(lvC 2 yOs (lvC 4 yDZ lvN)),.normal,(lvC 2 yOs (lvC 4 yDZ (lvC 5 (mP cI) lvN)))⟩
theorem yRb{α:Type}(f1):yGa.Ep (α:=α) [yDu.s f1] Tryz.f118 [1,1,0] .no (yGB f1):=fun _ _=>by kernel_rfl
theorem yQ5{α:Type}(L:Nat):PO Tryz.f118 [1,1,0] (yGa.s (α:=α) (yGB (yB4 L))):=yGa.kp (yRb (yB4 L)) (tC (yPM L).ent tN) (lN _) (by kernel_rfl)
abbrev yJb:=yAE×yAD×Int×Unit
abbrev yJa:=yAE×yAD×yAE×Unit
abbrev yGC{α:Type}(f1:yDu.T)(s:yJb)(k0:yJa→Option α):Option α:=
 letI qc:=s.2.1
 letI qb:=minI false s.2.2.1 127
 letI qa:=qc.s_.extract 6 qc.s_.size
 bindO (f1 qc.s_ 0 6) fun r1=>
 bif r1.2.1 !=0 then
 bindO (f1 qc.s_ 0 4) fun r2=>
 bif r2.2.1 !=0 then
 k0 (s.1,{qc with bad_:=true },(⟨IntKind.i8.wrap qb,0,0,0,0,yAG.z,0⟩:yAE),())
 else
 gd (decide (4≤(qc.s_.size:Int)))<|
 k0 (s.1,(⟨qc.s_.extract 4 qc.s_.size,true⟩:yAD),(⟨IntKind.i8.wrap qb,0,r2.1,0,0,yAG.z,0⟩:yAE),())
 else
 gd (decide (6≤(qc.s_.size:Int)))<|
 bindO (f1 qa 0 4) fun r3=>
 bif r3.2.1 !=0 then
 k0 (s.1,(⟨qc.s_.extract 6 qc.s_.size,true⟩:yAD),(⟨IntKind.i8.wrap qb,r1.1,0,0,0,yAG.z,0⟩:yAE),())
 else
 gd (decide (4≤(qa.size:Int)))<|
 k0 (s.1,{qc with s_:=qa.extract 4 (qa.size)},(⟨IntKind.i8.wrap qb,r1.1,r3.1,0,0,yAG.z,0⟩:yAE),())
abbrev yGb:LW1 yJb yJa:=⟨(lvC 2 yOs (lvC 4 yDZ (lvC 5 (mP cI) lvN))),.normal,(lvC 2 yOs (lvC 4 yDZ (lvC 6 yOs lvN)))⟩
theorem yRc{α:Type}(f1):yGb.Ep (α:=α) [yDu.s f1] Tryz.f118 [1,1,1,0] .no (yGC f1):=fun _ _=>by kernel_rfl
theorem yQ6{α:Type}(L:Nat):PO Tryz.f118 [1,1,1,0] (yGb.s (α:=α) (yGC (yB4 L))):=yGb.kp (yRc (yB4 L)) (tC (yPM L).ent tN) (lN _) (by kernel_rfl)
abbrev yJd:=yAE×yAD×yAE×Unit
abbrev yJc:=yAE×yAD×yAE×Unit
abbrev yCE{α:Type}(f1:yDu.T)(s:yJd)(k0:yJc→Option α):Option α:=
 letI qu:=s.1
 letI qj:=s.2.1
 letI qt:=f1 qj.s_ 0 6
 letI ql:=f1 qj.s_ 0 1
 letI qk:=decide (6≤(qj.s_.size:Int))
 letI qi:=(⟨qj.s_.extract 6 qj.s_.size,true⟩:yAD)
 letI qf:=decide (1≤(qj.s_.size:Int))
 letI qd:=qj.s_.extract 6 qj.s_.size
 letI qw:=decide (6≤(qd.size:Int))
 letI qc:=s.2.2.1
 letI qb:=(⟨qj.s_.extract 1 qj.s_.size,true⟩:yAD)
 letI qa:=qj.s_.extract 1 qj.s_.size
 letI qn:=f1 qa 0 1
 letI qh:=decide (1≤(qa.size:Int))
 letI qg:=qa.extract 1 (qa.size)
 letI qv:=decide (1≤(qg.size:Int))
 letI qe:=(⟨qa.extract 1 (qa.size),true⟩:yAD)
 bif qc.Kind==2 then
 bindO ql fun r1=>
 letI qq:=(⟨r1.1,0⟩:yAG)
 bif r1.2.1 !=0 then
 bindO ql fun r2=>
 letI qp:=(⟨0,r2.1⟩:yAG)
 bif r2.2.1 !=0 then
 bif qc.Kind==2 then
 bindO ql fun r3=>
 bif r3.2.1 !=0 then
 k0 (qu,{qj with bad_:=true },{qc with Span:=yAG.z,Mode:=0 },())
 else
 gd qf<|
 k0 (qu,qb,{qc with Span:=yAG.z,Mode:=IntKind.i8.wrap (minI false r3.1 127)},())
 else
 k0 (qu,{qj with bad_:=true },{qc with Span:=yAG.z },())
 else
 gd qf<|
 bif qc.Kind==2 then
 bindO qn fun r4=>
 bif r4.2.1 !=0 then
 k0 (qu,qb,{qc with Span:=qp,Mode:=0 },())
 else
 gd qh<|
 k0 (qu,qe,{qc with Span:=qp,Mode:=IntKind.i8.wrap (minI false r4.1 127)},())
 else
 k0 (qu,qb,{qc with Span:=qp },())
 else
 gd qf<|
 bindO qn fun r5=>
 letI qo:=(⟨r1.1,r5.1⟩:yAG)
 bif r5.2.1 !=0 then
 bif qc.Kind==2 then
 bindO qn fun r6=>
 bif r6.2.1 !=0 then
 k0 (qu,qb,{qc with Span:=qq,Mode:=0 },())
 else
 gd qh<|
 k0 (qu,qe,{qc with Span:=qq,Mode:=IntKind.i8.wrap (minI false r6.1 127)},())
 else
 k0 (qu,qb,{qc with Span:=qq },())
 else
 gd qh<|
 bif qc.Kind==2 then
 bindO (f1 qg 0 1) fun r7=>
 bif r7.2.1 !=0 then
 k0 (qu,qe,{qc with Span:=qo,Mode:=0 },())
 else
 gd qv<|
 k0 (qu,{qj with s_:=qg.extract 1 (qg.size)},{qc with Span:=qo,Mode:=IntKind.i8.wrap (minI false r7.1 127)},())
 else
 k0 (qu,{qj with s_:=qa.extract 1 (qa.size)},{qc with Span:=qo },())
 else
 bif qc.Kind==3 then
 bindO ql fun r8=>
 letI qs:=(⟨r8.1,0⟩:yAG)
 bif r8.2.1 !=0 then
 bindO ql fun r9=>
 letI qr:=(⟨0,r9.1⟩:yAG)
 bif r9.2.1 !=0 then
 bif qc.Kind==2 then
 bindO ql fun r10=>
 bif r10.2.1 !=0 then
 k0 (qu,{qj with bad_:=true },{qc with Span:=yAG.z,Mode:=0 },())
 else
 gd qf<|
 k0 (qu,qb,{qc with Span:=yAG.z,Mode:=IntKind.i8.wrap (minI false r10.1 127)},())
 else
 k0 (qu,{qj with bad_:=true },{qc with Span:=yAG.z },())
 else
 gd qf<|
 bif qc.Kind==2 then
 bindO qn fun r11=>
 bif r11.2.1 !=0 then
 k0 (qu,qb,{qc with Span:=qr,Mode:=0 },())
 else
 gd qh<|
 k0 (qu,qe,{qc with Span:=qr,Mode:=IntKind.i8.wrap (minI false r11.1 127)},())
 else
 k0 (qu,qb,{qc with Span:=qr },())
 else
 gd qf<|
 bindO qn fun r12=>
 letI qm:=(⟨r8.1,r12.1⟩:yAG)
 bif r12.2.1 !=0 then
 bif qc.Kind==2 then
 bindO qn fun r13=>
 bif r13.2.1 !=0 then
 k0 (qu,qb,{qc with Span:=qs,Mode:=0 },())
 else
 gd qh<|
 k0 (qu,qe,{qc with Span:=qs,Mode:=IntKind.i8.wrap (minI false r13.1 127)},())
 else
 k0 (qu,qb,{qc with Span:=qs },())
 else
 gd qh<|
 bif qc.Kind==2 then
 bindO (f1 qg 0 1) fun r14=>
 bif r14.2.1 !=0 then
 k0 (qu,qe,{qc with Span:=qm,Mode:=0 },())
 else
 gd qv<|
 k0 (qu,{qj with s_:=qg.extract 1 (qg.size)},{qc with Span:=qm,Mode:=IntKind.i8.wrap (minI false r14.1 127)},())
 else
 k0 (qu,{qj with s_:=qa.extract 1 (qa.size)},{qc with Span:=qm },())
 else
 bif qc.Kind==4 then
 bindO qt fun r15=>
 bif r15.2.1 !=0 then
 bif qc.Kind==4 then
 bindO qt fun r16=>
 bif r16.2.1 !=0 then
 k0 (qu,{qj with bad_:=true },{qc with Dead:=0,Was:=0 },())
 else
 gd qk<|
 k0 (qu,qi,{qc with Dead:=0,Was:=r16.1 },())
 else
 k0 (qu,{qj with bad_:=true },{qc with Dead:=0 },())
 else
 gd qk<|
 bif qc.Kind==4 then
 bindO (f1 qd 0 6) fun r17=>
 bif r17.2.1 !=0 then
 k0 (qu,qi,{qc with Dead:=r15.1,Was:=0 },())
 else
 gd qw<|
 k0 (qu,{qj with s_:=qd.extract 6 (qd.size)},{qc with Dead:=r15.1,Was:=r17.1 },())
 else
 k0 (qu,{qj with s_:=qj.s_.extract 6 qj.s_.size },{qc with Dead:=r15.1 },())
 else
 bif qc.Kind==5 then
 bindO qt fun r18=>
 bif r18.2.1 !=0 then
 bif qc.Kind==4 then
 bindO qt fun r19=>
 bif r19.2.1 !=0 then
 k0 (qu,{qj with bad_:=true },{qc with Dead:=0,Was:=0 },())
 else
 gd qk<|
 k0 (qu,qi,{qc with Dead:=0,Was:=r19.1 },())
 else
 k0 (qu,{qj with bad_:=true },{qc with Dead:=0 },())
 else
 gd qk<|
 bif qc.Kind==4 then
 bindO (f1 qd 0 6) fun r20=>
 bif r20.2.1 !=0 then
 k0 (qu,qi,{qc with Dead:=r18.1,Was:=0 },())
 else
 gd qw<|
 k0 (qu,{qj with s_:=qd.extract 6 (qd.size)},{qc with Dead:=r18.1,Was:=r20.1 },())
 else
 k0 (qu,{qj with s_:=qj.s_.extract 6 qj.s_.size },{qc with Dead:=r18.1 },())
 else
 k0 (qu,qj,qc,())
abbrev yGc:LW1 yJd yJc:=⟨(lvC 2 yOs (lvC 4 yDZ (lvC 6 yOs lvN))),.normal,(lvC 2 yOs (lvC 4 yDZ (lvC 6 yOs lvN)))⟩
theorem yRd{α:Type}(f1):yGc.Ep (α:=α) [yDu.s f1] Tryz.f118 [1,1,1,1,0] .no (yCE f1):=fun _ _=>by kernel_rfl
theorem yQ7{α:Type}(L:Nat):PO Tryz.f118 [1,1,1,1,0] (yGc.s (α:=α) (yCE (yB4 L))):=yGc.kp (yRd (yB4 L)) (tC (yPM L).ent tN) (lN _) (by kernel_rfl)
abbrev yBY:=fw1 118 (caC cdS caN) (cdT (caC yMp (caC cI caN)))
abbrev yNB(f1:yGZ.T)(P0:LF1 yJZ yJY (yAE×Int×Unit))(P1:LF1 yJb yJa (yAE×Int×Unit))(P2:LF1 yJd yJc (yAE×Int×Unit))(x0:ByteArray):Option (yAE×Int×Unit):=
 P0 (yAE.z,(⟨x0,false⟩:yAD),()) (fun q1=>
 P1 (q1.1,q1.2.1,q1.2.2.1,()) (fun q2=>
 P2 (q2.1,q2.2.1,q2.2.2.1,()) (fun q3=>
 bif q3.2.1.bad_ then
 some (yAE.z,100,())
 else
 bif !(q3.2.1.s_.toList==noS.toList) then
 some (yAE.z,100,())
 else
 bindO (f1 q3.2.2.1) fun r4=>
 bif !r4 then
 some (yAE.z,100,())
 else
 some (q3.2.2.1,0,()))))
theorem yUC(f1 P0 P1 P2):yBY.Eq [yGZ.s f1] (.two .no (.two .no (.two (.pt (yGa.s P0)) (.two (.pt (yGb.s P1)) (.two (.pt (yGc.s P2)) .no))))) (yNB f1 P0 P1 P2):=fun _=>by kernel_rfl
def yBB(L:Nat):yBY.T:=yNB (yMF L) (yGB (yB4 L)) (yGC (yB4 L)) (yCE (yB4 L))
theorem yHF(L:Nat):yBY.C (yBB L):=yBY.c (yUC (yMF L) (yGB (yB4 L)) (yGC (yB4 L)) (yCE (yB4 L))) (tC (yU6 L).ent tN) Tryz.func118 (by kernel_rfl) (lS (lN _) (lS (lN _) (lS (lP (yQ5 L)) (lS (lP (yQ6 L)) (lS (lP (yQ7 L)) (lN _))))))
end Go.Proofs.YtakljpcmbpaeaaaGreat

namespace Go.Proofs.YtakljpcmbpaeaaaGreat
open Go.RowKit
set_option maxRecDepth 100000
set_option maxHeartbeats 16000000
abbrev yKK:=fw1 340 (caC cdS caN) (cdT (caC (cdI .i8) (caC cdS (caC cI caN))))
abbrev yQw(f1:yDu.T)(f2:yQ8.T)(x0:ByteArray):Option (Int×ByteArray×Int×Unit):=
 letI qd:=decide (0<(x0.size:Int))
 letI qc:=(((x0[0]?).getD 0).toNat:Int)
 bindO (f1 x0 1 2) fun r1=>
 letI qb:=3+r1.1
 letI qe:=decide (w64 qb≤(x0.size:Int))
 letI qa:=x0.extract 0 ((w64 qb).toNat)
 bif r1.2.1 !=0 then
 some (0,noS,30,())
 else
 bif(x0.size:Int) !=(w64 ((w64 qb)+4)) then
 some (0,noS,30,())
 else
 bif decide (505<r1.1) then
 some (0,noS,30,())
 else
 gd qd<|
 bif qc==0 then
 some (0,noS,30,())
 else
 gd qd<|
 bif decide (127<qc) then
 some (0,noS,30,())
 else
 bindO (f1 x0 (w64 qb) 4) fun r2=>
 gd (decide (0≤w64 qb))<|
 gd qe<|
 gF (rowsS qa) (0+(qa.size))<|
 bindO (f2 ((rowsS qa).take (qa.size))) fun r3=>
 bif r2.1 !=r3 then
 some (0,noS,30,())
 else
 gd qd<|
 gd (decide (0≤w64 qb))<|
 gd qe<|
 gd (decide (3≤((w64 qb).toNat:Int)))<|
 some (IntKind.i8.wrap qc,x0.extract 3 ((w64 qb).toNat),0,())
theorem yXM(f1 f2):yKK.Eq [yDu.s f1,yQ8.s f2] .no (yQw f1 f2):=fun _=>by kernel_rfl
def yPp(L:Nat):yKK.T:=yQw (yB4 L) (crc_Sum L)
theorem yXL(L:Nat):yKK.C (yPp L):=yKK.c (yXM (yB4 L) (crc_Sum L)) (tC (yPM L).ent (tC (crc_Sum_c L).ent tN)) Tryz.func340 (by kernel_rfl) (lN _)
abbrev yK9:=fw2 299 (caC (cdI .i8) (caC cdS caN)) (cdT (caC cdS (caC cI caN)))
abbrev yT0(f1:yKK.T)(x0:Int)(x1:ByteArray):Option (ByteArray×Int×Unit):=
 bindO (f1 x1) fun r1=>
 bif r1.2.2.1 !=0 then
 some (noS,30,())
 else
 bif r1.1 !=x0 then
 some (noS,30,())
 else
 some (r1.2.1,0,())
theorem yXj(f1):yK9.Eq [yKK.s f1] .no (yT0 f1):=fun _=>by kernel_rfl
def yPo(L:Nat):yK9.T:=yT0 (yPp L)
theorem yWd(L:Nat):yK9.C (yPo L):=yK9.c (yXj (yPp L)) (tC (yXL L).ent tN) Tryz.func299 (by kernel_rfl) (lN _)
abbrev yFe:=fw1 258 (caC cdS caN) (cdT (caC yMp (caC cdS (caC cdB (caC cI caN)))))
abbrev yKU(f1:yK9.T)(f2:yBY.T)(x0:ByteArray):Option (yAE×ByteArray×Bool×Int×Unit):=
 bif x0.toList==noS.toList then
 some (yAE.z,noS,false,0,())
 else
 bindO (f1 5 x0) fun r1=>
 bif r1.2.1 !=0 then
 some (yAE.z,noS,false,50,())
 else
 bindO (f2 r1.1) fun r2=>
 bif r2.2.1 !=0 then
 some (yAE.z,noS,false,50,())
 else
 some (r2.1,r1.1,true,0,())
theorem yUE(f1 f2):yFe.Eq [yK9.s f1,yBY.s f2] .no (yKU f1 f2):=fun _=>by kernel_rfl
def yGD(L:Nat):yFe.T:=yKU (yPo L) (yBB L)
theorem yUD(L:Nat):yFe.C (yGD L):=yFe.c (yUE (yPo L) (yBB L)) (tC (yWd L).ent (tC (yHF L).ent tN)) Tryz.func258 (by kernel_rfl) (lN _)
abbrev yA1:=(List (List V))×(((Int×Unit)×Unit))×Int×Int×Unit
abbrev yBb:=Unit
abbrev yBc:=Int×Unit
abbrev yA8{α:Type}(s:yA1)(kn:yA1→Option α)(k0:yBb→Option α)(k1:yBc→Option α):Option α:=
 bif decide (s.2.2.2.1<s.2.2.1) then
 gI s.1 yAG.ks s.2.2.2.1<|
 bif(aI s.1 s.2.2.2.1.toNat 0)==s.2.1.1.1 then
 k1 (s.2.2.2.1,())
 else
 kn (s.1,((s.2.1.1.1,()),()),s.2.2.1,w64 (s.2.2.2.1+1),())
 else
 k0 (())
abbrev yA2:LW2 yA1 yBb yBc:=⟨(lvC 0 (mP cdR) (lvC 1 (mP (cdF 261 (caC (cdP (caC cI caN)) caN))) (lvC 7 (mP cI) (lvC 8 (mP cI) lvN)))),(.exit 0),lvN,.ret,(lvC 4 (mP cI) lvN)⟩
theorem yEw{α:Type}:yA2.Eq (α:=α) [] Tryz.f260 [1,0,1,0] .no (yA8):=fun _ _ _=>by kernel_rfl
abbrev yAX:=fw2 260 (caC cdR (caC (cdF 261 (caC (cdP (caC cI caN)) caN)) caN)) cI
abbrev yBm(F0:LF2 yA1 yBb yBc (Int))(x0:List (List V))(x1:(Int×Unit)×Unit):Option Int:=
 F0 (x0,((x1.1.1,()),()),(x0.length:Int),0,()) (fun q1=>
 some (-1)) (fun q2=>
 some q2.1)
theorem yFv(F0):yAX.Eq [] (.two .no (.two (.two .no (.one (.lp (yA2.s F0)))) .no)) (yBm F0):=fun _=>by kernel_rfl
def yAs(L:Nat):yAX.T:=yBm (loop2 (yA8) L)
theorem yEq{α:Type}(L:Nat):LO Tryz.f260 [1,0,1,0] (yA2.s (α:=α) (loop2 (yA8) L)):=yA2.k (yEw) tN (lN _) (by kernel_rfl) L
theorem yFu(L:Nat):yAX.C (yAs L):=yAX.c (yFv (loop2 (yA8) L)) tN Tryz.func260 (by kernel_rfl) (lS (lN _) (lS (lS (lN _) (lB (lL (yEq L)))) (lN _)))
abbrev yIe:=fw2 198 (caC yCp (caC cI caN)) (cdT (caC cI (caC cdB caN)))
abbrev yPr(f1:yAX.T)(x0:yAC)(x1:Int):Option (Int×Bool×Unit):=
 bif decide (x1<1) then
 some (0,false,())
 else
 bindO (f1 x0.Slots ((x1,()),())) fun r1=>
 some (minI true r1 0,decide (0≤r1),())
theorem yWf(f1):yIe.Eq [(260,spF 1 [(261,(yAX.s f1).2)])] .no (yPr f1):=fun _=>by kernel_rfl
def yPz(L:Nat):yIe.T:=yPr (yAs L)
theorem yWe(L:Nat):yIe.C (yPz L):=yIe.c (yWf (yAs L)) (tC (spF_ok (spF_cons (yFu L).ent spF_nil)) tN) Tryz.func198 (by kernel_rfl) (lN _)
abbrev yCB:=fw2 359 (caC (cdP yU3) (caC cI caN)) (cdT (caC cI (caC cdB caN)))
abbrev yKT(f1:yIe.T)(x0:yBA)(x1:Int):Option (Int×Bool×Unit):=
 bindO (f1 x0.Table x1) fun r1=>
 some (r1.1,r1.2.1,())
theorem ySA(f1):yCB.Eq [yIe.s f1] .no (yKT f1):=fun _=>by kernel_rfl
def yDM(L:Nat):yCB.T:=yKT (yPz L)
theorem yNp(L:Nat):yCB.C (yDM L):=yCB.c (ySA (yPz L)) (tC (yWe L).ent tN) Tryz.func359 (by kernel_rfl) (lN _)
abbrev yCO:=fw1 360 (caC yXo caN) cdB
abbrev yLp(x0:yJT):Option Bool:=
 some (x0.Key==0)
theorem yQH:yCO.Eq [] .no (yLp):=fun _=>by kernel_rfl
def yEC(L:Nat):yCO.T:=yLp
theorem yQG(L:Nat):yCO.C (yEC L):=yCO.c (yQH) tN Tryz.func360 (by kernel_rfl) (lN _)
abbrev yA3:=(List (List V))×Unit×Int×Int×Unit
abbrev yBd:=Unit
abbrev yBe:=Int×Unit
abbrev yA9{α:Type}(f1:yCO.T)(s:yA3)(kn:yA3→Option α)(k0:yBd→Option α)(k1:yBe→Option α):Option α:=
 bif decide (s.2.2.2.1<s.2.2.1) then
 gI s.1 yAG.ks s.2.2.2.1<|
 bindO (f1 (⟨aI s.1 s.2.2.2.1.toNat 0,aI s.1 s.2.2.2.1.toNat 1⟩:yJT)) fun r1=>
 bif r1 then
 k1 (s.2.2.2.1,())
 else
 kn (s.1,(()),s.2.2.1,w64 (s.2.2.2.1+1),())
 else
 k0 (())
abbrev yA4:LW2 yA3 yBd yBe:=⟨(lvC 0 (mP cdR) (lvC 1 (mP (cdF 360 caN)) (lvC 7 (mP cI) (lvC 8 (mP cI) lvN)))),(.exit 0),lvN,.ret,(lvC 4 (mP cI) lvN)⟩
theorem yEx{α:Type}(f1):yA4.Eq (α:=α) [yCO.s f1] Tryz.f260 [1,0,1,0] .no (yA9 f1):=fun _ _ _=>by kernel_rfl
abbrev yAY:=fw2 260 (caC cdR (caC (cdF 360 caN) caN)) cI
abbrev yBn(F0:LF2 yA3 yBd yBe (Int))(x0:List (List V))(x1:Unit):Option Int:=
 F0 (x0,(()),(x0.length:Int),0,()) (fun q1=>
 some (-1)) (fun q2=>
 some q2.1)
theorem yFx(F0):yAY.Eq [] (.two .no (.two (.two .no (.one (.lp (yA4.s F0)))) .no)) (yBn F0):=fun _=>by kernel_rfl
def yAt(L:Nat):yAY.T:=yBn (loop2 (yA9 (yEC L)) L)
theorem yEr{α:Type}(L:Nat):LO Tryz.f260 [1,0,1,0] (yA4.s (α:=α) (loop2 (yA9 (yEC L)) L)):=yA4.k (yEx (yEC L)) (tC (yQG L).ent tN) (lN _) (by kernel_rfl) L
theorem yFw(L:Nat):yAY.C (yAt L):=yAY.c (yFx (loop2 (yA9 (yEC L)) L)) tN Tryz.func260 (by kernel_rfl) (lS (lN _) (lS (lS (lN _) (lB (lL (yEr L)))) (lN _)))
end Go.Proofs.YtakljpcmbpaeaaaGreat

namespace Go.Proofs.YtakljpcmbpaeaaaGreat
open Go.RowKit
set_option maxRecDepth 100000
set_option maxHeartbeats 16000000
abbrev yDF:=fw2 392 (caC yM7 (caC cI caN)) cdB
abbrev yKQ(x0:yAa)(x1:Int):Option Bool:=
 bif decide (x0.Span.Lo≤x1) then
 some (decide (x1≤x0.Span.Hi))
 else
 some false
theorem yR5:yDF.Eq [] .no (yKQ):=fun _=>by kernel_rfl
def yJO(L:Nat):yDF.T:=yKQ
theorem yR4(L:Nat):yDF.C (yJO L):=yDF.c (yR5) tN Tryz.func392 (by kernel_rfl) (lN _)
abbrev yBu:=fw2 388 (caC yM7 (caC yM7 caN)) cdB
abbrev yH6(f1:yDF.T)(x0:yAa)(x1:yAa):Option Bool:=
 bif !(decide (x0.Span.Hi<x0.Span.Lo)) then
 bif !(decide (x1.Span.Hi<x1.Span.Lo)) then
 bindO (f1 x0 x1.Span.Lo) fun r1=>
 bif r1 then
 some true
 else
 bindO (f1 x1 x0.Span.Lo) fun r2=>
 some r2
 else
 some false
 else
 some false
theorem yQ0(f1):yBu.Eq [yDF.s f1] .no (yH6 f1):=fun _=>by kernel_rfl
def yCb(L:Nat):yBu.T:=yH6 (yJO L)
theorem yMn(L:Nat):yBu.C (yCb L):=yBu.c (yQ0 (yJO L)) (tC (yR4 L).ent tN) Tryz.func388 (by kernel_rfl) (lN _)
abbrev yDg:=fw2 394 (caC ySB (caC ySB caN)) cdB
abbrev yLh(f1:yBu.T)(x0:yBS)(x1:yBS):Option Bool:=
 bif x0.key_==x1.key_ then
 some true
 else
 bindO (f1 x0.blocks_ x1.blocks_) fun r1=>
 bif !r1 then
 some true
 else
 bif x0.mode_==1 then
 some (x1.mode_==1)
 else
 some false
theorem ySz(f1):yDg.Eq [yBu.s f1] .no (yLh f1):=fun _=>by kernel_rfl
def yK0(L:Nat):yDg.T:=yLh (yCb L)
theorem ySy(L:Nat):yDg.C (yK0 L):=yDg.c (ySz (yCb L)) (tC (yMn L).ent tN) Tryz.func394 (by kernel_rfl) (lN _)
abbrev yEt:=fw2 390 (caC yO7 (caC yO7 caN)) cdB
abbrev yMm(f1:yDg.T)(x0:yAI)(x1:yAI):Option Bool:=
 bindO (f1 (⟨(⟨x0.Span⟩:yAa),x0.Key,x0.Mode⟩:yBS) (⟨(⟨x1.Span⟩:yAa),x1.Key,x1.Mode⟩:yBS)) fun r1=>
 some r1
theorem yT2(f1):yEt.Eq [yDg.s f1] .no (yMm f1):=fun _=>by kernel_rfl
def yFR(L:Nat):yEt.T:=yMm (yK0 L)
theorem yT1(L:Nat):yEt.C (yFR L):=yEt.c (yT2 (yK0 L)) (tC (ySy L).ent tN) Tryz.func390 (by kernel_rfl) (lN _)
abbrev yAp:=(List (List V))×((((yAI×Unit)×Unit)×Unit))×Int×Int×Unit
abbrev yBO:=Unit
abbrev yBP:=Int×Unit
abbrev yAy{α:Type}(f1:yEt.T)(s:yAp)(kn:yAp→Option α)(k0:yBO→Option α)(k1:yBP→Option α):Option α:=
 bif decide (s.2.2.2.1<s.2.2.1) then
 gI s.1 yAI.ks s.2.2.2.1<|
 bindO (f1 s.2.1.1.1.1 (⟨aI s.1 s.2.2.2.1.toNat 0,(⟨aI s.1 s.2.2.2.1.toNat 1,aI s.1 s.2.2.2.1.toNat 2⟩:yAG),aI s.1 s.2.2.2.1.toNat 3⟩:yAI)) fun r1=>
 bif !r1 then
 k1 (s.2.2.2.1,())
 else
 kn (s.1,(((s.2.1.1.1.1,()),()),()),s.2.2.1,w64 (s.2.2.2.1+1),())
 else
 k0 (())
abbrev yAq:LW2 yAp yBO yBP:=⟨(lvC 0 (mP cdR) (lvC 1 (mP (cdF 387 (caC (cdP (caC (cdF 389 (caC (cdP yS4) caN)) caN)) caN))) (lvC 7 (mP cI) (lvC 8 (mP cI) lvN)))),(.exit 0),lvN,.ret,(lvC 4 (mP cI) lvN)⟩
theorem yD7{α:Type}(f1):yAq.Eq (α:=α) [yEt.s f1] Tryz.f366 [1,0,1,0] .no (yAy f1):=fun _ _ _=>by kernel_rfl
abbrev yAU:=fw2 366 (caC cdR (caC (cdF 387 (caC (cdP (caC (cdF 389 (caC (cdP yS4) caN)) caN)) caN)) caN)) cI
abbrev yBX(F0:LF2 yAp yBO yBP (Int))(x0:List (List V))(x1:((yAI×Unit)×Unit)×Unit):Option Int:=
 F0 (x0,(((x1.1.1.1,()),()),()),(x0.length:Int),0,()) (fun q1=>
 some (-1)) (fun q2=>
 some q2.1)
theorem yEp(F0):yAU.Eq [] (.two .no (.two (.two .no (.one (.lp (yAq.s F0)))) .no)) (yBX F0):=fun _=>by kernel_rfl
def yAe(L:Nat):yAU.T:=yBX (loop2 (yAy (yFR L)) L)
theorem yDW{α:Type}(L:Nat):LO Tryz.f366 [1,0,1,0] (yAq.s (α:=α) (loop2 (yAy (yFR L)) L)):=yAq.k (yD7 (yFR L)) (tC (yT1 L).ent tN) (lN _) (by kernel_rfl) L
theorem yEo(L:Nat):yAU.C (yAe L):=yAU.c (yEp (loop2 (yAy (yFR L)) L)) tN Tryz.func366 (by kernel_rfl) (lS (lN _) (lS (lS (lN _) (lB (lL (yDW L)))) (lN _)))
abbrev yAM:=fw2 386 (caC cdR (caC (cdF 387 (caC (cdP (caC (cdF 389 (caC (cdP yS4) caN)) caN)) caN)) caN)) cdB
abbrev yBJ(f1:yAU.T)(x0:List (List V))(x1:((yAI×Unit)×Unit)×Unit):Option Bool:=
 bindO (f1 x0 (((x1.1.1.1,()),()),())) fun r1=>
 some (decide (0≤r1))
theorem yD4(f1):yAM.Eq [(366,spF 1 [(387,(yAU.s f1).2)])] .no (yBJ f1):=fun _=>by kernel_rfl
def yAv(L:Nat):yAM.T:=yBJ (yAe L)
theorem yD3(L:Nat):yAM.C (yAv L):=yAM.c (yD4 (yAe L)) (tC (spF_ok (spF_cons (yEo L).ent spF_nil)) tN) Tryz.func386 (by kernel_rfl) (lN _)
abbrev yDH:=fw2 375 (caC (cdF 389 (caC (cdP yS4) caN)) (caC cdR caN)) cdB
abbrev yKS(f1:yAM.T)(x0:yAI×Unit)(x1:List (List V)):Option Bool:=
 bindO (f1 x1 (((x0.1,()),()),())) fun r1=>
 some !r1
theorem yR9(f1):yDH.Eq [(386,spF 1 [(387,(yAM.s f1).2)])] .no (yKS f1):=fun _=>by kernel_rfl
def yJQ(L:Nat):yDH.T:=yKS (yAv L)
theorem yR8(L:Nat):yDH.C (yJQ L):=yDH.c (yR9 (yAv L)) (tC (spF_ok (spF_cons (yD3 L).ent spF_nil)) tN) Tryz.func375 (by kernel_rfl) (lN _)
abbrev yKO:=fw2 378 (caC yO7 (caC cdR caN)) cdB
abbrev yQy(f1:yDH.T)(x0:yAI)(x1:List (List V)):Option Bool:=
 bindO (f1 (x0,()) x1) fun r1=>
 some r1
theorem yXQ(f1):yKO.Eq [(375,spF 0 [(389,(yDH.s f1).2)])] .no (yQy f1):=fun _=>by kernel_rfl
def yLA(L:Nat):yKO.T:=yQy (yJQ L)
theorem yXP(L:Nat):yKO.C (yLA L):=yKO.c (yXQ (yJQ L)) (tC (spF_ok (spF_cons (yR8 L).ent spF_nil)) tN) Tryz.func378 (by kernel_rfl) (lN _)
end Go.Proofs.YtakljpcmbpaeaaaGreat
