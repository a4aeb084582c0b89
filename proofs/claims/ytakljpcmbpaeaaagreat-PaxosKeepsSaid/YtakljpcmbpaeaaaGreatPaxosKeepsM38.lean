/- Typed functions. (printed by wip/sx) -/
import Derived.Test.YtakljpcmbpaeaaaGreatPaxosKeepsM36
import Derived.Test.YtakljpcmbpaeaaaGreatPaxosKeepsM37
set_option linter.unusedSimpArgs false
set_option linter.unusedVariables false
namespace Go.Proofs.YtakljpcmbpaeaaaGreat
open Go.RowKit
set_option maxRecDepth 100000
set_option maxHeartbeats 16000000

abbrev yBG := fw1 327 (caC (cdP yHv) caN) cdB
abbrev yFR (f1 : yBp.T) (x0 : yAM) : Option Bool :=
 bindO (f1 x0.Rec.Inst 0 512) fun r1 =>
 bif r1 then
 bindO (f1 x0.Rec.Mbal 0 1099511627776) fun r2 =>
 bif r2 then
 bindO (f1 x0.Rec.Bal 0 x0.Rec.Mbal) fun r3 =>
 bif r3 then
 bif decide ((x0.Rec.Val.size : Int) ≤ 64) then
 some ((x0.Rec.Bal == 0) == (x0.Rec.Val.toList == noS.toList))
 else
 some false
 else
 some false
 else
 some false
 else
 some false
theorem yLw (f1) : yBG.Eq [yBp.s f1] .no (yFR f1) := fun _ => by kernel_rfl
def yBV (L : Nat) : yBG.T := yFR (yCv L)
theorem yIa (L : Nat) : yBG.C (yBV L) := yBG.c (yLw (yCv L)) (tC (yKm L).ent tN) Tryz.func327 (by kernel_rfl) (lN _)
abbrev yET := fw1 289 (caC cdS caN) (cdT (caC yNo (caC cI caN)))
abbrev yJv (f1 : yEx.T) (f2 : yBG.T) (x0 : ByteArray) : Option (yAN × Int × Unit) :=
 bif x0.toList == noS.toList then
 some (yAN.z, 0, ())
 else
 bindO (f1 4 x0 ([[V.int .i64 2], [V.int .i64 6], [V.int .i64 6]])) fun r1 =>
 bif r1.2.2.1 != 0 then
 some (yAN.z, 50, ())
 else
 gd (decide (0 < (r1.1.length : Int))) <|
 gL r1.1 kI 0 0 <|
 gd (decide (1 < (r1.1.length : Int))) <|
 gL r1.1 kI 1 0 <|
 gd (decide (2 < (r1.1.length : Int))) <|
 gL r1.1 kI 2 0 <|
 bindO (f2 (⟨(⟨aI r1.1 0 0, aI r1.1 1 0, aI r1.1 2 0, r1.2.1⟩ : yAN)⟩ : yAM)) fun r2 =>
 bif !r2 then
 some (yAN.z, 50, ())
 else
 some ((⟨aI r1.1 0 0, aI r1.1 1 0, aI r1.1 2 0, r1.2.1⟩ : yAN), 0, ())
theorem yPH (f1 f2) : yET.Eq [yEx.s f1, yBG.s f2] .no (yJv f1 f2) := fun _ => by kernel_rfl
def yCu (L : Nat) : yET.T := yJv (yHE L) (yBV L)
theorem yPG (L : Nat) : yET.C (yCu L) := yET.c (yPH (yHE L) (yBV L)) (tC (yPt L).ent (tC (yIa L).ent tN)) Tryz.func289 (by kernel_rfl) (lN _)
abbrev yGV := fw2 290 (caC yNo (caC cI caN)) yNo
abbrev yLv (x0 : yAN) (x1 : Int) : Option yAN :=
 bif x0.Inst != x1 then
 some (⟨x1, x0.Mbal, 0, noS⟩ : yAN)
 else
 some x0
theorem yQd : yGV.Eq [] .no (yLv) := fun _ => by kernel_rfl
def yKw (L : Nat) : yGV.T := yLv
theorem yQc (L : Nat) : yGV.C (yKw L) := yGV.c (yQd) tN Tryz.func290 (by kernel_rfl) (lN _)
abbrev yCG := (List (List V)) × Int × Int × Unit
abbrev yDX := Int × Unit
abbrev yBI {α : Type} (s : yCG) (kn : yCG → Option α) (k0 : yDX → Option α) : Option α :=
 bif decide (s.2.2.1 < (s.1.length : Int)) then
 gI s.1 kI s.2.2.1 <|
 kn (s.1, minI true s.2.1 (aI s.1 s.2.2.1.toNat 0), w64 (s.2.2.1 + 1), ())
 else
 k0 (s.2.1, ())
abbrev yCH : LW1 yCG yDX := ⟨(lvC 0 (mP cdR) (lvC 3 (mP cI) (lvC 4 (mP cI) lvN))), (.exit 0), (lvC 3 (mP cI) lvN)⟩
theorem yKk {α : Type} : yCH.Eq (α := α) [] Tryz.f328 [1, 1, 1, 0, 1, 0] .no (yBI) := fun _ _ _ => by kernel_rfl
abbrev yBn := fw1 328 (caC cdR caN) cI
abbrev yE6 (F0 : LF1 yCG yDX (Int)) (x0 : List (List V)) : Option Int :=
 bif decide ((x0.length : Int) < 1) then none else
 gd (decide (0 < (x0.length : Int))) <|
 gd (rowIs kI x0 0) <|
 F0 (x0, aI x0 0 0, 1, ()) (fun q1 =>
 some q1.1)
theorem yLo (F0) : yBn.Eq [] (.two .no (.two .no (.two .no (.two (.two .no (.one (.lp (yCH.s F0)))) .no)))) (yE6 F0) := fun _ => by kernel_rfl
def yCr (L : Nat) : yBn.T := yE6 (loop1 (yBI) L)
theorem yJt {α : Type} (L : Nat) : LO Tryz.f328 [1, 1, 1, 0, 1, 0] (yCH.s (α := α) (loop1 (yBI) L)) := yCH.k (yKk) tN (lN _) (by kernel_rfl) L
theorem yLn (L : Nat) : yBn.C (yCr L) := yBn.c (yLo (loop1 (yBI) L)) tN Tryz.func328 (by kernel_rfl) (lS (lN _) (lS (lN _) (lS (lN _) (lS (lS (lN _) (lB (lL (yJt L)))) (lN _)))))
abbrev yFC := Int × Int × Int × Unit
abbrev yHt := Int × Int × Unit
abbrev yCt {α : Type} (s : yFC) (kn : yFC → Option α) (k0 : yHt → Option α) : Option α :=
 bif decide (w64 ((w64 (s.2.2.1 * 16)) + s.1) ≤ s.2.1) then
 kn (s.1, s.2.1, w64 (s.2.2.1 + 1), ())
 else
 k0 (s.1, s.2.2.1, ())
abbrev yFD : LW1 yFC yHt := ⟨(lvC 0 (mP cI) (lvC 5 (mP cI) (lvC 6 (mP cI) lvN))), (.exit 0), (lvC 0 (mP cI) (lvC 6 (mP cI) lvN))⟩
theorem yNM {α : Type} : yFD.Eq (α := α) [] Tryz.f291 [1, 1, 1, 1, 0, 0] .no (yCt) := fun _ _ _ => by kernel_rfl
abbrev yES := fw2 291 (caC cI (caC cdR caN)) cI
abbrev yJu (f1 : yBn.T) (f2 : yBp.T) (F0 : LF1 yFC yHt (Int)) (x0 : Int) (x1 : List (List V)) : Option Int :=
 gd (x1.all fun r => Nat.beq r.length 1) <|
 gM (1 + x1.length) 8 <|
 gF (([[V.int .i64 0]]) ++ x1) (0 + (1 + x1.length)) <|
 bindO (f1 ((([[V.int .i64 0]]) ++ x1).take (1 + x1.length))) fun r1 =>
 bindO (f2 x0 0 15) fun r2 =>
 bif !r2 then
 some 0
 else
 bif decide (1099511627776 < r1) then
 some 0
 else
 F0 (x0, r1, minI true 1 (w64 ((w64 (r1 - x0)).tdiv 16)), ()) (fun q3 =>
 bif decide (w64 ((w64 (q3.2.1 * 16)) + q3.1) ≤ 1099511627776) then
 some (w64 ((w64 (q3.2.1 * 16)) + q3.1))
 else
 some 0)
theorem yPF (f1 f2 F0) : yES.Eq [yBn.s f1, yBp.s f2] (.two .no (.two .no (.two .no (.two .no (.two (.one (.lp (yFD.s F0))) .no))))) (yJu f1 f2 F0) := fun _ => by kernel_rfl
def yGW (L : Nat) : yES.T := yJu (yCr L) (yCv L) (loop1 (yCt) L)
theorem yMv {α : Type} (L : Nat) : LO Tryz.f291 [1, 1, 1, 1, 0, 0] (yFD.s (α := α) (loop1 (yCt) L)) := yFD.k (yNM) tN (lN _) (by kernel_rfl) L
theorem yPE (L : Nat) : yES.C (yGW L) := yES.c (yPF (yCr L) (yCv L) (loop1 (yCt) L)) (tC (yLn L).ent (tC (yKm L).ent tN)) Tryz.func291 (by kernel_rfl) (lS (lN _) (lS (lN _) (lS (lN _) (lS (lN _) (lS (lB (lL (yMv L))) (lN _))))))
abbrev yFa := fw1 330 (caC yNo caN) cdB
abbrev yKx (f1 : yBG.T) (x0 : yAN) : Option Bool :=
 bindO (f1 (⟨x0⟩ : yAM)) fun r1 =>
 some r1
theorem yPx (f1) : yFa.Eq [yBG.s f1] .no (yKx f1) := fun _ => by kernel_rfl
def yLY (L : Nat) : yFa.T := yKx (yBV L)
theorem yPw (L : Nat) : yFa.C (yLY L) := yFa.c (yPx (yBV L)) (tC (yIa L).ent tN) Tryz.func330 (by kernel_rfl) (lN _)
abbrev yA8 := mw1 189 (zW 1 (zP cI (zP (cdI .i8) zN))) 3 (caC cdS caN) (cdT (caC cdS (caC cI caN)))
abbrev yE2 (f1 : yJk.T) (f2 : yMX.T) (x0 : (List (List V)) × Int × Int × Unit) (x1 : ByteArray) : Option ((ByteArray × Int × Unit) × ((List (List V)) × Int × Int × Unit)) :=
 bif decide (x0.2.2.1 < 1) then
 gW x0.1 x0.1.length <|
 some ((noS, 2, ()), (x0.1, x0.2.1, x0.2.2.1, ()))
 else
 bif decide (505 < (x1.size : Int)) then
 gW x0.1 x0.1.length <|
 some ((noS, 2, ()), (x0.1, x0.2.1, x0.2.2.1, ()))
 else
 bindO (f1 ([[V.int .u8 (IntKind.u8.wrap x0.2.2.1)]]) 2 ([[V.int .i64 (x1.size : Int)]])) fun r1 =>
 bif r1.2.1 != 0 then
 gM (1 + ((rowsS x1).length)) 1 <|
 gF (([[V.int .u8 (IntKind.u8.wrap x0.2.2.1)]]) ++ (rowsS x1)) (0 + (1 + ((rowsS x1).length))) <|
 bindO (f2 ((([[V.int .u8 (IntKind.u8.wrap x0.2.2.1)]]) ++ (rowsS x1)).take (1 + ((rowsS x1).length)))) fun r2 =>
 gF (([[V.int .u8 (IntKind.u8.wrap x0.2.2.1)]]) ++ (rowsS x1)) (0 + (1 + ((rowsS x1).length))) <|
 bindO (f1 ((([[V.int .u8 (IntKind.u8.wrap x0.2.2.1)]]) ++ (rowsS x1)).take (1 + ((rowsS x1).length))) 4 ([[V.int .i64 r2]])) fun r3 =>
 bif r3.2.1 != 0 then
 gd (Nat.ble (0 + (1 + ((rowsS x1).length))) ((([[V.int .u8 (IntKind.u8.wrap x0.2.2.1)]]) ++ (rowsS x1)).length)) <|
 gd ((bytesOf ((([[V.int .u8 (IntKind.u8.wrap x0.2.2.1)]]) ++ (rowsS x1)).take (1 + ((rowsS x1).length)))).isSome) <|
 gd (Nat.beq (max 1 (min 2000000 ((([[V.int .u8 (IntKind.u8.wrap x0.2.2.1)]]) ++ (rowsS x1)).length))) 0) <|
 gW (([[V.int .u8 (IntKind.u8.wrap x0.2.2.1)]]) ++ (rowsS x1)) (1 + ((rowsS x1).length)) <|
 some ((bytesS ((([[V.int .u8 (IntKind.u8.wrap x0.2.2.1)]]) ++ (rowsS x1)).take (1 + ((rowsS x1).length))), 2, ()), (([[V.int .u8 (IntKind.u8.wrap x0.2.2.1)]]) ++ (rowsS x1), 2, x0.2.2.1, ()))
 else
 gd (Nat.ble (0 + r3.1.length) r3.1.length) <|
 gd ((bytesOf (r3.1.take r3.1.length)).isSome) <|
 gW r3.1 r3.1.length <|
 some ((bytesS (r3.1.take r3.1.length), 2, ()), (r3.1, 2, x0.2.2.1, ()))
 else
 gd (Nat.beq (0 + r1.1.length) r1.1.length) <|
 gM (r1.1.length + ((rowsS x1).length)) 1 <|
 gF (r1.1 ++ (rowsS x1)) (0 + (r1.1.length + ((rowsS x1).length))) <|
 bindO (f2 ((r1.1 ++ (rowsS x1)).take (r1.1.length + ((rowsS x1).length)))) fun r4 =>
 gF (r1.1 ++ (rowsS x1)) (0 + (r1.1.length + ((rowsS x1).length))) <|
 bindO (f1 ((r1.1 ++ (rowsS x1)).take (r1.1.length + ((rowsS x1).length))) 4 ([[V.int .i64 r4]])) fun r5 =>
 bif r5.2.1 != 0 then
 gd (Nat.ble (0 + (r1.1.length + ((rowsS x1).length))) ((r1.1 ++ (rowsS x1)).length)) <|
 gd ((bytesOf ((r1.1 ++ (rowsS x1)).take (r1.1.length + ((rowsS x1).length)))).isSome) <|
 gd (Nat.beq (max 0 (min 2000000 ((r1.1 ++ (rowsS x1)).length))) 0) <|
 gW (r1.1 ++ (rowsS x1)) (r1.1.length + ((rowsS x1).length)) <|
 some ((bytesS ((r1.1 ++ (rowsS x1)).take (r1.1.length + ((rowsS x1).length))), 2, ()), (r1.1 ++ (rowsS x1), 2, x0.2.2.1, ()))
 else
 gd (Nat.ble (0 + r5.1.length) r5.1.length) <|
 gd ((bytesOf (r5.1.take r5.1.length)).isSome) <|
 gW r5.1 r5.1.length <|
 some ((bytesS (r5.1.take r5.1.length), x0.2.1, ()), (r5.1, x0.2.1, x0.2.2.1, ()))
theorem yLm (f1 f2) : yA8.Eq [yJk.s f1, yMX.s f2] .no (yE2 f1 f2) := fun _ _ => by kernel_rfl
def yBi (L : Nat) : yA8.T := yE2 (num_Put L) (crc_Sum L)
theorem yIE (L : Nat) : yA8.C (yBi L) := yA8.c (yLm (num_Put L) (crc_Sum L)) (tC (num_Put_c L).ent (tC (crc_Sum_c L).ent tN)) Tryz.func189 (by kernel_rfl) (lN _)
end Go.Proofs.YtakljpcmbpaeaaaGreat

namespace Go.Proofs.YtakljpcmbpaeaaaGreat
open Go.RowKit
set_option maxRecDepth 100000
set_option maxHeartbeats 16000000

abbrev yHl := ByteArray × (List (List V)) × ((List (List V)) × Int × Int × Unit) × (List (List V)) × Int × Int × Unit
abbrev yJZ := ByteArray × ((List (List V)) × Int × Int × Unit) × Unit
abbrev yJa := ByteArray × Int × Unit
abbrev yDR {α : Type} (f1 : yJk.T) (s : yHl) (kn : yHl → Option α) (k0 : yJZ → Option α) (k1 : yJa → Option α) : Option α :=
 bif decide (s.2.2.2.2.2.1 < s.2.2.2.2.1) then
 gI s.2.2.2.1 kI s.2.2.2.2.2.1 <|
 gI s.2.1 kI s.2.2.2.2.2.1 <|
 gF s.2.2.1.1 (0 + s.2.2.1.1.length) <|
 bindO (f1 (s.2.2.1.1.take s.2.2.1.1.length) (aI s.2.1 s.2.2.2.2.2.1.toNat 0) ([[V.int .i64 (aI s.2.2.2.1 s.2.2.2.2.2.1.toNat 0)]])) fun r1 =>
 bif r1.2.1 != 0 then
 k1 (noS, 2, ())
 else
 bif s.2.2.1.2.1 != 0 then
 k1 (noS, 2, ())
 else
 bif decide (505 < (r1.1.length : Int)) then
 k1 (noS, 2, ())
 else
 gW r1.1 r1.1.length <|
 kn (s.1, s.2.1, (r1.1, s.2.2.1.2.1, s.2.2.1.2.2.1, ()), s.2.2.2.1, s.2.2.2.2.1, w64 (s.2.2.2.2.2.1 + 1), ())
 else
 gW s.2.2.1.1 s.2.2.1.1.length <|
 k0 (s.1, (s.2.2.1.1, s.2.2.1.2.1, s.2.2.1.2.2.1, ()), ())
abbrev yHm : LW2 yHl yJZ yJa := ⟨(lvC 1 (mP cdS) (lvC 2 (mP cdR) (lvC 10 (mO (zW 1 (zP cI (zP (cdI .i8) zN))) 3) (lvC 21 (mP cdR) (lvC 22 (mP cI) (lvC 23 (mP cI) lvN)))))), (.exit 0), (lvC 1 (mP cdS) (lvC 10 (mO (zW 1 (zP cI (zP (cdI .i8) zN))) 3) lvN)), .ret, (lvC 8 (mP cdS) (lvC 9 (mP cI) lvN))⟩
theorem yPA {α : Type} (f1) : yHm.Eq (α := α) [yJk.s f1] Tryz.f139 [1, 1, 1, 0, 1, 0] .no (yDR f1) := fun _ _ _ => by kernel_rfl
abbrev yHF := fw4 139 (caC (cdI .i8) (caC cdS (caC cdR (caC cdR caN)))) (cdT (caC cdS (caC cI caN)))
abbrev yMN (f1 : yA8.T) (F0 : LF2 yHl yJZ yJa (ByteArray × Int × Unit)) (x0 : Int) (x1 : ByteArray) (x2 : List (List V)) (x3 : List (List V)) : Option (ByteArray × Int × Unit) :=
 bif (x2.length : Int) != (x3.length : Int) then
 some (noS, 2, ())
 else
 F0 (x1, x2, ([], 0, x0, ()), x3, (x3.length : Int), 0, ()) (fun q1 =>
 gd (Nat.ble (0 + q1.2.1.1.length) q1.2.1.1.length) <|
 gd ((bytesOf (q1.2.1.1.take q1.2.1.1.length)).isSome) <|
 gd (decide (((bytesS (q1.2.1.1.take q1.2.1.1.length)).size) + q1.1.size ≤ 9223372036854775807)) <|
 gW q1.2.1.1 q1.2.1.1.length <|
 bindO (f1 (q1.2.1.1, q1.2.1.2.1, q1.2.1.2.2.1, ()) ((bytesS (q1.2.1.1.take q1.2.1.1.length)) ++ q1.1)) fun r2 =>
 some (r2.1.1, r2.1.2.1, ())) (fun q3 =>
 some (q3.1, q3.2.1, ()))
theorem yRB (f1 F0) : yHF.Eq [yA8.s f1] (.two .no (.two .no (.two .no (.two (.two .no (.one (.lp (yHm.s F0)))) .no)))) (yMN f1 F0) := fun _ => by kernel_rfl
def yJr (L : Nat) : yHF.T := yMN (yBi L) (loop2 (yDR (num_Put L)) L)
theorem yOO {α : Type} (L : Nat) : LO Tryz.f139 [1, 1, 1, 0, 1, 0] (yHm.s (α := α) (loop2 (yDR (num_Put L)) L)) := yHm.k (yPA (num_Put L)) (tC (num_Put_c L).ent tN) (lN _) (by kernel_rfl) L
theorem yRA (L : Nat) : yHF.C (yJr L) := yHF.c (yRB (yBi L) (loop2 (yDR (num_Put L)) L)) (tC (yIE L).ent tN) Tryz.func139 (by kernel_rfl) (lS (lN _) (lS (lN _) (lS (lN _) (lS (lS (lN _) (lB (lL (yOO L)))) (lN _)))))
abbrev yBj := fw1 331 (caC (cdP yHv) caN) (cdT (caC cdS (caC cI caN)))
abbrev yEy (f1 : yBN.T) (f2 : yHF.T) (x0 : yAM) : Option (ByteArray × Int × Unit) :=
 bindO (f1 x0) fun r1 =>
 bindO (f2 4 x0.Rec.Val r1 ([[V.int .i64 x0.Rec.Inst], [V.int .i64 x0.Rec.Mbal], [V.int .i64 x0.Rec.Bal]])) fun r2 =>
 some (r2.1, r2.2.1, ())
theorem yLe (f1 f2) : yBj.Eq [yBN.s f1, yHF.s f2] .no (yEy f1 f2) := fun _ => by kernel_rfl
def yDy (L : Nat) : yBj.T := yEy (yC1 L) (yJr L)
theorem yLd (L : Nat) : yBj.C (yDy L) := yBj.c (yLe (yC1 L) (yJr L)) (tC (yKn L).ent (tC (yRA L).ent tN)) Tryz.func331 (by kernel_rfl) (lN _)
abbrev yDd := fw1 292 (caC yNo caN) (cdT (caC cdS (caC cI caN)))
abbrev yJD (f1 : yFa.T) (f2 : yBj.T) (x0 : yAN) : Option (ByteArray × Int × Unit) :=
 bindO (f1 x0) fun r1 =>
 bif !r1 then
 some (noS, 2, ())
 else
 bindO (f2 (⟨x0⟩ : yAM)) fun r2 =>
 some (r2.1, r2.2.1, ())
theorem yOR (f1 f2) : yDd.Eq [yFa.s f1, yBj.s f2] .no (yJD f1 f2) := fun _ => by kernel_rfl
def yFZ (L : Nat) : yDd.T := yJD (yLY L) (yDy L)
theorem yOQ (L : Nat) : yDd.C (yFZ L) := yDd.c (yOR (yLY L) (yDy L)) (tC (yPw L).ent (tC (yLd L).ent tN)) Tryz.func292 (by kernel_rfl) (lN _)
abbrev yCJ := fw3 293 (caC cI (caC cdS (caC cI caN))) yJe
abbrev yHP (x0 : Int) (x1 : ByteArray) (x2 : Int) : Option yAw :=
 bif x2 != 0 then
 some yAw.z
 else
 bif decide (x0 < 0) then
 some yAw.z
 else
 some (⟨2, x0, x1, 0⟩ : yAw)
theorem yOi : yCJ.Eq [] .no (yHP) := fun _ => by kernel_rfl
def yCo (L : Nat) : yCJ.T := yHP
theorem yLs (L : Nat) : yCJ.C (yCo L) := yCJ.c (yOi) tN Tryz.func293 (by kernel_rfl) (lN _)
abbrev yB3 := fw1 247 (caC (cdP yD6) caN) yJe
abbrev yGI (f1 : yDd.T) (f2 : yB7.T) (f3 : yCJ.T) (x0 : yAH) : Option yAw :=
 bindO (f1 x0.Prop_.Own) fun r1 =>
 bindO (f2 x0.g_ x0.Prop_.Node) fun r2 =>
 bindO (f3 r2 r1.1 r1.2.1) fun r3 =>
 some r3
theorem yMi (f1 f2 f3) : yB3.Eq [yDd.s f1, yB7.s f2, yCJ.s f3] .no (yGI f1 f2 f3) := fun _ => by kernel_rfl
def yFE (L : Nat) : yB3.T := yGI (yFZ L) (yCi L) (yCo L)
theorem yMh (L : Nat) : yB3.C (yFE L) := yB3.c (yMi (yFZ L) (yCi L) (yCo L)) (tC (yOQ L).ent (tC (yJ2 L).ent (tC (yLs L).ent tN))) Tryz.func247 (by kernel_rfl) (lN _)
abbrev yCQ := yAI × (List (List V)) × Int × Int × Unit
abbrev yDq := yAI × Unit
abbrev yC2 {α : Type} (s : yCQ) (kn : yCQ → Option α) (k0 : yDq → Option α) : Option α :=
 bif decide (s.2.2.2.1 < s.2.2.1) then
 gI s.2.1 kI s.2.2.2.1 <|
 kn ((⟨{ s.1.Tally with Seen := minI true s.1.Tally.Seen (aI s.2.1 s.2.2.2.1.toNat 0) }⟩ : yAI), s.2.1, s.2.2.1, w64 (s.2.2.2.1 + 1), ())
 else
 k0 (s.1, ())
abbrev yCR : LW1 yCQ yDq := ⟨(lvC 0 yLA (lvC 6 (mP cdR) (lvC 7 (mP cI) (lvC 8 (mP cI) lvN)))), (.exit 0), (lvC 0 yLA lvN)⟩
theorem yKp {α : Type} : yCR.Eq (α := α) [] Tryz.f332 [1, 0] .no (yC2) := fun _ _ _ => by kernel_rfl
abbrev yBt := mw1 332 (zS 7 yKy) 7 (caC cdR caN) (cdT caN)
abbrev yIc (F0 : LF1 yCQ yDq (Unit × yAI)) (x0 : yAI) (x1 : List (List V)) : Option (Unit × yAI) :=
 F0 (x0, x1, (x1.length : Int), 0, ()) (fun q1 =>
 some ((()), q1.1))
theorem yLz (F0) : yBt.Eq [] (.two .no (.one (.lp (yCR.s F0)))) (yIc F0) := fun _ _ => by kernel_rfl
def yEV (L : Nat) : yBt.T := yIc (loop1 (yC2) L)
theorem yJw {α : Type} (L : Nat) : LO Tryz.f332 [1, 0] (yCR.s (α := α) (loop1 (yC2) L)) := yCR.k (yKp) tN (lN _) (by kernel_rfl) L
theorem yLy (L : Nat) : yBt.C (yEV L) := yBt.c (yLz (loop1 (yC2) L)) tN Tryz.func332 (by kernel_rfl) (lS (lN _) (lB (lL (yJw L))))
abbrev yDz := Int × yAW × Int × Unit
abbrev yF6 := yAW × Unit
abbrev yF7 := Int × Unit
abbrev yCT {α : Type} (s : yDz) (kn : yDz → Option α) (k0 : yF6 → Option α) (k1 : yF7 → Option α) : Option α :=
 bif decide (s.2.2.1 < s.2.1.Nodes) then
 bif s.2.2.1 != s.1 then
 k1 (s.2.2.1, ())
 else
 kn (s.1, s.2.1, w64 (s.2.2.1 + 1), ())
 else
 k0 (s.2.1, ())
abbrev yD0 : LW2 yDz yF6 yF7 := ⟨(lvC 1 (mP cI) (lvC 3 yPC (lvC 7 (mP cI) lvN))), (.exit 0), (lvC 3 yPC lvN), .ret, (lvC 6 (mP cI) lvN)⟩
theorem yMS {α : Type} : yD0.Eq (α := α) [] Tryz.f333 [1, 0, 1, 0] .no (yCT) := fun _ _ _ => by kernel_rfl
abbrev yC3 := fw3 333 (caC yCa (caC cI (caC cI caN))) cI
abbrev yIb (F0 : LF2 yDz yF6 yF7 (Int)) (x0 : yAW) (x1 : Int) (x2 : Int) : Option Int :=
 F0 (x1, x0, minI true x2 0, ()) (fun q1 =>
 some q1.1.Nodes) (fun q2 =>
 some q2.1)
theorem yNq (F0) : yC3.Eq [] (.two .no (.two (.two .no (.one (.lp (yD0.s F0)))) .no)) (yIb F0) := fun _ => by kernel_rfl
def yEU (L : Nat) : yC3.T := yIb (loop2 (yCT) L)
theorem yLx {α : Type} (L : Nat) : LO Tryz.f333 [1, 0, 1, 0] (yD0.s (α := α) (loop2 (yCT) L)) := yD0.k (yMS) tN (lN _) (by kernel_rfl) L
theorem yNp (L : Nat) : yC3.C (yEU L) := yC3.c (yNq (loop2 (yCT) L)) tN Tryz.func333 (by kernel_rfl) (lS (lN _) (lS (lS (lN _) (lB (lL (yLx L)))) (lN _)))
abbrev yDe := fw1 334 (caC yRG caN) cdB
abbrev yJE (x0 : yAG) : Option Bool :=
 bif x0.Ahead then
 some true
 else
 some x0.Lost
theorem yOU : yDe.Eq [] .no (yJE) := fun _ => by kernel_rfl
def yFb (L : Nat) : yDe.T := yJE
theorem yOT (L : Nat) : yDe.C (yFb L) := yDe.c (yOU) tN Tryz.func334 (by kernel_rfl) (lN _)
abbrev yDf := fw2 335 (caC yRG (caC cdS caN)) cdS
abbrev yJF (x0 : yAG) (x1 : ByteArray) : Option ByteArray :=
 bif decide (0 < x0.Best) then
 some x0.Val
 else
 some x1
theorem yOW : yDf.Eq [] .no (yJF) := fun _ => by kernel_rfl
def yFc (L : Nat) : yDf.T := yJF
theorem yOV (L : Nat) : yDf.C (yFc L) := yDf.c (yOW) tN Tryz.func335 (by kernel_rfl) (lN _)
end Go.Proofs.YtakljpcmbpaeaaaGreat

namespace Go.Proofs.YtakljpcmbpaeaaaGreat
open Go.RowKit
set_option maxRecDepth 100000
set_option maxHeartbeats 16000000

abbrev yCY := fw1 249 (caC (cdP yD6) caN) yJe
abbrev yH0 (f1 : yB7.T) (f2 : yBw.T) (x0 : yAH) : Option yAw :=
 bindO (f1 x0.g_ x0.Prop_.I) fun r1 =>
 bindO (f2 r1) fun r2 =>
 some r2
theorem yNZ (f1 f2) : yCY.Eq [yB7.s f1, yBw.s f2] .no (yH0 f1 f2) := fun _ => by kernel_rfl
def yHS (L : Nat) : yCY.T := yH0 (yCi L) (yDV L)
theorem yNY (L : Nat) : yCY.C (yHS L) := yCY.c (yNZ (yCi L) (yDV L)) (tC (yJ2 L).ent (tC (yKA L).ent tN)) Tryz.func249 (by kernel_rfl) (lN _)
abbrev yCZ := fw1 251 (caC (cdP yD6) caN) yJe
abbrev yH1 (f1 : yB7.T) (f2 : yBw.T) (x0 : yAH) : Option yAw :=
 bindO (f1 x0.g_ x0.Prop_.I) fun r1 =>
 bindO (f2 r1) fun r2 =>
 some r2
theorem yNb (f1 f2) : yCZ.Eq [yB7.s f1, yBw.s f2] .no (yH1 f1 f2) := fun _ => by kernel_rfl
def yHT (L : Nat) : yCZ.T := yH1 (yCi L) (yDV L)
theorem yNa (L : Nat) : yCZ.C (yHT L) := yCZ.c (yNb (yCi L) (yDV L)) (tC (yJ2 L).ent (tC (yKA L).ent tN)) Tryz.func251 (by kernel_rfl) (lN _)
abbrev yHH := fw2 337 (caC (cdI .i8) (caC cdS caN)) (cdT (caC cdS (caC cI caN)))
abbrev yMQ (f1 : yA8.T) (x0 : Int) (x1 : ByteArray) : Option (ByteArray × Int × Unit) :=
 bindO (f1 ([], 0, x0, ()) x1) fun r1 =>
 some (r1.1.1, r1.1.2.1, ())
theorem yRF (f1) : yHH.Eq [yA8.s f1] .no (yMQ f1) := fun _ => by kernel_rfl
def yJs (L : Nat) : yHH.T := yMQ (yBi L)
theorem yRE (L : Nat) : yHH.C (yJs L) := yHH.c (yRF (yBi L)) (tC (yIE L).ent tN) Tryz.func337 (by kernel_rfl) (lN _)
abbrev yC4 := fw1 297 (caC cdS caN) (cdT (caC cdS (caC cI caN)))
abbrev yIe (f1 : yAx.T) (f2 : yHH.T) (x0 : ByteArray) : Option (ByteArray × Int × Unit) :=
 bindO (f1 x0) fun r1 =>
 bif r1.2.1 != 0 then
 some (noS, 2, ())
 else
 bindO (f2 5 x0) fun r2 =>
 some (r2.1, r2.2.1, ())
theorem yNs (f1 f2) : yC4.Eq [yAx.s f1, yHH.s f2] .no (yIe f1 f2) := fun _ => by kernel_rfl
def yF8 (L : Nat) : yC4.T := yIe (yAl L) (yJs L)
theorem yNr (L : Nat) : yC4.C (yF8 L) := yC4.c (yNs (yAl L) (yJs L)) (tC (yE7 L).ent (tC (yRE L).ent tN)) Tryz.func297 (by kernel_rfl) (lN _)
abbrev yBm := fw1 252 (caC (cdP yD6) caN) yJe
abbrev yE1 (f1 : yC4.T) (f2 : yE8.T) (f3 : yCJ.T) (x0 : yAH) : Option yAw :=
 bindO (f1 x0.Prop_.Own.Val) fun r1 =>
 bindO (f2 x0.g_ x0.done_) fun r2 =>
 bindO (f3 r2 r1.1 r1.2.1) fun r3 =>
 some r3
theorem yLl (f1 f2 f3) : yBm.Eq [yC4.s f1, yE8.s f2, yCJ.s f3] .no (yE1 f1 f2 f3) := fun _ => by kernel_rfl
def yD2 (L : Nat) : yBm.T := yE1 (yF8 L) (yIg L) (yCo L)
theorem yLk (L : Nat) : yBm.C (yD2 L) := yBm.c (yLl (yF8 L) (yIg L) (yCo L)) (tC (yNr L).ent (tC (yNw L).ent (tC (yLs L).ent tN))) Tryz.func252 (by kernel_rfl) (lN _)
abbrev yFm := fw3 81 (caC yCa (caC yNn (caC cI caN))) (cdT (caC yJe (caC cI caN)))
abbrev yEJ (f1 : yE8.T) (f2 : yCW.T) (f3 : yCX.T) (f4 : yB3.T) (f5 : yCY.T) (f6 : yCZ.T) (f7 : yBm.T) (x0 : yAW) (x1 : yAK) (x2 : Int) : Option (yAw × Int × Unit) :=
 bif decide (x1.At < 0) then
 some (yAw.z, 0, ())
 else
 bif decide (7 ≤ w64 x1.At) then
 some (yAw.z, 0, ())
 else
 bif decide (x1.At = 0) then
 bif x1.At == 0 then
 bindO (f1 x0 x2) fun r1 =>
 bif decide (r1 < 0) then
 some (yAw.z, 150, ())
 else
 bindO (f2 (⟨x1, x0, yAJ.z, x2, false⟩ : yAH)) fun r2 =>
 some (r2, 0, ())
 else
 bindO (f2 (⟨x1, x0, yAJ.z, x2, false⟩ : yAH)) fun r3 =>
 some (r3, 0, ())
 else
 bif decide (x1.At = 1) then
 bif x1.At == 0 then
 bindO (f1 x0 x2) fun r4 =>
 bif decide (r4 < 0) then
 some (yAw.z, 150, ())
 else
 bindO (f3 (⟨x1, x0, yAJ.z, x2, false⟩ : yAH)) fun r5 =>
 some (r5, 0, ())
 else
 bindO (f3 (⟨x1, x0, yAJ.z, x2, false⟩ : yAH)) fun r6 =>
 some (r6, 0, ())
 else
 bif decide (x1.At = 2) then
 bif x1.At == 0 then
 bindO (f1 x0 x2) fun r7 =>
 bif decide (r7 < 0) then
 some (yAw.z, 150, ())
 else
 bindO (f4 (⟨x1, x0, yAJ.z, x2, false⟩ : yAH)) fun r8 =>
 some (r8, 0, ())
 else
 bindO (f4 (⟨x1, x0, yAJ.z, x2, false⟩ : yAH)) fun r9 =>
 some (r9, 0, ())
 else
 bif decide (x1.At = 3) then
 bif x1.At == 0 then
 bindO (f1 x0 x2) fun r10 =>
 bif decide (r10 < 0) then
 some (yAw.z, 150, ())
 else
 bindO (f5 (⟨x1, x0, yAJ.z, x2, false⟩ : yAH)) fun r11 =>
 some (r11, 0, ())
 else
 bindO (f5 (⟨x1, x0, yAJ.z, x2, false⟩ : yAH)) fun r12 =>
 some (r12, 0, ())
 else
 bif decide (x1.At = 4) then
 bif x1.At == 0 then
 bindO (f1 x0 x2) fun r13 =>
 bif decide (r13 < 0) then
 some (yAw.z, 150, ())
 else
 bindO (f4 (⟨x1, x0, yAJ.z, x2, false⟩ : yAH)) fun r14 =>
 some (r14, 0, ())
 else
 bindO (f4 (⟨x1, x0, yAJ.z, x2, false⟩ : yAH)) fun r15 =>
 some (r15, 0, ())
 else
 bif decide (x1.At = 5) then
 bif x1.At == 0 then
 bindO (f1 x0 x2) fun r16 =>
 bif decide (r16 < 0) then
 some (yAw.z, 150, ())
 else
 bindO (f6 (⟨x1, x0, yAJ.z, x2, false⟩ : yAH)) fun r17 =>
 some (r17, 0, ())
 else
 bindO (f6 (⟨x1, x0, yAJ.z, x2, false⟩ : yAH)) fun r18 =>
 some (r18, 0, ())
 else
 gd (decide (x1.At = 6)) <|
 bif x1.At == 0 then
 bindO (f1 x0 x2) fun r19 =>
 bif decide (r19 < 0) then
 some (yAw.z, 150, ())
 else
 bindO (f7 (⟨x1, x0, yAJ.z, x2, false⟩ : yAH)) fun r20 =>
 some (r20, 0, ())
 else
 bindO (f7 (⟨x1, x0, yAJ.z, x2, false⟩ : yAH)) fun r21 =>
 some (r21, 0, ())
theorem yQB (f1 f2 f3 f4 f5 f6 f7) : yFm.Eq [yE8.s f1, yCW.s f2, yCX.s f3, yB3.s f4, yCY.s f5, yCZ.s f6, yBm.s f7] .no (yEJ f1 f2 f3 f4 f5 f6 f7) := fun _ => by kernel_rfl
def yBY (L : Nat) : yFm.T := yEJ (yIg L) (yHQ L) (yHR L) (yFE L) (yHS L) (yHT L) (yD2 L)
theorem yQA (L : Nat) : yFm.C (yBY L) := yFm.c (yQB (yIg L) (yHQ L) (yHR L) (yFE L) (yHS L) (yHT L) (yD2 L)) (tC (yNw L).ent (tC (yNU L).ent (tC (yNW L).ent (tC (yMh L).ent (tC (yNY L).ent (tC (yNa L).ent (tC (yLk L).ent tN))))))) Tryz.func81 (by kernel_rfl) (lN _)
end Go.Proofs.YtakljpcmbpaeaaaGreat

namespace Go.Proofs.YtakljpcmbpaeaaaGreat
open Go.RowKit

abbrev yFl := fw5 111 (caC yCa (caC yNn (caC yIH (caC cI (caC cdS caN))))) (cdT (caC yNn (caC yIH (caC cI (caC cdB (caC cI caN))))))
abbrev yEI (f1 : yFi.T) (f2 : yC8.T) (f3 : yDg.T) (f4 : yIY.T) (f5 : yET.T) (f6 : yGV.T) (f7 : yES.T) (f8 : yBt.T) (f9 : yC3.T) (f10 : yDe.T) (f11 : yDf.T) (f12 : yAx.T) (f13 : yCs.T) (x0 : yAW) (x1 : yAK) (x2 : yAJ) (x3 : Int) (x4 : ByteArray) : Option (yAK × yAJ × Int × Bool × Int × Unit) :=
 bif decide (x1.At < 0) then
 some (x1, x2, x3, false, 0, ())
 else
 bif decide (7 ≤ w64 x1.At) then
 some (x1, x2, x3, false, 0, ())
 else
 bif decide (x1.At = 0) then
 bindO (f1 x0 x2 x3 x4) fun r1 =>
 bif r1.2.2.2.2.1 != 0 then
 bif r1.2.2.2.2.1 != 0 then
 some (x1, x2, x3, false, r1.2.2.2.2.1, ())
 else
 some (x1, x2, x3, false, 0, ())
 else
 bif r1.2.2.2.1 then
 bindO (f2 (⟨x1, x0, x2, x3, false⟩ : yAH)) fun r2 =>
 bif r2.2.1 then
 bindO (f3 r1.2.2.1 r2.1.By r2.1.Serial) fun r3 =>
 some ((⟨x1.Node, x1.Cmd, 0, 0, yAN.z, (⟨0, 0, 0, noS, x1.T.Seen, false, false⟩ : yAG)⟩ : yAK), r1.1, w64 (x3 + 1), r3, 0, ())
 else
 some ((⟨x1.Node, x1.Cmd, 0, 0, yAN.z, (⟨0, 0, 0, noS, x1.T.Seen, false, false⟩ : yAG)⟩ : yAK), r1.1, w64 (x3 + 1), false, 0, ())
 else
 bindO (f2 (⟨x1, x0, x2, x3, false⟩ : yAH)) fun r4 =>
 bif r4.2.1 then
 bif r4.1.Kind == 0 then
 bindO (f4 x0) fun r5 =>
 bif decide (w64 (x0.Log - r5) ≤ x3) then
 some (x1, x2, x3, false, 150, ())
 else
 some ({ x1 with At := 1 }, x2, x3, false, 0, ())
 else
 bif r4.1.Kind == 2 then
 bindO (f4 x0) fun r6 =>
 bif decide (w64 (x0.Log - r6) ≤ x3) then
 some (x1, x2, x3, false, 150, ())
 else
 some ({ x1 with At := 1 }, x2, x3, false, 0, ())
 else
 some ({ x1 with At := 1 }, x2, x3, false, 0, ())
 else
 some ({ x1 with At := 1 }, x2, x3, false, 0, ())
 else
 bif decide (x1.At = 1) then
 bindO (f5 x4) fun r7 =>
 bif r7.2.1 != 0 then
 bif r7.2.1 != 0 then
 some (x1, x2, x3, false, r7.2.1, ())
 else
 some (x1, x2, x3, false, 0, ())
 else
 bindO (f6 r7.1 x3) fun r8 =>
 bindO (f7 x1.Node ([[V.int .i64 r8.Mbal], [V.int .i64 x1.T.Seen]])) fun r9 =>
 bif r9 == 0 then
 some (x1, x2, x3, false, 150, ())
 else
 some ({ x1 with At := 2, Own := { r8 with Mbal := r9 } }, x2, x3, false, 0, ())
 else
 bif decide (x1.At = 2) then
 bindO (f8 (⟨(⟨x1.Own.Inst, x1.Own.Mbal, x1.Own.Bal, x1.Own.Val, x1.T.Seen, false, false⟩ : yAG)⟩ : yAI) ([[V.int .i64 x1.Own.Mbal]])) fun r10 =>
 bindO (f9 x0 x1.Node 0) fun r11 =>
 bif decide (r11 < x0.Nodes) then
 some ({ x1 with At := IntKind.i8.wrap (x1.At + 1), I := r11, T := r10.2.Tally }, x2, x3, false, 0, ())
 else
 bindO (f10 r10.2.Tally) fun r12 =>
 bif r12 then
 some ((⟨x1.Node, x1.Cmd, 0, 0, yAN.z, (⟨0, 0, 0, noS, r10.2.Tally.Seen, false, false⟩ : yAG)⟩ : yAK), x2, x3, false, 0, ())
 else
 bif (IntKind.i8.wrap (x1.At + 1)) == 5 then
 some ({ x1 with At := 6, I := r11, T := r10.2.Tally }, x2, x3, false, 0, ())
 else
 bindO (f11 r10.2.Tally x1.Cmd) fun r13 =>
 some ((⟨x1.Node, x1.Cmd, 4, r11, { x1.Own with Bal := x1.Own.Mbal, Val := r13 }, r10.2.Tally⟩ : yAK), x2, x3, false, 0, ())
 else
 bif decide (x1.At = 3) then
 bindO (f5 x4) fun r14 =>
 bif r14.2.1 != 0 then
 bif r14.2.1 != 0 then
 some (x1, x2, x3, false, r14.2.1, ())
 else
 some (x1, x2, x3, false, 0, ())
 else
 bindO (f8 (⟨x1.T⟩ : yAI) ([[V.int .i64 r14.1.Mbal]])) fun r15 =>
 bif decide (r15.2.Tally.Inst < r14.1.Inst) then
 bindO (f9 x0 x1.Node (w64 (x1.I + 1))) fun r16 =>
 bif decide (r16 < x0.Nodes) then
 some ({ x1 with I := r16, T := { r15.2.Tally with Ahead := true } }, x2, x3, false, 0, ())
 else
 bindO (f10 ({ r15.2.Tally with Ahead := true })) fun r17 =>
 bif r17 then
 some ((⟨x1.Node, x1.Cmd, 0, 0, yAN.z, (⟨0, 0, 0, noS, r15.2.Tally.Seen, false, false⟩ : yAG)⟩ : yAK), x2, x3, false, 0, ())
 else
 bif x1.At == 5 then
 some ({ x1 with At := 6, I := r16, T := { r15.2.Tally with Ahead := true } }, x2, x3, false, 0, ())
 else
 bindO (f11 ({ r15.2.Tally with Ahead := true }) x1.Cmd) fun r18 =>
 some ((⟨x1.Node, x1.Cmd, 4, r16, { x1.Own with Bal := x1.Own.Mbal, Val := r18 }, { r15.2.Tally with Ahead := true }⟩ : yAK), x2, x3, false, 0, ())
 else
 bif r14.1.Inst == r15.2.Tally.Inst then
 bif r15.2.Tally.Lost then
 bif decide (r15.2.Tally.Best < r14.1.Bal) then
 bindO (f9 x0 x1.Node (w64 (x1.I + 1))) fun r19 =>
 bif decide (r19 < x0.Nodes) then
 some ({ x1 with I := r19, T := { r15.2.Tally with Best := r14.1.Bal, Val := r14.1.Val, Lost := true } }, x2, x3, false, 0, ())
 else
 bindO (f10 ({ r15.2.Tally with Best := r14.1.Bal, Val := r14.1.Val, Lost := true })) fun r20 =>
 bif r20 then
 some ((⟨x1.Node, x1.Cmd, 0, 0, yAN.z, (⟨0, 0, 0, noS, r15.2.Tally.Seen, false, false⟩ : yAG)⟩ : yAK), x2, x3, false, 0, ())
 else
 bif x1.At == 5 then
 some ({ x1 with At := 6, I := r19, T := { r15.2.Tally with Best := r14.1.Bal, Val := r14.1.Val, Lost := true } }, x2, x3, false, 0, ())
 else
 bindO (f11 ({ r15.2.Tally with Best := r14.1.Bal, Val := r14.1.Val, Lost := true }) x1.Cmd) fun r21 =>
 some ((⟨x1.Node, x1.Cmd, 4, r19, { x1.Own with Bal := x1.Own.Mbal, Val := r21 }, { r15.2.Tally with Best := r14.1.Bal, Val := r14.1.Val, Lost := true }⟩ : yAK), x2, x3, false, 0, ())
 else
 bindO (f9 x0 x1.Node (w64 (x1.I + 1))) fun r22 =>
 bif decide (r22 < x0.Nodes) then
 some ({ x1 with I := r22, T := { r15.2.Tally with Lost := true } }, x2, x3, false, 0, ())
 else
 bindO (f10 ({ r15.2.Tally with Lost := true })) fun r23 =>
 bif r23 then
 some ((⟨x1.Node, x1.Cmd, 0, 0, yAN.z, (⟨0, 0, 0, noS, r15.2.Tally.Seen, false, false⟩ : yAG)⟩ : yAK), x2, x3, false, 0, ())
 else
 bif x1.At == 5 then
 some ({ x1 with At := 6, I := r22, T := { r15.2.Tally with Lost := true } }, x2, x3, false, 0, ())
 else
 bindO (f11 ({ r15.2.Tally with Lost := true }) x1.Cmd) fun r24 =>
 some ((⟨x1.Node, x1.Cmd, 4, r22, { x1.Own with Bal := x1.Own.Mbal, Val := r24 }, { r15.2.Tally with Lost := true }⟩ : yAK), x2, x3, false, 0, ())
 else
 bif decide (r15.2.Tally.Best < r14.1.Bal) then
 bindO (f9 x0 x1.Node (w64 (x1.I + 1))) fun r25 =>
 bif decide (r25 < x0.Nodes) then
 some ({ x1 with I := r25, T := { r15.2.Tally with Best := r14.1.Bal, Val := r14.1.Val, Lost := decide (r15.2.Tally.Mbal < r14.1.Mbal) } }, x2, x3, false, 0, ())
 else
 bindO (f10 ({ r15.2.Tally with Best := r14.1.Bal, Val := r14.1.Val, Lost := decide (r15.2.Tally.Mbal < r14.1.Mbal) })) fun r26 =>
 bif r26 then
 some ((⟨x1.Node, x1.Cmd, 0, 0, yAN.z, (⟨0, 0, 0, noS, r15.2.Tally.Seen, false, false⟩ : yAG)⟩ : yAK), x2, x3, false, 0, ())
 else
 bif x1.At == 5 then
 some ({ x1 with At := 6, I := r25, T := { r15.2.Tally with Best := r14.1.Bal, Val := r14.1.Val, Lost := decide (r15.2.Tally.Mbal < r14.1.Mbal) } }, x2, x3, false, 0, ())
 else
 bindO (f11 ({ r15.2.Tally with Best := r14.1.Bal, Val := r14.1.Val, Lost := decide (r15.2.Tally.Mbal < r14.1.Mbal) }) x1.Cmd) fun r27 =>
 some ((⟨x1.Node, x1.Cmd, 4, r25, { x1.Own with Bal := x1.Own.Mbal, Val := r27 }, { r15.2.Tally with Best := r14.1.Bal, Val := r14.1.Val, Lost := decide (r15.2.Tally.Mbal < r14.1.Mbal) }⟩ : yAK), x2, x3, false, 0, ())
 else
 bindO (f9 x0 x1.Node (w64 (x1.I + 1))) fun r28 =>
 bif decide (r28 < x0.Nodes) then
 some ({ x1 with I := r28, T := { r15.2.Tally with Lost := decide (r15.2.Tally.Mbal < r14.1.Mbal) } }, x2, x3, false, 0, ())
 else
 bindO (f10 ({ r15.2.Tally with Lost := decide (r15.2.Tally.Mbal < r14.1.Mbal) })) fun r29 =>
 bif r29 then
 some ((⟨x1.Node, x1.Cmd, 0, 0, yAN.z, (⟨0, 0, 0, noS, r15.2.Tally.Seen, false, false⟩ : yAG)⟩ : yAK), x2, x3, false, 0, ())
 else
 bif x1.At == 5 then
 some ({ x1 with At := 6, I := r28, T := { r15.2.Tally with Lost := decide (r15.2.Tally.Mbal < r14.1.Mbal) } }, x2, x3, false, 0, ())
 else
 bindO (f11 ({ r15.2.Tally with Lost := decide (r15.2.Tally.Mbal < r14.1.Mbal) }) x1.Cmd) fun r30 =>
 some ((⟨x1.Node, x1.Cmd, 4, r28, { x1.Own with Bal := x1.Own.Mbal, Val := r30 }, { r15.2.Tally with Lost := decide (r15.2.Tally.Mbal < r14.1.Mbal) }⟩ : yAK), x2, x3, false, 0, ())
 else
 bindO (f9 x0 x1.Node (w64 (x1.I + 1))) fun r31 =>
 bif decide (r31 < x0.Nodes) then
 some ({ x1 with I := r31, T := r15.2.Tally }, x2, x3, false, 0, ())
 else
 bindO (f10 r15.2.Tally) fun r32 =>
 bif r32 then
 some ((⟨x1.Node, x1.Cmd, 0, 0, yAN.z, (⟨0, 0, 0, noS, r15.2.Tally.Seen, false, false⟩ : yAG)⟩ : yAK), x2, x3, false, 0, ())
 else
 bif x1.At == 5 then
 some ({ x1 with At := 6, I := r31, T := r15.2.Tally }, x2, x3, false, 0, ())
 else
 bindO (f11 r15.2.Tally x1.Cmd) fun r33 =>
 some ((⟨x1.Node, x1.Cmd, 4, r31, { x1.Own with Bal := x1.Own.Mbal, Val := r33 }, r15.2.Tally⟩ : yAK), x2, x3, false, 0, ())
 else
 bif decide (x1.At = 4) then
 bindO (f8 (⟨(⟨x1.Own.Inst, x1.Own.Mbal, x1.Own.Bal, x1.Own.Val, x1.T.Seen, false, false⟩ : yAG)⟩ : yAI) ([[V.int .i64 x1.Own.Mbal]])) fun r34 =>
 bindO (f9 x0 x1.Node 0) fun r35 =>
 bif decide (r35 < x0.Nodes) then
 some ({ x1 with At := IntKind.i8.wrap (x1.At + 1), I := r35, T := r34.2.Tally }, x2, x3, false, 0, ())
 else
 bindO (f10 r34.2.Tally) fun r36 =>
 bif r36 then
 some ((⟨x1.Node, x1.Cmd, 0, 0, yAN.z, (⟨0, 0, 0, noS, r34.2.Tally.Seen, false, false⟩ : yAG)⟩ : yAK), x2, x3, false, 0, ())
 else
 bif (IntKind.i8.wrap (x1.At + 1)) == 5 then
 some ({ x1 with At := 6, I := r35, T := r34.2.Tally }, x2, x3, false, 0, ())
 else
 bindO (f11 r34.2.Tally x1.Cmd) fun r37 =>
 some ((⟨x1.Node, x1.Cmd, 4, r35, { x1.Own with Bal := x1.Own.Mbal, Val := r37 }, r34.2.Tally⟩ : yAK), x2, x3, false, 0, ())
 else
 bif decide (x1.At = 5) then
 bindO (f5 x4) fun r38 =>
 bif r38.2.1 != 0 then
 bif r38.2.1 != 0 then
 some (x1, x2, x3, false, r38.2.1, ())
 else
 some (x1, x2, x3, false, 0, ())
 else
 bindO (f8 (⟨x1.T⟩ : yAI) ([[V.int .i64 r38.1.Mbal]])) fun r39 =>
 bif decide (r39.2.Tally.Inst < r38.1.Inst) then
 bindO (f9 x0 x1.Node (w64 (x1.I + 1))) fun r40 =>
 bif decide (r40 < x0.Nodes) then
 some ({ x1 with I := r40, T := { r39.2.Tally with Ahead := true } }, x2, x3, false, 0, ())
 else
 bindO (f10 ({ r39.2.Tally with Ahead := true })) fun r41 =>
 bif r41 then
 some ((⟨x1.Node, x1.Cmd, 0, 0, yAN.z, (⟨0, 0, 0, noS, r39.2.Tally.Seen, false, false⟩ : yAG)⟩ : yAK), x2, x3, false, 0, ())
 else
 bif x1.At == 5 then
 some ({ x1 with At := 6, I := r40, T := { r39.2.Tally with Ahead := true } }, x2, x3, false, 0, ())
 else
 bindO (f11 ({ r39.2.Tally with Ahead := true }) x1.Cmd) fun r42 =>
 some ((⟨x1.Node, x1.Cmd, 4, r40, { x1.Own with Bal := x1.Own.Mbal, Val := r42 }, { r39.2.Tally with Ahead := true }⟩ : yAK), x2, x3, false, 0, ())
 else
 bif r38.1.Inst == r39.2.Tally.Inst then
 bif r39.2.Tally.Lost then
 bif decide (r39.2.Tally.Best < r38.1.Bal) then
 bindO (f9 x0 x1.Node (w64 (x1.I + 1))) fun r43 =>
 bif decide (r43 < x0.Nodes) then
 some ({ x1 with I := r43, T := { r39.2.Tally with Best := r38.1.Bal, Val := r38.1.Val, Lost := true } }, x2, x3, false, 0, ())
 else
 bindO (f10 ({ r39.2.Tally with Best := r38.1.Bal, Val := r38.1.Val, Lost := true })) fun r44 =>
 bif r44 then
 some ((⟨x1.Node, x1.Cmd, 0, 0, yAN.z, (⟨0, 0, 0, noS, r39.2.Tally.Seen, false, false⟩ : yAG)⟩ : yAK), x2, x3, false, 0, ())
 else
 bif x1.At == 5 then
 some ({ x1 with At := 6, I := r43, T := { r39.2.Tally with Best := r38.1.Bal, Val := r38.1.Val, Lost := true } }, x2, x3, false, 0, ())
 else
 bindO (f11 ({ r39.2.Tally with Best := r38.1.Bal, Val := r38.1.Val, Lost := true }) x1.Cmd) fun r45 =>
 some ((⟨x1.Node, x1.Cmd, 4, r43, { x1.Own with Bal := x1.Own.Mbal, Val := r45 }, { r39.2.Tally with Best := r38.1.Bal, Val := r38.1.Val, Lost := true }⟩ : yAK), x2, x3, false, 0, ())
 else
 bindO (f9 x0 x1.Node (w64 (x1.I + 1))) fun r46 =>
 bif decide (r46 < x0.Nodes) then
 some ({ x1 with I := r46, T := { r39.2.Tally with Lost := true } }, x2, x3, false, 0, ())
 else
 bindO (f10 ({ r39.2.Tally with Lost := true })) fun r47 =>
 bif r47 then
 some ((⟨x1.Node, x1.Cmd, 0, 0, yAN.z, (⟨0, 0, 0, noS, r39.2.Tally.Seen, false, false⟩ : yAG)⟩ : yAK), x2, x3, false, 0, ())
 else
 bif x1.At == 5 then
 some ({ x1 with At := 6, I := r46, T := { r39.2.Tally with Lost := true } }, x2, x3, false, 0, ())
 else
 bindO (f11 ({ r39.2.Tally with Lost := true }) x1.Cmd) fun r48 =>
 some ((⟨x1.Node, x1.Cmd, 4, r46, { x1.Own with Bal := x1.Own.Mbal, Val := r48 }, { r39.2.Tally with Lost := true }⟩ : yAK), x2, x3, false, 0, ())
 else
 bif decide (r39.2.Tally.Best < r38.1.Bal) then
 bindO (f9 x0 x1.Node (w64 (x1.I + 1))) fun r49 =>
 bif decide (r49 < x0.Nodes) then
 some ({ x1 with I := r49, T := { r39.2.Tally with Best := r38.1.Bal, Val := r38.1.Val, Lost := decide (r39.2.Tally.Mbal < r38.1.Mbal) } }, x2, x3, false, 0, ())
 else
 bindO (f10 ({ r39.2.Tally with Best := r38.1.Bal, Val := r38.1.Val, Lost := decide (r39.2.Tally.Mbal < r38.1.Mbal) })) fun r50 =>
 bif r50 then
 some ((⟨x1.Node, x1.Cmd, 0, 0, yAN.z, (⟨0, 0, 0, noS, r39.2.Tally.Seen, false, false⟩ : yAG)⟩ : yAK), x2, x3, false, 0, ())
 else
 bif x1.At == 5 then
 some ({ x1 with At := 6, I := r49, T := { r39.2.Tally with Best := r38.1.Bal, Val := r38.1.Val, Lost := decide (r39.2.Tally.Mbal < r38.1.Mbal) } }, x2, x3, false, 0, ())
 else
 bindO (f11 ({ r39.2.Tally with Best := r38.1.Bal, Val := r38.1.Val, Lost := decide (r39.2.Tally.Mbal < r38.1.Mbal) }) x1.Cmd) fun r51 =>
 some ((⟨x1.Node, x1.Cmd, 4, r49, { x1.Own with Bal := x1.Own.Mbal, Val := r51 }, { r39.2.Tally with Best := r38.1.Bal, Val := r38.1.Val, Lost := decide (r39.2.Tally.Mbal < r38.1.Mbal) }⟩ : yAK), x2, x3, false, 0, ())
 else
 bindO (f9 x0 x1.Node (w64 (x1.I + 1))) fun r52 =>
 bif decide (r52 < x0.Nodes) then
 some ({ x1 with I := r52, T := { r39.2.Tally with Lost := decide (r39.2.Tally.Mbal < r38.1.Mbal) } }, x2, x3, false, 0, ())
 else
 bindO (f10 ({ r39.2.Tally with Lost := decide (r39.2.Tally.Mbal < r38.1.Mbal) })) fun r53 =>
 bif r53 then
 some ((⟨x1.Node, x1.Cmd, 0, 0, yAN.z, (⟨0, 0, 0, noS, r39.2.Tally.Seen, false, false⟩ : yAG)⟩ : yAK), x2, x3, false, 0, ())
 else
 bif x1.At == 5 then
 some ({ x1 with At := 6, I := r52, T := { r39.2.Tally with Lost := decide (r39.2.Tally.Mbal < r38.1.Mbal) } }, x2, x3, false, 0, ())
 else
 bindO (f11 ({ r39.2.Tally with Lost := decide (r39.2.Tally.Mbal < r38.1.Mbal) }) x1.Cmd) fun r54 =>
 some ((⟨x1.Node, x1.Cmd, 4, r52, { x1.Own with Bal := x1.Own.Mbal, Val := r54 }, { r39.2.Tally with Lost := decide (r39.2.Tally.Mbal < r38.1.Mbal) }⟩ : yAK), x2, x3, false, 0, ())
 else
 bindO (f9 x0 x1.Node (w64 (x1.I + 1))) fun r55 =>
 bif decide (r55 < x0.Nodes) then
 some ({ x1 with I := r55, T := r39.2.Tally }, x2, x3, false, 0, ())
 else
 bindO (f10 r39.2.Tally) fun r56 =>
 bif r56 then
 some ((⟨x1.Node, x1.Cmd, 0, 0, yAN.z, (⟨0, 0, 0, noS, r39.2.Tally.Seen, false, false⟩ : yAG)⟩ : yAK), x2, x3, false, 0, ())
 else
 bif x1.At == 5 then
 some ({ x1 with At := 6, I := r55, T := r39.2.Tally }, x2, x3, false, 0, ())
 else
 bindO (f11 r39.2.Tally x1.Cmd) fun r57 =>
 some ((⟨x1.Node, x1.Cmd, 4, r55, { x1.Own with Bal := x1.Own.Mbal, Val := r57 }, r39.2.Tally⟩ : yAK), x2, x3, false, 0, ())
 else
 gd (decide (x1.At = 6)) <|
 bindO (f12 x1.Own.Val) fun r58 =>
 bif r58.2.1 != 0 then
 some (x1, x2, x3, false, 50, ())
 else
 bindO (f13 x0 x2 r58.1) fun r59 =>
 bindO (f2 (⟨x1, x0, x2, x3, false⟩ : yAH)) fun r60 =>
 bif r60.2.1 then
 bindO (f3 r58.1 r60.1.By r60.1.Serial) fun r61 =>
 some ((⟨x1.Node, x1.Cmd, 0, 0, yAN.z, (⟨0, 0, 0, noS, x1.T.Seen, false, false⟩ : yAG)⟩ : yAK), r59, w64 (x3 + 1), r61, 0, ())
 else
 some ((⟨x1.Node, x1.Cmd, 0, 0, yAN.z, (⟨0, 0, 0, noS, x1.T.Seen, false, false⟩ : yAG)⟩ : yAK), r59, w64 (x3 + 1), false, 0, ())
set_option maxRecDepth 100000 in
set_option maxHeartbeats 16000000 in
theorem yP9 (f1 f2 f3 f4 f5 f6 f7 f8 f9 f10 f11 f12 f13) : yFl.Eq [yFi.s f1, yC8.s f2, yDg.s f3, yIY.s f4, yET.s f5, yGV.s f6, yES.s f7, yBt.s f8, yC3.s f9, yDe.s f10, yDf.s f11, yAx.s f12, yCs.s f13] .no (yEI f1 f2 f3 f4 f5 f6 f7 f8 f9 f10 f11 f12 f13) := fun _ => by kernel_rfl
def yBX (L : Nat) : yFl.T := yEI (yJj L) (yGH L) (yHn L) (yLZ L) (yCu L) (yKw L) (yGW L) (yEV L) (yEU L) (yFb L) (yFc L) (yAl L) (yDY L)
set_option maxRecDepth 100000 in
set_option maxHeartbeats 16000000 in
theorem yP8 (L : Nat) : yFl.C (yBX L) := yFl.c (yP9 (yJj L) (yGH L) (yHn L) (yLZ L) (yCu L) (yKw L) (yGW L) (yEV L) (yEU L) (yFb L) (yFc L) (yAl L) (yDY L)) (tC (yP3 L).ent (tC (yN6 L).ent (tC (yOX L).ent (tC (yRJ L).ent (tC (yPG L).ent (tC (yQc L).ent (tC (yPE L).ent (tC (yLy L).ent (tC (yNp L).ent (tC (yOT L).ent (tC (yOV L).ent (tC (yE7 L).ent (tC (yMu L).ent tN))))))))))))) Tryz.func111 (by kernel_rfl) (lN _)
end Go.Proofs.YtakljpcmbpaeaaaGreat

namespace Go.Proofs.YtakljpcmbpaeaaaGreat
open Go.RowKit
set_option maxRecDepth 100000
set_option maxHeartbeats 16000000

abbrev yAq := (List (List V)) × Unit × Int × Int × Unit
abbrev yBD := Unit
abbrev yBE := Int × Unit
abbrev yAL {α : Type} (s : yAq) (kn : yAq → Option α) (k0 : yBD → Option α) (k1 : yBE → Option α) : Option α :=
 bif decide (s.2.2.2.1 < s.2.2.1) then
 gI s.1 kS s.2.2.2.1 <|
 bif decide (512 < ((aS s.1 s.2.2.2.1.toNat 0).size : Int)) then
 k1 (s.2.2.2.1, ())
 else
 kn (s.1, (()), s.2.2.1, w64 (s.2.2.2.1 + 1), ())
 else
 k0 (())
abbrev yAr : LW2 yAq yBD yBE := ⟨(lvC 0 (mP cdR) (lvC 1 (mP (cdF 276 caN)) (lvC 7 (mP cI) (lvC 8 (mP cI) lvN)))), (.exit 0), lvN, .ret, (lvC 4 (mP cI) lvN)⟩
theorem yD5 {α : Type} : yAr.Eq (α := α) [] Tryz.f306 [1, 0, 1, 0] .no (yAL) := fun _ _ _ => by kernel_rfl
abbrev yAT := fw2 306 (caC cdR (caC (cdF 276 caN) caN)) cI
abbrev yBL (F0 : LF2 yAq yBD yBE (Int)) (x0 : List (List V)) (x1 : Unit) : Option Int :=
 F0 (x0, (()), (x0.length : Int), 0, ()) (fun q1 =>
 some (-1)) (fun q2 =>
 some q2.1)
theorem yE4 (F0) : yAT.Eq [] (.two .no (.two (.two .no (.one (.lp (yAr.s F0)))) .no)) (yBL F0) := fun _ => by kernel_rfl
def yAo (L : Nat) : yAT.T := yBL (loop2 (yAL) L)
theorem yDx {α : Type} (L : Nat) : LO Tryz.f306 [1, 0, 1, 0] (yAr.s (α := α) (loop2 (yAL) L)) := yAr.k (yD5) tN (lN _) (by kernel_rfl) L
theorem yE3 (L : Nat) : yAT.C (yAo L) := yAT.c (yE4 (loop2 (yAL) L)) tN Tryz.func306 (by kernel_rfl) (lS (lN _) (lS (lS (lN _) (lB (lL (yDx L)))) (lN _)))
abbrev yAR := fw2 275 (caC cdR (caC (cdF 276 caN) caN)) cdB
abbrev yBC (f1 : yAT.T) (x0 : List (List V)) (x1 : Unit) : Option Bool :=
 bindO (f1 x0 (())) fun r1 =>
 some (decide (0 ≤ r1))
theorem yD4 (f1) : yAR.Eq [(306, spF 1 [(276, (yAT.s f1).2)])] .no (yBC f1) := fun _ => by kernel_rfl
def yAt (L : Nat) : yAR.T := yBC (yAo L)
theorem yD3 (L : Nat) : yAR.C (yAt L) := yAR.c (yD4 (yAo L)) (tC (spF_ok (spF_cons (yE3 L).ent spF_nil)) tN) Tryz.func275 (by kernel_rfl) (lN _)
abbrev yCI := fw1 217 (caC cdR caN) cdB
abbrev yJL (f1 : yAR.T) (x0 : List (List V)) : Option Bool :=
 bindO (f1 x0 (())) fun r1 =>
 some !r1
theorem yOf (f1) : yCI.Eq [(275, spF 1 [(276, (yAR.s f1).2)])] .no (yJL f1) := fun _ => by kernel_rfl
def yDK (L : Nat) : yCI.T := yJL (yAt L)
theorem yLr (L : Nat) : yCI.C (yDK L) := yCI.c (yOf (yAt L)) (tC (spF_ok (spF_cons (yD3 L).ent spF_nil)) tN) Tryz.func217 (by kernel_rfl) (lN _)
abbrev yCA := yAC × (List (List V)) × Int × Int × Unit
abbrev yDS := Unit
abbrev yDT := Bool × Unit
abbrev yCc {α : Type} (s : yCA) (kn : yCA → Option α) (k0 : yDS → Option α) (k1 : yDT → Option α) : Option α :=
 bif decide (s.2.2.2.1 < s.2.2.1) then
 gI s.2.1 yDZ.ks s.2.2.2.1 <|
 bif decide (aI s.2.1 s.2.2.2.1.toNat 0 < 0) then
 k1 (false, ())
 else
 gd (decide ((s.1.Device.S.length : Int) ≤ aI s.2.1 s.2.2.2.1.toNat 0)) <|
 k1 (false, ())
 else
 k0 (())
abbrev yCB : LW2 yCA yDS yDT := ⟨(lvC 0 (mP (cdP yAu)) (lvC 9 (mP cdR) (lvC 10 (mP cI) (lvC 11 (mP cI) lvN)))), (.exit 0), lvN, .ret, (lvC 4 (mP cdB) lvN)⟩
theorem yJ0 {α : Type} : yCB.Eq (α := α) [] Tryz.f218 [1, 1, 0, 1, 0] .no (yCc) := fun _ _ _ => by kernel_rfl
abbrev yBk := fw2 218 (caC (cdP yAu) (caC cdR caN)) cdB
abbrev yIC (F0 : LF2 yCA yDS yDT (Bool)) (x0 : yAC) (x1 : List (List V)) : Option Bool :=
 F0 (x0, x1, (x1.length : Int), 0, ()) (fun q1 =>
 some true) (fun q2 =>
 some q2.1)
theorem yLg (F0) : yBk.Eq [] (.two .no (.two .no (.two (.two .no (.one (.lp (yCB.s F0)))) .no))) (yIC F0) := fun _ => by kernel_rfl
def yBf (L : Nat) : yBk.T := yIC (loop2 (yCc) L)
theorem yJg {α : Type} (L : Nat) : LO Tryz.f218 [1, 1, 0, 1, 0] (yCB.s (α := α) (loop2 (yCc) L)) := yCB.k (yJ0) tN (lN _) (by kernel_rfl) L
theorem yLf (L : Nat) : yBk.C (yBf L) := yBk.c (yLg (loop2 (yCc) L)) tN Tryz.func218 (by kernel_rfl) (lS (lN _) (lS (lN _) (lS (lS (lN _) (lB (lL (yJg L)))) (lN _))))
abbrev yAp := fw2 219 (caC (cdP yAu) (caC cI caN)) cdB
abbrev yID (x0 : yAC) (x1 : Int) : Option Bool :=
 bif decide (16 ≤ x1) then
 bif decide (w64 (x1.tdiv 16) < x0.Device.Next) then
 some (decide (x1.tmod 16 < (x0.Device.Keys.length : Int)))
 else
 some false
 else
 some false
theorem yLh : yAp.Eq [] .no (yID) := fun _ => by kernel_rfl
def yAa (L : Nat) : yAp.T := yID
theorem yEz (L : Nat) : yAp.C (yAa L) := yAp.c (yLh) tN Tryz.func219 (by kernel_rfl) (lN _)
end Go.Proofs.YtakljpcmbpaeaaaGreat

namespace Go.Proofs.YtakljpcmbpaeaaaGreat
open Go.RowKit
set_option maxRecDepth 100000
set_option maxHeartbeats 16000000

abbrev yCf := yAC × Int × (List (List V)) × Int × Int × Unit
abbrev yED := Unit
abbrev yEE := Bool × Unit
abbrev yCN {α : Type} (f1 : yAp.T) (s : yCf) (kn : yCf → Option α) (k0 : yED → Option α) (k1 : yEE → Option α) : Option α :=
 bif decide (s.2.2.2.2.1 < s.2.2.2.1) then
 gI s.2.2.1 kI s.2.2.2.2.1 <|
 bif decide (aI s.2.2.1 s.2.2.2.2.1.toNat 0 ≤ s.2.1) then
 k1 (false, ())
 else
 bindO (f1 s.1 (aI s.2.2.1 s.2.2.2.2.1.toNat 0)) fun r1 =>
 bif !r1 then
 k1 (false, ())
 else
 kn (s.1, aI s.2.2.1 s.2.2.2.2.1.toNat 0, s.2.2.1, s.2.2.2.1, w64 (s.2.2.2.2.1 + 1), ())
 else
 k0 (())
abbrev yCg : LW2 yCf yED yEE := ⟨(lvC 0 (mP (cdP yAu)) (lvC 5 (mP cI) (lvC 116 (mP cdR) (lvC 117 (mP cI) (lvC 118 (mP cI) lvN))))), (.exit 2), lvN, .ret, (lvC 2 (mP cdB) lvN)⟩
theorem yK4 {α : Type} (f1) : yCg.Eq (α := α) [yAp.s f1] Tryz.f166 [1, 1, 1, 1, 0, 1, 0] .no (yCN f1) := fun _ _ _ => by kernel_rfl
abbrev yCd := yAC × (List (List V)) × Int × Int × Unit
abbrev yEB := yAC × Unit
abbrev yEC := Bool × Unit
abbrev yBU {α : Type} (f1 : yBk.T) (f2 : yAp.T) (s : yCd) (kn : yCd → Option α) (k0 : yEB → Option α) (k1 : yEC → Option α) : Option α :=
 bif decide (s.2.2.2.1 < s.2.2.1) then
 gI s.2.1 kI s.2.2.2.1 <|
 gI s.1.Device.Cache kL s.2.2.2.1 <|
 bindO (f1 s.1 (aR s.1.Device.Cache s.2.2.2.1.toNat 0)) fun r1 =>
 bif !r1 then
 k1 (false, ())
 else
 bif (aI s.2.1 s.2.2.2.1.toNat 0) != 0 then
 bindO (f2 s.1 (aI s.2.1 s.2.2.2.1.toNat 0)) fun r2 =>
 bif !r2 then
 k1 (false, ())
 else
 bif ((aI s.2.1 s.2.2.2.1.toNat 0).tmod 16) != s.2.2.2.1 then
 k1 (false, ())
 else
 kn (s.1, s.2.1, s.2.2.1, w64 (s.2.2.2.1 + 1), ())
 else
 kn (s.1, s.2.1, s.2.2.1, w64 (s.2.2.2.1 + 1), ())
 else
 k0 (s.1, ())
abbrev yCe : LW2 yCd yEB yEC := ⟨(lvC 0 (mP (cdP yAu)) (lvC 77 (mP cdR) (lvC 78 (mP cI) (lvC 79 (mP cI) lvN)))), (.exit 0), (lvC 0 (mP (cdP yAu)) lvN), .ret, (lvC 2 (mP cdB) lvN)⟩
theorem yK3 {α : Type} (f1 f2) : yCe.Eq (α := α) [yBk.s f1, yAp.s f2] Tryz.f166 [1, 1, 0, 1, 0] .no (yBU f1 f2) := fun _ _ _ => by kernel_rfl
abbrev yBM := fw1 166 (caC (cdP yAu) caN) cdB
abbrev yF9 (f1 : yCI.T) (F0 : LF2 yCd yEB yEC (Bool)) (F1 : LF2 yCf yED yEE (Bool)) (x0 : yAC) : Option Bool :=
 bif (x0.Device.S.length : Int) == 0 then
 some false
 else
 bindO (f1 x0.Device.S) fun r1 =>
 bif !r1 then
 some false
 else
 bif (x0.Device.Keys.length : Int) == 0 then
 some false
 else
 bif decide (16 < (x0.Device.Keys.length : Int)) then
 some false
 else
 bif (x0.Device.Cache.length : Int) != (x0.Device.Keys.length : Int) then
 some false
 else
 bif decide (x0.Device.Next < 1) then
 some false
 else
 bif decide (68719476736 < x0.Device.Next) then
 some false
 else
 F0 (x0, x0.Device.Keys, (x0.Device.Keys.length : Int), 0, ()) (fun q2 =>
 F1 (q2.1, 0, q2.1.Device.Fenced, (q2.1.Device.Fenced.length : Int), 0, ()) (fun q3 =>
 some true) (fun q4 =>
 some q4.1)) (fun q5 =>
 some q5.1)
theorem yMY (f1 F0 F1) : yBM.Eq [yCI.s f1] (.two .no (.two .no (.two (.two .no (.one (.lp (yCe.s F0)))) (.two .no (.two (.two .no (.one (.lp (yCg.s F1)))) .no))))) (yF9 f1 F0 F1) := fun _ => by kernel_rfl
def yB6 (L : Nat) : yBM.T := yF9 (yDK L) (loop2 (yBU (yBf L) (yAa L)) L) (loop2 (yCN (yAa L)) L)
theorem yKr {α : Type} (L : Nat) : LO Tryz.f166 [1, 1, 1, 1, 0, 1, 0] (yCg.s (α := α) (loop2 (yCN (yAa L)) L)) := yCg.k (yK4 (yAa L)) (tC (yEz L).ent tN) (lN _) (by kernel_rfl) L
theorem yKq {α : Type} (L : Nat) : LO Tryz.f166 [1, 1, 0, 1, 0] (yCe.s (α := α) (loop2 (yBU (yBf L) (yAa L)) L)) := yCe.k (yK3 (yBf L) (yAa L)) (tC (yLf L).ent (tC (yEz L).ent tN)) (lN _) (by kernel_rfl) L
theorem yI3 (L : Nat) : yBM.C (yB6 L) := yBM.c (yMY (yDK L) (loop2 (yBU (yBf L) (yAa L)) L) (loop2 (yCN (yAa L)) L)) (tC (yLr L).ent tN) Tryz.func166 (by kernel_rfl) (lS (lN _) (lS (lN _) (lS (lS (lN _) (lB (lL (yKq L)))) (lS (lN _) (lS (lS (lN _) (lB (lL (yKr L)))) (lN _))))))
abbrev yDi := fw1 113 (caC yB9 caN) cI
abbrev yJJ (f1 : yBM.T) (x0 : yAA) : Option Int :=
 bindO (f1 (⟨x0⟩ : yAC)) fun r1 =>
 bif !r1 then
 some 2
 else
 some 0
theorem yOd (f1) : yDi.Eq [yBM.s f1] .no (yJJ f1) := fun _ => by kernel_rfl
def yFe (L : Nat) : yDi.T := yJJ (yB6 L)
theorem yOc (L : Nat) : yDi.C (yFe L) := yDi.c (yOd (yB6 L)) (tC (yI3 L).ent tN) Tryz.func113 (by kernel_rfl) (lN _)
abbrev yGf := fw1 114 (caC yCa caN) cI
abbrev yL5 (f1 : yFf.T) (x0 : yAW) : Option Int :=
 bindO (f1 x0 7) fun r1 =>
 some (w64 (r1.stretch_.first_ + r1.stretch_.many_))
theorem yQi (f1) : yGf.Eq [yFf.s f1] .no (yL5 f1) := fun _ => by kernel_rfl
def yJi (L : Nat) : yGf.T := yL5 (yJ3 L)
theorem yQh (L : Nat) : yGf.C (yJi L) := yGf.c (yQi (yJ3 L)) (tC (yPB L).ent tN) Tryz.func114 (by kernel_rfl) (lN _)
abbrev yBv := fw2 221 (caC (cdP yAu) (caC cI caN)) cdB
abbrev yFU (x0 : yAC) (x1 : Int) : Option Bool :=
 bif decide (0 ≤ x1) then
 some (decide (x1 < (x0.Device.Keys.length : Int)))
 else
 some false
theorem yL3 : yBv.Eq [] .no (yFU) := fun _ => by kernel_rfl
def yC6 (L : Nat) : yBv.T := yFU
theorem yL2 (L : Nat) : yBv.C (yC6 L) := yBv.c (yL3) tN Tryz.func221 (by kernel_rfl) (lN _)
abbrev yBz := (List (List V)) × Int × Int × Int × Unit
abbrev yCz := Unit
abbrev yC0 := Int × Unit
abbrev yCF {α : Type} (s : yBz) (kn : yBz → Option α) (k0 : yCz → Option α) (k1 : yC0 → Option α) : Option α :=
 bif decide (s.2.2.2.1 < s.2.2.1) then
 gI s.1 kI s.2.2.2.1 <|
 bif s.2.1 == (aI s.1 s.2.2.2.1.toNat 0) then
 k1 (s.2.2.2.1, ())
 else
 kn (s.1, s.2.1, s.2.2.1, w64 (s.2.2.2.1 + 1), ())
 else
 k0 (())
abbrev yB0 : LW2 yBz yCz yC0 := ⟨(lvC 0 (mP cdR) (lvC 1 (mP cI) (lvC 7 (mP cI) (lvC 8 (mP cI) lvN)))), (.exit 0), lvN, .ret, (lvC 4 (mP cI) lvN)⟩
theorem yJd {α : Type} : yB0.Eq (α := α) [] Tryz.f342 [1, 0, 1, 0] .no (yCF) := fun _ _ _ => by kernel_rfl
abbrev yBP := fw2 342 (caC cdR (caC cI caN)) cI
abbrev yGU (F0 : LF2 yBz yCz yC0 (Int)) (x0 : List (List V)) (x1 : Int) : Option Int :=
 F0 (x0, x1, (x0.length : Int), 0, ()) (fun q1 =>
 some (-1)) (fun q2 =>
 some q2.1)
theorem yKv (F0) : yBP.Eq [] (.two .no (.two (.two .no (.one (.lp (yB0.s F0)))) .no)) (yGU F0) := fun _ => by kernel_rfl
def yE5 (L : Nat) : yBP.T := yGU (loop2 (yCF) L)
theorem yI1 {α : Type} (L : Nat) : LO Tryz.f342 [1, 0, 1, 0] (yB0.s (α := α) (loop2 (yCF) L)) := yB0.k (yJd) tN (lN _) (by kernel_rfl) L
theorem yKu (L : Nat) : yBP.C (yE5 L) := yBP.c (yKv (loop2 (yCF) L)) tN Tryz.func342 (by kernel_rfl) (lS (lN _) (lS (lS (lN _) (lB (lL (yI1 L)))) (lN _)))
abbrev yA7 := fw2 309 (caC cdR (caC cI caN)) cdB
abbrev yFB (f1 : yBP.T) (x0 : List (List V)) (x1 : Int) : Option Bool :=
 bindO (f1 x0 x1) fun r1 =>
 some (decide (0 ≤ r1))
theorem yJc (f1) : yA7.Eq [yBP.s f1] .no (yFB f1) := fun _ => by kernel_rfl
def yA4 (L : Nat) : yA7.T := yFB (yE5 L)
theorem yJb (L : Nat) : yA7.C (yA4 L) := yA7.c (yJc (yE5 L)) (tC (yKu L).ent tN) Tryz.func309 (by kernel_rfl) (lN _)
end Go.Proofs.YtakljpcmbpaeaaaGreat

namespace Go.Proofs.YtakljpcmbpaeaaaGreat
open Go.RowKit
set_option maxRecDepth 100000
set_option maxHeartbeats 16000000

abbrev yA5 := (List (List V)) × ((yAA × Unit)) × Int × Int × Unit
abbrev yBc := Unit
abbrev yBd := Int × Unit
abbrev yAk {α : Type} (f1 : yA7.T) (s : yA5) (kn : yA5 → Option α) (k0 : yBc → Option α) (k1 : yBd → Option α) : Option α :=
 bif decide (s.2.2.2.1 < s.2.2.1) then
 gI s.1 kI s.2.2.2.1 <|
 bif decide (aI s.1 s.2.2.2.1.toNat 0 < 1) then
 k1 (s.2.2.2.1, ())
 else
 bindO (f1 s.2.1.1.Fenced (aI s.1 s.2.2.2.1.toNat 0)) fun r1 =>
 bif r1 then
 k1 (s.2.2.2.1, ())
 else
 kn (s.1, (s.2.1.1, ()), s.2.2.1, w64 (s.2.2.2.1 + 1), ())
 else
 k0 (())
abbrev yA6 : LW2 yA5 yBc yBd := ⟨(lvC 0 (mP cdR) (lvC 1 (mP (cdF 308 (caC (cdP yMR) caN))) (lvC 7 (mP cI) (lvC 8 (mP cI) lvN)))), (.exit 0), lvN, .ret, (lvC 4 (mP cI) lvN)⟩
theorem yF5 {α : Type} (f1) : yA6.Eq (α := α) [yA7.s f1] Tryz.f341 [1, 0, 1, 0] .no (yAk f1) := fun _ _ _ => by kernel_rfl
abbrev yAm := fw2 341 (caC cdR (caC (cdF 308 (caC (cdP yMR) caN)) caN)) cI
abbrev yDG (F0 : LF2 yA5 yBc yBd (Int)) (x0 : List (List V)) (x1 : yAA × Unit) : Option Int :=
 F0 (x0, (x1.1, ()), (x0.length : Int), 0, ()) (fun q1 =>
 some (-1)) (fun q2 =>
 some q2.1)
theorem yHJ (F0) : yAm.Eq [] (.two .no (.two (.two .no (.one (.lp (yA6.s F0)))) .no)) (yDG F0) := fun _ => by kernel_rfl
def yBT (L : Nat) : yAm.T := yDG (loop2 (yAk (yA4 L)) L)
theorem yFY {α : Type} (L : Nat) : LO Tryz.f341 [1, 0, 1, 0] (yA6.s (α := α) (loop2 (yAk (yA4 L)) L)) := yA6.k (yF5 (yA4 L)) (tC (yJb L).ent tN) (lN _) (by kernel_rfl) L
theorem yHI (L : Nat) : yAm.C (yBT L) := yAm.c (yHJ (loop2 (yAk (yA4 L)) L)) tN Tryz.func341 (by kernel_rfl) (lS (lN _) (lS (lS (lN _) (lB (lL (yFY L)))) (lN _)))
abbrev yAb := fw2 307 (caC cdR (caC (cdF 308 (caC (cdP yMR) caN)) caN)) cdB
abbrev yBb (f1 : yAm.T) (x0 : List (List V)) (x1 : yAA × Unit) : Option Bool :=
 bindO (f1 x0 (x1.1, ())) fun r1 =>
 some (decide (0 ≤ r1))
theorem yF4 (f1) : yAb.Eq [(341, spF 1 [(308, (yAm.s f1).2)])] .no (yBb f1) := fun _ => by kernel_rfl
def yBF (L : Nat) : yAb.T := yBb (yBT L)
theorem yF3 (L : Nat) : yAb.C (yBF L) := yAb.c (yF4 (yBT L)) (tC (spF_ok (spF_cons (yHI L).ent spF_nil)) tN) Tryz.func307 (by kernel_rfl) (lN _)
abbrev yC5 := fw2 278 (caC yB9 (caC cdR caN)) cdB
abbrev yIf (f1 : yAb.T) (x0 : yAA) (x1 : List (List V)) : Option Bool :=
 bindO (f1 x1 (x0, ())) fun r1 =>
 some r1
theorem yNv (f1) : yC5.Eq [(307, spF 1 [(308, (yAb.s f1).2)])] .no (yIf f1) := fun _ => by kernel_rfl
def yII (L : Nat) : yC5.T := yIf (yBF L)
theorem yNu (L : Nat) : yC5.C (yII L) := yC5.c (yNv (yBF L)) (tC (spF_ok (spF_cons (yF3 L).ent spF_nil)) tN) Tryz.func278 (by kernel_rfl) (lN _)
abbrev yBW := fw2 222 (caC (cdP yAu) (caC cI caN)) cdB
abbrev yEA (f1 : yC5.T) (x0 : yAC) (x1 : Int) : Option Bool :=
 gI x0.Device.Keys kI x1 <|
 bindO (f1 x0.Device ([[V.int .i64 (aI x0.Device.Keys x1.toNat 0)]])) fun r1 =>
 some r1
theorem yK2 (f1) : yBW.Eq [yC5.s f1] .no (yEA f1) := fun _ => by kernel_rfl
def yCM (L : Nat) : yBW.T := yEA (yII L)
theorem yK1 (L : Nat) : yBW.C (yCM L) := yBW.c (yK2 (yII L)) (tC (yNu L).ent tN) Tryz.func222 (by kernel_rfl) (lN _)
abbrev yBO := fw3 169 (caC (cdP yAu) (caC cI (caC yJe caN))) cI
abbrev yCS (f1 : yBM.T) (f2 : yBv.T) (f3 : yCI.T) (f4 : yAp.T) (f5 : yBW.T) (x0 : yAC) (x1 : Int) (x2 : yAw) : Option Int :=
 bindO (f1 x0) fun r1 =>
 bif !r1 then
 some 2
 else
 bindO (f2 x0 x1) fun r2 =>
 bif !r2 then
 some 2
 else
 bif decide (x2.Kind < 1) then
 some 2
 else
 bif decide (6 < x2.Kind) then
 some 2
 else
 bif x2.Kind == 2 then
 bindO (f3 ([[V.str x2.B]])) fun r3 =>
 bif !r3 then
 some 2
 else
 bif x2.Kind == 5 then
 bindO (f4 x0 x2.Key) fun r4 =>
 bif !r4 then
 some 2
 else
 bif x2.Kind == 6 then
 bif decide (68719476736 ≤ x0.Device.Next) then
 some 2
 else
 some 0
 else
 bindO (f5 x0 x1) fun r5 =>
 bif r5 then
 some 61
 else
 bif decide (x2.Kind ≤ 3) then
 bif decide (x2.Sector < 0) then
 some 60
 else
 bif decide ((x0.Device.S.length : Int) ≤ x2.Sector) then
 some 60
 else
 some 0
 else
 some 0
 else
 bif x2.Kind == 6 then
 bif decide (68719476736 ≤ x0.Device.Next) then
 some 2
 else
 some 0
 else
 bindO (f5 x0 x1) fun r6 =>
 bif r6 then
 some 61
 else
 bif decide (x2.Kind ≤ 3) then
 bif decide (x2.Sector < 0) then
 some 60
 else
 bif decide ((x0.Device.S.length : Int) ≤ x2.Sector) then
 some 60
 else
 some 0
 else
 some 0
 else
 bif x2.Kind == 3 then
 bindO (f3 ([[V.str x2.B]])) fun r7 =>
 bif !r7 then
 some 2
 else
 bif x2.Kind == 5 then
 bindO (f4 x0 x2.Key) fun r8 =>
 bif !r8 then
 some 2
 else
 bif x2.Kind == 6 then
 bif decide (68719476736 ≤ x0.Device.Next) then
 some 2
 else
 some 0
 else
 bindO (f5 x0 x1) fun r9 =>
 bif r9 then
 some 61
 else
 bif decide (x2.Kind ≤ 3) then
 bif decide (x2.Sector < 0) then
 some 60
 else
 bif decide ((x0.Device.S.length : Int) ≤ x2.Sector) then
 some 60
 else
 some 0
 else
 some 0
 else
 bif x2.Kind == 6 then
 bif decide (68719476736 ≤ x0.Device.Next) then
 some 2
 else
 some 0
 else
 bindO (f5 x0 x1) fun r10 =>
 bif r10 then
 some 61
 else
 bif decide (x2.Kind ≤ 3) then
 bif decide (x2.Sector < 0) then
 some 60
 else
 bif decide ((x0.Device.S.length : Int) ≤ x2.Sector) then
 some 60
 else
 some 0
 else
 some 0
 else
 bif x2.Kind == 5 then
 bindO (f4 x0 x2.Key) fun r11 =>
 bif !r11 then
 some 2
 else
 bif x2.Kind == 6 then
 bif decide (68719476736 ≤ x0.Device.Next) then
 some 2
 else
 some 0
 else
 bindO (f5 x0 x1) fun r12 =>
 bif r12 then
 some 61
 else
 bif decide (x2.Kind ≤ 3) then
 bif decide (x2.Sector < 0) then
 some 60
 else
 bif decide ((x0.Device.S.length : Int) ≤ x2.Sector) then
 some 60
 else
 some 0
 else
 some 0
 else
 bif x2.Kind == 6 then
 bif decide (68719476736 ≤ x0.Device.Next) then
 some 2
 else
 some 0
 else
 bindO (f5 x0 x1) fun r13 =>
 bif r13 then
 some 61
 else
 bif decide (x2.Kind ≤ 3) then
 bif decide (x2.Sector < 0) then
 some 60
 else
 bif decide ((x0.Device.S.length : Int) ≤ x2.Sector) then
 some 60
 else
 some 0
 else
 some 0
theorem yKt (f1 f2 f3 f4 f5) : yBO.Eq [yBM.s f1, yBv.s f2, yCI.s f3, yAp.s f4, yBW.s f5] .no (yCS f1 f2 f3 f4 f5) := fun _ => by kernel_rfl
def yBK (L : Nat) : yBO.T := yCS (yB6 L) (yC6 L) (yDK L) (yAa L) (yCM L)
theorem yKs (L : Nat) : yBO.C (yBK L) := yBO.c (yKt (yB6 L) (yC6 L) (yDK L) (yAa L) (yCM L)) (tC (yI3 L).ent (tC (yL2 L).ent (tC (yLr L).ent (tC (yEz L).ent (tC (yK1 L).ent tN))))) Tryz.func169 (by kernel_rfl) (lN _)
end Go.Proofs.YtakljpcmbpaeaaaGreat
