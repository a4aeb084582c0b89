/- Typed functions. (printed by wip/sx) -/
import Derived.Test.YtakljpcmbpaeaaaGreatPaxosKeepsM36
set_option linter.unusedSimpArgs false
set_option linter.unusedVariables false
namespace Go.Proofs.YtakljpcmbpaeaaaGreat
open Go.RowKit
set_option maxRecDepth 100000
set_option maxHeartbeats 16000000

abbrev yKI := Int × yAA × yAw × yAA × Unit
abbrev yKH := Int × yAA × yAw × yAA × Bool × Unit
abbrev yGv {α : Type} (f1 : yBx.T) (s : yKI) (k0 : yKH → Option α) : Option α :=
 bindO (f1 s.2.1) fun r1 =>
 bif r1 != 0 then
 k0 (s.1, s.2.1, s.2.2.1, s.2.2.2.1, true, ())
 else
 bif decide (s.1 < 0) then
 k0 (s.1, s.2.1, s.2.2.1, s.2.2.2.1, true, ())
 else
 bif decide ((s.2.1.Keys.length : Int) ≤ s.1) then
 k0 (s.1, s.2.1, s.2.2.1, s.2.2.2.1, true, ())
 else
 bif decide (s.2.2.1.Kind < 1) then
 k0 (s.1, s.2.1, s.2.2.1, s.2.2.2.1, true, ())
 else
 k0 (s.1, s.2.1, s.2.2.1, s.2.2.2.1, decide (6 < s.2.2.1.Kind), ())
abbrev yIO : LW1 yKI yKH := ⟨(lvC 1 (mP cI) (lvC 3 yAE (lvC 5 yFk (lvC 6 yAE lvN)))), .normal, (lvC 1 (mP cI) (lvC 3 yAE (lvC 5 yFk (lvC 6 yAE (lvC 38 (mP cdB) lvN)))))⟩
theorem yPd {α : Type} (f1) : yIO.Ep (α := α) [yBx.s f1] Tryz.f18 [1, 0, 0] .no (yGv f1) := fun _ _ => by kernel_rfl
theorem yOs {α : Type} (L : Nat) : PO Tryz.f18 [1, 0, 0] (yIO.s (α := α) (yGv (yBh L))) := yIO.kp (yPd (yBh L)) (tC (yKF L).ent tN) (lN _) (by kernel_rfl)
abbrev yKL := Int × yAA × yAw × yAA × Bool × Unit
abbrev yKJ := Int × yAA × yAw × yAA × Unit
abbrev yKK := yAA × ByteArray × Int × Unit
abbrev yIr {α : Type} (s : yKL) (k0 : yKJ → Option α) (k1 : yKK → Option α) : Option α :=
 bif s.2.2.2.2.1 then
 k1 (s.2.1, noS, 2, ())
 else
 k0 (s.1, s.2.1, s.2.2.1, s.2.2.2.1, ())
abbrev yIP : LW2 yKL yKJ yKK := ⟨(lvC 1 (mP cI) (lvC 3 yAE (lvC 5 yFk (lvC 6 yAE (lvC 38 (mP cdB) lvN))))), .normal, (lvC 1 (mP cI) (lvC 3 yAE (lvC 5 yFk (lvC 6 yAE lvN)))), .ret, (lvC 6 yAE (lvC 7 (mP cdS) (lvC 8 (mP cI) lvN)))⟩
theorem yPe {α : Type} : yIP.Ep (α := α) [] Tryz.f18 [1, 0, 1] .no (yIr) := fun _ _ => by kernel_rfl
theorem yOt {α : Type} (L : Nat) : PO Tryz.f18 [1, 0, 1] (yIP.s (α := α) (yIr)) := yIP.kp (yPe) tN (lN _) (by kernel_rfl)
abbrev yKN := Int × yAA × yAw × yAA × Unit
abbrev yKM := Int × yAA × yAw × yAA × Bool × Unit
abbrev yIs {α : Type} (s : yKN) (k0 : yKM → Option α) : Option α :=
 bif s.2.2.1.Kind == 2 then
 k0 (s.1, s.2.1, s.2.2.1, s.2.2.2.1, true, ())
 else
 k0 (s.1, s.2.1, s.2.2.1, s.2.2.2.1, s.2.2.1.Kind == 3, ())
abbrev yIQ : LW1 yKN yKM := ⟨(lvC 1 (mP cI) (lvC 3 yAE (lvC 5 yFk (lvC 6 yAE lvN)))), .normal, (lvC 1 (mP cI) (lvC 3 yAE (lvC 5 yFk (lvC 6 yAE (lvC 9 (mP cdB) lvN)))))⟩
theorem yPf {α : Type} : yIQ.Ep (α := α) [] Tryz.f18 [1, 1, 0] .no (yIs) := fun _ _ => by kernel_rfl
theorem yOu {α : Type} (L : Nat) : PO Tryz.f18 [1, 1, 0] (yIQ.s (α := α) (yIs)) := yIQ.kp (yPf) tN (lN _) (by kernel_rfl)
abbrev yKP := Int × yAA × yAw × yAA × Bool × Unit
abbrev yKO := Int × yAA × yAw × yAA × Bool × Bool × Unit
abbrev yGw {α : Type} (f1 : yBy.T) (s : yKP) (k0 : yKO → Option α) : Option α :=
 bif s.2.2.2.2.1 then
 bif decide (512 < (s.2.2.1.B.size : Int)) then
 k0 (s.1, s.2.1, s.2.2.1, s.2.2.2.1, s.2.2.2.2.1, true, ())
 else
 bif s.2.2.1.Kind == 5 then
 bindO (f1 s.2.1 s.2.2.1.Key) fun r1 =>
 bif !r1 then
 k0 (s.1, s.2.1, s.2.2.1, s.2.2.2.1, s.2.2.2.2.1, true, ())
 else
 bif s.2.2.1.Kind == 6 then
 k0 (s.1, s.2.1, s.2.2.1, s.2.2.2.1, s.2.2.2.2.1, decide (68719476736 ≤ s.2.1.Next), ())
 else
 k0 (s.1, s.2.1, s.2.2.1, s.2.2.2.1, s.2.2.2.2.1, false, ())
 else
 bif s.2.2.1.Kind == 6 then
 k0 (s.1, s.2.1, s.2.2.1, s.2.2.2.1, s.2.2.2.2.1, decide (68719476736 ≤ s.2.1.Next), ())
 else
 k0 (s.1, s.2.1, s.2.2.1, s.2.2.2.1, s.2.2.2.2.1, false, ())
 else
 bif s.2.2.1.Kind == 5 then
 bindO (f1 s.2.1 s.2.2.1.Key) fun r2 =>
 bif !r2 then
 k0 (s.1, s.2.1, s.2.2.1, s.2.2.2.1, s.2.2.2.2.1, true, ())
 else
 bif s.2.2.1.Kind == 6 then
 k0 (s.1, s.2.1, s.2.2.1, s.2.2.2.1, s.2.2.2.2.1, decide (68719476736 ≤ s.2.1.Next), ())
 else
 k0 (s.1, s.2.1, s.2.2.1, s.2.2.2.1, s.2.2.2.2.1, false, ())
 else
 bif s.2.2.1.Kind == 6 then
 k0 (s.1, s.2.1, s.2.2.1, s.2.2.2.1, s.2.2.2.2.1, decide (68719476736 ≤ s.2.1.Next), ())
 else
 k0 (s.1, s.2.1, s.2.2.1, s.2.2.2.1, s.2.2.2.2.1, false, ())
abbrev yIR : LW1 yKP yKO := ⟨(lvC 1 (mP cI) (lvC 3 yAE (lvC 5 yFk (lvC 6 yAE (lvC 9 (mP cdB) lvN))))), .normal, (lvC 1 (mP cI) (lvC 3 yAE (lvC 5 yFk (lvC 6 yAE (lvC 9 (mP cdB) (lvC 76 (mP cdB) lvN))))))⟩
theorem yPg {α : Type} (f1) : yIR.Ep (α := α) [yBy.s f1] Tryz.f18 [1, 1, 1, 0, 0] .no (yGw f1) := fun _ _ => by kernel_rfl
theorem yOv {α : Type} (L : Nat) : PO Tryz.f18 [1, 1, 1, 0, 0] (yIR.s (α := α) (yGw (yA9 L))) := yIR.kp (yPg (yA9 L)) (tC (yKf L).ent tN) (lN _) (by kernel_rfl)
abbrev yKS := Int × yAA × yAw × yAA × Bool × Bool × Unit
abbrev yKQ := Int × yAA × yAw × yAA × Bool × Unit
abbrev yKR := yAA × ByteArray × Int × Unit
abbrev yIt {α : Type} (s : yKS) (k0 : yKQ → Option α) (k1 : yKR → Option α) : Option α :=
 bif s.2.2.2.2.2.1 then
 k1 (s.2.1, noS, 2, ())
 else
 k0 (s.1, s.2.1, s.2.2.1, s.2.2.2.1, s.2.2.2.2.1, ())
abbrev yIS : LW2 yKS yKQ yKR := ⟨(lvC 1 (mP cI) (lvC 3 yAE (lvC 5 yFk (lvC 6 yAE (lvC 9 (mP cdB) (lvC 76 (mP cdB) lvN)))))), .normal, (lvC 1 (mP cI) (lvC 3 yAE (lvC 5 yFk (lvC 6 yAE (lvC 9 (mP cdB) lvN))))), .ret, (lvC 6 yAE (lvC 7 (mP cdS) (lvC 8 (mP cI) lvN)))⟩
theorem yPh {α : Type} : yIS.Ep (α := α) [] Tryz.f18 [1, 1, 1, 0, 1] .no (yIt) := fun _ _ => by kernel_rfl
theorem yOw {α : Type} (L : Nat) : PO Tryz.f18 [1, 1, 1, 0, 1] (yIS.s (α := α) (yIt)) := yIS.kp (yPh) tN (lN _) (by kernel_rfl)
abbrev yKV := Int × yAA × yAw × yAA × Bool × Unit
abbrev yKT := Int × yAA × yAw × yAA × Bool × Unit
abbrev yKU := yAA × ByteArray × Int × Unit
abbrev yIu {α : Type} (f1 : yDl.T) (s : yKV) (k0 : yKT → Option α) (k1 : yKU → Option α) : Option α :=
 bif s.2.2.1.Kind != 6 then
 gI s.2.1.Keys kI s.1 <|
 bindO (f1 s.2.1 ([[V.int .i64 (aI s.2.1.Keys s.1.toNat 0)]])) fun r1 =>
 bif r1 then
 k1 (s.2.1, noS, 61, ())
 else
 k0 (s.1, s.2.1, s.2.2.1, s.2.2.2.1, s.2.2.2.2.1, ())
 else
 k0 (s.1, s.2.1, s.2.2.1, s.2.2.2.1, s.2.2.2.2.1, ())
abbrev yIT : LW2 yKV yKT yKU := ⟨(lvC 1 (mP cI) (lvC 3 yAE (lvC 5 yFk (lvC 6 yAE (lvC 9 (mP cdB) lvN))))), .normal, (lvC 1 (mP cI) (lvC 3 yAE (lvC 5 yFk (lvC 6 yAE (lvC 9 (mP cdB) lvN))))), .ret, (lvC 6 yAE (lvC 7 (mP cdS) (lvC 8 (mP cI) lvN)))⟩
theorem yPi {α : Type} (f1) : yIT.Ep (α := α) [yDl.s f1] Tryz.f18 [1, 1, 1, 1, 0] .no (yIu f1) := fun _ _ => by kernel_rfl
theorem yOx {α : Type} (L : Nat) : PO Tryz.f18 [1, 1, 1, 1, 0] (yIT.s (α := α) (yIu (yHq L))) := yIT.kp (yPi (yHq L)) (tC (yO2 L).ent tN) (lN _) (by kernel_rfl)
abbrev yKX := Int × yAA × yAw × yAA × Bool × Unit
abbrev yKW := Int × yAA × yAw × yAA × Bool × Unit
abbrev yIv {α : Type} (s : yKX) (k0 : yKW → Option α) : Option α :=
 bif s.2.2.2.2.1 then
 bif decide (s.2.2.1.Sector < 0) then
 k0 (s.1, s.2.1, s.2.2.1, s.2.2.2.1, true, ())
 else
 k0 (s.1, s.2.1, s.2.2.1, s.2.2.2.1, decide ((s.2.1.S.length : Int) ≤ s.2.2.1.Sector), ())
 else
 bif s.2.2.1.Kind == 1 then
 bif decide (s.2.2.1.Sector < 0) then
 k0 (s.1, s.2.1, s.2.2.1, s.2.2.2.1, true, ())
 else
 k0 (s.1, s.2.1, s.2.2.1, s.2.2.2.1, decide ((s.2.1.S.length : Int) ≤ s.2.2.1.Sector), ())
 else
 k0 (s.1, s.2.1, s.2.2.1, s.2.2.2.1, false, ())
abbrev yIU : LW1 yKX yKW := ⟨(lvC 1 (mP cI) (lvC 3 yAE (lvC 5 yFk (lvC 6 yAE (lvC 9 (mP cdB) lvN))))), .normal, (lvC 1 (mP cI) (lvC 3 yAE (lvC 5 yFk (lvC 6 yAE (lvC 110 (mP cdB) lvN)))))⟩
theorem yPj {α : Type} : yIU.Ep (α := α) [] Tryz.f18 [1, 1, 1, 1, 1, 0, 0] .no (yIv) := fun _ _ => by kernel_rfl
theorem yOy {α : Type} (L : Nat) : PO Tryz.f18 [1, 1, 1, 1, 1, 0, 0] (yIU.s (α := α) (yIv)) := yIU.kp (yPj) tN (lN _) (by kernel_rfl)
abbrev yKa := Int × yAA × yAw × yAA × Bool × Unit
abbrev yKY := Int × yAA × yAw × yAA × Unit
abbrev yKZ := yAA × ByteArray × Int × Unit
abbrev yIw {α : Type} (s : yKa) (k0 : yKY → Option α) (k1 : yKZ → Option α) : Option α :=
 bif s.2.2.2.2.1 then
 k1 (s.2.1, noS, 60, ())
 else
 k0 (s.1, s.2.1, s.2.2.1, s.2.2.2.1, ())
abbrev yIV : LW2 yKa yKY yKZ := ⟨(lvC 1 (mP cI) (lvC 3 yAE (lvC 5 yFk (lvC 6 yAE (lvC 110 (mP cdB) lvN))))), .normal, (lvC 1 (mP cI) (lvC 3 yAE (lvC 5 yFk (lvC 6 yAE lvN)))), .ret, (lvC 6 yAE (lvC 7 (mP cdS) (lvC 8 (mP cI) lvN)))⟩
theorem yPk {α : Type} : yIV.Ep (α := α) [] Tryz.f18 [1, 1, 1, 1, 1, 0, 1] .no (yIw) := fun _ _ => by kernel_rfl
theorem yOz {α : Type} (L : Nat) : PO Tryz.f18 [1, 1, 1, 1, 1, 0, 1] (yIV.s (α := α) (yIw)) := yIV.kp (yPk) tN (lN _) (by kernel_rfl)
abbrev yKc := Int × yAA × yAw × yAA × Unit
abbrev yKb := Int × yAw × yAA × ((List (List V)) × (List (List V)) × (List (List V)) × Int × (List (List V)) × Unit) × Unit
abbrev yGx {α : Type} (f1 : yDn.T) (s : yKc) (k0 : yKb → Option α) : Option α :=
 bindO (f1 s.2.1) fun r1 =>
 gW r1.1 r1.1.length <|
 gW r1.2.1 r1.2.1.length <|
 gW r1.2.2.1 r1.2.2.1.length <|
 gF r1.2.2.2.2.1 (0 + r1.2.2.2.2.1.length) <|
 k0 (s.1, s.2.2.1, s.2.2.2.1, (r1.1, r1.2.1, r1.2.2.1, r1.2.2.2.1, r1.2.2.2.2.1.take r1.2.2.2.2.1.length, ()), ())
abbrev yIW : LW1 yKc yKb := ⟨(lvC 1 (mP cI) (lvC 3 yAE (lvC 5 yFk (lvC 6 yAE lvN)))), .normal, (lvC 1 (mP cI) (lvC 5 yFk (lvC 6 yAE (lvC 10 (mO (zW 1 (zW 1 (zW 1 (zP cI (zP cdR zN))))) 5) lvN))))⟩
theorem yPl {α : Type} (f1) : yIW.Ep (α := α) [yDn.s f1] Tryz.f18 [1, 1, 1, 1, 1, 1, 0] .no (yGx f1) := fun _ _ => by kernel_rfl
theorem yO0 {α : Type} (L : Nat) : PO Tryz.f18 [1, 1, 1, 1, 1, 1, 0] (yIW.s (α := α) (yGx (yDP L))) := yIW.kp (yPl (yDP L)) (tC (yO6 L).ent tN) (lN _) (by kernel_rfl)
abbrev yKe := Int × yAw × yAA × ((List (List V)) × (List (List V)) × (List (List V)) × Int × (List (List V)) × Unit) × (List (List V)) × Unit
abbrev yKd := Int × yAw × yAA × ((List (List V)) × (List (List V)) × (List (List V)) × Int × (List (List V)) × Unit) × (List (List V)) × Int × Unit
abbrev yGy {α : Type} (f1 : yEw.T) (s : yKe) (k0 : yKd → Option α) : Option α :=
 bindO (f1 s.2.2.2.2.1 s.2.1.Sector) fun r1 =>
 gW s.2.2.2.1.1 s.2.2.2.1.1.length <|
 gW s.2.2.2.1.2.1 s.2.2.2.1.2.1.length <|
 gW s.2.2.2.1.2.2.1 s.2.2.2.1.2.2.1.length <|
 k0 (s.1, s.2.1, s.2.2.1, (s.2.2.2.1.1, s.2.2.2.1.2.1, s.2.2.2.1.2.2.1, s.2.2.2.1.2.2.2.1, s.2.2.2.1.2.2.2.2.1, ()), s.2.2.2.2.1, r1, ())
abbrev yIX : LW1 yKe yKd := ⟨(lvC 1 (mP cI) (lvC 5 yFk (lvC 6 yAE (lvC 10 (mO (zW 1 (zW 1 (zW 1 (zP cI (zP cdR zN))))) 5) (lvC 11 (mP cdR) lvN))))), .normal, (lvC 1 (mP cI) (lvC 5 yFk (lvC 6 yAE (lvC 10 (mO (zW 1 (zW 1 (zW 1 (zP cI (zP cdR zN))))) 5) (lvC 11 (mP cdR) (lvC 12 (mP cI) lvN))))))⟩
theorem yPm {α : Type} (f1) : yIX.Ep (α := α) [yEw.s f1] Tryz.f18 [1, 1, 1, 1, 1, 1, 1, 1, 0] .no (yGy f1) := fun _ _ => by kernel_rfl
theorem yO1 {α : Type} (L : Nat) : PO Tryz.f18 [1, 1, 1, 1, 1, 1, 1, 1, 0] (yIX.s (α := α) (yGy (yFX L))) := yIX.kp (yPm (yFX L)) (tC (yPq L).ent tN) (lN _) (by kernel_rfl)
abbrev yIZ := fw3 18 (caC yB9 (caC cI (caC yJe caN))) (cdT (caC yB9 (caC cdS (caC cI caN))))
abbrev yM8 (f1 : yDC.T) (f2 : yEv.T) (f3 : yB8.T) (P0 : LF1 yKI yKH (yAA × ByteArray × Int × Unit)) (P1 : LF2 yKL yKJ yKK (yAA × ByteArray × Int × Unit)) (P2 : LF1 yKN yKM (yAA × ByteArray × Int × Unit)) (P3 : LF1 yKP yKO (yAA × ByteArray × Int × Unit)) (P4 : LF2 yKS yKQ yKR (yAA × ByteArray × Int × Unit)) (P5 : LF2 yKV yKT yKU (yAA × ByteArray × Int × Unit)) (P6 : LF1 yKX yKW (yAA × ByteArray × Int × Unit)) (P7 : LF2 yKa yKY yKZ (yAA × ByteArray × Int × Unit)) (P8 : LF1 yKc yKb (yAA × ByteArray × Int × Unit)) (P9 : LF1 yKe yKd (yAA × ByteArray × Int × Unit)) (x0 : yAA) (x1 : Int) (x2 : yAw) : Option (yAA × ByteArray × Int × Unit) :=
 P0 (x1, x0, x2, yAA.z, ()) (fun q1 =>
 P1 (q1.1, q1.2.1, q1.2.2.1, q1.2.2.2.1, q1.2.2.2.2.1, ()) (fun q2 =>
 P2 (q2.1, q2.2.1, q2.2.2.1, q2.2.2.2.1, ()) (fun q3 =>
 P3 (q3.1, q3.2.1, q3.2.2.1, q3.2.2.2.1, q3.2.2.2.2.1, ()) (fun q4 =>
 P4 (q4.1, q4.2.1, q4.2.2.1, q4.2.2.2.1, q4.2.2.2.2.1, q4.2.2.2.2.2.1, ()) (fun q5 =>
 P5 (q5.1, q5.2.1, q5.2.2.1, q5.2.2.2.1, q5.2.2.2.2.1, ()) (fun q6 =>
 P6 (q6.1, q6.2.1, q6.2.2.1, q6.2.2.2.1, q6.2.2.2.2.1, ()) (fun q7 =>
 P7 (q7.1, q7.2.1, q7.2.2.1, q7.2.2.2.1, q7.2.2.2.2.1, ()) (fun q8 =>
 P8 (q8.1, q8.2.1, q8.2.2.1, q8.2.2.2.1, ()) (fun q9 =>
 gB q9.1 q9.2.2.2.1.2.1.length <|
 gL q9.2.2.2.1.2.1 kL (0 + q9.1.toNat) 0 <|
 gW q9.2.2.2.1.1 q9.2.2.2.1.1.length <|
 gW q9.2.2.2.1.2.1 q9.2.2.2.1.2.1.length <|
 gW q9.2.2.2.1.2.2.1 q9.2.2.2.1.2.2.1.length <|
 P9 (q9.1, q9.2.1, q9.2.2.1, (q9.2.2.2.1.1, q9.2.2.2.1.2.1, q9.2.2.2.1.2.2.1, q9.2.2.2.1.2.2.2.1, q9.2.2.2.1.2.2.2.2.1, ()), aR q9.2.2.2.1.2.1 (0 + q9.1.toNat) 0, ()) (fun q10 =>
 bif q10.2.1.Kind == 1 then
 bif decide (0 ≤ q10.2.2.2.2.2.1) then
 gI q10.2.2.2.2.1 yDZ.ks q10.2.2.2.2.2.1 <|
 gF q10.2.2.2.1.1 (0 + q10.2.2.2.1.1.length) <|
 gF q10.2.2.2.1.2.1 (0 + q10.2.2.2.1.2.1.length) <|
 gF q10.2.2.2.1.2.2.1 (0 + q10.2.2.2.1.2.2.1.length) <|
 some ((⟨q10.2.2.2.1.1.take q10.2.2.2.1.1.length, q10.2.2.2.1.2.1.take q10.2.2.2.1.2.1.length, q10.2.2.2.1.2.2.1.take q10.2.2.2.1.2.2.1.length, q10.2.2.2.1.2.2.2.1, q10.2.2.2.1.2.2.2.2.1⟩ : yAA), aS q10.2.2.2.2.1 q10.2.2.2.2.2.1.toNat 1, 0, ())
 else
 gB q10.2.1.Sector q10.2.2.2.1.1.length <|
 gL q10.2.2.2.1.1 kS (0 + q10.2.1.Sector.toNat) 0 <|
 gF q10.2.2.2.1.1 (0 + q10.2.2.2.1.1.length) <|
 gF q10.2.2.2.1.2.1 (0 + q10.2.2.2.1.2.1.length) <|
 gF q10.2.2.2.1.2.2.1 (0 + q10.2.2.2.1.2.2.1.length) <|
 some ((⟨q10.2.2.2.1.1.take q10.2.2.2.1.1.length, q10.2.2.2.1.2.1.take q10.2.2.2.1.2.1.length, q10.2.2.2.1.2.2.1.take q10.2.2.2.1.2.2.1.length, q10.2.2.2.1.2.2.2.1, q10.2.2.2.1.2.2.2.2.1⟩ : yAA), aS q10.2.2.2.1.1 (0 + q10.2.1.Sector.toNat) 0, 0, ())
 else
 bif q10.2.1.Kind == 2 then
 gB q10.2.1.Sector q10.2.2.2.1.1.length <|
 gd (decide (0 + q10.2.1.Sector.toNat < q10.2.2.2.1.1.length)) <|
 gd (Nat.ble 0 (0 + q10.2.1.Sector.toNat)) <|
 gd (Nat.ble 1 (q10.2.2.2.1.1.getD (0 + q10.2.1.Sector.toNat) []).length) <|
 bif decide (0 ≤ q10.2.2.2.2.2.1) then
 bindO (f1 q10.2.2.2.2.1 q10.2.2.2.2.2.1) fun r11 =>
 gB q10.1 q10.2.2.2.1.2.1.length <|
 gd (decide (0 + q10.1.toNat < q10.2.2.2.1.2.1.length)) <|
 gd (Nat.ble 0 (0 + q10.1.toNat)) <|
 gd (Nat.ble 1 (q10.2.2.2.1.2.1.getD (0 + q10.1.toNat) []).length) <|
 gF (q10.2.2.2.1.1.set (0 + q10.2.1.Sector.toNat) ((q10.2.2.2.1.1.getD (0 + q10.2.1.Sector.toNat) []).take 0 ++ ([V.str q10.2.1.B] ++ (q10.2.2.2.1.1.getD (0 + q10.2.1.Sector.toNat) []).drop 1))) (0 + q10.2.2.2.1.1.length) <|
 gF (q10.2.2.2.1.2.1.set (0 + q10.1.toNat) ((q10.2.2.2.1.2.1.getD (0 + q10.1.toNat) []).take 0 ++ ([V.sl r11 false] ++ (q10.2.2.2.1.2.1.getD (0 + q10.1.toNat) []).drop 1))) (0 + q10.2.2.2.1.2.1.length) <|
 gF q10.2.2.2.1.2.2.1 (0 + q10.2.2.2.1.2.2.1.length) <|
 some ((⟨(q10.2.2.2.1.1.set (0 + q10.2.1.Sector.toNat) ((q10.2.2.2.1.1.getD (0 + q10.2.1.Sector.toNat) []).take 0 ++ ([V.str q10.2.1.B] ++ (q10.2.2.2.1.1.getD (0 + q10.2.1.Sector.toNat) []).drop 1))).take q10.2.2.2.1.1.length, (q10.2.2.2.1.2.1.set (0 + q10.1.toNat) ((q10.2.2.2.1.2.1.getD (0 + q10.1.toNat) []).take 0 ++ ([V.sl r11 false] ++ (q10.2.2.2.1.2.1.getD (0 + q10.1.toNat) []).drop 1))).take q10.2.2.2.1.2.1.length, q10.2.2.2.1.2.2.1.take q10.2.2.2.1.2.2.1.length, q10.2.2.2.1.2.2.2.1, q10.2.2.2.1.2.2.2.2.1⟩ : yAA), noS, 0, ())
 else
 gF (q10.2.2.2.1.1.set (0 + q10.2.1.Sector.toNat) ((q10.2.2.2.1.1.getD (0 + q10.2.1.Sector.toNat) []).take 0 ++ ([V.str q10.2.1.B] ++ (q10.2.2.2.1.1.getD (0 + q10.2.1.Sector.toNat) []).drop 1))) (0 + q10.2.2.2.1.1.length) <|
 gF q10.2.2.2.1.2.1 (0 + q10.2.2.2.1.2.1.length) <|
 gF q10.2.2.2.1.2.2.1 (0 + q10.2.2.2.1.2.2.1.length) <|
 some ((⟨(q10.2.2.2.1.1.set (0 + q10.2.1.Sector.toNat) ((q10.2.2.2.1.1.getD (0 + q10.2.1.Sector.toNat) []).take 0 ++ ([V.str q10.2.1.B] ++ (q10.2.2.2.1.1.getD (0 + q10.2.1.Sector.toNat) []).drop 1))).take q10.2.2.2.1.1.length, q10.2.2.2.1.2.1.take q10.2.2.2.1.2.1.length, q10.2.2.2.1.2.2.1.take q10.2.2.2.1.2.2.1.length, q10.2.2.2.1.2.2.2.1, q10.2.2.2.1.2.2.2.2.1⟩ : yAA), noS, 0, ())
 else
 bif q10.2.1.Kind == 3 then
 gd (decide (0 ≤ q10.2.2.2.2.2.1)) <|
 gI q10.2.2.2.2.1 yDZ.ks q10.2.2.2.2.2.1 <|
 none
 else
 bif q10.2.1.Kind == 4 then
 bif decide (0 < (q10.2.2.2.2.1.length : Int)) then
 gd (decide (0 < (q10.2.2.2.2.1.length : Int))) <|
 gd (rowIs yDZ.ks q10.2.2.2.2.1 0) <|
 gd (decide (0 < (q10.2.2.2.2.1.length : Int))) <|
 gd (rowIs yDZ.ks q10.2.2.2.2.1 0) <|
 gB (aI q10.2.2.2.2.1 0 0) q10.2.2.2.1.1.length <|
 gd (decide (0 + (aI q10.2.2.2.2.1 0 0).toNat < q10.2.2.2.1.1.length)) <|
 gd (Nat.ble 0 (0 + (aI q10.2.2.2.2.1 0 0).toNat)) <|
 gd (Nat.ble 1 (q10.2.2.2.1.1.getD (0 + (aI q10.2.2.2.2.1 0 0).toNat) []).length) <|
 bindO (f1 q10.2.2.2.2.1 0) fun r12 =>
 gB q10.1 q10.2.2.2.1.2.1.length <|
 gd (decide (0 + q10.1.toNat < q10.2.2.2.1.2.1.length)) <|
 gd (Nat.ble 0 (0 + q10.1.toNat)) <|
 gd (Nat.ble 1 (q10.2.2.2.1.2.1.getD (0 + q10.1.toNat) []).length) <|
 gF (q10.2.2.2.1.1.set (0 + (aI q10.2.2.2.2.1 0 0).toNat) ((q10.2.2.2.1.1.getD (0 + (aI q10.2.2.2.2.1 0 0).toNat) []).take 0 ++ ([V.str (aS q10.2.2.2.2.1 0 1)] ++ (q10.2.2.2.1.1.getD (0 + (aI q10.2.2.2.2.1 0 0).toNat) []).drop 1))) (0 + q10.2.2.2.1.1.length) <|
 gF (q10.2.2.2.1.2.1.set (0 + q10.1.toNat) ((q10.2.2.2.1.2.1.getD (0 + q10.1.toNat) []).take 0 ++ ([V.sl r12 false] ++ (q10.2.2.2.1.2.1.getD (0 + q10.1.toNat) []).drop 1))) (0 + q10.2.2.2.1.2.1.length) <|
 gF q10.2.2.2.1.2.2.1 (0 + q10.2.2.2.1.2.2.1.length) <|
 some ((⟨(q10.2.2.2.1.1.set (0 + (aI q10.2.2.2.2.1 0 0).toNat) ((q10.2.2.2.1.1.getD (0 + (aI q10.2.2.2.2.1 0 0).toNat) []).take 0 ++ ([V.str (aS q10.2.2.2.2.1 0 1)] ++ (q10.2.2.2.1.1.getD (0 + (aI q10.2.2.2.2.1 0 0).toNat) []).drop 1))).take q10.2.2.2.1.1.length, (q10.2.2.2.1.2.1.set (0 + q10.1.toNat) ((q10.2.2.2.1.2.1.getD (0 + q10.1.toNat) []).take 0 ++ ([V.sl r12 false] ++ (q10.2.2.2.1.2.1.getD (0 + q10.1.toNat) []).drop 1))).take q10.2.2.2.1.2.1.length, q10.2.2.2.1.2.2.1.take q10.2.2.2.1.2.2.1.length, q10.2.2.2.1.2.2.2.1, q10.2.2.2.1.2.2.2.2.1⟩ : yAA), noS, 0, ())
 else
 gF q10.2.2.2.1.1 (0 + q10.2.2.2.1.1.length) <|
 gF q10.2.2.2.1.2.1 (0 + q10.2.2.2.1.2.1.length) <|
 gF q10.2.2.2.1.2.2.1 (0 + q10.2.2.2.1.2.2.1.length) <|
 some ((⟨q10.2.2.2.1.1.take q10.2.2.2.1.1.length, q10.2.2.2.1.2.1.take q10.2.2.2.1.2.1.length, q10.2.2.2.1.2.2.1.take q10.2.2.2.1.2.2.1.length, q10.2.2.2.1.2.2.2.1, q10.2.2.2.1.2.2.2.2.1⟩ : yAA), noS, 0, ())
 else
 bif q10.2.1.Kind == 5 then
 bindO (f2 q10.2.2.2.1.2.2.2.2.1 q10.2.1.Key) fun r13 =>
 gF q10.2.2.2.1.1 (0 + q10.2.2.2.1.1.length) <|
 gF q10.2.2.2.1.2.1 (0 + q10.2.2.2.1.2.1.length) <|
 gF q10.2.2.2.1.2.2.1 (0 + q10.2.2.2.1.2.2.1.length) <|
 some ((⟨q10.2.2.2.1.1.take q10.2.2.2.1.1.length, q10.2.2.2.1.2.1.take q10.2.2.2.1.2.1.length, q10.2.2.2.1.2.2.1.take q10.2.2.2.1.2.2.1.length, q10.2.2.2.1.2.2.2.1, r13⟩ : yAA), noS, 0, ())
 else
 bif q10.2.1.Kind == 6 then
 gB q10.1 q10.2.2.2.1.2.2.1.length <|
 gd (decide (0 + q10.1.toNat < q10.2.2.2.1.2.2.1.length)) <|
 gd (Nat.ble 0 (0 + q10.1.toNat)) <|
 gd (Nat.ble 1 (q10.2.2.2.1.2.2.1.getD (0 + q10.1.toNat) []).length) <|
 gB q10.1 q10.2.2.2.1.2.1.length <|
 gd (decide (0 + q10.1.toNat < q10.2.2.2.1.2.1.length)) <|
 gd (Nat.ble 0 (0 + q10.1.toNat)) <|
 gd (Nat.ble 1 (q10.2.2.2.1.2.1.getD (0 + q10.1.toNat) []).length) <|
 gB q10.1 q10.2.2.2.1.2.2.1.length <|
 gL (q10.2.2.2.1.2.2.1.set (0 + q10.1.toNat) ((q10.2.2.2.1.2.2.1.getD (0 + q10.1.toNat) []).take 0 ++ ([V.int .i64 (w64 ((w64 (16 * q10.2.2.2.1.2.2.2.1)) + q10.1))] ++ (q10.2.2.2.1.2.2.1.getD (0 + q10.1.toNat) []).drop 1))) kI (0 + q10.1.toNat) 0 <|
 bindO (f3 ([]) 6 ([[V.int .i64 (aI (q10.2.2.2.1.2.2.1.set (0 + q10.1.toNat) ((q10.2.2.2.1.2.2.1.getD (0 + q10.1.toNat) []).take 0 ++ ([V.int .i64 (w64 ((w64 (16 * q10.2.2.2.1.2.2.2.1)) + q10.1))] ++ (q10.2.2.2.1.2.2.1.getD (0 + q10.1.toNat) []).drop 1))) (0 + q10.1.toNat) 0)]])) fun r14 =>
 gd (Nat.ble (0 + r14.1.length) r14.1.length) <|
 gd ((bytesOf (r14.1.take r14.1.length)).isSome) <|
 gF q10.2.2.2.1.1 (0 + q10.2.2.2.1.1.length) <|
 gF (q10.2.2.2.1.2.1.set (0 + q10.1.toNat) ((q10.2.2.2.1.2.1.getD (0 + q10.1.toNat) []).take 0 ++ ([V.sl ([]) true] ++ (q10.2.2.2.1.2.1.getD (0 + q10.1.toNat) []).drop 1))) (0 + q10.2.2.2.1.2.1.length) <|
 gF (q10.2.2.2.1.2.2.1.set (0 + q10.1.toNat) ((q10.2.2.2.1.2.2.1.getD (0 + q10.1.toNat) []).take 0 ++ ([V.int .i64 (w64 ((w64 (16 * q10.2.2.2.1.2.2.2.1)) + q10.1))] ++ (q10.2.2.2.1.2.2.1.getD (0 + q10.1.toNat) []).drop 1))) (0 + q10.2.2.2.1.2.2.1.length) <|
 some ((⟨q10.2.2.2.1.1.take q10.2.2.2.1.1.length, (q10.2.2.2.1.2.1.set (0 + q10.1.toNat) ((q10.2.2.2.1.2.1.getD (0 + q10.1.toNat) []).take 0 ++ ([V.sl ([]) true] ++ (q10.2.2.2.1.2.1.getD (0 + q10.1.toNat) []).drop 1))).take q10.2.2.2.1.2.1.length, (q10.2.2.2.1.2.2.1.set (0 + q10.1.toNat) ((q10.2.2.2.1.2.2.1.getD (0 + q10.1.toNat) []).take 0 ++ ([V.int .i64 (w64 ((w64 (16 * q10.2.2.2.1.2.2.2.1)) + q10.1))] ++ (q10.2.2.2.1.2.2.1.getD (0 + q10.1.toNat) []).drop 1))).take q10.2.2.2.1.2.2.1.length, w64 (q10.2.2.2.1.2.2.2.1 + 1), q10.2.2.2.1.2.2.2.2.1⟩ : yAA), bytesS (r14.1.take r14.1.length), 0, ())
 else
 gF q10.2.2.2.1.1 (0 + q10.2.2.2.1.1.length) <|
 gF q10.2.2.2.1.2.1 (0 + q10.2.2.2.1.2.1.length) <|
 gF q10.2.2.2.1.2.2.1 (0 + q10.2.2.2.1.2.2.1.length) <|
 some ((⟨q10.2.2.2.1.1.take q10.2.2.2.1.1.length, q10.2.2.2.1.2.1.take q10.2.2.2.1.2.1.length, q10.2.2.2.1.2.2.1.take q10.2.2.2.1.2.2.1.length, q10.2.2.2.1.2.2.2.1, q10.2.2.2.1.2.2.2.2.1⟩ : yAA), noS, 0, ())))) (fun q15 =>
 some (q15.1, q15.2.1, q15.2.2.1, ())))) (fun q16 =>
 some (q16.1, q16.2.1, q16.2.2.1, ()))) (fun q17 =>
 some (q17.1, q17.2.1, q17.2.2.1, ()))))) (fun q18 =>
 some (q18.1, q18.2.1, q18.2.2.1, ())))
theorem yRP (f1 f2 f3 P0 P1 P2 P3 P4 P5 P6 P7 P8 P9) : yIZ.Eq [yDC.s f1, yEv.s f2, yB8.s f3] (.two .no (.two (.two (.pt (yIO.s P0)) (.pt (yIP.s P1))) (.two (.pt (yIQ.s P2)) (.two (.two (.pt (yIR.s P3)) (.pt (yIS.s P4))) (.two (.pt (yIT.s P5)) (.two (.two (.pt (yIU.s P6)) (.pt (yIV.s P7))) (.two (.pt (yIW.s P8)) (.two .no (.two (.pt (yIX.s P9)) .no))))))))) (yM8 f1 f2 f3 P0 P1 P2 P3 P4 P5 P6 P7 P8 P9) := fun _ => by kernel_rfl
def yIN (L : Nat) : yIZ.T := yM8 (yKh L) (yMG L) (yBZ L) (yGv (yBh L)) (yIr) (yIs) (yGw (yA9 L)) (yIt) (yIu (yHq L)) (yIv) (yIw) (yGx (yDP L)) (yGy (yFX L))
theorem yRO (L : Nat) : yIZ.C (yIN L) := yIZ.c (yRP (yKh L) (yMG L) (yBZ L) (yGv (yBh L)) (yIr) (yIs) (yGw (yA9 L)) (yIt) (yIu (yHq L)) (yIv) (yIw) (yGx (yDP L)) (yGy (yFX L))) (tC (yOJ L).ent (tC (yPn L).ent (tC (yKB L).ent tN))) Tryz.func18 (by kernel_rfl) (lS (lN _) (lS (lS (lP (yOs L)) (lP (yOt L))) (lS (lP (yOu L)) (lS (lS (lP (yOv L)) (lP (yOw L))) (lS (lP (yOx L)) (lS (lS (lP (yOy L)) (lP (yOz L))) (lS (lP (yO0 L)) (lS (lN _) (lS (lP (yO1 L)) (lN _))))))))))
end Go.Proofs.YtakljpcmbpaeaaaGreat

namespace Go.Proofs.YtakljpcmbpaeaaaGreat
open Go.RowKit
set_option maxRecDepth 100000
set_option maxHeartbeats 16000000

abbrev yFw := fw2 75 (caC yCa (caC cI caN)) cI
abbrev yLM (f1 : yAv.T) (f2 : yB4.T) (x0 : yAW) (x1 : Int) : Option Int :=
 bindO (f1 x0) fun r1 =>
 bif !r1 then
 some (-1)
 else
 bindO (f2 x1 0 (w64 (x0.Slots - 1))) fun r2 =>
 bif !r2 then
 some (-1)
 else
 some (w64 ((w64 ((w64 (1 + (w64 (2 * x0.Nodes)))) + x0.Log)) + (w64 (x1 * (w64 (1 + x0.Journal))))))
theorem yQQ (f1 f2) : yFw.Eq [yAv.s f1, yB4.s f2] .no (yLM f1 f2) := fun _ => by kernel_rfl
def yEf (L : Nat) : yFw.T := yLM (yBa L) (yEh L)
theorem yQP (L : Nat) : yFw.C (yEf L) := yFw.c (yQQ (yBa L) (yEh L)) (tC (yEN L).ent (tC (yJn L).ent tN)) Tryz.func75 (by kernel_rfl) (lN _)
abbrev yFr := fw1 304 (caC cI caN) cI
abbrev yLH (x0 : Int) : Option Int :=
 bif (IntKind.i64.wrap ((BitVec.ofInt IntKind.i64.bits x0 &&& BitVec.ofInt IntKind.i64.bits 1).toNat : Int)) == 1 then
 some (IntKind.i64.wrap ((BitVec.ofInt IntKind.i64.bits (x0.fdiv (2 ^ (min (1 : Int).toNat IntKind.i64.bits))) ^^^ BitVec.ofInt IntKind.i64.bits 2197175160).toNat : Int))
 else
 some (x0.fdiv (2 ^ (min (1 : Int).toNat IntKind.i64.bits)))
theorem yQI : yFr.Eq [] .no (yLH) := fun _ => by kernel_rfl
def yCK (L : Nat) : yFr.T := yLH
theorem yQH (L : Nat) : yFr.C (yCK L) := yFr.c (yQI) tN Tryz.func304 (by kernel_rfl) (lN _)
abbrev yGN := Int × Int × Int × Int × Unit
abbrev yIn := Int × Int × Int × Unit
abbrev yBR {α : Type} (f1 : yFr.T) (s : yGN) (kn : yGN → Option α) (k0 : yIn → Option α) : Option α :=
 bif decide (s.2.2.2.1 < 8) then
 bindO (f1 s.1) fun r1 =>
 kn (r1, s.2.1, s.2.2.1, w64 (s.2.2.2.1 + 1), ())
 else
 k0 (s.1, s.2.1, s.2.2.1, ())
abbrev yGO : LW1 yGN yIn := ⟨(lvC 0 (mP cI) (lvC 1 (mP cI) (lvC 5 (mP cI) (lvC 6 (mP cI) lvN)))), (.exit 2), (lvC 0 (mP cI) (lvC 1 (mP cI) (lvC 5 (mP cI) lvN)))⟩
theorem yOH {α : Type} (f1) : yGO.Eq (α := α) [yFr.s f1] Tryz.f270 [1, 1, 0, 1, 0, 0, 1, 0, 0, 1, 0] .no (yBR f1) := fun _ _ _ => by kernel_rfl
abbrev yEM := Int × Int × Int × Unit
abbrev yGL := Int × Unit
abbrev yCE {α : Type} (F1 : LF1 yGN yIn α) (s : yEM) (kn : yEM → Option α) (k0 : yGL → Option α) : Option α :=
 bif decide (s.2.2.1 < s.2.1) then
 F1 (s.1, s.2.1, s.2.2.1, 0, ()) (fun q1 =>
 kn (q1.1, q1.2.1, w64 (q1.2.2.1 + 1), ()))
 else
 k0 (s.1, ())
abbrev yGM : LW1 yEM yGL := ⟨(lvC 0 (mP cI) (lvC 1 (mP cI) (lvC 5 (mP cI) lvN))), (.exit 0), (lvC 0 (mP cI) lvN)⟩
theorem yOG {α : Type} (F1) : yGM.Eq (α := α) [] Tryz.f270 [1, 1, 0, 1, 0] (.two .no (.two (.one (.two .no (.one (.lp (yGO.s F1))))) .no)) (yCE F1) := fun _ _ _ => by kernel_rfl
abbrev yFq := fw2 270 (caC cI (caC cI caN)) cI
abbrev yLF (F0 : LF1 yEM yGL (Int)) (x0 : Int) (x1 : Int) : Option Int :=
 F0 (IntKind.i64.wrap ((BitVec.ofInt IntKind.i64.bits x0 &&& BitVec.ofInt IntKind.i64.bits 4294967295).toNat : Int), x1, 0, ()) (fun q1 =>
 some q1.1)
theorem yQG (F0) : yFq.Eq [] (.two .no (.two .no (.two (.two .no (.one (.lp (yGM.s F0)))) .no))) (yLF F0) := fun _ => by kernel_rfl
def yFp (L : Nat) : yFq.T := yLF (loop1 (yCE (loop1 (yBR (yCK L)) L)) L)
theorem yNe {α : Type} (L : Nat) : LO Tryz.f270 [1, 1, 0, 1, 0, 0, 1, 0, 0, 1, 0] (yGO.s (α := α) (loop1 (yBR (yCK L)) L)) := yGO.k (yOH (yCK L)) (tC (yQH L).ent tN) (lN _) (by kernel_rfl) L
theorem yNd {α : Type} (L : Nat) : LO Tryz.f270 [1, 1, 0, 1, 0] (yGM.s (α := α) (loop1 (yCE (loop1 (yBR (yCK L)) L)) L)) := yGM.k (yOG (loop1 (yBR (yCK L)) L)) tN (lS (lN _) (lS (lB (lS (lN _) (lB (lL (yNe L))))) (lN _))) (by kernel_rfl) L
theorem yQF (L : Nat) : yFq.C (yFp L) := yFq.c (yQG (loop1 (yCE (loop1 (yBR (yCK L)) L)) L)) tN Tryz.func270 (by kernel_rfl) (lS (lN _) (lS (lN _) (lS (lS (lN _) (lB (lL (yNd L)))) (lN _))))
abbrev yHd := (List (List V)) × Int × Int × Unit
abbrev yJS := Int × Unit
abbrev yEL {α : Type} (f1 : yFq.T) (s : yHd) (kn : yHd → Option α) (k0 : yJS → Option α) : Option α :=
 bif decide (s.2.2.1 < (s.1.length : Int)) then
 gI s.1 kU s.2.2.1 <|
 bindO (f1 (IntKind.i64.wrap ((BitVec.ofInt IntKind.i64.bits s.2.1 ^^^ BitVec.ofInt IntKind.i64.bits (w64 (aI s.1 s.2.2.1.toNat 0))).toNat : Int)) 1) fun r1 =>
 kn (s.1, r1, w64 (s.2.2.1 + 1), ())
 else
 k0 (s.2.1, ())
abbrev yHe : LW1 yHd yJS := ⟨(lvC 1 (mP cdR) (lvC 5 (mP cI) (lvC 6 (mP cI) lvN))), (.exit 0), (lvC 5 (mP cI) lvN)⟩
theorem yOn {α : Type} (f1) : yHe.Eq (α := α) [yFq.s f1] Tryz.f207 [1, 1, 0, 1, 0] .no (yEL f1) := fun _ _ _ => by kernel_rfl
abbrev yGm := fw2 207 (caC cI (caC cdR caN)) cI
abbrev yMB (F0 : LF1 yHd yJS (Int)) (x0 : Int) (x1 : List (List V)) : Option Int :=
 F0 (x1, IntKind.i64.wrap ((BitVec.ofInt IntKind.i64.bits (IntKind.i64.wrap ((BitVec.ofInt IntKind.i64.bits x0 &&& BitVec.ofInt IntKind.i64.bits 4294967295).toNat : Int)) ^^^ BitVec.ofInt IntKind.i64.bits 4294967295).toNat : Int), 0, ()) (fun q1 =>
 some (IntKind.i64.wrap ((BitVec.ofInt IntKind.i64.bits q1.1 ^^^ BitVec.ofInt IntKind.i64.bits 4294967295).toNat : Int)))
theorem yQr (F0) : yGm.Eq [] (.two .no (.two .no (.two (.two .no (.one (.lp (yHe.s F0)))) .no))) (yMB F0) := fun _ => by kernel_rfl
def yMj (L : Nat) : yGm.T := yMB (loop1 (yEL (yFp L)) L)
theorem yOF {α : Type} (L : Nat) : LO Tryz.f207 [1, 1, 0, 1, 0] (yHe.s (α := α) (loop1 (yEL (yFp L)) L)) := yHe.k (yOn (yFp L)) (tC (yQF L).ent tN) (lN _) (by kernel_rfl) L
theorem yQq (L : Nat) : yGm.C (yMj L) := yGm.c (yQr (loop1 (yEL (yFp L)) L)) tN Tryz.func207 (by kernel_rfl) (lS (lN _) (lS (lN _) (lS (lS (lN _) (lB (lL (yOF L)))) (lN _))))
abbrev yGn := fw1 161 (caC cdR caN) cI
abbrev yMC (f1 : yGm.T) (x0 : List (List V)) : Option Int :=
 bindO (f1 0 x0) fun r1 =>
 some r1
theorem yQt (f1) : yGn.Eq [yGm.s f1] .no (yMC f1) := fun _ => by kernel_rfl
def yLG (L : Nat) : yGn.T := yMC (yMj L)
theorem yQs (L : Nat) : yGn.C (yLG L) := yGn.c (yQt (yMj L)) (tC (yQq L).ent tN) Tryz.func161 (by kernel_rfl) (lN _)
abbrev yDO := fw2 101 (caC (cdI .i8) (caC cdS caN)) (cdT (caC cdS (caC cI caN)))
abbrev yLK (f1 : yB8.T) (f2 : yGn.T) (x0 : Int) (x1 : ByteArray) : Option (ByteArray × Int × Unit) :=
 bif decide (x0 < 1) then
 some (noS, 2, ())
 else
 bif decide (505 < (x1.size : Int)) then
 some (noS, 2, ())
 else
 bindO (f1 ([[V.int .u8 (IntKind.u8.wrap x0)]]) 2 ([[V.int .i64 (x1.size : Int)]])) fun r1 =>
 gd (Nat.beq (0 + r1.1.length) r1.1.length) <|
 gM (r1.1.length + ((rowsS x1).length)) 1 <|
 gF (r1.1 ++ (rowsS x1)) (0 + (r1.1.length + ((rowsS x1).length))) <|
 bindO (f2 ((r1.1 ++ (rowsS x1)).take (r1.1.length + ((rowsS x1).length)))) fun r2 =>
 gd (Nat.beq (0 + (r1.1.length + ((rowsS x1).length))) ((r1.1 ++ (rowsS x1)).length)) <|
 gM ((r1.1.length + ((rowsS x1).length)) + 4) 1 <|
 gd (Nat.ble (0 + ((r1.1.length + ((rowsS x1).length)) + 4)) (((r1.1 ++ (rowsS x1)) ++ ([[V.int .u8 (IntKind.u8.wrap r2)], [V.int .u8 (IntKind.u8.wrap (r2.fdiv (2 ^ (min (8 : Int).toNat IntKind.i64.bits))))], [V.int .u8 (IntKind.u8.wrap (r2.fdiv (2 ^ (min (16 : Int).toNat IntKind.i64.bits))))], [V.int .u8 (IntKind.u8.wrap (r2.fdiv (2 ^ (min (24 : Int).toNat IntKind.i64.bits))))]])).length)) <|
 gd ((bytesOf (((r1.1 ++ (rowsS x1)) ++ ([[V.int .u8 (IntKind.u8.wrap r2)], [V.int .u8 (IntKind.u8.wrap (r2.fdiv (2 ^ (min (8 : Int).toNat IntKind.i64.bits))))], [V.int .u8 (IntKind.u8.wrap (r2.fdiv (2 ^ (min (16 : Int).toNat IntKind.i64.bits))))], [V.int .u8 (IntKind.u8.wrap (r2.fdiv (2 ^ (min (24 : Int).toNat IntKind.i64.bits))))]])).take ((r1.1.length + ((rowsS x1).length)) + 4))).isSome) <|
 some (bytesS (((r1.1 ++ (rowsS x1)) ++ ([[V.int .u8 (IntKind.u8.wrap r2)], [V.int .u8 (IntKind.u8.wrap (r2.fdiv (2 ^ (min (8 : Int).toNat IntKind.i64.bits))))], [V.int .u8 (IntKind.u8.wrap (r2.fdiv (2 ^ (min (16 : Int).toNat IntKind.i64.bits))))], [V.int .u8 (IntKind.u8.wrap (r2.fdiv (2 ^ (min (24 : Int).toNat IntKind.i64.bits))))]])).take ((r1.1.length + ((rowsS x1).length)) + 4)), 0, ())
theorem yQM (f1 f2) : yDO.Eq [yB8.s f1, yGn.s f2] .no (yLK f1 f2) := fun _ => by kernel_rfl
def yGr (L : Nat) : yDO.T := yLK (yBZ L) (yLG L)
theorem yNL (L : Nat) : yDO.C (yGr L) := yDO.c (yQM (yBZ L) (yLG L)) (tC (yKB L).ent (tC (yQs L).ent tN)) Tryz.func101 (by kernel_rfl) (lN _)
end Go.Proofs.YtakljpcmbpaeaaaGreat

namespace Go.Proofs.YtakljpcmbpaeaaaGreat
open Go.RowKit
set_option maxRecDepth 100000
set_option maxHeartbeats 16000000

abbrev yGP := Int × ByteArray × (List (List V)) × (List (List V)) × (List (List V)) × Int × Unit
abbrev yIo := Int × ByteArray × (List (List V)) × Unit
abbrev yIp := ByteArray × Int × Unit
abbrev yCp {α : Type} (f1 : yB8.T) (s : yGP) (kn : yGP → Option α) (k0 : yIo → Option α) (k1 : yIp → Option α) : Option α :=
 bif decide (s.2.2.2.2.2.1 < (s.2.2.2.1.length : Int)) then
 gI s.2.2.1 kI s.2.2.2.2.2.1 <|
 gI s.2.2.2.1 kI s.2.2.2.2.2.1 <|
 bindO (f1 s.2.2.2.2.1 (aI s.2.2.1 s.2.2.2.2.2.1.toNat 0) ([[V.int .i64 (aI s.2.2.2.1 s.2.2.2.2.2.1.toNat 0)]])) fun r1 =>
 bif r1.2.1 != 0 then
 k1 (noS, 2, ())
 else
 bif decide (505 < (r1.1.length : Int)) then
 k1 (noS, 2, ())
 else
 gF r1.1 (0 + r1.1.length) <|
 kn (s.1, s.2.1, s.2.2.1, s.2.2.2.1, r1.1.take r1.1.length, w64 (s.2.2.2.2.2.1 + 1), ())
 else
 k0 (s.1, s.2.1, s.2.2.2.2.1, ())
abbrev yGQ : LW2 yGP yIo yIp := ⟨(lvC 0 (mP (cdI .i8)) (lvC 1 (mP cdS) (lvC 2 (mP cdR) (lvC 3 (mP cdR) (lvC 10 (mP cdR) (lvC 11 (mP cI) lvN)))))), (.exit 0), (lvC 0 (mP (cdI .i8)) (lvC 1 (mP cdS) (lvC 10 (mP cdR) lvN))), .ret, (lvC 8 (mP cdS) (lvC 9 (mP cI) lvN))⟩
theorem yOI {α : Type} (f1) : yGQ.Eq (α := α) [yB8.s f1] Tryz.f135 [1, 1, 1, 0, 1, 0] .no (yCp f1) := fun _ _ _ => by kernel_rfl
abbrev yDN := fw4 135 (caC (cdI .i8) (caC cdS (caC cdR (caC cdR caN)))) (cdT (caC cdS (caC cI caN)))
abbrev yLI (f1 : yDO.T) (F0 : LF2 yGP yIo yIp (ByteArray × Int × Unit)) (x0 : Int) (x1 : ByteArray) (x2 : List (List V)) (x3 : List (List V)) : Option (ByteArray × Int × Unit) :=
 bif (x2.length : Int) != (x3.length : Int) then
 some (noS, 2, ())
 else
 F0 (x0, x1, x2, x3, [], 0, ()) (fun q1 =>
 gd ((bytesOf q1.2.2.1).isSome) <|
 gd (decide (((bytesS q1.2.2.1).size) + q1.2.1.size ≤ 9223372036854775807)) <|
 bindO (f1 q1.1 ((bytesS q1.2.2.1) ++ q1.2.1)) fun r2 =>
 some (r2.1, r2.2.1, ())) (fun q3 =>
 some (q3.1, q3.2.1, ()))
theorem yQJ (f1 F0) : yDN.Eq [yDO.s f1] (.two .no (.two .no (.two .no (.two (.two .no (.one (.lp (yGQ.s F0)))) .no)))) (yLI f1 F0) := fun _ => by kernel_rfl
def yGq (L : Nat) : yDN.T := yLI (yGr L) (loop2 (yCp (yBZ L)) L)
theorem yNf {α : Type} (L : Nat) : LO Tryz.f135 [1, 1, 1, 0, 1, 0] (yGQ.s (α := α) (loop2 (yCp (yBZ L)) L)) := yGQ.k (yOI (yBZ L)) (tC (yKB L).ent tN) (lN _) (by kernel_rfl) L
theorem yNK (L : Nat) : yDN.C (yGq L) := yDN.c (yQJ (yGr L) (loop2 (yCp (yBZ L)) L)) (tC (yNL L).ent tN) Tryz.func135 (by kernel_rfl) (lS (lN _) (lS (lN _) (lS (lN _) (lS (lS (lN _) (lB (lL (yNf L)))) (lN _)))))
abbrev yEi := fw1 121 (caC yCa caN) (cdT (caC cdS (caC cI caN)))
abbrev yKE (f1 : yAv.T) (f2 : yDN.T) (x0 : yAW) : Option (ByteArray × Int × Unit) :=
 bindO (f1 x0) fun r1 =>
 bif !r1 then
 some (noS, 40, ())
 else
 bindO (f2 1 noS ([[V.int .i64 2], [V.int .i64 2], [V.int .i64 2], [V.int .i64 2], [V.int .i64 2], [V.int .i64 2], [V.int .i64 4], [V.int .i64 4]]) ([[V.int .i64 x0.Nodes], [V.int .i64 x0.Slots], [V.int .i64 x0.Blocks], [V.int .i64 x0.Per], [V.int .i64 x0.Journal], [V.int .i64 x0.Log], [V.int .i64 x0.Lease], [V.int .i64 x0.Wait]])) fun r2 =>
 some (r2.1, r2.2.1, ())
theorem yPb (f1 f2) : yEi.Eq [yAv.s f1, yDN.s f2] .no (yKE f1 f2) := fun _ => by kernel_rfl
def yIq (L : Nat) : yEi.T := yKE (yBa L) (yGq L)
theorem yPa (L : Nat) : yEi.C (yIq L) := yEi.c (yPb (yBa L) (yGq L)) (tC (yEN L).ent (tC (yNK L).ent tN)) Tryz.func121 (by kernel_rfl) (lN _)
abbrev yFx := fw1 122 (caC cI caN) (cdT (caC cdS (caC cI caN)))
abbrev yLN (f1 : yDN.T) (x0 : Int) : Option (ByteArray × Int × Unit) :=
 bindO (f1 2 noS ([[V.int .i64 6]]) ([[V.int .i64 x0]])) fun r1 =>
 some (r1.1, r1.2.1, ())
theorem yQS (f1) : yFx.Eq [yDN.s f1] .no (yLN f1) := fun _ => by kernel_rfl
def yJo (L : Nat) : yFx.T := yLN (yGq L)
theorem yQR (L : Nat) : yFx.C (yJo L) := yFx.c (yQS (yGq L)) (tC (yNK L).ent tN) Tryz.func122 (by kernel_rfl) (lN _)
abbrev yEj := yAW × ByteArray × (List (List V)) × Int × Unit
abbrev yGu := (List (List V)) × Unit
abbrev yCO {α : Type} (f1 : yFw.T) (s : yEj) (kn : yEj → Option α) (k0 : yGu → Option α) : Option α :=
 bif decide (s.2.2.2.1 < s.1.Slots) then
 bindO (f1 s.1 s.2.2.2.1) fun r1 =>
 gB r1 s.2.2.1.length <|
 gd (decide (0 + r1.toNat < s.2.2.1.length)) <|
 gd (Nat.ble 0 (0 + r1.toNat)) <|
 gd (Nat.ble 1 (s.2.2.1.getD (0 + r1.toNat) []).length) <|
 gW (s.2.2.1.set (0 + r1.toNat) ((s.2.2.1.getD (0 + r1.toNat) []).take 0 ++ ([V.str s.2.1] ++ (s.2.2.1.getD (0 + r1.toNat) []).drop 1))) s.2.2.1.length <|
 kn (s.1, s.2.1, s.2.2.1.set (0 + r1.toNat) ((s.2.2.1.getD (0 + r1.toNat) []).take 0 ++ ([V.str s.2.1] ++ (s.2.2.1.getD (0 + r1.toNat) []).drop 1)), w64 (s.2.2.2.1 + 1), ())
 else
 gW s.2.2.1 s.2.2.1.length <|
 k0 (s.2.2.1, ())
abbrev yEk : LW1 yEj yGu := ⟨(lvC 1 yPC (lvC 6 (mP cdS) (lvC 8 (mW 1) (lvC 9 (mP cI) lvN)))), (.exit 0), (lvC 8 (mW 1) lvN)⟩
theorem yM4 {α : Type} (f1) : yEk.Eq (α := α) [yFw.s f1] Tryz.f54 [1, 1, 1, 1, 1, 1, 0, 1, 0] .no (yCO f1) := fun _ _ _ => by kernel_rfl
abbrev yDk := fw1 54 (caC yCa caN) (cdT (caC cdR (caC cI caN)))
abbrev yJU (f1 : yEi.T) (f2 : yFx.T) (f3 : yBS.T) (F0 : LF1 yEj yGu ((List (List V)) × Int × Unit)) (x0 : yAW) : Option ((List (List V)) × Int × Unit) :=
 bindO (f1 x0) fun r1 =>
 bif r1.2.1 != 0 then
 some ([], r1.2.1, ())
 else
 bindO (f2 0) fun r2 =>
 bindO (f3 x0) fun r3 =>
 gd (decide (0 ≤ r3)) <|
 gd (decide (r3 ≤ r3)) <|
 gd (decide (16 * r3.toNat ≤ 281474976710656)) <|
 gd (decide (r3 ≤ 9223372036854775807)) <|
 gd (decide (0 < (r3.toNat : Int))) <|
 gd (decide (0 < (List.replicate r3.toNat [V.str noS]).length)) <|
 gd (Nat.ble 1 ((List.replicate r3.toNat [V.str noS]).getD 0 []).length) <|
 gW ((List.replicate r3.toNat [V.str noS]).set 0 (((List.replicate r3.toNat [V.str noS]).getD 0 []).take 0 ++ ([V.str r1.1] ++ ((List.replicate r3.toNat [V.str noS]).getD 0 []).drop 1))) r3.toNat <|
 F0 (x0, r2.1, (List.replicate r3.toNat [V.str noS]).set 0 (((List.replicate r3.toNat [V.str noS]).getD 0 []).take 0 ++ ([V.str r1.1] ++ ((List.replicate r3.toNat [V.str noS]).getD 0 []).drop 1)), 0, ()) (fun q4 =>
 gF q4.1 (0 + q4.1.length) <|
 some (q4.1.take q4.1.length, 0, ()))
theorem yOr (f1 f2 f3 F0) : yDk.Eq [yEi.s f1, yFx.s f2, yBS.s f3] (.two .no (.two .no (.two .no (.two .no (.two .no (.two .no (.two (.two .no (.one (.lp (yEk.s F0)))) .no))))))) (yJU f1 f2 f3 F0) := fun _ => by kernel_rfl
def yHp (L : Nat) : yDk.T := yJU (yIq L) (yJo L) (yBg L) (loop1 (yCO (yEf L)) L)
theorem yMl {α : Type} (L : Nat) : LO Tryz.f54 [1, 1, 1, 1, 1, 1, 0, 1, 0] (yEk.s (α := α) (loop1 (yCO (yEf L)) L)) := yEk.k (yM4 (yEf L)) (tC (yQP L).ent tN) (lN _) (by kernel_rfl) L
theorem yOq (L : Nat) : yDk.C (yHp L) := yDk.c (yOr (yIq L) (yJo L) (yBg L) (loop1 (yCO (yEf L)) L)) (tC (yPa L).ent (tC (yQR L).ent (tC (yIM L).ent tN))) Tryz.func54 (by kernel_rfl) (lS (lN _) (lS (lN _) (lS (lN _) (lS (lN _) (lS (lN _) (lS (lN _) (lS (lS (lN _) (lB (lL (yMl L)))) (lN _))))))))
abbrev yG3 := fw2 55 (caC cI (caC cdR caN)) (cdT (caC yB9 (caC cI caN)))
abbrev yMF (f1 : yBx.T) (x0 : Int) (x1 : List (List V)) : Option (yAA × Int × Unit) :=
 bif decide (x0 < 1) then
 some (yAA.z, 2, ())
 else
 bif decide (16 < x0) then
 some (yAA.z, 2, ())
 else
 gd (x1.all fun r => Nat.beq r.length 1) <|
 gM (0 + x1.length) 16 <|
 gd (decide (0 ≤ x0)) <|
 gd (decide (x0 ≤ x0)) <|
 gd (decide (24 * x0.toNat ≤ 281474976710656)) <|
 gd (decide (x0 ≤ 9223372036854775807)) <|
 gd (decide (0 ≤ x0)) <|
 gd (decide (x0 ≤ x0)) <|
 gd (decide (8 * x0.toNat ≤ 281474976710656)) <|
 gd (decide (x0 ≤ 9223372036854775807)) <|
 gF x1 (0 + (0 + x1.length)) <|
 gF (List.replicate x0.toNat [V.sl ([]) true]) (0 + x0.toNat) <|
 gF (List.replicate x0.toNat [V.int .i64 0]) (0 + x0.toNat) <|
 bindO (f1 (⟨x1.take (0 + x1.length), (List.replicate x0.toNat [V.sl ([]) true]).take x0.toNat, (List.replicate x0.toNat [V.int .i64 0]).take x0.toNat, 1, []⟩ : yAA)) fun r1 =>
 bif r1 != 0 then
 some (yAA.z, 2, ())
 else
 gF x1 (0 + (0 + x1.length)) <|
 gF (List.replicate x0.toNat [V.sl ([]) true]) (0 + x0.toNat) <|
 gF (List.replicate x0.toNat [V.int .i64 0]) (0 + x0.toNat) <|
 some ((⟨x1.take (0 + x1.length), (List.replicate x0.toNat [V.sl ([]) true]).take x0.toNat, (List.replicate x0.toNat [V.int .i64 0]).take x0.toNat, 1, []⟩ : yAA), 0, ())
theorem yQy (f1) : yG3.Eq [yBx.s f1] .no (yMF f1) := fun _ => by kernel_rfl
def yLO (L : Nat) : yG3.T := yMF (yBh L)
theorem yQx (L : Nat) : yG3.C (yLO L) := yG3.c (yQy (yBh L)) (tC (yKF L).ent tN) Tryz.func55 (by kernel_rfl) (lN _)
abbrev yGD := yAW × yAA × Int × yAA × Int × Unit
abbrev yIj := yAA × Int × yAA × Unit
abbrev yCk {α : Type} (f1 : yIZ.T) (s : yGD) (kn : yGD → Option α) (k0 : yIj → Option α) : Option α :=
 bif decide (s.2.2.2.2.1 < s.1.Nodes) then
 bif s.2.2.1 == 0 then
 bindO (f1 s.2.2.2.1 s.2.2.2.2.1 (⟨6, 0, noS, 0⟩ : yAw)) fun r1 =>
 kn (s.1, s.2.1, r1.2.2.1, r1.1, w64 (s.2.2.2.2.1 + 1), ())
 else
 k0 (s.2.1, s.2.2.1, s.2.2.2.1, ())
 else
 k0 (s.2.1, s.2.2.1, s.2.2.2.1, ())
abbrev yGE : LW1 yGD yIj := ⟨(lvC 1 yPC (lvC 2 yAE (lvC 5 (mP cI) (lvC 6 yAE (lvC 7 (mP cI) lvN))))), (.exit 0), (lvC 2 yAE (lvC 5 (mP cI) (lvC 6 yAE lvN)))⟩
theorem yN0 {α : Type} (f1) : yGE.Eq (α := α) [yIZ.s f1] Tryz.f38 [1, 1, 1, 1, 0, 1, 0] .no (yCk f1) := fun _ _ _ => by kernel_rfl
abbrev yDL := fw1 38 (caC yCa caN) (cdT (caC yB9 (caC cdB caN)))
abbrev yK7 (f1 : yDk.T) (f2 : yG3.T) (F0 : LF1 yGD yIj (yAA × Bool × Unit)) (x0 : yAW) : Option (yAA × Bool × Unit) :=
 bindO (f1 x0) fun r1 =>
 bif r1.2.1 != 0 then
 some (yAA.z, false, ())
 else
 bindO (f2 x0.Nodes r1.1) fun r2 =>
 F0 (x0, yAA.z, r2.2.1, r2.1, 0, ()) (fun q3 =>
 some (q3.2.2.1, q3.2.1 == 0, ()))
theorem yP2 (f1 f2 F0) : yDL.Eq [yDk.s f1, yG3.s f2] (.two .no (.two .no (.two .no (.two .no (.two (.two .no (.one (.lp (yGE.s F0)))) .no))))) (yK7 f1 f2 F0) := fun _ => by kernel_rfl
def yGi (L : Nat) : yDL.T := yK7 (yHp L) (yLO L) (loop1 (yCk (yIN L)) L)
theorem yNT {α : Type} (L : Nat) : LO Tryz.f38 [1, 1, 1, 1, 0, 1, 0] (yGE.s (α := α) (loop1 (yCk (yIN L)) L)) := yGE.k (yN0 (yIN L)) (tC (yRO L).ent tN) (lN _) (by kernel_rfl) L
theorem yNJ (L : Nat) : yDL.C (yGi L) := yDL.c (yP2 (yHp L) (yLO L) (loop1 (yCk (yIN L)) L)) (tC (yOq L).ent (tC (yQx L).ent tN)) Tryz.func38 (by kernel_rfl) (lS (lN _) (lS (lN _) (lS (lN _) (lS (lN _) (lS (lS (lN _) (lB (lL (yNT L)))) (lN _))))))
end Go.Proofs.YtakljpcmbpaeaaaGreat

namespace Go.Proofs.YtakljpcmbpaeaaaGreat
open Go.RowKit
set_option maxRecDepth 100000
set_option maxHeartbeats 16000000

abbrev yHh := yAW × yAJ × ((List (List V)) × (List (List V)) × (List (List V)) × Unit) × Int × Unit
abbrev yJW := yAJ × ((List (List V)) × (List (List V)) × (List (List V)) × Unit) × Unit
abbrev yHr {α : Type} (s : yHh) (kn : yHh → Option α) (k0 : yJW → Option α) : Option α :=
 bif decide (s.2.2.2.1 < s.1.Slots) then
 bif decide (s.2.2.2.1 < 16) then
 gd (Nat.beq (0 + s.2.2.1.1.length) s.2.2.1.1.length) <|
 gM (s.2.2.1.1.length + 1) 16 <|
 gA (s.2.2.1.1 ++ ([[V.int .i64 0, V.int .i64 0]])) (s.2.2.1.1.length + 1) <|
 kn (s.1, s.2.1, (s.2.2.1.1 ++ ([[V.int .i64 0, V.int .i64 0]]), s.2.2.1.2.1, s.2.2.1.2.2.1, ()), w64 (s.2.2.2.1 + 1), ())
 else
 gA s.2.2.1.1 s.2.2.1.1.length <|
 k0 (s.2.1, (s.2.2.1.1, s.2.2.1.2.1, s.2.2.1.2.2.1, ()), ())
 else
 gA s.2.2.1.1 s.2.2.1.1.length <|
 k0 (s.2.1, (s.2.2.1.1, s.2.2.1.2.1, s.2.2.1.2.2.1, ()), ())
abbrev yHi : LW1 yHh yJW := ⟨(lvC 1 yPC (lvC 2 yRI (lvC 3 (mO (zA 2 (zP cdR (zP cdR zN))) 3) (lvC 4 (mP cI) lvN)))), (.exit 0), (lvC 2 yRI (lvC 3 (mO (zA 2 (zP cdR (zP cdR zN))) 3) lvN))⟩
theorem yO8 {α : Type} : yHi.Eq (α := α) [] Tryz.f39 [1, 1, 0, 1, 0] .no (yHr) := fun _ _ _ => by kernel_rfl
abbrev yEQ := fw1 39 (caC yCa caN) yIH
abbrev yMK (F0 : LF1 yHh yJW (yAJ)) (x0 : yAW) : Option yAJ :=
 F0 (x0, yAJ.z, ([], [], [], ()), 0, ()) (fun q1 =>
 gF q1.2.1.1 (0 + q1.2.1.1.length) <|
 some (⟨q1.2.1.1.take q1.2.1.1.length, q1.2.1.2.1, q1.2.1.2.2.1⟩ : yAJ))
theorem yQ5 (F0) : yEQ.Eq [] (.two .no (.two .no (.two (.two .no (.one (.lp (yHi.s F0)))) .no))) (yMK F0) := fun _ => by kernel_rfl
def yIx (L : Nat) : yEQ.T := yMK (loop1 (yHr) L)
theorem yOL {α : Type} (L : Nat) : LO Tryz.f39 [1, 1, 0, 1, 0] (yHi.s (α := α) (loop1 (yHr) L)) := yHi.k (yO8) tN (lN _) (by kernel_rfl) L
theorem yOM (L : Nat) : yEQ.C (yIx L) := yEQ.c (yQ5 (loop1 (yHr) L)) tN Tryz.func39 (by kernel_rfl) (lS (lN _) (lS (lN _) (lS (lS (lN _) (lB (lL (yOL L)))) (lN _))))
abbrev yGA := (List (List V)) × Int × Unit
abbrev yIh := Unit
abbrev yIi := Bool × Unit
abbrev yCj {α : Type} (s : yGA) (kn : yGA → Option α) (k0 : yIh → Option α) (k1 : yIi → Option α) : Option α :=
 bif decide (s.2.1 < (s.1.length : Int)) then
 gI s.1 kI (w64 (s.2.1 - 1)) <|
 gI s.1 kI s.2.1 <|
 bif decide (aI s.1 s.2.1.toNat 0 < aI s.1 ((w64 (s.2.1 - 1)).toNat) 0) then
 k1 (false, ())
 else
 kn (s.1, w64 (s.2.1 + 1), ())
 else
 k0 (())
abbrev yGB : LW2 yGA yIh yIi := ⟨(lvC 0 (mP cdR) (lvC 3 (mP cI) lvN)), (.exit 0), lvN, .ret, (lvC 2 (mP cdB) lvN)⟩
theorem yNz {α : Type} : yGB.Eq (α := α) [] Tryz.f123 [1, 0, 1, 0] .no (yCj) := fun _ _ _ => by kernel_rfl
abbrev yFh := fw1 123 (caC cdR caN) cdB
abbrev yK5 (F0 : LF2 yGA yIh yIi (Bool)) (x0 : List (List V)) : Option Bool :=
 F0 (x0, 1, ()) (fun q1 =>
 some true) (fun q2 =>
 some q2.1)
theorem yP1 (F0) : yFh.Eq [] (.two .no (.two (.two .no (.one (.lp (yGB.s F0)))) .no)) (yK5 F0) := fun _ => by kernel_rfl
def yFg (L : Nat) : yFh.T := yK5 (loop2 (yCj) L)
theorem yNS {α : Type} (L : Nat) : LO Tryz.f123 [1, 0, 1, 0] (yGB.s (α := α) (loop2 (yCj) L)) := yGB.k (yNz) tN (lN _) (by kernel_rfl) L
theorem yP0 (L : Nat) : yFh.C (yFg L) := yFh.c (yP1 (loop2 (yCj) L)) tN Tryz.func123 (by kernel_rfl) (lS (lN _) (lS (lS (lN _) (lB (lL (yNS L)))) (lN _)))
abbrev yDb := fw1 56 (caC yCa caN) cdB
abbrev yNy (f1 : yFh.T) (x0 : yAW) : Option Bool :=
 bindO (f1 ([[V.int .i64 1], [V.int .i64 x0.Slots], [V.int .i64 x0.Nodes], [V.int .i64 16]])) fun r1 =>
 bif r1 then
 bindO (f1 ([[V.int .i64 1], [V.int .i64 x0.Blocks], [V.int .i64 64]])) fun r2 =>
 bif r2 then
 bindO (f1 ([[V.int .i64 1], [V.int .i64 x0.Per], [V.int .i64 8]])) fun r3 =>
 bif r3 then
 bindO (f1 ([[V.int .i64 (w64 (x0.Per + 2))], [V.int .i64 x0.Journal], [V.int .i64 64]])) fun r4 =>
 bif r4 then
 bindO (f1 ([[V.int .i64 (w64 (8 * x0.Slots))], [V.int .i64 x0.Log], [V.int .i64 512]])) fun r5 =>
 bif r5 then
 bindO (f1 ([[V.int .i64 1], [V.int .i64 x0.Lease], [V.int .i64 (w64 (x0.Wait - 1))], [V.int .i64 1048575]])) fun r6 =>
 some r6
 else
 some false
 else
 some false
 else
 some false
 else
 some false
 else
 some false
theorem yRR (f1) : yDb.Eq [yFh.s f1] .no (yNy f1) := fun _ => by kernel_rfl
def yGe (L : Nat) : yDb.T := yNy (yFg L)
theorem yMZ (L : Nat) : yDb.C (yGe L) := yDb.c (yRR (yFg L)) (tC (yP0 L).ent tN) Tryz.func56 (by kernel_rfl) (lN _)
abbrev yEb := fw1 220 (caC yCa caN) cdR
abbrev yJ6 (f1 : yDb.T) (x0 : yAW) : Option (List (List V)) :=
 bindO (f1 x0) fun r1 =>
 bif !r1 then
 some ([])
 else
 some ([[V.int .i64 0, V.int .i64 1, V.int .i8 1, V.int .i64 1], [V.int .i64 1, V.int .i64 (w64 (x0.Nodes * 1)), V.int .i8 2, V.int .i64 1], [V.int .i64 (w64 (1 + (w64 (x0.Nodes * 1)))), V.int .i64 (w64 (x0.Nodes * 1)), V.int .i8 3, V.int .i64 1], [V.int .i64 (w64 ((w64 (1 + (w64 (x0.Nodes * 1)))) + (w64 (x0.Nodes * 1)))), V.int .i64 (w64 (x0.Log * 1)), V.int .i8 4, V.int .i64 1], [V.int .i64 (w64 ((w64 ((w64 (1 + (w64 (x0.Nodes * 1)))) + (w64 (x0.Nodes * 1)))) + (w64 (x0.Log * 1)))), V.int .i64 (w64 (x0.Slots * (w64 (1 + x0.Journal)))), V.int .i8 6, V.int .i64 (w64 (1 + x0.Journal))], [V.int .i64 (w64 ((w64 ((w64 ((w64 (1 + (w64 (x0.Nodes * 1)))) + (w64 (x0.Nodes * 1)))) + (w64 (x0.Log * 1)))) + (w64 (x0.Slots * (w64 (1 + x0.Journal)))))), V.int .i64 (w64 (x0.Blocks * x0.Per)), V.int .i8 7, V.int .i64 x0.Per]])
theorem yPQ (f1) : yEb.Eq [yDb.s f1] .no (yJ6 f1) := fun _ => by kernel_rfl
def yGg (L : Nat) : yEb.T := yJ6 (yGe L)
theorem yPP (L : Nat) : yEb.C (yGg L) := yEb.c (yPQ (yGe L)) (tC (yMZ L).ent tN) Tryz.func220 (by kernel_rfl) (lN _)
abbrev yIJ := Int × yAD × (List (List V)) × Int × Int × Unit
abbrev yJ4 := yAD × Unit
abbrev yJ5 := yAD × Unit
abbrev yEF {α : Type} (s : yIJ) (kn : yIJ → Option α) (k0 : yJ4 → Option α) (k1 : yJ5 → Option α) : Option α :=
 bif decide (s.2.2.2.2.1 < s.2.2.2.1) then
 gI s.2.2.1 yAD.ks s.2.2.2.2.1 <|
 bif (aI s.2.2.1 s.2.2.2.2.1.toNat 2) == s.1 then
 k1 ((⟨(⟨aI s.2.2.1 s.2.2.2.2.1.toNat 0, aI s.2.2.1 s.2.2.2.2.1.toNat 1⟩ : yAX), aI s.2.2.1 s.2.2.2.2.1.toNat 2, aI s.2.2.1 s.2.2.2.2.1.toNat 3⟩ : yAD), ())
 else
 kn (s.1, s.2.1, s.2.2.1, s.2.2.2.1, w64 (s.2.2.2.2.1 + 1), ())
 else
 k0 (s.2.1, ())
abbrev yIK : LW2 yIJ yJ4 yJ5 := ⟨(lvC 1 (mP (cdI .i8)) (lvC 4 yJ8 (lvC 8 (mP cdR) (lvC 9 (mP cI) (lvC 10 (mP cI) lvN))))), (.exit 0), (lvC 4 yJ8 lvN), .ret, (lvC 4 yJ8 lvN)⟩
theorem yPO {α : Type} : yIK.Eq (α := α) [] Tryz.f167 [1, 0, 1, 0] .no (yEF) := fun _ _ _ => by kernel_rfl
abbrev yFf := fw2 167 (caC yCa (caC (cdI .i8) caN)) yPK
abbrev yM0 (f1 : yEb.T) (F0 : LF2 yIJ yJ4 yJ5 (yAD)) (x0 : yAW) (x1 : Int) : Option yAD :=
 bindO (f1 x0) fun r1 =>
 F0 (x1, yAD.z, r1, (r1.length : Int), 0, ()) (fun q2 =>
 some (⟨yAX.z, 0, 1⟩ : yAD)) (fun q3 =>
 some q3.1)
theorem yRL (f1 F0) : yFf.Eq [yEb.s f1] (.two .no (.two (.two .no (.one (.lp (yIK.s F0)))) .no)) (yM0 f1 F0) := fun _ => by kernel_rfl
def yJ3 (L : Nat) : yFf.T := yM0 (yGg L) (loop2 (yEF) L)
theorem yOg {α : Type} (L : Nat) : LO Tryz.f167 [1, 0, 1, 0] (yIK.s (α := α) (loop2 (yEF) L)) := yIK.k (yPO) tN (lN _) (by kernel_rfl) L
theorem yPB (L : Nat) : yFf.C (yJ3 L) := yFf.c (yRL (yGg L) (loop2 (yEF) L)) (tC (yPP L).ent tN) Tryz.func167 (by kernel_rfl) (lS (lN _) (lS (lS (lN _) (lB (lL (yOg L)))) (lN _)))
abbrev yCU := fw2 190 (caC yOS (caC cI caN)) cI
abbrev yHw (x0 : yAX) (x1 : Int) : Option Int :=
 bif decide (x1 < 0) then
 some (-1)
 else
 bif decide (x0.many_ ≤ x1) then
 some (-1)
 else
 some (w64 (x0.first_ + x1))
theorem yNR : yCU.Eq [] .no (yHw) := fun _ => by kernel_rfl
def yE9 (L : Nat) : yCU.T := yHw
theorem yNQ (L : Nat) : yCU.C (yE9 L) := yCU.c (yNR) tN Tryz.func190 (by kernel_rfl) (lN _)
abbrev yI4 := fw4 140 (caC yCa (caC (cdI .i8) (caC cI (caC cI caN)))) cI
abbrev yNm (f1 : yFf.T) (f2 : yCU.T) (x0 : yAW) (x1 : Int) (x2 : Int) (x3 : Int) : Option Int :=
 bindO (f1 x0 x1) fun r1 =>
 bif decide (x2 < 0) then
 some (-1)
 else
 gd (!(decide (r1.per_ = 0))) <|
 bif decide (w64 (r1.stretch_.many_.tdiv r1.per_) ≤ x2) then
 some (-1)
 else
 bif decide (x3 < 0) then
 some (-1)
 else
 bif decide (r1.per_ ≤ x3) then
 some (-1)
 else
 bindO (f2 r1.stretch_ (w64 ((w64 (x2 * r1.per_)) + x3))) fun r2 =>
 some r2
theorem yRV (f1 f2) : yI4.Eq [yFf.s f1, yCU.s f2] .no (yNm f1 f2) := fun _ => by kernel_rfl
def yMa (L : Nat) : yI4.T := yNm (yJ3 L) (yE9 L)
theorem yRH (L : Nat) : yI4.C (yMa L) := yI4.c (yRV (yJ3 L) (yE9 L)) (tC (yPB L).ent (tC (yNQ L).ent tN)) Tryz.func140 (by kernel_rfl) (lN _)
abbrev yE8 := fw2 141 (caC yCa (caC cI caN)) cI
abbrev yNx (f1 : yI4.T) (x0 : yAW) (x1 : Int) : Option Int :=
 bindO (f1 x0 4 x1 0) fun r1 =>
 some r1
theorem yRQ (f1) : yE8.Eq [yI4.s f1] .no (yNx f1) := fun _ => by kernel_rfl
def yIg (L : Nat) : yE8.T := yNx (yMa L)
theorem yNw (L : Nat) : yE8.C (yIg L) := yE8.c (yRQ (yMa L)) (tC (yRH L).ent tN) Tryz.func141 (by kernel_rfl) (lN _)
abbrev yFj := fw2 80 (caC yCa (caC cI caN)) yJe
abbrev yK9 (f1 : yE8.T) (x0 : yAW) (x1 : Int) : Option yAw :=
 bindO (f1 x0 x1) fun r1 =>
 bif decide (0 ≤ r1) then
 some (⟨1, r1, noS, 0⟩ : yAw)
 else
 some yAw.z
theorem yP6 (f1) : yFj.Eq [yE8.s f1] .no (yK9 f1) := fun _ => by kernel_rfl
def yLa (L : Nat) : yFj.T := yK9 (yIg L)
theorem yP5 (L : Nat) : yFj.C (yLa L) := yFj.c (yP6 (yIg L)) (tC (yNw L).ent tN) Tryz.func80 (by kernel_rfl) (lN _)
end Go.Proofs.YtakljpcmbpaeaaaGreat

namespace Go.Proofs.YtakljpcmbpaeaaaGreat
open Go.RowKit
set_option maxRecDepth 100000
set_option maxHeartbeats 16000000

abbrev yCW := fw1 241 (caC (cdP yD6) caN) yJe
abbrev yHy (f1 : yFj.T) (x0 : yAH) : Option yAw :=
 bindO (f1 x0.g_ x0.done_) fun r1 =>
 some r1
theorem yNV (f1) : yCW.Eq [yFj.s f1] .no (yHy f1) := fun _ => by kernel_rfl
def yHQ (L : Nat) : yCW.T := yHy (yLa L)
theorem yNU (L : Nat) : yCW.C (yHQ L) := yCW.c (yNV (yLa L)) (tC (yP5 L).ent tN) Tryz.func241 (by kernel_rfl) (lN _)
abbrev yC7 := fw1 232 (caC cI caN) cdB
abbrev yIk (x0 : Int) : Option Bool :=
 bif decide (1 ≤ x0) then
 some (decide (x0 ≤ 6))
 else
 some false
theorem yN3 : yC7.Eq [] .no (yIk) := fun _ => by kernel_rfl
def yGF (L : Nat) : yC7.T := yIk
theorem yN2 (L : Nat) : yC7.C (yGF L) := yC7.c (yN3) tN Tryz.func232 (by kernel_rfl) (lN _)
abbrev yI5 := ByteArray × Int × Int × Int × Int × Unit
abbrev yLB := Int × Unit
abbrev yGk {α : Type} (s : yI5) (kn : yI5 → Option α) (k0 : yLB → Option α) : Option α :=
 bif decide (s.2.2.2.2.1 < s.2.2.2.1) then
 gB (w64 (s.2.1 + s.2.2.2.2.1)) s.1.size <|
 gd (!(decide (w64 (8 * s.2.2.2.2.1) < 0))) <|
 kn (s.1, s.2.1, IntKind.i64.wrap ((BitVec.ofInt IntKind.i64.bits s.2.2.1 ||| BitVec.ofInt IntKind.i64.bits (IntKind.i64.wrap ((w64 (((s.1[(w64 (s.2.1 + s.2.2.2.2.1)).toNat]?).getD 0).toNat : Int)) * 2 ^ (min (w64 (8 * s.2.2.2.2.1)).toNat IntKind.i64.bits)))).toNat : Int), s.2.2.2.1, w64 (s.2.2.2.2.1 + 1), ())
 else
 k0 (s.2.2.1, ())
abbrev yI6 : LW1 yI5 yLB := ⟨(lvC 0 (mP cdS) (lvC 1 (mP cI) (lvC 6 (mP cI) (lvC 30 (mP cI) (lvC 31 (mP cI) lvN))))), (.exit 1), (lvC 6 (mP cI) lvN)⟩
theorem yP7 {α : Type} : yI6.Eq (α := α) [] Tryz.f234 [1, 1, 0, 1, 0] .no (yGk) := fun _ _ _ => by kernel_rfl
abbrev yCm := fw3 234 (caC cdS (caC cI (caC cI caN))) (cdT (caC cI (caC cI caN)))
abbrev yN1 (f1 : yC7.T) (F0 : LF1 yI5 yLB (Int × Int × Unit)) (x0 : ByteArray) (x1 : Int) (x2 : Int) : Option (Int × Int × Unit) :=
 bindO (f1 x2) fun r1 =>
 bif !r1 then
 some (0, 2, ())
 else
 bif decide (x1 < 0) then
 some (0, 10, ())
 else
 bif decide ((x0.size : Int) < x1) then
 some (0, 10, ())
 else
 bif decide (w64 ((x0.size : Int) - x1) < x2) then
 some (0, 10, ())
 else
 F0 (x0, x1, 0, x2, 0, ()) (fun q2 =>
 bif decide (1099511627776 < q2.1) then
 some (0, 10, ())
 else
 some (q2.1, 0, ()))
theorem yRS (f1 F0) : yCm.Eq [yC7.s f1] (.two .no (.two .no (.two (.two .no (.one (.lp (yI6.s F0)))) .no))) (yN1 f1 F0) := fun _ => by kernel_rfl
def yBQ (L : Nat) : yCm.T := yN1 (yGF L) (loop1 (yGk) L)
theorem yPU {α : Type} (L : Nat) : LO Tryz.f234 [1, 1, 0, 1, 0] (yI6.s (α := α) (loop1 (yGk) L)) := yI6.k (yP7) tN (lN _) (by kernel_rfl) L
theorem yLC (L : Nat) : yCm.C (yBQ L) := yCm.c (yRS (yGF L) (loop1 (yGk) L)) (tC (yN2 L).ent tN) Tryz.func234 (by kernel_rfl) (lS (lN _) (lS (lN _) (lS (lS (lN _) (lB (lL (yPU L)))) (lN _))))
abbrev yCb := fw1 181 (caC cI caN) cdB
abbrev yJx (x0 : Int) : Option Bool :=
 bif decide (16 ≤ x0) then
 some (decide (x0 ≤ 1099511627776))
 else
 some false
theorem yPL : yCb.Eq [] .no (yJx) := fun _ => by kernel_rfl
def yFS (L : Nat) : yCb.T := yJx
theorem yMT (L : Nat) : yCb.C (yFS L) := yCb.c (yPL) tN Tryz.func181 (by kernel_rfl) (lN _)
abbrev yBu := fw1 185 (caC (cdP yNO) caN) cdB
abbrev yFT (f1 : yCb.T) (x0 : yAZ) : Option Bool :=
 bindO (f1 x0.Cmd.By) fun r1 =>
 bif !r1 then
 some false
 else
 bif decide (x0.Cmd.Serial < 1) then
 some false
 else
 bif decide (2147483648 < x0.Cmd.Serial) then
 some false
 else
 bif x0.Cmd.Kind == 0 then
 bif (x0.Cmd.Span.Lo == 0) && ((x0.Cmd.Span.Hi == 0) && true) then
 bif x0.Cmd.Mode == 0 then
 bif x0.Cmd.Dead == 0 then
 bif x0.Cmd.Was == 0 then
 some true
 else
 some false
 else
 some false
 else
 some false
 else
 some false
 else
 bif x0.Cmd.Kind == 1 then
 bif (x0.Cmd.Span.Lo == 0) && ((x0.Cmd.Span.Hi == 0) && true) then
 bif x0.Cmd.Mode == 0 then
 bif x0.Cmd.Dead == 0 then
 bif x0.Cmd.Was == 0 then
 some true
 else
 some false
 else
 some false
 else
 some false
 else
 some false
 else
 bif x0.Cmd.Kind == 2 then
 bif decide (0 ≤ x0.Cmd.Span.Lo) then
 bif decide (x0.Cmd.Span.Lo ≤ x0.Cmd.Span.Hi) then
 bif decide (x0.Cmd.Span.Hi < 64) then
 bif x0.Cmd.Mode == 1 then
 bif x0.Cmd.Dead == 0 then
 bif x0.Cmd.Was == 0 then
 some true
 else
 some false
 else
 some false
 else
 bif x0.Cmd.Mode == 2 then
 bif x0.Cmd.Dead == 0 then
 bif x0.Cmd.Was == 0 then
 some true
 else
 some false
 else
 some false
 else
 some false
 else
 some false
 else
 some false
 else
 some false
 else
 bif x0.Cmd.Kind == 3 then
 bif decide (0 ≤ x0.Cmd.Span.Lo) then
 bif decide (x0.Cmd.Span.Lo ≤ x0.Cmd.Span.Hi) then
 bif decide (x0.Cmd.Span.Hi < 64) then
 bif x0.Cmd.Mode == 0 then
 bif x0.Cmd.Dead == 0 then
 bif x0.Cmd.Was == 0 then
 some true
 else
 some false
 else
 some false
 else
 some false
 else
 some false
 else
 some false
 else
 some false
 else
 bif x0.Cmd.Kind == 4 then
 bif (x0.Cmd.Span.Lo == 0) && ((x0.Cmd.Span.Hi == 0) && true) then
 bif x0.Cmd.Mode == 0 then
 bindO (f1 x0.Cmd.Dead) fun r2 =>
 bif r2 then
 bif x0.Cmd.Was == 0 then
 some true
 else
 bindO (f1 x0.Cmd.Was) fun r3 =>
 some r3
 else
 some false
 else
 some false
 else
 some false
 else
 bif x0.Cmd.Kind == 5 then
 bif (x0.Cmd.Span.Lo == 0) && ((x0.Cmd.Span.Hi == 0) && true) then
 bif x0.Cmd.Mode == 0 then
 bindO (f1 x0.Cmd.Dead) fun r4 =>
 bif r4 then
 bif x0.Cmd.Was == 0 then
 some true
 else
 some false
 else
 some false
 else
 some false
 else
 some false
 else
 some false
theorem yL1 (f1) : yBu.Eq [yCb.s f1] .no (yFT f1) := fun _ => by kernel_rfl
def yEa (L : Nat) : yBu.T := yFT (yFS L)
theorem yL0 (L : Nat) : yBu.C (yEa L) := yBu.c (yL1 (yFS L)) (tC (yMT L).ent tN) Tryz.func185 (by kernel_rfl) (lN _)
abbrev yEW := fw1 180 (caC yKz caN) cdB
abbrev yJy (f1 : yBu.T) (x0 : yAF) : Option Bool :=
 bindO (f1 (⟨x0, []⟩ : yAZ)) fun r1 =>
 some r1
theorem yPN (f1) : yEW.Eq [yBu.s f1] .no (yJy f1) := fun _ => by kernel_rfl
def yId (L : Nat) : yEW.T := yJy (yEa L)
theorem yPM (L : Nat) : yEW.C (yId L) := yEW.c (yPN (yEa L)) (tC (yL0 L).ent tN) Tryz.func180 (by kernel_rfl) (lN _)
end Go.Proofs.YtakljpcmbpaeaaaGreat

namespace Go.Proofs.YtakljpcmbpaeaaaGreat
open Go.RowKit
set_option maxRecDepth 100000
set_option maxHeartbeats 16000000

abbrev yGY := yAF × yAB × Unit
abbrev yGX := yAF × yAB × Int × Unit
abbrev yD7 {α : Type} (f1 : yCm.T) (s : yGY) (k0 : yGX → Option α) : Option α :=
 bindO (f1 s.2.1.s_ 0 1) fun r1 =>
 bif r1.2.1 != 0 then
 k0 (s.1, { s.2.1 with bad_ := true }, 0, ())
 else
 gd (decide (1 ≤ (s.2.1.s_.size : Int))) <|
 k0 (s.1, { s.2.1 with s_ := s.2.1.s_.extract 1 s.2.1.s_.size }, r1.1, ())
abbrev yEX : LW1 yGY yGX := ⟨(lvC 2 yMf (lvC 4 yCV lvN)), .normal, (lvC 2 yMf (lvC 4 yCV (lvC 5 (mP cI) lvN)))⟩
theorem yMw {α : Type} (f1) : yEX.Ep (α := α) [yCm.s f1] Tryz.f118 [1, 1, 0] .no (yD7 f1) := fun _ _ => by kernel_rfl
theorem yMU {α : Type} (L : Nat) : PO Tryz.f118 [1, 1, 0] (yEX.s (α := α) (yD7 (yBQ L))) := yEX.kp (yMw (yBQ L)) (tC (yLC L).ent tN) (lN _) (by kernel_rfl)
abbrev yGa := yAF × yAB × Int × Unit
abbrev yGZ := yAF × yAB × yAF × Unit
abbrev yD8 {α : Type} (f1 : yCm.T) (s : yGa) (k0 : yGZ → Option α) : Option α :=
 bindO (f1 s.2.1.s_ 0 6) fun r1 =>
 bif r1.2.1 != 0 then
 bindO (f1 s.2.1.s_ 0 4) fun r2 =>
 bif r2.2.1 != 0 then
 k0 (s.1, { s.2.1 with bad_ := true }, (⟨IntKind.i8.wrap (minI false s.2.2.1 127), 0, 0, 0, 0, yAY.z, 0⟩ : yAF), ())
 else
 gd (decide (4 ≤ (s.2.1.s_.size : Int))) <|
 k0 (s.1, (⟨s.2.1.s_.extract 4 s.2.1.s_.size, true⟩ : yAB), (⟨IntKind.i8.wrap (minI false s.2.2.1 127), 0, r2.1, 0, 0, yAY.z, 0⟩ : yAF), ())
 else
 gd (decide (6 ≤ (s.2.1.s_.size : Int))) <|
 bindO (f1 (s.2.1.s_.extract 6 s.2.1.s_.size) 0 4) fun r3 =>
 bif r3.2.1 != 0 then
 k0 (s.1, (⟨s.2.1.s_.extract 6 s.2.1.s_.size, true⟩ : yAB), (⟨IntKind.i8.wrap (minI false s.2.2.1 127), r1.1, 0, 0, 0, yAY.z, 0⟩ : yAF), ())
 else
 gd (decide (4 ≤ ((s.2.1.s_.extract 6 s.2.1.s_.size).size : Int))) <|
 k0 (s.1, { s.2.1 with s_ := (s.2.1.s_.extract 6 s.2.1.s_.size).extract 4 ((s.2.1.s_.extract 6 s.2.1.s_.size).size) }, (⟨IntKind.i8.wrap (minI false s.2.2.1 127), r1.1, r3.1, 0, 0, yAY.z, 0⟩ : yAF), ())
abbrev yEY : LW1 yGa yGZ := ⟨(lvC 2 yMf (lvC 4 yCV (lvC 5 (mP cI) lvN))), .normal, (lvC 2 yMf (lvC 4 yCV (lvC 6 yMf lvN)))⟩
theorem yMx {α : Type} (f1) : yEY.Ep (α := α) [yCm.s f1] Tryz.f118 [1, 1, 1, 0] .no (yD8 f1) := fun _ _ => by kernel_rfl
theorem yMV {α : Type} (L : Nat) : PO Tryz.f118 [1, 1, 1, 0] (yEY.s (α := α) (yD8 (yBQ L))) := yEY.kp (yMx (yBQ L)) (tC (yLC L).ent tN) (lN _) (by kernel_rfl)
abbrev yGc := yAF × yAB × yAF × Unit
abbrev yGb := yAF × yAB × yAF × Unit
abbrev yBe {α : Type} (f1 : yCm.T) (s : yGc) (k0 : yGb → Option α) : Option α :=
 bif s.2.2.1.Kind == 2 then
 bindO (f1 s.2.1.s_ 0 1) fun r1 =>
 bif r1.2.1 != 0 then
 bindO (f1 s.2.1.s_ 0 1) fun r2 =>
 bif r2.2.1 != 0 then
 bif s.2.2.1.Kind == 2 then
 bindO (f1 s.2.1.s_ 0 1) fun r3 =>
 bif r3.2.1 != 0 then
 k0 (s.1, { s.2.1 with bad_ := true }, { s.2.2.1 with Span := yAY.z, Mode := 0 }, ())
 else
 gd (decide (1 ≤ (s.2.1.s_.size : Int))) <|
 k0 (s.1, (⟨s.2.1.s_.extract 1 s.2.1.s_.size, true⟩ : yAB), { s.2.2.1 with Span := yAY.z, Mode := IntKind.i8.wrap (minI false r3.1 127) }, ())
 else
 k0 (s.1, { s.2.1 with bad_ := true }, { s.2.2.1 with Span := yAY.z }, ())
 else
 gd (decide (1 ≤ (s.2.1.s_.size : Int))) <|
 bif s.2.2.1.Kind == 2 then
 bindO (f1 (s.2.1.s_.extract 1 s.2.1.s_.size) 0 1) fun r4 =>
 bif r4.2.1 != 0 then
 k0 (s.1, (⟨s.2.1.s_.extract 1 s.2.1.s_.size, true⟩ : yAB), { s.2.2.1 with Span := (⟨0, r2.1⟩ : yAY), Mode := 0 }, ())
 else
 gd (decide (1 ≤ ((s.2.1.s_.extract 1 s.2.1.s_.size).size : Int))) <|
 k0 (s.1, (⟨(s.2.1.s_.extract 1 s.2.1.s_.size).extract 1 ((s.2.1.s_.extract 1 s.2.1.s_.size).size), true⟩ : yAB), { s.2.2.1 with Span := (⟨0, r2.1⟩ : yAY), Mode := IntKind.i8.wrap (minI false r4.1 127) }, ())
 else
 k0 (s.1, (⟨s.2.1.s_.extract 1 s.2.1.s_.size, true⟩ : yAB), { s.2.2.1 with Span := (⟨0, r2.1⟩ : yAY) }, ())
 else
 gd (decide (1 ≤ (s.2.1.s_.size : Int))) <|
 bindO (f1 (s.2.1.s_.extract 1 s.2.1.s_.size) 0 1) fun r5 =>
 bif r5.2.1 != 0 then
 bif s.2.2.1.Kind == 2 then
 bindO (f1 (s.2.1.s_.extract 1 s.2.1.s_.size) 0 1) fun r6 =>
 bif r6.2.1 != 0 then
 k0 (s.1, (⟨s.2.1.s_.extract 1 s.2.1.s_.size, true⟩ : yAB), { s.2.2.1 with Span := (⟨r1.1, 0⟩ : yAY), Mode := 0 }, ())
 else
 gd (decide (1 ≤ ((s.2.1.s_.extract 1 s.2.1.s_.size).size : Int))) <|
 k0 (s.1, (⟨(s.2.1.s_.extract 1 s.2.1.s_.size).extract 1 ((s.2.1.s_.extract 1 s.2.1.s_.size).size), true⟩ : yAB), { s.2.2.1 with Span := (⟨r1.1, 0⟩ : yAY), Mode := IntKind.i8.wrap (minI false r6.1 127) }, ())
 else
 k0 (s.1, (⟨s.2.1.s_.extract 1 s.2.1.s_.size, true⟩ : yAB), { s.2.2.1 with Span := (⟨r1.1, 0⟩ : yAY) }, ())
 else
 gd (decide (1 ≤ ((s.2.1.s_.extract 1 s.2.1.s_.size).size : Int))) <|
 bif s.2.2.1.Kind == 2 then
 bindO (f1 ((s.2.1.s_.extract 1 s.2.1.s_.size).extract 1 ((s.2.1.s_.extract 1 s.2.1.s_.size).size)) 0 1) fun r7 =>
 bif r7.2.1 != 0 then
 k0 (s.1, (⟨(s.2.1.s_.extract 1 s.2.1.s_.size).extract 1 ((s.2.1.s_.extract 1 s.2.1.s_.size).size), true⟩ : yAB), { s.2.2.1 with Span := (⟨r1.1, r5.1⟩ : yAY), Mode := 0 }, ())
 else
 gd (decide (1 ≤ (((s.2.1.s_.extract 1 s.2.1.s_.size).extract 1 ((s.2.1.s_.extract 1 s.2.1.s_.size).size)).size : Int))) <|
 k0 (s.1, { s.2.1 with s_ := ((s.2.1.s_.extract 1 s.2.1.s_.size).extract 1 ((s.2.1.s_.extract 1 s.2.1.s_.size).size)).extract 1 (((s.2.1.s_.extract 1 s.2.1.s_.size).extract 1 ((s.2.1.s_.extract 1 s.2.1.s_.size).size)).size) }, { s.2.2.1 with Span := (⟨r1.1, r5.1⟩ : yAY), Mode := IntKind.i8.wrap (minI false r7.1 127) }, ())
 else
 k0 (s.1, { s.2.1 with s_ := (s.2.1.s_.extract 1 s.2.1.s_.size).extract 1 ((s.2.1.s_.extract 1 s.2.1.s_.size).size) }, { s.2.2.1 with Span := (⟨r1.1, r5.1⟩ : yAY) }, ())
 else
 bif s.2.2.1.Kind == 3 then
 bindO (f1 s.2.1.s_ 0 1) fun r8 =>
 bif r8.2.1 != 0 then
 bindO (f1 s.2.1.s_ 0 1) fun r9 =>
 bif r9.2.1 != 0 then
 bif s.2.2.1.Kind == 2 then
 bindO (f1 s.2.1.s_ 0 1) fun r10 =>
 bif r10.2.1 != 0 then
 k0 (s.1, { s.2.1 with bad_ := true }, { s.2.2.1 with Span := yAY.z, Mode := 0 }, ())
 else
 gd (decide (1 ≤ (s.2.1.s_.size : Int))) <|
 k0 (s.1, (⟨s.2.1.s_.extract 1 s.2.1.s_.size, true⟩ : yAB), { s.2.2.1 with Span := yAY.z, Mode := IntKind.i8.wrap (minI false r10.1 127) }, ())
 else
 k0 (s.1, { s.2.1 with bad_ := true }, { s.2.2.1 with Span := yAY.z }, ())
 else
 gd (decide (1 ≤ (s.2.1.s_.size : Int))) <|
 bif s.2.2.1.Kind == 2 then
 bindO (f1 (s.2.1.s_.extract 1 s.2.1.s_.size) 0 1) fun r11 =>
 bif r11.2.1 != 0 then
 k0 (s.1, (⟨s.2.1.s_.extract 1 s.2.1.s_.size, true⟩ : yAB), { s.2.2.1 with Span := (⟨0, r9.1⟩ : yAY), Mode := 0 }, ())
 else
 gd (decide (1 ≤ ((s.2.1.s_.extract 1 s.2.1.s_.size).size : Int))) <|
 k0 (s.1, (⟨(s.2.1.s_.extract 1 s.2.1.s_.size).extract 1 ((s.2.1.s_.extract 1 s.2.1.s_.size).size), true⟩ : yAB), { s.2.2.1 with Span := (⟨0, r9.1⟩ : yAY), Mode := IntKind.i8.wrap (minI false r11.1 127) }, ())
 else
 k0 (s.1, (⟨s.2.1.s_.extract 1 s.2.1.s_.size, true⟩ : yAB), { s.2.2.1 with Span := (⟨0, r9.1⟩ : yAY) }, ())
 else
 gd (decide (1 ≤ (s.2.1.s_.size : Int))) <|
 bindO (f1 (s.2.1.s_.extract 1 s.2.1.s_.size) 0 1) fun r12 =>
 bif r12.2.1 != 0 then
 bif s.2.2.1.Kind == 2 then
 bindO (f1 (s.2.1.s_.extract 1 s.2.1.s_.size) 0 1) fun r13 =>
 bif r13.2.1 != 0 then
 k0 (s.1, (⟨s.2.1.s_.extract 1 s.2.1.s_.size, true⟩ : yAB), { s.2.2.1 with Span := (⟨r8.1, 0⟩ : yAY), Mode := 0 }, ())
 else
 gd (decide (1 ≤ ((s.2.1.s_.extract 1 s.2.1.s_.size).size : Int))) <|
 k0 (s.1, (⟨(s.2.1.s_.extract 1 s.2.1.s_.size).extract 1 ((s.2.1.s_.extract 1 s.2.1.s_.size).size), true⟩ : yAB), { s.2.2.1 with Span := (⟨r8.1, 0⟩ : yAY), Mode := IntKind.i8.wrap (minI false r13.1 127) }, ())
 else
 k0 (s.1, (⟨s.2.1.s_.extract 1 s.2.1.s_.size, true⟩ : yAB), { s.2.2.1 with Span := (⟨r8.1, 0⟩ : yAY) }, ())
 else
 gd (decide (1 ≤ ((s.2.1.s_.extract 1 s.2.1.s_.size).size : Int))) <|
 bif s.2.2.1.Kind == 2 then
 bindO (f1 ((s.2.1.s_.extract 1 s.2.1.s_.size).extract 1 ((s.2.1.s_.extract 1 s.2.1.s_.size).size)) 0 1) fun r14 =>
 bif r14.2.1 != 0 then
 k0 (s.1, (⟨(s.2.1.s_.extract 1 s.2.1.s_.size).extract 1 ((s.2.1.s_.extract 1 s.2.1.s_.size).size), true⟩ : yAB), { s.2.2.1 with Span := (⟨r8.1, r12.1⟩ : yAY), Mode := 0 }, ())
 else
 gd (decide (1 ≤ (((s.2.1.s_.extract 1 s.2.1.s_.size).extract 1 ((s.2.1.s_.extract 1 s.2.1.s_.size).size)).size : Int))) <|
 k0 (s.1, { s.2.1 with s_ := ((s.2.1.s_.extract 1 s.2.1.s_.size).extract 1 ((s.2.1.s_.extract 1 s.2.1.s_.size).size)).extract 1 (((s.2.1.s_.extract 1 s.2.1.s_.size).extract 1 ((s.2.1.s_.extract 1 s.2.1.s_.size).size)).size) }, { s.2.2.1 with Span := (⟨r8.1, r12.1⟩ : yAY), Mode := IntKind.i8.wrap (minI false r14.1 127) }, ())
 else
 k0 (s.1, { s.2.1 with s_ := (s.2.1.s_.extract 1 s.2.1.s_.size).extract 1 ((s.2.1.s_.extract 1 s.2.1.s_.size).size) }, { s.2.2.1 with Span := (⟨r8.1, r12.1⟩ : yAY) }, ())
 else
 bif s.2.2.1.Kind == 4 then
 bindO (f1 s.2.1.s_ 0 6) fun r15 =>
 bif r15.2.1 != 0 then
 bif s.2.2.1.Kind == 4 then
 bindO (f1 s.2.1.s_ 0 6) fun r16 =>
 bif r16.2.1 != 0 then
 k0 (s.1, { s.2.1 with bad_ := true }, { s.2.2.1 with Dead := 0, Was := 0 }, ())
 else
 gd (decide (6 ≤ (s.2.1.s_.size : Int))) <|
 k0 (s.1, (⟨s.2.1.s_.extract 6 s.2.1.s_.size, true⟩ : yAB), { s.2.2.1 with Dead := 0, Was := r16.1 }, ())
 else
 k0 (s.1, { s.2.1 with bad_ := true }, { s.2.2.1 with Dead := 0 }, ())
 else
 gd (decide (6 ≤ (s.2.1.s_.size : Int))) <|
 bif s.2.2.1.Kind == 4 then
 bindO (f1 (s.2.1.s_.extract 6 s.2.1.s_.size) 0 6) fun r17 =>
 bif r17.2.1 != 0 then
 k0 (s.1, (⟨s.2.1.s_.extract 6 s.2.1.s_.size, true⟩ : yAB), { s.2.2.1 with Dead := r15.1, Was := 0 }, ())
 else
 gd (decide (6 ≤ ((s.2.1.s_.extract 6 s.2.1.s_.size).size : Int))) <|
 k0 (s.1, { s.2.1 with s_ := (s.2.1.s_.extract 6 s.2.1.s_.size).extract 6 ((s.2.1.s_.extract 6 s.2.1.s_.size).size) }, { s.2.2.1 with Dead := r15.1, Was := r17.1 }, ())
 else
 k0 (s.1, { s.2.1 with s_ := s.2.1.s_.extract 6 s.2.1.s_.size }, { s.2.2.1 with Dead := r15.1 }, ())
 else
 bif s.2.2.1.Kind == 5 then
 bindO (f1 s.2.1.s_ 0 6) fun r18 =>
 bif r18.2.1 != 0 then
 bif s.2.2.1.Kind == 4 then
 bindO (f1 s.2.1.s_ 0 6) fun r19 =>
 bif r19.2.1 != 0 then
 k0 (s.1, { s.2.1 with bad_ := true }, { s.2.2.1 with Dead := 0, Was := 0 }, ())
 else
 gd (decide (6 ≤ (s.2.1.s_.size : Int))) <|
 k0 (s.1, (⟨s.2.1.s_.extract 6 s.2.1.s_.size, true⟩ : yAB), { s.2.2.1 with Dead := 0, Was := r19.1 }, ())
 else
 k0 (s.1, { s.2.1 with bad_ := true }, { s.2.2.1 with Dead := 0 }, ())
 else
 gd (decide (6 ≤ (s.2.1.s_.size : Int))) <|
 bif s.2.2.1.Kind == 4 then
 bindO (f1 (s.2.1.s_.extract 6 s.2.1.s_.size) 0 6) fun r20 =>
 bif r20.2.1 != 0 then
 k0 (s.1, (⟨s.2.1.s_.extract 6 s.2.1.s_.size, true⟩ : yAB), { s.2.2.1 with Dead := r18.1, Was := 0 }, ())
 else
 gd (decide (6 ≤ ((s.2.1.s_.extract 6 s.2.1.s_.size).size : Int))) <|
 k0 (s.1, { s.2.1 with s_ := (s.2.1.s_.extract 6 s.2.1.s_.size).extract 6 ((s.2.1.s_.extract 6 s.2.1.s_.size).size) }, { s.2.2.1 with Dead := r18.1, Was := r20.1 }, ())
 else
 k0 (s.1, { s.2.1 with s_ := s.2.1.s_.extract 6 s.2.1.s_.size }, { s.2.2.1 with Dead := r18.1 }, ())
 else
 k0 (s.1, s.2.1, s.2.2.1, ())
abbrev yEZ : LW1 yGc yGb := ⟨(lvC 2 yMf (lvC 4 yCV (lvC 6 yMf lvN))), .normal, (lvC 2 yMf (lvC 4 yCV (lvC 6 yMf lvN)))⟩
theorem yMy {α : Type} (f1) : yEZ.Ep (α := α) [yCm.s f1] Tryz.f118 [1, 1, 1, 1, 0] .no (yBe f1) := fun _ _ => by kernel_rfl
theorem yMW {α : Type} (L : Nat) : PO Tryz.f118 [1, 1, 1, 1, 0] (yEZ.s (α := α) (yBe (yBQ L))) := yEZ.kp (yMy (yBQ L)) (tC (yLC L).ent tN) (lN _) (by kernel_rfl)
abbrev yAx := fw1 118 (caC cdS caN) (cdT (caC yKz (caC cI caN)))
abbrev yJH (f1 : yEW.T) (P0 : LF1 yGY yGX (yAF × Int × Unit)) (P1 : LF1 yGa yGZ (yAF × Int × Unit)) (P2 : LF1 yGc yGb (yAF × Int × Unit)) (x0 : ByteArray) : Option (yAF × Int × Unit) :=
 P0 (yAF.z, (⟨x0, false⟩ : yAB), ()) (fun q1 =>
 P1 (q1.1, q1.2.1, q1.2.2.1, ()) (fun q2 =>
 P2 (q2.1, q2.2.1, q2.2.2.1, ()) (fun q3 =>
 bif q3.2.1.bad_ then
 some (yAF.z, 100, ())
 else
 bif !(q3.2.1.s_.toList == noS.toList) then
 some (yAF.z, 100, ())
 else
 bindO (f1 q3.2.2.1) fun r4 =>
 bif !r4 then
 some (yAF.z, 100, ())
 else
 some (q3.2.2.1, 0, ()))))
theorem yOZ (f1 P0 P1 P2) : yAx.Eq [yEW.s f1] (.two .no (.two .no (.two (.pt (yEX.s P0)) (.two (.pt (yEY.s P1)) (.two (.pt (yEZ.s P2)) .no))))) (yJH f1 P0 P1 P2) := fun _ => by kernel_rfl
def yAl (L : Nat) : yAx.T := yJH (yId L) (yD7 (yBQ L)) (yD8 (yBQ L)) (yBe (yBQ L))
theorem yE7 (L : Nat) : yAx.C (yAl L) := yAx.c (yOZ (yId L) (yD7 (yBQ L)) (yD8 (yBQ L)) (yBe (yBQ L))) (tC (yPM L).ent tN) Tryz.func118 (by kernel_rfl) (lS (lN _) (lS (lN _) (lS (lP (yMU L)) (lS (lP (yMV L)) (lS (lP (yMW L)) (lN _))))))
end Go.Proofs.YtakljpcmbpaeaaaGreat

namespace Go.Proofs.YtakljpcmbpaeaaaGreat
open Go.RowKit
set_option maxRecDepth 100000
set_option maxHeartbeats 16000000

abbrev yHG := fw1 340 (caC cdS caN) (cdT (caC (cdI .i8) (caC cdS (caC cI caN))))
abbrev yMP (f1 : yCm.T) (f2 : yMX.T) (x0 : ByteArray) : Option (Int × ByteArray × Int × Unit) :=
 bindO (f1 x0 1 2) fun r1 =>
 bif r1.2.1 != 0 then
 some (0, noS, 30, ())
 else
 bif (x0.size : Int) != (w64 ((w64 (3 + r1.1)) + 4)) then
 some (0, noS, 30, ())
 else
 bif decide (505 < r1.1) then
 some (0, noS, 30, ())
 else
 gd (decide (0 < (x0.size : Int))) <|
 bif (((x0[0]?).getD 0).toNat : Int) == 0 then
 some (0, noS, 30, ())
 else
 gd (decide (0 < (x0.size : Int))) <|
 bif decide (127 < (((x0[0]?).getD 0).toNat : Int)) then
 some (0, noS, 30, ())
 else
 bindO (f1 x0 (w64 (3 + r1.1)) 4) fun r2 =>
 gd (decide (0 ≤ w64 (3 + r1.1))) <|
 gd (decide (w64 (3 + r1.1) ≤ (x0.size : Int))) <|
 gF (rowsS (x0.extract 0 ((w64 (3 + r1.1)).toNat))) (0 + ((x0.extract 0 ((w64 (3 + r1.1)).toNat)).size)) <|
 bindO (f2 ((rowsS (x0.extract 0 ((w64 (3 + r1.1)).toNat))).take ((x0.extract 0 ((w64 (3 + r1.1)).toNat)).size))) fun r3 =>
 bif r2.1 != r3 then
 some (0, noS, 30, ())
 else
 gd (decide (0 < (x0.size : Int))) <|
 gd (decide (0 ≤ w64 (3 + r1.1))) <|
 gd (decide (w64 (3 + r1.1) ≤ (x0.size : Int))) <|
 gd (decide (3 ≤ ((w64 (3 + r1.1)).toNat : Int))) <|
 some (IntKind.i8.wrap (((x0[0]?).getD 0).toNat : Int), x0.extract 3 ((w64 (3 + r1.1)).toNat), 0, ())
theorem yRD (f1 f2) : yHG.Eq [yCm.s f1, yMX.s f2] .no (yMP f1 f2) := fun _ => by kernel_rfl
def yLW (L : Nat) : yHG.T := yMP (yBQ L) (crc_Sum L)
theorem yRC (L : Nat) : yHG.C (yLW L) := yHG.c (yRD (yBQ L) (crc_Sum L)) (tC (yLC L).ent (tC (crc_Sum_c L).ent tN)) Tryz.func340 (by kernel_rfl) (lN _)
abbrev yHs := fw2 299 (caC (cdI .i8) (caC cdS caN)) (cdT (caC cdS (caC cI caN)))
abbrev yOP (f1 : yHG.T) (x0 : Int) (x1 : ByteArray) : Option (ByteArray × Int × Unit) :=
 bindO (f1 x1) fun r1 =>
 bif r1.2.2.1 != 0 then
 some (noS, 30, ())
 else
 bif r1.1 != x0 then
 some (noS, 30, ())
 else
 some (r1.2.1, 0, ())
theorem yRT (f1) : yHs.Eq [yHG.s f1] .no (yOP f1) := fun _ => by kernel_rfl
def yMO (L : Nat) : yHs.T := yOP (yLW L)
theorem yQZ (L : Nat) : yHs.C (yMO L) := yHs.c (yRT (yLW L)) (tC (yRC L).ent tN) Tryz.func299 (by kernel_rfl) (lN _)
abbrev yDh := fw1 258 (caC cdS caN) (cdT (caC yKz (caC cdS (caC cdB (caC cI caN)))))
abbrev yJI (f1 : yHs.T) (f2 : yAx.T) (x0 : ByteArray) : Option (yAF × ByteArray × Bool × Int × Unit) :=
 bif x0.toList == noS.toList then
 some (yAF.z, noS, false, 0, ())
 else
 bindO (f1 5 x0) fun r1 =>
 bif r1.2.1 != 0 then
 some (yAF.z, noS, false, 50, ())
 else
 bindO (f2 r1.1) fun r2 =>
 bif r2.2.1 != 0 then
 some (yAF.z, noS, false, 50, ())
 else
 some (r2.1, r1.1, true, 0, ())
theorem yOb (f1 f2) : yDh.Eq [yHs.s f1, yAx.s f2] .no (yJI f1 f2) := fun _ => by kernel_rfl
def yHo (L : Nat) : yDh.T := yJI (yMO L) (yAl L)
theorem yOa (L : Nat) : yDh.C (yHo L) := yDh.c (yOb (yMO L) (yAl L)) (tC (yQZ L).ent (tC (yE7 L).ent tN)) Tryz.func258 (by kernel_rfl) (lN _)
abbrev yAg := (List (List V)) × (((Int × Unit) × Unit)) × Int × Int × Unit
abbrev yA0 := Unit
abbrev yA1 := Int × Unit
abbrev yAU {α : Type} (s : yAg) (kn : yAg → Option α) (k0 : yA0 → Option α) (k1 : yA1 → Option α) : Option α :=
 bif decide (s.2.2.2.1 < s.2.2.1) then
 gI s.1 yAY.ks s.2.2.2.1 <|
 bif (aI s.1 s.2.2.2.1.toNat 0) == s.2.1.1.1 then
 k1 (s.2.2.2.1, ())
 else
 kn (s.1, ((s.2.1.1.1, ()), ()), s.2.2.1, w64 (s.2.2.2.1 + 1), ())
 else
 k0 (())
abbrev yAh : LW2 yAg yA0 yA1 := ⟨(lvC 0 (mP cdR) (lvC 1 (mP (cdF 261 (caC (cdP (caC cI caN)) caN))) (lvC 7 (mP cI) (lvC 8 (mP cI) lvN)))), (.exit 0), lvN, .ret, (lvC 4 (mP cI) lvN)⟩
theorem yDI {α : Type} : yAh.Eq (α := α) [] Tryz.f260 [1, 0, 1, 0] .no (yAU) := fun _ _ _ => by kernel_rfl
abbrev yAP := fw2 260 (caC cdR (caC (cdF 261 (caC (cdP (caC cI caN)) caN)) caN)) cI
abbrev yBA (F0 : LF2 yAg yA0 yA1 (Int)) (x0 : List (List V)) (x1 : (Int × Unit) × Unit) : Option Int :=
 F0 (x0, ((x1.1.1, ()), ()), (x0.length : Int), 0, ()) (fun q1 =>
 some (-1)) (fun q2 =>
 some q2.1)
theorem yDu (F0) : yAP.Eq [] (.two .no (.two (.two .no (.one (.lp (yAh.s F0)))) .no)) (yBA F0) := fun _ => by kernel_rfl
def yAc (L : Nat) : yAP.T := yBA (loop2 (yAU) L)
theorem yDE {α : Type} (L : Nat) : LO Tryz.f260 [1, 0, 1, 0] (yAh.s (α := α) (loop2 (yAU) L)) := yAh.k (yDI) tN (lN _) (by kernel_rfl) L
theorem yDt (L : Nat) : yAP.C (yAc L) := yAP.c (yDu (loop2 (yAU) L)) tN Tryz.func260 (by kernel_rfl) (lS (lN _) (lS (lS (lN _) (lB (lL (yDE L)))) (lN _)))
abbrev yF2 := fw2 198 (caC yIH (caC cI caN)) (cdT (caC cI (caC cdB caN)))
abbrev yLX (f1 : yAP.T) (x0 : yAJ) (x1 : Int) : Option (Int × Bool × Unit) :=
 bif decide (x1 < 1) then
 some (0, false, ())
 else
 bindO (f1 x0.Slots ((x1, ()), ())) fun r1 =>
 some (minI true r1 0, decide (0 ≤ r1), ())
theorem yQb (f1) : yF2.Eq [(260, spF 1 [(261, (yAP.s f1).2)])] .no (yLX f1) := fun _ => by kernel_rfl
def yLc (L : Nat) : yF2.T := yLX (yAc L)
theorem yQa (L : Nat) : yF2.C (yLc L) := yF2.c (yQb (yAc L)) (tC (spF_ok (spF_cons (yDt L).ent spF_nil)) tN) Tryz.func198 (by kernel_rfl) (lN _)
abbrev yCL := fw2 359 (caC (cdP yPJ) (caC cI caN)) (cdT (caC cI (caC cdB caN)))
abbrev yHK (f1 : yF2.T) (x0 : yAs) (x1 : Int) : Option (Int × Bool × Unit) :=
 bindO (f1 x0.Table x1) fun r1 =>
 some (r1.1, r1.2.1, ())
theorem yNI (f1) : yCL.Eq [yF2.s f1] .no (yHK f1) := fun _ => by kernel_rfl
def yER (L : Nat) : yCL.T := yHK (yLc L)
theorem yNH (L : Nat) : yCL.C (yER L) := yCL.c (yNI (yLc L)) (tC (yQa L).ent tN) Tryz.func359 (by kernel_rfl) (lN _)
abbrev yBo := fw1 360 (caC yRY caN) cdB
abbrev yIG (x0 : yGT) : Option Bool :=
 some (x0.Key == 0)
theorem yLq : yBo.Eq [] .no (yIG) := fun _ => by kernel_rfl
def yB5 (L : Nat) : yBo.T := yIG
theorem yLp (L : Nat) : yBo.C (yB5 L) := yBo.c (yLq) tN Tryz.func360 (by kernel_rfl) (lN _)
abbrev yAi := (List (List V)) × Unit × Int × Int × Unit
abbrev yA2 := Unit
abbrev yA3 := Int × Unit
abbrev yAV {α : Type} (f1 : yBo.T) (s : yAi) (kn : yAi → Option α) (k0 : yA2 → Option α) (k1 : yA3 → Option α) : Option α :=
 bif decide (s.2.2.2.1 < s.2.2.1) then
 gI s.1 yAY.ks s.2.2.2.1 <|
 bindO (f1 (⟨aI s.1 s.2.2.2.1.toNat 0, aI s.1 s.2.2.2.1.toNat 1⟩ : yGT)) fun r1 =>
 bif r1 then
 k1 (s.2.2.2.1, ())
 else
 kn (s.1, (()), s.2.2.1, w64 (s.2.2.2.1 + 1), ())
 else
 k0 (())
abbrev yAj : LW2 yAi yA2 yA3 := ⟨(lvC 0 (mP cdR) (lvC 1 (mP (cdF 360 caN)) (lvC 7 (mP cI) (lvC 8 (mP cI) lvN)))), (.exit 0), lvN, .ret, (lvC 4 (mP cI) lvN)⟩
theorem yDJ {α : Type} (f1) : yAj.Eq (α := α) [yBo.s f1] Tryz.f260 [1, 0, 1, 0] .no (yAV f1) := fun _ _ _ => by kernel_rfl
abbrev yAQ := fw2 260 (caC cdR (caC (cdF 360 caN) caN)) cI
abbrev yBB (F0 : LF2 yAi yA2 yA3 (Int)) (x0 : List (List V)) (x1 : Unit) : Option Int :=
 F0 (x0, (()), (x0.length : Int), 0, ()) (fun q1 =>
 some (-1)) (fun q2 =>
 some q2.1)
theorem yDw (F0) : yAQ.Eq [] (.two .no (.two (.two .no (.one (.lp (yAj.s F0)))) .no)) (yBB F0) := fun _ => by kernel_rfl
def yAd (L : Nat) : yAQ.T := yBB (loop2 (yAV (yB5 L)) L)
theorem yDF {α : Type} (L : Nat) : LO Tryz.f260 [1, 0, 1, 0] (yAj.s (α := α) (loop2 (yAV (yB5 L)) L)) := yAj.k (yDJ (yB5 L)) (tC (yLp L).ent tN) (lN _) (by kernel_rfl) L
theorem yDv (L : Nat) : yAQ.C (yAd L) := yAQ.c (yDw (loop2 (yAV (yB5 L)) L)) tN Tryz.func260 (by kernel_rfl) (lS (lN _) (lS (lS (lN _) (lB (lL (yDF L)))) (lN _)))
end Go.Proofs.YtakljpcmbpaeaaaGreat

namespace Go.Proofs.YtakljpcmbpaeaaaGreat
open Go.RowKit
set_option maxRecDepth 100000
set_option maxHeartbeats 16000000

abbrev yCs := fw3 298 (caC yCa (caC yIH (caC yKz caN))) yIH
abbrev yKl (f1 : yI0.T) (f2 : yIz.T) (f3 : yCL.T) (f4 : yAQ.T) (x0 : yAW) (x1 : yAJ) (x2 : yAF) : Option yAJ :=
 bif decide (x2.Kind < 0) then
 some x1
 else
 bif decide (6 ≤ w64 x2.Kind) then
 some x1
 else
 bindO (f1 x1.Slots) fun r1 =>
 bindO (f2 x1.Holds) fun r2 =>
 bindO (f2 x1.Queue) fun r3 =>
 bif decide (x2.Kind = 0) then
 gF r1 (0 + r1.length) <|
 gF r2 (0 + r2.length) <|
 gF r3 (0 + r3.length) <|
 bindO (f3 (⟨(⟨r1.take r1.length, r2.take r2.length, r3.take r3.length⟩ : yAJ), x0⟩ : yAs) x2.By) fun r4 =>
 gF r1 (0 + r1.length) <|
 bindO (f4 (r1.take r1.length) (())) fun r5 =>
 bif !r4.2.1 then
 bif decide (0 ≤ r5) then
 gB r5 r1.length <|
 gd (decide (0 + r5.toNat < r1.length)) <|
 gd (Nat.ble 0 (0 + r5.toNat)) <|
 gd (Nat.ble 1 (r1.getD (0 + r5.toNat) []).length) <|
 gF (r1.set (0 + r5.toNat) ((r1.getD (0 + r5.toNat) []).take 0 ++ ([V.int .i64 x2.By] ++ (r1.getD (0 + r5.toNat) []).drop 1))) (0 + r1.length) <|
 gF r2 (0 + r2.length) <|
 gF r3 (0 + r3.length) <|
 some (⟨(r1.set (0 + r5.toNat) ((r1.getD (0 + r5.toNat) []).take 0 ++ ([V.int .i64 x2.By] ++ (r1.getD (0 + r5.toNat) []).drop 1))).take r1.length, r2.take r2.length, r3.take r3.length⟩ : yAJ)
 else
 gF r1 (0 + r1.length) <|
 gF r2 (0 + r2.length) <|
 gF r3 (0 + r3.length) <|
 some (⟨r1.take r1.length, r2.take r2.length, r3.take r3.length⟩ : yAJ)
 else
 gF r1 (0 + r1.length) <|
 gF r2 (0 + r2.length) <|
 gF r3 (0 + r3.length) <|
 some (⟨r1.take r1.length, r2.take r2.length, r3.take r3.length⟩ : yAJ)
 else
 bif decide (x2.Kind = 1) then none else
 bif decide (x2.Kind = 2) then none else
 bif decide (x2.Kind = 3) then none else
 bif decide (x2.Kind = 4) then none else
 gd (decide (x2.Kind = 5)) <|
 none
theorem yPv (f1 f2 f3 f4) : yCs.Eq [yI0.s f1, yIz.s f2, yCL.s f3, (260, spF 1 [(360, (yAQ.s f4).2)]), sZ 351, sZ 352, sZ 353, sZ 354, sZ 355] .no (yKl f1 f2 f3 f4) := fun _ => by kernel_rfl
def yDY (L : Nat) : yCs.T := yKl (slices_Clone_Slot L) (slices_Clone_Hold L) (yER L) (yAd L)
theorem yMu (L : Nat) : yCs.C (yDY L) := yCs.c (yPv (slices_Clone_Slot L) (slices_Clone_Hold L) (yER L) (yAd L)) (tC (slices_Clone_Slot_c L).ent (tC (slices_Clone_Hold_c L).ent (tC (yNH L).ent (tC (spF_ok (spF_cons (yDv L).ent spF_nil)) (tC stub_ok (tC stub_ok (tC stub_ok (tC stub_ok (tC stub_ok tN))))))))) Tryz.func298 (by kernel_rfl) (lN _)
abbrev yFi := fw4 196 (caC yCa (caC yIH (caC cI (caC cdS caN)))) (cdT (caC yIH (caC cI (caC yKz (caC cdB (caC cI caN))))))
abbrev yK8 (f1 : yDh.T) (f2 : yCs.T) (x0 : yAW) (x1 : yAJ) (x2 : Int) (x3 : ByteArray) : Option (yAJ × Int × yAF × Bool × Int × Unit) :=
 bindO (f1 x3) fun r1 =>
 bif r1.2.2.2.1 == 0 then
 bif r1.2.2.1 then
 bindO (f2 x0 x1 r1.1) fun r2 =>
 some (r2, w64 (x2 + 1), r1.1, true, r1.2.2.2.1, ())
 else
 some (x1, x2, r1.1, false, r1.2.2.2.1, ())
 else
 some (x1, x2, r1.1, false, r1.2.2.2.1, ())
theorem yP4 (f1 f2) : yFi.Eq [yDh.s f1, yCs.s f2] .no (yK8 f1 f2) := fun _ => by kernel_rfl
def yJj (L : Nat) : yFi.T := yK8 (yHo L) (yDY L)
theorem yP3 (L : Nat) : yFi.C (yJj L) := yFi.c (yP4 (yHo L) (yDY L)) (tC (yOa L).ent (tC (yMu L).ent tN)) Tryz.func196 (by kernel_rfl) (lN _)
abbrev yC8 := fw1 287 (caC (cdP yD6) caN) (cdT (caC yKz (caC cdB caN)))
abbrev yIl (f1 : yAx.T) (x0 : yAH) : Option (yAF × Bool × Unit) :=
 bindO (f1 x0.Prop_.Cmd) fun r1 =>
 some (r1.1, r1.2.1 == 0, ())
theorem yN7 (f1) : yC8.Eq [yAx.s f1] .no (yIl f1) := fun _ => by kernel_rfl
def yGH (L : Nat) : yC8.T := yIl (yAl L)
theorem yN6 (L : Nat) : yC8.C (yGH L) := yC8.c (yN7 (yAl L)) (tC (yE7 L).ent tN) Tryz.func287 (by kernel_rfl) (lN _)
abbrev yDg := fw3 324 (caC yKz (caC cI (caC cI caN))) cdB
abbrev yJG (x0 : yAF) (x1 : Int) (x2 : Int) : Option Bool :=
 bif x0.By == x1 then
 some (x0.Serial == x2)
 else
 some false
theorem yOY : yDg.Eq [] .no (yJG) := fun _ => by kernel_rfl
def yHn (L : Nat) : yDg.T := yJG
theorem yOX (L : Nat) : yDg.C (yHn L) := yDg.c (yOY) tN Tryz.func324 (by kernel_rfl) (lN _)
abbrev yIY := fw1 288 (caC yCa caN) cI
abbrev yMz (f1 : yDb.T) (x0 : yAW) : Option Int :=
 bindO (f1 x0) fun r1 =>
 bif !r1 then
 some 0
 else
 some (w64 (4 * x0.Slots))
theorem yRK (f1) : yIY.Eq [yDb.s f1] .no (yMz f1) := fun _ => by kernel_rfl
def yLZ (L : Nat) : yIY.T := yMz (yGe L)
theorem yRJ (L : Nat) : yIY.C (yLZ L) := yIY.c (yRK (yGe L)) (tC (yMZ L).ent tN) Tryz.func288 (by kernel_rfl) (lN _)
abbrev yBw := fw1 244 (caC cI caN) yJe
abbrev yIL (x0 : Int) : Option yAw :=
 bif decide (x0 < 0) then
 some yAw.z
 else
 some (⟨1, x0, noS, 0⟩ : yAw)
theorem yPW : yBw.Eq [] .no (yIL) := fun _ => by kernel_rfl
def yDV (L : Nat) : yBw.T := yIL
theorem yKA (L : Nat) : yBw.C (yDV L) := yBw.c (yPW) tN Tryz.func244 (by kernel_rfl) (lN _)
abbrev yB7 := fw2 245 (caC yCa (caC cI caN)) cI
abbrev yL4 (f1 : yI4.T) (x0 : yAW) (x1 : Int) : Option Int :=
 bindO (f1 x0 3 x1 0) fun r1 =>
 some r1
theorem yQg (f1) : yB7.Eq [yI4.s f1] .no (yL4 f1) := fun _ => by kernel_rfl
def yCi (L : Nat) : yB7.T := yL4 (yMa L)
theorem yJ2 (L : Nat) : yB7.C (yCi L) := yB7.c (yQg (yMa L)) (tC (yRH L).ent tN) Tryz.func245 (by kernel_rfl) (lN _)
abbrev yCX := fw1 243 (caC (cdP yD6) caN) yJe
abbrev yHz (f1 : yB7.T) (f2 : yBw.T) (x0 : yAH) : Option yAw :=
 bindO (f1 x0.g_ x0.Prop_.Node) fun r1 =>
 bindO (f2 r1) fun r2 =>
 some r2
theorem yNX (f1 f2) : yCX.Eq [yB7.s f1, yBw.s f2] .no (yHz f1 f2) := fun _ => by kernel_rfl
def yHR (L : Nat) : yCX.T := yHz (yCi L) (yDV L)
theorem yNW (L : Nat) : yCX.C (yHR L) := yCX.c (yNX (yCi L) (yDV L)) (tC (yJ2 L).ent (tC (yKA L).ent tN)) Tryz.func243 (by kernel_rfl) (lN _)
abbrev yDc := (List (List V)) × ByteArray × Int × (List (List V)) × Int × Int × Unit
abbrev yFP := (List (List V)) × ByteArray × Int × Unit
abbrev yIB := (List (List V)) × ByteArray × Int × Unit
abbrev yBJ {α : Type} (f1 : yCm.T) (s : yDc) (kn : yDc → Option α) (k0 : yFP → Option α) (k1 : yIB → Option α) : Option α :=
 bif decide (s.2.2.2.2.2.1 < s.2.2.2.2.1) then
 gI s.2.2.2.1 kI s.2.2.2.2.2.1 <|
 bif s.2.2.1 != 0 then
 gW s.1 s.1.length <|
 k0 (s.1, s.2.1, s.2.2.1, ())
 else
 bindO (f1 s.2.1 0 (aI s.2.2.2.1 s.2.2.2.2.2.1.toNat 0)) fun r1 =>
 bif r1.2.1 != 0 then
 k1 ([], noS, 30, ())
 else
 gd (Nat.beq (0 + s.1.length) s.1.length) <|
 gM (s.1.length + 1) 8 <|
 gd (decide (0 ≤ aI s.2.2.2.1 s.2.2.2.2.2.1.toNat 0)) <|
 gd (decide (aI s.2.2.2.1 s.2.2.2.2.2.1.toNat 0 ≤ (s.2.1.size : Int))) <|
 gW (s.1 ++ ([[V.int .i64 r1.1]])) (s.1.length + 1) <|
 kn (s.1 ++ ([[V.int .i64 r1.1]]), s.2.1.extract ((aI s.2.2.2.1 s.2.2.2.2.2.1.toNat 0).toNat) s.2.1.size, s.2.2.1, s.2.2.2.1, s.2.2.2.2.1, w64 (s.2.2.2.2.2.1 + 1), ())
 else
 gW s.1 s.1.length <|
 k0 (s.1, s.2.1, s.2.2.1, ())
abbrev yFQ : LW2 yDc yFP yIB := ⟨(lvC 6 (mW 1) (lvC 7 (mP cdS) (lvC 8 (mP cI) (lvC 19 (mP cdR) (lvC 20 (mP cI) (lvC 21 (mP cI) lvN)))))), (.exit 0), (lvC 6 (mW 1) (lvC 7 (mP cdS) (lvC 8 (mP cI) lvN))), .ret, (lvC 6 (mW 1) (lvC 7 (mP cdS) (lvC 8 (mP cI) lvN)))⟩
theorem yNl {α : Type} (f1) : yFQ.Eq (α := α) [yCm.s f1] Tryz.f254 [1, 1, 0, 1, 0] .no (yBJ f1) := fun _ _ _ => by kernel_rfl
abbrev yEx := rw3 254 .t (caC (cdI .i8) (caC cdS (caC cdR caN))) (zW 1 (zP cdS (zP cI zN)))
abbrev yKj (f1 : yHs.T) (F0 : LF2 yDc yFP yIB ((List (List V)) × ByteArray × Int × Unit)) (x0 : Int) (x1 : ByteArray) (x2 : List (List V)) : Option ((List (List V)) × ByteArray × Int × Unit) :=
 bindO (f1 x0 x1) fun r1 =>
 F0 ([], r1.1, r1.2.1, x2, (x2.length : Int), 0, ()) (fun q2 =>
 bif q2.2.2.1 != 0 then
 some ([], noS, q2.2.2.1, ())
 else
 gW q2.1 q2.1.length <|
 some (q2.1, q2.2.1, 0, ())) (fun q3 =>
 gW q3.1 q3.1.length <|
 some (q3.1, q3.2.1, q3.2.2.1, ()))
theorem yPu (f1 F0) : yEx.Eq [yHs.s f1] (.two .no (.two .no (.two (.two .no (.one (.lp (yFQ.s F0)))) .no))) (yKj f1 F0) := fun _ => by kernel_rfl
def yHE (L : Nat) : yEx.T := yKj (yMO L) (loop2 (yBJ (yBQ L)) L)
theorem yNG {α : Type} (L : Nat) : LO Tryz.f254 [1, 1, 0, 1, 0] (yFQ.s (α := α) (loop2 (yBJ (yBQ L)) L)) := yFQ.k (yNl (yBQ L)) (tC (yLC L).ent tN) (lN _) (by kernel_rfl) L
theorem yPt (L : Nat) : yEx.C (yHE L) := yEx.c (yPu (yMO L) (loop2 (yBJ (yBQ L)) L)) (tC (yQZ L).ent tN) Tryz.func254 (by kernel_rfl) (lS (lN _) (lS (lN _) (lS (lS (lN _) (lB (lL (yNG L)))) (lN _))))
abbrev yBN := fw1 326 (caC (cdP yHv) caN) cdR
abbrev yDp (x0 : yAM) : Option (List (List V)) :=
 some ([[V.int .i64 2], [V.int .i64 6], [V.int .i64 6]])
theorem yKo : yBN.Eq [] .no (yDp) := fun _ => by kernel_rfl
def yC1 (L : Nat) : yBN.T := yDp
theorem yKn (L : Nat) : yBN.C (yC1 L) := yBN.c (yKo) tN Tryz.func326 (by kernel_rfl) (lN _)
abbrev yBp := fw3 329 (caC cI (caC cI (caC cI caN))) cdB
abbrev yHu (x0 : Int) (x1 : Int) (x2 : Int) : Option Bool :=
 bif decide (x1 ≤ x0) then
 some (decide (x0 ≤ x2))
 else
 some false
theorem yNN : yBp.Eq [] .no (yHu) := fun _ => by kernel_rfl
def yCv (L : Nat) : yBp.T := yHu
theorem yKm (L : Nat) : yBp.C (yCv L) := yBp.c (yNN) tN Tryz.func329 (by kernel_rfl) (lN _)
end Go.Proofs.YtakljpcmbpaeaaaGreat
