/- Typed functions. (printed by wip/sx) -/
import Derived.Test.YtakljpcmbpaeaaaGreatPaxosKeepsM36
import Derived.Test.YtakljpcmbpaeaaaGreatPaxosKeepsM37
import Derived.Test.YtakljpcmbpaeaaaGreatPaxosKeepsM38
import Derived.Test.YtakljpcmbpaeaaaGreatPaxosKeepsM34
import Derived.Test.YtakljpcmbpaeaaaGreatPaxosKeepsM01
set_option linter.unusedSimpArgs false
set_option linter.unusedVariables false
namespace Go.Proofs.YtakljpcmbpaeaaaGreat
open Go.RowKit
set_option maxRecDepth 100000
set_option maxHeartbeats 16000000

abbrev yAe := (List (List V)) × (((Int × Unit) × Unit)) × Int × Int × Unit
abbrev yAy := Unit
abbrev yAz := Int × Unit
abbrev yAn {α : Type} (s : yAe) (kn : yAe → Option α) (k0 : yAy → Option α) (k1 : yAz → Option α) : Option α :=
 bif decide (s.2.2.2.1 < s.2.2.1) then
 gI s.1 yDZ.ks s.2.2.2.1 <|
 bif (aI s.1 s.2.2.2.1.toNat 0) == s.2.1.1.1 then
 k1 (s.2.2.2.1, ())
 else
 kn (s.1, ((s.2.1.1.1, ()), ()), s.2.2.1, w64 (s.2.2.2.1 + 1), ())
 else
 k0 (())
abbrev yAf : LW2 yAe yAy yAz := ⟨(lvC 0 (mP cdR) (lvC 1 (mP (cdF 225 (caC (cdP (caC cI caN)) caN))) (lvC 7 (mP cI) (lvC 8 (mP cI) lvN)))), (.exit 0), lvN, .ret, (lvC 4 (mP cI) lvN)⟩
theorem yDH {α : Type} : yAf.Eq (α := α) [] Tryz.f224 [1, 0, 1, 0] .no (yAn) := fun _ _ _ => by kernel_rfl
abbrev yAO := fw2 224 (caC cdR (caC (cdF 225 (caC (cdP (caC cI caN)) caN)) caN)) cI
abbrev yBs (F0 : LF2 yAe yAy yAz (Int)) (x0 : List (List V)) (x1 : (Int × Unit) × Unit) : Option Int :=
 F0 (x0, ((x1.1.1, ()), ()), (x0.length : Int), 0, ()) (fun q1 =>
 some (-1)) (fun q2 =>
 some q2.1)
theorem yDs (F0) : yAO.Eq [] (.two .no (.two (.two .no (.one (.lp (yAf.s F0)))) .no)) (yBs F0) := fun _ => by kernel_rfl
def yAS (L : Nat) : yAO.T := yBs (loop2 (yAn) L)
theorem yDD {α : Type} (L : Nat) : LO Tryz.f224 [1, 0, 1, 0] (yAf.s (α := α) (loop2 (yAn) L)) := yAf.k (yDH) tN (lN _) (by kernel_rfl) L
theorem yDr (L : Nat) : yAO.C (yAS L) := yAO.c (yDs (loop2 (yAn) L)) tN Tryz.func224 (by kernel_rfl) (lS (lN _) (lS (lS (lN _) (lB (lL (yDD L)))) (lN _)))
abbrev yCC := ((List (List V)) × (List (List V)) × (List (List V)) × Int × (List (List V)) × Unit) × (List (List V)) × Int × Int × Unit
abbrev yDU := ((List (List V)) × (List (List V)) × (List (List V)) × Int × (List (List V)) × Unit) × Unit
abbrev yBH {α : Type} (s : yCC) (kn : yCC → Option α) (k0 : yDU → Option α) : Option α :=
 bif decide (s.2.2.2.1 < s.2.2.1) then
 gI s.2.1 yDZ.ks s.2.2.2.1 <|
 gB (aI s.2.1 s.2.2.2.1.toNat 0) s.1.1.length <|
 gd (decide (0 + (aI s.2.1 s.2.2.2.1.toNat 0).toNat < s.1.1.length)) <|
 gd (Nat.ble 0 (0 + (aI s.2.1 s.2.2.2.1.toNat 0).toNat)) <|
 gd (Nat.ble 1 (s.1.1.getD (0 + (aI s.2.1 s.2.2.2.1.toNat 0).toNat) []).length) <|
 gW (s.1.1.set (0 + (aI s.2.1 s.2.2.2.1.toNat 0).toNat) ((s.1.1.getD (0 + (aI s.2.1 s.2.2.2.1.toNat 0).toNat) []).take 0 ++ ([V.str (aS s.2.1 s.2.2.2.1.toNat 1)] ++ (s.1.1.getD (0 + (aI s.2.1 s.2.2.2.1.toNat 0).toNat) []).drop 1))) s.1.1.length <|
 kn ((s.1.1.set (0 + (aI s.2.1 s.2.2.2.1.toNat 0).toNat) ((s.1.1.getD (0 + (aI s.2.1 s.2.2.2.1.toNat 0).toNat) []).take 0 ++ ([V.str (aS s.2.1 s.2.2.2.1.toNat 1)] ++ (s.1.1.getD (0 + (aI s.2.1 s.2.2.2.1.toNat 0).toNat) []).drop 1)), s.1.2.1, s.1.2.2.1, s.1.2.2.2.1, s.1.2.2.2.2.1, ()), s.2.1, s.2.2.1, w64 (s.2.2.2.1 + 1), ())
 else
 gW s.1.1 s.1.1.length <|
 k0 ((s.1.1, s.1.2.1, s.1.2.2.1, s.1.2.2.2.1, s.1.2.2.2.2.1, ()), ())
abbrev yCD : LW1 yCC yDU := ⟨(lvC 0 (mR (zW 1 (zP cdR (zP cdR (zP cI (zP cdR zN))))) 5) (lvC 16 (mP cdR) (lvC 17 (mP cI) (lvC 18 (mP cI) lvN)))), (.exit 0), (lvC 0 (mR (zW 1 (zP cdR (zP cdR (zP cI (zP cdR zN))))) 5) lvN)⟩
theorem yJ1 {α : Type} : yCD.Eq (α := α) [] Tryz.f171 [1, 1, 0] .no (yBH) := fun _ _ _ => by kernel_rfl
abbrev yBl := mw1 171 (zS 5 yAu) 5 (caC cdR caN) (cdT caN)
abbrev yE0 (f1 : yJC.T) (F0 : LF1 yCC yDU (Unit × yAC)) (x0 : yAC) (x1 : List (List V)) : Option (Unit × yAC) :=
 bindO (f1 x0.Device.S) fun r1 =>
 gW r1 r1.length <|
 F0 ((r1, x0.Device.Cache, x0.Device.Keys, x0.Device.Next, x0.Device.Fenced, ()), x1, (x1.length : Int), 0, ()) (fun q2 =>
 gF q2.1.1 (0 + q2.1.1.length) <|
 some ((()), (⟨(⟨q2.1.1.take q2.1.1.length, q2.1.2.1, q2.1.2.2.1, q2.1.2.2.2.1, q2.1.2.2.2.2.1⟩ : yAA)⟩ : yAC)))
theorem yLj (f1 F0) : yBl.Eq [yJC.s f1] (.two .no (.two .no (.one (.lp (yCD.s F0))))) (yE0 f1 F0) := fun _ _ => by kernel_rfl
def yCh (L : Nat) : yBl.T := yE0 (slices_Clone_Str L) (loop1 (yBH) L)
theorem yJh {α : Type} (L : Nat) : LO Tryz.f171 [1, 1, 0] (yCD.s (α := α) (loop1 (yBH) L)) := yCD.k (yJ1) tN (lN _) (by kernel_rfl) L
theorem yLi (L : Nat) : yBl.C (yCh L) := yBl.c (yLj (slices_Clone_Str L) (loop1 (yBH) L)) (tC (slices_Clone_Str_c L).ent tN) Tryz.func171 (by kernel_rfl) (lS (lN _) (lS (lN _) (lB (lL (yJh L)))))
end Go.Proofs.YtakljpcmbpaeaaaGreat

namespace Go.Proofs.YtakljpcmbpaeaaaGreat
open Go.RowKit
set_option maxRecDepth 100000
set_option maxHeartbeats 16000000

abbrev yHL := yAA × ByteArray × yAC × (List (List V)) × Int × Int × Unit
abbrev yJK := yAA × ByteArray × yAC × Unit
abbrev yI2 {α : Type} (s : yHL) (kn : yHL → Option α) (k0 : yJK → Option α) : Option α :=
 bif decide (s.2.2.2.2.2.1 < s.2.2.2.2.1) then
 gI s.2.2.2.1 kI s.2.2.2.2.2.1 <|
 none
 else
 k0 (s.1, s.2.1, s.2.2.1, ())
abbrev yHM : LW1 yHL yJK := ⟨(lvC 6 yAE (lvC 7 (mP cdS) (lvC 9 (mP (cdP yAu)) (lvC 123 (mP cdR) (lvC 124 (mP cI) (lvC 125 (mP cI) lvN)))))), (.exit 1), (lvC 6 yAE (lvC 7 (mP cdS) (lvC 9 (mP (cdP yAu)) lvN)))⟩
theorem yOe {α : Type} : yHM.Eq (α := α) [] Tryz.f115 [1, 1, 1, 1, 1, 0, 1, 0, 1, 1, 1, 1, 1, 1, 1, 1, 1, 0, 1, 0, 1, 0] .no (yI2) := fun _ _ _ => by kernel_rfl
abbrev yGd := fw3 115 (caC yB9 (caC cI (caC yJe caN))) (cdT (caC yB9 (caC cdS (caC cI caN))))
abbrev yJz (f1 : yBO.T) (f2 : yIy.T) (f3 : yAO.T) (f4 : yBl.T) (f6 : yIF.T) (f7 : yJB.T) (f8 : yJk.T) (F0 : LF1 yHL yJK (yAA × ByteArray × Int × Unit)) (x0 : yAA) (x1 : Int) (x2 : yAw) : Option (yAA × ByteArray × Int × Unit) :=
 bindO (f1 (⟨x0⟩ : yAC) x1 x2) fun r1 =>
 bif r1 != 0 then
 some (x0, noS, r1, ())
 else
 gI x0.Cache kL x1 <|
 bindO (f2 (aR x0.Cache x1.toNat 0)) fun r2 =>
 gF r2 (0 + r2.length) <|
 bindO (f3 (r2.take r2.length) ((x2.Sector, ()), ())) fun r3 =>
 bif x2.Kind == 1 then
 gI x0.S kS x2.Sector <|
 bif decide (0 ≤ r3) then
 gB r3 r2.length <|
 gL r2 kS (0 + r3.toNat) 1 <|
 some (x0, aS r2 (0 + r3.toNat) 1, 0, ())
 else
 some (x0, aS x0.S x2.Sector.toNat 0, 0, ())
 else
 bif x2.Kind == 2 then
 bindO (f4 (⟨x0⟩ : yAC) ([[V.int .i64 x2.Sector, V.str x2.B]])) fun r4 =>
 bif decide (0 ≤ r3) then none else
 some (r4.2.Device, noS, 0, ())
 else
 bif x2.Kind == 3 then
 bif decide (r3 < 0) then
 gd (Nat.beq (0 + r2.length) r2.length) <|
 gM (r2.length + 1) 24 <|
 gB (r2.length : Int) (r2.length + 1) <|
 gd (decide (0 + (r2.length : Int).toNat < (r2 ++ ([[V.int .i64 x2.Sector, V.str x2.B]])).length)) <|
 gd (Nat.ble 0 (0 + (r2.length : Int).toNat)) <|
 gd (Nat.ble 2 ((r2 ++ ([[V.int .i64 x2.Sector, V.str x2.B]])).getD (0 + (r2.length : Int).toNat) []).length) <|
 bindO (f6 x0.Cache) fun r5 =>
 gB x1 r5.length <|
 gd (decide (0 + x1.toNat < r5.length)) <|
 gd (Nat.ble 0 (0 + x1.toNat)) <|
 gd (Nat.ble 1 (r5.getD (0 + x1.toNat) []).length) <|
 gF (r5.set (0 + x1.toNat) ((r5.getD (0 + x1.toNat) []).take 0 ++ ([V.bs 10 0 (r2.length + 1) (r2.length + 1)] ++ (r5.getD (0 + x1.toNat) []).drop 1))) (0 + r5.length) <|
 some ({ x0 with Cache := (r5.set (0 + x1.toNat) ((r5.getD (0 + x1.toNat) []).take 0 ++ ([V.bs 10 0 (r2.length + 1) (r2.length + 1)] ++ (r5.getD (0 + x1.toNat) []).drop 1))).take r5.length }, noS, 0, ())
 else
 gB r3 r2.length <|
 gd (decide (0 + r3.toNat < r2.length)) <|
 gd (Nat.ble 0 (0 + r3.toNat)) <|
 gd (Nat.ble 2 (r2.getD (0 + r3.toNat) []).length) <|
 bindO (f6 x0.Cache) fun r6 =>
 gB x1 r6.length <|
 gd (decide (0 + x1.toNat < r6.length)) <|
 gd (Nat.ble 0 (0 + x1.toNat)) <|
 gd (Nat.ble 1 (r6.getD (0 + x1.toNat) []).length) <|
 gF (r6.set (0 + x1.toNat) ((r6.getD (0 + x1.toNat) []).take 0 ++ ([V.bs 6 0 r2.length r2.length] ++ (r6.getD (0 + x1.toNat) []).drop 1))) (0 + r6.length) <|
 some ({ x0 with Cache := (r6.set (0 + x1.toNat) ((r6.getD (0 + x1.toNat) []).take 0 ++ ([V.bs 6 0 r2.length r2.length] ++ (r6.getD (0 + x1.toNat) []).drop 1))).take r6.length }, noS, 0, ())
 else
 bif x2.Kind == 4 then
 bif decide (0 < (r2.length : Int)) then
 gd (decide (0 < (r2.length : Int))) <|
 gL r2 yDZ.ks 0 0 <|
 bindO (f4 (⟨x0⟩ : yAC) ([[V.int .i64 (aI r2 0 0), V.str (aS r2 0 1)]])) fun r7 =>
 gd (decide (1 ≤ (r2.length : Int))) <|
 bindO (f6 r7.2.Device.Cache) fun r8 =>
 gB x1 r8.length <|
 gd (decide (0 + x1.toNat < r8.length)) <|
 gd (Nat.ble 0 (0 + x1.toNat)) <|
 gd (Nat.ble 1 (r8.getD (0 + x1.toNat) []).length) <|
 gF (r8.set (0 + x1.toNat) ((r8.getD (0 + x1.toNat) []).take 0 ++ ([V.bs 6 1 (r2.length - 1) (r2.length - 1)] ++ (r8.getD (0 + x1.toNat) []).drop 1))) (0 + r8.length) <|
 some ({ r7.2.Device with Cache := (r8.set (0 + x1.toNat) ((r8.getD (0 + x1.toNat) []).take 0 ++ ([V.bs 6 1 (r2.length - 1) (r2.length - 1)] ++ (r8.getD (0 + x1.toNat) []).drop 1))).take r8.length }, noS, 0, ())
 else
 some (x0, noS, 0, ())
 else
 bif x2.Kind == 5 then none else
 bif x2.Kind == 6 then
 bindO (f7 x0.Keys) fun r9 =>
 gB x1 r9.length <|
 gd (decide (0 + x1.toNat < r9.length)) <|
 gd (Nat.ble 0 (0 + x1.toNat)) <|
 gd (Nat.ble 1 (r9.getD (0 + x1.toNat) []).length) <|
 bindO (f6 x0.Cache) fun r10 =>
 gB x1 r10.length <|
 gd (decide (0 + x1.toNat < r10.length)) <|
 gd (Nat.ble 0 (0 + x1.toNat)) <|
 gd (Nat.ble 1 (r10.getD (0 + x1.toNat) []).length) <|
 gB x1 r9.length <|
 gL (r9.set (0 + x1.toNat) ((r9.getD (0 + x1.toNat) []).take 0 ++ ([V.int .i64 (w64 ((w64 (16 * x0.Next)) + x1))] ++ (r9.getD (0 + x1.toNat) []).drop 1))) kI (0 + x1.toNat) 0 <|
 bindO (f8 ([]) 6 ([[V.int .i64 (aI (r9.set (0 + x1.toNat) ((r9.getD (0 + x1.toNat) []).take 0 ++ ([V.int .i64 (w64 ((w64 (16 * x0.Next)) + x1))] ++ (r9.getD (0 + x1.toNat) []).drop 1))) (0 + x1.toNat) 0)]])) fun r11 =>
 gd (Nat.ble (0 + r11.1.length) r11.1.length) <|
 gd ((bytesOf (r11.1.take r11.1.length)).isSome) <|
 gF (r10.set (0 + x1.toNat) ((r10.getD (0 + x1.toNat) []).take 0 ++ ([V.sl ([]) true] ++ (r10.getD (0 + x1.toNat) []).drop 1))) (0 + r10.length) <|
 gF (r9.set (0 + x1.toNat) ((r9.getD (0 + x1.toNat) []).take 0 ++ ([V.int .i64 (w64 ((w64 (16 * x0.Next)) + x1))] ++ (r9.getD (0 + x1.toNat) []).drop 1))) (0 + r9.length) <|
 some ((⟨x0.S, (r10.set (0 + x1.toNat) ((r10.getD (0 + x1.toNat) []).take 0 ++ ([V.sl ([]) true] ++ (r10.getD (0 + x1.toNat) []).drop 1))).take r10.length, (r9.set (0 + x1.toNat) ((r9.getD (0 + x1.toNat) []).take 0 ++ ([V.int .i64 (w64 ((w64 (16 * x0.Next)) + x1))] ++ (r9.getD (0 + x1.toNat) []).drop 1))).take r9.length, w64 (x0.Next + 1), x0.Fenced⟩ : yAA), bytesS (r11.1.take r11.1.length), 0, ())
 else
 some (x0, noS, 0, ())
theorem yQf (f1 f2 f3 f4 f6 f7 f8 F0) : yGd.Eq [yBO.s f1, yIy.s f2, (224, spF 1 [(225, (yAO.s f3).2)]), yBl.s f4, sZ 173, yIF.s f6, yJB.s f7, yJk.s f8] (.two .no (.two .no (.two .no (.two .no (.two .no (.two (.two .no (.one (.two .no (.two .no (.two .no (.two .no (.two .no (.two .no (.two .no (.two .no (.two .no (.two (.two .no (.two (.two .no (.one (.lp (yHM.s F0)))) .no)) .no)))))))))))) .no)))))) (yJz f1 f2 f3 f4 f6 f7 f8 F0) := fun _ => by kernel_rfl
def yD9 (L : Nat) : yGd.T := yJz (yBK L) (slices_Clone_Cell L) (yAS L) (yCh L) (slices_Clone_Cells L) (slices_Clone_Int L) (num_Put L) (loop1 (yI2) L)
theorem yNt {α : Type} (L : Nat) : LO Tryz.f115 [1, 1, 1, 1, 1, 0, 1, 0, 1, 1, 1, 1, 1, 1, 1, 1, 1, 0, 1, 0, 1, 0] (yHM.s (α := α) (loop1 (yI2) L)) := yHM.k (yOe) tN (lN _) (by kernel_rfl) L
theorem yQe (L : Nat) : yGd.C (yD9 L) := yGd.c (yQf (yBK L) (slices_Clone_Cell L) (yAS L) (yCh L) (slices_Clone_Cells L) (slices_Clone_Int L) (num_Put L) (loop1 (yI2) L)) (tC (yKs L).ent (tC (slices_Clone_Cell_c L).ent (tC (spF_ok (spF_cons (yDr L).ent spF_nil)) (tC (yLi L).ent (tC stub_ok (tC (slices_Clone_Cells_c L).ent (tC (slices_Clone_Int_c L).ent (tC (num_Put_c L).ent tN)))))))) Tryz.func115 (by kernel_rfl) (lS (lN _) (lS (lN _) (lS (lN _) (lS (lN _) (lS (lN _) (lS (lS (lN _) (lB (lS (lN _) (lQ (lN _) (lS (lN _) (lQ (lN _) (lS (lN _) (lQ (lN _) (lS (lN _) (lQ (lN _) (lS (lN _) (lQ (lS (lN _) (lS (lS (lN _) (lB (lL (yNt L)))) (lN _))) (lN _))))))))))))) (lN _)))))))
abbrev yHN := Int × yAW × yAA × yAK × yAA × yDa × Int × Unit
abbrev yJM := yAA × yAA × yDa × Int × Unit
abbrev yEG {α : Type} (f1 : yFm.T) (f2 : yGd.T) (f3 : yFl.T) (s : yHN) (kn : yHN → Option α) (k0 : yJM → Option α) : Option α :=
 bif !s.2.2.2.2.2.1.Over then
 bif decide (s.2.2.2.2.2.1.Acts < s.1) then
 bindO (f1 s.2.1 s.2.2.2.2.2.1.P s.2.2.2.2.2.1.Done) fun r1 =>
 bif r1.2.1 != 0 then
 k0 (s.2.2.1, s.2.2.2.2.1, s.2.2.2.2.2.1, r1.2.1, ())
 else
 bindO (f2 s.2.2.1 s.2.2.2.1.Node r1.1) fun r2 =>
 bif r2.2.2.1 != 0 then
 k0 (s.2.2.1, s.2.2.2.2.1, { s.2.2.2.2.2.1 with Acts := w64 (s.2.2.2.2.2.1.Acts + 1) }, r2.2.2.1, ())
 else
 bindO (f3 s.2.1 s.2.2.2.2.2.1.P s.2.2.2.2.2.1.T s.2.2.2.2.2.1.Done r2.2.1) fun r3 =>
 bif r3.2.2.2.2.1 != 0 then
 k0 (r2.1, s.2.2.2.2.1, (⟨r3.1, r3.2.1, r3.2.2.1, w64 (s.2.2.2.2.2.1.Acts + 1), r3.2.2.2.1⟩ : yDa), r3.2.2.2.2.1, ())
 else
 kn (s.1, s.2.1, r2.1, s.2.2.2.1, s.2.2.2.2.1, (⟨r3.1, r3.2.1, r3.2.2.1, w64 (s.2.2.2.2.2.1.Acts + 1), r3.2.2.2.1⟩ : yDa), r3.2.2.2.2.1, ())
 else
 k0 (s.2.2.1, s.2.2.2.2.1, s.2.2.2.2.2.1, s.2.2.2.2.2.2.1, ())
 else
 k0 (s.2.2.1, s.2.2.2.2.1, s.2.2.2.2.2.1, s.2.2.2.2.2.2.1, ())
abbrev yHO : LW1 yHN yJM := ⟨(lvC 5 (mP cI) (lvC 6 yPC (lvC 7 yAE (lvC 8 yRZ (lvC 12 yAE (lvC 13 yRW (lvC 14 (mP cI) lvN))))))), (.exit 0), (lvC 7 yAE (lvC 12 yAE (lvC 13 yRW (lvC 14 (mP cI) lvN))))⟩
theorem yOh {α : Type} (f1 f2 f3) : yHO.Eq (α := α) [yFm.s f1, yGd.s f2, yFl.s f3] Tryz.f43 [1, 0, 1, 1, 1, 0, 0] .no (yEG f1 f2 f3) := fun _ _ _ => by kernel_rfl
abbrev yEH := fw6 43 (caC yCa (caC yB9 (caC yNn (caC yIH (caC cI (caC cI caN)))))) (cdT (caC yB9 (caC yRe (caC cI caN))))
abbrev yL7 (f1 : yDb.T) (f2 : yDi.T) (f3 : yGf.T) (F0 : LF1 yHN yJM (yAA × yDa × Int × Unit)) (x0 : yAW) (x1 : yAA) (x2 : yAK) (x3 : yAJ) (x4 : Int) (x5 : Int) : Option (yAA × yDa × Int × Unit) :=
 bindO (f1 x0) fun r1 =>
 bif !r1 then
 some (x1, (⟨x2, x3, x4, 0, false⟩ : yDa), 2, ())
 else
 bindO (f2 x1) fun r2 =>
 bif r2 != 0 then
 some (x1, (⟨x2, x3, x4, 0, false⟩ : yDa), 2, ())
 else
 bindO (f3 x0) fun r3 =>
 bif (x1.S.length : Int) != r3 then
 some (x1, (⟨x2, x3, x4, 0, false⟩ : yDa), 2, ())
 else
 F0 (x5, x0, x1, x2, yAA.z, (⟨x2, x3, x4, 0, false⟩ : yDa), 0, ()) (fun q4 =>
 some (q4.1, q4.2.2.1, q4.2.2.2.1, ()))
theorem yQl (f1 f2 f3 F0) : yEH.Eq [yDb.s f1, yDi.s f2, yGf.s f3] (.two .no (.one (.two .no (.two .no (.two .no (.two (.one (.lp (yHO.s F0))) .no)))))) (yL7 f1 f2 f3 F0) := fun _ => by kernel_rfl
def yGG (L : Nat) : yEH.T := yL7 (yGe L) (yFe L) (yJi L) (loop1 (yEG (yBY L) (yD9 L) (yBX L)) L)
theorem yN4 {α : Type} (L : Nat) : LO Tryz.f43 [1, 0, 1, 1, 1, 0, 0] (yHO.s (α := α) (loop1 (yEG (yBY L) (yD9 L) (yBX L)) L)) := yHO.k (yOh (yBY L) (yD9 L) (yBX L)) (tC (yQA L).ent (tC (yQe L).ent (tC (yP8 L).ent tN))) (lN _) (by kernel_rfl) L
theorem yN5 (L : Nat) : yEH.C (yGG L) := yEH.c (yQl (yGe L) (yFe L) (yJi L) (loop1 (yEG (yBY L) (yD9 L) (yBX L)) L)) (tC (yMZ L).ent (tC (yOc L).ent (tC (yQh L).ent tN))) Tryz.func43 (by kernel_rfl) (lS (lN _) (lC (lS (lN _) (lS (lN _) (lS (lN _) (lS (lB (lL (yN4 L))) (lN _)))))))
end Go.Proofs.YtakljpcmbpaeaaaGreat

namespace Go.Proofs.YtakljpcmbpaeaaaGreat
open Go.RowKit
set_option maxRecDepth 100000
set_option maxHeartbeats 16000000

abbrev yFd := fw1 119 (caC cI caN) cI
abbrev yK0 (f1 : yCb.T) (x0 : Int) : Option Int :=
 bindO (f1 x0) fun r1 =>
 bif r1 then
 some (x0.tmod 16)
 else
 some (-1)
theorem yPz (f1) : yFd.Eq [yCb.s f1] .no (yK0 f1) := fun _ => by kernel_rfl
def yJf (L : Nat) : yFd.T := yK0 (yFS L)
theorem yPy (L : Nat) : yFd.C (yJf L) := yFd.c (yPz (yFS L)) (tC (yMT L).ent tN) Tryz.func119 (by kernel_rfl) (lN _)
abbrev yCn := fw3 47 (caC yCa (caC cI (caC cdS caN))) (cdT (caC yNn (caC cI caN)))
abbrev yJ9 (f1 : yAx.T) (f2 : yDb.T) (f3 : yFd.T) (x0 : yAW) (x1 : Int) (x2 : ByteArray) : Option (yAK × Int × Unit) :=
 bindO (f1 x2) fun r1 =>
 bif r1.2.1 != 0 then
 some (yAK.z, 2, ())
 else
 bindO (f2 x0) fun r2 =>
 bif !r2 then
 some (yAK.z, 2, ())
 else
 bif decide (x1 < 0) then
 some (yAK.z, 2, ())
 else
 bif decide (x0.Nodes ≤ x1) then
 some (yAK.z, 2, ())
 else
 bindO (f3 r1.1.By) fun r3 =>
 bif r3 != x1 then
 some (yAK.z, 2, ())
 else
 some ((⟨x1, x2, 0, 0, yAN.z, yAG.z⟩ : yAK), 0, ())
theorem yPV (f1 f2 f3) : yCn.Eq [yAx.s f1, yDb.s f2, yFd.s f3] .no (yJ9 f1 f2 f3) := fun _ => by kernel_rfl
def yFW (L : Nat) : yCn.T := yJ9 (yAl L) (yGe L) (yJf L)
theorem yMg (L : Nat) : yCn.C (yFW L) := yCn.c (yPV (yAl L) (yGe L) (yJf L)) (tC (yE7 L).ent (tC (yMZ L).ent (tC (yPy L).ent tN))) Tryz.func47 (by kernel_rfl) (lN _)
abbrev yHA := fw1 156 (caC cI caN) cdB
abbrev yMI (x0 : Int) : Option Bool :=
 bif decide (16 ≤ x0) then
 some (decide (x0 ≤ 1099511627776))
 else
 some false
theorem yQ2 : yHA.Eq [] .no (yMI) := fun _ => by kernel_rfl
def yLR (L : Nat) : yHA.T := yMI
theorem yQ1 (L : Nat) : yHA.C (yLR L) := yHA.c (yQ2) tN Tryz.func156 (by kernel_rfl) (lN _)
abbrev yHB := fw1 100 (caC yKz caN) cdB
abbrev yMJ (f1 : yHA.T) (x0 : yAF) : Option Bool :=
 bindO (f1 x0.By) fun r1 =>
 bif !r1 then
 some false
 else
 bif decide (x0.Serial < 1) then
 some false
 else
 bif decide (2147483648 < x0.Serial) then
 some false
 else
 bif decide (0 ≤ x0.Span.Lo) then
 bif decide (x0.Span.Lo ≤ x0.Span.Hi) then
 bif x0.Kind == 0 then
 some ((x0.Kind == x0.Kind) && ((x0.By == x0.By) && ((x0.Serial == x0.Serial) && ((x0.Dead == 0) && ((x0.Was == 0) && ((x0.Span.Lo == 0) && ((x0.Span.Hi == 0) && ((x0.Mode == 0) && true))))))))
 else
 bif x0.Kind == 1 then
 some ((x0.Kind == x0.Kind) && ((x0.By == x0.By) && ((x0.Serial == x0.Serial) && ((x0.Dead == 0) && ((x0.Was == 0) && ((x0.Span.Lo == 0) && ((x0.Span.Hi == 0) && ((x0.Mode == 0) && true))))))))
 else
 bif x0.Kind == 2 then
 bif (x0.Kind == x0.Kind) && ((x0.By == x0.By) && ((x0.Serial == x0.Serial) && ((x0.Dead == 0) && ((x0.Was == 0) && ((x0.Span.Lo == x0.Span.Lo) && ((x0.Span.Hi == x0.Span.Hi) && ((x0.Mode == x0.Mode) && true))))))) then
 bif decide (x0.Span.Hi < 64) then
 bif x0.Mode == 1 then
 some true
 else
 some (x0.Mode == 2)
 else
 some false
 else
 some false
 else
 bif x0.Kind == 3 then
 bif (x0.Kind == x0.Kind) && ((x0.By == x0.By) && ((x0.Serial == x0.Serial) && ((x0.Dead == 0) && ((x0.Was == 0) && ((x0.Span.Lo == x0.Span.Lo) && ((x0.Span.Hi == x0.Span.Hi) && ((x0.Mode == 0) && true))))))) then
 some (decide (x0.Span.Hi < 64))
 else
 some false
 else
 bif x0.Kind == 4 then
 bif (x0.Kind == x0.Kind) && ((x0.By == x0.By) && ((x0.Serial == x0.Serial) && ((x0.Dead == x0.Dead) && ((x0.Was == x0.Was) && ((x0.Span.Lo == 0) && ((x0.Span.Hi == 0) && ((x0.Mode == 0) && true))))))) then
 bindO (f1 x0.Dead) fun r2 =>
 bif r2 then
 bif x0.Was == 0 then
 some true
 else
 bindO (f1 x0.Was) fun r3 =>
 some r3
 else
 some false
 else
 some false
 else
 bif x0.Kind == 5 then
 bif (x0.Kind == x0.Kind) && ((x0.By == x0.By) && ((x0.Serial == x0.Serial) && ((x0.Dead == x0.Dead) && ((x0.Was == 0) && ((x0.Span.Lo == 0) && ((x0.Span.Hi == 0) && ((x0.Mode == 0) && true))))))) then
 bindO (f1 x0.Dead) fun r4 =>
 some r4
 else
 some false
 else
 some false
 else
 bif x0.Kind == 0 then
 some ((x0.Kind == x0.Kind) && ((x0.By == x0.By) && ((x0.Serial == x0.Serial) && ((x0.Dead == 0) && ((x0.Was == 0) && ((x0.Span.Lo == 0) && ((x0.Span.Hi == 0) && ((x0.Mode == 0) && true))))))))
 else
 bif x0.Kind == 1 then
 some ((x0.Kind == x0.Kind) && ((x0.By == x0.By) && ((x0.Serial == x0.Serial) && ((x0.Dead == 0) && ((x0.Was == 0) && ((x0.Span.Lo == 0) && ((x0.Span.Hi == 0) && ((x0.Mode == 0) && true))))))))
 else
 bif x0.Kind == 2 then
 bif (x0.Kind == x0.Kind) && ((x0.By == x0.By) && ((x0.Serial == x0.Serial) && ((x0.Dead == 0) && ((x0.Was == 0) && ((x0.Span.Lo == x0.Span.Lo) && ((x0.Span.Hi == x0.Span.Hi) && ((x0.Mode == x0.Mode) && true))))))) then
 some false
 else
 some false
 else
 bif x0.Kind == 3 then
 bif (x0.Kind == x0.Kind) && ((x0.By == x0.By) && ((x0.Serial == x0.Serial) && ((x0.Dead == 0) && ((x0.Was == 0) && ((x0.Span.Lo == x0.Span.Lo) && ((x0.Span.Hi == x0.Span.Hi) && ((x0.Mode == 0) && true))))))) then
 some false
 else
 some false
 else
 bif x0.Kind == 4 then
 bif (x0.Kind == x0.Kind) && ((x0.By == x0.By) && ((x0.Serial == x0.Serial) && ((x0.Dead == x0.Dead) && ((x0.Was == x0.Was) && ((x0.Span.Lo == 0) && ((x0.Span.Hi == 0) && ((x0.Mode == 0) && true))))))) then
 bindO (f1 x0.Dead) fun r5 =>
 bif r5 then
 bif x0.Was == 0 then
 some true
 else
 bindO (f1 x0.Was) fun r6 =>
 some r6
 else
 some false
 else
 some false
 else
 bif x0.Kind == 5 then
 bif (x0.Kind == x0.Kind) && ((x0.By == x0.By) && ((x0.Serial == x0.Serial) && ((x0.Dead == x0.Dead) && ((x0.Was == 0) && ((x0.Span.Lo == 0) && ((x0.Span.Hi == 0) && ((x0.Mode == 0) && true))))))) then
 bindO (f1 x0.Dead) fun r7 =>
 some r7
 else
 some false
 else
 some false
 else
 bif x0.Kind == 0 then
 some ((x0.Kind == x0.Kind) && ((x0.By == x0.By) && ((x0.Serial == x0.Serial) && ((x0.Dead == 0) && ((x0.Was == 0) && ((x0.Span.Lo == 0) && ((x0.Span.Hi == 0) && ((x0.Mode == 0) && true))))))))
 else
 bif x0.Kind == 1 then
 some ((x0.Kind == x0.Kind) && ((x0.By == x0.By) && ((x0.Serial == x0.Serial) && ((x0.Dead == 0) && ((x0.Was == 0) && ((x0.Span.Lo == 0) && ((x0.Span.Hi == 0) && ((x0.Mode == 0) && true))))))))
 else
 bif x0.Kind == 2 then
 bif (x0.Kind == x0.Kind) && ((x0.By == x0.By) && ((x0.Serial == x0.Serial) && ((x0.Dead == 0) && ((x0.Was == 0) && ((x0.Span.Lo == x0.Span.Lo) && ((x0.Span.Hi == x0.Span.Hi) && ((x0.Mode == x0.Mode) && true))))))) then
 some false
 else
 some false
 else
 bif x0.Kind == 3 then
 bif (x0.Kind == x0.Kind) && ((x0.By == x0.By) && ((x0.Serial == x0.Serial) && ((x0.Dead == 0) && ((x0.Was == 0) && ((x0.Span.Lo == x0.Span.Lo) && ((x0.Span.Hi == x0.Span.Hi) && ((x0.Mode == 0) && true))))))) then
 some false
 else
 some false
 else
 bif x0.Kind == 4 then
 bif (x0.Kind == x0.Kind) && ((x0.By == x0.By) && ((x0.Serial == x0.Serial) && ((x0.Dead == x0.Dead) && ((x0.Was == x0.Was) && ((x0.Span.Lo == 0) && ((x0.Span.Hi == 0) && ((x0.Mode == 0) && true))))))) then
 bindO (f1 x0.Dead) fun r8 =>
 bif r8 then
 bif x0.Was == 0 then
 some true
 else
 bindO (f1 x0.Was) fun r9 =>
 some r9
 else
 some false
 else
 some false
 else
 bif x0.Kind == 5 then
 bif (x0.Kind == x0.Kind) && ((x0.By == x0.By) && ((x0.Serial == x0.Serial) && ((x0.Dead == x0.Dead) && ((x0.Was == 0) && ((x0.Span.Lo == 0) && ((x0.Span.Hi == 0) && ((x0.Mode == 0) && true))))))) then
 bindO (f1 x0.Dead) fun r10 =>
 some r10
 else
 some false
 else
 some false
theorem yQ4 (f1) : yHB.Eq [yHA.s f1] .no (yMJ f1) := fun _ => by kernel_rfl
def yLS (L : Nat) : yHB.T := yMJ (yLR L)
theorem yQ3 (L : Nat) : yHB.C (yLS L) := yHB.c (yQ4 (yLR L)) (tC (yQ1 L).ent tN) Tryz.func100 (by kernel_rfl) (lN _)
abbrev yCq := fw1 21 (caC yKz caN) (cdT (caC cdS (caC cI caN)))
abbrev yKi (f1 : yHB.T) (f2 : yB8.T) (x0 : yAF) : Option (ByteArray × Int × Unit) :=
 bindO (f1 x0) fun r1 =>
 bif !r1 then
 some (noS, 2, ())
 else
 bindO (f2 ([[V.int .u8 (IntKind.u8.wrap x0.Kind)]]) 6 ([[V.int .i64 x0.By]])) fun r2 =>
 gF r2.1 (0 + r2.1.length) <|
 bindO (f2 (r2.1.take r2.1.length) 4 ([[V.int .i64 x0.Serial]])) fun r3 =>
 bif x0.Kind == 2 then
 gd (Nat.beq (0 + r3.1.length) r3.1.length) <|
 gM (r3.1.length + 3) 1 <|
 gd (Nat.ble (0 + (r3.1.length + 3)) ((r3.1 ++ ([[V.int .u8 (IntKind.u8.wrap x0.Span.Lo)], [V.int .u8 (IntKind.u8.wrap x0.Span.Hi)], [V.int .u8 (IntKind.u8.wrap x0.Mode)]])).length)) <|
 gd ((bytesOf ((r3.1 ++ ([[V.int .u8 (IntKind.u8.wrap x0.Span.Lo)], [V.int .u8 (IntKind.u8.wrap x0.Span.Hi)], [V.int .u8 (IntKind.u8.wrap x0.Mode)]])).take (r3.1.length + 3))).isSome) <|
 some (bytesS ((r3.1 ++ ([[V.int .u8 (IntKind.u8.wrap x0.Span.Lo)], [V.int .u8 (IntKind.u8.wrap x0.Span.Hi)], [V.int .u8 (IntKind.u8.wrap x0.Mode)]])).take (r3.1.length + 3)), 0, ())
 else
 bif x0.Kind == 3 then
 gd (Nat.beq (0 + r3.1.length) r3.1.length) <|
 gM (r3.1.length + 2) 1 <|
 gd (Nat.ble (0 + (r3.1.length + 2)) ((r3.1 ++ ([[V.int .u8 (IntKind.u8.wrap x0.Span.Lo)], [V.int .u8 (IntKind.u8.wrap x0.Span.Hi)]])).length)) <|
 gd ((bytesOf ((r3.1 ++ ([[V.int .u8 (IntKind.u8.wrap x0.Span.Lo)], [V.int .u8 (IntKind.u8.wrap x0.Span.Hi)]])).take (r3.1.length + 2))).isSome) <|
 some (bytesS ((r3.1 ++ ([[V.int .u8 (IntKind.u8.wrap x0.Span.Lo)], [V.int .u8 (IntKind.u8.wrap x0.Span.Hi)]])).take (r3.1.length + 2)), 0, ())
 else
 bif x0.Kind == 4 then
 gF r3.1 (0 + r3.1.length) <|
 bindO (f2 (r3.1.take r3.1.length) 6 ([[V.int .i64 x0.Dead], [V.int .i64 x0.Was]])) fun r4 =>
 gd (Nat.ble (0 + r4.1.length) r4.1.length) <|
 gd ((bytesOf (r4.1.take r4.1.length)).isSome) <|
 some (bytesS (r4.1.take r4.1.length), 0, ())
 else
 bif x0.Kind == 5 then
 gF r3.1 (0 + r3.1.length) <|
 bindO (f2 (r3.1.take r3.1.length) 6 ([[V.int .i64 x0.Dead]])) fun r5 =>
 gd (Nat.ble (0 + r5.1.length) r5.1.length) <|
 gd ((bytesOf (r5.1.take r5.1.length)).isSome) <|
 some (bytesS (r5.1.take r5.1.length), 0, ())
 else
 gd (Nat.ble (0 + r3.1.length) r3.1.length) <|
 gd ((bytesOf (r3.1.take r3.1.length)).isSome) <|
 some (bytesS (r3.1.take r3.1.length), 0, ())
theorem yPs (f1 f2) : yCq.Eq [yHB.s f1, yB8.s f2] .no (yKi f1 f2) := fun _ => by kernel_rfl
def yEP (L : Nat) : yCq.T := yKi (yLS L) (yBZ L)
theorem yMt (L : Nat) : yCq.C (yEP L) := yCq.c (yPs (yLS L) (yBZ L)) (tC (yQ3 L).ent (tC (yKB L).ent tN)) Tryz.func21 (by kernel_rfl) (lN _)
end Go.Proofs.YtakljpcmbpaeaaaGreat

namespace Go.Proofs.YtakljpcmbpaeaaaGreat
open Go.RowKit
set_option maxRecDepth 100000
set_option maxHeartbeats 16000000

abbrev yCl := fw3 48 (caC yB9 (caC cI (caC cI caN))) cdS
abbrev yJ7 (f1 : yCq.T) (x0 : yAA) (x1 : Int) (x2 : Int) : Option ByteArray :=
 gI x0.Keys kI x1 <|
 bindO (f1 (⟨0, aI x0.Keys x1.toNat 0, x2, 0, 0, yAY.z, 0⟩ : yAF)) fun r1 =>
 some r1.1
theorem yPR (f1) : yCl.Eq [yCq.s f1] .no (yJ7 f1) := fun _ => by kernel_rfl
def yFV (L : Nat) : yCl.T := yJ7 (yEP L)
theorem yMd (L : Nat) : yCl.C (yFV L) := yCl.c (yPR (yEP L)) (tC (yMt L).ent tN) Tryz.func48 (by kernel_rfl) (lN _)
abbrev yEc := fw0 37 caN cdB
abbrev yMe (f1 : yDL.T) (f2 : yCl.T) (f3 : yCn.T) (f4 : yEQ.T) (f5 : yEH.T) : Option Bool :=
 bindO (f1 (⟨1, 1, 1, 1, 3, 8, 1, 2⟩ : yAW)) fun r1 =>
 bif !r1.2.1 then
 some false
 else
 bindO (f2 r1.1 0 1) fun r2 =>
 bindO (f3 (⟨1, 1, 1, 1, 3, 8, 1, 2⟩ : yAW) 0 r2) fun r3 =>
 bindO (f4 (⟨1, 1, 1, 1, 3, 8, 1, 2⟩ : yAW)) fun r4 =>
 bindO (f5 (⟨1, 1, 1, 1, 3, 8, 1, 2⟩ : yAW) r1.1 r3.1 r4 0 99) fun r5 =>
 bif r3.2.1 == 0 then
 bif r5.2.2.1 == 0 then
 bif r5.2.1.Over then
 bif r5.2.1.Acts == 5 then
 bif r5.2.1.Done == 1 then
 bif (r5.2.1.T.Slots.length : Int) == 1 then
 gd (decide (0 < (r5.2.1.T.Slots.length : Int))) <|
 gd (rowIs yAY.ks r5.2.1.T.Slots 0) <|
 gd (decide (0 < (r1.1.Keys.length : Int))) <|
 gd (rowIs kI r1.1.Keys 0) <|
 bif (aI r5.2.1.T.Slots 0 0) == (aI r1.1.Keys 0 0) then
 bif (r5.1.S.length : Int) == (r1.1.S.length : Int) then
 some true
 else
 some false
 else
 some false
 else
 some false
 else
 some false
 else
 some false
 else
 some false
 else
 some false
 else
 some false
theorem yPT (f1 f2 f3 f4 f5) : yEc.Eq [yDL.s f1, yCl.s f2, yCn.s f3, yEQ.s f4, yEH.s f5] .no (yMe f1 f2 f3 f4 f5) := fun _ => by kernel_rfl
def yGj (L : Nat) : yEc.T := yMe (yGi L) (yFV L) (yFW L) (yIx L) (yGG L)
theorem yPS (L : Nat) : yEc.C (yGj L) := yEc.c (yPT (yGi L) (yFV L) (yFW L) (yIx L) (yGG L)) (tC (yNJ L).ent (tC (yMd L).ent (tC (yMg L).ent (tC (yOM L).ent (tC (yN5 L).ent tN))))) Tryz.func37 (by kernel_rfl) (lN _)
abbrev yGs := fw2 23 (caC yCa (caC cI caN)) cI
abbrev yMD (f1 : yAv.T) (f2 : yB4.T) (x0 : yAW) (x1 : Int) : Option Int :=
 bindO (f1 x0) fun r1 =>
 bif !r1 then
 some (-1)
 else
 bindO (f2 x1 0 (w64 (x0.Log - 1))) fun r2 =>
 bif !r2 then
 some (-1)
 else
 some (w64 ((w64 (1 + (w64 (2 * x0.Nodes)))) + x1))
theorem yQv (f1 f2) : yGs.Eq [yAv.s f1, yB4.s f2] .no (yMD f1 f2) := fun _ => by kernel_rfl
def yJm (L : Nat) : yGs.T := yMD (yBa L) (yEh L)
theorem yQu (L : Nat) : yGs.C (yJm L) := yGs.c (yQv (yBa L) (yEh L)) (tC (yEN L).ent (tC (yJn L).ent tN)) Tryz.func23 (by kernel_rfl) (lN _)
abbrev yHU := ByteArray × Int × Int × Int × Unit
abbrev yJN := Int × Unit
abbrev yEK {α : Type} (s : yHU) (kn : yHU → Option α) (k0 : yJN → Option α) : Option α :=
 bif decide (0 ≤ s.2.2.2.1) then
 gB (w64 (s.2.1 + s.2.2.2.1)) s.1.size <|
 kn (s.1, s.2.1, w64 ((w64 (s.2.2.1 * 256)) + (w64 (((s.1[(w64 (s.2.1 + s.2.2.2.1)).toNat]?).getD 0).toNat : Int))), w64 (s.2.2.2.1 - 1), ())
 else
 k0 (s.2.2.1, ())
abbrev yHV : LW1 yHU yJN := ⟨(lvC 0 (mP cdS) (lvC 1 (mP cI) (lvC 8 (mP cI) (lvC 9 (mP cI) lvN)))), (.exit 0), (lvC 8 (mP cI) lvN)⟩
theorem yOj {α : Type} : yHV.Eq (α := α) [] Tryz.f117 [1, 1, 1, 1, 0, 1, 0] .no (yEK) := fun _ _ _ => by kernel_rfl
abbrev yCw := fw3 117 (caC cdS (caC cI (caC cI caN))) (cdT (caC cI (caC cI caN)))
abbrev yL9 (f1 : yBq.T) (F0 : LF1 yHU yJN (Int × Int × Unit)) (x0 : ByteArray) (x1 : Int) (x2 : Int) : Option (Int × Int × Unit) :=
 bindO (f1 x2) fun r1 =>
 bif decide (r1 < 0) then
 some (0, 2, ())
 else
 bif decide (x1 < 0) then
 some (0, 10, ())
 else
 bif decide ((x0.size : Int) < x1) then
 some (0, 10, ())
 else
 bif decide (w64 ((x0.size : Int) - x1) < x2) then
 some (0, 10, ())
 else
 F0 (x0, x1, 0, w64 (x2 - 1), ()) (fun q2 =>
 bif decide (1099511627776 < q2.1) then
 some (0, 10, ())
 else
 some (q2.1, 0, ()))
theorem yQm (f1 F0) : yCw.Eq [yBq.s f1] (.two .no (.two .no (.two .no (.two .no (.two (.two .no (.one (.lp (yHV.s F0)))) .no))))) (yL9 f1 F0) := fun _ => by kernel_rfl
def yBr (L : Nat) : yCw.T := yL9 (yC9 L) (loop1 (yEK) L)
theorem yN8 {α : Type} (L : Nat) : LO Tryz.f117 [1, 1, 1, 1, 0, 1, 0] (yHV.s (α := α) (loop1 (yEK) L)) := yHV.k (yOj) tN (lN _) (by kernel_rfl) L
theorem yL8 (L : Nat) : yCw.C (yBr L) := yCw.c (yQm (yC9 L) (loop1 (yEK) L)) (tC (yI8 L).ent tN) Tryz.func117 (by kernel_rfl) (lS (lN _) (lS (lN _) (lS (lN _) (lS (lN _) (lS (lS (lN _) (lB (lL (yN8 L)))) (lN _))))))
abbrev yHb := ByteArray × Int × (List (List V)) × Int × Unit
abbrev yJQ := (List (List V)) × Unit
abbrev yJR := (List (List V)) × Int × Unit
abbrev yI7 {α : Type} (f1 : yCw.T) (s : yHb) (kn : yHb → Option α) (k0 : yJQ → Option α) (k1 : yJR → Option α) : Option α :=
 bif decide (s.2.2.2.1 < (s.1.size : Int)) then
 bindO (f1 s.1 s.2.2.2.1 s.2.1) fun r1 =>
 bif r1.2.1 != 0 then
 k1 ([], r1.2.1, ())
 else
 gd (Nat.beq (0 + s.2.2.1.length) s.2.2.1.length) <|
 gM (s.2.2.1.length + 1) 8 <|
 gA (s.2.2.1 ++ ([[V.int .i64 r1.1]])) (s.2.2.1.length + 1) <|
 kn (s.1, s.2.1, s.2.2.1 ++ ([[V.int .i64 r1.1]]), w64 (s.2.2.2.1 + s.2.1), ())
 else
 gA s.2.2.1 s.2.2.1.length <|
 k0 (s.2.2.1, ())
abbrev yHc : LW2 yHb yJQ yJR := ⟨(lvC 0 (mP cdS) (lvC 1 (mP cI) (lvC 6 (mA 1) (lvC 7 (mP cI) lvN)))), (.exit 0), (lvC 6 (mA 1) lvN), .ret, (lvC 4 (mP cdR) (lvC 5 (mP cI) lvN))⟩
theorem yOm {α : Type} (f1) : yHc.Eq (α := α) [yCw.s f1] Tryz.f93 [1, 1, 1, 0, 1, 0] .no (yI7 f1) := fun _ _ _ => by kernel_rfl
abbrev yGl := fw2 93 (caC cdS (caC cI caN)) (cdT (caC cdR (caC cI caN)))
abbrev yOD (f1 : yBq.T) (F0 : LF2 yHb yJQ yJR ((List (List V)) × Int × Unit)) (x0 : ByteArray) (x1 : Int) : Option ((List (List V)) × Int × Unit) :=
 bindO (f1 x1) fun r1 =>
 bif decide (r1 < 0) then
 some ([], 2, ())
 else
 F0 (x0, x1, [], 0, ()) (fun q2 =>
 gF q2.1 (0 + q2.1.length) <|
 some (q2.1.take q2.1.length, 0, ())) (fun q3 =>
 some (q3.1, q3.2.1, ()))
theorem yQp (f1 F0) : yGl.Eq [yBq.s f1] (.two .no (.two .no (.two .no (.two (.two .no (.one (.lp (yHc.s F0)))) .no)))) (yOD f1 F0) := fun _ => by kernel_rfl
def yOB (L : Nat) : yGl.T := yOD (yC9 L) (loop2 (yI7 (yBr L)) L)
theorem yOC {α : Type} (L : Nat) : LO Tryz.f93 [1, 1, 1, 0, 1, 0] (yHc.s (α := α) (loop2 (yI7 (yBr L)) L)) := yHc.k (yOm (yBr L)) (tC (yL8 L).ent tN) (lN _) (by kernel_rfl) L
theorem yQo (L : Nat) : yGl.C (yOB L) := yGl.c (yQp (yC9 L) (loop2 (yI7 (yBr L)) L)) (tC (yI8 L).ent tN) Tryz.func93 (by kernel_rfl) (lS (lN _) (lS (lN _) (lS (lN _) (lS (lS (lN _) (lB (lL (yOC L)))) (lN _)))))
end Go.Proofs.YtakljpcmbpaeaaaGreat

namespace Go.Proofs.YtakljpcmbpaeaaaGreat
open Go.RowKit
set_option maxRecDepth 100000
set_option maxHeartbeats 16000000

abbrev yF0 := fw1 45 (caC cdS caN) (cdT (caC yKz (caC cI caN)))
abbrev yLT (f1 : yCw.T) (f2 : yCq.T) (f3 : yGl.T) (x0 : ByteArray) : Option (yAF × Int × Unit) :=
 bif decide ((x0.size : Int) < 11) then
 some (yAF.z, 100, ())
 else
 bindO (f1 x0 1 6) fun r1 =>
 bindO (f1 x0 7 4) fun r2 =>
 bif r1.2.1 != 0 then
 some (yAF.z, 100, ())
 else
 bif r2.2.1 != 0 then
 some (yAF.z, 100, ())
 else
 gd (decide (0 < (x0.size : Int))) <|
 bif decide (127 < (((x0[0]?).getD 0).toNat : Int)) then
 some (yAF.z, 100, ())
 else
 gd (decide (0 < (x0.size : Int))) <|
 gd (decide (11 ≤ (x0.size : Int))) <|
 bif (IntKind.i8.wrap (((x0[0]?).getD 0).toNat : Int)) == 2 then
 bif decide (((x0.extract 11 x0.size).size : Int) < 2) then
 some (yAF.z, 100, ())
 else
 gd (decide (0 < ((x0.extract 11 x0.size).size : Int))) <|
 gd (decide (1 < ((x0.extract 11 x0.size).size : Int))) <|
 bif (IntKind.i8.wrap (((x0[0]?).getD 0).toNat : Int)) == 2 then
 bif ((x0.extract 11 x0.size).size : Int) == 3 then
 gd (decide (2 < ((x0.extract 11 x0.size).size : Int))) <|
 bindO (f2 (⟨IntKind.i8.wrap (((x0[0]?).getD 0).toNat : Int), r1.1, r2.1, 0, 0, (⟨w64 ((((x0.extract 11 x0.size)[0]?).getD 0).toNat : Int), w64 ((((x0.extract 11 x0.size)[1]?).getD 0).toNat : Int)⟩ : yAY), IntKind.i8.wrap (IntKind.u8.wrap ((BitVec.ofInt IntKind.u8.bits ((((x0.extract 11 x0.size)[2]?).getD 0).toNat : Int) &&& BitVec.ofInt IntKind.u8.bits 127).toNat : Int))⟩ : yAF)) fun r3 =>
 bif r3.2.1 != 0 then
 some (yAF.z, 100, ())
 else
 bif !(r3.1.toList == x0.toList) then
 some (yAF.z, 100, ())
 else
 some ((⟨IntKind.i8.wrap (((x0[0]?).getD 0).toNat : Int), r1.1, r2.1, 0, 0, (⟨w64 ((((x0.extract 11 x0.size)[0]?).getD 0).toNat : Int), w64 ((((x0.extract 11 x0.size)[1]?).getD 0).toNat : Int)⟩ : yAY), IntKind.i8.wrap (IntKind.u8.wrap ((BitVec.ofInt IntKind.u8.bits ((((x0.extract 11 x0.size)[2]?).getD 0).toNat : Int) &&& BitVec.ofInt IntKind.u8.bits 127).toNat : Int))⟩ : yAF), 0, ())
 else
 bindO (f2 (⟨IntKind.i8.wrap (((x0[0]?).getD 0).toNat : Int), r1.1, r2.1, 0, 0, (⟨w64 ((((x0.extract 11 x0.size)[0]?).getD 0).toNat : Int), w64 ((((x0.extract 11 x0.size)[1]?).getD 0).toNat : Int)⟩ : yAY), 0⟩ : yAF)) fun r4 =>
 bif r4.2.1 != 0 then
 some (yAF.z, 100, ())
 else
 bif !(r4.1.toList == x0.toList) then
 some (yAF.z, 100, ())
 else
 some ((⟨IntKind.i8.wrap (((x0[0]?).getD 0).toNat : Int), r1.1, r2.1, 0, 0, (⟨w64 ((((x0.extract 11 x0.size)[0]?).getD 0).toNat : Int), w64 ((((x0.extract 11 x0.size)[1]?).getD 0).toNat : Int)⟩ : yAY), 0⟩ : yAF), 0, ())
 else
 bindO (f2 (⟨IntKind.i8.wrap (((x0[0]?).getD 0).toNat : Int), r1.1, r2.1, 0, 0, (⟨w64 ((((x0.extract 11 x0.size)[0]?).getD 0).toNat : Int), w64 ((((x0.extract 11 x0.size)[1]?).getD 0).toNat : Int)⟩ : yAY), 0⟩ : yAF)) fun r5 =>
 bif r5.2.1 != 0 then
 some (yAF.z, 100, ())
 else
 bif !(r5.1.toList == x0.toList) then
 some (yAF.z, 100, ())
 else
 some ((⟨IntKind.i8.wrap (((x0[0]?).getD 0).toNat : Int), r1.1, r2.1, 0, 0, (⟨w64 ((((x0.extract 11 x0.size)[0]?).getD 0).toNat : Int), w64 ((((x0.extract 11 x0.size)[1]?).getD 0).toNat : Int)⟩ : yAY), 0⟩ : yAF), 0, ())
 else
 bif (IntKind.i8.wrap (((x0[0]?).getD 0).toNat : Int)) == 3 then
 bif decide (((x0.extract 11 x0.size).size : Int) < 2) then
 some (yAF.z, 100, ())
 else
 gd (decide (0 < ((x0.extract 11 x0.size).size : Int))) <|
 gd (decide (1 < ((x0.extract 11 x0.size).size : Int))) <|
 bif (IntKind.i8.wrap (((x0[0]?).getD 0).toNat : Int)) == 2 then
 bif ((x0.extract 11 x0.size).size : Int) == 3 then
 gd (decide (2 < ((x0.extract 11 x0.size).size : Int))) <|
 bindO (f2 (⟨IntKind.i8.wrap (((x0[0]?).getD 0).toNat : Int), r1.1, r2.1, 0, 0, (⟨w64 ((((x0.extract 11 x0.size)[0]?).getD 0).toNat : Int), w64 ((((x0.extract 11 x0.size)[1]?).getD 0).toNat : Int)⟩ : yAY), IntKind.i8.wrap (IntKind.u8.wrap ((BitVec.ofInt IntKind.u8.bits ((((x0.extract 11 x0.size)[2]?).getD 0).toNat : Int) &&& BitVec.ofInt IntKind.u8.bits 127).toNat : Int))⟩ : yAF)) fun r6 =>
 bif r6.2.1 != 0 then
 some (yAF.z, 100, ())
 else
 bif !(r6.1.toList == x0.toList) then
 some (yAF.z, 100, ())
 else
 some ((⟨IntKind.i8.wrap (((x0[0]?).getD 0).toNat : Int), r1.1, r2.1, 0, 0, (⟨w64 ((((x0.extract 11 x0.size)[0]?).getD 0).toNat : Int), w64 ((((x0.extract 11 x0.size)[1]?).getD 0).toNat : Int)⟩ : yAY), IntKind.i8.wrap (IntKind.u8.wrap ((BitVec.ofInt IntKind.u8.bits ((((x0.extract 11 x0.size)[2]?).getD 0).toNat : Int) &&& BitVec.ofInt IntKind.u8.bits 127).toNat : Int))⟩ : yAF), 0, ())
 else
 bindO (f2 (⟨IntKind.i8.wrap (((x0[0]?).getD 0).toNat : Int), r1.1, r2.1, 0, 0, (⟨w64 ((((x0.extract 11 x0.size)[0]?).getD 0).toNat : Int), w64 ((((x0.extract 11 x0.size)[1]?).getD 0).toNat : Int)⟩ : yAY), 0⟩ : yAF)) fun r7 =>
 bif r7.2.1 != 0 then
 some (yAF.z, 100, ())
 else
 bif !(r7.1.toList == x0.toList) then
 some (yAF.z, 100, ())
 else
 some ((⟨IntKind.i8.wrap (((x0[0]?).getD 0).toNat : Int), r1.1, r2.1, 0, 0, (⟨w64 ((((x0.extract 11 x0.size)[0]?).getD 0).toNat : Int), w64 ((((x0.extract 11 x0.size)[1]?).getD 0).toNat : Int)⟩ : yAY), 0⟩ : yAF), 0, ())
 else
 bindO (f2 (⟨IntKind.i8.wrap (((x0[0]?).getD 0).toNat : Int), r1.1, r2.1, 0, 0, (⟨w64 ((((x0.extract 11 x0.size)[0]?).getD 0).toNat : Int), w64 ((((x0.extract 11 x0.size)[1]?).getD 0).toNat : Int)⟩ : yAY), 0⟩ : yAF)) fun r8 =>
 bif r8.2.1 != 0 then
 some (yAF.z, 100, ())
 else
 bif !(r8.1.toList == x0.toList) then
 some (yAF.z, 100, ())
 else
 some ((⟨IntKind.i8.wrap (((x0[0]?).getD 0).toNat : Int), r1.1, r2.1, 0, 0, (⟨w64 ((((x0.extract 11 x0.size)[0]?).getD 0).toNat : Int), w64 ((((x0.extract 11 x0.size)[1]?).getD 0).toNat : Int)⟩ : yAY), 0⟩ : yAF), 0, ())
 else
 bif (IntKind.i8.wrap (((x0[0]?).getD 0).toNat : Int)) == 4 then
 bindO (f3 (x0.extract 11 x0.size) 6) fun r9 =>
 bif r9.2.1 != 0 then
 some (yAF.z, 100, ())
 else
 bif decide ((r9.1.length : Int) < 1) then
 some (yAF.z, 100, ())
 else
 gd (decide (0 < (r9.1.length : Int))) <|
 gd (rowIs kI r9.1 0) <|
 bif (IntKind.i8.wrap (((x0[0]?).getD 0).toNat : Int)) == 4 then
 bif (r9.1.length : Int) == 2 then
 gd (decide (1 < (r9.1.length : Int))) <|
 gd (rowIs kI r9.1 1) <|
 bindO (f2 (⟨IntKind.i8.wrap (((x0[0]?).getD 0).toNat : Int), r1.1, r2.1, aI r9.1 0 0, aI r9.1 1 0, yAY.z, 0⟩ : yAF)) fun r10 =>
 bif r10.2.1 != 0 then
 some (yAF.z, 100, ())
 else
 bif !(r10.1.toList == x0.toList) then
 some (yAF.z, 100, ())
 else
 some ((⟨IntKind.i8.wrap (((x0[0]?).getD 0).toNat : Int), r1.1, r2.1, aI r9.1 0 0, aI r9.1 1 0, yAY.z, 0⟩ : yAF), 0, ())
 else
 bindO (f2 (⟨IntKind.i8.wrap (((x0[0]?).getD 0).toNat : Int), r1.1, r2.1, aI r9.1 0 0, 0, yAY.z, 0⟩ : yAF)) fun r11 =>
 bif r11.2.1 != 0 then
 some (yAF.z, 100, ())
 else
 bif !(r11.1.toList == x0.toList) then
 some (yAF.z, 100, ())
 else
 some ((⟨IntKind.i8.wrap (((x0[0]?).getD 0).toNat : Int), r1.1, r2.1, aI r9.1 0 0, 0, yAY.z, 0⟩ : yAF), 0, ())
 else
 bindO (f2 (⟨IntKind.i8.wrap (((x0[0]?).getD 0).toNat : Int), r1.1, r2.1, aI r9.1 0 0, 0, yAY.z, 0⟩ : yAF)) fun r12 =>
 bif r12.2.1 != 0 then
 some (yAF.z, 100, ())
 else
 bif !(r12.1.toList == x0.toList) then
 some (yAF.z, 100, ())
 else
 some ((⟨IntKind.i8.wrap (((x0[0]?).getD 0).toNat : Int), r1.1, r2.1, aI r9.1 0 0, 0, yAY.z, 0⟩ : yAF), 0, ())
 else
 bif (IntKind.i8.wrap (((x0[0]?).getD 0).toNat : Int)) == 5 then
 bindO (f3 (x0.extract 11 x0.size) 6) fun r13 =>
 bif r13.2.1 != 0 then
 some (yAF.z, 100, ())
 else
 bif decide ((r13.1.length : Int) < 1) then
 some (yAF.z, 100, ())
 else
 gd (decide (0 < (r13.1.length : Int))) <|
 gd (rowIs kI r13.1 0) <|
 bif (IntKind.i8.wrap (((x0[0]?).getD 0).toNat : Int)) == 4 then
 bif (r13.1.length : Int) == 2 then
 gd (decide (1 < (r13.1.length : Int))) <|
 gd (rowIs kI r13.1 1) <|
 bindO (f2 (⟨IntKind.i8.wrap (((x0[0]?).getD 0).toNat : Int), r1.1, r2.1, aI r13.1 0 0, aI r13.1 1 0, yAY.z, 0⟩ : yAF)) fun r14 =>
 bif r14.2.1 != 0 then
 some (yAF.z, 100, ())
 else
 bif !(r14.1.toList == x0.toList) then
 some (yAF.z, 100, ())
 else
 some ((⟨IntKind.i8.wrap (((x0[0]?).getD 0).toNat : Int), r1.1, r2.1, aI r13.1 0 0, aI r13.1 1 0, yAY.z, 0⟩ : yAF), 0, ())
 else
 bindO (f2 (⟨IntKind.i8.wrap (((x0[0]?).getD 0).toNat : Int), r1.1, r2.1, aI r13.1 0 0, 0, yAY.z, 0⟩ : yAF)) fun r15 =>
 bif r15.2.1 != 0 then
 some (yAF.z, 100, ())
 else
 bif !(r15.1.toList == x0.toList) then
 some (yAF.z, 100, ())
 else
 some ((⟨IntKind.i8.wrap (((x0[0]?).getD 0).toNat : Int), r1.1, r2.1, aI r13.1 0 0, 0, yAY.z, 0⟩ : yAF), 0, ())
 else
 bindO (f2 (⟨IntKind.i8.wrap (((x0[0]?).getD 0).toNat : Int), r1.1, r2.1, aI r13.1 0 0, 0, yAY.z, 0⟩ : yAF)) fun r16 =>
 bif r16.2.1 != 0 then
 some (yAF.z, 100, ())
 else
 bif !(r16.1.toList == x0.toList) then
 some (yAF.z, 100, ())
 else
 some ((⟨IntKind.i8.wrap (((x0[0]?).getD 0).toNat : Int), r1.1, r2.1, aI r13.1 0 0, 0, yAY.z, 0⟩ : yAF), 0, ())
 else
 bindO (f2 (⟨IntKind.i8.wrap (((x0[0]?).getD 0).toNat : Int), r1.1, r2.1, 0, 0, yAY.z, 0⟩ : yAF)) fun r17 =>
 bif r17.2.1 != 0 then
 some (yAF.z, 100, ())
 else
 bif !(r17.1.toList == x0.toList) then
 some (yAF.z, 100, ())
 else
 some ((⟨IntKind.i8.wrap (((x0[0]?).getD 0).toNat : Int), r1.1, r2.1, 0, 0, yAY.z, 0⟩ : yAF), 0, ())
theorem yQW (f1 f2 f3) : yF0.Eq [yCw.s f1, yCq.s f2, yGl.s f3] .no (yLT f1 f2 f3) := fun _ => by kernel_rfl
def yFz (L : Nat) : yF0.T := yLT (yBr L) (yEP L) (yOB L)
theorem yQV (L : Nat) : yF0.C (yFz L) := yF0.c (yQW (yBr L) (yEP L) (yOB L)) (tC (yL8 L).ent (tC (yMt L).ent (tC (yQo L).ent tN))) Tryz.func45 (by kernel_rfl) (lN _)
abbrev yFu := fw1 216 (caC cdS caN) (cdT (caC (cdI .i8) (caC cdS (caC cI caN))))
abbrev yLJ (f1 : yDO.T) (x0 : ByteArray) : Option (Int × ByteArray × Int × Unit) :=
 bif decide ((x0.size : Int) < 7) then
 some (0, noS, 30, ())
 else
 bif decide (512 < (x0.size : Int)) then
 some (0, noS, 30, ())
 else
 gd (decide (0 < (x0.size : Int))) <|
 bif decide ((((x0[0]?).getD 0).toNat : Int) < 1) then
 some (0, noS, 30, ())
 else
 gd (decide (0 < (x0.size : Int))) <|
 bif decide (127 < (((x0[0]?).getD 0).toNat : Int)) then
 some (0, noS, 30, ())
 else
 gd (decide (0 < (x0.size : Int))) <|
 gd (decide (0 ≤ w64 ((x0.size : Int) - 4))) <|
 gd (decide (w64 ((x0.size : Int) - 4) ≤ (x0.size : Int))) <|
 gd (decide (3 ≤ ((w64 ((x0.size : Int) - 4)).toNat : Int))) <|
 bindO (f1 (IntKind.i8.wrap (((x0[0]?).getD 0).toNat : Int)) (x0.extract 3 ((w64 ((x0.size : Int) - 4)).toNat))) fun r1 =>
 bif r1.2.1 != 0 then
 some (0, noS, 30, ())
 else
 bif !(r1.1.toList == x0.toList) then
 some (0, noS, 30, ())
 else
 some (IntKind.i8.wrap (((x0[0]?).getD 0).toNat : Int), x0.extract 3 ((w64 ((x0.size : Int) - 4)).toNat), 0, ())
theorem yQL (f1) : yFu.Eq [yDO.s f1] .no (yLJ f1) := fun _ => by kernel_rfl
def yJl (L : Nat) : yFu.T := yLJ (yGr L)
theorem yQK (L : Nat) : yFu.C (yJl L) := yFu.c (yQL (yGr L)) (tC (yNL L).ent tN) Tryz.func216 (by kernel_rfl) (lN _)
end Go.Proofs.YtakljpcmbpaeaaaGreat

namespace Go.Proofs.YtakljpcmbpaeaaaGreat
open Go.RowKit
set_option maxRecDepth 100000
set_option maxHeartbeats 16000000

abbrev yFt := fw2 163 (caC (cdI .i8) (caC cdS caN)) (cdT (caC cdS (caC cI caN)))
abbrev yM2 (f1 : yFu.T) (x0 : Int) (x1 : ByteArray) : Option (ByteArray × Int × Unit) :=
 bindO (f1 x1) fun r1 =>
 bif r1.2.2.1 != 0 then
 some (noS, 30, ())
 else
 bif r1.1 != x0 then
 some (noS, 30, ())
 else
 some (r1.2.1, 0, ())
theorem yRM (f1) : yFt.Eq [yFu.s f1] .no (yM2 f1) := fun _ => by kernel_rfl
def yI9 (L : Nat) : yFt.T := yM2 (yJl L)
theorem yPD (L : Nat) : yFt.C (yI9 L) := yFt.c (yRM (yJl L)) (tC (yQK L).ent tN) Tryz.func163 (by kernel_rfl) (lN _)
abbrev yF1 := fw1 178 (caC cdS caN) (cdT (caC yKz (caC cdS (caC cdB (caC cI caN)))))
abbrev yJA (f1 : yFt.T) (f2 : yF0.T) (x0 : ByteArray) : Option (yAF × ByteArray × Bool × Int × Unit) :=
 bif x0.toList == noS.toList then
 some (yAF.z, noS, false, 0, ())
 else
 bindO (f1 5 x0) fun r1 =>
 bif r1.2.1 != 0 then
 some (yAF.z, noS, false, 50, ())
 else
 bindO (f2 r1.1) fun r2 =>
 bif r2.2.1 != 0 then
 some (yAF.z, noS, false, 50, ())
 else
 some (r2.1, r1.1, true, 0, ())
theorem yQY (f1 f2) : yF1.Eq [yFt.s f1, yF0.s f2] .no (yJA f1 f2) := fun _ => by kernel_rfl
def yDo (L : Nat) : yF1.T := yJA (yI9 L) (yFz L)
theorem yQX (L : Nat) : yF1.C (yDo L) := yF1.c (yQY (yI9 L) (yFz L)) (tC (yPD L).ent (tC (yQV L).ent tN)) Tryz.func178 (by kernel_rfl) (lN _)
abbrev yHj := (List (List V)) × (List (List V)) × Int × Unit
abbrev yJX := (List (List V)) × Unit
abbrev yJY := (List (List V)) × Int × Unit
abbrev yDQ {α : Type} (f1 : yF1.T) (s : yHj) (kn : yHj → Option α) (k0 : yJX → Option α) (k1 : yJY → Option α) : Option α :=
 bif decide (s.2.2.1 < (s.1.length : Int)) then
 gI s.1 kS s.2.2.1 <|
 bindO (f1 (aS s.1 s.2.2.1.toNat 0)) fun r1 =>
 bif r1.2.2.2.1 != 0 then
 k1 ([], r1.2.2.2.1, ())
 else
 bif !r1.2.2.1 then
 gF s.2.1 (0 + s.2.1.length) <|
 k1 (s.2.1.take s.2.1.length, 0, ())
 else
 gd (Nat.beq (0 + s.2.1.length) s.2.1.length) <|
 gM (s.2.1.length + 1) 64 <|
 gA (s.2.1 ++ ([[V.int .i8 r1.1.Kind, V.int .i64 r1.1.By, V.int .i64 r1.1.Serial, V.int .i64 r1.1.Dead, V.int .i64 r1.1.Was, V.int .i64 r1.1.Span.Lo, V.int .i64 r1.1.Span.Hi, V.int .i8 r1.1.Mode]])) (s.2.1.length + 1) <|
 kn (s.1, s.2.1 ++ ([[V.int .i8 r1.1.Kind, V.int .i64 r1.1.By, V.int .i64 r1.1.Serial, V.int .i64 r1.1.Dead, V.int .i64 r1.1.Was, V.int .i64 r1.1.Span.Lo, V.int .i64 r1.1.Span.Hi, V.int .i8 r1.1.Mode]]), w64 (s.2.2.1 + 1), ())
 else
 gA s.2.1 s.2.1.length <|
 k0 (s.2.1, ())
abbrev yHk : LW2 yHj yJX yJY := ⟨(lvC 0 (mP cdR) (lvC 4 (mA 8) (lvC 5 (mP cI) lvN))), (.exit 0), (lvC 4 (mA 8) lvN), .ret, (lvC 2 (mP cdR) (lvC 3 (mP cI) lvN))⟩
theorem yO9 {α : Type} (f1) : yHk.Eq (α := α) [yF1.s f1] Tryz.f116 [1, 1, 0, 1, 0] .no (yDQ f1) := fun _ _ _ => by kernel_rfl
abbrev yHD := fw1 116 (caC cdR caN) (cdT (caC cdR (caC cI caN)))
abbrev yMM (F0 : LF2 yHj yJX yJY ((List (List V)) × Int × Unit)) (x0 : List (List V)) : Option ((List (List V)) × Int × Unit) :=
 F0 (x0, [], 0, ()) (fun q1 =>
 gF q1.1 (0 + q1.1.length) <|
 some (q1.1.take q1.1.length, 0, ())) (fun q2 =>
 some (q2.1, q2.2.1, ()))
theorem yQ9 (F0) : yHD.Eq [] (.two .no (.two .no (.two (.two .no (.one (.lp (yHk.s F0)))) .no))) (yMM F0) := fun _ => by kernel_rfl
def yLV (L : Nat) : yHD.T := yMM (loop2 (yDQ (yDo L)) L)
theorem yON {α : Type} (L : Nat) : LO Tryz.f116 [1, 1, 0, 1, 0] (yHk.s (α := α) (loop2 (yDQ (yDo L)) L)) := yHk.k (yO9 (yDo L)) (tC (yQX L).ent tN) (lN _) (by kernel_rfl) L
theorem yQ8 (L : Nat) : yHD.C (yLV L) := yHD.c (yQ9 (loop2 (yDQ (yDo L)) L)) tN Tryz.func116 (by kernel_rfl) (lS (lN _) (lS (lN _) (lS (lS (lN _) (lB (lL (yON L)))) (lN _))))
abbrev yHC := fw2 44 (caC yCa (caC yB9 caN)) (cdT (caC cdR (caC cI caN)))
abbrev yML (f1 : yAv.T) (f2 : yBx.T) (f3 : yBS.T) (f4 : yGs.T) (f5 : yHD.T) (x0 : yAW) (x1 : yAA) : Option ((List (List V)) × Int × Unit) :=
 bindO (f1 x0) fun r1 =>
 bif !r1 then
 some ([], 2, ())
 else
 bindO (f2 x1) fun r2 =>
 bif r2 != 0 then
 some ([], 2, ())
 else
 bindO (f3 x0) fun r3 =>
 bif (x1.S.length : Int) != r3 then
 some ([], 2, ())
 else
 bindO (f4 x0 0) fun r4 =>
 gd (decide (0 ≤ w64 (r4 + x0.Log))) <|
 gd (decide (w64 (r4 + x0.Log) ≤ (x1.S.length : Int))) <|
 gd (decide (0 ≤ r4)) <|
 gd (decide (r4 ≤ ((w64 (r4 + x0.Log)).toNat : Int))) <|
 gd (x1.S.all fun r => Nat.beq r.length 1) <|
 bindO (f5 ((x1.S.drop r4.toNat).take (((w64 (r4 + x0.Log)).toNat) - r4.toNat))) fun r5 =>
 some (r5.1, r5.2.1, ())
theorem yQ7 (f1 f2 f3 f4 f5) : yHC.Eq [yAv.s f1, yBx.s f2, yBS.s f3, yGs.s f4, yHD.s f5] .no (yML f1 f2 f3 f4 f5) := fun _ => by kernel_rfl
def yLU (L : Nat) : yHC.T := yML (yBa L) (yBh L) (yBg L) (yJm L) (yLV L)
theorem yQ6 (L : Nat) : yHC.C (yLU L) := yHC.c (yQ7 (yBa L) (yBh L) (yBg L) (yJm L) (yLV L)) (tC (yEN L).ent (tC (yKF L).ent (tC (yIM L).ent (tC (yQu L).ent (tC (yQ8 L).ent tN))))) Tryz.func44 (by kernel_rfl) (lN _)
abbrev yEd := (List (List V)) × ByteArray × (List (List V)) × Int × Int × Unit
abbrev yGo := ByteArray × (List (List V)) × Int × Unit
abbrev yGp := (List (List V)) × ByteArray × Int × Unit
abbrev yB2 {α : Type} (f1 : yCw.T) (s : yEd) (kn : yEd → Option α) (k0 : yGo → Option α) (k1 : yGp → Option α) : Option α :=
 bif decide (s.2.2.2.2.1 < (s.1.length : Int)) then
 gI s.1 kI s.2.2.2.2.1 <|
 bindO (f1 s.2.1 s.2.2.2.1 (aI s.1 s.2.2.2.2.1.toNat 0)) fun r1 =>
 bif r1.2.1 != 0 then
 k1 ([], noS, 30, ())
 else
 gd (Nat.beq (0 + s.2.2.1.length) s.2.2.1.length) <|
 gM (s.2.2.1.length + 1) 8 <|
 gI s.1 kI s.2.2.2.2.1 <|
 gW (s.2.2.1 ++ ([[V.int .i64 r1.1]])) (s.2.2.1.length + 1) <|
 kn (s.1, s.2.1, s.2.2.1 ++ ([[V.int .i64 r1.1]]), w64 (s.2.2.2.1 + (aI s.1 s.2.2.2.2.1.toNat 0)), w64 (s.2.2.2.2.1 + 1), ())
 else
 gW s.2.2.1 s.2.2.1.length <|
 k0 (s.2.1, s.2.2.1, s.2.2.2.1, ())
abbrev yEe : LW2 yEd yGo yGp := ⟨(lvC 2 (mP cdR) (lvC 9 (mP cdS) (lvC 11 (mW 1) (lvC 12 (mP cI) (lvC 13 (mP cI) lvN))))), (.exit 0), (lvC 9 (mP cdS) (lvC 11 (mW 1) (lvC 12 (mP cI) lvN))), .ret, (lvC 6 (mW 1) (lvC 7 (mP cdS) (lvC 8 (mP cI) lvN)))⟩
theorem yM1 {α : Type} (f1) : yEe.Eq (α := α) [yCw.s f1] Tryz.f103 [1, 1, 1, 1, 1, 0, 1, 0] .no (yB2 f1) := fun _ _ _ => by kernel_rfl
abbrev yDj := rw3 103 .t (caC (cdI .i8) (caC cdS (caC cdR caN))) (zW 1 (zP cdS (zP cI zN)))
abbrev yJT (f1 : yFt.T) (F0 : LF2 yEd yGo yGp ((List (List V)) × ByteArray × Int × Unit)) (x0 : Int) (x1 : ByteArray) (x2 : List (List V)) : Option ((List (List V)) × ByteArray × Int × Unit) :=
 bindO (f1 x0 x1) fun r1 =>
 bif r1.2.1 != 0 then
 some ([], noS, r1.2.1, ())
 else
 F0 (x2, r1.1, [], 0, 0, ()) (fun q2 =>
 gd (decide (0 ≤ q2.2.2.1)) <|
 gd (decide (q2.2.2.1 ≤ (q2.1.size : Int))) <|
 gW q2.2.1 q2.2.1.length <|
 some (q2.2.1, q2.1.extract q2.2.2.1.toNat q2.1.size, 0, ())) (fun q3 =>
 gW q3.1 q3.1.length <|
 some (q3.1, q3.2.1, q3.2.2.1, ()))
theorem yOp (f1 F0) : yDj.Eq [yFt.s f1] (.two .no (.two .no (.two .no (.two .no (.two .no (.two (.two .no (.one (.lp (yEe.s F0)))) .no)))))) (yJT f1 F0) := fun _ => by kernel_rfl
def yFs (L : Nat) : yDj.T := yJT (yI9 L) (loop2 (yB2 (yBr L)) L)
theorem yMk {α : Type} (L : Nat) : LO Tryz.f103 [1, 1, 1, 1, 1, 0, 1, 0] (yEe.s (α := α) (loop2 (yB2 (yBr L)) L)) := yEe.k (yM1 (yBr L)) (tC (yL8 L).ent tN) (lN _) (by kernel_rfl) L
theorem yOo (L : Nat) : yDj.C (yFs L) := yDj.c (yOp (yI9 L) (loop2 (yB2 (yBr L)) L)) (tC (yPD L).ent tN) Tryz.func103 (by kernel_rfl) (lS (lN _) (lS (lN _) (lS (lN _) (lS (lN _) (lS (lN _) (lS (lS (lN _) (lB (lL (yMk L)))) (lN _)))))))
abbrev yG9 := fw1 120 (caC yNo caN) cdB
abbrev yMH (x0 : yAN) : Option Bool :=
 bif decide (x0.Inst < 0) then
 some false
 else
 bif decide (512 < x0.Inst) then
 some false
 else
 bif decide (x0.Mbal < 0) then
 some false
 else
 bif decide (1099511627776 < x0.Mbal) then
 some false
 else
 bif decide (x0.Bal < 0) then
 some false
 else
 bif decide (x0.Mbal < x0.Bal) then
 some false
 else
 bif decide (64 < (x0.Val.size : Int)) then
 some false
 else
 some ((decide (0 < x0.Bal)) == (!(x0.Val.toList == noS.toList)))
theorem yQ0 : yG9.Eq [] .no (yMH) := fun _ => by kernel_rfl
def yJp (L : Nat) : yG9.T := yMH
theorem yQz (L : Nat) : yG9.C (yJp L) := yG9.c (yQ0) tN Tryz.func120 (by kernel_rfl) (lN _)
abbrev yFy := fw1 50 (caC cdS caN) (cdT (caC yNo (caC cI caN)))
abbrev yLQ (f1 : yDj.T) (f2 : yG9.T) (x0 : ByteArray) : Option (yAN × Int × Unit) :=
 bif x0.toList == noS.toList then
 some (yAN.z, 0, ())
 else
 bindO (f1 4 x0 ([[V.int .i64 2], [V.int .i64 6], [V.int .i64 6]])) fun r1 =>
 bif r1.2.2.1 != 0 then
 some (yAN.z, 50, ())
 else
 gd (decide (0 < (r1.1.length : Int))) <|
 gL r1.1 kI 0 0 <|
 gd (decide (1 < (r1.1.length : Int))) <|
 gL r1.1 kI 1 0 <|
 gd (decide (2 < (r1.1.length : Int))) <|
 gL r1.1 kI 2 0 <|
 bindO (f2 (⟨aI r1.1 0 0, aI r1.1 1 0, aI r1.1 2 0, r1.2.1⟩ : yAN)) fun r2 =>
 bif !r2 then
 some (yAN.z, 50, ())
 else
 some ((⟨aI r1.1 0 0, aI r1.1 1 0, aI r1.1 2 0, r1.2.1⟩ : yAN), 0, ())
theorem yQU (f1 f2) : yFy.Eq [yDj.s f1, yG9.s f2] .no (yLQ f1 f2) := fun _ => by kernel_rfl
def yJq (L : Nat) : yFy.T := yLQ (yFs L) (yJp L)
theorem yQT (L : Nat) : yFy.C (yJq L) := yFy.c (yQU (yFs L) (yJp L)) (tC (yOo L).ent (tC (yQz L).ent tN)) Tryz.func50 (by kernel_rfl) (lN _)
abbrev yEg := fw2 51 (caC yCa (caC cI caN)) cI
abbrev yKC (f1 : yAv.T) (f2 : yB4.T) (x0 : yAW) (x1 : Int) : Option Int :=
 bindO (f1 x0) fun r1 =>
 bif !r1 then
 some (-1)
 else
 bindO (f2 x1 0 (w64 (x0.Nodes - 1))) fun r2 =>
 bif !r2 then
 some (-1)
 else
 some (w64 ((w64 (1 + x0.Nodes)) + x1))
theorem yPY (f1 f2) : yEg.Eq [yAv.s f1, yB4.s f2] .no (yKC f1 f2) := fun _ => by kernel_rfl
def yGt (L : Nat) : yEg.T := yKC (yBa L) (yEh L)
theorem yPX (L : Nat) : yEg.C (yGt L) := yEg.c (yPY (yBa L) (yEh L)) (tC (yEN L).ent (tC (yJn L).ent tN)) Tryz.func51 (by kernel_rfl) (lN _)
end Go.Proofs.YtakljpcmbpaeaaaGreat

namespace Go.Proofs.YtakljpcmbpaeaaaGreat
open Go.RowKit

abbrev yD1 := fw3 9 (caC yCa (caC cI (caC cI caN))) cdB
abbrev yGC (f1 : yGh.T) (f2 : yEc.T) (f3 : yDL.T) (f4 : yCl.T) (f5 : yCn.T) (f6 : yEQ.T) (f7 : yEH.T) (f8 : yBS.T) (f9 : yEg.T) (f10 : yFy.T) (f11 : yHC.T) (x0 : yAW) (x1 : Int) (x2 : Int) : Option Bool :=
 bindO (f1 x0) fun r1 =>
 bif !r1 then
 bindO (f2) fun r2 =>
 some r2
 else
 bif decide (x0.Nodes < 2) then
 bindO (f2) fun r3 =>
 some r3
 else
 bindO (f3 x0) fun r4 =>
 bif !r4.2.1 then
 some false
 else
 gd (!(decide (x0.Nodes = 0))) <|
 gd (!(decide (x0.Nodes = 0))) <|
 gd (!(decide (x0.Nodes = 0))) <|
 gd (!(decide (x0.Nodes = 0))) <|
 bif ((w64 ((x1.tmod x0.Nodes) + x0.Nodes)).tmod x0.Nodes) == ((w64 ((x2.tmod x0.Nodes) + x0.Nodes)).tmod x0.Nodes) then
 bindO (f2) fun r5 =>
 some r5
 else
 bindO (f4 r4.1 ((w64 ((x1.tmod x0.Nodes) + x0.Nodes)).tmod x0.Nodes) 1) fun r6 =>
 bindO (f5 x0 ((w64 ((x1.tmod x0.Nodes) + x0.Nodes)).tmod x0.Nodes) r6) fun r7 =>
 bindO (f6 x0) fun r8 =>
 bif r7.2.1 != 0 then
 some false
 else
 bindO (f7 x0 r4.1 r7.1 r8 0 (w64 ((w64 (4 + x0.Nodes)) - 1))) fun r9 =>
 bindO (f8 x0) fun r10 =>
 bif (r9.1.S.length : Int) != r10 then
 some false
 else
 bif (r9.1.Keys.length : Int) != x0.Nodes then
 some false
 else
 bindO (f9 x0 ((w64 ((x1.tmod x0.Nodes) + x0.Nodes)).tmod x0.Nodes)) fun r11 =>
 gI r9.1.S kS r11 <|
 bindO (f10 (aS r9.1.S r11.toNat 0)) fun r12 =>
 bif r9.2.2.1 != 0 then
 some false
 else
 bif r12.2.1 != 0 then
 some false
 else
 bif r9.2.1.Over then
 some false
 else
 bindO (f4 r9.1 ((w64 ((x1.tmod x0.Nodes) + x0.Nodes)).tmod x0.Nodes) 1) fun r13 =>
 bif !(r12.1.Val.toList == r13.toList) then
 some false
 else
 bif r12.1.Bal != r12.1.Mbal then
 some false
 else
 bindO (f4 r9.1 ((w64 ((x2.tmod x0.Nodes) + x0.Nodes)).tmod x0.Nodes) 1) fun r14 =>
 bindO (f5 x0 ((w64 ((x2.tmod x0.Nodes) + x0.Nodes)).tmod x0.Nodes) r14) fun r15 =>
 bif r15.2.1 != 0 then
 some false
 else
 bindO (f7 x0 r9.1 r15.1 r8 0 (w64 (2 * (w64 ((w64 (4 * x0.Nodes)) + 10))))) fun r16 =>
 bindO (f11 x0 r16.1) fun r17 =>
 bif r16.2.2.1 == 0 then
 bif r17.2.1 == 0 then
 bif r16.2.1.Over then
 bif (r16.1.Keys.length : Int) == x0.Nodes then
 bif (r17.1.length : Int) == 2 then
 gd (decide (0 < (r17.1.length : Int))) <|
 gd (rowIs yAF.ks r17.1 0) <|
 gI r16.1.Keys kI ((w64 ((x1.tmod x0.Nodes) + x0.Nodes)).tmod x0.Nodes) <|
 bif (aI r17.1 0 1) == (aI r16.1.Keys (((w64 ((x1.tmod x0.Nodes) + x0.Nodes)).tmod x0.Nodes).toNat) 0) then
 gd (decide (1 < (r17.1.length : Int))) <|
 gd (rowIs yAF.ks r17.1 1) <|
 gI r16.1.Keys kI ((w64 ((x2.tmod x0.Nodes) + x0.Nodes)).tmod x0.Nodes) <|
 bif (aI r17.1 1 1) == (aI r16.1.Keys (((w64 ((x2.tmod x0.Nodes) + x0.Nodes)).tmod x0.Nodes).toNat) 0) then
 bindO (f2) fun r18 =>
 some r18
 else
 some false
 else
 some false
 else
 some false
 else
 some false
 else
 some false
 else
 some false
 else
 some false
set_option maxRecDepth 100000 in
set_option maxHeartbeats 16000000 in
theorem yMc (f1 f2 f3 f4 f5 f6 f7 f8 f9 f10 f11) : yD1.Eq [yGh.s f1, yEc.s f2, yDL.s f3, yCl.s f4, yCn.s f5, yEQ.s f6, yEH.s f7, yBS.s f8, yEg.s f9, yFy.s f10, yHC.s f11] .no (yGC f1 f2 f3 f4 f5 f6 f7 f8 f9 f10 f11) := fun _ => by kernel_rfl
def yHx (L : Nat) : yD1.T := yGC (yK6 L) (yGj L) (yGi L) (yFV L) (yFW L) (yIx L) (yGG L) (yBg L) (yGt L) (yJq L) (yLU L)
set_option maxRecDepth 100000 in
set_option maxHeartbeats 16000000 in
theorem yMb (L : Nat) : yD1.C (yHx L) := yD1.c (yMc (yK6 L) (yGj L) (yGi L) (yFV L) (yFW L) (yIx L) (yGG L) (yBg L) (yGt L) (yJq L) (yLU L)) (tC (yQj L).ent (tC (yPS L).ent (tC (yNJ L).ent (tC (yMd L).ent (tC (yMg L).ent (tC (yOM L).ent (tC (yN5 L).ent (tC (yIM L).ent (tC (yPX L).ent (tC (yQT L).ent (tC (yQ6 L).ent tN))))))))))) Tryz.func9 (by kernel_rfl) (lN _)
end Go.Proofs.YtakljpcmbpaeaaaGreat



namespace Go.Proofs.YtakljpcmbpaeaaaGreat
open Go.RowKit

theorem may_eq {L : Nat} (n : Int) : yGF L n = some (decide (1 ≤ n ∧ n ≤ 6)) := by
  unfold yGF yIk
  by_cases h1 : 1 ≤ n
  · rw [bif_t (decide_eq_true h1)]
    congr 1
    exact decide_eq_decide.2 ⟨fun h => ⟨h1, h⟩, fun h => h.2⟩
  · rw [bif_f (decide_eq_false h1), decide_eq_false fun h => h1 h.1]
theorem num_Get_eq {L : Nat} (hL : 10 < L) {s : ByteArray} (hs : s.size ≤ 1000000000) (a n : Int) : yBQ L s a n = some ((getS s.data.toList a n).1, (getS s.data.toList a n).2, ()) := by
  unfold yBQ yN1
  rw [may_eq, bindO_s]
  by_cases hn : 1 ≤ n ∧ n ≤ 6
  · rw [decide_eq_true hn, Bool.not_true, cond_false]
    by_cases h0 : a < 0
    · rw [bif_t (decide_eq_true h0), getS_out hn (by omega)]
    rw [bif_f (decide_eq_false h0)]
    by_cases h1 : (s.size : Int) < a
    · rw [bif_t (decide_eq_true h1), getS_out hn (by rw [bytes_length]; omega)]
    rw [bif_f (decide_eq_false h1), w64_t (by omega) (by omega)]
    by_cases h2 : (s.size : Int) - a < n
    · rw [bif_t (decide_eq_true h2), getS_out hn (by rw [bytes_length]; omega)]
    rw [bif_f (decide_eq_false h2)]
    obtain ⟨b, rfl⟩ := Int.eq_ofNat_of_zero_le (show 0 ≤ a by omega)
    obtain ⟨v, rfl⟩ := Int.eq_ofNat_of_zero_le (show 0 ≤ n by omega)
    obtain ⟨q, hq, hrun⟩ := loop1_run (α := Int × Int × Unit) (F := yGk) (fun q => ∃ k : Nat, k ≤ v ∧ q = (s, (b : Int), ((le ((s.data.toList.drop b).take k) : Nat) : Int), (v : Int), (k : Int), ())) (fun q => v - q.2.2.2.2.1.toNat) (fun q => q = (((le ((s.data.toList.drop b).take v) : Nat) : Int), ()))
      (fun q hq => by
        obtain ⟨k, hk, rfl⟩ := hq
        by_cases hlt : k < v
        · have hb : b + k < s.size := by omega
          refine .inl ⟨_, ⟨k + 1, hlt, rfl⟩, by dsimp only; omega, fun kn ka => ?_⟩
          unfold yGk
          dsimp only
          rw [bif_t (decide_eq_true (by omega)), w64_t (by omega) (by omega), gB_t (by omega) (by omega), w64_t (n := 8 * (k : Int)) (by omega) (by omega), gd_t (by rw [decide_eq_false (by omega)]; rfl), show ((b : Int) + k).toNat = b + k by omega, w64_t (n := (k : Int) + 1) (by omega) (by omega)]
          have e := or_byte2 s b k hb (by omega)
          have e2 : (((s[b + k]?).getD 0).toNat : Int) = ((s[b + k].toNat : Nat) : Int) := by simp [hb]
          have ew : ∀ n, RowKit.wrap64 n = IntKind.i64.wrap n := fun n => by rw [IntKind.wrap_i64]; unfold RowKit.wrap64; omega
          rw [ew, ew] at e
          rw [e2, ← e, show min (8 * (k : Int)).toNat IntKind.i64.bits = 8 * k from by show min _ 64 = _; omega]
          rfl
        · obtain rfl : k = v := by omega
          refine .inr ⟨_, rfl, fun kn ka => ?_⟩
          unfold yGk
          dsimp only
          rw [bif_f (decide_eq_false (by omega))])
      L (s, (b : Int), 0, (v : Int), 0, ()) ⟨0, Nat.zero_le _, by simp [le]⟩ (by dsimp only; omega)
    subst hq
    rw [hrun]
    dsimp only
    have h3 : b + v ≤ s.data.toList.length := by rw [bytes_length]; omega
    by_cases hbig : le ((s.data.toList.drop b).take v) ≤ 1099511627776
    · rw [bif_f (decide_eq_false (by omega)), getS_ok (by omega) h3 hbig]
    · rw [bif_t (decide_eq_true (by omega)), getS_big (by omega) h3 hbig]
  · rw [decide_eq_false hn, getS_bad hn]; rfl
theorem minI_min {a b : Int} : minI false a b = min a b := by
  unfold minI
  simp only [Bool.false_eq_true, if_false]
  split <;> omega
theorem most_eq {L : Nat} (hL : 10 < L) (n : Int) : yC9 L n = some (if 1 ≤ n ∧ n ≤ 6 then ((mostW n.toNat : Nat) : Int) else -1) := by
  unfold yC9 yLE
  by_cases h1 : n < 1
  · rw [bif_t (decide_eq_true h1), if_neg (by omega)]
  rw [bif_f (decide_eq_false h1)]
  by_cases h2 : 6 < n
  · rw [bif_t (decide_eq_true h2), if_neg (by omega)]
  rw [bif_f (decide_eq_false h2), if_pos (by omega)]
  obtain ⟨v, rfl⟩ := Int.eq_ofNat_of_zero_le (show 0 ≤ n by omega)
  obtain ⟨q, hq, hrun⟩ := loop1_run (α := Int) (F := yDW) (fun q => ∃ k : Nat, k ≤ v ∧ q = ((v : Int), ((256 ^ k : Nat) : Int), (k : Int), ())) (fun q => v - q.2.2.1.toNat) (fun q => q = (((256 ^ v : Nat) : Int), ()))
    (fun q hq => by
      obtain ⟨k, hk, rfl⟩ := hq
      by_cases hlt : k < v
      · have hp := pow256_le k (by omega)
        refine .inl ⟨_, ⟨k + 1, hlt, rfl⟩, by dsimp only; omega, fun kn ka => ?_⟩
        unfold yDW
        dsimp only
        have e : ((256 ^ (k + 1) : Nat) : Int) = ((256 ^ k : Nat) : Int) * 256 := by rw [Nat.pow_succ]; rfl
        rw [bif_t (decide_eq_true (by omega)), e]
        generalize 256 ^ k = p at *
        rw [w64_t (by omega) (by omega), w64_t (n := (k : Int) + 1) (by omega) (by omega)]
        rfl
      · obtain rfl : k = v := by omega
        refine .inr ⟨_, rfl, fun kn ka => ?_⟩
        unfold yDW
        dsimp only
        rw [bif_f (decide_eq_false (by omega))])
    L ((v : Int), 1, 0, ()) ⟨0, Nat.zero_le _, rfl⟩ (by dsimp only; omega)
  subst hq
  rw [hrun]
  have hp := pow256_le v (by omega)
  have hp0 : 0 < 256 ^ v := Nat.pow_pos (by omega)
  dsimp only
  rw [minI_min, w64_t (by omega) (by omega), Int.toNat_natCast]
  congr 1
  unfold mostW
  omega
theorem fits_eq {L : Nat} (hL : 10 < L) (a n : Int) : yFn L a n = some (fitsB a n) := by
  unfold yFn yLD fitsB
  rw [most_eq hL]
  by_cases h0 : 0 ≤ a
  · rw [bif_t (decide_eq_true h0), bindO_s]
    congr 1
    refine decide_eq_decide.2 ?_
    by_cases hn : 1 ≤ n ∧ n ≤ 6
    · rw [if_pos hn]
      exact ⟨fun h => ⟨hn.1, hn.2, h0, h⟩, fun h => h.2.2.2⟩
    · rw [if_neg hn]
      exact ⟨fun h => by omega, fun h => absurd ⟨h.1, h.2.1⟩ hn⟩
  · rw [bif_f (decide_eq_false h0), decide_eq_false fun h => h0 h.2.2.1]
theorem le_cons_drop (l : Bs) (a v j : Nat) (hj : j < v) (h : a + v ≤ l.length) : le ((l.drop (a + j)).take (v - j)) = (l[a + j]'(by omega)).toNat + 256 * le ((l.drop (a + (j + 1))).take (v - (j + 1))) := by
  rw [List.drop_eq_getElem_cons (by omega), show v - j = v - (j + 1) + 1 by omega, List.take_succ_cons]
  rfl
theorem rGet_eq {L : Nat} (hL : 10 < L) {s : ByteArray} (hs : s.size ≤ 1000000000) (a n : Int) : yBr L s a n = some ((getS s.data.toList a n).1, (getS s.data.toList a n).2, ()) := by
  unfold yBr yL9
  rw [most_eq hL, bindO_s]
  by_cases hn : 1 ≤ n ∧ n ≤ 6
  · rw [if_pos hn, bif_f (decide_eq_false (by omega))]
    by_cases h0 : a < 0
    · rw [bif_t (decide_eq_true h0), getS_out hn (by omega)]
    rw [bif_f (decide_eq_false h0)]
    by_cases h1 : (s.size : Int) < a
    · rw [bif_t (decide_eq_true h1), getS_out hn (by rw [bytes_length]; omega)]
    rw [bif_f (decide_eq_false h1), w64_t (by omega) (by omega)]
    by_cases h2 : (s.size : Int) - a < n
    · rw [bif_t (decide_eq_true h2), getS_out hn (by rw [bytes_length]; omega)]
    rw [bif_f (decide_eq_false h2), w64_t (by omega) (by omega)]
    obtain ⟨b, rfl⟩ := Int.eq_ofNat_of_zero_le (show 0 ≤ a by omega)
    obtain ⟨v, rfl⟩ := Int.eq_ofNat_of_zero_le (show 0 ≤ n by omega)
    have h3 : b + v ≤ s.data.toList.length := by rw [bytes_length]; omega
    obtain ⟨q, hq, hrun⟩ := loop1_run (α := Int × Int × Unit) (F := yEK) (fun q => ∃ k : Nat, k ≤ v ∧ q = (s, (b : Int), ((le ((s.data.toList.drop (b + k)).take (v - k)) : Nat) : Int), (k : Int) - 1, ())) (fun q => (q.2.2.2.1 + 1).toNat) (fun q => q = (((le ((s.data.toList.drop b).take v) : Nat) : Int), ()))
      (fun q hq => by
        obtain ⟨k, hk, rfl⟩ := hq
        cases k with
        | succ k =>
          have hb : b + k < s.size := by omega
          refine .inl ⟨_, ⟨k, by omega, rfl⟩, by dsimp only; omega, fun kn ka => ?_⟩
          have h4 := le_take_lt s.data.toList (b + (k + 1)) (v - (k + 1))
          have h5 := Nat.pow_le_pow_right (n := 256) (by omega) (show v - (k + 1) ≤ 5 by omega)
          have h6 := (s.data.toList[b + k]'(by rw [bytes_length]; omega)).toNat_lt
          unfold yEK
          dsimp only
          rw [show ((k + 1 : Nat) : Int) - 1 = k by omega, bif_t (decide_eq_true (by omega)), w64_t (n := (b : Int) + k) (by omega) (by omega), gB_t (by omega) (by omega), show ((b : Int) + k).toNat = b + k by omega, at_byte hb, w64_t (n := (k : Int) - 1) (by omega) (by omega),
            w64_t (n := ((le ((s.data.toList.drop (b + (k + 1))).take (v - (k + 1))) : Nat) : Int) * 256) (by omega) (by omega), w64_t (n := ((s.data.toList[b + k]'(by rw [bytes_length]; omega)).toNat : Int)) (by omega) (by omega), w64_t (by omega) (by omega), le_cons_drop _ _ _ k (by omega) h3]
          rw [show ((((s.data.toList[b + k]'(by rw [bytes_length]; omega)).toNat + 256 * le ((s.data.toList.drop (b + (k + 1))).take (v - (k + 1))) : Nat)) : Int) = ((le ((s.data.toList.drop (b + (k + 1))).take (v - (k + 1))) : Nat) : Int) * 256 + ((s.data.toList[b + k]'(by rw [bytes_length]; omega)).toNat : Int) by omega]
        | zero =>
          refine .inr ⟨_, rfl, fun kn ka => ?_⟩
          unfold yEK
          dsimp only
          rw [bif_f (decide_eq_false (by omega))]
          rfl)
      L (s, (b : Int), 0, (v : Int) - 1, ()) ⟨v, Nat.le_refl _, by rw [Nat.sub_self]; rfl⟩ (by dsimp only; omega)
    subst hq
    rw [hrun]
    dsimp only
    by_cases hbig : le ((s.data.toList.drop b).take v) ≤ 1099511627776
    · rw [bif_f (decide_eq_false (by omega)), getS_ok (by omega) h3 hbig]
    · rw [bif_t (decide_eq_true (by omega)), getS_big (by omega) h3 hbig]
  · rw [if_neg hn, getS_bad hn]; rfl
theorem u8_mod (n : Nat) : [[V.int .u8 (IntKind.u8.wrap ((n : Int).tmod 256))]] = [UInt8.ofNat (n % 256)].map byV := by
  have h : (UInt8.ofNat (n % 256)).toNat = n % 256 := by simp
  have e : IntKind.u8.wrap ((n : Int).tmod 256) = ((UInt8.ofNat (n % 256)).toNat : Int) := by
    rw [h, IntKind.wrap_u8, Int.tmod_eq_emod_of_nonneg (by omega)]; omega
  rw [e]; rfl
theorem map_snoc {α β : Type} (f : α → β) (l : List α) (a : α) : l.map f ++ [a].map f = (l ++ [a]).map f := by simp
set_option maxHeartbeats 1000000 in
theorem rPut_eq {L : Nat} (hL : 10 < L) {b : Bs} {l : List Int} (n : Int) (hb : b.length + 6 * l.length ≤ 1000000) (hl : l.length < L) : yBZ L (b.map byV) n (l.map inV) = some ((putR b n l).1.map byV, (putR b n l).2, ()) := by
  unfold yBZ yMA
  rw [most_eq hL, bindO_s]
  by_cases hn : ¬ (1 ≤ n ∧ n ≤ 6)
  · rw [if_neg hn, bif_t (decide_eq_true (by omega))]
    unfold putR putS
    rw [if_neg fun h => hn h.1]
    rfl
  replace hn : 1 ≤ n ∧ n ≤ 6 := Decidable.not_not.1 hn
  rw [if_pos hn, bif_f (decide_eq_false (by omega)), gd_t (rows_sz 1 fun _ => rfl), gM_t (by rw [List.length_map]; omega) (by rw [List.length_map]; omega), gW_t (Nat.zero_add _) (nm_by _)]
  obtain ⟨v, rfl⟩ := Int.eq_ofNat_of_zero_le (show 0 ≤ n by omega)
  have inner : ∀ (pre : Bs) (x : Nat) (i : Int) (ka : yHY → Option (List (List V) × Int × Unit)), pre.length + 6 ≤ 1000000 → x ≤ 1099511627776 → loop1 yB1 L ((v : Int), l.map inV, pre.map byV, i, (x : Int), 0, ()) ka = ka ((v : Int), l.map inV, (pre ++ leBytes v x).map byV, i, ()) := fun pre x i ka hp hxb => by
    obtain ⟨q, hq, hrun⟩ := loop1_run (α := List (List V) × Int × Unit) (F := yB1) (fun q => ∃ k : Nat, k ≤ v ∧ q = ((v : Int), l.map inV, (pre ++ leBytes k x).map byV, i, ((x / 256 ^ k : Nat) : Int), (k : Int), ())) (fun q => v - q.2.2.2.2.2.1.toNat) (fun q => q = ((v : Int), l.map inV, (pre ++ leBytes v x).map byV, i, ()))
      (fun q hq => by
        obtain ⟨k, hk, rfl⟩ := hq
        have hlen : (pre ++ leBytes k x).length = pre.length + k := by rw [List.length_append, leBytes_length]
        by_cases hlt : k < v
        · refine .inl ⟨_, ⟨k + 1, hlt, rfl⟩, by dsimp only; omega, fun kn ka => ?_⟩
          unfold yB1
          dsimp only
          rw [bif_t (decide_eq_true (by omega)), gd_t (by rw [Nat.zero_add]; exact Nat.beq_refl _), gM_t (by rw [List.length_map]; omega) (by rw [List.length_map]; omega), u8_mod, map_snoc, gW_t (by simp [Nat.add_assoc]) (nm_by _), w64_t (n := (k : Int) + 1) (by omega) (by omega), List.append_assoc, ← leBytes_snoc]
          have hd : ((x / 256 ^ k : Nat) : Int).tdiv 256 = ((x / 256 ^ (k + 1) : Nat) : Int) := by
            rw [Int.tdiv_eq_ediv_of_nonneg (Int.natCast_nonneg _), Nat.pow_succ, ← Nat.div_div_eq_div_mul]
            rfl
          rw [hd]
          have hx : x / 256 ^ (k + 1) ≤ x := Nat.div_le_self _ _
          generalize x / 256 ^ (k + 1) = z at *
          rw [w64_t (by omega) (by omega)]
          rfl
        · obtain rfl : k = v := by omega
          refine .inr ⟨_, rfl, fun kn ka => ?_⟩
          unfold yB1
          dsimp only
          rw [bif_f (decide_eq_false (by omega)), gW_t rfl (nm_by _)])
      L ((v : Int), l.map inV, pre.map byV, i, (x : Int), 0, ()) ⟨0, Nat.zero_le _, by simp [leBytes]⟩ (by dsimp only; omega)
    subst hq
    exact hrun ka
  have hr := loop2_run (α := List (List V) × Int × Unit) (F := yDM (yFn L) (loop1 yB1 L)) (fun q => ∃ k : Nat, k ≤ l.length ∧ (∀ j (h : j < l.length), j < k → fitsB l[j] v = true) ∧ q = ((v : Int), l.map inV, (b ++ putAll v (l.take k)).map byV, (k : Int), ())) (fun q => l.length - q.2.2.2.1.toNat)
    (fun q => (∀ j (h : j < l.length), fitsB l[j] v = true) ∧ q = ((b ++ putAll v l).map byV, ())) (fun q => (∃ j, ∃ h : j < l.length, fitsB l[j] v = false) ∧ q = ([], 2, ()))
    (fun q hq => by
      obtain ⟨k, hk, hf, rfl⟩ := hq
      have hpl : (b ++ putAll v (l.take k)).length = b.length + v * k := by rw [List.length_append, putAll_length, List.length_take, Nat.min_eq_left hk]
      by_cases hlt : k < l.length
      · by_cases hfit : fitsB l[k] v = true
        · refine .inl ⟨_, ⟨k + 1, hlt, fun j h hj => ?_, rfl⟩, by dsimp only; omega, fun kn ka kb => ?_⟩
          · rcases Nat.lt_or_ge j k with h' | h'
            · exact hf j h h'
            · obtain rfl : j = k := by omega
              exact hfit
          · have hfl := of_decide_eq_true hfit
            obtain ⟨x, hx⟩ := Int.eq_ofNat_of_zero_le hfl.2.2.1
            have hxl := fits_lt (n := x) (w := v) (by rw [← hx]; exact hfit)
            have hvk : v * k + 6 ≤ 6 * l.length := by
              have : v * k ≤ 6 * k := Nat.mul_le_mul_right _ (by omega)
              omega
            unfold yDM
            dsimp only
            rw [bif_t (decide_eq_true (by rw [List.length_map]; omega)), gI_in (by omega) (by omega), Int.toNat_natCast, aI_in hlt, fits_eq hL, bindO_s, hfit, Bool.not_true, cond_false]
            rw [gI_in (by omega) (by omega), gW_t rfl (nm_by _), hx, inner _ x _ _ (by rw [hpl]; omega) hxl.2.1]
            dsimp only
            rw [gW_t rfl (nm_by _), w64_t (by omega) (by omega), List.append_assoc, List.take_succ_eq_append_getElem hlt, putAll_snoc, hx]
            rfl
        · refine .inr (.inr ⟨_, ⟨⟨k, hlt, by simpa using hfit⟩, rfl⟩, fun kn ka kb => ?_⟩)
          unfold yDM
          dsimp only
          rw [bif_t (decide_eq_true (by rw [List.length_map]; omega)), gI_in (by omega) (by omega), Int.toNat_natCast, aI_in hlt, fits_eq hL, bindO_s, show fitsB l[k] v = false by simpa using hfit]
          rfl
      · obtain rfl : k = l.length := by omega
        refine .inr (.inl ⟨_, ⟨fun j h => hf j h h, rfl⟩, fun kn ka kb => ?_⟩)
        unfold yDM
        dsimp only
        rw [bif_f (decide_eq_false (by rw [List.length_map]; omega)), gW_t rfl (nm_by _), List.take_length])
    L ((v : Int), l.map inV, b.map byV, 0, ()) ⟨0, Nat.zero_le _, fun j _ h => absurd h (Nat.not_lt_zero _), by simp [putAll]⟩ (by dsimp only; omega)
  unfold putR
  rcases hr with ⟨q, ⟨h1, rfl⟩, hrun⟩ | ⟨q, ⟨⟨j, hj, h1⟩, rfl⟩, hrun⟩
  · rw [hrun, putS_ok (by omega) (by omega) h1]
    dsimp only
    rw [gW_t rfl (nm_by _)]
  · rw [hrun, putS_bad hj h1]
    dsimp only
    rw [gW_t rfl rfl]
    rfl
theorem and1 (x : Nat) (h : x < 4294967296) : IntKind.i64.wrap ((BitVec.ofInt IntKind.i64.bits (x : Int) &&& BitVec.ofInt IntKind.i64.bits 1).toNat : Int) = ((x % 2 : Nat) : Int) := by
  have := i64_and_nat x 1 (by omega) (by omega)
  rw [Nat.and_one_is_mod] at this
  exact this
theorem and32 (x : Nat) (h : x < 4294967296) : IntKind.i64.wrap ((BitVec.ofInt IntKind.i64.bits (x : Int) &&& BitVec.ofInt IntKind.i64.bits 4294967295).toNat : Int) = (x : Int) := by
  have := i64_and_nat x 4294967295 (by omega) (by omega)
  rw [show (4294967295 : Nat) = 2 ^ 32 - 1 from rfl, Nat.and_two_pow_sub_one_eq_mod, Nat.mod_eq_of_lt (by omega)] at this
  exact this
theorem xor_i (x y : Nat) (h : x < 4294967296) (h' : y < 4294967296) : IntKind.i64.wrap ((BitVec.ofInt IntKind.i64.bits (x : Int) ^^^ BitVec.ofInt IntKind.i64.bits (y : Int)).toNat : Int) = ((x ^^^ y : Nat) : Int) := i64_xor_nat x y (by omega) (by omega)
theorem shr1 (x : Nat) : (x : Int).fdiv (2 ^ (min (1 : Int).toNat IntKind.i64.bits)) = ((x / 2 : Nat) : Int) := by
  show (x : Int).fdiv ((2 : Int) ^ (min 1 64)) = _
  rw [show ((2 : Int) ^ (min 1 64)) = 2 from rfl, Int.fdiv_eq_ediv_of_nonneg _ (by omega)]
  omega
theorem rstep_eq {L x : Nat} (h : x < 4294967296) : yCK L (x : Int) = some ((step x : Nat) : Int) := by
  unfold yCK yLH
  rw [and1 x h, shr1]
  unfold step
  rcases Nat.mod_two_eq_zero_or_one x with hm | hm
  · rw [hm, if_neg (by omega)]; rfl
  · rw [hm, if_pos rfl]
    have := xor_i (x / 2) 2197175160 (by omega) (by omega)
    exact congrArg some this
theorem rmove_eq {L x : Nat} (hL : 10 < L) (h : x < 4294967296) : yFp L (x : Int) 1 = some ((steps 8 x : Nat) : Int) := by
  unfold yFp yLF
  rw [and32 x h]
  obtain ⟨M, rfl⟩ : ∃ M, L = M + 2 := ⟨L - 2, by omega⟩
  have F : ∀ (m : Nat) (s : yEM) (ka : yGL → Option Int), loop1 (yCE (loop1 (yBR (yCK (M + 2))) (M + 2))) (m + 1) s ka = yCE (loop1 (yBR (yCK (M + 2))) (M + 2)) s (fun s' => loop1 (yCE (loop1 (yBR (yCK (M + 2))) (M + 2))) m s' ka) ka := fun _ _ _ => rfl
  rw [F]
  unfold yCE
  dsimp only
  rw [bif_t (decide_eq_true (by omega))]
  obtain ⟨q, hq, hrun⟩ := loop1_run (α := Int) (F := yBR (yCK (M + 2))) (fun q => ∃ k : Nat, k ≤ 8 ∧ q = (((steps k x : Nat) : Int), 1, 0, (k : Int), ())) (fun q => 8 - q.2.2.2.1.toNat) (fun q => q = (((steps 8 x : Nat) : Int), 1, 0, ()))
    (fun q hq => by
      obtain ⟨k, hk, rfl⟩ := hq
      by_cases hlt : k < 8
      · refine .inl ⟨_, ⟨k + 1, hlt, rfl⟩, by dsimp only; omega, fun kn ka => ?_⟩
        unfold yBR
        dsimp only
        rw [bif_t (decide_eq_true (by omega)), rstep_eq (steps_lt k h), bindO_s, w64_t (by omega) (by omega)]
        rfl
      · obtain rfl : k = 8 := by omega
        refine .inr ⟨_, rfl, fun kn ka => ?_⟩
        unfold yBR
        dsimp only
        rw [bif_f (decide_eq_false (by omega))])
    (M + 2) ((x : Int), 1, 0, 0, ()) ⟨0, Nat.zero_le _, rfl⟩ (by dsimp only; omega)
  subst hq
  rw [hrun]
  dsimp only
  rw [w64_t (by omega) (by omega)]
  show loop1 _ (M + 1) _ _ = _
  rw [F]
  unfold yCE
  dsimp only
  rw [bif_f (decide_eq_false (by omega))]
theorem rSum_eq {L : Nat} {b : Bs} (hL : 10 < L) (hb : b.length < L) (hl : b.length ≤ 1000000000) : yLG L (b.map byV) = some (crcSum b : Int) := by
  unfold yLG yMC yMj yMB
  obtain ⟨q, hq, hrun⟩ := loop1_run (α := Int) (F := yEL (yFp L)) (fun q => ∃ k : Nat, k ≤ b.length ∧ q = (b.map byV, ((crcReg 4294967295 (b.take k) : Nat) : Int), (k : Int), ())) (fun q => b.length - q.2.2.1.toNat) (fun q => q = (((crcReg 4294967295 b : Nat) : Int), ()))
    (fun q hq => by
      obtain ⟨k, hk, rfl⟩ := hq
      have hx := crcReg_lt (x := 4294967295) (by omega) (b.take k)
      by_cases hlt : k < b.length
      · refine .inl ⟨_, ⟨k + 1, hlt, rfl⟩, by dsimp only; omega, fun kn ka => ?_⟩
        have hc := b[k].toNat_lt
        have hxx : crcReg 4294967295 (b.take k) ^^^ b[k].toNat < 4294967296 := Nat.xor_lt_two_pow (n := 32) (by omega) (by omega)
        unfold yEL
        dsimp only
        rw [bif_t (decide_eq_true (by rw [List.length_map]; omega)), gI_by (by omega) (by omega), Int.toNat_natCast, aI_by hlt, w64_t (n := (b[k].toNat : Int)) (by omega) (by omega), xor_i _ _ hx (by omega), rmove_eq hL hxx, bindO_s, w64_t (by omega) (by omega), List.take_succ_eq_append_getElem hlt, crcReg_snoc]
        rfl
      · obtain rfl : k = b.length := by omega
        refine .inr ⟨_, rfl, fun kn ka => ?_⟩
        unfold yEL
        dsimp only
        rw [bif_f (decide_eq_false (by rw [List.length_map]; omega)), List.take_length])
    L (b.map byV, 4294967295, 0, ()) ⟨0, Nat.zero_le _, rfl⟩ (by dsimp only; omega)
  subst hq
  have h0 : IntKind.i64.wrap ((BitVec.ofInt IntKind.i64.bits (IntKind.i64.wrap ((BitVec.ofInt IntKind.i64.bits 0 &&& BitVec.ofInt IntKind.i64.bits 4294967295).toNat : Int)) ^^^ BitVec.ofInt IntKind.i64.bits 4294967295).toNat : Int) = 4294967295 := by decide +kernel
  rw [h0, hrun]
  dsimp only
  have := xor_i (crcReg 4294967295 b) 4294967295 (crcReg_lt (by omega) _) (by omega)
  exact congrArg some this
end Go.Proofs.YtakljpcmbpaeaaaGreat

namespace Go.Proofs.YtakljpcmbpaeaaaGreat
open Go.RowKit

theorem nPut_eq {L : Nat} {b : Bs} {l : List Int} (n : Int) (hb : b.length + 6 * l.length ≤ 1000000) : num_Put L (b.map byV) n (l.map inV) = some ((putR b n l).1.map byV, (putR b n l).2, ()) := by
  unfold num_Put
  rw [rows_all byRB_v, rows_all inRB_v, rows_d byRD_v, rows_d inRD_v, List.length_map, List.length_map, Nat.ble_eq_true_of_le (by omega)]
  rfl
theorem crc_eq {L : Nat} {b : Bs} (hb : b.length ≤ 1000000000) : crc_Sum L (b.map byV) = some (crcSum b : Int) := by
  unfold crc_Sum
  rw [rows_all byRB_v, rows_d byRD_v, List.length_map, Nat.ble_eq_true_of_le hb]
  rfl
theorem data_extract (s : ByteArray) (a b : Nat) : (s.extract a b).data.toList = (s.data.toList.drop a).take (b - a) := by
  rw [ByteArray.data_extract, Array.toList_extract]
theorem extract_mk (s : ByteArray) (a b : Nat) : s.extract a b = mkS ((s.data.toList.drop a).take (b - a)) := by
  rw [← data_extract, mkS_self]
theorem toList_mk (b : Bs) : (mkS b).toList = b := by rw [ByteArray.toList_eq]; simp [mkS]
theorem toList_d (s : ByteArray) : s.toList = s.data.toList := by rw [ByteArray.toList_eq]
theorem kind_by {k : Int} (h1 : 1 ≤ k) (h2 : k ≤ 127) : [[V.int .u8 (IntKind.u8.wrap k)]] = [UInt8.ofNat k.toNat].map byV := by
  have e : IntKind.u8.wrap k = ((UInt8.ofNat k.toNat).toNat : Int) := by
    rw [IntKind.wrap_u8, UInt8.toNat_ofNat']
    omega
  rw [e]; rfl
theorem putR2 {k : Int} {n : Nat} (hn : n ≤ 505) : putR [UInt8.ofNat k.toNat] 2 [(n : Int)] = ([UInt8.ofNat k.toNat] ++ leBytes 2 n, 0) := by
  unfold putR
  rw [show (2 : Int) = ((2 : Nat) : Int) from rfl, putS_ok (by omega) (by omega) fun j h => by
    have : j = 0 := by simpa using h
    subst this
    exact decide_eq_true (by simp [mostW]; omega)]
  simp [putAll]
theorem putR4 {b : Bs} {n : Nat} (hn : n < 4294967296) : putR b 4 [(n : Int)] = (b ++ leBytes 4 n, 0) := by
  unfold putR
  rw [show (4 : Int) = ((4 : Nat) : Int) from rfl, putS_ok (by omega) (by omega) fun j h => by
    have : j = 0 := by simpa using h
    subst this
    exact decide_eq_true (by simp [mostW]; omega)]
  simp [putAll]
theorem app_rows (a : Bs) (s : ByteArray) : a.map byV ++ rowsS s = (a ++ s.data.toList).map byV := by rw [rowsS_by, List.map_append]
theorem take_all {α : Type} (l : List α) {n : Nat} (h : n = l.length) : l.take n = l := by rw [h, List.take_length]
theorem sealed_eq {L : Nat} {k : Int} {rows : List (List V)} {s : ByteArray} (hk : k ≤ 127) (hr : rowsNm rows = true) : ∃ y, yBi L (rows, 0, k, ()) s = some ((mkS (sealR k s.data.toList).1, (sealR k s.data.toList).2, ()), y) := by
  unfold yBi yE2
  dsimp only
  by_cases h1 : k < 1
  · rw [bif_t (decide_eq_true h1), gW_t rfl hr, sealR_bad (by omega)]
    exact ⟨_, rfl⟩
  rw [bif_f (decide_eq_false h1)]
  by_cases h2 : 505 < (s.size : Int)
  · rw [bif_t (decide_eq_true h2), gW_t rfl hr, sealR_bad (by rw [bytes_length]; omega)]
    exact ⟨_, rfl⟩
  rw [bif_f (decide_eq_false h2), kind_by (by omega) hk]
  have hl : s.data.toList.length = s.size := bytes_length s
  have hin : [[V.int .i64 (s.size : Int)]] = [(s.size : Int)].map inV := rfl
  rw [hin, nPut_eq 2 (by simp), putR2 (by omega), bindO_s]
  dsimp only
  have hh : [UInt8.ofNat k.toNat] ++ leBytes 2 s.size ++ s.data.toList = sealHead k s.data.toList := by simp [sealHead, hl]
  have hlen := sealHead_length k s.data.toList
  have e1 : (([UInt8.ofNat k.toNat] ++ leBytes 2 s.size).map byV).length + (rowsS s).length = (sealHead k s.data.toList).length := by
    rw [rowsS_by, List.length_map, List.length_map, ← List.length_append, hh]
  rw [show ((0 : Int) != 0) = false from rfl, cond_false, app_rows, hh, e1, gd_t (by rw [Nat.zero_add]; exact Nat.beq_refl _), gM_t (by omega) (by omega), gF_t (by simp) (by omega) (nm_by _), take_all _ (by simp), crc_eq (by omega), bindO_s, gF_t (by simp) (by omega) (nm_by _)]
  have hin2 : [[V.int .i64 (crcSum (sealHead k s.data.toList) : Int)]] = [(crcSum (sealHead k s.data.toList) : Int)].map inV := rfl
  rw [hin2, nPut_eq 4 (by simp; omega), putR4 (crcSum_lt _), bindO_s]
  dsimp only
  rw [show ((0 : Int) != 0) = false from rfl, cond_false, gd_t (by rw [Nat.zero_add]; exact Nat.ble_eq_true_of_le (Nat.le_refl _)), take_all _ rfl, gd_t (bytesOf_is _), gW_t rfl (nm_by _), bytesS_by, sealR_ok (by omega) (by omega)]
  exact ⟨_, rfl⟩
theorem seal_eq {L : Nat} {k : Int} {s : ByteArray} (hk : k ≤ 127) : yJs L k s = some (mkS (sealR k s.data.toList).1, (sealR k s.data.toList).2, ()) := by
  unfold yJs yMQ
  obtain ⟨y, h⟩ := sealed_eq (L := L) (s := s) (rows := []) hk rfl
  rw [h, bindO_s]
theorem i8_wrap {n : Nat} (h : n ≤ 127) : IntKind.i8.wrap (n : Int) = n := by
  simp [IntKind.wrap, IntKind.bits, IntKind.signed]
  split <;> omega
theorem open_eq {L : Nat} (hL : 10 < L) {s : ByteArray} (hs : s.size ≤ 1000000000) : yLW L s = some ((openR s.data.toList).1, mkS (openR s.data.toList).2.1, (openR s.data.toList).2.2, ()) := by
  have hl : s.data.toList.length = s.size := bytes_length s
  have hno : ∀ h : openR s.data.toList = (0, [], 30), some ((0 : Int), noS, (30 : Int), ()) = some ((openR s.data.toList).1, mkS (openR s.data.toList).2.1, (openR s.data.toList).2.2, ()) := fun h => by rw [h]; rfl
  unfold yLW yMP
  rw [num_Get_eq hL hs, bindO_s]
  by_cases h3 : s.size < 3
  · rw [getS_out (by omega) (by omega)]
    exact hno (openR_short (by omega))
  have hg := le_take_lt s.data.toList 1 2
  have hget : getS s.data.toList 1 2 = (((le ((s.data.toList.drop 1).take 2) : Nat) : Int), 0) := getS_ok (a := 1) (w := 2) (by omega) (by omega) (by omega)
  rw [hget]
  dsimp only
  generalize hn : le ((s.data.toList.drop 1).take 2) = n at *
  rw [show ((0 : Int) != 0) = false from rfl, cond_false, w64_t (n := 3 + (n : Int)) (by omega) (by omega), w64_t (by omega) (by omega)]
  by_cases h4 : ¬ (s.size : Int) = 3 + n + 4
  · rw [bif_t (bne_iff_ne.2 h4)]
    by_cases h7 : s.size < 7
    · exact hno (openR_short (by omega))
    · exact hno (openR_len (by omega) (by rw [hn]; omega))
  replace h4 : (s.size : Int) = 3 + n + 4 := Decidable.not_not.1 h4
  rw [bif_f (by rw [h4]; exact bne_self_eq_false _)]
  by_cases h5 : 505 < (n : Int)
  · rw [bif_t (decide_eq_true h5)]
    exact hno (openR_long (by omega))
  have hb : (((s[0]?).getD 0).toNat : Int) = ((s.data.toList.getD 0 0).toNat : Int) := by
    rw [at_byte (by omega), List.getD_eq_getElem?_getD, List.getElem?_eq_getElem (by omega)]; rfl
  rw [bif_f (decide_eq_false h5), gd_t (decide_eq_true (by omega)), hb]
  by_cases h6 : (s.data.toList.getD 0 0).toNat = 0
  · rw [bif_t (by rw [h6]; rfl)]
    exact hno (openR_zero h6)
  rw [bif_f (beq_eq_false_iff_ne.2 (by omega)), gd_t (decide_eq_true (by omega))]
  by_cases h7 : 127 < (s.data.toList.getD 0 0).toNat
  · rw [bif_t (decide_eq_true (by omega))]
    exact hno (openR_big h7)
  have hg4 := le_take_lt s.data.toList (3 + n) 4
  have hget4 : getS s.data.toList (3 + (n : Int)) 4 = (((le ((s.data.toList.drop (3 + n)).take 4) : Nat) : Int), 0) := getS_ok (a := 3 + n) (w := 4) (by omega) (by omega) (by omega)
  have hd4 : (s.data.toList.drop (3 + n)).take 4 = s.data.toList.drop (s.data.toList.length - 4) := by
    rw [show s.data.toList.length - 4 = 3 + n by omega]
    exact List.take_of_length_le (by rw [List.length_drop]; omega)
  have hex : rowsS (s.extract 0 (3 + n)) = (s.data.toList.take (s.data.toList.length - 4)).map byV := by
    rw [rowsS_by, data_extract, List.drop_zero, show 3 + n - 0 = s.data.toList.length - 4 by omega]
  have hes : (s.extract 0 (3 + n)).size = 3 + n := by rw [ByteArray.size_extract]; omega
  have htl : (s.data.toList.take (s.data.toList.length - 4)).length = 3 + n := by rw [List.length_take]; omega
  rw [bif_f (decide_eq_false (by omega)), num_Get_eq hL hs, hget4, bindO_s, gd_t (decide_eq_true (by omega)), gd_t (decide_eq_true (by omega)), show (3 + (n : Int)).toNat = 3 + n by omega, hes, hex, gF_t (by rw [List.length_map]; omega) (by omega) (nm_by _), take_all _ (by rw [List.length_map]; omega), crc_eq (by omega), bindO_s, hd4]
  dsimp only
  by_cases h8 : le (s.data.toList.drop (s.data.toList.length - 4)) = crcSum (s.data.toList.take (s.data.toList.length - 4))
  · rw [bif_f (by rw [h8]; exact bne_self_eq_false _), gd_t (decide_eq_true (by omega)), gd_t (decide_eq_true (by omega)), gd_t (decide_eq_true (by omega)), gd_t (decide_eq_true (by omega)), i8_wrap (by omega), openR_ok (by omega) (by omega) (by omega) (by omega) (by rw [hn]; omega) h8, extract_mk, show 3 + n - 3 = s.data.toList.length - 7 by omega]
  · rw [bif_t (bne_iff_ne.2 (by omega))]
    exact hno (openR_sum (by omega) h8)
theorem of_eq {L : Nat} (hL : 10 < L) {s : ByteArray} (hs : s.size ≤ 1000000000) (k : Int) : yMO L k s = some (mkS (ofR k s.data.toList).1, (ofR k s.data.toList).2, ()) := by
  unfold yMO yOP ofR
  rw [open_eq hL hs, bindO_s]
  dsimp only
  by_cases h1 : (openR s.data.toList).2.2 = 0
  · rw [bif_f (by rw [h1]; rfl)]
    by_cases h2 : (openR s.data.toList).1 = k
    · rw [bif_f (by rw [h2]; exact bne_self_eq_false _), if_pos ⟨h1, h2⟩]
    · rw [bif_t (bne_iff_ne.2 h2), if_neg fun h => h2 h.2]; rfl
  · rw [bif_t (bne_iff_ne.2 h1), if_neg fun h => h1 h.1]; rfl
theorem byte_shr {r j : Nat} (hr : r < 4294967296) (hj : j ≤ 3) : [V.int .u8 (IntKind.u8.wrap ((r : Int).fdiv (2 ^ (min ((8 * j : Nat) : Int).toNat IntKind.i64.bits))))] = byV (UInt8.ofNat (r / 256 ^ j % 256)) := by
  have h : (UInt8.ofNat (r / 256 ^ j % 256)).toNat = r / 256 ^ j % 256 := by simp
  have e : IntKind.u8.wrap ((r : Int).fdiv (2 ^ (min ((8 * j : Nat) : Int).toNat IntKind.i64.bits))) = ((UInt8.ofNat (r / 256 ^ j % 256)).toNat : Int) := by
    rw [h, IntKind.wrap_u8, Int.toNat_natCast, show min (8 * j) IntKind.i64.bits = 8 * j from by show min _ 64 = _; omega]
    have : (2 : Int) ^ (8 * j) = ((256 ^ j : Nat) : Int) := by
      rw [Int.pow_mul]; norm_cast
    rw [this, Int.fdiv_eq_ediv_of_nonneg _ (Int.natCast_nonneg _)]
    omega
  rw [e]; rfl
theorem four_by {r : Nat} (hr : r < 4294967296) : [[V.int .u8 (IntKind.u8.wrap (r : Int))], [V.int .u8 (IntKind.u8.wrap ((r : Int).fdiv (2 ^ (min (8 : Int).toNat IntKind.i64.bits))))], [V.int .u8 (IntKind.u8.wrap ((r : Int).fdiv (2 ^ (min (16 : Int).toNat IntKind.i64.bits))))], [V.int .u8 (IntKind.u8.wrap ((r : Int).fdiv (2 ^ (min (24 : Int).toNat IntKind.i64.bits))))]] = (leBytes 4 r).map byV := by
  have h0 := byte_shr (j := 0) hr (by omega)
  have h1 := byte_shr (j := 1) hr (by omega)
  have h2 := byte_shr (j := 2) hr (by omega)
  have h3 := byte_shr (j := 3) hr (by omega)
  have e0 : (r : Int).fdiv (2 ^ (min ((8 * 0 : Nat) : Int).toNat IntKind.i64.bits)) = r := by
    show (r : Int).fdiv 1 = r
    simp
  rw [e0] at h0
  rw [show (8 : Int) = ((8 * 1 : Nat) : Int) from rfl, show (16 : Int) = ((8 * 2 : Nat) : Int) from rfl, show (24 : Int) = ((8 * 3 : Nat) : Int) from rfl, h0, h1, h2, h3]
  simp [leBytes, Nat.div_div_eq_div_mul]
theorem rSeal_eq {L : Nat} (hL : 1000 < L) {k : Int} {s : ByteArray} (hk : k ≤ 127) : yGr L k s = some (mkS (sealR k s.data.toList).1, (sealR k s.data.toList).2, ()) := by
  unfold yGr yLK
  by_cases h1 : k < 1
  · rw [bif_t (decide_eq_true h1), sealR_bad (by omega)]; rfl
  rw [bif_f (decide_eq_false h1)]
  by_cases h2 : 505 < (s.size : Int)
  · rw [bif_t (decide_eq_true h2), sealR_bad (by rw [bytes_length]; omega)]; rfl
  rw [bif_f (decide_eq_false h2), kind_by (by omega) hk]
  have hl : s.data.toList.length = s.size := bytes_length s
  have hin : [[V.int .i64 (s.size : Int)]] = [(s.size : Int)].map inV := rfl
  rw [hin, rPut_eq (by omega) 2 (by simp) (by simp; omega), putR2 (by omega), bindO_s]
  dsimp only
  have hh : [UInt8.ofNat k.toNat] ++ leBytes 2 s.size ++ s.data.toList = sealHead k s.data.toList := by simp [sealHead, hl]
  have hlen := sealHead_length k s.data.toList
  have e1 : (([UInt8.ofNat k.toNat] ++ leBytes 2 s.size).map byV).length + (rowsS s).length = (sealHead k s.data.toList).length := by
    rw [rowsS_by, List.length_map, List.length_map, ← List.length_append, hh]
  rw [app_rows, hh, e1, gd_t (by rw [Nat.zero_add]; exact Nat.beq_refl _), gM_t (by omega) (by omega), gF_t (by simp) (by omega) (nm_by _), take_all _ (by simp), rSum_eq (by omega) (by omega) (by omega), bindO_s, four_by (crcSum_lt _), ← List.map_append, gd_t (by rw [Nat.zero_add, List.length_map]; exact Nat.beq_refl _), gM_t (by omega) (by omega)]
  have e2 : (sealHead k s.data.toList).length + 4 = ((sealHead k s.data.toList ++ leBytes 4 (crcSum (sealHead k s.data.toList))).map byV).length := by simp [leBytes_length]
  rw [take_all _ e2, gd_t (by rw [Nat.zero_add, ← e2]; exact Nat.ble_eq_true_of_le (Nat.le_refl _)), gd_t (bytesOf_is _), bytesS_by, sealR_ok (by omega) (by omega)]
theorem rOpen_eq {L : Nat} (hL : 1000 < L) (s : ByteArray) : yJl L s = some ((openR s.data.toList).1, mkS (openR s.data.toList).2.1, (openR s.data.toList).2.2, ()) := by
  have hl : s.data.toList.length = s.size := bytes_length s
  have hno : ∀ h : openR s.data.toList = (0, [], 30), some ((0 : Int), noS, (30 : Int), ()) = some ((openR s.data.toList).1, mkS (openR s.data.toList).2.1, (openR s.data.toList).2.2, ()) := fun h => by rw [h]; rfl
  unfold yJl yLJ
  by_cases h1 : (s.size : Int) < 7
  · rw [bif_t (decide_eq_true h1)]
    exact hno (openR_short (by omega))
  rw [bif_f (decide_eq_false h1)]
  by_cases h2 : 512 < (s.size : Int)
  · rw [bif_t (decide_eq_true h2)]
    exact hno (openR_long (by omega))
  have hb : (((s[0]?).getD 0).toNat : Int) = ((s.data.toList.getD 0 0).toNat : Int) := by
    rw [at_byte (by omega), List.getD_eq_getElem?_getD, List.getElem?_eq_getElem (by omega)]; rfl
  rw [bif_f (decide_eq_false h2), gd_t (decide_eq_true (by omega)), hb]
  by_cases h6 : (s.data.toList.getD 0 0).toNat = 0
  · rw [bif_t (decide_eq_true (by omega))]
    exact hno (openR_zero h6)
  rw [bif_f (decide_eq_false (by omega)), gd_t (decide_eq_true (by omega))]
  by_cases h7 : 127 < (s.data.toList.getD 0 0).toNat
  · rw [bif_t (decide_eq_true (by omega))]
    exact hno (openR_big h7)
  rw [bif_f (decide_eq_false (by omega)), gd_t (decide_eq_true (by omega)), w64_t (by omega) (by omega), gd_t (decide_eq_true (by omega)), gd_t (decide_eq_true (by omega)), gd_t (decide_eq_true (by omega)), i8_wrap (by omega), show ((s.size : Int) - 4).toNat = s.size - 4 by omega, rSeal_eq hL (by omega), bindO_s, data_extract, show s.size - 4 - 3 = s.data.toList.length - 7 by omega, extract_mk]
  rw [show s.size - 4 - 3 = s.data.toList.length - 7 by omega]
  generalize hm : (s.data.toList.drop 3).take (s.data.toList.length - 7) = m
  have hml : m.length ≤ 505 := by rw [← hm, List.length_take]; omega
  rw [sealR_ok (by omega) hml, toList_mk, toList_d]
  dsimp only
  rw [show ((0 : Int) != 0) = false from rfl, cond_false]
  have hop : openR s.data.toList = if sealB (s.data.toList.getD 0 0).toNat m = some s.data.toList then (((s.data.toList.getD 0 0).toNat : Int), m, 0) else (0, [], 30) := by
    unfold openR
    rw [hm]
    by_cases h : sealB (s.data.toList.getD 0 0).toNat m = some s.data.toList
    · rw [if_pos h, if_pos ⟨by omega, by omega, by omega, by omega, h⟩]
    · rw [if_neg h, if_neg fun q => h q.2.2.2.2]
  rw [hop, sealB_some (by omega) hml]
  by_cases h8 : sealHead ((s.data.toList.getD 0 0).toNat : Int) m ++ leBytes 4 (crcSum (sealHead ((s.data.toList.getD 0 0).toNat : Int) m)) = s.data.toList
  · rw [bif_f (by rw [h8, beq_self_eq_true]; rfl), if_pos (by rw [h8])]
  · rw [bif_t (by rw [beq_eq_false_iff_ne.2 h8]; rfl), if_neg fun h => h8 (by injection h)]
    rfl
theorem rOf_eq {L : Nat} (hL : 1000 < L) (s : ByteArray) (k : Int) : yI9 L k s = some (mkS (ofR k s.data.toList).1, (ofR k s.data.toList).2, ()) := by
  unfold yI9 yM2 ofR
  rw [rOpen_eq hL, bindO_s]
  dsimp only
  by_cases h1 : (openR s.data.toList).2.2 = 0
  · rw [bif_f (by rw [h1]; rfl)]
    by_cases h2 : (openR s.data.toList).1 = k
    · rw [bif_f (by rw [h2]; exact bne_self_eq_false _), if_pos ⟨h1, h2⟩]
    · rw [bif_t (bne_iff_ne.2 h2), if_neg fun h => h2 h.2]; rfl
  · rw [bif_t (bne_iff_ne.2 h1), if_neg fun h => h1 h.1]; rfl
end Go.Proofs.YtakljpcmbpaeaaaGreat
