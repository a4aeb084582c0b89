/- breakwaterref06: Start, by the calculus. -/
import Derived.Test.YtkjihmlighigjaaGreatRepairAliveM53
import Derived.Test.YtkjihmlighigjaaGreatRepairAliveM42
import Derived.Test.YtkjihmlighigjaaGreatRepairAliveM43
set_option linter.unusedSimpArgs false
set_option linter.unusedVariables false
namespace Go.Proofs.YtkjihmlighigjaaGreat
open Go.RowKit

def badN (d : Dev) (node : Int) : Prop := checkB d = false ∨ node < 0 ∨ (d.keys.length : Int) ≤ node
instance (d : Dev) (node : Int) : Decidable (badN d node) := by unfold badN; exact inferInstance
end Go.Proofs.YtkjihmlighigjaaGreat

namespace Go.Proofs.YtkjihmlighigjaaGreat
open Go.RowKit

def kbit (kept : Int) (i : Nat) : Prop := ((BitVec.ofInt 64 (kept.fdiv (2 ^ (min i 64))) &&& BitVec.ofInt 64 1).toNat : Int) = 1
instance (kept : Int) (i : Nat) : Decidable (kbit kept i) := by unfold kbit; exact inferInstance
end Go.Proofs.YtkjihmlighigjaaGreat

namespace Go.Proofs.YtkjihmlighigjaaGreat
open Go.RowKit

end Go.Proofs.YtkjihmlighigjaaGreat

namespace Go.Proofs.YtkjihmlighigjaaGreat
open Go.RowKit

end Go.Proofs.YtkjihmlighigjaaGreat

namespace Go.Proofs.YtkjihmlighigjaaGreat
end Go.Proofs.YtkjihmlighigjaaGreat

namespace Go.Proofs.YtkjihmlighigjaaGreat
open Go.RowKit
set_option maxRecDepth 100000
set_option maxHeartbeats 16000000

abbrev ref24_far_F0 {α : Type} (s : (List (List V)) × Int × Unit) (kn : ((List (List V)) × Int × Unit) → Option α) (k0 : Unit → Option α) (k1 : (Bool × Unit) → Option α) : Option α :=
 bif decide (s.2.1 < (s.1.length : Int)) then
 bif decide (0 ≤ s.2.1) then
 bif decide (s.2.1 < (s.1.length : Int)) then
 bif rowIs [.i .i64] s.1 s.2.1.toNat then
 bif decide (1099511627776 < asI (cell s.1 s.2.1.toNat 0)) then
 k1 (true, ())
 else
 bif decide (0 ≤ s.2.1) then
 bif decide (s.2.1 < (s.1.length : Int)) then
 bif rowIs [.i .i64] s.1 s.2.1.toNat then
 bif decide (asI (cell s.1 s.2.1.toNat 0) < (-1099511627776)) then
 k1 (true, ())
 else
 kn (s.1, IntKind.i64.wrap (s.2.1 + 1), ())
 else none
 else none
 else none
 else none
 else none
 else none
 else
 k0 (())
def ref24_far_F0_live : List (Nat × Md) := [(0, .p), (3, .p)]
def ref24_far_F0_outs : AEx → List (Nat × Md) := (fun e => match e with | .exit i => bif Nat.beq i 0 then [] else [] | .ret => [(2, .p)] | .normal => [])
def ref24_far_F0_cl : Cl ((List (List V)) × Int × Unit) := (clC (cxV (ceP cdR)) (clC (cxV (ceP (cdI .i64))) clN))
def ref24_far_F0_c0 : Cl (Unit) := clN
def ref24_far_F0_c1 : Cl (Bool × Unit) := (clC (cxV (ceP cdB)) clN)
theorem ref24_far_F0_e {α : Type} (s : (List (List V)) × Int × Unit) (Kn : List AV → Option α) (Ke : AEx → List AV → Option α) : stepS Tryz.prog (tabS []) 10 30 (lcode Tryz.f33 [1, 0, 1, 0]) .no ref24_far_F0_live ref24_far_F0_outs (ref24_far_F0_cl.enc s) Kn Ke = ref24_far_F0 s (fun a => Kn (ref24_far_F0_cl.enc a)) (fun a => Ke (.exit 0) (ref24_far_F0_c0.enc a)) (fun a => Ke .ret (ref24_far_F0_c1.enc a)) := by kernel_rfl
abbrev ref24_far_t (F0 : ((List (List V)) × Int × Unit) → (Unit → Option (Bool)) → ((Bool × Unit) → Option (Bool)) → Option (Bool)) (x0 : List (List V)) : Option Bool :=
 F0 (x0, 0, ()) (fun q1 =>
 some false) (fun q2 =>
 some q2.1)
theorem ref24_far_e (F0 : ((List (List V)) × Int × Unit) → (Unit → Option (Bool)) → ((Bool × Unit) → Option (Bool)) → Option (Bool)) (a : (List (List V)) × Unit) : symL Tryz.prog (tabS []) 10 30 (.two .no (.two (.two .no (.one (.lp ⟨ref24_far_F0_live, ref24_far_F0_outs, run2 ref24_far_F0_cl (.exit 0) ref24_far_F0_c0 .ret ref24_far_F0_c1 F0⟩))) .no)) 33 ((caC cdR caN).enc a) (outK cdB) = ref24_far_t F0 a.1 := by kernel_rfl
def ref24_far (L : Nat) (x0 : List (List V)) : Option Bool := ref24_far_t (loop2 (ref24_far_F0) L) x0
theorem ref24_far_F0_ok {α : Type} (L : Nat) : LOk Tryz.prog Tryz.f33.ntmps (lcode Tryz.f33 [1, 0, 1, 0]) (⟨ref24_far_F0_live, ref24_far_F0_outs, run2 ref24_far_F0_cl (.exit 0) ref24_far_F0_c0 .ret ref24_far_F0_c1 (loop2 (ref24_far_F0) L)⟩ : LSpec α) ∧ LDet (⟨ref24_far_F0_live, ref24_far_F0_outs, run2 ref24_far_F0_cl (.exit 0) ref24_far_F0_c0 .ret ref24_far_F0_c1 (loop2 (ref24_far_F0) L)⟩ : LSpec α) :=
 lspec2 (σ := (List (List V)) × Int × Unit) (cl := ref24_far_F0_cl) (ca := ref24_far_F0_c0) (cb := ref24_far_F0_c1) (sp := (tabS [])) mixed tabS_nil (L := 10) (n := 30) (t := .no) (okL_of (by kernel_rfl)) (ltN _) (ldN _) (by kernel_rfl) (ref24_far_F0_e) L
theorem ref24_far_c (L : Nat) : Ctr Tryz.prog 33 false (caC cdR caN) cdB (fun a => ref24_far L a.1) :=
 ctr_of mixed (sp := (tabS [])) tabS_nil (lt := (.two .no (.two (.two .no (.one (.lp ⟨ref24_far_F0_live, ref24_far_F0_outs, run2 ref24_far_F0_cl (.exit 0) ref24_far_F0_c0 .ret ref24_far_F0_c1 (loop2 (ref24_far_F0) L)⟩))) .no))) (x := bodyOf Tryz.f33) Tryz.func33 (by kernel_rfl) (ltS (ltN _) (ltS (ltS (ltN _) (ltB (ltL (ref24_far_F0_ok L).1))) (ltN _))) (ldS (ldN _) (ldS (ldS (ldN _) (ldB (ldL (ref24_far_F0_ok L).2))) (ldN _))) fun a => ref24_far_e (loop2 (ref24_far_F0) L) a
abbrev ref11_Great_t (x0 : G_Table) : Option Bool :=
 bif decide (40 < (x0.Slots.length : Int)) then
 some true
 else
 bif decide (100 < (x0.Holds.length : Int)) then
 some true
 else
 some (decide (100 < (x0.Queue.length : Int)))
theorem ref11_Great_e (a : G_Table × Unit) : symL Tryz.prog (tabS []) 10 30 .no 34 ((caC cd_Table caN).enc a) (outK cdB) = ref11_Great_t a.1 := by kernel_rfl
def ref11_Great (L : Nat) (x0 : G_Table) : Option Bool := ref11_Great_t x0
theorem ref11_Great_c (L : Nat) : Ctr Tryz.prog 34 false (caC cd_Table caN) cdB (fun a => ref11_Great L a.1) :=
 ctr_of mixed (sp := (tabS [])) tabS_nil (lt := .no) (x := bodyOf Tryz.f34) Tryz.func34 (by kernel_rfl) (ltN _) (ldN _) fun a => ref11_Great_e a
abbrev ref16_Great_F0 {α : Type} (s : (List (List V)) × Int × Unit) (kn : ((List (List V)) × Int × Unit) → Option α) (k0 : ((List (List V)) × Unit) → Option α) (k1 : (Bool × Unit) → Option α) : Option α :=
 bif decide (s.2.1 < (s.1.length : Int)) then
 bif decide (s.2.1 ≤ 70) then
 bif decide (0 ≤ s.2.1) then
 bif decide (s.2.1 < (s.1.length : Int)) then
 bif rowIs [.i .i64, .s] s.1 s.2.1.toNat then
 bif decide (5000 < ((asS (cell s.1 s.2.1.toNat 1)).size : Int)) then
 k1 (true, ())
 else
 kn (s.1, IntKind.i64.wrap (s.2.1 + 1), ())
 else none
 else none
 else none
 else
 k0 (s.1, ())
 else
 k0 (s.1, ())
def ref16_Great_F0_live : List (Nat × Md) := [(0, .p), (3, .p)]
def ref16_Great_F0_outs : AEx → List (Nat × Md) := (fun e => match e with | .exit i => bif Nat.beq i 0 then [(0, .p)] else [] | .ret => [(2, .p)] | .normal => [])
def ref16_Great_F0_cl : Cl ((List (List V)) × Int × Unit) := (clC (cxV (ceP cdR)) (clC (cxV (ceP (cdI .i64))) clN))
def ref16_Great_F0_c0 : Cl ((List (List V)) × Unit) := (clC (cxV (ceP cdR)) clN)
def ref16_Great_F0_c1 : Cl (Bool × Unit) := (clC (cxV (ceP cdB)) clN)
theorem ref16_Great_F0_e {α : Type} (s : (List (List V)) × Int × Unit) (Kn : List AV → Option α) (Ke : AEx → List AV → Option α) : stepS Tryz.prog (tabS []) 10 30 (lcode Tryz.f35 [1, 0, 1, 0]) .no ref16_Great_F0_live ref16_Great_F0_outs (ref16_Great_F0_cl.enc s) Kn Ke = ref16_Great_F0 s (fun a => Kn (ref16_Great_F0_cl.enc a)) (fun a => Ke (.exit 0) (ref16_Great_F0_c0.enc a)) (fun a => Ke .ret (ref16_Great_F0_c1.enc a)) := by kernel_rfl
abbrev ref16_Great_t (F0 : ((List (List V)) × Int × Unit) → (((List (List V)) × Unit) → Option (Bool)) → ((Bool × Unit) → Option (Bool)) → Option (Bool)) (x0 : List (List V)) : Option Bool :=
 F0 (x0, 0, ()) (fun q1 =>
 some (decide (70 < (q1.1.length : Int)))) (fun q2 =>
 some q2.1)
theorem ref16_Great_e (F0 : ((List (List V)) × Int × Unit) → (((List (List V)) × Unit) → Option (Bool)) → ((Bool × Unit) → Option (Bool)) → Option (Bool)) (a : (List (List V)) × Unit) : symL Tryz.prog (tabS []) 10 30 (.two .no (.two (.two .no (.one (.lp ⟨ref16_Great_F0_live, ref16_Great_F0_outs, run2 ref16_Great_F0_cl (.exit 0) ref16_Great_F0_c0 .ret ref16_Great_F0_c1 F0⟩))) .no)) 35 ((caC cdR caN).enc a) (outK cdB) = ref16_Great_t F0 a.1 := by kernel_rfl
def ref16_Great (L : Nat) (x0 : List (List V)) : Option Bool := ref16_Great_t (loop2 (ref16_Great_F0) L) x0
theorem ref16_Great_F0_ok {α : Type} (L : Nat) : LOk Tryz.prog Tryz.f35.ntmps (lcode Tryz.f35 [1, 0, 1, 0]) (⟨ref16_Great_F0_live, ref16_Great_F0_outs, run2 ref16_Great_F0_cl (.exit 0) ref16_Great_F0_c0 .ret ref16_Great_F0_c1 (loop2 (ref16_Great_F0) L)⟩ : LSpec α) ∧ LDet (⟨ref16_Great_F0_live, ref16_Great_F0_outs, run2 ref16_Great_F0_cl (.exit 0) ref16_Great_F0_c0 .ret ref16_Great_F0_c1 (loop2 (ref16_Great_F0) L)⟩ : LSpec α) :=
 lspec2 (σ := (List (List V)) × Int × Unit) (cl := ref16_Great_F0_cl) (ca := ref16_Great_F0_c0) (cb := ref16_Great_F0_c1) (sp := (tabS [])) mixed tabS_nil (L := 10) (n := 30) (t := .no) (okL_of (by kernel_rfl)) (ltN _) (ldN _) (by kernel_rfl) (ref16_Great_F0_e) L
theorem ref16_Great_c (L : Nat) : Ctr Tryz.prog 35 false (caC cdR caN) cdB (fun a => ref16_Great L a.1) :=
 ctr_of mixed (sp := (tabS [])) tabS_nil (lt := (.two .no (.two (.two .no (.one (.lp ⟨ref16_Great_F0_live, ref16_Great_F0_outs, run2 ref16_Great_F0_cl (.exit 0) ref16_Great_F0_c0 .ret ref16_Great_F0_c1 (loop2 (ref16_Great_F0) L)⟩))) .no))) (x := bodyOf Tryz.f35) Tryz.func35 (by kernel_rfl) (ltS (ltN _) (ltS (ltS (ltN _) (ltB (ltL (ref16_Great_F0_ok L).1))) (ltN _))) (ldS (ldN _) (ldS (ldS (ldN _) (ldB (ldL (ref16_Great_F0_ok L).2))) (ldN _))) fun a => ref16_Great_e (loop2 (ref16_Great_F0) L) a
abbrev ref24_long_t (x0 : G_Node) : Option Bool :=
 bif decide (100 < (x0.Pu.L.length : Int)) then
 some true
 else
 bif decide (100 < (x0.R.L.length : Int)) then
 some true
 else
 bif decide (600 < (x0.R.Cells.length : Int)) then
 some true
 else
 bif decide (600 < (x0.St.Cells.length : Int)) then
 some true
 else
 bif decide (x0.St.I < 0) then
 some true
 else
 bif decide (40 < (x0.F.Parts.length : Int)) then
 some true
 else
 bif decide (600 < (x0.P.Cmd.size : Int)) then
 some true
 else
 bif decide (600 < (x0.P.Own.Val.size : Int)) then
 some true
 else
 some (decide (600 < (x0.P.T.Val.size : Int)))
theorem ref24_long_e (a : G_Node × Unit) : symL Tryz.prog (tabS []) 10 30 .no 36 ((caC cd_Node caN).enc a) (outK cdB) = ref24_long_t a.1 := by kernel_rfl
def ref24_long (L : Nat) (x0 : G_Node) : Option Bool := ref24_long_t x0
theorem ref24_long_c (L : Nat) : Ctr Tryz.prog 36 false (caC cd_Node caN) cdB (fun a => ref24_long L a.1) :=
 ctr_of mixed (sp := (tabS [])) tabS_nil (lt := .no) (x := bodyOf Tryz.f36) Tryz.func36 (by kernel_rfl) (ltN _) (ldN _) fun a => ref24_long_e a
abbrev ref24_Great_F0 {α : Type} (ref24_far : (List (List V)) → Option Bool) (s : G_Node × Int × Unit) (kn : (G_Node × Int × Unit) → Option α) (k0 : (G_Node × Unit) → Option α) (k1 : (Bool × Unit) → Option α) : Option α :=
 bif decide (s.2.1 < (s.1.Watch.length : Int)) then
 bif decide (s.2.1 ≤ 40) then
 bif decide (0 ≤ s.2.1) then
 bif decide (s.2.1 < (s.1.Watch.length : Int)) then
 bif rowIs [.i .i64, .i .i64, .i .i64, .b] s.1.Watch s.2.1.toNat then
 bindO (ref24_far ([[V.int .i64 (asI (cell s.1.Watch s.2.1.toNat 2))]])) fun r1 =>
 bif r1 then
 k1 (true, ())
 else
 kn (s.1, IntKind.i64.wrap (s.2.1 + 1), ())
 else none
 else none
 else none
 else
 k0 (s.1, ())
 else
 k0 (s.1, ())
def ref24_Great_F0_live : List (Nat × Md) := [(1, .o [.p, .p, .p, .p, .p, .p, .p, .p, .p, .p, .p, .p, .p, .p, .p, .p, .p, .p, .p, .p, .p, .p, .p, .p, .p, .p, .p, .p, .p, .p, .p, .p, .p, .p, .p, .p, .p, .p, .p, .p, .p, .p, .p, .p, .p, .p, .p, .p, .p, .p, .p, .p, .p, .p, .p, .p, .p, .p, .p, .p, .p, .p, .p, .p]), (3, .p)]
def ref24_Great_F0_outs : AEx → List (Nat × Md) := (fun e => match e with | .exit i => bif Nat.beq i 0 then [(1, .o [.p, .p, .p, .p, .p, .p, .p, .p, .p, .p, .p, .p, .p, .p, .p, .p, .p, .p, .p, .p, .p, .p, .p, .p, .p, .p, .p, .p, .p, .p, .p, .p, .p, .p, .p, .p, .p, .p, .p, .p, .p, .p, .p, .p, .p, .p, .p, .p, .p, .p, .p, .p, .p, .p, .p, .p, .p, .p, .p, .p, .p, .p, .p, .p])] else [] | .ret => [(2, .p)] | .normal => [])
def ref24_Great_F0_cl : Cl (G_Node × Int × Unit) := (clC (cxO (czA (caA G_Node.ks G_Node.cs G_Node.of G_Node.h)) 64) (clC (cxV (ceP (cdI .i64))) clN))
def ref24_Great_F0_c0 : Cl (G_Node × Unit) := (clC (cxO (czA (caA G_Node.ks G_Node.cs G_Node.of G_Node.h)) 64) clN)
def ref24_Great_F0_c1 : Cl (Bool × Unit) := (clC (cxV (ceP cdB)) clN)
theorem ref24_Great_F0_e {α : Type} (ref24_far : (List (List V)) → Option Bool) (s : G_Node × Int × Unit) (Kn : List AV → Option α) (Ke : AEx → List AV → Option α) : stepS Tryz.prog (tabS [(33, spE false (caC cdR caN) cdB (fun a => ref24_far a.1))]) 10 30 (lcode Tryz.f11 [1, 0, 1, 0]) .no ref24_Great_F0_live ref24_Great_F0_outs (ref24_Great_F0_cl.enc s) Kn Ke = ref24_Great_F0 ref24_far s (fun a => Kn (ref24_Great_F0_cl.enc a)) (fun a => Ke (.exit 0) (ref24_Great_F0_c0.enc a)) (fun a => Ke .ret (ref24_Great_F0_c1.enc a)) := by kernel_rfl
abbrev ref24_Great_t (ref24_far : (List (List V)) → Option Bool) (ref11_Great : G_Table → Option Bool) (ref16_Great : (List (List V)) → Option Bool) (ref24_long : G_Node → Option Bool) (F0 : (G_Node × Int × Unit) → ((G_Node × Unit) → Option (Bool)) → ((Bool × Unit) → Option (Bool)) → Option (Bool)) (x0 : G_Node) : Option Bool :=
 F0 (x0, 0, ()) (fun q1 =>
 bindO (ref24_far ([[V.int .i64 q1.1.Done], [V.int .i64 q1.1.Serial], [V.int .i64 q1.1.Clock], [V.int .i64 q1.1.Asked], [V.int .i64 q1.1.Count], [V.int .i64 q1.1.Head], [V.int .i64 q1.1.Tail], [V.int .i64 q1.1.P.I], [V.int .i64 q1.1.Pu.I], [V.int .i64 q1.1.St.I], [V.int .i64 q1.1.St.Left], [V.int .i64 q1.1.R.Tail], [V.int .i64 q1.1.R.I], [V.int .i64 q1.1.R.End], [V.int .i64 q1.1.F.K]])) fun r2 =>
 bif r2 then
 some true
 else
 bindO (ref11_Great q1.1.Table) fun r3 =>
 bif r3 then
 some true
 else
 bindO (ref16_Great q1.1.Pend) fun r4 =>
 bif r4 then
 some true
 else
 bindO (ref16_Great q1.1.Txn.Writes) fun r5 =>
 bif r5 then
 some true
 else
 bif decide (40 < (q1.1.Watch.length : Int)) then
 some true
 else
 bif decide (100 < (q1.1.Giving.length : Int)) then
 some true
 else
 bindO (ref24_long q1.1) fun r6 =>
 some r6) (fun q7 =>
 some q7.1)
theorem ref24_Great_e (ref24_far : (List (List V)) → Option Bool) (ref11_Great : G_Table → Option Bool) (ref16_Great : (List (List V)) → Option Bool) (ref24_long : G_Node → Option Bool) (F0 : (G_Node × Int × Unit) → ((G_Node × Unit) → Option (Bool)) → ((Bool × Unit) → Option (Bool)) → Option (Bool)) (a : G_Node × Unit) : symL Tryz.prog (tabS [(33, spE false (caC cdR caN) cdB (fun a => ref24_far a.1)), (34, spE false (caC cd_Table caN) cdB (fun a => ref11_Great a.1)), (35, spE false (caC cdR caN) cdB (fun a => ref16_Great a.1)), (36, spE false (caC cd_Node caN) cdB (fun a => ref24_long a.1))]) 10 30 (.two .no (.two (.two .no (.one (.lp ⟨ref24_Great_F0_live, ref24_Great_F0_outs, run2 ref24_Great_F0_cl (.exit 0) ref24_Great_F0_c0 .ret ref24_Great_F0_c1 F0⟩))) .no)) 11 ((caC cd_Node caN).enc a) (outK cdB) = ref24_Great_t ref24_far ref11_Great ref16_Great ref24_long F0 a.1 := by kernel_rfl
def ref24_Great (L : Nat) (x0 : G_Node) : Option Bool := ref24_Great_t (ref24_far L) (ref11_Great L) (ref16_Great L) (ref24_long L) (loop2 (ref24_Great_F0 (ref24_far L)) L) x0
theorem ref24_Great_F0_ok {α : Type} (L : Nat) : LOk Tryz.prog Tryz.f11.ntmps (lcode Tryz.f11 [1, 0, 1, 0]) (⟨ref24_Great_F0_live, ref24_Great_F0_outs, run2 ref24_Great_F0_cl (.exit 0) ref24_Great_F0_c0 .ret ref24_Great_F0_c1 (loop2 (ref24_Great_F0 (ref24_far L)) L)⟩ : LSpec α) ∧ LDet (⟨ref24_Great_F0_live, ref24_Great_F0_outs, run2 ref24_Great_F0_cl (.exit 0) ref24_Great_F0_c0 .ret ref24_Great_F0_c1 (loop2 (ref24_Great_F0 (ref24_far L)) L)⟩ : LSpec α) :=
 lspec2 (σ := G_Node × Int × Unit) (cl := ref24_Great_F0_cl) (ca := ref24_Great_F0_c0) (cb := ref24_Great_F0_c1) (sp := (tabS [(33, spE false (caC cdR caN) cdB (fun a => (ref24_far L) a.1))])) mixed (tabS_cons (ref24_far_c L).ent tabS_nil) (L := 10) (n := 30) (t := .no) (okL_of (by kernel_rfl)) (ltN _) (ldN _) (by kernel_rfl) (ref24_Great_F0_e (ref24_far L)) L
theorem ref24_Great_c (L : Nat) : Ctr Tryz.prog 11 false (caC cd_Node caN) cdB (fun a => ref24_Great L a.1) :=
 ctr_of mixed (sp := (tabS [(33, spE false (caC cdR caN) cdB (fun a => (ref24_far L) a.1)), (34, spE false (caC cd_Table caN) cdB (fun a => (ref11_Great L) a.1)), (35, spE false (caC cdR caN) cdB (fun a => (ref16_Great L) a.1)), (36, spE false (caC cd_Node caN) cdB (fun a => (ref24_long L) a.1))])) (tabS_cons (ref24_far_c L).ent (tabS_cons (ref11_Great_c L).ent (tabS_cons (ref16_Great_c L).ent (tabS_cons (ref24_long_c L).ent tabS_nil)))) (lt := (.two .no (.two (.two .no (.one (.lp ⟨ref24_Great_F0_live, ref24_Great_F0_outs, run2 ref24_Great_F0_cl (.exit 0) ref24_Great_F0_c0 .ret ref24_Great_F0_c1 (loop2 (ref24_Great_F0 (ref24_far L)) L)⟩))) .no))) (x := bodyOf Tryz.f11) Tryz.func11 (by kernel_rfl) (ltS (ltN _) (ltS (ltS (ltN _) (ltB (ltL (ref24_Great_F0_ok L).1))) (ltN _))) (ldS (ldN _) (ldS (ldS (ldN _) (ldB (ldL (ref24_Great_F0_ok L).2))) (ldN _))) fun a => ref24_Great_e (ref24_far L) (ref11_Great L) (ref16_Great L) (ref24_long L) (loop2 (ref24_Great_F0 (ref24_far L)) L) a
abbrev ref26_Great_t (ref24_Great : G_Node → Option Bool) (x0 : G_Node) : Option Bool :=
 bindO (ref24_Great x0) fun r1 =>
 some r1
theorem ref26_Great_e (ref24_Great : G_Node → Option Bool) (a : G_Node × Unit) : symL Tryz.prog (tabS [(11, spE false (caC cd_Node caN) cdB (fun a => ref24_Great a.1))]) 10 30 .no 4 ((caC cd_Node caN).enc a) (outK cdB) = ref26_Great_t ref24_Great a.1 := by kernel_rfl
def ref26_Great (L : Nat) (x0 : G_Node) : Option Bool := ref26_Great_t (ref24_Great L) x0
theorem ref26_Great_c (L : Nat) : Ctr Tryz.prog 4 false (caC cd_Node caN) cdB (fun a => ref26_Great L a.1) :=
 ctr_of mixed (sp := (tabS [(11, spE false (caC cd_Node caN) cdB (fun a => (ref24_Great L) a.1))])) (tabS_cons (ref24_Great_c L).ent tabS_nil) (lt := .no) (x := bodyOf Tryz.f4) Tryz.func4 (by kernel_rfl) (ltN _) (ldN _) fun a => ref26_Great_e (ref24_Great L) a
abbrev slices_IndexFunc_api_Slot_api_Slot_c103_F0 {α : Type} (s : (List (List V)) × (((Int × Unit) × Unit)) × Int × Int × Unit) (kn : ((List (List V)) × (((Int × Unit) × Unit)) × Int × Int × Unit) → Option α) (k0 : Unit → Option α) (k1 : (Int × Unit) → Option α) : Option α :=
 bif decide (s.2.2.2.1 < s.2.2.1) then
 bif decide (0 ≤ s.2.2.2.1) then
 bif decide (s.2.2.2.1 < (s.1.length : Int)) then
 bif rowIs [.i .i64, .i .i64] s.1 s.2.2.2.1.toNat then
 bif (asI (cell s.1 s.2.2.2.1.toNat 0)) == s.2.1.1.1 then
 k1 (s.2.2.2.1, ())
 else
 kn (s.1, ((s.2.1.1.1, ()), ()), s.2.2.1, IntKind.i64.wrap (s.2.2.2.1 + 1), ())
 else none
 else none
 else none
 else
 k0 (())
def slices_IndexFunc_api_Slot_api_Slot_c103_F0_live : List (Nat × Md) := [(0, .p), (1, .p), (7, .p), (8, .p)]
def slices_IndexFunc_api_Slot_api_Slot_c103_F0_outs : AEx → List (Nat × Md) := (fun e => match e with | .exit i => bif Nat.beq i 0 then [] else [] | .ret => [(4, .p)] | .normal => [])
def slices_IndexFunc_api_Slot_api_Slot_c103_F0_cl : Cl ((List (List V)) × (((Int × Unit) × Unit)) × Int × Int × Unit) := (clC (cxV (ceP cdR)) (clC (cxV (ceP (cdF 103 (caC (cdP (caC (cdI .i64) caN)) caN)))) (clC (cxV (ceP (cdI .i64))) (clC (cxV (ceP (cdI .i64))) clN))))
def slices_IndexFunc_api_Slot_api_Slot_c103_F0_c0 : Cl (Unit) := clN
def slices_IndexFunc_api_Slot_api_Slot_c103_F0_c1 : Cl (Int × Unit) := (clC (cxV (ceP (cdI .i64))) clN)
theorem slices_IndexFunc_api_Slot_api_Slot_c103_F0_e {α : Type} (s : (List (List V)) × (((Int × Unit) × Unit)) × Int × Int × Unit) (Kn : List AV → Option α) (Ke : AEx → List AV → Option α) : stepS Tryz.prog (tabS []) 10 30 (lcode Tryz.f102 [1, 0, 1, 0]) .no slices_IndexFunc_api_Slot_api_Slot_c103_F0_live slices_IndexFunc_api_Slot_api_Slot_c103_F0_outs (slices_IndexFunc_api_Slot_api_Slot_c103_F0_cl.enc s) Kn Ke = slices_IndexFunc_api_Slot_api_Slot_c103_F0 s (fun a => Kn (slices_IndexFunc_api_Slot_api_Slot_c103_F0_cl.enc a)) (fun a => Ke (.exit 0) (slices_IndexFunc_api_Slot_api_Slot_c103_F0_c0.enc a)) (fun a => Ke .ret (slices_IndexFunc_api_Slot_api_Slot_c103_F0_c1.enc a)) := by kernel_rfl
abbrev slices_IndexFunc_api_Slot_api_Slot_c103_t (F0 : ((List (List V)) × (((Int × Unit) × Unit)) × Int × Int × Unit) → (Unit → Option (Int)) → ((Int × Unit) → Option (Int)) → Option (Int)) (x0 : List (List V)) (x1 : (Int × Unit) × Unit) : Option Int :=
 F0 (x0, ((x1.1.1, ()), ()), (x0.length : Int), 0, ()) (fun q1 =>
 some (-1)) (fun q2 =>
 some q2.1)
theorem slices_IndexFunc_api_Slot_api_Slot_c103_e (F0 : ((List (List V)) × (((Int × Unit) × Unit)) × Int × Int × Unit) → (Unit → Option (Int)) → ((Int × Unit) → Option (Int)) → Option (Int)) (a : (List (List V)) × ((Int × Unit) × Unit) × Unit) : symL Tryz.prog (tabS []) 10 30 (.two .no (.two (.two .no (.one (.lp ⟨slices_IndexFunc_api_Slot_api_Slot_c103_F0_live, slices_IndexFunc_api_Slot_api_Slot_c103_F0_outs, run2 slices_IndexFunc_api_Slot_api_Slot_c103_F0_cl (.exit 0) slices_IndexFunc_api_Slot_api_Slot_c103_F0_c0 .ret slices_IndexFunc_api_Slot_api_Slot_c103_F0_c1 F0⟩))) .no)) 102 ((caC cdR (caC (cdF 103 (caC (cdP (caC (cdI .i64) caN)) caN)) caN)).enc a) (outK (cdI .i64)) = slices_IndexFunc_api_Slot_api_Slot_c103_t F0 a.1 a.2.1 := by kernel_rfl
def slices_IndexFunc_api_Slot_api_Slot_c103 (L : Nat) (x0 : List (List V)) (x1 : (Int × Unit) × Unit) : Option Int := slices_IndexFunc_api_Slot_api_Slot_c103_t (loop2 (slices_IndexFunc_api_Slot_api_Slot_c103_F0) L) x0 x1
theorem slices_IndexFunc_api_Slot_api_Slot_c103_F0_ok {α : Type} (L : Nat) : LOk Tryz.prog Tryz.f102.ntmps (lcode Tryz.f102 [1, 0, 1, 0]) (⟨slices_IndexFunc_api_Slot_api_Slot_c103_F0_live, slices_IndexFunc_api_Slot_api_Slot_c103_F0_outs, run2 slices_IndexFunc_api_Slot_api_Slot_c103_F0_cl (.exit 0) slices_IndexFunc_api_Slot_api_Slot_c103_F0_c0 .ret slices_IndexFunc_api_Slot_api_Slot_c103_F0_c1 (loop2 (slices_IndexFunc_api_Slot_api_Slot_c103_F0) L)⟩ : LSpec α) ∧ LDet (⟨slices_IndexFunc_api_Slot_api_Slot_c103_F0_live, slices_IndexFunc_api_Slot_api_Slot_c103_F0_outs, run2 slices_IndexFunc_api_Slot_api_Slot_c103_F0_cl (.exit 0) slices_IndexFunc_api_Slot_api_Slot_c103_F0_c0 .ret slices_IndexFunc_api_Slot_api_Slot_c103_F0_c1 (loop2 (slices_IndexFunc_api_Slot_api_Slot_c103_F0) L)⟩ : LSpec α) :=
 lspec2 (σ := (List (List V)) × (((Int × Unit) × Unit)) × Int × Int × Unit) (cl := slices_IndexFunc_api_Slot_api_Slot_c103_F0_cl) (ca := slices_IndexFunc_api_Slot_api_Slot_c103_F0_c0) (cb := slices_IndexFunc_api_Slot_api_Slot_c103_F0_c1) (sp := (tabS [])) mixed tabS_nil (L := 10) (n := 30) (t := .no) (okL_of (by kernel_rfl)) (ltN _) (ldN _) (by kernel_rfl) (slices_IndexFunc_api_Slot_api_Slot_c103_F0_e) L
theorem slices_IndexFunc_api_Slot_api_Slot_c103_c (L : Nat) : Ctr Tryz.prog 102 false (caC cdR (caC (cdF 103 (caC (cdP (caC (cdI .i64) caN)) caN)) caN)) (cdI .i64) (fun a => slices_IndexFunc_api_Slot_api_Slot_c103 L a.1 a.2.1) :=
 ctr_of mixed (sp := (tabS [])) tabS_nil (lt := (.two .no (.two (.two .no (.one (.lp ⟨slices_IndexFunc_api_Slot_api_Slot_c103_F0_live, slices_IndexFunc_api_Slot_api_Slot_c103_F0_outs, run2 slices_IndexFunc_api_Slot_api_Slot_c103_F0_cl (.exit 0) slices_IndexFunc_api_Slot_api_Slot_c103_F0_c0 .ret slices_IndexFunc_api_Slot_api_Slot_c103_F0_c1 (loop2 (slices_IndexFunc_api_Slot_api_Slot_c103_F0) L)⟩))) .no))) (x := bodyOf Tryz.f102) Tryz.func102 (by kernel_rfl) (ltS (ltN _) (ltS (ltS (ltN _) (ltB (ltL (slices_IndexFunc_api_Slot_api_Slot_c103_F0_ok L).1))) (ltN _))) (ldS (ldN _) (ldS (ldS (ldN _) (ldB (ldL (slices_IndexFunc_api_Slot_api_Slot_c103_F0_ok L).2))) (ldN _))) fun a => slices_IndexFunc_api_Slot_api_Slot_c103_e (loop2 (slices_IndexFunc_api_Slot_api_Slot_c103_F0) L) a
abbrev table_Slot_t (slices_IndexFunc_api_Slot_api_Slot_c103 : (List (List V)) → ((Int × Unit) × Unit) → Option Int) (x0 : G_Table) (x1 : Int) : Option (Int × Bool × Unit) :=
 bif decide (x1 < 1) then
 some (0, false, ())
 else
 bindO (slices_IndexFunc_api_Slot_api_Slot_c103 x0.Slots ((x1, ()), ())) fun r1 =>
 some (minI true r1 0, decide (0 ≤ r1), ())
theorem table_Slot_e (slices_IndexFunc_api_Slot_api_Slot_c103 : (List (List V)) → ((Int × Unit) × Unit) → Option Int) (a : G_Table × Int × Unit) : symL Tryz.prog (tabS [(102, spF 1 [(103, spE false (caC cdR (caC (cdF 103 (caC (cdP (caC (cdI .i64) caN)) caN)) caN)) (cdI .i64) (fun a => slices_IndexFunc_api_Slot_api_Slot_c103 a.1 a.2.1))])]) 10 30 .no 54 ((caC cd_Table (caC (cdI .i64) caN)).enc a) (outK (cdT (caC (cdI .i64) (caC cdB caN)))) = table_Slot_t slices_IndexFunc_api_Slot_api_Slot_c103 a.1 a.2.1 := by kernel_rfl
def table_Slot (L : Nat) (x0 : G_Table) (x1 : Int) : Option (Int × Bool × Unit) := table_Slot_t (slices_IndexFunc_api_Slot_api_Slot_c103 L) x0 x1
theorem table_Slot_c (L : Nat) : Ctr Tryz.prog 54 false (caC cd_Table (caC (cdI .i64) caN)) (cdT (caC (cdI .i64) (caC cdB caN))) (fun a => table_Slot L a.1 a.2.1) :=
 ctr_of mixed (sp := (tabS [(102, spF 1 [(103, spE false (caC cdR (caC (cdF 103 (caC (cdP (caC (cdI .i64) caN)) caN)) caN)) (cdI .i64) (fun a => (slices_IndexFunc_api_Slot_api_Slot_c103 L) a.1 a.2.1))])])) (tabS_cons (spF_ok (spF_cons (slices_IndexFunc_api_Slot_api_Slot_c103_c L).ent spF_nil)) tabS_nil) (lt := .no) (x := bodyOf Tryz.f54) Tryz.func54 (by kernel_rfl) (ltN _) (ldN _) fun a => table_Slot_e (slices_IndexFunc_api_Slot_api_Slot_c103 L) a
abbrev repair_course_claim_t (table_Slot : G_Table → Int → Option (Int × Bool × Unit)) (x0 : G_repair_course) : Option (Int × Int × Bool × Unit) :=
 bindO (table_Slot x0.Node.Table x0.Node.Op.Key) fun r1 =>
 bif r1.2.1 then
 bif decide (0 ≤ r1.1) then
 bif decide (r1.1 < (x0.Node.Table.Slots.length : Int)) then
 bif rowIs [.i .i64, .i .i64] x0.Node.Table.Slots r1.1.toNat then
 some (r1.1, asI (cell x0.Node.Table.Slots r1.1.toNat 1), r1.2.1, ())
 else none
 else none
 else none
 else
 some (r1.1, 0, r1.2.1, ())
theorem repair_course_claim_e (table_Slot : G_Table → Int → Option (Int × Bool × Unit)) (a : G_repair_course × Unit) : symL Tryz.prog (tabS [(54, spE false (caC cd_Table (caC (cdI .i64) caN)) (cdT (caC (cdI .i64) (caC cdB caN))) (fun a => table_Slot a.1 a.2.1))]) 10 30 .no 24 ((caC (cdP (caA G_repair_course.ks G_repair_course.cs G_repair_course.of G_repair_course.h)) caN).enc a) (outK (cdT (caC (cdI .i64) (caC (cdI .i64) (caC cdB caN))))) = repair_course_claim_t table_Slot a.1 := by kernel_rfl
def repair_course_claim (L : Nat) (x0 : G_repair_course) : Option (Int × Int × Bool × Unit) := repair_course_claim_t (table_Slot L) x0
theorem repair_course_claim_c (L : Nat) : Ctr Tryz.prog 24 false (caC (cdP (caA G_repair_course.ks G_repair_course.cs G_repair_course.of G_repair_course.h)) caN) (cdT (caC (cdI .i64) (caC (cdI .i64) (caC cdB caN)))) (fun a => repair_course_claim L a.1) :=
 ctr_of mixed (sp := (tabS [(54, spE false (caC cd_Table (caC (cdI .i64) caN)) (cdT (caC (cdI .i64) (caC cdB caN))) (fun a => (table_Slot L) a.1 a.2.1))])) (tabS_cons (table_Slot_c L).ent tabS_nil) (lt := .no) (x := bodyOf Tryz.f24) Tryz.func24 (by kernel_rfl) (ltN _) (ldN _) fun a => repair_course_claim_e (table_Slot L) a
abbrev beat_Dead_t (x0 : G_Geo) (x1 : G_Watch) (x2 : Int) : Option Bool :=
 bif x1.Looked then
 bif decide (0 < x1.Key) then
 bif decide (x1.Since ≤ x2) then
 some (decide (x0.Wait ≤ IntKind.i64.wrap (x2 - x1.Since)))
 else
 some false
 else
 some false
 else
 some false
theorem beat_Dead_e (a : G_Geo × G_Watch × Int × Unit) : symL Tryz.prog (tabS []) 10 30 .no 61 ((caC cd_Geo (caC cd_Watch (caC (cdI .i64) caN))).enc a) (outK cdB) = beat_Dead_t a.1 a.2.1 a.2.2.1 := by kernel_rfl
def beat_Dead (L : Nat) (x0 : G_Geo) (x1 : G_Watch) (x2 : Int) : Option Bool := beat_Dead_t x0 x1 x2
theorem beat_Dead_c (L : Nat) : Ctr Tryz.prog 61 false (caC cd_Geo (caC cd_Watch (caC (cdI .i64) caN))) cdB (fun a => beat_Dead L a.1 a.2.1 a.2.2.1) :=
 ctr_of mixed (sp := (tabS [])) tabS_nil (lt := .no) (x := bodyOf Tryz.f61) Tryz.func61 (by kernel_rfl) (ltN _) (ldN _) fun a => beat_Dead_e a
abbrev command_Key_t (x0 : Int) : Option Bool :=
 bif decide (16 ≤ x0) then
 some (decide (x0 ≤ 1099511627776))
 else
 some false
theorem command_Key_e (a : Int × Unit) : symL Tryz.prog (tabS []) 10 30 .no 112 ((caC (cdI .i64) caN).enc a) (outK cdB) = command_Key_t a.1 := by kernel_rfl
def command_Key (L : Nat) (x0 : Int) : Option Bool := command_Key_t x0
theorem command_Key_c (L : Nat) : Ctr Tryz.prog 112 false (caC (cdI .i64) caN) cdB (fun a => command_Key L a.1) :=
 ctr_of mixed (sp := (tabS [])) tabS_nil (lt := .no) (x := bodyOf Tryz.f112) Tryz.func112 (by kernel_rfl) (ltN _) (ldN _) fun a => command_Key_e a
abbrev command_Of_t (command_Key : Int → Option Bool) (x0 : Int) : Option Int :=
 bindO (command_Key x0) fun r1 =>
 bif r1 then
 some (x0.tmod 16)
 else
 some (-1)
theorem command_Of_e (command_Key : Int → Option Bool) (a : Int × Unit) : symL Tryz.prog (tabS [(112, spE false (caC (cdI .i64) caN) cdB (fun a => command_Key a.1))]) 10 30 .no 96 ((caC (cdI .i64) caN).enc a) (outK (cdI .i64)) = command_Of_t command_Key a.1 := by kernel_rfl
def command_Of (L : Nat) (x0 : Int) : Option Int := command_Of_t (command_Key L) x0
theorem command_Of_c (L : Nat) : Ctr Tryz.prog 96 false (caC (cdI .i64) caN) (cdI .i64) (fun a => command_Of L a.1) :=
 ctr_of mixed (sp := (tabS [(112, spE false (caC (cdI .i64) caN) cdB (fun a => (command_Key L) a.1))])) (tabS_cons (command_Key_c L).ent tabS_nil) (lt := .no) (x := bodyOf Tryz.f96) Tryz.func96 (by kernel_rfl) (ltN _) (ldN _) fun a => command_Of_e (command_Key L) a
abbrev repair_Mine_1_t (x0 : Int) : Option Bool :=
 bif x0 != 5 then
 some (x0 != 6)
 else
 some false
theorem repair_Mine_1_e (a : Int × Unit) : symL Tryz.prog (tabS []) 10 30 .no 99 ((caC (cdI .i8) caN).enc a) (outK cdB) = repair_Mine_1_t a.1 := by kernel_rfl
def repair_Mine_1 (L : Nat) (x0 : Int) : Option Bool := repair_Mine_1_t x0
theorem repair_Mine_1_c (L : Nat) : Ctr Tryz.prog 99 false (caC (cdI .i8) caN) cdB (fun a => repair_Mine_1 L a.1) :=
 ctr_of mixed (sp := (tabS [])) tabS_nil (lt := .no) (x := bodyOf Tryz.f99) Tryz.func99 (by kernel_rfl) (ltN _) (ldN _) fun a => repair_Mine_1_e a
abbrev slices_IndexFunc_int8_int8_c99_F0 {α : Type} (repair_Mine_1 : Int → Option Bool) (s : (List (List V)) × Unit × Int × Int × Unit) (kn : ((List (List V)) × Unit × Int × Int × Unit) → Option α) (k0 : Unit → Option α) (k1 : (Int × Unit) → Option α) : Option α :=
 bif decide (s.2.2.2.1 < s.2.2.1) then
 bif decide (0 ≤ s.2.2.2.1) then
 bif decide (s.2.2.2.1 < (s.1.length : Int)) then
 bif rowIs [.i .i8] s.1 s.2.2.2.1.toNat then
 bindO (repair_Mine_1 (asI (cell s.1 s.2.2.2.1.toNat 0))) fun r1 =>
 bif r1 then
 k1 (s.2.2.2.1, ())
 else
 kn (s.1, (()), s.2.2.1, IntKind.i64.wrap (s.2.2.2.1 + 1), ())
 else none
 else none
 else none
 else
 k0 (())
def slices_IndexFunc_int8_int8_c99_F0_live : List (Nat × Md) := [(0, .p), (1, .p), (7, .p), (8, .p)]
def slices_IndexFunc_int8_int8_c99_F0_outs : AEx → List (Nat × Md) := (fun e => match e with | .exit i => bif Nat.beq i 0 then [] else [] | .ret => [(4, .p)] | .normal => [])
def slices_IndexFunc_int8_int8_c99_F0_cl : Cl ((List (List V)) × Unit × Int × Int × Unit) := (clC (cxV (ceP cdR)) (clC (cxV (ceP (cdF 99 caN))) (clC (cxV (ceP (cdI .i64))) (clC (cxV (ceP (cdI .i64))) clN))))
def slices_IndexFunc_int8_int8_c99_F0_c0 : Cl (Unit) := clN
def slices_IndexFunc_int8_int8_c99_F0_c1 : Cl (Int × Unit) := (clC (cxV (ceP (cdI .i64))) clN)
theorem slices_IndexFunc_int8_int8_c99_F0_e {α : Type} (repair_Mine_1 : Int → Option Bool) (s : (List (List V)) × Unit × Int × Int × Unit) (Kn : List AV → Option α) (Ke : AEx → List AV → Option α) : stepS Tryz.prog (tabS [(99, spE false (caC (cdI .i8) caN) cdB (fun a => repair_Mine_1 a.1))]) 10 30 (lcode Tryz.f131 [1, 0, 1, 0]) .no slices_IndexFunc_int8_int8_c99_F0_live slices_IndexFunc_int8_int8_c99_F0_outs (slices_IndexFunc_int8_int8_c99_F0_cl.enc s) Kn Ke = slices_IndexFunc_int8_int8_c99_F0 repair_Mine_1 s (fun a => Kn (slices_IndexFunc_int8_int8_c99_F0_cl.enc a)) (fun a => Ke (.exit 0) (slices_IndexFunc_int8_int8_c99_F0_c0.enc a)) (fun a => Ke .ret (slices_IndexFunc_int8_int8_c99_F0_c1.enc a)) := by kernel_rfl
abbrev slices_IndexFunc_int8_int8_c99_t (F0 : ((List (List V)) × Unit × Int × Int × Unit) → (Unit → Option (Int)) → ((Int × Unit) → Option (Int)) → Option (Int)) (x0 : List (List V)) (x1 : Unit) : Option Int :=
 F0 (x0, (()), (x0.length : Int), 0, ()) (fun q1 =>
 some (-1)) (fun q2 =>
 some q2.1)
theorem slices_IndexFunc_int8_int8_c99_e (F0 : ((List (List V)) × Unit × Int × Int × Unit) → (Unit → Option (Int)) → ((Int × Unit) → Option (Int)) → Option (Int)) (a : (List (List V)) × Unit × Unit) : symL Tryz.prog (tabS []) 10 30 (.two .no (.two (.two .no (.one (.lp ⟨slices_IndexFunc_int8_int8_c99_F0_live, slices_IndexFunc_int8_int8_c99_F0_outs, run2 slices_IndexFunc_int8_int8_c99_F0_cl (.exit 0) slices_IndexFunc_int8_int8_c99_F0_c0 .ret slices_IndexFunc_int8_int8_c99_F0_c1 F0⟩))) .no)) 131 ((caC cdR (caC (cdF 99 caN) caN)).enc a) (outK (cdI .i64)) = slices_IndexFunc_int8_int8_c99_t F0 a.1 a.2.1 := by kernel_rfl
def slices_IndexFunc_int8_int8_c99 (L : Nat) (x0 : List (List V)) (x1 : Unit) : Option Int := slices_IndexFunc_int8_int8_c99_t (loop2 (slices_IndexFunc_int8_int8_c99_F0 (repair_Mine_1 L)) L) x0 x1
theorem slices_IndexFunc_int8_int8_c99_F0_ok {α : Type} (L : Nat) : LOk Tryz.prog Tryz.f131.ntmps (lcode Tryz.f131 [1, 0, 1, 0]) (⟨slices_IndexFunc_int8_int8_c99_F0_live, slices_IndexFunc_int8_int8_c99_F0_outs, run2 slices_IndexFunc_int8_int8_c99_F0_cl (.exit 0) slices_IndexFunc_int8_int8_c99_F0_c0 .ret slices_IndexFunc_int8_int8_c99_F0_c1 (loop2 (slices_IndexFunc_int8_int8_c99_F0 (repair_Mine_1 L)) L)⟩ : LSpec α) ∧ LDet (⟨slices_IndexFunc_int8_int8_c99_F0_live, slices_IndexFunc_int8_int8_c99_F0_outs, run2 slices_IndexFunc_int8_int8_c99_F0_cl (.exit 0) slices_IndexFunc_int8_int8_c99_F0_c0 .ret slices_IndexFunc_int8_int8_c99_F0_c1 (loop2 (slices_IndexFunc_int8_int8_c99_F0 (repair_Mine_1 L)) L)⟩ : LSpec α) :=
 lspec2 (σ := (List (List V)) × Unit × Int × Int × Unit) (cl := slices_IndexFunc_int8_int8_c99_F0_cl) (ca := slices_IndexFunc_int8_int8_c99_F0_c0) (cb := slices_IndexFunc_int8_int8_c99_F0_c1) (sp := (tabS [(99, spE false (caC (cdI .i8) caN) cdB (fun a => (repair_Mine_1 L) a.1))])) mixed (tabS_cons (repair_Mine_1_c L).ent tabS_nil) (L := 10) (n := 30) (t := .no) (okL_of (by kernel_rfl)) (ltN _) (ldN _) (by kernel_rfl) (slices_IndexFunc_int8_int8_c99_F0_e (repair_Mine_1 L)) L
theorem slices_IndexFunc_int8_int8_c99_c (L : Nat) : Ctr Tryz.prog 131 false (caC cdR (caC (cdF 99 caN) caN)) (cdI .i64) (fun a => slices_IndexFunc_int8_int8_c99 L a.1 a.2.1) :=
 ctr_of mixed (sp := (tabS [])) tabS_nil (lt := (.two .no (.two (.two .no (.one (.lp ⟨slices_IndexFunc_int8_int8_c99_F0_live, slices_IndexFunc_int8_int8_c99_F0_outs, run2 slices_IndexFunc_int8_int8_c99_F0_cl (.exit 0) slices_IndexFunc_int8_int8_c99_F0_c0 .ret slices_IndexFunc_int8_int8_c99_F0_c1 (loop2 (slices_IndexFunc_int8_int8_c99_F0 (repair_Mine_1 L)) L)⟩))) .no))) (x := bodyOf Tryz.f131) Tryz.func131 (by kernel_rfl) (ltS (ltN _) (ltS (ltS (ltN _) (ltB (ltL (slices_IndexFunc_int8_int8_c99_F0_ok L).1))) (ltN _))) (ldS (ldN _) (ldS (ldS (ldN _) (ldB (ldL (slices_IndexFunc_int8_int8_c99_F0_ok L).2))) (ldN _))) fun a => slices_IndexFunc_int8_int8_c99_e (loop2 (slices_IndexFunc_int8_int8_c99_F0 (repair_Mine_1 L)) L) a
abbrev slices_ContainsFunc_int8_int8_c99_t (slices_IndexFunc_int8_int8_c99 : (List (List V)) → Unit → Option Int) (x0 : List (List V)) (x1 : Unit) : Option Bool :=
 bindO (slices_IndexFunc_int8_int8_c99 x0 (())) fun r1 =>
 some (decide (0 ≤ r1))
theorem slices_ContainsFunc_int8_int8_c99_e (slices_IndexFunc_int8_int8_c99 : (List (List V)) → Unit → Option Int) (a : (List (List V)) × Unit × Unit) : symL Tryz.prog (tabS [(131, spF 1 [(99, spE false (caC cdR (caC (cdF 99 caN) caN)) (cdI .i64) (fun a => slices_IndexFunc_int8_int8_c99 a.1 a.2.1))])]) 10 30 .no 98 ((caC cdR (caC (cdF 99 caN) caN)).enc a) (outK cdB) = slices_ContainsFunc_int8_int8_c99_t slices_IndexFunc_int8_int8_c99 a.1 a.2.1 := by kernel_rfl
def slices_ContainsFunc_int8_int8_c99 (L : Nat) (x0 : List (List V)) (x1 : Unit) : Option Bool := slices_ContainsFunc_int8_int8_c99_t (slices_IndexFunc_int8_int8_c99 L) x0 x1
theorem slices_ContainsFunc_int8_int8_c99_c (L : Nat) : Ctr Tryz.prog 98 false (caC cdR (caC (cdF 99 caN) caN)) cdB (fun a => slices_ContainsFunc_int8_int8_c99 L a.1 a.2.1) :=
 ctr_of mixed (sp := (tabS [(131, spF 1 [(99, spE false (caC cdR (caC (cdF 99 caN) caN)) (cdI .i64) (fun a => (slices_IndexFunc_int8_int8_c99 L) a.1 a.2.1))])])) (tabS_cons (spF_ok (spF_cons (slices_IndexFunc_int8_int8_c99_c L).ent spF_nil)) tabS_nil) (lt := .no) (x := bodyOf Tryz.f98) Tryz.func98 (by kernel_rfl) (ltN _) (ldN _) fun a => slices_ContainsFunc_int8_int8_c99_e (slices_IndexFunc_int8_int8_c99 L) a
abbrev repair_Mine_t (slices_ContainsFunc_int8_int8_c99 : (List (List V)) → Unit → Option Bool) (x0 : List (List V)) : Option Bool :=
 bindO (slices_ContainsFunc_int8_int8_c99 x0 (())) fun r1 =>
 some !r1
theorem repair_Mine_e (slices_ContainsFunc_int8_int8_c99 : (List (List V)) → Unit → Option Bool) (a : (List (List V)) × Unit) : symL Tryz.prog (tabS [(98, spF 1 [(99, spE false (caC cdR (caC (cdF 99 caN) caN)) cdB (fun a => slices_ContainsFunc_int8_int8_c99 a.1 a.2.1))])]) 10 30 .no 52 ((caC cdR caN).enc a) (outK cdB) = repair_Mine_t slices_ContainsFunc_int8_int8_c99 a.1 := by kernel_rfl
def repair_Mine (L : Nat) (x0 : List (List V)) : Option Bool := repair_Mine_t (slices_ContainsFunc_int8_int8_c99 L) x0
theorem repair_Mine_c (L : Nat) : Ctr Tryz.prog 52 false (caC cdR caN) cdB (fun a => repair_Mine L a.1) :=
 ctr_of mixed (sp := (tabS [(98, spF 1 [(99, spE false (caC cdR (caC (cdF 99 caN) caN)) cdB (fun a => (slices_ContainsFunc_int8_int8_c99 L) a.1 a.2.1))])])) (tabS_cons (spF_ok (spF_cons (slices_ContainsFunc_int8_int8_c99_c L).ent spF_nil)) tabS_nil) (lt := .no) (x := bodyOf Tryz.f52) Tryz.func52 (by kernel_rfl) (ltN _) (ldN _) fun a => repair_Mine_e (slices_ContainsFunc_int8_int8_c99 L) a
end Go.Proofs.YtkjihmlighigjaaGreat

namespace Go.Proofs.YtkjihmlighigjaaGreat
open Go.RowKit
set_option maxRecDepth 100000
set_option maxHeartbeats 16000000

abbrev repair_course_refuses_t (geo_May : G_Geo → Option Bool) (repair_Mine : (List (List V)) → Option Bool) (repair_course_claim : G_repair_course → Option (Int × Int × Bool × Unit)) (command_Of : Int → Option Int) (beat_Dead : G_Geo → G_Watch → Int → Option Bool) (x0 : G_repair_course) : Option Int :=
 bindO (geo_May x0.g_) fun r1 =>
 bif !r1 then
 some 2
 else
 bif decide (x0.Node.Num < 0) then
 some 2
 else
 bif decide (x0.g_.Nodes ≤ x0.Node.Num) then
 some 2
 else
 bindO (repair_Mine ([[V.int .i8 x0.Node.Op.Kind]])) fun r2 =>
 bif !r2 then
 some 2
 else
 bif x0.Node.Op.Kind == 5 then
 bif decide (x0.Node.Op.Node < 0) then
 some 2
 else
 bif decide (x0.g_.Nodes ≤ x0.Node.Op.Node) then
 some 2
 else
 bif x0.Node.Op.Node == x0.Node.Num then
 some 2
 else
 bif x0.Node.Key == 0 then
 some 241
 else
 bif x0.Node.Op.Kind == 5 then
 some 0
 else
 bindO (repair_course_claim x0) fun r3 =>
 bif !r3.2.2.1 then
 some 260
 else
 bindO (command_Of x0.Node.Op.Key) fun r4 =>
 bif decide (r4 < 0) then
 some 261
 else
 bif x0.Node.Op.Key == x0.Node.Key then
 some 261
 else
 bif r4 == x0.Node.Num then
 bif !(decide (x0.Node.Op.Key < x0.Node.Key)) then
 some 261
 else
 bif r3.2.1 != 0 then
 bif r3.2.1 != x0.Node.Key then
 bindO (command_Of r3.2.1) fun r5 =>
 bif decide (r5 < 0) then
 some 262
 else
 bif r3.2.1 == x0.Node.Key then
 some 262
 else
 bif r5 == x0.Node.Num then
 bif !(decide (r3.2.1 < x0.Node.Key)) then
 some 262
 else
 some 0
 else
 bif decide ((x0.Node.Watch.length : Int) ≤ r5) then
 some 262
 else
 bif decide (0 ≤ r5) then
 bif decide (r5 < (x0.Node.Watch.length : Int)) then
 bif rowIs [.i .i64, .i .i64, .i .i64, .b] x0.Node.Watch r5.toNat then
 bif asB (cell x0.Node.Watch r5.toNat 3) then
 bif decide (r3.2.1 < asI (cell x0.Node.Watch r5.toNat 0)) then
 some 0
 else
 bif (asI (cell x0.Node.Watch r5.toNat 0)) == r3.2.1 then
 bindO (beat_Dead x0.g_ (⟨asI (cell x0.Node.Watch r5.toNat 0), asI (cell x0.Node.Watch r5.toNat 1), asI (cell x0.Node.Watch r5.toNat 2), asB (cell x0.Node.Watch r5.toNat 3)⟩ : G_Watch) x0.Node.Clock) fun r6 =>
 bif !r6 then
 some 262
 else
 some 0
 else
 some 262
 else
 some 262
 else none
 else none
 else none
 else
 some 0
 else
 some 0
 else
 bif decide ((x0.Node.Watch.length : Int) ≤ r4) then
 some 261
 else
 bif decide (0 ≤ r4) then
 bif decide (r4 < (x0.Node.Watch.length : Int)) then
 bif rowIs [.i .i64, .i .i64, .i .i64, .b] x0.Node.Watch r4.toNat then
 bif asB (cell x0.Node.Watch r4.toNat 3) then
 bif decide (x0.Node.Op.Key < asI (cell x0.Node.Watch r4.toNat 0)) then
 bif r3.2.1 != 0 then
 bif r3.2.1 != x0.Node.Key then
 bindO (command_Of r3.2.1) fun r7 =>
 bif decide (r7 < 0) then
 some 262
 else
 bif r3.2.1 == x0.Node.Key then
 some 262
 else
 bif r7 == x0.Node.Num then
 bif !(decide (r3.2.1 < x0.Node.Key)) then
 some 262
 else
 some 0
 else
 bif decide ((x0.Node.Watch.length : Int) ≤ r7) then
 some 262
 else
 bif decide (0 ≤ r7) then
 bif decide (r7 < (x0.Node.Watch.length : Int)) then
 bif rowIs [.i .i64, .i .i64, .i .i64, .b] x0.Node.Watch r7.toNat then
 bif asB (cell x0.Node.Watch r7.toNat 3) then
 bif decide (r3.2.1 < asI (cell x0.Node.Watch r7.toNat 0)) then
 some 0
 else
 bif (asI (cell x0.Node.Watch r7.toNat 0)) == r3.2.1 then
 bindO (beat_Dead x0.g_ (⟨asI (cell x0.Node.Watch r7.toNat 0), asI (cell x0.Node.Watch r7.toNat 1), asI (cell x0.Node.Watch r7.toNat 2), asB (cell x0.Node.Watch r7.toNat 3)⟩ : G_Watch) x0.Node.Clock) fun r8 =>
 bif !r8 then
 some 262
 else
 some 0
 else
 some 262
 else
 some 262
 else none
 else none
 else none
 else
 some 0
 else
 some 0
 else
 bif (asI (cell x0.Node.Watch r4.toNat 0)) == x0.Node.Op.Key then
 bindO (beat_Dead x0.g_ (⟨asI (cell x0.Node.Watch r4.toNat 0), asI (cell x0.Node.Watch r4.toNat 1), asI (cell x0.Node.Watch r4.toNat 2), asB (cell x0.Node.Watch r4.toNat 3)⟩ : G_Watch) x0.Node.Clock) fun r9 =>
 bif !r9 then
 some 261
 else
 bif r3.2.1 != 0 then
 bif r3.2.1 != x0.Node.Key then
 bindO (command_Of r3.2.1) fun r10 =>
 bif decide (r10 < 0) then
 some 262
 else
 bif r3.2.1 == x0.Node.Key then
 some 262
 else
 bif r10 == x0.Node.Num then
 bif !(decide (r3.2.1 < x0.Node.Key)) then
 some 262
 else
 some 0
 else
 bif decide ((x0.Node.Watch.length : Int) ≤ r10) then
 some 262
 else
 bif decide (0 ≤ r10) then
 bif decide (r10 < (x0.Node.Watch.length : Int)) then
 bif rowIs [.i .i64, .i .i64, .i .i64, .b] x0.Node.Watch r10.toNat then
 bif asB (cell x0.Node.Watch r10.toNat 3) then
 bif decide (r3.2.1 < asI (cell x0.Node.Watch r10.toNat 0)) then
 some 0
 else
 bif (asI (cell x0.Node.Watch r10.toNat 0)) == r3.2.1 then
 bindO (beat_Dead x0.g_ (⟨asI (cell x0.Node.Watch r10.toNat 0), asI (cell x0.Node.Watch r10.toNat 1), asI (cell x0.Node.Watch r10.toNat 2), asB (cell x0.Node.Watch r10.toNat 3)⟩ : G_Watch) x0.Node.Clock) fun r11 =>
 bif !r11 then
 some 262
 else
 some 0
 else
 some 262
 else
 some 262
 else none
 else none
 else none
 else
 some 0
 else
 some 0
 else
 some 261
 else
 some 261
 else none
 else none
 else none
 else
 bif x0.Node.Key == 0 then
 some 241
 else
 bif x0.Node.Op.Kind == 5 then
 some 0
 else
 bindO (repair_course_claim x0) fun r12 =>
 bif !r12.2.2.1 then
 some 260
 else
 bindO (command_Of x0.Node.Op.Key) fun r13 =>
 bif decide (r13 < 0) then
 some 261
 else
 bif x0.Node.Op.Key == x0.Node.Key then
 some 261
 else
 bif r13 == x0.Node.Num then
 bif !(decide (x0.Node.Op.Key < x0.Node.Key)) then
 some 261
 else
 bif r12.2.1 != 0 then
 bif r12.2.1 != x0.Node.Key then
 bindO (command_Of r12.2.1) fun r14 =>
 bif decide (r14 < 0) then
 some 262
 else
 bif r12.2.1 == x0.Node.Key then
 some 262
 else
 bif r14 == x0.Node.Num then
 bif !(decide (r12.2.1 < x0.Node.Key)) then
 some 262
 else
 some 0
 else
 bif decide ((x0.Node.Watch.length : Int) ≤ r14) then
 some 262
 else
 bif decide (0 ≤ r14) then
 bif decide (r14 < (x0.Node.Watch.length : Int)) then
 bif rowIs [.i .i64, .i .i64, .i .i64, .b] x0.Node.Watch r14.toNat then
 bif asB (cell x0.Node.Watch r14.toNat 3) then
 bif decide (r12.2.1 < asI (cell x0.Node.Watch r14.toNat 0)) then
 some 0
 else
 bif (asI (cell x0.Node.Watch r14.toNat 0)) == r12.2.1 then
 bindO (beat_Dead x0.g_ (⟨asI (cell x0.Node.Watch r14.toNat 0), asI (cell x0.Node.Watch r14.toNat 1), asI (cell x0.Node.Watch r14.toNat 2), asB (cell x0.Node.Watch r14.toNat 3)⟩ : G_Watch) x0.Node.Clock) fun r15 =>
 bif !r15 then
 some 262
 else
 some 0
 else
 some 262
 else
 some 262
 else none
 else none
 else none
 else
 some 0
 else
 some 0
 else
 bif decide ((x0.Node.Watch.length : Int) ≤ r13) then
 some 261
 else
 bif decide (0 ≤ r13) then
 bif decide (r13 < (x0.Node.Watch.length : Int)) then
 bif rowIs [.i .i64, .i .i64, .i .i64, .b] x0.Node.Watch r13.toNat then
 bif asB (cell x0.Node.Watch r13.toNat 3) then
 bif decide (x0.Node.Op.Key < asI (cell x0.Node.Watch r13.toNat 0)) then
 bif r12.2.1 != 0 then
 bif r12.2.1 != x0.Node.Key then
 bindO (command_Of r12.2.1) fun r16 =>
 bif decide (r16 < 0) then
 some 262
 else
 bif r12.2.1 == x0.Node.Key then
 some 262
 else
 bif r16 == x0.Node.Num then
 bif !(decide (r12.2.1 < x0.Node.Key)) then
 some 262
 else
 some 0
 else
 bif decide ((x0.Node.Watch.length : Int) ≤ r16) then
 some 262
 else
 bif decide (0 ≤ r16) then
 bif decide (r16 < (x0.Node.Watch.length : Int)) then
 bif rowIs [.i .i64, .i .i64, .i .i64, .b] x0.Node.Watch r16.toNat then
 bif asB (cell x0.Node.Watch r16.toNat 3) then
 bif decide (r12.2.1 < asI (cell x0.Node.Watch r16.toNat 0)) then
 some 0
 else
 bif (asI (cell x0.Node.Watch r16.toNat 0)) == r12.2.1 then
 bindO (beat_Dead x0.g_ (⟨asI (cell x0.Node.Watch r16.toNat 0), asI (cell x0.Node.Watch r16.toNat 1), asI (cell x0.Node.Watch r16.toNat 2), asB (cell x0.Node.Watch r16.toNat 3)⟩ : G_Watch) x0.Node.Clock) fun r17 =>
 bif !r17 then
 some 262
 else
 some 0
 else
 some 262
 else
 some 262
 else none
 else none
 else none
 else
 some 0
 else
 some 0
 else
 bif (asI (cell x0.Node.Watch r13.toNat 0)) == x0.Node.Op.Key then
 bindO (beat_Dead x0.g_ (⟨asI (cell x0.Node.Watch r13.toNat 0), asI (cell x0.Node.Watch r13.toNat 1), asI (cell x0.Node.Watch r13.toNat 2), asB (cell x0.Node.Watch r13.toNat 3)⟩ : G_Watch) x0.Node.Clock) fun r18 =>
 bif !r18 then
 some 261
 else
 bif r12.2.1 != 0 then
 bif r12.2.1 != x0.Node.Key then
 bindO (command_Of r12.2.1) fun r19 =>
 bif decide (r19 < 0) then
 some 262
 else
 bif r12.2.1 == x0.Node.Key then
 some 262
 else
 bif r19 == x0.Node.Num then
 bif !(decide (r12.2.1 < x0.Node.Key)) then
 some 262
 else
 some 0
 else
 bif decide ((x0.Node.Watch.length : Int) ≤ r19) then
 some 262
 else
 bif decide (0 ≤ r19) then
 bif decide (r19 < (x0.Node.Watch.length : Int)) then
 bif rowIs [.i .i64, .i .i64, .i .i64, .b] x0.Node.Watch r19.toNat then
 bif asB (cell x0.Node.Watch r19.toNat 3) then
 bif decide (r12.2.1 < asI (cell x0.Node.Watch r19.toNat 0)) then
 some 0
 else
 bif (asI (cell x0.Node.Watch r19.toNat 0)) == r12.2.1 then
 bindO (beat_Dead x0.g_ (⟨asI (cell x0.Node.Watch r19.toNat 0), asI (cell x0.Node.Watch r19.toNat 1), asI (cell x0.Node.Watch r19.toNat 2), asB (cell x0.Node.Watch r19.toNat 3)⟩ : G_Watch) x0.Node.Clock) fun r20 =>
 bif !r20 then
 some 262
 else
 some 0
 else
 some 262
 else
 some 262
 else none
 else none
 else none
 else
 some 0
 else
 some 0
 else
 some 261
 else
 some 261
 else none
 else none
 else none
theorem repair_course_refuses_e (geo_May : G_Geo → Option Bool) (repair_Mine : (List (List V)) → Option Bool) (repair_course_claim : G_repair_course → Option (Int × Int × Bool × Unit)) (command_Of : Int → Option Int) (beat_Dead : G_Geo → G_Watch → Int → Option Bool) (a : G_repair_course × Unit) : symL Tryz.prog (tabS [(51, spE false (caC cd_Geo caN) cdB (fun a => geo_May a.1)), (52, spE false (caC cdR caN) cdB (fun a => repair_Mine a.1)), (24, spE false (caC (cdP (caA G_repair_course.ks G_repair_course.cs G_repair_course.of G_repair_course.h)) caN) (cdT (caC (cdI .i64) (caC (cdI .i64) (caC cdB caN)))) (fun a => repair_course_claim a.1)), (96, spE false (caC (cdI .i64) caN) (cdI .i64) (fun a => command_Of a.1)), (61, spE false (caC cd_Geo (caC cd_Watch (caC (cdI .i64) caN))) cdB (fun a => beat_Dead a.1 a.2.1 a.2.2.1))]) 10 30 .no 20 ((caC (cdP (caA G_repair_course.ks G_repair_course.cs G_repair_course.of G_repair_course.h)) caN).enc a) (outK (cdI .i64)) = repair_course_refuses_t geo_May repair_Mine repair_course_claim command_Of beat_Dead a.1 := by kernel_rfl
def repair_course_refuses (L : Nat) (x0 : G_repair_course) : Option Int := repair_course_refuses_t (geo_May L) (repair_Mine L) (repair_course_claim L) (command_Of L) (beat_Dead L) x0
theorem repair_course_refuses_c (L : Nat) : Ctr Tryz.prog 20 false (caC (cdP (caA G_repair_course.ks G_repair_course.cs G_repair_course.of G_repair_course.h)) caN) (cdI .i64) (fun a => repair_course_refuses L a.1) :=
 ctr_of mixed (sp := (tabS [(51, spE false (caC cd_Geo caN) cdB (fun a => (geo_May L) a.1)), (52, spE false (caC cdR caN) cdB (fun a => (repair_Mine L) a.1)), (24, spE false (caC (cdP (caA G_repair_course.ks G_repair_course.cs G_repair_course.of G_repair_course.h)) caN) (cdT (caC (cdI .i64) (caC (cdI .i64) (caC cdB caN)))) (fun a => (repair_course_claim L) a.1)), (96, spE false (caC (cdI .i64) caN) (cdI .i64) (fun a => (command_Of L) a.1)), (61, spE false (caC cd_Geo (caC cd_Watch (caC (cdI .i64) caN))) cdB (fun a => (beat_Dead L) a.1 a.2.1 a.2.2.1))])) (tabS_cons (geo_May_c L).ent (tabS_cons (repair_Mine_c L).ent (tabS_cons (repair_course_claim_c L).ent (tabS_cons (command_Of_c L).ent (tabS_cons (beat_Dead_c L).ent tabS_nil))))) (lt := .no) (x := bodyOf Tryz.f20) Tryz.func20 (by kernel_rfl) (ltN _) (ldN _) fun a => repair_course_refuses_e (geo_May L) (repair_Mine L) (repair_course_claim L) (command_Of L) (beat_Dead L) a
abbrev geo_regions_t (geo_May : G_Geo → Option Bool) (x0 : G_Geo) : Option (List (List V)) :=
 bindO (geo_May x0) fun r1 =>
 bif !r1 then
 some ([])
 else
 some ([[V.int .i64 0, V.int .i64 1, V.int .i8 1, V.int .i64 1], [V.int .i64 1, V.int .i64 (IntKind.i64.wrap (x0.Nodes * 1)), V.int .i8 2, V.int .i64 1], [V.int .i64 (IntKind.i64.wrap (1 + (IntKind.i64.wrap (x0.Nodes * 1)))), V.int .i64 (IntKind.i64.wrap (x0.Nodes * 1)), V.int .i8 3, V.int .i64 1], [V.int .i64 (IntKind.i64.wrap ((IntKind.i64.wrap (1 + (IntKind.i64.wrap (x0.Nodes * 1)))) + (IntKind.i64.wrap (x0.Nodes * 1)))), V.int .i64 (IntKind.i64.wrap (x0.Log * 1)), V.int .i8 4, V.int .i64 1], [V.int .i64 (IntKind.i64.wrap ((IntKind.i64.wrap ((IntKind.i64.wrap (1 + (IntKind.i64.wrap (x0.Nodes * 1)))) + (IntKind.i64.wrap (x0.Nodes * 1)))) + (IntKind.i64.wrap (x0.Log * 1)))), V.int .i64 (IntKind.i64.wrap (x0.Slots * (IntKind.i64.wrap (1 + x0.Journal)))), V.int .i8 6, V.int .i64 (IntKind.i64.wrap (1 + x0.Journal))], [V.int .i64 (IntKind.i64.wrap ((IntKind.i64.wrap ((IntKind.i64.wrap ((IntKind.i64.wrap (1 + (IntKind.i64.wrap (x0.Nodes * 1)))) + (IntKind.i64.wrap (x0.Nodes * 1)))) + (IntKind.i64.wrap (x0.Log * 1)))) + (IntKind.i64.wrap (x0.Slots * (IntKind.i64.wrap (1 + x0.Journal)))))), V.int .i64 (IntKind.i64.wrap (x0.Blocks * x0.Per)), V.int .i8 7, V.int .i64 x0.Per]])
theorem geo_regions_e (geo_May : G_Geo → Option Bool) (a : G_Geo × Unit) : symL Tryz.prog (tabS [(51, spE false (caC cd_Geo caN) cdB (fun a => geo_May a.1))]) 10 30 .no 132 ((caC cd_Geo caN).enc a) (outK cdR) = geo_regions_t geo_May a.1 := by kernel_rfl
def geo_regions (L : Nat) (x0 : G_Geo) : Option (List (List V)) := geo_regions_t (geo_May L) x0
theorem geo_regions_c (L : Nat) : Ctr Tryz.prog 132 false (caC cd_Geo caN) cdR (fun a => geo_regions L a.1) :=
 ctr_of mixed (sp := (tabS [(51, spE false (caC cd_Geo caN) cdB (fun a => (geo_May L) a.1))])) (tabS_cons (geo_May_c L).ent tabS_nil) (lt := .no) (x := bodyOf Tryz.f132) Tryz.func132 (by kernel_rfl) (ltN _) (ldN _) fun a => geo_regions_e (geo_May L) a
abbrev geo_find_F0 {α : Type} (s : Int × G_geo_region × (List (List V)) × Int × Int × Unit) (kn : (Int × G_geo_region × (List (List V)) × Int × Int × Unit) → Option α) (k0 : (G_geo_region × Unit) → Option α) (k1 : (G_geo_region × Unit) → Option α) : Option α :=
 bif decide (s.2.2.2.2.1 < s.2.2.2.1) then
 bif decide (0 ≤ s.2.2.2.2.1) then
 bif decide (s.2.2.2.2.1 < (s.2.2.1.length : Int)) then
 bif rowIs [.i .i64, .i .i64, .i .i8, .i .i64] s.2.2.1 s.2.2.2.2.1.toNat then
 bif (asI (cell s.2.2.1 s.2.2.2.2.1.toNat 2)) == s.1 then
 k1 ((⟨(⟨asI (cell s.2.2.1 s.2.2.2.2.1.toNat 0), asI (cell s.2.2.1 s.2.2.2.2.1.toNat 1)⟩ : G_geo_stretch), asI (cell s.2.2.1 s.2.2.2.2.1.toNat 2), asI (cell s.2.2.1 s.2.2.2.2.1.toNat 3)⟩ : G_geo_region), ())
 else
 kn (s.1, s.2.1, s.2.2.1, s.2.2.2.1, IntKind.i64.wrap (s.2.2.2.2.1 + 1), ())
 else none
 else none
 else none
 else
 k0 (s.2.1, ())
def geo_find_F0_live : List (Nat × Md) := [(1, .p), (4, .o [.p, .p, .p, .p]), (8, .p), (9, .p), (10, .p)]
def geo_find_F0_outs : AEx → List (Nat × Md) := (fun e => match e with | .exit i => bif Nat.beq i 0 then [(4, .o [.p, .p, .p, .p])] else [] | .ret => [(4, .o [.p, .p, .p, .p])] | .normal => [])
def geo_find_F0_cl : Cl (Int × G_geo_region × (List (List V)) × Int × Int × Unit) := (clC (cxV (ceP (cdI .i8))) (clC (cxO (czA (caA G_geo_region.ks G_geo_region.cs G_geo_region.of G_geo_region.h)) 4) (clC (cxV (ceP cdR)) (clC (cxV (ceP (cdI .i64))) (clC (cxV (ceP (cdI .i64))) clN)))))
def geo_find_F0_c0 : Cl (G_geo_region × Unit) := (clC (cxO (czA (caA G_geo_region.ks G_geo_region.cs G_geo_region.of G_geo_region.h)) 4) clN)
def geo_find_F0_c1 : Cl (G_geo_region × Unit) := (clC (cxO (czA (caA G_geo_region.ks G_geo_region.cs G_geo_region.of G_geo_region.h)) 4) clN)
theorem geo_find_F0_e {α : Type} (s : Int × G_geo_region × (List (List V)) × Int × Int × Unit) (Kn : List AV → Option α) (Ke : AEx → List AV → Option α) : stepS Tryz.prog (tabS []) 10 30 (lcode Tryz.f100 [1, 0, 1, 0]) .no geo_find_F0_live geo_find_F0_outs (geo_find_F0_cl.enc s) Kn Ke = geo_find_F0 s (fun a => Kn (geo_find_F0_cl.enc a)) (fun a => Ke (.exit 0) (geo_find_F0_c0.enc a)) (fun a => Ke .ret (geo_find_F0_c1.enc a)) := by kernel_rfl
abbrev geo_find_t (geo_regions : G_Geo → Option (List (List V))) (F0 : (Int × G_geo_region × (List (List V)) × Int × Int × Unit) → ((G_geo_region × Unit) → Option (G_geo_region)) → ((G_geo_region × Unit) → Option (G_geo_region)) → Option (G_geo_region)) (x0 : G_Geo) (x1 : Int) : Option G_geo_region :=
 bindO (geo_regions x0) fun r1 =>
 F0 (x1, G_geo_region.z, r1, (r1.length : Int), 0, ()) (fun q2 =>
 some (⟨G_geo_stretch.z, 0, 1⟩ : G_geo_region)) (fun q3 =>
 some q3.1)
theorem geo_find_e (geo_regions : G_Geo → Option (List (List V))) (F0 : (Int × G_geo_region × (List (List V)) × Int × Int × Unit) → ((G_geo_region × Unit) → Option (G_geo_region)) → ((G_geo_region × Unit) → Option (G_geo_region)) → Option (G_geo_region)) (a : G_Geo × Int × Unit) : symL Tryz.prog (tabS [(132, spE false (caC cd_Geo caN) cdR (fun a => geo_regions a.1))]) 10 30 (.two .no (.two (.two .no (.one (.lp ⟨geo_find_F0_live, geo_find_F0_outs, run2 geo_find_F0_cl (.exit 0) geo_find_F0_c0 .ret geo_find_F0_c1 F0⟩))) .no)) 100 ((caC cd_Geo (caC (cdI .i8) caN)).enc a) (outK cd_geo_region) = geo_find_t geo_regions F0 a.1 a.2.1 := by kernel_rfl
def geo_find (L : Nat) (x0 : G_Geo) (x1 : Int) : Option G_geo_region := geo_find_t (geo_regions L) (loop2 (geo_find_F0) L) x0 x1
theorem geo_find_F0_ok {α : Type} (L : Nat) : LOk Tryz.prog Tryz.f100.ntmps (lcode Tryz.f100 [1, 0, 1, 0]) (⟨geo_find_F0_live, geo_find_F0_outs, run2 geo_find_F0_cl (.exit 0) geo_find_F0_c0 .ret geo_find_F0_c1 (loop2 (geo_find_F0) L)⟩ : LSpec α) ∧ LDet (⟨geo_find_F0_live, geo_find_F0_outs, run2 geo_find_F0_cl (.exit 0) geo_find_F0_c0 .ret geo_find_F0_c1 (loop2 (geo_find_F0) L)⟩ : LSpec α) :=
 lspec2 (σ := Int × G_geo_region × (List (List V)) × Int × Int × Unit) (cl := geo_find_F0_cl) (ca := geo_find_F0_c0) (cb := geo_find_F0_c1) (sp := (tabS [])) mixed tabS_nil (L := 10) (n := 30) (t := .no) (okL_of (by kernel_rfl)) (ltN _) (ldN _) (by kernel_rfl) (geo_find_F0_e) L
theorem geo_find_c (L : Nat) : Ctr Tryz.prog 100 false (caC cd_Geo (caC (cdI .i8) caN)) cd_geo_region (fun a => geo_find L a.1 a.2.1) :=
 ctr_of mixed (sp := (tabS [(132, spE false (caC cd_Geo caN) cdR (fun a => (geo_regions L) a.1))])) (tabS_cons (geo_regions_c L).ent tabS_nil) (lt := (.two .no (.two (.two .no (.one (.lp ⟨geo_find_F0_live, geo_find_F0_outs, run2 geo_find_F0_cl (.exit 0) geo_find_F0_c0 .ret geo_find_F0_c1 (loop2 (geo_find_F0) L)⟩))) .no))) (x := bodyOf Tryz.f100) Tryz.func100 (by kernel_rfl) (ltS (ltN _) (ltS (ltS (ltN _) (ltB (ltL (geo_find_F0_ok L).1))) (ltN _))) (ldS (ldN _) (ldS (ldS (ldN _) (ldB (ldL (geo_find_F0_ok L).2))) (ldN _))) fun a => geo_find_e (geo_regions L) (loop2 (geo_find_F0) L) a
abbrev geo_stretch_at_t (x0 : G_geo_stretch) (x1 : Int) : Option Int :=
 bif decide (x1 < 0) then
 some (-1)
 else
 bif decide (x0.many_ ≤ x1) then
 some (-1)
 else
 some (IntKind.i64.wrap (x0.first_ + x1))
theorem geo_stretch_at_e (a : G_geo_stretch × Int × Unit) : symL Tryz.prog (tabS []) 10 30 .no 101 ((caC cd_geo_stretch (caC (cdI .i64) caN)).enc a) (outK (cdI .i64)) = geo_stretch_at_t a.1 a.2.1 := by kernel_rfl
def geo_stretch_at (L : Nat) (x0 : G_geo_stretch) (x1 : Int) : Option Int := geo_stretch_at_t x0 x1
theorem geo_stretch_at_c (L : Nat) : Ctr Tryz.prog 101 false (caC cd_geo_stretch (caC (cdI .i64) caN)) (cdI .i64) (fun a => geo_stretch_at L a.1 a.2.1) :=
 ctr_of mixed (sp := (tabS [])) tabS_nil (lt := .no) (x := bodyOf Tryz.f101) Tryz.func101 (by kernel_rfl) (ltN _) (ldN _) fun a => geo_stretch_at_e a
abbrev geo_of_t (geo_find : G_Geo → Int → Option G_geo_region) (geo_stretch_at : G_geo_stretch → Int → Option Int) (x0 : G_Geo) (x1 : Int) (x2 : Int) (x3 : Int) : Option Int :=
 bindO (geo_find x0 x1) fun r1 =>
 bif decide (x2 < 0) then
 some (-1)
 else
 bif !(decide (r1.per_ = 0)) then
 bif decide (IntKind.i64.wrap (r1.stretch_.many_.tdiv r1.per_) ≤ x2) then
 some (-1)
 else
 bif decide (x3 < 0) then
 some (-1)
 else
 bif decide (r1.per_ ≤ x3) then
 some (-1)
 else
 bindO (geo_stretch_at r1.stretch_ (IntKind.i64.wrap ((IntKind.i64.wrap (x2 * r1.per_)) + x3))) fun r2 =>
 some r2
 else none
theorem geo_of_e (geo_find : G_Geo → Int → Option G_geo_region) (geo_stretch_at : G_geo_stretch → Int → Option Int) (a : G_Geo × Int × Int × Int × Unit) : symL Tryz.prog (tabS [(100, spE false (caC cd_Geo (caC (cdI .i8) caN)) cd_geo_region (fun a => geo_find a.1 a.2.1)), (101, spE false (caC cd_geo_stretch (caC (cdI .i64) caN)) (cdI .i64) (fun a => geo_stretch_at a.1 a.2.1))]) 10 30 .no 53 ((caC cd_Geo (caC (cdI .i8) (caC (cdI .i64) (caC (cdI .i64) caN)))).enc a) (outK (cdI .i64)) = geo_of_t geo_find geo_stretch_at a.1 a.2.1 a.2.2.1 a.2.2.2.1 := by kernel_rfl
def geo_of (L : Nat) (x0 : G_Geo) (x1 : Int) (x2 : Int) (x3 : Int) : Option Int := geo_of_t (geo_find L) (geo_stretch_at L) x0 x1 x2 x3
theorem geo_of_c (L : Nat) : Ctr Tryz.prog 53 false (caC cd_Geo (caC (cdI .i8) (caC (cdI .i64) (caC (cdI .i64) caN)))) (cdI .i64) (fun a => geo_of L a.1 a.2.1 a.2.2.1 a.2.2.2.1) :=
 ctr_of mixed (sp := (tabS [(100, spE false (caC cd_Geo (caC (cdI .i8) caN)) cd_geo_region (fun a => (geo_find L) a.1 a.2.1)), (101, spE false (caC cd_geo_stretch (caC (cdI .i64) caN)) (cdI .i64) (fun a => (geo_stretch_at L) a.1 a.2.1))])) (tabS_cons (geo_find_c L).ent (tabS_cons (geo_stretch_at_c L).ent tabS_nil)) (lt := .no) (x := bodyOf Tryz.f53) Tryz.func53 (by kernel_rfl) (ltN _) (ldN _) fun a => geo_of_e (geo_find L) (geo_stretch_at L) a
abbrev geo_Lease_t (geo_of : G_Geo → Int → Int → Int → Option Int) (x0 : G_Geo) (x1 : Int) : Option Int :=
 bindO (geo_of x0 2 x1 0) fun r1 =>
 some r1
theorem geo_Lease_e (geo_of : G_Geo → Int → Int → Int → Option Int) (a : G_Geo × Int × Unit) : symL Tryz.prog (tabS [(53, spE false (caC cd_Geo (caC (cdI .i8) (caC (cdI .i64) (caC (cdI .i64) caN)))) (cdI .i64) (fun a => geo_of a.1 a.2.1 a.2.2.1 a.2.2.2.1))]) 10 30 .no 23 ((caC cd_Geo (caC (cdI .i64) caN)).enc a) (outK (cdI .i64)) = geo_Lease_t geo_of a.1 a.2.1 := by kernel_rfl
def geo_Lease (L : Nat) (x0 : G_Geo) (x1 : Int) : Option Int := geo_Lease_t (geo_of L) x0 x1
theorem geo_Lease_c (L : Nat) : Ctr Tryz.prog 23 false (caC cd_Geo (caC (cdI .i64) caN)) (cdI .i64) (fun a => geo_Lease L a.1 a.2.1) :=
 ctr_of mixed (sp := (tabS [(53, spE false (caC cd_Geo (caC (cdI .i8) (caC (cdI .i64) (caC (cdI .i64) caN)))) (cdI .i64) (fun a => (geo_of L) a.1 a.2.1 a.2.2.1 a.2.2.2.1))])) (tabS_cons (geo_of_c L).ent tabS_nil) (lt := .no) (x := bodyOf Tryz.f23) Tryz.func23 (by kernel_rfl) (ltN _) (ldN _) fun a => geo_Lease_e (geo_of L) a
abbrev geo_Log_t (geo_of : G_Geo → Int → Int → Int → Option Int) (x0 : G_Geo) (x1 : Int) : Option Int :=
 bindO (geo_of x0 4 x1 0) fun r1 =>
 some r1
theorem geo_Log_e (geo_of : G_Geo → Int → Int → Int → Option Int) (a : G_Geo × Int × Unit) : symL Tryz.prog (tabS [(53, spE false (caC cd_Geo (caC (cdI .i8) (caC (cdI .i64) (caC (cdI .i64) caN)))) (cdI .i64) (fun a => geo_of a.1 a.2.1 a.2.2.1 a.2.2.2.1))]) 10 30 .no 56 ((caC cd_Geo (caC (cdI .i64) caN)).enc a) (outK (cdI .i64)) = geo_Log_t geo_of a.1 a.2.1 := by kernel_rfl
def geo_Log (L : Nat) (x0 : G_Geo) (x1 : Int) : Option Int := geo_Log_t (geo_of L) x0 x1
theorem geo_Log_c (L : Nat) : Ctr Tryz.prog 56 false (caC cd_Geo (caC (cdI .i64) caN)) (cdI .i64) (fun a => geo_Log L a.1 a.2.1) :=
 ctr_of mixed (sp := (tabS [(53, spE false (caC cd_Geo (caC (cdI .i8) (caC (cdI .i64) (caC (cdI .i64) caN)))) (cdI .i64) (fun a => (geo_of L) a.1 a.2.1 a.2.2.1 a.2.2.2.1))])) (tabS_cons (geo_of_c L).ent tabS_nil) (lt := .no) (x := bodyOf Tryz.f56) Tryz.func56 (by kernel_rfl) (ltN _) (ldN _) fun a => geo_Log_e (geo_of L) a
abbrev learn_Want_t (geo_Log : G_Geo → Int → Option Int) (x0 : G_Geo) (x1 : Int) : Option G_Act :=
 bindO (geo_Log x0 x1) fun r1 =>
 bif decide (0 ≤ r1) then
 some (⟨1, r1, noS, 0⟩ : G_Act)
 else
 some G_Act.z
theorem learn_Want_e (geo_Log : G_Geo → Int → Option Int) (a : G_Geo × Int × Unit) : symL Tryz.prog (tabS [(56, spE false (caC cd_Geo (caC (cdI .i64) caN)) (cdI .i64) (fun a => geo_Log a.1 a.2.1))]) 10 30 .no 134 ((caC cd_Geo (caC (cdI .i64) caN)).enc a) (outK cd_Act) = learn_Want_t geo_Log a.1 a.2.1 := by kernel_rfl
def learn_Want (L : Nat) (x0 : G_Geo) (x1 : Int) : Option G_Act := learn_Want_t (geo_Log L) x0 x1
theorem learn_Want_c (L : Nat) : Ctr Tryz.prog 134 false (caC cd_Geo (caC (cdI .i64) caN)) cd_Act (fun a => learn_Want L a.1 a.2.1) :=
 ctr_of mixed (sp := (tabS [(56, spE false (caC cd_Geo (caC (cdI .i64) caN)) (cdI .i64) (fun a => (geo_Log L) a.1 a.2.1))])) (tabS_cons (geo_Log_c L).ent tabS_nil) (lt := .no) (x := bodyOf Tryz.f134) Tryz.func134 (by kernel_rfl) (ltN _) (ldN _) fun a => learn_Want_e (geo_Log L) a
abbrev paxos_places_1_t (learn_Want : G_Geo → Int → Option G_Act) (x0 : G_paxos_run) : Option G_Act :=
 bindO (learn_Want x0.g_ x0.done_) fun r1 =>
 some r1
theorem paxos_places_1_e (learn_Want : G_Geo → Int → Option G_Act) (a : G_paxos_run × Unit) : symL Tryz.prog (tabS [(134, spE false (caC cd_Geo (caC (cdI .i64) caN)) cd_Act (fun a => learn_Want a.1 a.2.1))]) 10 30 .no 133 ((caC (cdP (caA G_paxos_run.ks G_paxos_run.cs G_paxos_run.of G_paxos_run.h)) caN).enc a) (outK cd_Act) = paxos_places_1_t learn_Want a.1 := by kernel_rfl
def paxos_places_1 (L : Nat) (x0 : G_paxos_run) : Option G_Act := paxos_places_1_t (learn_Want L) x0
theorem paxos_places_1_c (L : Nat) : Ctr Tryz.prog 133 false (caC (cdP (caA G_paxos_run.ks G_paxos_run.cs G_paxos_run.of G_paxos_run.h)) caN) cd_Act (fun a => paxos_places_1 L a.1) :=
 ctr_of mixed (sp := (tabS [(134, spE false (caC cd_Geo (caC (cdI .i64) caN)) cd_Act (fun a => (learn_Want L) a.1 a.2.1))])) (tabS_cons (learn_Want_c L).ent tabS_nil) (lt := .no) (x := bodyOf Tryz.f133) Tryz.func133 (by kernel_rfl) (ltN _) (ldN _) fun a => paxos_places_1_e (learn_Want L) a
abbrev command_order_span_t (x0 : G_command_order) : Option Bool :=
 bif decide (0 ≤ x0.Cmd.Span.Lo) then
 bif decide (x0.Cmd.Span.Lo ≤ x0.Cmd.Span.Hi) then
 some (decide (x0.Cmd.Span.Hi < 64))
 else
 some false
 else
 some false
theorem command_order_span_e (a : G_command_order × Unit) : symL Tryz.prog (tabS []) 10 30 .no 249 ((caC (cdP (caA G_command_order.ks G_command_order.cs G_command_order.of G_command_order.h)) caN).enc a) (outK cdB) = command_order_span_t a.1 := by kernel_rfl
def command_order_span (L : Nat) (x0 : G_command_order) : Option Bool := command_order_span_t x0
theorem command_order_span_c (L : Nat) : Ctr Tryz.prog 249 false (caC (cdP (caA G_command_order.ks G_command_order.cs G_command_order.of G_command_order.h)) caN) cdB (fun a => command_order_span L a.1) :=
 ctr_of mixed (sp := (tabS [])) tabS_nil (lt := .no) (x := bodyOf Tryz.f249) Tryz.func249 (by kernel_rfl) (ltN _) (ldN _) fun a => command_order_span_e a
abbrev command_order_only_P0 {α : Type} (command_order_span : G_command_order → Option Bool) (command_Key : Int → Option Bool) (s : G_command_order × Bool × Bool × Bool × Bool × Unit) (k0 : (Bool × Unit) → Option α) : Option α :=
 bif s.2.1 then
 bindO (command_order_span s.1) fun r1 =>
 bif r1 then
 bif s.2.2.1 then
 bif s.1.Cmd.Mode == 1 then
 bif s.2.2.2.1 then
 bindO (command_Key s.1.Cmd.Dead) fun r2 =>
 bif r2 then
 bif s.1.Cmd.Was == 0 then
 k0 (true, ())
 else
 bif s.2.2.2.2.1 then
 bindO (command_Key s.1.Cmd.Was) fun r3 =>
 k0 (r3, ())
 else
 k0 (false, ())
 else
 bif !s.2.2.2.1 then
 bif s.1.Cmd.Dead == 0 then
 bif s.1.Cmd.Was == 0 then
 k0 (true, ())
 else
 bif s.2.2.2.2.1 then
 bindO (command_Key s.1.Cmd.Was) fun r4 =>
 k0 (r4, ())
 else
 k0 (false, ())
 else
 k0 (false, ())
 else
 k0 (false, ())
 else
 bif !s.2.2.2.1 then
 bif s.1.Cmd.Dead == 0 then
 bif s.1.Cmd.Was == 0 then
 k0 (true, ())
 else
 bif s.2.2.2.2.1 then
 bindO (command_Key s.1.Cmd.Was) fun r5 =>
 k0 (r5, ())
 else
 k0 (false, ())
 else
 k0 (false, ())
 else
 k0 (false, ())
 else
 bif s.1.Cmd.Mode == 2 then
 bif s.2.2.2.1 then
 bindO (command_Key s.1.Cmd.Dead) fun r6 =>
 bif r6 then
 bif s.1.Cmd.Was == 0 then
 k0 (true, ())
 else
 bif s.2.2.2.2.1 then
 bindO (command_Key s.1.Cmd.Was) fun r7 =>
 k0 (r7, ())
 else
 k0 (false, ())
 else
 bif !s.2.2.2.1 then
 bif s.1.Cmd.Dead == 0 then
 bif s.1.Cmd.Was == 0 then
 k0 (true, ())
 else
 bif s.2.2.2.2.1 then
 bindO (command_Key s.1.Cmd.Was) fun r8 =>
 k0 (r8, ())
 else
 k0 (false, ())
 else
 k0 (false, ())
 else
 k0 (false, ())
 else
 bif !s.2.2.2.1 then
 bif s.1.Cmd.Dead == 0 then
 bif s.1.Cmd.Was == 0 then
 k0 (true, ())
 else
 bif s.2.2.2.2.1 then
 bindO (command_Key s.1.Cmd.Was) fun r9 =>
 k0 (r9, ())
 else
 k0 (false, ())
 else
 k0 (false, ())
 else
 k0 (false, ())
 else
 bif !s.2.2.1 then
 bif s.1.Cmd.Mode == 0 then
 bif s.2.2.2.1 then
 bindO (command_Key s.1.Cmd.Dead) fun r10 =>
 bif r10 then
 bif s.1.Cmd.Was == 0 then
 k0 (true, ())
 else
 bif s.2.2.2.2.1 then
 bindO (command_Key s.1.Cmd.Was) fun r11 =>
 k0 (r11, ())
 else
 k0 (false, ())
 else
 bif !s.2.2.2.1 then
 bif s.1.Cmd.Dead == 0 then
 bif s.1.Cmd.Was == 0 then
 k0 (true, ())
 else
 bif s.2.2.2.2.1 then
 bindO (command_Key s.1.Cmd.Was) fun r12 =>
 k0 (r12, ())
 else
 k0 (false, ())
 else
 k0 (false, ())
 else
 k0 (false, ())
 else
 bif !s.2.2.2.1 then
 bif s.1.Cmd.Dead == 0 then
 bif s.1.Cmd.Was == 0 then
 k0 (true, ())
 else
 bif s.2.2.2.2.1 then
 bindO (command_Key s.1.Cmd.Was) fun r13 =>
 k0 (r13, ())
 else
 k0 (false, ())
 else
 k0 (false, ())
 else
 k0 (false, ())
 else
 k0 (false, ())
 else
 k0 (false, ())
 else
 bif !s.2.2.1 then
 bif s.1.Cmd.Mode == 0 then
 bif s.2.2.2.1 then
 bindO (command_Key s.1.Cmd.Dead) fun r14 =>
 bif r14 then
 bif s.1.Cmd.Was == 0 then
 k0 (true, ())
 else
 bif s.2.2.2.2.1 then
 bindO (command_Key s.1.Cmd.Was) fun r15 =>
 k0 (r15, ())
 else
 k0 (false, ())
 else
 bif !s.2.2.2.1 then
 bif s.1.Cmd.Dead == 0 then
 bif s.1.Cmd.Was == 0 then
 k0 (true, ())
 else
 bif s.2.2.2.2.1 then
 bindO (command_Key s.1.Cmd.Was) fun r16 =>
 k0 (r16, ())
 else
 k0 (false, ())
 else
 k0 (false, ())
 else
 k0 (false, ())
 else
 bif !s.2.2.2.1 then
 bif s.1.Cmd.Dead == 0 then
 bif s.1.Cmd.Was == 0 then
 k0 (true, ())
 else
 bif s.2.2.2.2.1 then
 bindO (command_Key s.1.Cmd.Was) fun r17 =>
 k0 (r17, ())
 else
 k0 (false, ())
 else
 k0 (false, ())
 else
 k0 (false, ())
 else
 k0 (false, ())
 else
 k0 (false, ())
 else
 bif !s.2.1 then
 bif (s.1.Cmd.Span.Lo == 0) && ((s.1.Cmd.Span.Hi == 0) && true) then
 bif s.2.2.1 then
 bif s.1.Cmd.Mode == 1 then
 bif s.2.2.2.1 then
 bindO (command_Key s.1.Cmd.Dead) fun r18 =>
 bif r18 then
 bif s.1.Cmd.Was == 0 then
 k0 (true, ())
 else
 bif s.2.2.2.2.1 then
 bindO (command_Key s.1.Cmd.Was) fun r19 =>
 k0 (r19, ())
 else
 k0 (false, ())
 else
 bif !s.2.2.2.1 then
 bif s.1.Cmd.Dead == 0 then
 bif s.1.Cmd.Was == 0 then
 k0 (true, ())
 else
 bif s.2.2.2.2.1 then
 bindO (command_Key s.1.Cmd.Was) fun r20 =>
 k0 (r20, ())
 else
 k0 (false, ())
 else
 k0 (false, ())
 else
 k0 (false, ())
 else
 bif !s.2.2.2.1 then
 bif s.1.Cmd.Dead == 0 then
 bif s.1.Cmd.Was == 0 then
 k0 (true, ())
 else
 bif s.2.2.2.2.1 then
 bindO (command_Key s.1.Cmd.Was) fun r21 =>
 k0 (r21, ())
 else
 k0 (false, ())
 else
 k0 (false, ())
 else
 k0 (false, ())
 else
 bif s.1.Cmd.Mode == 2 then
 bif s.2.2.2.1 then
 bindO (command_Key s.1.Cmd.Dead) fun r22 =>
 bif r22 then
 bif s.1.Cmd.Was == 0 then
 k0 (true, ())
 else
 bif s.2.2.2.2.1 then
 bindO (command_Key s.1.Cmd.Was) fun r23 =>
 k0 (r23, ())
 else
 k0 (false, ())
 else
 bif !s.2.2.2.1 then
 bif s.1.Cmd.Dead == 0 then
 bif s.1.Cmd.Was == 0 then
 k0 (true, ())
 else
 bif s.2.2.2.2.1 then
 bindO (command_Key s.1.Cmd.Was) fun r24 =>
 k0 (r24, ())
 else
 k0 (false, ())
 else
 k0 (false, ())
 else
 k0 (false, ())
 else
 bif !s.2.2.2.1 then
 bif s.1.Cmd.Dead == 0 then
 bif s.1.Cmd.Was == 0 then
 k0 (true, ())
 else
 bif s.2.2.2.2.1 then
 bindO (command_Key s.1.Cmd.Was) fun r25 =>
 k0 (r25, ())
 else
 k0 (false, ())
 else
 k0 (false, ())
 else
 k0 (false, ())
 else
 bif !s.2.2.1 then
 bif s.1.Cmd.Mode == 0 then
 bif s.2.2.2.1 then
 bindO (command_Key s.1.Cmd.Dead) fun r26 =>
 bif r26 then
 bif s.1.Cmd.Was == 0 then
 k0 (true, ())
 else
 bif s.2.2.2.2.1 then
 bindO (command_Key s.1.Cmd.Was) fun r27 =>
 k0 (r27, ())
 else
 k0 (false, ())
 else
 bif !s.2.2.2.1 then
 bif s.1.Cmd.Dead == 0 then
 bif s.1.Cmd.Was == 0 then
 k0 (true, ())
 else
 bif s.2.2.2.2.1 then
 bindO (command_Key s.1.Cmd.Was) fun r28 =>
 k0 (r28, ())
 else
 k0 (false, ())
 else
 k0 (false, ())
 else
 k0 (false, ())
 else
 bif !s.2.2.2.1 then
 bif s.1.Cmd.Dead == 0 then
 bif s.1.Cmd.Was == 0 then
 k0 (true, ())
 else
 bif s.2.2.2.2.1 then
 bindO (command_Key s.1.Cmd.Was) fun r29 =>
 k0 (r29, ())
 else
 k0 (false, ())
 else
 k0 (false, ())
 else
 k0 (false, ())
 else
 k0 (false, ())
 else
 k0 (false, ())
 else
 bif !s.2.2.1 then
 bif s.1.Cmd.Mode == 0 then
 bif s.2.2.2.1 then
 bindO (command_Key s.1.Cmd.Dead) fun r30 =>
 bif r30 then
 bif s.1.Cmd.Was == 0 then
 k0 (true, ())
 else
 bif s.2.2.2.2.1 then
 bindO (command_Key s.1.Cmd.Was) fun r31 =>
 k0 (r31, ())
 else
 k0 (false, ())
 else
 bif !s.2.2.2.1 then
 bif s.1.Cmd.Dead == 0 then
 bif s.1.Cmd.Was == 0 then
 k0 (true, ())
 else
 bif s.2.2.2.2.1 then
 bindO (command_Key s.1.Cmd.Was) fun r32 =>
 k0 (r32, ())
 else
 k0 (false, ())
 else
 k0 (false, ())
 else
 k0 (false, ())
 else
 bif !s.2.2.2.1 then
 bif s.1.Cmd.Dead == 0 then
 bif s.1.Cmd.Was == 0 then
 k0 (true, ())
 else
 bif s.2.2.2.2.1 then
 bindO (command_Key s.1.Cmd.Was) fun r33 =>
 k0 (r33, ())
 else
 k0 (false, ())
 else
 k0 (false, ())
 else
 k0 (false, ())
 else
 k0 (false, ())
 else
 k0 (false, ())
 else
 k0 (false, ())
 else
 k0 (false, ())
 else
 bif !s.2.1 then
 bif (s.1.Cmd.Span.Lo == 0) && ((s.1.Cmd.Span.Hi == 0) && true) then
 bif s.2.2.1 then
 bif s.1.Cmd.Mode == 1 then
 bif s.2.2.2.1 then
 bindO (command_Key s.1.Cmd.Dead) fun r34 =>
 bif r34 then
 bif s.1.Cmd.Was == 0 then
 k0 (true, ())
 else
 bif s.2.2.2.2.1 then
 bindO (command_Key s.1.Cmd.Was) fun r35 =>
 k0 (r35, ())
 else
 k0 (false, ())
 else
 bif !s.2.2.2.1 then
 bif s.1.Cmd.Dead == 0 then
 bif s.1.Cmd.Was == 0 then
 k0 (true, ())
 else
 bif s.2.2.2.2.1 then
 bindO (command_Key s.1.Cmd.Was) fun r36 =>
 k0 (r36, ())
 else
 k0 (false, ())
 else
 k0 (false, ())
 else
 k0 (false, ())
 else
 bif !s.2.2.2.1 then
 bif s.1.Cmd.Dead == 0 then
 bif s.1.Cmd.Was == 0 then
 k0 (true, ())
 else
 bif s.2.2.2.2.1 then
 bindO (command_Key s.1.Cmd.Was) fun r37 =>
 k0 (r37, ())
 else
 k0 (false, ())
 else
 k0 (false, ())
 else
 k0 (false, ())
 else
 bif s.1.Cmd.Mode == 2 then
 bif s.2.2.2.1 then
 bindO (command_Key s.1.Cmd.Dead) fun r38 =>
 bif r38 then
 bif s.1.Cmd.Was == 0 then
 k0 (true, ())
 else
 bif s.2.2.2.2.1 then
 bindO (command_Key s.1.Cmd.Was) fun r39 =>
 k0 (r39, ())
 else
 k0 (false, ())
 else
 bif !s.2.2.2.1 then
 bif s.1.Cmd.Dead == 0 then
 bif s.1.Cmd.Was == 0 then
 k0 (true, ())
 else
 bif s.2.2.2.2.1 then
 bindO (command_Key s.1.Cmd.Was) fun r40 =>
 k0 (r40, ())
 else
 k0 (false, ())
 else
 k0 (false, ())
 else
 k0 (false, ())
 else
 bif !s.2.2.2.1 then
 bif s.1.Cmd.Dead == 0 then
 bif s.1.Cmd.Was == 0 then
 k0 (true, ())
 else
 bif s.2.2.2.2.1 then
 bindO (command_Key s.1.Cmd.Was) fun r41 =>
 k0 (r41, ())
 else
 k0 (false, ())
 else
 k0 (false, ())
 else
 k0 (false, ())
 else
 bif !s.2.2.1 then
 bif s.1.Cmd.Mode == 0 then
 bif s.2.2.2.1 then
 bindO (command_Key s.1.Cmd.Dead) fun r42 =>
 bif r42 then
 bif s.1.Cmd.Was == 0 then
 k0 (true, ())
 else
 bif s.2.2.2.2.1 then
 bindO (command_Key s.1.Cmd.Was) fun r43 =>
 k0 (r43, ())
 else
 k0 (false, ())
 else
 bif !s.2.2.2.1 then
 bif s.1.Cmd.Dead == 0 then
 bif s.1.Cmd.Was == 0 then
 k0 (true, ())
 else
 bif s.2.2.2.2.1 then
 bindO (command_Key s.1.Cmd.Was) fun r44 =>
 k0 (r44, ())
 else
 k0 (false, ())
 else
 k0 (false, ())
 else
 k0 (false, ())
 else
 bif !s.2.2.2.1 then
 bif s.1.Cmd.Dead == 0 then
 bif s.1.Cmd.Was == 0 then
 k0 (true, ())
 else
 bif s.2.2.2.2.1 then
 bindO (command_Key s.1.Cmd.Was) fun r45 =>
 k0 (r45, ())
 else
 k0 (false, ())
 else
 k0 (false, ())
 else
 k0 (false, ())
 else
 k0 (false, ())
 else
 k0 (false, ())
 else
 bif !s.2.2.1 then
 bif s.1.Cmd.Mode == 0 then
 bif s.2.2.2.1 then
 bindO (command_Key s.1.Cmd.Dead) fun r46 =>
 bif r46 then
 bif s.1.Cmd.Was == 0 then
 k0 (true, ())
 else
 bif s.2.2.2.2.1 then
 bindO (command_Key s.1.Cmd.Was) fun r47 =>
 k0 (r47, ())
 else
 k0 (false, ())
 else
 bif !s.2.2.2.1 then
 bif s.1.Cmd.Dead == 0 then
 bif s.1.Cmd.Was == 0 then
 k0 (true, ())
 else
 bif s.2.2.2.2.1 then
 bindO (command_Key s.1.Cmd.Was) fun r48 =>
 k0 (r48, ())
 else
 k0 (false, ())
 else
 k0 (false, ())
 else
 k0 (false, ())
 else
 bif !s.2.2.2.1 then
 bif s.1.Cmd.Dead == 0 then
 bif s.1.Cmd.Was == 0 then
 k0 (true, ())
 else
 bif s.2.2.2.2.1 then
 bindO (command_Key s.1.Cmd.Was) fun r49 =>
 k0 (r49, ())
 else
 k0 (false, ())
 else
 k0 (false, ())
 else
 k0 (false, ())
 else
 k0 (false, ())
 else
 k0 (false, ())
 else
 k0 (false, ())
 else
 k0 (false, ())
def command_order_only_P0_live : List (Nat × Md) := [(0, .p), (1, .p), (2, .p), (3, .p), (4, .p)]
def command_order_only_P0_outs : AEx → List (Nat × Md) := (fun e => match e with | .exit i => [] | .ret => [] | .normal => [(10, .p)])
def command_order_only_P0_cl : Cl (G_command_order × Bool × Bool × Bool × Bool × Unit) := (clC (cxV (ceP (cdP (caA G_command_order.ks G_command_order.cs G_command_order.of G_command_order.h)))) (clC (cxV (ceP cdB)) (clC (cxV (ceP cdB)) (clC (cxV (ceP cdB)) (clC (cxV (ceP cdB)) clN)))))
def command_order_only_P0_c0 : Cl (Bool × Unit) := (clC (cxV (ceP cdB)) clN)
theorem command_order_only_P0_e {α : Type} (command_order_span : G_command_order → Option Bool) (command_Key : Int → Option Bool) (s : G_command_order × Bool × Bool × Bool × Bool × Unit) (Ke : AEx → List AV → Option α) : stepQ Tryz.prog (tabS [(249, spE false (caC (cdP (caA G_command_order.ks G_command_order.cs G_command_order.of G_command_order.h)) caN) cdB (fun a => command_order_span a.1)), (112, spE false (caC (cdI .i64) caN) cdB (fun a => command_Key a.1))]) 10 30 (subC (bodyOf Tryz.f200) [1, 0]) .no command_order_only_P0_live command_order_only_P0_outs (command_order_only_P0_cl.enc s) Ke = command_order_only_P0 command_order_span command_Key s (fun a => Ke .normal (command_order_only_P0_c0.enc a)) := by kernel_rfl
theorem command_order_only_P0_ok {α : Type} (L : Nat) : POk Tryz.prog Tryz.f200.ntmps (subC (bodyOf Tryz.f200) [1, 0]) (⟨command_order_only_P0_live, command_order_only_P0_outs, run1 command_order_only_P0_cl .normal command_order_only_P0_c0 (command_order_only_P0 (command_order_span L) (command_Key L))⟩ : LSpec α) ∧ LDet (⟨command_order_only_P0_live, command_order_only_P0_outs, run1 command_order_only_P0_cl .normal command_order_only_P0_c0 (command_order_only_P0 (command_order_span L) (command_Key L))⟩ : LSpec α) :=
 pspec (cl := command_order_only_P0_cl) mixed (sp := (tabS [(249, spE false (caC (cdP (caA G_command_order.ks G_command_order.cs G_command_order.of G_command_order.h)) caN) cdB (fun a => (command_order_span L) a.1)), (112, spE false (caC (cdI .i64) caN) cdB (fun a => (command_Key L) a.1))])) (tabS_cons (command_order_span_c L).ent (tabS_cons (command_Key_c L).ent tabS_nil)) (L := 10) (n := 30) (t := .no) (okL_of (by kernel_rfl)) (ltN _) (ldN _) (by kernel_rfl) (command_order_only_P0_e (command_order_span L) (command_Key L)) (fun _ _ => rfl)
abbrev command_order_only_t (P0 : (G_command_order × Bool × Bool × Bool × Bool × Unit) → ((Bool × Unit) → Option (Bool)) → Option (Bool)) (x0 : G_command_order) (x1 : Bool) (x2 : Bool) (x3 : Bool) (x4 : Bool) : Option Bool :=
 P0 (x0, x1, x2, x3, x4, ()) (fun q1 =>
 some q1.1)
theorem command_order_only_e (P0 : (G_command_order × Bool × Bool × Bool × Bool × Unit) → ((Bool × Unit) → Option (Bool)) → Option (Bool)) (a : G_command_order × Bool × Bool × Bool × Bool × Unit) : symL Tryz.prog (tabS []) 10 30 (.two .no (.two (.pt ⟨command_order_only_P0_live, command_order_only_P0_outs, run1 command_order_only_P0_cl .normal command_order_only_P0_c0 P0⟩) .no)) 200 ((caC (cdP (caA G_command_order.ks G_command_order.cs G_command_order.of G_command_order.h)) (caC cdB (caC cdB (caC cdB (caC cdB caN))))).enc a) (outK cdB) = command_order_only_t P0 a.1 a.2.1 a.2.2.1 a.2.2.2.1 a.2.2.2.2.1 := by kernel_rfl
def command_order_only (L : Nat) (x0 : G_command_order) (x1 : Bool) (x2 : Bool) (x3 : Bool) (x4 : Bool) : Option Bool := command_order_only_t (command_order_only_P0 (command_order_span L) (command_Key L)) x0 x1 x2 x3 x4
theorem command_order_only_c (L : Nat) : Ctr Tryz.prog 200 false (caC (cdP (caA G_command_order.ks G_command_order.cs G_command_order.of G_command_order.h)) (caC cdB (caC cdB (caC cdB (caC cdB caN))))) cdB (fun a => command_order_only L a.1 a.2.1 a.2.2.1 a.2.2.2.1 a.2.2.2.2.1) :=
 ctr_of mixed (sp := (tabS [])) tabS_nil (lt := (.two .no (.two (.pt ⟨command_order_only_P0_live, command_order_only_P0_outs, run1 command_order_only_P0_cl .normal command_order_only_P0_c0 (command_order_only_P0 (command_order_span L) (command_Key L))⟩) .no))) (x := bodyOf Tryz.f200) Tryz.func200 (by kernel_rfl) (ltS (ltN _) (ltS (ptL (command_order_only_P0_ok L).1) (ltN _))) (ldS (ldN _) (ldS (pdL (command_order_only_P0_ok L).2) (ldN _))) fun a => command_order_only_e (command_order_only_P0 (command_order_span L) (command_Key L)) a
end Go.Proofs.YtkjihmlighigjaaGreat
