/- Typed functions. (printed by wip/sx) -/
import Derived.Test.YtkjihmlighigjaaGreatRepairAliveM54
import Derived.Test.YtkjihmlighigjaaGreatRepairAliveM53
import Derived.Test.YtkjihmlighigjaaGreatRepairAliveM42
set_option linter.unusedSimpArgs false
set_option linter.unusedVariables false
namespace Go.Proofs.YtkjihmlighigjaaGreat
open Go.RowKit
set_option maxRecDepth 100000
set_option maxHeartbeats 16000000

abbrev command_order_may_t (command_Key : Int → Option Bool) (command_order_only : G_command_order → Bool → Bool → Bool → Bool → Option Bool) (x0 : G_command_order) : Option Bool :=
 bindO (command_Key x0.Cmd.By) fun r1 =>
 bif !r1 then
 some false
 else
 bif decide (x0.Cmd.Serial < 1) then
 some false
 else
 bif decide (2147483648 < x0.Cmd.Serial) then
 some false
 else
 bif x0.Cmd.Kind == 0 then
 bindO (command_order_only x0 false false false false) fun r2 =>
 some r2
 else
 bif x0.Cmd.Kind == 1 then
 bindO (command_order_only x0 false false false false) fun r3 =>
 some r3
 else
 bif x0.Cmd.Kind == 2 then
 bindO (command_order_only x0 true true false false) fun r4 =>
 some r4
 else
 bif x0.Cmd.Kind == 3 then
 bindO (command_order_only x0 true false false false) fun r5 =>
 some r5
 else
 bif x0.Cmd.Kind == 4 then
 bindO (command_order_only x0 false false true true) fun r6 =>
 some r6
 else
 bif x0.Cmd.Kind == 5 then
 bindO (command_order_only x0 false false true false) fun r7 =>
 some r7
 else
 some false
theorem command_order_may_e (command_Key : Int → Option Bool) (command_order_only : G_command_order → Bool → Bool → Bool → Bool → Option Bool) (a : G_command_order × Unit) : symL Tryz.prog (tabS [(112, spE false (caC (cdI .i64) caN) cdB (fun a => command_Key a.1)), (200, spE false (caC (cdP (caA G_command_order.ks G_command_order.cs G_command_order.of G_command_order.h)) (caC cdB (caC cdB (caC cdB (caC cdB caN))))) cdB (fun a => command_order_only a.1 a.2.1 a.2.2.1 a.2.2.2.1 a.2.2.2.2.1))]) 10 30 .no 156 ((caC (cdP (caA G_command_order.ks G_command_order.cs G_command_order.of G_command_order.h)) caN).enc a) (outK cdB) = command_order_may_t command_Key command_order_only a.1 := by kernel_rfl
def command_order_may (L : Nat) (x0 : G_command_order) : Option Bool := command_order_may_t (command_Key L) (command_order_only L) x0
theorem command_order_may_c (L : Nat) : Ctr Tryz.prog 156 false (caC (cdP (caA G_command_order.ks G_command_order.cs G_command_order.of G_command_order.h)) caN) cdB (fun a => command_order_may L a.1) :=
 ctr_of mixed (sp := (tabS [(112, spE false (caC (cdI .i64) caN) cdB (fun a => (command_Key L) a.1)), (200, spE false (caC (cdP (caA G_command_order.ks G_command_order.cs G_command_order.of G_command_order.h)) (caC cdB (caC cdB (caC cdB (caC cdB caN))))) cdB (fun a => (command_order_only L) a.1 a.2.1 a.2.2.1 a.2.2.2.1 a.2.2.2.2.1))])) (tabS_cons (command_Key_c L).ent (tabS_cons (command_order_only_c L).ent tabS_nil)) (lt := .no) (x := bodyOf Tryz.f156) Tryz.func156 (by kernel_rfl) (ltN _) (ldN _) fun a => command_order_may_e (command_Key L) (command_order_only L) a
abbrev command_May_t (command_order_may : G_command_order → Option Bool) (x0 : G_Cmd) : Option Bool :=
 bindO (command_order_may (⟨x0, []⟩ : G_command_order)) fun r1 =>
 some r1
theorem command_May_e (command_order_may : G_command_order → Option Bool) (a : G_Cmd × Unit) : symL Tryz.prog (tabS [(156, spE false (caC (cdP (caA G_command_order.ks G_command_order.cs G_command_order.of G_command_order.h)) caN) cdB (fun a => command_order_may a.1))]) 10 30 .no 203 ((caC cd_Cmd caN).enc a) (outK cdB) = command_May_t command_order_may a.1 := by kernel_rfl
def command_May (L : Nat) (x0 : G_Cmd) : Option Bool := command_May_t (command_order_may L) x0
theorem command_May_c (L : Nat) : Ctr Tryz.prog 203 false (caC cd_Cmd caN) cdB (fun a => command_May L a.1) :=
 ctr_of mixed (sp := (tabS [(156, spE false (caC (cdP (caA G_command_order.ks G_command_order.cs G_command_order.of G_command_order.h)) caN) cdB (fun a => (command_order_may L) a.1))])) (tabS_cons (command_order_may_c L).ent tabS_nil) (lt := .no) (x := bodyOf Tryz.f203) Tryz.func203 (by kernel_rfl) (ltN _) (ldN _) fun a => command_May_e (command_order_may L) a
abbrev command_Read_P0 {α : Type} (num_Get : ByteArray → Int → Int → Option (Int × Int × Unit)) (s : G_Cmd × G_command_taker × Unit) (k0 : (G_Cmd × G_command_taker × Int × Unit) → Option α) : Option α :=
 bindO (num_Get s.2.1.s_ 0 1) fun r1 =>
 bif r1.2.1 != 0 then
 k0 (s.1, { s.2.1 with bad_ := true }, 0, ())
 else
 bif decide (1 ≤ (s.2.1.s_.size : Int)) then
 k0 (s.1, { s.2.1 with s_ := s.2.1.s_.extract 1 s.2.1.s_.size }, r1.1, ())
 else none
def command_Read_P0_live : List (Nat × Md) := [(2, .o [.p, .p, .p, .p, .p, .p, .p, .p]), (4, .o [.p, .p])]
def command_Read_P0_outs : AEx → List (Nat × Md) := (fun e => match e with | .exit i => [] | .ret => [] | .normal => [(2, .o [.p, .p, .p, .p, .p, .p, .p, .p]), (4, .o [.p, .p]), (5, .p)])
def command_Read_P0_cl : Cl (G_Cmd × G_command_taker × Unit) := (clC (cxO (czA (caA G_Cmd.ks G_Cmd.cs G_Cmd.of G_Cmd.h)) 8) (clC (cxO (czA (caA G_command_taker.ks G_command_taker.cs G_command_taker.of G_command_taker.h)) 2) clN))
def command_Read_P0_c0 : Cl (G_Cmd × G_command_taker × Int × Unit) := (clC (cxO (czA (caA G_Cmd.ks G_Cmd.cs G_Cmd.of G_Cmd.h)) 8) (clC (cxO (czA (caA G_command_taker.ks G_command_taker.cs G_command_taker.of G_command_taker.h)) 2) (clC (cxV (ceP (cdI .i64))) clN)))
theorem command_Read_P0_e {α : Type} (num_Get : ByteArray → Int → Int → Option (Int × Int × Unit)) (s : G_Cmd × G_command_taker × Unit) (Ke : AEx → List AV → Option α) : stepQ Tryz.prog (tabS [(199, spE false (caC cdS (caC (cdI .i64) (caC (cdI .i64) caN))) (cdT (caC (cdI .i64) (caC (cdI .i64) caN))) (fun a => num_Get a.1 a.2.1 a.2.2.1))]) 10 30 (subC (bodyOf Tryz.f158) [1, 1, 0]) .no command_Read_P0_live command_Read_P0_outs (command_Read_P0_cl.enc s) Ke = command_Read_P0 num_Get s (fun a => Ke .normal (command_Read_P0_c0.enc a)) := by kernel_rfl
theorem command_Read_P0_ok {α : Type} (L : Nat) : POk Tryz.prog Tryz.f158.ntmps (subC (bodyOf Tryz.f158) [1, 1, 0]) (⟨command_Read_P0_live, command_Read_P0_outs, run1 command_Read_P0_cl .normal command_Read_P0_c0 (command_Read_P0 (num_Get L))⟩ : LSpec α) ∧ LDet (⟨command_Read_P0_live, command_Read_P0_outs, run1 command_Read_P0_cl .normal command_Read_P0_c0 (command_Read_P0 (num_Get L))⟩ : LSpec α) :=
 pspec (cl := command_Read_P0_cl) mixed (sp := (tabS [(199, spE false (caC cdS (caC (cdI .i64) (caC (cdI .i64) caN))) (cdT (caC (cdI .i64) (caC (cdI .i64) caN))) (fun a => (num_Get L) a.1 a.2.1 a.2.2.1))])) (tabS_cons (num_Get_c L).ent tabS_nil) (L := 10) (n := 30) (t := .no) (okL_of (by kernel_rfl)) (ltN _) (ldN _) (by kernel_rfl) (command_Read_P0_e (num_Get L)) (fun _ _ => rfl)
abbrev command_Read_P1 {α : Type} (num_Get : ByteArray → Int → Int → Option (Int × Int × Unit)) (s : G_Cmd × G_command_taker × Int × Unit) (k0 : (G_Cmd × G_command_taker × G_Cmd × Unit) → Option α) : Option α :=
 bindO (num_Get s.2.1.s_ 0 6) fun r1 =>
 bif r1.2.1 != 0 then
 bindO (num_Get s.2.1.s_ 0 4) fun r2 =>
 bif r2.2.1 != 0 then
 k0 (s.1, { s.2.1 with bad_ := true }, (⟨IntKind.i8.wrap (minI false s.2.2.1 127), 0, 0, 0, 0, G_Span.z, 0⟩ : G_Cmd), ())
 else
 bif decide (4 ≤ (s.2.1.s_.size : Int)) then
 k0 (s.1, (⟨s.2.1.s_.extract 4 s.2.1.s_.size, true⟩ : G_command_taker), (⟨IntKind.i8.wrap (minI false s.2.2.1 127), 0, r2.1, 0, 0, G_Span.z, 0⟩ : G_Cmd), ())
 else none
 else
 bif decide (6 ≤ (s.2.1.s_.size : Int)) then
 bindO (num_Get (s.2.1.s_.extract 6 s.2.1.s_.size) 0 4) fun r3 =>
 bif r3.2.1 != 0 then
 k0 (s.1, (⟨s.2.1.s_.extract 6 s.2.1.s_.size, true⟩ : G_command_taker), (⟨IntKind.i8.wrap (minI false s.2.2.1 127), r1.1, 0, 0, 0, G_Span.z, 0⟩ : G_Cmd), ())
 else
 bif decide (4 ≤ ((s.2.1.s_.extract 6 s.2.1.s_.size).size : Int)) then
 k0 (s.1, { s.2.1 with s_ := (s.2.1.s_.extract 6 s.2.1.s_.size).extract 4 ((s.2.1.s_.extract 6 s.2.1.s_.size).size) }, (⟨IntKind.i8.wrap (minI false s.2.2.1 127), r1.1, r3.1, 0, 0, G_Span.z, 0⟩ : G_Cmd), ())
 else none
 else none
def command_Read_P1_live : List (Nat × Md) := [(2, .o [.p, .p, .p, .p, .p, .p, .p, .p]), (4, .o [.p, .p]), (5, .p)]
def command_Read_P1_outs : AEx → List (Nat × Md) := (fun e => match e with | .exit i => [] | .ret => [] | .normal => [(2, .o [.p, .p, .p, .p, .p, .p, .p, .p]), (4, .o [.p, .p]), (6, .o [.p, .p, .p, .p, .p, .p, .p, .p])])
def command_Read_P1_cl : Cl (G_Cmd × G_command_taker × Int × Unit) := (clC (cxO (czA (caA G_Cmd.ks G_Cmd.cs G_Cmd.of G_Cmd.h)) 8) (clC (cxO (czA (caA G_command_taker.ks G_command_taker.cs G_command_taker.of G_command_taker.h)) 2) (clC (cxV (ceP (cdI .i64))) clN)))
def command_Read_P1_c0 : Cl (G_Cmd × G_command_taker × G_Cmd × Unit) := (clC (cxO (czA (caA G_Cmd.ks G_Cmd.cs G_Cmd.of G_Cmd.h)) 8) (clC (cxO (czA (caA G_command_taker.ks G_command_taker.cs G_command_taker.of G_command_taker.h)) 2) (clC (cxO (czA (caA G_Cmd.ks G_Cmd.cs G_Cmd.of G_Cmd.h)) 8) clN)))
theorem command_Read_P1_e {α : Type} (num_Get : ByteArray → Int → Int → Option (Int × Int × Unit)) (s : G_Cmd × G_command_taker × Int × Unit) (Ke : AEx → List AV → Option α) : stepQ Tryz.prog (tabS [(199, spE false (caC cdS (caC (cdI .i64) (caC (cdI .i64) caN))) (cdT (caC (cdI .i64) (caC (cdI .i64) caN))) (fun a => num_Get a.1 a.2.1 a.2.2.1))]) 10 30 (subC (bodyOf Tryz.f158) [1, 1, 1, 0]) .no command_Read_P1_live command_Read_P1_outs (command_Read_P1_cl.enc s) Ke = command_Read_P1 num_Get s (fun a => Ke .normal (command_Read_P1_c0.enc a)) := by kernel_rfl
theorem command_Read_P1_ok {α : Type} (L : Nat) : POk Tryz.prog Tryz.f158.ntmps (subC (bodyOf Tryz.f158) [1, 1, 1, 0]) (⟨command_Read_P1_live, command_Read_P1_outs, run1 command_Read_P1_cl .normal command_Read_P1_c0 (command_Read_P1 (num_Get L))⟩ : LSpec α) ∧ LDet (⟨command_Read_P1_live, command_Read_P1_outs, run1 command_Read_P1_cl .normal command_Read_P1_c0 (command_Read_P1 (num_Get L))⟩ : LSpec α) :=
 pspec (cl := command_Read_P1_cl) mixed (sp := (tabS [(199, spE false (caC cdS (caC (cdI .i64) (caC (cdI .i64) caN))) (cdT (caC (cdI .i64) (caC (cdI .i64) caN))) (fun a => (num_Get L) a.1 a.2.1 a.2.2.1))])) (tabS_cons (num_Get_c L).ent tabS_nil) (L := 10) (n := 30) (t := .no) (okL_of (by kernel_rfl)) (ltN _) (ldN _) (by kernel_rfl) (command_Read_P1_e (num_Get L)) (fun _ _ => rfl)
abbrev command_Read_P2 {α : Type} (s : G_Cmd × G_command_taker × G_Cmd × Int × Bool × Unit) (k0 : (G_Cmd × G_command_taker × G_Cmd × Int × Bool × Unit) → Option α) : Option α :=
 bif s.2.2.2.2.1 then
 k0 (s.1, s.2.1, s.2.2.1, s.2.2.2.1, true, ())
 else
 k0 (s.1, s.2.1, s.2.2.1, s.2.2.2.1, s.2.2.2.1 == 3, ())
def command_Read_P2_live : List (Nat × Md) := [(2, .o [.p, .p, .p, .p, .p, .p, .p, .p]), (4, .o [.p, .p]), (6, .o [.p, .p, .p, .p, .p, .p, .p, .p]), (21, .p), (22, .p)]
def command_Read_P2_outs : AEx → List (Nat × Md) := (fun e => match e with | .exit i => [] | .ret => [] | .normal => [(2, .o [.p, .p, .p, .p, .p, .p, .p, .p]), (4, .o [.p, .p]), (6, .o [.p, .p, .p, .p, .p, .p, .p, .p]), (21, .p), (22, .p)])
def command_Read_P2_cl : Cl (G_Cmd × G_command_taker × G_Cmd × Int × Bool × Unit) := (clC (cxO (czA (caA G_Cmd.ks G_Cmd.cs G_Cmd.of G_Cmd.h)) 8) (clC (cxO (czA (caA G_command_taker.ks G_command_taker.cs G_command_taker.of G_command_taker.h)) 2) (clC (cxO (czA (caA G_Cmd.ks G_Cmd.cs G_Cmd.of G_Cmd.h)) 8) (clC (cxV (ceP (cdI .i8))) (clC (cxV (ceP cdB)) clN)))))
def command_Read_P2_c0 : Cl (G_Cmd × G_command_taker × G_Cmd × Int × Bool × Unit) := (clC (cxO (czA (caA G_Cmd.ks G_Cmd.cs G_Cmd.of G_Cmd.h)) 8) (clC (cxO (czA (caA G_command_taker.ks G_command_taker.cs G_command_taker.of G_command_taker.h)) 2) (clC (cxO (czA (caA G_Cmd.ks G_Cmd.cs G_Cmd.of G_Cmd.h)) 8) (clC (cxV (ceP (cdI .i8))) (clC (cxV (ceP cdB)) clN)))))
theorem command_Read_P2_e {α : Type} (s : G_Cmd × G_command_taker × G_Cmd × Int × Bool × Unit) (Ke : AEx → List AV → Option α) : stepQ Tryz.prog (tabS []) 10 30 (subC (bodyOf Tryz.f158) [1, 1, 1, 1, 0, 1, 0, 0, 1]) .no command_Read_P2_live command_Read_P2_outs (command_Read_P2_cl.enc s) Ke = command_Read_P2 s (fun a => Ke .normal (command_Read_P2_c0.enc a)) := by kernel_rfl
theorem command_Read_P2_ok {α : Type} (L : Nat) : POk Tryz.prog Tryz.f158.ntmps (subC (bodyOf Tryz.f158) [1, 1, 1, 1, 0, 1, 0, 0, 1]) (⟨command_Read_P2_live, command_Read_P2_outs, run1 command_Read_P2_cl .normal command_Read_P2_c0 (command_Read_P2)⟩ : LSpec α) ∧ LDet (⟨command_Read_P2_live, command_Read_P2_outs, run1 command_Read_P2_cl .normal command_Read_P2_c0 (command_Read_P2)⟩ : LSpec α) :=
 pspec (cl := command_Read_P2_cl) mixed (sp := (tabS [])) tabS_nil (L := 10) (n := 30) (t := .no) (okL_of (by kernel_rfl)) (ltN _) (ldN _) (by kernel_rfl) (command_Read_P2_e) (fun _ _ => rfl)
abbrev command_Read_P3 {α : Type} (num_Get : ByteArray → Int → Int → Option (Int × Int × Unit)) (s : G_Cmd × G_command_taker × G_Cmd × Int × Bool × Unit) (k0 : (G_Cmd × G_command_taker × G_Cmd × Unit) → Option α) : Option α :=
 bif s.2.2.2.2.1 then
 bindO (num_Get s.2.1.s_ 0 1) fun r1 =>
 bif r1.2.1 != 0 then
 bindO (num_Get s.2.1.s_ 0 1) fun r2 =>
 bif r2.2.1 != 0 then
 bif s.2.2.1.Kind == 2 then
 bindO (num_Get s.2.1.s_ 0 1) fun r3 =>
 bif r3.2.1 != 0 then
 k0 (s.1, { s.2.1 with bad_ := true }, { s.2.2.1 with Span := G_Span.z, Mode := 0 }, ())
 else
 bif decide (1 ≤ (s.2.1.s_.size : Int)) then
 k0 (s.1, (⟨s.2.1.s_.extract 1 s.2.1.s_.size, true⟩ : G_command_taker), { s.2.2.1 with Span := G_Span.z, Mode := IntKind.i8.wrap (minI false r3.1 127) }, ())
 else none
 else
 k0 (s.1, { s.2.1 with bad_ := true }, { s.2.2.1 with Span := G_Span.z }, ())
 else
 bif decide (1 ≤ (s.2.1.s_.size : Int)) then
 bif s.2.2.1.Kind == 2 then
 bindO (num_Get (s.2.1.s_.extract 1 s.2.1.s_.size) 0 1) fun r4 =>
 bif r4.2.1 != 0 then
 k0 (s.1, (⟨s.2.1.s_.extract 1 s.2.1.s_.size, true⟩ : G_command_taker), { s.2.2.1 with Span := (⟨0, r2.1⟩ : G_Span), Mode := 0 }, ())
 else
 bif decide (1 ≤ ((s.2.1.s_.extract 1 s.2.1.s_.size).size : Int)) then
 k0 (s.1, (⟨(s.2.1.s_.extract 1 s.2.1.s_.size).extract 1 ((s.2.1.s_.extract 1 s.2.1.s_.size).size), true⟩ : G_command_taker), { s.2.2.1 with Span := (⟨0, r2.1⟩ : G_Span), Mode := IntKind.i8.wrap (minI false r4.1 127) }, ())
 else none
 else
 k0 (s.1, (⟨s.2.1.s_.extract 1 s.2.1.s_.size, true⟩ : G_command_taker), { s.2.2.1 with Span := (⟨0, r2.1⟩ : G_Span) }, ())
 else none
 else
 bif decide (1 ≤ (s.2.1.s_.size : Int)) then
 bindO (num_Get (s.2.1.s_.extract 1 s.2.1.s_.size) 0 1) fun r5 =>
 bif r5.2.1 != 0 then
 bif s.2.2.1.Kind == 2 then
 bindO (num_Get (s.2.1.s_.extract 1 s.2.1.s_.size) 0 1) fun r6 =>
 bif r6.2.1 != 0 then
 k0 (s.1, (⟨s.2.1.s_.extract 1 s.2.1.s_.size, true⟩ : G_command_taker), { s.2.2.1 with Span := (⟨r1.1, 0⟩ : G_Span), Mode := 0 }, ())
 else
 bif decide (1 ≤ ((s.2.1.s_.extract 1 s.2.1.s_.size).size : Int)) then
 k0 (s.1, (⟨(s.2.1.s_.extract 1 s.2.1.s_.size).extract 1 ((s.2.1.s_.extract 1 s.2.1.s_.size).size), true⟩ : G_command_taker), { s.2.2.1 with Span := (⟨r1.1, 0⟩ : G_Span), Mode := IntKind.i8.wrap (minI false r6.1 127) }, ())
 else none
 else
 k0 (s.1, (⟨s.2.1.s_.extract 1 s.2.1.s_.size, true⟩ : G_command_taker), { s.2.2.1 with Span := (⟨r1.1, 0⟩ : G_Span) }, ())
 else
 bif decide (1 ≤ ((s.2.1.s_.extract 1 s.2.1.s_.size).size : Int)) then
 bif s.2.2.1.Kind == 2 then
 bindO (num_Get ((s.2.1.s_.extract 1 s.2.1.s_.size).extract 1 ((s.2.1.s_.extract 1 s.2.1.s_.size).size)) 0 1) fun r7 =>
 bif r7.2.1 != 0 then
 k0 (s.1, (⟨(s.2.1.s_.extract 1 s.2.1.s_.size).extract 1 ((s.2.1.s_.extract 1 s.2.1.s_.size).size), true⟩ : G_command_taker), { s.2.2.1 with Span := (⟨r1.1, r5.1⟩ : G_Span), Mode := 0 }, ())
 else
 bif decide (1 ≤ (((s.2.1.s_.extract 1 s.2.1.s_.size).extract 1 ((s.2.1.s_.extract 1 s.2.1.s_.size).size)).size : Int)) then
 k0 (s.1, { s.2.1 with s_ := ((s.2.1.s_.extract 1 s.2.1.s_.size).extract 1 ((s.2.1.s_.extract 1 s.2.1.s_.size).size)).extract 1 (((s.2.1.s_.extract 1 s.2.1.s_.size).extract 1 ((s.2.1.s_.extract 1 s.2.1.s_.size).size)).size) }, { s.2.2.1 with Span := (⟨r1.1, r5.1⟩ : G_Span), Mode := IntKind.i8.wrap (minI false r7.1 127) }, ())
 else none
 else
 k0 (s.1, { s.2.1 with s_ := (s.2.1.s_.extract 1 s.2.1.s_.size).extract 1 ((s.2.1.s_.extract 1 s.2.1.s_.size).size) }, { s.2.2.1 with Span := (⟨r1.1, r5.1⟩ : G_Span) }, ())
 else none
 else none
 else
 bif s.2.2.2.1 == 4 then
 bindO (num_Get s.2.1.s_ 0 6) fun r8 =>
 bif r8.2.1 != 0 then
 bif s.2.2.1.Kind == 4 then
 bindO (num_Get s.2.1.s_ 0 6) fun r9 =>
 bif r9.2.1 != 0 then
 k0 (s.1, { s.2.1 with bad_ := true }, { s.2.2.1 with Dead := 0, Was := 0 }, ())
 else
 bif decide (6 ≤ (s.2.1.s_.size : Int)) then
 k0 (s.1, (⟨s.2.1.s_.extract 6 s.2.1.s_.size, true⟩ : G_command_taker), { s.2.2.1 with Dead := 0, Was := r9.1 }, ())
 else none
 else
 k0 (s.1, { s.2.1 with bad_ := true }, { s.2.2.1 with Dead := 0 }, ())
 else
 bif decide (6 ≤ (s.2.1.s_.size : Int)) then
 bif s.2.2.1.Kind == 4 then
 bindO (num_Get (s.2.1.s_.extract 6 s.2.1.s_.size) 0 6) fun r10 =>
 bif r10.2.1 != 0 then
 k0 (s.1, (⟨s.2.1.s_.extract 6 s.2.1.s_.size, true⟩ : G_command_taker), { s.2.2.1 with Dead := r8.1, Was := 0 }, ())
 else
 bif decide (6 ≤ ((s.2.1.s_.extract 6 s.2.1.s_.size).size : Int)) then
 k0 (s.1, { s.2.1 with s_ := (s.2.1.s_.extract 6 s.2.1.s_.size).extract 6 ((s.2.1.s_.extract 6 s.2.1.s_.size).size) }, { s.2.2.1 with Dead := r8.1, Was := r10.1 }, ())
 else none
 else
 k0 (s.1, { s.2.1 with s_ := s.2.1.s_.extract 6 s.2.1.s_.size }, { s.2.2.1 with Dead := r8.1 }, ())
 else none
 else
 bif s.2.2.2.1 == 5 then
 bindO (num_Get s.2.1.s_ 0 6) fun r11 =>
 bif r11.2.1 != 0 then
 bif s.2.2.1.Kind == 4 then
 bindO (num_Get s.2.1.s_ 0 6) fun r12 =>
 bif r12.2.1 != 0 then
 k0 (s.1, { s.2.1 with bad_ := true }, { s.2.2.1 with Dead := 0, Was := 0 }, ())
 else
 bif decide (6 ≤ (s.2.1.s_.size : Int)) then
 k0 (s.1, (⟨s.2.1.s_.extract 6 s.2.1.s_.size, true⟩ : G_command_taker), { s.2.2.1 with Dead := 0, Was := r12.1 }, ())
 else none
 else
 k0 (s.1, { s.2.1 with bad_ := true }, { s.2.2.1 with Dead := 0 }, ())
 else
 bif decide (6 ≤ (s.2.1.s_.size : Int)) then
 bif s.2.2.1.Kind == 4 then
 bindO (num_Get (s.2.1.s_.extract 6 s.2.1.s_.size) 0 6) fun r13 =>
 bif r13.2.1 != 0 then
 k0 (s.1, (⟨s.2.1.s_.extract 6 s.2.1.s_.size, true⟩ : G_command_taker), { s.2.2.1 with Dead := r11.1, Was := 0 }, ())
 else
 bif decide (6 ≤ ((s.2.1.s_.extract 6 s.2.1.s_.size).size : Int)) then
 k0 (s.1, { s.2.1 with s_ := (s.2.1.s_.extract 6 s.2.1.s_.size).extract 6 ((s.2.1.s_.extract 6 s.2.1.s_.size).size) }, { s.2.2.1 with Dead := r11.1, Was := r13.1 }, ())
 else none
 else
 k0 (s.1, { s.2.1 with s_ := s.2.1.s_.extract 6 s.2.1.s_.size }, { s.2.2.1 with Dead := r11.1 }, ())
 else none
 else
 k0 (s.1, s.2.1, s.2.2.1, ())
def command_Read_P3_live : List (Nat × Md) := [(2, .o [.p, .p, .p, .p, .p, .p, .p, .p]), (4, .o [.p, .p]), (6, .o [.p, .p, .p, .p, .p, .p, .p, .p]), (21, .p), (22, .p)]
def command_Read_P3_outs : AEx → List (Nat × Md) := (fun e => match e with | .exit i => [] | .ret => [] | .normal => [(2, .o [.p, .p, .p, .p, .p, .p, .p, .p]), (4, .o [.p, .p]), (6, .o [.p, .p, .p, .p, .p, .p, .p, .p])])
def command_Read_P3_cl : Cl (G_Cmd × G_command_taker × G_Cmd × Int × Bool × Unit) := (clC (cxO (czA (caA G_Cmd.ks G_Cmd.cs G_Cmd.of G_Cmd.h)) 8) (clC (cxO (czA (caA G_command_taker.ks G_command_taker.cs G_command_taker.of G_command_taker.h)) 2) (clC (cxO (czA (caA G_Cmd.ks G_Cmd.cs G_Cmd.of G_Cmd.h)) 8) (clC (cxV (ceP (cdI .i8))) (clC (cxV (ceP cdB)) clN)))))
def command_Read_P3_c0 : Cl (G_Cmd × G_command_taker × G_Cmd × Unit) := (clC (cxO (czA (caA G_Cmd.ks G_Cmd.cs G_Cmd.of G_Cmd.h)) 8) (clC (cxO (czA (caA G_command_taker.ks G_command_taker.cs G_command_taker.of G_command_taker.h)) 2) (clC (cxO (czA (caA G_Cmd.ks G_Cmd.cs G_Cmd.of G_Cmd.h)) 8) clN)))
theorem command_Read_P3_e {α : Type} (num_Get : ByteArray → Int → Int → Option (Int × Int × Unit)) (s : G_Cmd × G_command_taker × G_Cmd × Int × Bool × Unit) (Ke : AEx → List AV → Option α) : stepQ Tryz.prog (tabS [(199, spE false (caC cdS (caC (cdI .i64) (caC (cdI .i64) caN))) (cdT (caC (cdI .i64) (caC (cdI .i64) caN))) (fun a => num_Get a.1 a.2.1 a.2.2.1))]) 10 30 (subC (bodyOf Tryz.f158) [1, 1, 1, 1, 0, 1, 0, 1]) .no command_Read_P3_live command_Read_P3_outs (command_Read_P3_cl.enc s) Ke = command_Read_P3 num_Get s (fun a => Ke .normal (command_Read_P3_c0.enc a)) := by kernel_rfl
theorem command_Read_P3_ok {α : Type} (L : Nat) : POk Tryz.prog Tryz.f158.ntmps (subC (bodyOf Tryz.f158) [1, 1, 1, 1, 0, 1, 0, 1]) (⟨command_Read_P3_live, command_Read_P3_outs, run1 command_Read_P3_cl .normal command_Read_P3_c0 (command_Read_P3 (num_Get L))⟩ : LSpec α) ∧ LDet (⟨command_Read_P3_live, command_Read_P3_outs, run1 command_Read_P3_cl .normal command_Read_P3_c0 (command_Read_P3 (num_Get L))⟩ : LSpec α) :=
 pspec (cl := command_Read_P3_cl) mixed (sp := (tabS [(199, spE false (caC cdS (caC (cdI .i64) (caC (cdI .i64) caN))) (cdT (caC (cdI .i64) (caC (cdI .i64) caN))) (fun a => (num_Get L) a.1 a.2.1 a.2.2.1))])) (tabS_cons (num_Get_c L).ent tabS_nil) (L := 10) (n := 30) (t := .no) (okL_of (by kernel_rfl)) (ltN _) (ldN _) (by kernel_rfl) (command_Read_P3_e (num_Get L)) (fun _ _ => rfl)
abbrev command_Read_P4 {α : Type} (command_May : G_Cmd → Option Bool) (s : G_Cmd × G_command_taker × G_Cmd × Unit) (k0 : (G_Cmd × G_Cmd × Bool × Unit) → Option α) : Option α :=
 bif s.2.1.bad_ then
 k0 (s.1, s.2.2.1, true, ())
 else
 bif !(s.2.1.s_.toList == noS.toList) then
 k0 (s.1, s.2.2.1, true, ())
 else
 bindO (command_May s.2.2.1) fun r1 =>
 k0 (s.1, s.2.2.1, !r1, ())
def command_Read_P4_live : List (Nat × Md) := [(2, .o [.p, .p, .p, .p, .p, .p, .p, .p]), (4, .o [.p, .p]), (6, .o [.p, .p, .p, .p, .p, .p, .p, .p])]
def command_Read_P4_outs : AEx → List (Nat × Md) := (fun e => match e with | .exit i => [] | .ret => [] | .normal => [(2, .o [.p, .p, .p, .p, .p, .p, .p, .p]), (6, .o [.p, .p, .p, .p, .p, .p, .p, .p]), (68, .p)])
def command_Read_P4_cl : Cl (G_Cmd × G_command_taker × G_Cmd × Unit) := (clC (cxO (czA (caA G_Cmd.ks G_Cmd.cs G_Cmd.of G_Cmd.h)) 8) (clC (cxO (czA (caA G_command_taker.ks G_command_taker.cs G_command_taker.of G_command_taker.h)) 2) (clC (cxO (czA (caA G_Cmd.ks G_Cmd.cs G_Cmd.of G_Cmd.h)) 8) clN)))
def command_Read_P4_c0 : Cl (G_Cmd × G_Cmd × Bool × Unit) := (clC (cxO (czA (caA G_Cmd.ks G_Cmd.cs G_Cmd.of G_Cmd.h)) 8) (clC (cxO (czA (caA G_Cmd.ks G_Cmd.cs G_Cmd.of G_Cmd.h)) 8) (clC (cxV (ceP cdB)) clN)))
theorem command_Read_P4_e {α : Type} (command_May : G_Cmd → Option Bool) (s : G_Cmd × G_command_taker × G_Cmd × Unit) (Ke : AEx → List AV → Option α) : stepQ Tryz.prog (tabS [(203, spE false (caC cd_Cmd caN) cdB (fun a => command_May a.1))]) 10 30 (subC (bodyOf Tryz.f158) [1, 1, 1, 1, 1, 0, 0]) .no command_Read_P4_live command_Read_P4_outs (command_Read_P4_cl.enc s) Ke = command_Read_P4 command_May s (fun a => Ke .normal (command_Read_P4_c0.enc a)) := by kernel_rfl
theorem command_Read_P4_ok {α : Type} (L : Nat) : POk Tryz.prog Tryz.f158.ntmps (subC (bodyOf Tryz.f158) [1, 1, 1, 1, 1, 0, 0]) (⟨command_Read_P4_live, command_Read_P4_outs, run1 command_Read_P4_cl .normal command_Read_P4_c0 (command_Read_P4 (command_May L))⟩ : LSpec α) ∧ LDet (⟨command_Read_P4_live, command_Read_P4_outs, run1 command_Read_P4_cl .normal command_Read_P4_c0 (command_Read_P4 (command_May L))⟩ : LSpec α) :=
 pspec (cl := command_Read_P4_cl) mixed (sp := (tabS [(203, spE false (caC cd_Cmd caN) cdB (fun a => (command_May L) a.1))])) (tabS_cons (command_May_c L).ent tabS_nil) (L := 10) (n := 30) (t := .no) (okL_of (by kernel_rfl)) (ltN _) (ldN _) (by kernel_rfl) (command_Read_P4_e (command_May L)) (fun _ _ => rfl)
abbrev command_Read_P5 {α : Type} (s : G_Cmd × G_Cmd × Bool × Unit) (k0 : (G_Cmd × G_Cmd × Unit) → Option α) (k1 : (G_Cmd × Int × Unit) → Option α) : Option α :=
 bif s.2.2.1 then
 k1 (G_Cmd.z, 100, ())
 else
 k0 (s.1, s.2.1, ())
def command_Read_P5_live : List (Nat × Md) := [(2, .o [.p, .p, .p, .p, .p, .p, .p, .p]), (6, .o [.p, .p, .p, .p, .p, .p, .p, .p]), (68, .p)]
def command_Read_P5_outs : AEx → List (Nat × Md) := (fun e => match e with | .exit i => [] | .ret => [(2, .o [.p, .p, .p, .p, .p, .p, .p, .p]), (3, .p)] | .normal => [(2, .o [.p, .p, .p, .p, .p, .p, .p, .p]), (6, .o [.p, .p, .p, .p, .p, .p, .p, .p])])
def command_Read_P5_cl : Cl (G_Cmd × G_Cmd × Bool × Unit) := (clC (cxO (czA (caA G_Cmd.ks G_Cmd.cs G_Cmd.of G_Cmd.h)) 8) (clC (cxO (czA (caA G_Cmd.ks G_Cmd.cs G_Cmd.of G_Cmd.h)) 8) (clC (cxV (ceP cdB)) clN)))
def command_Read_P5_c0 : Cl (G_Cmd × G_Cmd × Unit) := (clC (cxO (czA (caA G_Cmd.ks G_Cmd.cs G_Cmd.of G_Cmd.h)) 8) (clC (cxO (czA (caA G_Cmd.ks G_Cmd.cs G_Cmd.of G_Cmd.h)) 8) clN))
def command_Read_P5_c1 : Cl (G_Cmd × Int × Unit) := (clC (cxO (czA (caA G_Cmd.ks G_Cmd.cs G_Cmd.of G_Cmd.h)) 8) (clC (cxV (ceP (cdI .i64))) clN))
theorem command_Read_P5_e {α : Type} (s : G_Cmd × G_Cmd × Bool × Unit) (Ke : AEx → List AV → Option α) : stepQ Tryz.prog (tabS []) 10 30 (subC (bodyOf Tryz.f158) [1, 1, 1, 1, 1, 0, 1]) .no command_Read_P5_live command_Read_P5_outs (command_Read_P5_cl.enc s) Ke = command_Read_P5 s (fun a => Ke .normal (command_Read_P5_c0.enc a)) (fun a => Ke .ret (command_Read_P5_c1.enc a)) := by kernel_rfl
theorem command_Read_P5_ok {α : Type} (L : Nat) : POk Tryz.prog Tryz.f158.ntmps (subC (bodyOf Tryz.f158) [1, 1, 1, 1, 1, 0, 1]) (⟨command_Read_P5_live, command_Read_P5_outs, run2 command_Read_P5_cl .normal command_Read_P5_c0 .ret command_Read_P5_c1 (command_Read_P5)⟩ : LSpec α) ∧ LDet (⟨command_Read_P5_live, command_Read_P5_outs, run2 command_Read_P5_cl .normal command_Read_P5_c0 .ret command_Read_P5_c1 (command_Read_P5)⟩ : LSpec α) :=
 pspec (cl := command_Read_P5_cl) mixed (sp := (tabS [])) tabS_nil (L := 10) (n := 30) (t := .no) (okL_of (by kernel_rfl)) (ltN _) (ldN _) (by kernel_rfl) (command_Read_P5_e) (fun _ _ => rfl)
abbrev command_Read_t (P0 : (G_Cmd × G_command_taker × Unit) → ((G_Cmd × G_command_taker × Int × Unit) → Option (G_Cmd × Int × Unit)) → Option (G_Cmd × Int × Unit)) (P1 : (G_Cmd × G_command_taker × Int × Unit) → ((G_Cmd × G_command_taker × G_Cmd × Unit) → Option (G_Cmd × Int × Unit)) → Option (G_Cmd × Int × Unit)) (P2 : (G_Cmd × G_command_taker × G_Cmd × Int × Bool × Unit) → ((G_Cmd × G_command_taker × G_Cmd × Int × Bool × Unit) → Option (G_Cmd × Int × Unit)) → Option (G_Cmd × Int × Unit)) (P3 : (G_Cmd × G_command_taker × G_Cmd × Int × Bool × Unit) → ((G_Cmd × G_command_taker × G_Cmd × Unit) → Option (G_Cmd × Int × Unit)) → Option (G_Cmd × Int × Unit)) (P4 : (G_Cmd × G_command_taker × G_Cmd × Unit) → ((G_Cmd × G_Cmd × Bool × Unit) → Option (G_Cmd × Int × Unit)) → Option (G_Cmd × Int × Unit)) (P5 : (G_Cmd × G_Cmd × Bool × Unit) → ((G_Cmd × G_Cmd × Unit) → Option (G_Cmd × Int × Unit)) → ((G_Cmd × Int × Unit) → Option (G_Cmd × Int × Unit)) → Option (G_Cmd × Int × Unit)) (x0 : ByteArray) : Option (G_Cmd × Int × Unit) :=
 P0 (G_Cmd.z, (⟨x0, false⟩ : G_command_taker), ()) (fun q1 =>
 P1 (q1.1, q1.2.1, q1.2.2.1, ()) (fun q2 =>
 P2 (q2.1, q2.2.1, q2.2.2.1, q2.2.2.1.Kind, q2.2.2.1.Kind == 2, ()) (fun q3 =>
 P3 (q3.1, q3.2.1, q3.2.2.1, q3.2.2.2.1, q3.2.2.2.2.1, ()) (fun q4 =>
 P4 (q4.1, q4.2.1, q4.2.2.1, ()) (fun q5 =>
 P5 (q5.1, q5.2.1, q5.2.2.1, ()) (fun q6 =>
 some (q6.2.1, 0, ())) (fun q7 =>
 some (q7.1, q7.2.1, ())))))))
theorem command_Read_e (P0 : (G_Cmd × G_command_taker × Unit) → ((G_Cmd × G_command_taker × Int × Unit) → Option (G_Cmd × Int × Unit)) → Option (G_Cmd × Int × Unit)) (P1 : (G_Cmd × G_command_taker × Int × Unit) → ((G_Cmd × G_command_taker × G_Cmd × Unit) → Option (G_Cmd × Int × Unit)) → Option (G_Cmd × Int × Unit)) (P2 : (G_Cmd × G_command_taker × G_Cmd × Int × Bool × Unit) → ((G_Cmd × G_command_taker × G_Cmd × Int × Bool × Unit) → Option (G_Cmd × Int × Unit)) → Option (G_Cmd × Int × Unit)) (P3 : (G_Cmd × G_command_taker × G_Cmd × Int × Bool × Unit) → ((G_Cmd × G_command_taker × G_Cmd × Unit) → Option (G_Cmd × Int × Unit)) → Option (G_Cmd × Int × Unit)) (P4 : (G_Cmd × G_command_taker × G_Cmd × Unit) → ((G_Cmd × G_Cmd × Bool × Unit) → Option (G_Cmd × Int × Unit)) → Option (G_Cmd × Int × Unit)) (P5 : (G_Cmd × G_Cmd × Bool × Unit) → ((G_Cmd × G_Cmd × Unit) → Option (G_Cmd × Int × Unit)) → ((G_Cmd × Int × Unit) → Option (G_Cmd × Int × Unit)) → Option (G_Cmd × Int × Unit)) (a : ByteArray × Unit) : symL Tryz.prog (tabS []) 10 30 (.two .no (.two .no (.two (.pt ⟨command_Read_P0_live, command_Read_P0_outs, run1 command_Read_P0_cl .normal command_Read_P0_c0 P0⟩) (.two (.pt ⟨command_Read_P1_live, command_Read_P1_outs, run1 command_Read_P1_cl .normal command_Read_P1_c0 P1⟩) (.two (.two .no (.one (.two (.two .no (.pt ⟨command_Read_P2_live, command_Read_P2_outs, run1 command_Read_P2_cl .normal command_Read_P2_c0 P2⟩)) (.pt ⟨command_Read_P3_live, command_Read_P3_outs, run1 command_Read_P3_cl .normal command_Read_P3_c0 P3⟩)))) (.two (.two (.pt ⟨command_Read_P4_live, command_Read_P4_outs, run1 command_Read_P4_cl .normal command_Read_P4_c0 P4⟩) (.pt ⟨command_Read_P5_live, command_Read_P5_outs, run2 command_Read_P5_cl .normal command_Read_P5_c0 .ret command_Read_P5_c1 P5⟩)) .no)))))) 158 ((caC cdS caN).enc a) (outK (cdT (caC cd_Cmd (caC (cdI .i64) caN)))) = command_Read_t P0 P1 P2 P3 P4 P5 a.1 := by kernel_rfl
def command_Read (L : Nat) (x0 : ByteArray) : Option (G_Cmd × Int × Unit) := command_Read_t (command_Read_P0 (num_Get L)) (command_Read_P1 (num_Get L)) (command_Read_P2) (command_Read_P3 (num_Get L)) (command_Read_P4 (command_May L)) (command_Read_P5) x0
theorem command_Read_c (L : Nat) : Ctr Tryz.prog 158 false (caC cdS caN) (cdT (caC cd_Cmd (caC (cdI .i64) caN))) (fun a => command_Read L a.1) :=
 ctr_of mixed (sp := (tabS [])) tabS_nil (lt := (.two .no (.two .no (.two (.pt ⟨command_Read_P0_live, command_Read_P0_outs, run1 command_Read_P0_cl .normal command_Read_P0_c0 (command_Read_P0 (num_Get L))⟩) (.two (.pt ⟨command_Read_P1_live, command_Read_P1_outs, run1 command_Read_P1_cl .normal command_Read_P1_c0 (command_Read_P1 (num_Get L))⟩) (.two (.two .no (.one (.two (.two .no (.pt ⟨command_Read_P2_live, command_Read_P2_outs, run1 command_Read_P2_cl .normal command_Read_P2_c0 (command_Read_P2)⟩)) (.pt ⟨command_Read_P3_live, command_Read_P3_outs, run1 command_Read_P3_cl .normal command_Read_P3_c0 (command_Read_P3 (num_Get L))⟩)))) (.two (.two (.pt ⟨command_Read_P4_live, command_Read_P4_outs, run1 command_Read_P4_cl .normal command_Read_P4_c0 (command_Read_P4 (command_May L))⟩) (.pt ⟨command_Read_P5_live, command_Read_P5_outs, run2 command_Read_P5_cl .normal command_Read_P5_c0 .ret command_Read_P5_c1 (command_Read_P5)⟩)) .no))))))) (x := bodyOf Tryz.f158) Tryz.func158 (by kernel_rfl) (ltS (ltN _) (ltS (ltN _) (ltS (ptL (command_Read_P0_ok L).1) (ltS (ptL (command_Read_P1_ok L).1) (ltS (ltS (ltN _) (ltB (ltS (ltS (ltN _) (ptL (command_Read_P2_ok L).1)) (ptL (command_Read_P3_ok L).1)))) (ltS (ltS (ptL (command_Read_P4_ok L).1) (ptL (command_Read_P5_ok L).1)) (ltN _))))))) (ldS (ldN _) (ldS (ldN _) (ldS (pdL (command_Read_P0_ok L).2) (ldS (pdL (command_Read_P1_ok L).2) (ldS (ldS (ldN _) (ldB (ldS (ldS (ldN _) (pdL (command_Read_P2_ok L).2)) (pdL (command_Read_P3_ok L).2)))) (ldS (ldS (pdL (command_Read_P4_ok L).2) (pdL (command_Read_P5_ok L).2)) (ldN _))))))) fun a => command_Read_e (command_Read_P0 (num_Get L)) (command_Read_P1 (num_Get L)) (command_Read_P2) (command_Read_P3 (num_Get L)) (command_Read_P4 (command_May L)) (command_Read_P5) a
abbrev command_Bytes_t (command_order_may : G_command_order → Option Bool) (num_Put : (List (List V)) → Int → (List (List V)) → Option ((List (List V)) × Int × Unit)) (x0 : G_Cmd) : Option (ByteArray × Int × Unit) :=
 bindO (command_order_may (⟨x0, []⟩ : G_command_order)) fun r1 =>
 bif !r1 then
 some (noS, 2, ())
 else
 bindO (num_Put ([]) 1 ([[V.int .i64 (IntKind.i64.wrap x0.Kind)]])) fun r2 =>
 bindO (num_Put r2.1 6 ([[V.int .i64 x0.By]])) fun r3 =>
 bindO (num_Put r3.1 4 ([[V.int .i64 x0.Serial]])) fun r4 =>
 bif x0.Kind == 2 then
 bindO (num_Put r4.1 1 ([[V.int .i64 x0.Span.Lo], [V.int .i64 x0.Span.Hi], [V.int .i64 (IntKind.i64.wrap x0.Mode)]])) fun r5 =>
 bif (bytesOf r5.1).isSome then
 some (bytesS r5.1, 0, ())
 else none
 else
 bif x0.Kind == 3 then
 bindO (num_Put r4.1 1 ([[V.int .i64 x0.Span.Lo], [V.int .i64 x0.Span.Hi]])) fun r6 =>
 bif (bytesOf r6.1).isSome then
 some (bytesS r6.1, 0, ())
 else none
 else
 bif x0.Kind == 4 then
 bindO (num_Put r4.1 6 ([[V.int .i64 x0.Dead], [V.int .i64 x0.Was]])) fun r7 =>
 bif (bytesOf r7.1).isSome then
 some (bytesS r7.1, 0, ())
 else none
 else
 bif x0.Kind == 5 then
 bindO (num_Put r4.1 6 ([[V.int .i64 x0.Dead]])) fun r8 =>
 bif (bytesOf r8.1).isSome then
 some (bytesS r8.1, 0, ())
 else none
 else
 bif (bytesOf r4.1).isSome then
 some (bytesS r4.1, 0, ())
 else none
theorem command_Bytes_e (command_order_may : G_command_order → Option Bool) (num_Put : (List (List V)) → Int → (List (List V)) → Option ((List (List V)) × Int × Unit)) (a : G_Cmd × Unit) : symL Tryz.prog (tabS [(156, spE false (caC (cdP (caA G_command_order.ks G_command_order.cs G_command_order.of G_command_order.h)) caN) cdB (fun a => command_order_may a.1)), (201, spE true (caC cdR (caC (cdI .i64) (caC cdR caN))) (cdT (caC cdR (caC (cdI .i64) caN))) (fun a => num_Put a.1 a.2.1 a.2.2.1))]) 10 30 .no 109 ((caC cd_Cmd caN).enc a) (outK (cdT (caC cdS (caC (cdI .i64) caN)))) = command_Bytes_t command_order_may num_Put a.1 := by kernel_rfl
def command_Bytes (L : Nat) (x0 : G_Cmd) : Option (ByteArray × Int × Unit) := command_Bytes_t (command_order_may L) (num_Put L) x0
theorem command_Bytes_c (L : Nat) : Ctr Tryz.prog 109 false (caC cd_Cmd caN) (cdT (caC cdS (caC (cdI .i64) caN))) (fun a => command_Bytes L a.1) :=
 ctr_of mixed (sp := (tabS [(156, spE false (caC (cdP (caA G_command_order.ks G_command_order.cs G_command_order.of G_command_order.h)) caN) cdB (fun a => (command_order_may L) a.1)), (201, spE true (caC cdR (caC (cdI .i64) (caC cdR caN))) (cdT (caC cdR (caC (cdI .i64) caN))) (fun a => (num_Put L) a.1 a.2.1 a.2.2.1))])) (tabS_cons (command_order_may_c L).ent (tabS_cons (num_Put_c L).ent tabS_nil)) (lt := .no) (x := bodyOf Tryz.f109) Tryz.func109 (by kernel_rfl) (ltN _) (ldN _) fun a => command_Bytes_e (command_order_may L) (num_Put L) a
abbrev ref10_Key_t (x0 : Int) : Option Bool :=
 bif decide (16 ≤ x0) then
 some (decide (x0 ≤ 1099511627776))
 else
 some false
theorem ref10_Key_e (a : Int × Unit) : symL Tryz.prog (tabS []) 10 30 .no 10 ((caC (cdI .i64) caN).enc a) (outK cdB) = ref10_Key_t a.1 := by kernel_rfl
def ref10_Key (L : Nat) (x0 : Int) : Option Bool := ref10_Key_t x0
theorem ref10_Key_c (L : Nat) : Ctr Tryz.prog 10 false (caC (cdI .i64) caN) cdB (fun a => ref10_Key L a.1) :=
 ctr_of mixed (sp := (tabS [])) tabS_nil (lt := .no) (x := bodyOf Tryz.f10) Tryz.func10 (by kernel_rfl) (ltN _) (ldN _) fun a => ref10_Key_e a
abbrev ref10_Of_t (ref10_Key : Int → Option Bool) (x0 : Int) : Option Int :=
 bindO (ref10_Key x0) fun r1 =>
 bif !r1 then
 some (-1)
 else
 some (x0.tmod 16)
theorem ref10_Of_e (ref10_Key : Int → Option Bool) (a : Int × Unit) : symL Tryz.prog (tabS [(10, spE false (caC (cdI .i64) caN) cdB (fun a => ref10_Key a.1))]) 10 30 .no 58 ((caC (cdI .i64) caN).enc a) (outK (cdI .i64)) = ref10_Of_t ref10_Key a.1 := by kernel_rfl
def ref10_Of (L : Nat) (x0 : Int) : Option Int := ref10_Of_t (ref10_Key L) x0
theorem ref10_Of_c (L : Nat) : Ctr Tryz.prog 58 false (caC (cdI .i64) caN) (cdI .i64) (fun a => ref10_Of L a.1) :=
 ctr_of mixed (sp := (tabS [(10, spE false (caC (cdI .i64) caN) cdB (fun a => (ref10_Key L) a.1))])) (tabS_cons (ref10_Key_c L).ent tabS_nil) (lt := .no) (x := bodyOf Tryz.f58) Tryz.func58 (by kernel_rfl) (ltN _) (ldN _) fun a => ref10_Of_e (ref10_Key L) a
abbrev ref07_Dead_t (x0 : G_Geo) (x1 : G_Watch) (x2 : Int) : Option Bool :=
 bif x1.Looked then
 bif decide (0 < x1.Key) then
 bif decide (x1.Since ≤ x2) then
 some (decide (x0.Wait ≤ IntKind.i64.wrap (x2 - x1.Since)))
 else
 some false
 else
 some false
 else
 some false
theorem ref07_Dead_e (a : G_Geo × G_Watch × Int × Unit) : symL Tryz.prog (tabS []) 10 30 .no 59 ((caC cd_Geo (caC cd_Watch (caC (cdI .i64) caN))).enc a) (outK cdB) = ref07_Dead_t a.1 a.2.1 a.2.2.1 := by kernel_rfl
def ref07_Dead (L : Nat) (x0 : G_Geo) (x1 : G_Watch) (x2 : Int) : Option Bool := ref07_Dead_t x0 x1 x2
theorem ref07_Dead_c (L : Nat) : Ctr Tryz.prog 59 false (caC cd_Geo (caC cd_Watch (caC (cdI .i64) caN))) cdB (fun a => ref07_Dead L a.1 a.2.1 a.2.2.1) :=
 ctr_of mixed (sp := (tabS [])) tabS_nil (lt := .no) (x := bodyOf Tryz.f59) Tryz.func59 (by kernel_rfl) (ltN _) (ldN _) fun a => ref07_Dead_e a
abbrev ref26_believes_t (ref10_Of : Int → Option Int) (ref07_Dead : G_Geo → G_Watch → Int → Option Bool) (x0 : G_Geo) (x1 : G_Node) (x2 : Int) : Option Bool :=
 bindO (ref10_Of x2) fun r1 =>
 bif decide (r1 < 0) then
 some false
 else
 bif x2 == x1.Key then
 some false
 else
 bif r1 == x1.Num then
 some (decide (x2 < x1.Key))
 else
 bif decide ((x1.Watch.length : Int) ≤ r1) then
 some false
 else
 bif decide (0 ≤ r1) then
 bif decide (r1 < (x1.Watch.length : Int)) then
 bif rowIs [.i .i64, .i .i64, .i .i64, .b] x1.Watch r1.toNat then
 bif !(asB (cell x1.Watch r1.toNat 3)) then
 some false
 else
 bif decide (0 ≤ r1) then
 bif decide (r1 < (x1.Watch.length : Int)) then
 bif rowIs [.i .i64, .i .i64, .i .i64, .b] x1.Watch r1.toNat then
 bif decide (x2 < asI (cell x1.Watch r1.toNat 0)) then
 some true
 else
 bif (asI (cell x1.Watch r1.toNat 0)) == x2 then
 bindO (ref07_Dead x0 (⟨asI (cell x1.Watch r1.toNat 0), asI (cell x1.Watch r1.toNat 1), asI (cell x1.Watch r1.toNat 2), asB (cell x1.Watch r1.toNat 3)⟩ : G_Watch) x1.Clock) fun r2 =>
 some r2
 else
 some false
 else none
 else none
 else none
 else none
 else none
 else none
theorem ref26_believes_e (ref10_Of : Int → Option Int) (ref07_Dead : G_Geo → G_Watch → Int → Option Bool) (a : G_Geo × G_Node × Int × Unit) : symL Tryz.prog (tabS [(58, spE false (caC (cdI .i64) caN) (cdI .i64) (fun a => ref10_Of a.1)), (59, spE false (caC cd_Geo (caC cd_Watch (caC (cdI .i64) caN))) cdB (fun a => ref07_Dead a.1 a.2.1 a.2.2.1))]) 10 30 .no 27 ((caC cd_Geo (caC cd_Node (caC (cdI .i64) caN))).enc a) (outK cdB) = ref26_believes_t ref10_Of ref07_Dead a.1 a.2.1 a.2.2.1 := by kernel_rfl
def ref26_believes (L : Nat) (x0 : G_Geo) (x1 : G_Node) (x2 : Int) : Option Bool := ref26_believes_t (ref10_Of L) (ref07_Dead L) x0 x1 x2
theorem ref26_believes_c (L : Nat) : Ctr Tryz.prog 27 false (caC cd_Geo (caC cd_Node (caC (cdI .i64) caN))) cdB (fun a => ref26_believes L a.1 a.2.1 a.2.2.1) :=
 ctr_of mixed (sp := (tabS [(58, spE false (caC (cdI .i64) caN) (cdI .i64) (fun a => (ref10_Of L) a.1)), (59, spE false (caC cd_Geo (caC cd_Watch (caC (cdI .i64) caN))) cdB (fun a => (ref07_Dead L) a.1 a.2.1 a.2.2.1))])) (tabS_cons (ref10_Of_c L).ent (tabS_cons (ref07_Dead_c L).ent tabS_nil)) (lt := .no) (x := bodyOf Tryz.f27) Tryz.func27 (by kernel_rfl) (ltN _) (ldN _) fun a => ref26_believes_e (ref10_Of L) (ref07_Dead L) a
abbrev ref26_Believes_F0 {α : Type} (ref26_believes : G_Geo → G_Node → Int → Option Bool) (s : (List (List V)) × G_Geo × G_Node × Int × Unit) (kn : ((List (List V)) × G_Geo × G_Node × Int × Unit) → Option α) (k0 : Unit → Option α) (k1 : (Bool × Unit) → Option α) : Option α :=
 bif decide (s.2.2.2.1 < (s.1.length : Int)) then
 bif decide (0 ≤ s.2.2.2.1) then
 bif decide (s.2.2.2.1 < (s.1.length : Int)) then
 bif rowIs [.i .i64] s.1 s.2.2.2.1.toNat then
 bindO (ref26_believes s.2.1 s.2.2.1 (asI (cell s.1 s.2.2.2.1.toNat 0))) fun r1 =>
 bif !r1 then
 k1 (false, ())
 else
 kn (s.1, s.2.1, s.2.2.1, IntKind.i64.wrap (s.2.2.2.1 + 1), ())
 else none
 else none
 else none
 else
 k0 (())
def ref26_Believes_F0_live : List (Nat × Md) := [(2, .p), (3, .o [.p, .p, .p, .p, .p, .p, .p, .p]), (4, .o [.p, .p, .p, .p, .p, .p, .p, .p, .p, .p, .p, .p, .p, .p, .p, .p, .p, .p, .p, .p, .p, .p, .p, .p, .p, .p, .p, .p, .p, .p, .p, .p, .p, .p, .p, .p, .p, .p, .p, .p, .p, .p, .p, .p, .p, .p, .p, .p, .p, .p, .p, .p, .p, .p, .p, .p, .p, .p, .p, .p, .p, .p, .p, .p]), (7, .p)]
def ref26_Believes_F0_outs : AEx → List (Nat × Md) := (fun e => match e with | .exit i => bif Nat.beq i 0 then [] else [] | .ret => [(6, .p)] | .normal => [])
def ref26_Believes_F0_cl : Cl ((List (List V)) × G_Geo × G_Node × Int × Unit) := (clC (cxV (ceP cdR)) (clC (cxO (czA (caA G_Geo.ks G_Geo.cs G_Geo.of G_Geo.h)) 8) (clC (cxO (czA (caA G_Node.ks G_Node.cs G_Node.of G_Node.h)) 64) (clC (cxV (ceP (cdI .i64))) clN))))
def ref26_Believes_F0_c0 : Cl (Unit) := clN
def ref26_Believes_F0_c1 : Cl (Bool × Unit) := (clC (cxV (ceP cdB)) clN)
theorem ref26_Believes_F0_e {α : Type} (ref26_believes : G_Geo → G_Node → Int → Option Bool) (s : (List (List V)) × G_Geo × G_Node × Int × Unit) (Kn : List AV → Option α) (Ke : AEx → List AV → Option α) : stepS Tryz.prog (tabS [(27, spE false (caC cd_Geo (caC cd_Node (caC (cdI .i64) caN))) cdB (fun a => ref26_believes a.1 a.2.1 a.2.2.1))]) 10 30 (lcode Tryz.f8 [1, 0, 1, 0]) .no ref26_Believes_F0_live ref26_Believes_F0_outs (ref26_Believes_F0_cl.enc s) Kn Ke = ref26_Believes_F0 ref26_believes s (fun a => Kn (ref26_Believes_F0_cl.enc a)) (fun a => Ke (.exit 0) (ref26_Believes_F0_c0.enc a)) (fun a => Ke .ret (ref26_Believes_F0_c1.enc a)) := by kernel_rfl
abbrev ref26_Believes_t (F0 : ((List (List V)) × G_Geo × G_Node × Int × Unit) → (Unit → Option (Bool)) → ((Bool × Unit) → Option (Bool)) → Option (Bool)) (x0 : G_Geo) (x1 : G_Node) (x2 : List (List V)) : Option Bool :=
 F0 (x2, x0, x1, 0, ()) (fun q1 =>
 some true) (fun q2 =>
 some q2.1)
theorem ref26_Believes_e (F0 : ((List (List V)) × G_Geo × G_Node × Int × Unit) → (Unit → Option (Bool)) → ((Bool × Unit) → Option (Bool)) → Option (Bool)) (a : G_Geo × G_Node × (List (List V)) × Unit) : symL Tryz.prog (tabS []) 10 30 (.two .no (.two (.two .no (.one (.lp ⟨ref26_Believes_F0_live, ref26_Believes_F0_outs, run2 ref26_Believes_F0_cl (.exit 0) ref26_Believes_F0_c0 .ret ref26_Believes_F0_c1 F0⟩))) .no)) 8 ((caC cd_Geo (caC cd_Node (caC cdR caN))).enc a) (outK cdB) = ref26_Believes_t F0 a.1 a.2.1 a.2.2.1 := by kernel_rfl
def ref26_Believes (L : Nat) (x0 : G_Geo) (x1 : G_Node) (x2 : List (List V)) : Option Bool := ref26_Believes_t (loop2 (ref26_Believes_F0 (ref26_believes L)) L) x0 x1 x2
theorem ref26_Believes_F0_ok {α : Type} (L : Nat) : LOk Tryz.prog Tryz.f8.ntmps (lcode Tryz.f8 [1, 0, 1, 0]) (⟨ref26_Believes_F0_live, ref26_Believes_F0_outs, run2 ref26_Believes_F0_cl (.exit 0) ref26_Believes_F0_c0 .ret ref26_Believes_F0_c1 (loop2 (ref26_Believes_F0 (ref26_believes L)) L)⟩ : LSpec α) ∧ LDet (⟨ref26_Believes_F0_live, ref26_Believes_F0_outs, run2 ref26_Believes_F0_cl (.exit 0) ref26_Believes_F0_c0 .ret ref26_Believes_F0_c1 (loop2 (ref26_Believes_F0 (ref26_believes L)) L)⟩ : LSpec α) :=
 lspec2 (σ := (List (List V)) × G_Geo × G_Node × Int × Unit) (cl := ref26_Believes_F0_cl) (ca := ref26_Believes_F0_c0) (cb := ref26_Believes_F0_c1) (sp := (tabS [(27, spE false (caC cd_Geo (caC cd_Node (caC (cdI .i64) caN))) cdB (fun a => (ref26_believes L) a.1 a.2.1 a.2.2.1))])) mixed (tabS_cons (ref26_believes_c L).ent tabS_nil) (L := 10) (n := 30) (t := .no) (okL_of (by kernel_rfl)) (ltN _) (ldN _) (by kernel_rfl) (ref26_Believes_F0_e (ref26_believes L)) L
theorem ref26_Believes_c (L : Nat) : Ctr Tryz.prog 8 false (caC cd_Geo (caC cd_Node (caC cdR caN))) cdB (fun a => ref26_Believes L a.1 a.2.1 a.2.2.1) :=
 ctr_of mixed (sp := (tabS [])) tabS_nil (lt := (.two .no (.two (.two .no (.one (.lp ⟨ref26_Believes_F0_live, ref26_Believes_F0_outs, run2 ref26_Believes_F0_cl (.exit 0) ref26_Believes_F0_c0 .ret ref26_Believes_F0_c1 (loop2 (ref26_Believes_F0 (ref26_believes L)) L)⟩))) .no))) (x := bodyOf Tryz.f8) Tryz.func8 (by kernel_rfl) (ltS (ltN _) (ltS (ltS (ltN _) (ltB (ltL (ref26_Believes_F0_ok L).1))) (ltN _))) (ldS (ldN _) (ldS (ldS (ldN _) (ldB (ldL (ref26_Believes_F0_ok L).2))) (ldN _))) fun a => ref26_Believes_e (loop2 (ref26_Believes_F0 (ref26_believes L)) L) a
end Go.Proofs.YtkjihmlighigjaaGreat

namespace Go.Proofs.YtkjihmlighigjaaGreat
open Go.RowKit

abbrev law26_RepairAlive_t (ref26_Great : G_Node → Option Bool) (wakes_ : Option Bool) (repair_course_refuses : G_repair_course → Option Int) (ref26_Believes : G_Geo → G_Node → (List (List V)) → Option Bool) (repair_course_claim : G_repair_course → Option (Int × Int × Bool × Unit)) (ref10_Key : Int → Option Bool) (geo_Lease : G_Geo → Int → Option Int) (command_Bytes : G_Cmd → Option (ByteArray × Int × Unit)) (command_Read : ByteArray → Option (G_Cmd × Int × Unit)) (geo_May : G_Geo → Option Bool) (command_Of : Int → Option Int) (geo_Log : G_Geo → Int → Option Int) (paxos_places_1 : G_paxos_run → Option G_Act) (x0 : G_Geo) (x1 : G_Node) : Option Bool :=
 bindO (ref26_Great x1) fun r1 =>
 bif r1 then
 bindO (wakes_) fun r2 =>
 some r2
 else
 bif decide (x0.Wait < 0) then
 bindO (wakes_) fun r3 =>
 some r3
 else
 bif decide (1099511627776 < x0.Wait) then
 bindO (wakes_) fun r4 =>
 some r4
 else
 bindO (repair_course_refuses (⟨{ x1 with Op := { x1.Op with Kind := 6 } }, x0, G_Answer.z, false⟩ : G_repair_course)) fun r5 =>
 bif r5 != 0 then
 bif r5 != 0 then
 bindO (wakes_) fun r6 =>
 some r6
 else
 some false
 else
 bif x1.Op.Key != x1.Op.Key then
 some false
 else
 bindO (ref26_Believes x0 ({ x1 with Op := { x1.Op with Kind := 6 } }) ([[V.int .i64 x1.Op.Key]])) fun r7 =>
 bif !r7 then
 some false
 else
 bif x1.Op.Key == x1.Key then
 some false
 else
 bindO (repair_course_claim (⟨{ x1 with Op := { x1.Op with Kind := 6 }, At := 1 }, x0, G_Answer.z, false⟩ : G_repair_course)) fun r8 =>
 bif r8.2.2.1 then
 bif r8.2.1 != 0 then
 bif r8.2.1 != x1.Key then
 bindO (repair_course_claim (⟨{ x1 with Op := { x1.Op with Kind := 6 }, At := 2 }, x0, G_Answer.z, false⟩ : G_repair_course)) fun r9 =>
 bif r9.2.2.1 then
 bindO (ref26_Believes x0 ({ x1 with Op := { x1.Op with Kind := 6 } }) ([[V.int .i64 r9.2.1]])) fun r10 =>
 bif r10 then
 bindO (ref10_Key x1.Op.Key) fun r11 =>
 bif r11 then
 bindO (wakes_) fun r12 =>
 some r12
 else
 some false
 else
 some false
 else
 bindO (ref10_Key x1.Op.Key) fun r13 =>
 bif r13 then
 bindO (wakes_) fun r14 =>
 some r14
 else
 some false
 else
 bindO (repair_course_claim (⟨{ x1 with Op := { x1.Op with Kind := 6 }, At := 1 }, x0, G_Answer.z, false⟩ : G_repair_course)) fun r15 =>
 bif !r15.2.2.1 then
 bindO (geo_Lease x0 x1.Op.Node) fun r16 =>
 bif decide (0 ≤ r16) then
 bindO (ref10_Key x1.Op.Key) fun r17 =>
 bif r17 then
 bindO (wakes_) fun r18 =>
 some r18
 else
 some false
 else
 bindO (ref10_Key x1.Op.Key) fun r19 =>
 bif r19 then
 bindO (wakes_) fun r20 =>
 some r20
 else
 some false
 else
 bindO (command_Bytes (⟨4, x1.Key, IntKind.i64.wrap (x1.Serial + 1), x1.Op.Key, r15.2.1, G_Span.z, 0⟩ : G_Cmd)) fun r21 =>
 bindO (command_Read r21.1) fun r22 =>
 bif r22.2.1 != 0 then
 bif r21.2.1 != 0 then
 bindO (geo_Lease x0 x1.Op.Node) fun r23 =>
 bif decide (0 ≤ r23) then
 bindO (ref10_Key x1.Op.Key) fun r24 =>
 bif r24 then
 bindO (wakes_) fun r25 =>
 some r25
 else
 some false
 else
 bindO (ref10_Key x1.Op.Key) fun r26 =>
 bif r26 then
 bindO (wakes_) fun r27 =>
 some r27
 else
 some false
 else
 bindO (geo_Lease x0 x1.Op.Node) fun r28 =>
 bif decide (0 ≤ r28) then
 bindO (ref10_Key x1.Op.Key) fun r29 =>
 bif r29 then
 bindO (wakes_) fun r30 =>
 some r30
 else
 some false
 else
 bindO (ref10_Key x1.Op.Key) fun r31 =>
 bif r31 then
 bindO (wakes_) fun r32 =>
 some r32
 else
 some false
 else
 bindO (geo_May x0) fun r33 =>
 bif !r33 then
 bif r21.2.1 != 0 then
 bindO (geo_Lease x0 x1.Op.Node) fun r34 =>
 bif decide (0 ≤ r34) then
 bindO (ref10_Key x1.Op.Key) fun r35 =>
 bif r35 then
 bindO (wakes_) fun r36 =>
 some r36
 else
 some false
 else
 bindO (ref10_Key x1.Op.Key) fun r37 =>
 bif r37 then
 bindO (wakes_) fun r38 =>
 some r38
 else
 some false
 else
 bindO (geo_Lease x0 x1.Op.Node) fun r39 =>
 bif decide (0 ≤ r39) then
 bindO (ref10_Key x1.Op.Key) fun r40 =>
 bif r40 then
 bindO (wakes_) fun r41 =>
 some r41
 else
 some false
 else
 bindO (ref10_Key x1.Op.Key) fun r42 =>
 bif r42 then
 bindO (wakes_) fun r43 =>
 some r43
 else
 some false
 else
 bif decide (x1.Num < 0) then
 bif r21.2.1 != 0 then
 bindO (geo_Lease x0 x1.Op.Node) fun r44 =>
 bif decide (0 ≤ r44) then
 bindO (ref10_Key x1.Op.Key) fun r45 =>
 bif r45 then
 bindO (wakes_) fun r46 =>
 some r46
 else
 some false
 else
 bindO (ref10_Key x1.Op.Key) fun r47 =>
 bif r47 then
 bindO (wakes_) fun r48 =>
 some r48
 else
 some false
 else
 bindO (geo_Lease x0 x1.Op.Node) fun r49 =>
 bif decide (0 ≤ r49) then
 bindO (ref10_Key x1.Op.Key) fun r50 =>
 bif r50 then
 bindO (wakes_) fun r51 =>
 some r51
 else
 some false
 else
 bindO (ref10_Key x1.Op.Key) fun r52 =>
 bif r52 then
 bindO (wakes_) fun r53 =>
 some r53
 else
 some false
 else
 bif decide (x0.Nodes ≤ x1.Num) then
 bif r21.2.1 != 0 then
 bindO (geo_Lease x0 x1.Op.Node) fun r54 =>
 bif decide (0 ≤ r54) then
 bindO (ref10_Key x1.Op.Key) fun r55 =>
 bif r55 then
 bindO (wakes_) fun r56 =>
 some r56
 else
 some false
 else
 bindO (ref10_Key x1.Op.Key) fun r57 =>
 bif r57 then
 bindO (wakes_) fun r58 =>
 some r58
 else
 some false
 else
 bindO (geo_Lease x0 x1.Op.Node) fun r59 =>
 bif decide (0 ≤ r59) then
 bindO (ref10_Key x1.Op.Key) fun r60 =>
 bif r60 then
 bindO (wakes_) fun r61 =>
 some r61
 else
 some false
 else
 bindO (ref10_Key x1.Op.Key) fun r62 =>
 bif r62 then
 bindO (wakes_) fun r63 =>
 some r63
 else
 some false
 else
 bindO (command_Of r22.1.By) fun r64 =>
 bif r64 != x1.Num then
 bif r21.2.1 != 0 then
 bindO (geo_Lease x0 x1.Op.Node) fun r65 =>
 bif decide (0 ≤ r65) then
 bindO (ref10_Key x1.Op.Key) fun r66 =>
 bif r66 then
 bindO (wakes_) fun r67 =>
 some r67
 else
 some false
 else
 bindO (ref10_Key x1.Op.Key) fun r68 =>
 bif r68 then
 bindO (wakes_) fun r69 =>
 some r69
 else
 some false
 else
 bindO (geo_Lease x0 x1.Op.Node) fun r70 =>
 bif decide (0 ≤ r70) then
 bindO (ref10_Key x1.Op.Key) fun r71 =>
 bif r71 then
 bindO (wakes_) fun r72 =>
 some r72
 else
 some false
 else
 bindO (ref10_Key x1.Op.Key) fun r73 =>
 bif r73 then
 bindO (wakes_) fun r74 =>
 some r74
 else
 some false
 else
 bif r21.2.1 != 0 then
 bindO (geo_Lease x0 x1.Op.Node) fun r75 =>
 bif decide (0 ≤ r75) then
 bindO (ref10_Key x1.Op.Key) fun r76 =>
 bif r76 then
 bindO (wakes_) fun r77 =>
 some r77
 else
 some false
 else
 bindO (ref10_Key x1.Op.Key) fun r78 =>
 bif r78 then
 bindO (wakes_) fun r79 =>
 some r79
 else
 some false
 else
 bindO (geo_Log x0 x1.Done) fun r80 =>
 bif decide (r80 < 0) then
 bindO (ref10_Key x1.Op.Key) fun r81 =>
 bif r81 then
 bindO (wakes_) fun r82 =>
 some r82
 else
 some false
 else
 bindO (paxos_places_1 (⟨(⟨x1.Num, r21.1, 0, 0, G_Rec.z, G_Tally.z⟩ : G_Prop), x0, G_Table.z, x1.Done, false⟩ : G_paxos_run)) fun r83 =>
 bif r83.Kind != 5 then
 bindO (ref10_Key x1.Op.Key) fun r84 =>
 bif r84 then
 bindO (wakes_) fun r85 =>
 some r85
 else
 some false
 else
 bindO (ref26_Believes x0 ({ x1 with Op := { x1.Op with Kind := 6 } }) ([[V.int .i64 r83.Key]])) fun r86 =>
 bif r86 then
 bindO (ref10_Key x1.Op.Key) fun r87 =>
 bif r87 then
 bindO (wakes_) fun r88 =>
 some r88
 else
 some false
 else
 some false
 else
 bindO (repair_course_claim (⟨{ x1 with Op := { x1.Op with Kind := 6 }, At := 1 }, x0, G_Answer.z, false⟩ : G_repair_course)) fun r89 =>
 bif !r89.2.2.1 then
 bindO (geo_Lease x0 x1.Op.Node) fun r90 =>
 bif decide (0 ≤ r90) then
 bindO (ref10_Key x1.Op.Key) fun r91 =>
 bif r91 then
 bindO (wakes_) fun r92 =>
 some r92
 else
 some false
 else
 bindO (ref10_Key x1.Op.Key) fun r93 =>
 bif r93 then
 bindO (wakes_) fun r94 =>
 some r94
 else
 some false
 else
 bindO (command_Bytes (⟨4, x1.Key, IntKind.i64.wrap (x1.Serial + 1), x1.Op.Key, r89.2.1, G_Span.z, 0⟩ : G_Cmd)) fun r95 =>
 bindO (command_Read r95.1) fun r96 =>
 bif r96.2.1 != 0 then
 bif r95.2.1 != 0 then
 bindO (geo_Lease x0 x1.Op.Node) fun r97 =>
 bif decide (0 ≤ r97) then
 bindO (ref10_Key x1.Op.Key) fun r98 =>
 bif r98 then
 bindO (wakes_) fun r99 =>
 some r99
 else
 some false
 else
 bindO (ref10_Key x1.Op.Key) fun r100 =>
 bif r100 then
 bindO (wakes_) fun r101 =>
 some r101
 else
 some false
 else
 bindO (geo_Lease x0 x1.Op.Node) fun r102 =>
 bif decide (0 ≤ r102) then
 bindO (ref10_Key x1.Op.Key) fun r103 =>
 bif r103 then
 bindO (wakes_) fun r104 =>
 some r104
 else
 some false
 else
 bindO (ref10_Key x1.Op.Key) fun r105 =>
 bif r105 then
 bindO (wakes_) fun r106 =>
 some r106
 else
 some false
 else
 bindO (geo_May x0) fun r107 =>
 bif !r107 then
 bif r95.2.1 != 0 then
 bindO (geo_Lease x0 x1.Op.Node) fun r108 =>
 bif decide (0 ≤ r108) then
 bindO (ref10_Key x1.Op.Key) fun r109 =>
 bif r109 then
 bindO (wakes_) fun r110 =>
 some r110
 else
 some false
 else
 bindO (ref10_Key x1.Op.Key) fun r111 =>
 bif r111 then
 bindO (wakes_) fun r112 =>
 some r112
 else
 some false
 else
 bindO (geo_Lease x0 x1.Op.Node) fun r113 =>
 bif decide (0 ≤ r113) then
 bindO (ref10_Key x1.Op.Key) fun r114 =>
 bif r114 then
 bindO (wakes_) fun r115 =>
 some r115
 else
 some false
 else
 bindO (ref10_Key x1.Op.Key) fun r116 =>
 bif r116 then
 bindO (wakes_) fun r117 =>
 some r117
 else
 some false
 else
 bif decide (x1.Num < 0) then
 bif r95.2.1 != 0 then
 bindO (geo_Lease x0 x1.Op.Node) fun r118 =>
 bif decide (0 ≤ r118) then
 bindO (ref10_Key x1.Op.Key) fun r119 =>
 bif r119 then
 bindO (wakes_) fun r120 =>
 some r120
 else
 some false
 else
 bindO (ref10_Key x1.Op.Key) fun r121 =>
 bif r121 then
 bindO (wakes_) fun r122 =>
 some r122
 else
 some false
 else
 bindO (geo_Lease x0 x1.Op.Node) fun r123 =>
 bif decide (0 ≤ r123) then
 bindO (ref10_Key x1.Op.Key) fun r124 =>
 bif r124 then
 bindO (wakes_) fun r125 =>
 some r125
 else
 some false
 else
 bindO (ref10_Key x1.Op.Key) fun r126 =>
 bif r126 then
 bindO (wakes_) fun r127 =>
 some r127
 else
 some false
 else
 bif decide (x0.Nodes ≤ x1.Num) then
 bif r95.2.1 != 0 then
 bindO (geo_Lease x0 x1.Op.Node) fun r128 =>
 bif decide (0 ≤ r128) then
 bindO (ref10_Key x1.Op.Key) fun r129 =>
 bif r129 then
 bindO (wakes_) fun r130 =>
 some r130
 else
 some false
 else
 bindO (ref10_Key x1.Op.Key) fun r131 =>
 bif r131 then
 bindO (wakes_) fun r132 =>
 some r132
 else
 some false
 else
 bindO (geo_Lease x0 x1.Op.Node) fun r133 =>
 bif decide (0 ≤ r133) then
 bindO (ref10_Key x1.Op.Key) fun r134 =>
 bif r134 then
 bindO (wakes_) fun r135 =>
 some r135
 else
 some false
 else
 bindO (ref10_Key x1.Op.Key) fun r136 =>
 bif r136 then
 bindO (wakes_) fun r137 =>
 some r137
 else
 some false
 else
 bindO (command_Of r96.1.By) fun r138 =>
 bif r138 != x1.Num then
 bif r95.2.1 != 0 then
 bindO (geo_Lease x0 x1.Op.Node) fun r139 =>
 bif decide (0 ≤ r139) then
 bindO (ref10_Key x1.Op.Key) fun r140 =>
 bif r140 then
 bindO (wakes_) fun r141 =>
 some r141
 else
 some false
 else
 bindO (ref10_Key x1.Op.Key) fun r142 =>
 bif r142 then
 bindO (wakes_) fun r143 =>
 some r143
 else
 some false
 else
 bindO (geo_Lease x0 x1.Op.Node) fun r144 =>
 bif decide (0 ≤ r144) then
 bindO (ref10_Key x1.Op.Key) fun r145 =>
 bif r145 then
 bindO (wakes_) fun r146 =>
 some r146
 else
 some false
 else
 bindO (ref10_Key x1.Op.Key) fun r147 =>
 bif r147 then
 bindO (wakes_) fun r148 =>
 some r148
 else
 some false
 else
 bif r95.2.1 != 0 then
 bindO (geo_Lease x0 x1.Op.Node) fun r149 =>
 bif decide (0 ≤ r149) then
 bindO (ref10_Key x1.Op.Key) fun r150 =>
 bif r150 then
 bindO (wakes_) fun r151 =>
 some r151
 else
 some false
 else
 bindO (ref10_Key x1.Op.Key) fun r152 =>
 bif r152 then
 bindO (wakes_) fun r153 =>
 some r153
 else
 some false
 else
 bindO (geo_Log x0 x1.Done) fun r154 =>
 bif decide (r154 < 0) then
 bindO (ref10_Key x1.Op.Key) fun r155 =>
 bif r155 then
 bindO (wakes_) fun r156 =>
 some r156
 else
 some false
 else
 bindO (paxos_places_1 (⟨(⟨x1.Num, r95.1, 0, 0, G_Rec.z, G_Tally.z⟩ : G_Prop), x0, G_Table.z, x1.Done, false⟩ : G_paxos_run)) fun r157 =>
 bif r157.Kind != 5 then
 bindO (ref10_Key x1.Op.Key) fun r158 =>
 bif r158 then
 bindO (wakes_) fun r159 =>
 some r159
 else
 some false
 else
 bindO (ref26_Believes x0 ({ x1 with Op := { x1.Op with Kind := 6 } }) ([[V.int .i64 r157.Key]])) fun r160 =>
 bif r160 then
 bindO (ref10_Key x1.Op.Key) fun r161 =>
 bif r161 then
 bindO (wakes_) fun r162 =>
 some r162
 else
 some false
 else
 some false
 else
 bindO (repair_course_claim (⟨{ x1 with Op := { x1.Op with Kind := 6 }, At := 1 }, x0, G_Answer.z, false⟩ : G_repair_course)) fun r163 =>
 bif !r163.2.2.1 then
 bindO (geo_Lease x0 x1.Op.Node) fun r164 =>
 bif decide (0 ≤ r164) then
 bindO (ref10_Key x1.Op.Key) fun r165 =>
 bif r165 then
 bindO (wakes_) fun r166 =>
 some r166
 else
 some false
 else
 bindO (ref10_Key x1.Op.Key) fun r167 =>
 bif r167 then
 bindO (wakes_) fun r168 =>
 some r168
 else
 some false
 else
 bindO (command_Bytes (⟨4, x1.Key, IntKind.i64.wrap (x1.Serial + 1), x1.Op.Key, r163.2.1, G_Span.z, 0⟩ : G_Cmd)) fun r169 =>
 bindO (command_Read r169.1) fun r170 =>
 bif r170.2.1 != 0 then
 bif r169.2.1 != 0 then
 bindO (geo_Lease x0 x1.Op.Node) fun r171 =>
 bif decide (0 ≤ r171) then
 bindO (ref10_Key x1.Op.Key) fun r172 =>
 bif r172 then
 bindO (wakes_) fun r173 =>
 some r173
 else
 some false
 else
 bindO (ref10_Key x1.Op.Key) fun r174 =>
 bif r174 then
 bindO (wakes_) fun r175 =>
 some r175
 else
 some false
 else
 bindO (geo_Lease x0 x1.Op.Node) fun r176 =>
 bif decide (0 ≤ r176) then
 bindO (ref10_Key x1.Op.Key) fun r177 =>
 bif r177 then
 bindO (wakes_) fun r178 =>
 some r178
 else
 some false
 else
 bindO (ref10_Key x1.Op.Key) fun r179 =>
 bif r179 then
 bindO (wakes_) fun r180 =>
 some r180
 else
 some false
 else
 bindO (geo_May x0) fun r181 =>
 bif !r181 then
 bif r169.2.1 != 0 then
 bindO (geo_Lease x0 x1.Op.Node) fun r182 =>
 bif decide (0 ≤ r182) then
 bindO (ref10_Key x1.Op.Key) fun r183 =>
 bif r183 then
 bindO (wakes_) fun r184 =>
 some r184
 else
 some false
 else
 bindO (ref10_Key x1.Op.Key) fun r185 =>
 bif r185 then
 bindO (wakes_) fun r186 =>
 some r186
 else
 some false
 else
 bindO (geo_Lease x0 x1.Op.Node) fun r187 =>
 bif decide (0 ≤ r187) then
 bindO (ref10_Key x1.Op.Key) fun r188 =>
 bif r188 then
 bindO (wakes_) fun r189 =>
 some r189
 else
 some false
 else
 bindO (ref10_Key x1.Op.Key) fun r190 =>
 bif r190 then
 bindO (wakes_) fun r191 =>
 some r191
 else
 some false
 else
 bif decide (x1.Num < 0) then
 bif r169.2.1 != 0 then
 bindO (geo_Lease x0 x1.Op.Node) fun r192 =>
 bif decide (0 ≤ r192) then
 bindO (ref10_Key x1.Op.Key) fun r193 =>
 bif r193 then
 bindO (wakes_) fun r194 =>
 some r194
 else
 some false
 else
 bindO (ref10_Key x1.Op.Key) fun r195 =>
 bif r195 then
 bindO (wakes_) fun r196 =>
 some r196
 else
 some false
 else
 bindO (geo_Lease x0 x1.Op.Node) fun r197 =>
 bif decide (0 ≤ r197) then
 bindO (ref10_Key x1.Op.Key) fun r198 =>
 bif r198 then
 bindO (wakes_) fun r199 =>
 some r199
 else
 some false
 else
 bindO (ref10_Key x1.Op.Key) fun r200 =>
 bif r200 then
 bindO (wakes_) fun r201 =>
 some r201
 else
 some false
 else
 bif decide (x0.Nodes ≤ x1.Num) then
 bif r169.2.1 != 0 then
 bindO (geo_Lease x0 x1.Op.Node) fun r202 =>
 bif decide (0 ≤ r202) then
 bindO (ref10_Key x1.Op.Key) fun r203 =>
 bif r203 then
 bindO (wakes_) fun r204 =>
 some r204
 else
 some false
 else
 bindO (ref10_Key x1.Op.Key) fun r205 =>
 bif r205 then
 bindO (wakes_) fun r206 =>
 some r206
 else
 some false
 else
 bindO (geo_Lease x0 x1.Op.Node) fun r207 =>
 bif decide (0 ≤ r207) then
 bindO (ref10_Key x1.Op.Key) fun r208 =>
 bif r208 then
 bindO (wakes_) fun r209 =>
 some r209
 else
 some false
 else
 bindO (ref10_Key x1.Op.Key) fun r210 =>
 bif r210 then
 bindO (wakes_) fun r211 =>
 some r211
 else
 some false
 else
 bindO (command_Of r170.1.By) fun r212 =>
 bif r212 != x1.Num then
 bif r169.2.1 != 0 then
 bindO (geo_Lease x0 x1.Op.Node) fun r213 =>
 bif decide (0 ≤ r213) then
 bindO (ref10_Key x1.Op.Key) fun r214 =>
 bif r214 then
 bindO (wakes_) fun r215 =>
 some r215
 else
 some false
 else
 bindO (ref10_Key x1.Op.Key) fun r216 =>
 bif r216 then
 bindO (wakes_) fun r217 =>
 some r217
 else
 some false
 else
 bindO (geo_Lease x0 x1.Op.Node) fun r218 =>
 bif decide (0 ≤ r218) then
 bindO (ref10_Key x1.Op.Key) fun r219 =>
 bif r219 then
 bindO (wakes_) fun r220 =>
 some r220
 else
 some false
 else
 bindO (ref10_Key x1.Op.Key) fun r221 =>
 bif r221 then
 bindO (wakes_) fun r222 =>
 some r222
 else
 some false
 else
 bif r169.2.1 != 0 then
 bindO (geo_Lease x0 x1.Op.Node) fun r223 =>
 bif decide (0 ≤ r223) then
 bindO (ref10_Key x1.Op.Key) fun r224 =>
 bif r224 then
 bindO (wakes_) fun r225 =>
 some r225
 else
 some false
 else
 bindO (ref10_Key x1.Op.Key) fun r226 =>
 bif r226 then
 bindO (wakes_) fun r227 =>
 some r227
 else
 some false
 else
 bindO (geo_Log x0 x1.Done) fun r228 =>
 bif decide (r228 < 0) then
 bindO (ref10_Key x1.Op.Key) fun r229 =>
 bif r229 then
 bindO (wakes_) fun r230 =>
 some r230
 else
 some false
 else
 bindO (paxos_places_1 (⟨(⟨x1.Num, r169.1, 0, 0, G_Rec.z, G_Tally.z⟩ : G_Prop), x0, G_Table.z, x1.Done, false⟩ : G_paxos_run)) fun r231 =>
 bif r231.Kind != 5 then
 bindO (ref10_Key x1.Op.Key) fun r232 =>
 bif r232 then
 bindO (wakes_) fun r233 =>
 some r233
 else
 some false
 else
 bindO (ref26_Believes x0 ({ x1 with Op := { x1.Op with Kind := 6 } }) ([[V.int .i64 r231.Key]])) fun r234 =>
 bif r234 then
 bindO (ref10_Key x1.Op.Key) fun r235 =>
 bif r235 then
 bindO (wakes_) fun r236 =>
 some r236
 else
 some false
 else
 some false
set_option maxRecDepth 100000 in
set_option maxHeartbeats 16000000 in
theorem law26_RepairAlive_e (ref26_Great : G_Node → Option Bool) (wakes_ : Option Bool) (repair_course_refuses : G_repair_course → Option Int) (ref26_Believes : G_Geo → G_Node → (List (List V)) → Option Bool) (repair_course_claim : G_repair_course → Option (Int × Int × Bool × Unit)) (ref10_Key : Int → Option Bool) (geo_Lease : G_Geo → Int → Option Int) (command_Bytes : G_Cmd → Option (ByteArray × Int × Unit)) (command_Read : ByteArray → Option (G_Cmd × Int × Unit)) (geo_May : G_Geo → Option Bool) (command_Of : Int → Option Int) (geo_Log : G_Geo → Int → Option Int) (paxos_places_1 : G_paxos_run → Option G_Act) (a : G_Geo × G_Node × Unit) : symL Tryz.prog (tabS [(4, spE false (caC cd_Node caN) cdB (fun a => ref26_Great a.1)), (5, spE false caN cdB (fun a => wakes_)), (20, spE false (caC (cdP (caA G_repair_course.ks G_repair_course.cs G_repair_course.of G_repair_course.h)) caN) (cdI .i64) (fun a => repair_course_refuses a.1)), (8, spE false (caC cd_Geo (caC cd_Node (caC cdR caN))) cdB (fun a => ref26_Believes a.1 a.2.1 a.2.2.1)), (24, spE false (caC (cdP (caA G_repair_course.ks G_repair_course.cs G_repair_course.of G_repair_course.h)) caN) (cdT (caC (cdI .i64) (caC (cdI .i64) (caC cdB caN)))) (fun a => repair_course_claim a.1)), (10, spE false (caC (cdI .i64) caN) cdB (fun a => ref10_Key a.1)), (23, spE false (caC cd_Geo (caC (cdI .i64) caN)) (cdI .i64) (fun a => geo_Lease a.1 a.2.1)), (109, spE false (caC cd_Cmd caN) (cdT (caC cdS (caC (cdI .i64) caN))) (fun a => command_Bytes a.1)), (158, spE false (caC cdS caN) (cdT (caC cd_Cmd (caC (cdI .i64) caN))) (fun a => command_Read a.1)), (51, spE false (caC cd_Geo caN) cdB (fun a => geo_May a.1)), (96, spE false (caC (cdI .i64) caN) (cdI .i64) (fun a => command_Of a.1)), (56, spE false (caC cd_Geo (caC (cdI .i64) caN)) (cdI .i64) (fun a => geo_Log a.1 a.2.1)), (133, spE false (caC (cdP (caA G_paxos_run.ks G_paxos_run.cs G_paxos_run.of G_paxos_run.h)) caN) cd_Act (fun a => paxos_places_1 a.1))]) 10 30 .no 3 ((caC cd_Geo (caC cd_Node caN)).enc a) (outK cdB) = law26_RepairAlive_t ref26_Great wakes_ repair_course_refuses ref26_Believes repair_course_claim ref10_Key geo_Lease command_Bytes command_Read geo_May command_Of geo_Log paxos_places_1 a.1 a.2.1 := by kernel_rfl
def law26_RepairAlive (L : Nat) (x0 : G_Geo) (x1 : G_Node) : Option Bool := law26_RepairAlive_t (ref26_Great L) (wakes_ L) (repair_course_refuses L) (ref26_Believes L) (repair_course_claim L) (ref10_Key L) (geo_Lease L) (command_Bytes L) (command_Read L) (geo_May L) (command_Of L) (geo_Log L) (paxos_places_1 L) x0 x1
set_option maxRecDepth 100000 in
set_option maxHeartbeats 16000000 in
theorem law26_RepairAlive_c (L : Nat) : Ctr Tryz.prog 3 false (caC cd_Geo (caC cd_Node caN)) cdB (fun a => law26_RepairAlive L a.1 a.2.1) :=
 ctr_of mixed (sp := (tabS [(4, spE false (caC cd_Node caN) cdB (fun a => (ref26_Great L) a.1)), (5, spE false caN cdB (fun a => (wakes_ L))), (20, spE false (caC (cdP (caA G_repair_course.ks G_repair_course.cs G_repair_course.of G_repair_course.h)) caN) (cdI .i64) (fun a => (repair_course_refuses L) a.1)), (8, spE false (caC cd_Geo (caC cd_Node (caC cdR caN))) cdB (fun a => (ref26_Believes L) a.1 a.2.1 a.2.2.1)), (24, spE false (caC (cdP (caA G_repair_course.ks G_repair_course.cs G_repair_course.of G_repair_course.h)) caN) (cdT (caC (cdI .i64) (caC (cdI .i64) (caC cdB caN)))) (fun a => (repair_course_claim L) a.1)), (10, spE false (caC (cdI .i64) caN) cdB (fun a => (ref10_Key L) a.1)), (23, spE false (caC cd_Geo (caC (cdI .i64) caN)) (cdI .i64) (fun a => (geo_Lease L) a.1 a.2.1)), (109, spE false (caC cd_Cmd caN) (cdT (caC cdS (caC (cdI .i64) caN))) (fun a => (command_Bytes L) a.1)), (158, spE false (caC cdS caN) (cdT (caC cd_Cmd (caC (cdI .i64) caN))) (fun a => (command_Read L) a.1)), (51, spE false (caC cd_Geo caN) cdB (fun a => (geo_May L) a.1)), (96, spE false (caC (cdI .i64) caN) (cdI .i64) (fun a => (command_Of L) a.1)), (56, spE false (caC cd_Geo (caC (cdI .i64) caN)) (cdI .i64) (fun a => (geo_Log L) a.1 a.2.1)), (133, spE false (caC (cdP (caA G_paxos_run.ks G_paxos_run.cs G_paxos_run.of G_paxos_run.h)) caN) cd_Act (fun a => (paxos_places_1 L) a.1))])) (tabS_cons (ref26_Great_c L).ent (tabS_cons (wakes__c L).ent (tabS_cons (repair_course_refuses_c L).ent (tabS_cons (ref26_Believes_c L).ent (tabS_cons (repair_course_claim_c L).ent (tabS_cons (ref10_Key_c L).ent (tabS_cons (geo_Lease_c L).ent (tabS_cons (command_Bytes_c L).ent (tabS_cons (command_Read_c L).ent (tabS_cons (geo_May_c L).ent (tabS_cons (command_Of_c L).ent (tabS_cons (geo_Log_c L).ent (tabS_cons (paxos_places_1_c L).ent tabS_nil))))))))))))) (lt := .no) (x := bodyOf Tryz.f3) Tryz.func3 (by kernel_rfl) (ltN _) (ldN _) fun a => law26_RepairAlive_e (ref26_Great L) (wakes_ L) (repair_course_refuses L) (ref26_Believes L) (repair_course_claim L) (ref10_Key L) (geo_Lease L) (command_Bytes L) (command_Read L) (geo_May L) (command_Of L) (geo_Log L) (paxos_places_1 L) a
end Go.Proofs.YtkjihmlighigjaaGreat



namespace Go.Proofs.YtkjihmlighigjaaGreat
open Go.RowKit

theorem getD_at {es : List (List V)} {i : Nat} {r : List V} (h : es[i]? = some r) : es.getD i [] = r := by
  rw [List.getD_eq_getElem?_getD, h]; rfl
theorem cell_at {es : List (List V)} {i j : Nat} {r : List V} (h : es[i]? = some r) : cell es i j = cell [r] 0 j := by
  unfold cell
  rw [getD_at h]; rfl
theorem segIs_at {es : List (List V)} {i : Nat} {r : List V} (h : es[i]? = some r) : ∀ (ks : List Kc) (j : Nat), segIs ks es i j = segIs ks [r] 0 j
  | [], j => by unfold segIs; rw [getD_at h]; rfl
  | k :: ks, j => by unfold segIs; rw [cell_at h, segIs_at h ks]
theorem rowIs_at {es : List (List V)} {i : Nat} {r : List V} (ks : List Kc) (h : es[i]? = some r) : rowIs ks es i = rowIs ks [r] 0 := by
  unfold rowIs
  rw [segIs_at h, getD_at h]; rfl
section
variable {α σ A B : Type}
theorem loop2_run {F : σ → (σ → Option α) → (A → Option α) → (B → Option α) → Option α} (I : σ → Prop) (m : σ → Nat) (PA : A → Prop) (PB : B → Prop)
    (h : ∀ s, I s → (∃ s', I s' ∧ m s' < m s ∧ ∀ kn ka kb, F s kn ka kb = kn s') ∨ (∃ a, PA a ∧ ∀ kn ka kb, F s kn ka kb = ka a) ∨ (∃ b, PB b ∧ ∀ kn ka kb, F s kn ka kb = kb b)) :
    ∀ (L : Nat) (s : σ), I s → m s < L → (∃ a, PA a ∧ ∀ ka kb, loop2 F L s ka kb = ka a) ∨ (∃ b, PB b ∧ ∀ ka kb, loop2 F L s ka kb = kb b)
  | 0, _, _, hm => absurd hm (Nat.not_lt_zero _)
  | L + 1, s, hs, hm => by
    rcases h s hs with ⟨s', h1, h2, h3⟩ | ⟨a, h1, h2⟩ | ⟨b, h1, h2⟩
    · rcases loop2_run I m PA PB h L s' h1 (by omega) with ⟨a, k1, k2⟩ | ⟨b, k1, k2⟩
      · exact .inl ⟨a, k1, fun ka kb => (h3 _ ka kb).trans (k2 ka kb)⟩
      · exact .inr ⟨b, k1, fun ka kb => (h3 _ ka kb).trans (k2 ka kb)⟩
    · exact .inl ⟨a, h1, fun ka kb => h2 _ ka kb⟩
    · exact .inr ⟨b, h1, fun ka kb => h2 _ ka kb⟩
end
structure Rw (ks : List Kc) (rows : List (List V)) : Prop where
  len : rows.length ≤ 9223372036854775807
  is : ∀ i, i < rows.length → rowIs ks rows i = true
theorem bif_t {α : Type} {c : Bool} {x y : α} (h : c = true) : (bif c then x else y) = x := by rw [h]; rfl
end Go.Proofs.YtkjihmlighigjaaGreat

namespace Go.Proofs.YtkjihmlighigjaaGreat
open Go.RowKit

def Near (a : Int) : Prop := -1099511627776 ≤ a ∧ a ≤ 1099511627776
theorem inV_is (a : Int) : rowIs [.i .i64] [inV a] 0 = true := rfl
theorem map_at {α β : Type} {f : α → β} {l : List α} {i : Nat} (h : i < l.length) : (l.map f)[i]? = some (f l[i]) := by simp [h]
set_option maxHeartbeats 1000000 in
theorem far_run (L : Nat) (l : List Int) (hL : l.length < L) (hl : l.length ≤ 1099511627776) : ∃ b, ref24_far L (l.map inV) = some b ∧ (b = false → ∀ x ∈ l, Near x) := by
  have H := by
    refine loop2_run (α := Bool) (F := ref24_far_F0) (fun s => s.1 = l.map inV ∧ 0 ≤ s.2.1 ∧ s.2.1 ≤ l.length ∧ ∀ j (hj : j < l.length), j < s.2.1.toNat → Near l[j]) (fun s => l.length - s.2.1.toNat) (fun _ => ∀ x ∈ l, Near x) (fun b => b.1 = true) (fun s hs => ?_) L (l.map inV, 0, ()) ⟨rfl, Int.le_refl _, Int.natCast_nonneg _, fun j _ h => absurd h (Nat.not_lt_zero _)⟩ (by simpa using hL)
    · obtain ⟨r, i, u⟩ := s
      obtain ⟨rfl, h0, h1, h2⟩ := hs
      dsimp only at h0 h1 h2
      by_cases hi : i < l.length
      · have hj : i.toNat < l.length := by omega
        have hr := map_at (f := inV) hj
        have c1 : decide (i < ((l.map inV).length : Int)) = true := decide_eq_true (by rw [List.length_map]; exact hi)
        have c2 : decide (0 ≤ i) = true := decide_eq_true h0
        have c3 : rowIs [.i .i64] (l.map inV) i.toNat = true := (rowIs_at _ hr).trans (inV_is _)
        have c4 : asI (cell (l.map inV) i.toNat 0) = l[i.toNat] := by rw [cell_at hr]; rfl
        by_cases hx : 1099511627776 < l[i.toNat]
        · refine .inr (.inr ⟨(true, ()), rfl, fun kn ka kb => ?_⟩)
          simp only [ref24_far_F0, c1, c2, c3, c4, decide_eq_true hx, cond_true]
        · by_cases hy : l[i.toNat] < -1099511627776
          · refine .inr (.inr ⟨(true, ()), rfl, fun kn ka kb => ?_⟩)
            simp only [ref24_far_F0, c1, c2, c3, c4, decide_eq_false hx, decide_eq_true hy, cond_true, cond_false]
          · refine .inl ⟨(l.map inV, i + 1, ()), ⟨rfl, by dsimp only; omega, by dsimp only; omega, fun j hj' hlt => ?_⟩, by dsimp only; omega, fun kn ka kb => ?_⟩
            · dsimp only at hlt
              by_cases hji : j = i.toNat
              · subst hji; exact ⟨by omega, by omega⟩
              · exact h2 j hj' (by omega)
            · simp only [ref24_far_F0, c1, c2, c3, c4, decide_eq_false hx, decide_eq_false hy, cond_true, cond_false]
              rw [wrap64 (by omega) (by omega)]
      · have c1 : decide (i < ((l.map inV).length : Int)) = false := decide_eq_false (by rw [List.length_map]; exact hi)
        refine .inr (.inl ⟨(), fun x hx => ?_, fun kn ka kb => ?_⟩)
        · obtain ⟨j, hj, rfl⟩ := List.getElem_of_mem hx
          exact h2 j hj (by omega)
        · simp only [ref24_far_F0, c1, cond_false]
  rcases H with ⟨a, h1, h2⟩ | ⟨b, h1, h2⟩
  · exact ⟨false, h2 _ _, fun _ => h1⟩
  · exact ⟨true, (h2 _ _).trans (by show some b.1 = _; rw [h1]), nofun⟩
end Go.Proofs.YtkjihmlighigjaaGreat

namespace Go.Proofs.YtkjihmlighigjaaGreat
open Go.RowKit
structure Nd (n : G_Node) : Prop where
  slots : Rw [.i .i64, .i .i64] n.Table.Slots
  holds : Rw [.i .i64, .i .i64, .i .i64, .i .i8] n.Table.Holds
  queue : Rw [.i .i64, .i .i64, .i .i64, .i .i8] n.Table.Queue
  writes : Rw [.i .i64, .s] n.Txn.Writes
  pend : Rw [.i .i64, .s] n.Pend
  watch : Rw [.i .i64, .i .i64, .i .i64, .b] n.Watch
  giving : Rw [.i .i64, .i .i64] n.Giving
  pul : Rw [.i .i64, .i .i64, .i .i64, .i .i64, .s, .i .i64] n.Pu.L
  cells : Rw [.i .i64, .s] n.St.Cells
  parts : Rw [.s] n.F.Parts
  rl : Rw [.i .i64, .i .i64, .i .i64, .i .i64, .s, .i .i64] n.R.L
  rcells : Rw [.i .i64, .s] n.R.Cells
end Go.Proofs.YtkjihmlighigjaaGreat

namespace Go.Proofs.YtkjihmlighigjaaGreat
open Go.RowKit

def Dfn {α : Type} (o : Option α) : Prop := ∃ r, o = some r
theorem dfn_some {α : Type} (r : α) : Dfn (some r) := ⟨r, rfl⟩
theorem dfn_bif {α : Type} {c : Bool} {x y : Option α} (h1 : c = true → Dfn x) (h2 : c = false → Dfn y) : Dfn (bif c then x else y) := by
  cases c with
  | true => exact h1 rfl
  | false => exact h2 rfl
theorem dfn_bind {α β : Type} {o : Option β} {f : β → Option α} (h : Dfn o) (hf : ∀ b, o = some b → Dfn (f b)) : Dfn (bindO o f) := by
  obtain ⟨b, rfl⟩ := h
  exact hf b rfl
theorem ext_le (s : ByteArray) (a b : Nat) : (s.extract a b).size ≤ s.size := by rw [ByteArray.size_extract]; omega
structure Ok (s : ByteArray) : Prop where
  h : s.size ≤ maxLen
theorem ext_max {s : ByteArray} {a b : Nat} (h : Ok s) : Ok (s.extract a b) := ⟨Nat.le_trans (ext_le s a b) h.h⟩
theorem get_dfn {L : Nat} {s : ByteArray} {a n : Int} (h : Ok s) : Dfn (num_Get L s a n) := by
  unfold num_Get
  rw [bif_t (Nat.ble_eq_true_of_le h.h)]
  exact ⟨_, rfl⟩
theorem get_len {L : Nat} {s : ByteArray} {a n : Int} {r : Int × Int × Unit} (h : num_Get L s a n = some r) (hr : (r.2.1 != 0) = false) : a + n ≤ (s.size : Int) := by
  unfold num_Get at h
  obtain ⟨-, h⟩ := bif_some h
  injection h with h
  subst h
  dsimp only at hr
  unfold getS at hr
  split at hr
  · split at hr
    · rename_i h1 h2
      have : s.data.toList.length = s.size := by simp
      rw [this] at h2
      exact h2.2
    · simp at hr
  · simp at hr
theorem key_dfn {L : Nat} {x : Int} : Dfn (command_Key L x) := by
  unfold command_Key command_Key_t
  refine dfn_bif (fun _ => dfn_some _) (fun _ => dfn_some _)
theorem cspan_dfn {L : Nat} {x : G_command_order} : Dfn (command_order_span L x) := by
  unfold command_order_span command_order_span_t
  refine dfn_bif (fun _ => dfn_bif (fun _ => dfn_some _) (fun _ => dfn_some _)) (fun _ => dfn_some _)
set_option maxHeartbeats 4000000 in
theorem only_dfn {L : Nat} {x : G_command_order} {a b c d : Bool} : Dfn (command_order_only L x a b c d) := by
  unfold command_order_only command_order_only_t
  simp only [command_order_only_P0]
  repeat' (first | exact dfn_some _ | refine dfn_bind cspan_dfn (fun _ _ => ?_) | refine dfn_bind key_dfn (fun _ _ => ?_) | refine dfn_bif (fun _ => ?_) (fun _ => ?_))
theorem omay_dfn {L : Nat} {x : G_command_order} : Dfn (command_order_may L x) := by
  unfold command_order_may command_order_may_t
  repeat' (first | exact dfn_some _ | refine dfn_bind only_dfn (fun _ _ => ?_) | refine dfn_bind key_dfn (fun _ _ => ?_) | refine dfn_bif (fun _ => ?_) (fun _ => ?_))
theorem cMay_dfn {L : Nat} {x : G_Cmd} : Dfn (command_May L x) := by
  unfold command_May command_May_t
  exact dfn_bind omay_dfn fun _ _ => dfn_some _
theorem cOf_dfn {L : Nat} {x : Int} : Dfn (command_Of L x) := by
  unfold command_Of command_Of_t
  exact dfn_bind key_dfn fun _ _ => dfn_bif (fun _ => dfn_some _) (fun _ => dfn_some _)
section
variable {α : Type} {L : Nat}
theorem Read_P0_dfn {s : G_Cmd × G_command_taker × Unit} {k0 : (G_Cmd × G_command_taker × Int × Unit) → Option α} (hs : Ok s.2.1.s_) (hk : ∀ o, Ok o.2.1.s_ → Dfn (k0 o)) : Dfn (command_Read_P0 (num_Get L) s k0) := by
  unfold command_Read_P0
  repeat' (first | with_reducible refine hk _ ?_ | with_reducible assumption | with_reducible refine ext_max ?_ | with_reducible refine dfn_bif (fun _ => ?_) (fun _ => ?_) | with_reducible refine dfn_bind (get_dfn ?_) (fun _ _ => ?_))
  all_goals (rename_i r hr hz hc; have h1 := get_len hr hz; have h2 := of_decide_eq_false hc; clear hr hz hc; exfalso; omega)
theorem Read_P1_dfn {s : G_Cmd × G_command_taker × Int × Unit} {k0 : (G_Cmd × G_command_taker × G_Cmd × Unit) → Option α} (hs : Ok s.2.1.s_) (hk : ∀ o, Ok o.2.1.s_ → Dfn (k0 o)) : Dfn (command_Read_P1 (num_Get L) s k0) := by
  unfold command_Read_P1
  repeat' (first | with_reducible refine hk _ ?_ | with_reducible assumption | with_reducible refine ext_max ?_ | with_reducible refine dfn_bif (fun _ => ?_) (fun _ => ?_) | with_reducible refine dfn_bind (get_dfn ?_) (fun _ _ => ?_))
  all_goals (rename_i r hr hz hc; have h1 := get_len hr hz; have h2 := of_decide_eq_false hc; clear hr hz hc; exfalso; omega)
set_option maxHeartbeats 4000000 in
theorem Read_P3_dfn {s : G_Cmd × G_command_taker × G_Cmd × Int × Bool × Unit} {k0 : (G_Cmd × G_command_taker × G_Cmd × Unit) → Option α} (hs : Ok s.2.1.s_) (hk : ∀ o, Ok o.2.1.s_ → Dfn (k0 o)) : Dfn (command_Read_P3 (num_Get L) s k0) := by
  unfold command_Read_P3
  repeat' (first | with_reducible refine hk _ ?_ | with_reducible assumption | with_reducible refine ext_max ?_ | with_reducible refine dfn_bif (fun _ => ?_) (fun _ => ?_) | with_reducible refine dfn_bind (get_dfn ?_) (fun _ _ => ?_))
  all_goals (rename_i r hr hz hc; have h1 := get_len hr hz; have h2 := of_decide_eq_false hc; clear hr hz hc; exfalso; omega)
end
theorem Read_dfn {L : Nat} {s : ByteArray} (hs : Ok s) : Dfn (command_Read L s) := by
  unfold command_Read command_Read_t
  refine Read_P0_dfn hs fun q1 h1 => ?_
  refine Read_P1_dfn h1 fun q2 h2 => ?_
  unfold command_Read_P2
  have rest : ∀ q3 : G_Cmd × G_command_taker × G_Cmd × Int × Bool × Unit, Ok q3.2.1.s_ → Dfn (command_Read_P3 (num_Get L) (q3.1, q3.2.1, q3.2.2.1, q3.2.2.2.1, q3.2.2.2.2.1, ()) (fun q4 => command_Read_P4 (command_May L) (q4.1, q4.2.1, q4.2.2.1, ()) (fun q5 => command_Read_P5 (q5.1, q5.2.1, q5.2.2.1, ()) (fun q6 => some (q6.2.1, 0, ())) (fun q7 => some (q7.1, q7.2.1, ()))))) := fun q3 h3 => by
    refine Read_P3_dfn h3 fun q4 h4 => ?_
    unfold command_Read_P4 command_Read_P5
    repeat' (first | exact dfn_some _ | refine dfn_bind cMay_dfn (fun _ _ => ?_) | refine dfn_bif (fun _ => ?_) (fun _ => ?_))
  refine dfn_bif (fun _ => ?_) (fun _ => ?_)
  · exact rest _ h2
  · exact rest _ h2
end Go.Proofs.YtkjihmlighigjaaGreat

namespace Go.Proofs.YtkjihmlighigjaaGreat
open Go.RowKit

def DfnP {α : Type} (o : Option α) (P : α → Prop) : Prop := ∃ r, o = some r ∧ P r
section
variable {α β : Type} {P : α → Prop}
theorem dp_some {r : α} (h : P r) : DfnP (some r) P := ⟨r, rfl, h⟩
theorem dp_bif {c : Bool} {x y : Option α} (h1 : c = true → DfnP x P) (h2 : c = false → DfnP y P) : DfnP (bif c then x else y) P := by
  cases c with
  | true => exact h1 rfl
  | false => exact h2 rfl
theorem dp_bind {o : Option β} {Q : β → Prop} {f : β → Option α} (h : DfnP o Q) (hf : ∀ b, Q b → DfnP (f b) P) : DfnP (bindO o f) P := by
  obtain ⟨b, rfl, hq⟩ := h
  exact hf b hq
theorem Dfn.p {o : Option α} (h : Dfn o) : DfnP o (fun _ => True) := by
  obtain ⟨r, h⟩ := h
  exact ⟨r, h, trivial⟩
end
def ByN (m : Nat) (rows : List (List V)) : Prop := ∃ x : Bs, rows = x.map byV ∧ x.length ≤ m
theorem put_len (b : Bs) (n : Int) (l : List Int) : (putR b n l).1.length ≤ b.length + 6 * l.length := by
  unfold putR putS
  by_cases h : (1 ≤ n ∧ n ≤ 6) ∧ l.all (fitsB · n) = true
  · rw [if_pos h]
    show (b ++ putAll n.toNat l).length ≤ _
    rw [List.length_append, putAll_length]
    have : n.toNat * l.length ≤ 6 * l.length := Nat.mul_le_mul_right _ (by omega)
    omega
  · rw [if_neg h]
    exact Nat.zero_le _
theorem put_P {L : Nat} {b l : List (List V)} {n : Int} {m : Nat} (hb : ByN m b) (l' : List Int) (hl : l = l'.map inV) (hm : m + 6 * l'.length ≤ 1000000000) : DfnP (num_Put L b n l) (fun r => ByN (m + 6 * l'.length) r.1) := by
  obtain ⟨x, rfl, hx⟩ := hb
  subst hl
  unfold num_Put
  rw [bif_t (by rw [rows_all byRB_v, rows_all inRB_v, Bool.true_and, Bool.true_and]; exact Nat.ble_eq_true_of_le (by rw [List.length_map, List.length_map]; omega))]
  refine ⟨_, rfl, _, rfl, Nat.le_trans (put_len _ _ _) ?_⟩
  simp only [List.length_map]
  omega
theorem bytes_leaf {m : Nat} {rows : List (List V)} (h : ByN m rows) (hm : m ≤ 1000) : DfnP (bif (bytesOf rows).isSome then some (bytesS rows, (0 : Int), ()) else none) (fun r => Ok r.1) := by
  obtain ⟨x, rfl, hx⟩ := h
  rw [bytesOf_by, Option.isSome_some, cond_true]
  refine ⟨_, rfl, ⟨?_⟩⟩
  have : (bytesS (x.map byV)).size = x.length := by
    unfold bytesS
    rw [bytesOf_by]
    simp [ByteArray.size]
  rw [this]
  exact Nat.le_trans (Nat.le_trans hx hm) (by decide)
theorem cBytes_P {L : Nat} {x : G_Cmd} : DfnP (command_Bytes L x) (fun r => Ok r.1) := by
  unfold command_Bytes command_Bytes_t
  refine dp_bind omay_dfn.p fun r1 _ => ?_
  refine dp_bif (fun _ => dp_some ⟨by show noS.size ≤ maxLen; decide⟩) fun _ => ?_
  refine dp_bind (put_P (m := 0) ⟨[], rfl, Nat.le_refl _⟩ [_] rfl (by simp only [List.length_cons, List.length_nil]; omega)) fun r2 h2 => ?_
  refine dp_bind (put_P h2 [_] rfl (by simp only [List.length_cons, List.length_nil]; omega)) fun r3 h3 => ?_
  refine dp_bind (put_P h3 [_] rfl (by simp only [List.length_cons, List.length_nil]; omega)) fun r4 h4 => ?_
  refine dp_bif (fun _ => dp_bind (put_P h4 [_, _, _] rfl (by simp only [List.length_cons, List.length_nil]; omega)) fun r h => bytes_leaf h (by simp only [List.length_cons, List.length_nil]; omega)) fun _ => ?_
  refine dp_bif (fun _ => dp_bind (put_P h4 [_, _] rfl (by simp only [List.length_cons, List.length_nil]; omega)) fun r h => bytes_leaf h (by simp only [List.length_cons, List.length_nil]; omega)) fun _ => ?_
  refine dp_bif (fun _ => dp_bind (put_P h4 [_, _] rfl (by simp only [List.length_cons, List.length_nil]; omega)) fun r h => bytes_leaf h (by simp only [List.length_cons, List.length_nil]; omega)) fun _ => ?_
  refine dp_bif (fun _ => dp_bind (put_P h4 [_] rfl (by simp only [List.length_cons, List.length_nil]; omega)) fun r h => bytes_leaf h (by simp only [List.length_cons, List.length_nil]; omega)) fun _ => ?_
  exact bytes_leaf h4 (by simp only [List.length_cons, List.length_nil]; omega)
end Go.Proofs.YtkjihmlighigjaaGreat

namespace Go.Proofs.YtkjihmlighigjaaGreat
open Go.RowKit

set_option maxHeartbeats 1000000 in
theorem g16_P {L : Nat} {l : List (List V)} (h : Rw [.i .i64, .s] l) (hL : 100 < L) : DfnP (ref16_Great L l) (fun b => b = false → l.length ≤ 70) := by
  have H := by
    refine loop2_run (α := Bool) (F := ref16_Great_F0) (fun s => s.1 = l ∧ 0 ≤ s.2.1 ∧ s.2.1 ≤ 71) (fun s => 71 - s.2.1.toNat) (fun a => a.1 = l) (fun b => b.1 = true) (fun s hs => ?_) L (l, 0, ()) ⟨rfl, Int.le_refl _, by show (0 : Int) ≤ 71; omega⟩ (by show 71 - (0 : Int).toNat < L; omega)
    obtain ⟨r, i, u⟩ := s
    obtain ⟨rfl, h0, h1⟩ := hs
    dsimp only at h0 h1
    by_cases hi : i < r.length
    · by_cases h7 : i ≤ 70
      · have c3 := h.is i.toNat ((Int.toNat_lt h0).2 hi)
        by_cases hx : 5000 < ((asS (cell r i.toNat 1)).size : Int)
        · refine .inr (.inr ⟨(true, ()), rfl, fun kn ka kb => ?_⟩)
          simp only [ref16_Great_F0, decide_eq_true hi, decide_eq_true h7, decide_eq_true h0, c3, decide_eq_true hx, cond_true]
        · refine .inl ⟨(r, i + 1, ()), ⟨rfl, by show 0 ≤ i + 1; omega, by show i + 1 ≤ 71; omega⟩, by show 71 - (i + 1).toNat < 71 - i.toNat; omega, fun kn ka kb => ?_⟩
          simp only [ref16_Great_F0, decide_eq_true hi, decide_eq_true h7, decide_eq_true h0, c3, decide_eq_false hx, cond_true, cond_false]
          rw [wrap64 (by omega) (by omega)]
      · refine .inr (.inl ⟨(r, ()), rfl, fun kn ka kb => ?_⟩)
        simp only [ref16_Great_F0, decide_eq_true hi, decide_eq_false h7, cond_true, cond_false]
    · refine .inr (.inl ⟨(r, ()), rfl, fun kn ka kb => ?_⟩)
      simp only [ref16_Great_F0, decide_eq_false hi, cond_false]
  rcases H with ⟨a, h1, h2⟩ | ⟨b, h1, h2⟩
  · refine ⟨_, (h2 _ _), fun hb => ?_⟩
    rw [h1] at hb
    have := of_decide_eq_false hb
    omega
  · refine ⟨_, (h2 _ _), fun hb => ?_⟩
    rw [h1] at hb; cases hb
theorem far_P {L : Nat} (l : List Int) (hL : 100 < L) (hl : l.length ≤ 50) {rows : List (List V)} (hr : rows = l.map inV) : DfnP (ref24_far L rows) (fun _ => True) := by
  subst hr
  obtain ⟨b, h, _⟩ := far_run L l (by omega) (by omega)
  exact ⟨b, h, trivial⟩
set_option maxHeartbeats 1000000 in
theorem gLoop {L : Nat} {n : G_Node} (h : Rw [.i .i64, .i .i64, .i .i64, .b] n.Watch) (hL : 100 < L) : (∃ a : G_Node × Unit, a.1 = n ∧ ∀ ka kb, loop2 (α := Bool) (ref24_Great_F0 (ref24_far L)) L (n, 0, ()) ka kb = ka a) ∨ (∃ b : Bool × Unit, b.1 = true ∧ ∀ ka kb, loop2 (α := Bool) (ref24_Great_F0 (ref24_far L)) L (n, 0, ()) ka kb = kb b) := by
  refine loop2_run (α := Bool) (F := ref24_Great_F0 (ref24_far L)) (fun s => s.1 = n ∧ 0 ≤ s.2.1 ∧ s.2.1 ≤ 41) (fun s => 41 - s.2.1.toNat) (fun a => a.1 = n) (fun b => b.1 = true) (fun s hs => ?_) L (n, 0, ()) ⟨rfl, Int.le_refl _, by show (0 : Int) ≤ 41; omega⟩ (by show 41 - (0 : Int).toNat < L; omega)
  obtain ⟨r, i, u⟩ := s
  obtain ⟨rfl, h0, h1⟩ := hs
  dsimp only at h0 h1
  by_cases hi : i < r.Watch.length
  · by_cases h7 : i ≤ 40
    · have c3 := h.is i.toNat ((Int.toNat_lt h0).2 hi)
      obtain ⟨b, hb, -⟩ := far_P (L := L) [asI (cell r.Watch i.toNat 2)] hL (by simp) (rows := [[V.int .i64 (asI (cell r.Watch i.toNat 2))]]) rfl
      cases b with
      | true =>
        refine .inr (.inr ⟨(true, ()), rfl, fun kn ka kb => ?_⟩)
        simp only [ref24_Great_F0, decide_eq_true hi, decide_eq_true h7, decide_eq_true h0, c3, hb, bindO, cond_true]
      | false =>
        refine .inl ⟨(r, i + 1, ()), ⟨rfl, by show 0 ≤ i + 1; omega, by show i + 1 ≤ 41; omega⟩, by show 41 - (i + 1).toNat < 41 - i.toNat; omega, fun kn ka kb => ?_⟩
        simp only [ref24_Great_F0, decide_eq_true hi, decide_eq_true h7, decide_eq_true h0, c3, hb, bindO, cond_true, cond_false]
        rw [wrap64 (by omega) (by omega)]
    · refine .inr (.inl ⟨(r, ()), rfl, fun kn ka kb => ?_⟩)
      simp only [ref24_Great_F0, decide_eq_true hi, decide_eq_false h7, cond_true, cond_false]
  · refine .inr (.inl ⟨(r, ()), rfl, fun kn ka kb => ?_⟩)
    simp only [ref24_Great_F0, decide_eq_false hi, cond_false]
theorem g11_dfn {L : Nat} {t : G_Table} : Dfn (ref11_Great L t) := by
  unfold ref11_Great ref11_Great_t
  exact dfn_bif (fun _ => dfn_some _) fun _ => dfn_bif (fun _ => dfn_some _) fun _ => dfn_some _
theorem glong_dfn {L : Nat} {n : G_Node} : Dfn (ref24_long L n) := by
  unfold ref24_long ref24_long_t
  repeat' (first | exact dfn_some _ | refine dfn_bif (fun _ => ?_) (fun _ => ?_))
theorem great_P {L : Nat} {n : G_Node} (h : Nd n) (hL : 100 < L) : DfnP (ref24_Great L n) (fun b => b = false → n.Pend.length ≤ 70) := by
  unfold ref24_Great ref24_Great_t
  rcases gLoop h.watch hL with ⟨⟨a, u⟩, h1, h2⟩ | ⟨b, h1, h2⟩
  · rw [h2]
    dsimp only at h1
    subst h1
    refine dp_bind (far_P [_, _, _, _, _, _, _, _, _, _, _, _, _, _, _] hL (by simp) rfl) fun r2 _ => ?_
    refine dp_bif (fun _ => dp_some nofun) fun _ => ?_
    refine dp_bind g11_dfn.p fun r3 _ => ?_
    refine dp_bif (fun _ => dp_some nofun) fun _ => ?_
    refine dp_bind (g16_P h.pend hL) fun r4 h4 => ?_
    refine dp_bif (fun _ => dp_some nofun) fun hf => ?_
    have h4 := h4 hf
    refine dp_bind (g16_P h.writes hL) fun r5 _ => ?_
    refine dp_bif (fun _ => dp_some nofun) fun _ => ?_
    refine dp_bif (fun _ => dp_some nofun) fun _ => ?_
    refine dp_bif (fun _ => dp_some nofun) fun _ => ?_
    exact dp_bind glong_dfn.p fun r6 _ => dp_some fun _ => h4
  · rw [h2]
    exact dp_some fun hb => by rw [h1] at hb; cases hb
end Go.Proofs.YtkjihmlighigjaaGreat

namespace Go.Proofs.YtkjihmlighigjaaGreat
open Go.RowKit

def keyB (k : Int) : Bool := decide (16 ≤ k) && decide (k ≤ 1099511627776)
def ofB (k : Int) : Int := bif keyB k then k.tmod 16 else -1
theorem cKey {L : Nat} {k : Int} : command_Key L k = some (keyB k) := by
  unfold command_Key command_Key_t keyB
  cases decide (16 ≤ k) <;> rfl
theorem rKey {L : Nat} {k : Int} : ref10_Key L k = some (keyB k) := by
  unfold ref10_Key ref10_Key_t keyB
  cases decide (16 ≤ k) <;> rfl
theorem cOf {L : Nat} {k : Int} : command_Of L k = some (ofB k) := by
  unfold command_Of command_Of_t ofB
  rw [cKey]
  show (bif keyB k then some (k.tmod 16) else some (-1)) = _
  cases keyB k <;> rfl
theorem rOf {L : Nat} {k : Int} : ref10_Of L k = some (ofB k) := by
  unfold ref10_Of ref10_Of_t ofB
  rw [rKey]
  show (bif !keyB k then some (-1) else some (k.tmod 16)) = _
  cases keyB k <;> rfl

def wAt (n : G_Node) (k : Int) : G_Watch := ⟨asI (cell n.Watch k.toNat 0), asI (cell n.Watch k.toNat 1), asI (cell n.Watch k.toNat 2), asB (cell n.Watch k.toNat 3)⟩
def gone (L : Nat) (g : G_Geo) (w : G_Watch) (c : Int) : Bool := (beat_Dead L g w c).getD false
theorem bDead {L : Nat} {g : G_Geo} {w : G_Watch} {c : Int} : beat_Dead L g w c = some (gone L g w c) := by
  obtain ⟨r, h⟩ : Dfn (beat_Dead L g w c) := by
    unfold beat_Dead beat_Dead_t
    repeat' (first | exact dfn_some _ | refine dfn_bif (fun _ => ?_) (fun _ => ?_))
  unfold gone
  rw [h]; rfl
theorem rDead {L : Nat} {g : G_Geo} {w : G_Watch} {c : Int} : ref07_Dead L g w c = some (gone L g w c) := bDead
def belB (L : Nat) (g : G_Geo) (n : G_Node) (key : Int) : Bool :=
  bif decide (ofB key < 0) then false else bif key == n.Key then false else bif ofB key == n.Num then decide (key < n.Key) else bif decide ((n.Watch.length : Int) ≤ ofB key) then false else
    bif asB (cell n.Watch (ofB key).toNat 3) then bif decide (key < asI (cell n.Watch (ofB key).toNat 0)) then true else bif (asI (cell n.Watch (ofB key).toNat 0)) == key then gone L g (wAt n (ofB key)) n.Clock else false else false
theorem belB_key {L : Nat} {g : G_Geo} {n : G_Node} {key : Int} (h : belB L g n key = true) : keyB key = true ∧ (key == n.Key) = false := by
  unfold belB at h
  cases h1 : decide (ofB key < 0) with
  | true => rw [h1] at h; cases h
  | false =>
    rw [h1, cond_false] at h
    cases h2 : key == n.Key with
    | true => rw [h2] at h; cases h
    | false =>
      refine ⟨?_, rfl⟩
      cases h3 : keyB key with
      | true => rfl
      | false => unfold ofB at h1; rw [h3] at h1; cases h1
section
variable {L : Nat} {g : G_Geo} {n : G_Node}
theorem bel26 (hN : Rw [.i .i64, .i .i64, .i .i64, .b] n.Watch) {key : Int} : ref26_believes L g n key = some (belB L g n key) := by
  unfold ref26_believes ref26_believes_t belB
  rw [rOf]
  dsimp only [bindO]
  cases h1 : decide (ofB key < 0) with
  | true => rfl
  | false =>
  cases h2 : key == n.Key with
  | true => rfl
  | false =>
  cases h3 : ofB key == n.Num with
  | true => rfl
  | false =>
  cases h4 : decide ((n.Watch.length : Int) ≤ ofB key) with
  | true => rfl
  | false =>
  have q1 := of_decide_eq_false h1
  have q4 := of_decide_eq_false h4
  have a1 : decide (0 ≤ ofB key) = true := decide_eq_true (by omega)
  have a2 : decide (ofB key < (n.Watch.length : Int)) = true := decide_eq_true (by omega)
  have a3 := hN.is (ofB key).toNat (by omega)
  rw [a1, a2, a3]
  cases h5 : asB (cell n.Watch (ofB key).toNat 3) with
  | false => rfl
  | true =>
  cases h6 : decide (key < asI (cell n.Watch (ofB key).toNat 0)) with
  | true => rfl
  | false =>
  cases h7 : (asI (cell n.Watch (ofB key).toNat 0)) == key with
  | false => rfl
  | true =>
    show (bindO (ref07_Dead L g ⟨asI (cell n.Watch (ofB key).toNat 0), asI (cell n.Watch (ofB key).toNat 1), asI (cell n.Watch (ofB key).toNat 2), true⟩ n.Clock) fun r2 => some r2) = some (gone L g (wAt n (ofB key)) n.Clock)
    unfold wAt
    rw [rDead, h5]; rfl
abbrev belK (L : Nat) (g : G_Geo) (n : G_Node) (key : Int) (kt kf : Option Int) : Option Int :=
  bindO (command_Of L key) fun r => bif decide (r < 0) then kf else bif key == n.Key then kf else bif r == n.Num then bif !(decide (key < n.Key)) then kf else kt else bif decide ((n.Watch.length : Int) ≤ r) then kf else
    bif decide (0 ≤ r) then bif decide (r < (n.Watch.length : Int)) then bif rowIs [.i .i64, .i .i64, .i .i64, .b] n.Watch r.toNat then bif asB (cell n.Watch r.toNat 3) then bif decide (key < asI (cell n.Watch r.toNat 0)) then kt else
      bif (asI (cell n.Watch r.toNat 0)) == key then bindO (beat_Dead L g (⟨asI (cell n.Watch r.toNat 0), asI (cell n.Watch r.toNat 1), asI (cell n.Watch r.toNat 2), asB (cell n.Watch r.toNat 3)⟩ : G_Watch) n.Clock) fun r6 => bif !r6 then kf else kt else kf else kf else none else none else none
theorem belK_eq (hN : Rw [.i .i64, .i .i64, .i .i64, .b] n.Watch) {key : Int} {kt kf : Option Int} : belK L g n key kt kf = bif belB L g n key then kt else kf := by
  unfold belK belB
  rw [cOf]
  dsimp only [bindO]
  cases h1 : decide (ofB key < 0) with
  | true => rfl
  | false =>
  cases h2 : key == n.Key with
  | true => rfl
  | false =>
  cases h3 : ofB key == n.Num with
  | true => cases decide (key < n.Key) <;> rfl
  | false =>
  cases h4 : decide ((n.Watch.length : Int) ≤ ofB key) with
  | true => rfl
  | false =>
  have q1 := of_decide_eq_false h1
  have q4 := of_decide_eq_false h4
  have a1 : decide (0 ≤ ofB key) = true := decide_eq_true (by omega)
  have a2 : decide (ofB key < (n.Watch.length : Int)) = true := decide_eq_true (by omega)
  have a3 := hN.is (ofB key).toNat (by omega)
  rw [a1, a2, a3]
  cases h5 : asB (cell n.Watch (ofB key).toNat 3) with
  | false => rfl
  | true =>
  cases h6 : decide (key < asI (cell n.Watch (ofB key).toNat 0)) with
  | true => rfl
  | false =>
  cases h7 : (asI (cell n.Watch (ofB key).toNat 0)) == key with
  | false => rfl
  | true =>
    show (bindO (beat_Dead L g ⟨asI (cell n.Watch (ofB key).toNat 0), asI (cell n.Watch (ofB key).toNat 1), asI (cell n.Watch (ofB key).toNat 2), true⟩ n.Clock) fun r6 => bif !r6 then kf else kt) = bif gone L g (wAt n (ofB key)) n.Clock then kt else kf
    unfold wAt
    rw [bDead, h5]
    cases gone L g ⟨asI (cell n.Watch (ofB key).toNat 0), asI (cell n.Watch (ofB key).toNat 1), asI (cell n.Watch (ofB key).toNat 2), true⟩ n.Clock <;> rfl
end
theorem bels1 {k : Nat} {g : G_Geo} {n : G_Node} (hN : Rw [.i .i64, .i .i64, .i .i64, .b] n.Watch) {key : Int} : ref26_Believes (k + 2) g n [[V.int .i64 key]] = some (belB (k + 2) g n key) := by
  show (bindO (ref26_believes (k + 2) g n key) fun r1 => bif !r1 then some false else some true) = _
  rw [bel26 hN]
  cases belB (k + 2) g n key <;> rfl

theorem idx_P {L : Nat} {rows : List (List V)} {key : Int} (h : Rw [.i .i64, .i .i64] rows) (hL : 9223372036854775807 < L) : DfnP (slices_IndexFunc_api_Slot_api_Slot_c103 L rows ((key, ()), ())) (fun r => r < (rows.length : Int)) := by
  have H := by
    refine loop2_run (α := Int) (F := slices_IndexFunc_api_Slot_api_Slot_c103_F0) (fun s => s.1 = rows ∧ s.2.1 = ((key, ()), ()) ∧ s.2.2.1 = (rows.length : Int) ∧ 0 ≤ s.2.2.2.1 ∧ s.2.2.2.1 ≤ rows.length) (fun s => rows.length - s.2.2.2.1.toNat) (fun _ => True) (fun b => b.1 < (rows.length : Int)) (fun s hs => ?_) L (rows, ((key, ()), ()), (rows.length : Int), 0, ()) ⟨rfl, rfl, rfl, Int.le_refl _, Int.natCast_nonneg _⟩ (by have := h.len; show rows.length - (0 : Int).toNat < L; omega)
    obtain ⟨r, c, m, i, u⟩ := s
    obtain ⟨e1, e2, e3, h0, h1⟩ := hs
    dsimp only at e1 e2 e3 h0 h1
    subst e1 e2 e3
    have hl := h.len
    by_cases hi : i < (r.length : Int)
    · have c3 := h.is i.toNat ((Int.toNat_lt h0).2 hi)
      cases hx : (asI (cell r i.toNat 0)) == key with
      | true =>
        refine .inr (.inr ⟨(i, ()), hi, fun kn ka kb => ?_⟩)
        simp only [slices_IndexFunc_api_Slot_api_Slot_c103_F0, decide_eq_true hi, decide_eq_true h0, c3, hx, cond_true]
      | false =>
        refine .inl ⟨(r, ((key, ()), ()), (r.length : Int), i + 1, ()), ⟨rfl, rfl, rfl, by show 0 ≤ i + 1; omega, by show i + 1 ≤ (r.length : Int); omega⟩, by show r.length - (i + 1).toNat < r.length - i.toNat; omega, fun kn ka kb => ?_⟩
        simp only [slices_IndexFunc_api_Slot_api_Slot_c103_F0, decide_eq_true hi, decide_eq_true h0, c3, hx, cond_true, cond_false]
        rw [wrap64 (by omega) (by omega)]
    · refine .inr (.inl ⟨(), trivial, fun kn ka kb => ?_⟩)
      simp only [slices_IndexFunc_api_Slot_api_Slot_c103_F0, decide_eq_false hi, cond_false]
  rcases H with ⟨a, h1, h2⟩ | ⟨b, h1, h2⟩
  · exact ⟨-1, h2 _ _, by omega⟩
  · exact ⟨b.1, h2 _ _, h1⟩
theorem claim_P {L : Nat} {c : G_repair_course} (h : Rw [.i .i64, .i .i64] c.Node.Table.Slots) (hL : 9223372036854775807 < L) : Dfn (repair_course_claim L c) := by
  have hs : DfnP (table_Slot L c.Node.Table c.Node.Op.Key) (fun r => r.2.1 = true → 0 ≤ r.1 ∧ r.1 < (c.Node.Table.Slots.length : Int)) := by
    unfold table_Slot table_Slot_t
    refine dp_bif (fun _ => dp_some nofun) fun _ => ?_
    refine dp_bind (idx_P h hL) fun r hr => dp_some fun h0 => ?_
    have h0 := of_decide_eq_true h0
    have : minI true r 0 = r := if_neg (by show ¬ (0 : Int) > r; omega)
    dsimp only
    rw [this]
    exact ⟨h0, hr⟩
  obtain ⟨r, hr, hp⟩ := hs
  unfold repair_course_claim repair_course_claim_t
  rw [hr]
  dsimp only [bindO]
  refine dfn_bif (fun h1 => ?_) fun _ => dfn_some _
  obtain ⟨p1, p2⟩ := hp h1
  rw [decide_eq_true p1, decide_eq_true p2, h.is r.1.toNat (by omega)]
  exact dfn_some _

abbrev cour (g : G_Geo) (n : G_Node) : G_repair_course := ⟨{ n with Op := { n.Op with Kind := 6 } }, g, G_Answer.z, false⟩
theorem refuses_eq {L : Nat} {g : G_Geo} {n : G_Node} : repair_course_refuses L (cour g n) = bindO (geo_May L g) fun r1 => bif !r1 then some 2 else bif decide (n.Num < 0) then some 2 else bif decide (g.Nodes ≤ n.Num) then some 2 else
    bindO (repair_Mine L [[V.int .i8 6]]) fun r2 => bif !r2 then some 2 else bif n.Key == 0 then some 241 else bindO (repair_course_claim L (cour g n)) fun r3 => bif !r3.2.2.1 then some 260 else
      belK L g n n.Op.Key (bif r3.2.1 != 0 then bif r3.2.1 != n.Key then belK L g n r3.2.1 (some 0) (some 262) else some 0 else some 0) (some 261) := rfl
structure Fit (L : Nat) (g : G_Geo) (n : G_Node) : Prop where
  all : ∃ c : Int × Int × Bool × Unit, repair_course_claim L (cour g n) = some c ∧ c.2.2.1 = true ∧ belB L g n n.Op.Key = true ∧ ((c.2.1 != 0) = true → (c.2.1 != n.Key) = true → belB L g n c.2.1 = true)
theorem refuses_P {k : Nat} {g : G_Geo} {n : G_Node} (hN : Nd n) (hg : i64b g.Wait = true) (hL : 9223372036854775807 < k + 2) : DfnP (repair_course_refuses (k + 2) (cour g n)) (fun r => (r != 0) = false → Fit (k + 2) g n) := by
  have hm : geo_May (k + 2) g = some (geoOf g).may := by unfold geo_May; rw [bif_t hg]
  obtain ⟨c, hc⟩ := claim_P (L := k + 2) (c := cour g n) hN.slots hL
  have hi : repair_Mine (k + 2) [[V.int .i8 6]] = some true := rfl
  rw [refuses_eq, hm, hi, hc]
  dsimp only [bindO]
  rw [belK_eq hN.watch, belK_eq hN.watch]
  refine dp_bif (fun _ => dp_some nofun) fun _ => ?_
  refine dp_bif (fun _ => dp_some nofun) fun _ => ?_
  refine dp_bif (fun _ => dp_some nofun) fun _ => ?_
  refine dp_bif (fun _ => dp_some nofun) fun _ => ?_
  refine dp_bif (fun _ => dp_some nofun) fun _ => ?_
  refine dp_bif (fun _ => dp_some nofun) fun h1 => ?_
  have h1 : c.2.2.1 = true := by cases h : c.2.2.1 with | true => rfl | false => rw [h] at h1; cases h1
  refine dp_bif (fun h2 => ?_) fun _ => dp_some nofun
  refine dp_bif (fun h3 => ?_) fun h3 => dp_some fun _ => ⟨c, hc, h1, h2, fun q _ => by rw [h3] at q; cases q⟩
  refine dp_bif (fun h4 => ?_) fun h4 => dp_some fun _ => ⟨c, hc, h1, h2, fun _ q => by rw [h4] at q; cases q⟩
  exact dp_bif (fun h5 => dp_some fun _ => ⟨c, hc, h1, h2, fun _ _ => h5⟩) fun _ => dp_some nofun

set_option maxRecDepth 10000 in
theorem find_per {k : Nat} {g : G_Geo} {a : Int} (ha : a = 2 ∨ a = 4) (hg : i64b g.Wait = true) : DfnP (geo_find (k + 20) g a) (fun r => r.per_ = 1) := by
  have hm : geo_May (k + 20) g = some (geoOf g).may := by unfold geo_May; rw [bif_t hg]
  unfold geo_find geo_find_t geo_regions geo_regions_t
  rw [hm]
  generalize (geoOf g).may = m
  cases m with
  | false => rcases ha with rfl | rfl <;> exact ⟨_, rfl, rfl⟩
  | true => rcases ha with rfl | rfl <;> exact ⟨_, rfl, rfl⟩
theorem geo_of_dfn {k : Nat} {g : G_Geo} {a x y : Int} (ha : a = 2 ∨ a = 4) (hg : i64b g.Wait = true) : Dfn (geo_of (k + 20) g a x y) := by
  obtain ⟨r, hr, hp⟩ := find_per (k := k) ha hg
  unfold geo_of geo_of_t
  rw [hr]
  dsimp only [bindO]
  have hs : ∀ z, Dfn (geo_stretch_at (k + 20) r.stretch_ z) := fun z => by
    unfold geo_stretch_at geo_stretch_at_t
    repeat' (first | exact dfn_some _ | refine dfn_bif (fun _ => ?_) (fun _ => ?_))
  refine dfn_bif (fun _ => dfn_some _) fun _ => ?_
  rw [hp]
  refine dfn_bif (fun _ => ?_) fun h => by cases h
  refine dfn_bif (fun _ => dfn_some _) fun _ => dfn_bif (fun _ => dfn_some _) fun _ => dfn_bif (fun _ => dfn_some _) fun _ => ?_
  exact dfn_bind (hs _) fun _ _ => dfn_some _
theorem lease_dfn {k : Nat} {g : G_Geo} {x : Int} (hg : i64b g.Wait = true) : Dfn (geo_Lease (k + 20) g x) := dfn_bind (geo_of_dfn (.inl rfl) hg) fun _ _ => dfn_some _
theorem log_dfn {k : Nat} {g : G_Geo} {x : Int} (hg : i64b g.Wait = true) : Dfn (geo_Log (k + 20) g x) := dfn_bind (geo_of_dfn (.inr rfl) hg) fun _ _ => dfn_some _
theorem want_P {k : Nat} {x : G_paxos_run} (hg : i64b x.g_.Wait = true) : DfnP (paxos_places_1 (k + 20) x) (fun r => (r.Kind != 5) = true) :=
  dp_bind (Q := fun r => (r.Kind != 5) = true) (dp_bind (log_dfn hg).p fun _ _ => dp_bif (fun _ => dp_some rfl) fun _ => dp_some rfl) fun _ h => dp_some h

theorem t_bif {c : Bool} {x y : Option Bool} (h1 : c = true → x = some true) (h2 : c = false → y = some true) : (bif c then x else y) = some true := by
  cases c with
  | true => exact h1 rfl
  | false => exact h2 rfl
theorem t_bind {β : Type} {o : Option β} {Q : β → Prop} {f : β → Option Bool} (h : DfnP o Q) (hf : ∀ b, Q b → f b = some true) : bindO o f = some true := by
  obtain ⟨b, rfl, hq⟩ := h
  exact hf b hq
end Go.Proofs.YtkjihmlighigjaaGreat

namespace Go.Proofs.YtkjihmlighigjaaGreat
open Go.RowKit

set_option maxHeartbeats 4000000 in
theorem rAlive {L : Nat} {g : G_Geo} {n : G_Node} (hN : Nd n) (hg : i64b g.Wait = true) (hL : 9223372036854775807 < L) : law26_RepairAlive L g n = some true := by
  obtain ⟨k, rfl⟩ : ∃ k, L = k + 20 := ⟨L - 20, by omega⟩
  have hm : geo_May (k + 20) g = some (geoOf g).may := by unfold geo_May; rw [bif_t hg]
  obtain ⟨b, hb, -⟩ := great_P (L := k + 20) hN (by omega)
  have hb : ref26_Great (k + 20) n = some b := by
    unfold ref26_Great ref26_Great_t
    rw [hb]; rfl
  unfold law26_RepairAlive law26_RepairAlive_t
  rw [hb]
  cases b with
  | true => rfl
  | false =>
  refine t_bif (fun _ => rfl) fun _ => ?_
  refine t_bif (fun _ => rfl) fun _ => ?_
  obtain ⟨r, hr, hF⟩ := refuses_P (k := k + 18) (g := g) hN hg hL
  rw [show repair_course_refuses (k + 20) (⟨{ n with Op := { n.Op with Kind := 6 } }, g, G_Answer.z, false⟩ : G_repair_course) = some r from hr]
  show (bif (r != 0) then _ else _) = some true
  refine t_bif (fun h => by rw [h]; rfl) fun h => ?_
  obtain ⟨c, hc, h1, h2, h3⟩ := (hF h).all
  obtain ⟨hk, hne⟩ := belB_key h2
  have hw : wakes_ (k + 20) = some true := rfl
  have hcl : ∀ at_ : Int, repair_course_claim (k + 20) (⟨{ n with Op := { n.Op with Kind := 6 }, At := at_ }, g, G_Answer.z, false⟩ : G_repair_course) = some c := fun at_ => hc
  have hbe : ∀ key : Int, ref26_Believes (k + 20) g { n with Op := { n.Op with Kind := 6 } } [[V.int .i64 key]] = some (belB (k + 20) g n key) := fun key => bels1 (k := k + 18) (n := { n with Op := { n.Op with Kind := 6 } }) hN.watch
  have bs : ∀ {α β : Type} (b : β) (f : β → Option α), bindO (some b) f = f b := fun _ _ => rfl
  have h2 : belB (k + 20) g n n.Op.Key = true := h2
  have h3 : (c.2.1 != 0) = true → (c.2.1 != n.Key) = true → belB (k + 20) g n c.2.1 = true := h3
  simp only [hcl, hbe, h1, h2, hne, bne_self_eq_false, rKey, hk, hw, bs, cond_true, cond_false, Bool.not_true]
  have hmd : DfnP (geo_May (k + 20) g) (fun _ => True) := ⟨_, hm, trivial⟩
  refine t_bif (fun p1 => t_bif (fun p2 => by rw [h3 p1 p2]; rfl) (fun _ => ?_)) (fun _ => ?_)
  all_goals
    refine t_bind cBytes_P fun q hq => ?_
    refine t_bind (Read_dfn hq).p fun q2 _ => ?_
    repeat' (first | with_reducible rfl | with_reducible refine t_bind hmd (fun _ _ => ?_) | with_reducible refine t_bind (lease_dfn hg).p (fun _ _ => ?_) | with_reducible refine t_bind cOf_dfn.p (fun _ _ => ?_) | with_reducible refine t_bind (log_dfn hg).p (fun _ _ => ?_) | with_reducible refine t_bind (want_P hg) (fun b hb => bif_t hb) | with_reducible refine t_bif (fun _ => ?_) (fun _ => ?_))
end Go.Proofs.YtkjihmlighigjaaGreat

namespace Go.Proofs.YtkjihmlighigjaaGreat
open Go.RowKit
def shGeo : List Sh := [.int .i64, .int .i64, .int .i64, .int .i64, .int .i64, .int .i64, .int .i64, .int .i64]
structure InGeo (x : Geo) : Prop where
  nodes : (-9223372036854775808 ≤ x.nodes ∧ x.nodes ≤ 9223372036854775807)
  slots : (-9223372036854775808 ≤ x.slots ∧ x.slots ≤ 9223372036854775807)
  blocks : (-9223372036854775808 ≤ x.blocks ∧ x.blocks ≤ 9223372036854775807)
  per : (-9223372036854775808 ≤ x.per ∧ x.per ≤ 9223372036854775807)
  journal : (-9223372036854775808 ≤ x.journal ∧ x.journal ≤ 9223372036854775807)
  log : (-9223372036854775808 ≤ x.log ∧ x.log ≤ 9223372036854775807)
  lease : (-9223372036854775808 ≤ x.lease ∧ x.lease ≤ 9223372036854775807)
  wait : (-9223372036854775808 ≤ x.wait ∧ x.wait ≤ 9223372036854775807)
theorem Geo_of {xs : List V} (h : HasShs shGeo xs) : ∃ x : Geo, .agg xs = geoV x ∧ InGeo x := by
  unfold shGeo at h
  have k0 := h
  clear h
  obtain ⟨_, _, rfl, q0, k1⟩ := k0.cons_inv
  obtain ⟨v0, rfl, w0⟩ := q0.int_inv
  obtain ⟨_, _, rfl, q1, k2⟩ := k1.cons_inv
  obtain ⟨v1, rfl, w1⟩ := q1.int_inv
  obtain ⟨_, _, rfl, q2, k3⟩ := k2.cons_inv
  obtain ⟨v2, rfl, w2⟩ := q2.int_inv
  obtain ⟨_, _, rfl, q3, k4⟩ := k3.cons_inv
  obtain ⟨v3, rfl, w3⟩ := q3.int_inv
  obtain ⟨_, _, rfl, q4, k5⟩ := k4.cons_inv
  obtain ⟨v4, rfl, w4⟩ := q4.int_inv
  obtain ⟨_, _, rfl, q5, k6⟩ := k5.cons_inv
  obtain ⟨v5, rfl, w5⟩ := q5.int_inv
  obtain ⟨_, _, rfl, q6, k7⟩ := k6.cons_inv
  obtain ⟨v6, rfl, w6⟩ := q6.int_inv
  obtain ⟨_, _, rfl, q7, k8⟩ := k7.cons_inv
  obtain ⟨v7, rfl, w7⟩ := q7.int_inv
  obtain rfl := k8.nil_inv
  exact ⟨⟨v0, v1, v2, v3, v4, v5, v6, v7⟩, rfl, wf_i64n w0, wf_i64n w1, wf_i64n w2, wf_i64n w3, wf_i64n w4, wf_i64n w5, wf_i64n w6, wf_i64n w7⟩
end Go.Proofs.YtkjihmlighigjaaGreat

namespace Go.Proofs.YtkjihmlighigjaaGreat
open Go.RowKit

def shK : Sh → Kc
  | .int k => .i k
  | .bool => .b
  | .str => .s
  | .sl _ => .m
theorem sh_is {s : Sh} {x : V} (h : HasSh s x) : isC (shK s) x = true := by
  cases h with
  | int k n h => exact decide_eq_true rfl
  | bool b => rfl
  | str s h => rfl
  | sl row es h1 h2 h3 => rfl
theorem cell_one {xs : List V} {j : Nat} {x : V} (h : xs[j]? = some x) : cell [xs] 0 j = x := by
  show xs.getD j .undef = x
  rw [List.getD_eq_getElem?_getD, h]; rfl
theorem seg_of (xs : List V) : ∀ (ss : List Sh) (j : Nat), j + ss.length ≤ xs.length → (∀ i (h : i < ss.length), ∃ x, xs[j + i]? = some x ∧ HasSh ss[i] x) → segIs (ss.map shK) [xs] 0 j = true
  | [], j, hl, _ => by
    show Nat.ble j xs.length = true
    exact Nat.ble_eq_true_of_le hl
  | s :: ss, j, hl, h => by
    obtain ⟨x, h1, h2⟩ := h 0 (by simp)
    show (isC (shK s) (cell [xs] 0 j) && segIs (ss.map shK) [xs] 0 (j + 1)) = true
    have e : isC (shK s) x = true := sh_is h2
    rw [cell_one (by simpa using h1), e, seg_of xs ss (j + 1) (by simp at hl; omega) fun i hi => by
      obtain ⟨y, k1, k2⟩ := h (i + 1) (by simpa using hi)
      exact ⟨y, by rw [show j + 1 + i = j + (i + 1) by omega]; exact k1, by simpa using k2⟩]
    rfl
theorem shs_row {ss : List Sh} {xs : List V} (h : HasShs ss xs) : rowIs (ss.map shK) [xs] 0 = true := by
  unfold rowIs
  rw [seg_of xs ss 0 (by rw [h.1]; omega) fun i hi => ⟨xs[i]'(by rw [h.1]; exact hi), by simp [h.1, hi], h.2 i hi (by rw [h.1]; exact hi)⟩]
  show (true && Nat.beq xs.length (ss.map shK).length) = true
  rw [List.length_map, h.1, Nat.beq_refl]; rfl
theorem Rw_of {row : List Sh} {es : List (List V)} (h1 : es.length ≤ maxLen) (h2 : ∀ r ∈ es, HasShs row r) : Rw (row.map shK) es :=
  ⟨h1, fun i hi => (rowIs_at _ (List.getElem?_eq_getElem hi)).trans (shs_row (h2 _ (List.getElem_mem hi)))⟩
theorem cell_sl {ss : List Sh} {xs : List V} (h : HasShs ss xs) {j : Nat} {row : List Sh} (hj : ss[j]? = some (.sl row)) : Rw (row.map shK) (asR (cell [xs] 0 j)) := by
  obtain ⟨hlt, e⟩ := List.getElem?_eq_some_iff.1 hj
  have hx : j < xs.length := by rw [h.1]; exact hlt
  have := h.2 j hlt hx
  rw [e] at this
  obtain ⟨es, h1, h2, h3⟩ := this.sl_inv
  rw [cell_one (List.getElem?_eq_getElem hx), h1]
  exact Rw_of h2 h3
set_option maxRecDepth 100000 in
theorem node_nd {xs : List V} (h : HasShs shNod xs) : G_Node.cs (G_Node.of xs) = xs ∧ Nd (G_Node.of xs) := by
  refine ⟨?_, ?_⟩
  · have := cd_Node.h (.agg xs) (show rowIs G_Node.ks [xs] 0 = true from shs_row h)
    injection this
  · exact ⟨cell_sl h (j := 11) rfl, cell_sl h (j := 12) rfl, cell_sl h (j := 13) rfl, cell_sl h (j := 17) rfl, cell_sl h (j := 18) rfl, cell_sl h (j := 19) rfl, cell_sl h (j := 20) rfl, cell_sl h (j := 47) rfl, cell_sl h (j := 49) rfl, cell_sl h (j := 63) rfl, cell_sl h (j := 57) rfl, cell_sl h (j := 58) rfl⟩
end Go.Proofs.YtkjihmlighigjaaGreat
