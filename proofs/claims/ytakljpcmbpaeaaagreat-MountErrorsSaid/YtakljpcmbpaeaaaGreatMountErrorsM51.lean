/- Typed functions. (printed by wip/sx) -/
import Derived.Test.YtakljpcmbpaeaaaGreatMountErrorsM43
namespace Go.Proofs.YtakljpcmbpaeaaaGreat
open Go.RowKit
set_option maxRecDepth 100000
set_option maxHeartbeats 16000000
set_option linter.unusedSimpArgs false
set_option linter.unusedVariables false

abbrev mount_Mine_1_t (x0 : Int) : Option Bool :=
 bif x0 != 13 then
  bif x0 != 0 then
   some (x0 != 1)
  else
   some false
 else
  some false
theorem mount_Mine_1_e (a : Int × Unit) : symL Tryz.prog (tabS []) 10 30 .no 125 ((caC (cdI .i8) caN).enc a) (outK cdB) = mount_Mine_1_t a.1 := by kernel_rfl
def mount_Mine_1 (L : Nat) (x0 : Int) : Option Bool := mount_Mine_1_t x0
theorem mount_Mine_1_c (L : Nat) : Ctr Tryz.prog 125 false (caC (cdI .i8) caN) cdB (fun a => mount_Mine_1 L a.1) :=
  ctr_of mixed (sp := (tabS [])) tabS_nil (lt := .no) (x := bodyOf Tryz.f125) Tryz.func125 (by kernel_rfl) (ltN _) (ldN _) fun a => mount_Mine_1_e a
abbrev command_Key_t (x0 : Int) : Option Bool :=
 bif decide (16 ≤ x0) then
  some (decide (x0 ≤ 1099511627776))
 else
  some false
theorem command_Key_e (a : Int × Unit) : symL Tryz.prog (tabS []) 10 30 .no 181 ((caC (cdI .i64) caN).enc a) (outK cdB) = command_Key_t a.1 := by kernel_rfl
def command_Key (L : Nat) (x0 : Int) : Option Bool := command_Key_t x0
theorem command_Key_c (L : Nat) : Ctr Tryz.prog 181 false (caC (cdI .i64) caN) cdB (fun a => command_Key L a.1) :=
  ctr_of mixed (sp := (tabS [])) tabS_nil (lt := .no) (x := bodyOf Tryz.f181) Tryz.func181 (by kernel_rfl) (ltN _) (ldN _) fun a => command_Key_e a
abbrev command_order_span_t (x0 : G_command_order) : Option Bool :=
 bif decide (0 ≤ x0.Cmd.Span.Lo) then
  bif decide (x0.Cmd.Span.Lo ≤ x0.Cmd.Span.Hi) then
   some (decide (x0.Cmd.Span.Hi < 64))
  else
   some false
 else
  some false
theorem command_order_span_e (a : G_command_order × Unit) : symL Tryz.prog (tabS []) 10 30 .no 284 ((caC (cdP (caA G_command_order.ks G_command_order.cs G_command_order.of G_command_order.h)) caN).enc a) (outK cdB) = command_order_span_t a.1 := by kernel_rfl
def command_order_span (L : Nat) (x0 : G_command_order) : Option Bool := command_order_span_t x0
theorem command_order_span_c (L : Nat) : Ctr Tryz.prog 284 false (caC (cdP (caA G_command_order.ks G_command_order.cs G_command_order.of G_command_order.h)) caN) cdB (fun a => command_order_span L a.1) :=
  ctr_of mixed (sp := (tabS [])) tabS_nil (lt := .no) (x := bodyOf Tryz.f284) Tryz.func284 (by kernel_rfl) (ltN _) (ldN _) fun a => command_order_span_e a
abbrev command_order_only_P0 {α : Type} (command_order_span : G_command_order → Option Bool) (command_Key : Int → Option Bool) (s : G_command_order × Bool × Bool × Bool × Bool × Unit) (k0 : (Bool × Unit) → Option α) : Option α :=
 bif s.2.1 then
  bindO (command_order_span s.1) fun r1 =>
   bif r1 then
    bif s.2.2.1 then
     bif s.1.Cmd.Mode == 1 then
      bif s.2.2.2.1 then
       bindO (command_Key s.1.Cmd.Dead) fun r2 =>
        bif r2 then
         bif s.1.Cmd.Was == 0 then
          k0 (true, ())
         else
          bif s.2.2.2.2.1 then
           bindO (command_Key s.1.Cmd.Was) fun r3 =>
            k0 (r3, ())
          else
           k0 (false, ())
        else
         bif !s.2.2.2.1 then
          bif s.1.Cmd.Dead == 0 then
           bif s.1.Cmd.Was == 0 then
            k0 (true, ())
           else
            bif s.2.2.2.2.1 then
             bindO (command_Key s.1.Cmd.Was) fun r4 =>
              k0 (r4, ())
            else
             k0 (false, ())
          else
           k0 (false, ())
         else
          k0 (false, ())
      else
       bif !s.2.2.2.1 then
        bif s.1.Cmd.Dead == 0 then
         bif s.1.Cmd.Was == 0 then
          k0 (true, ())
         else
          bif s.2.2.2.2.1 then
           bindO (command_Key s.1.Cmd.Was) fun r5 =>
            k0 (r5, ())
          else
           k0 (false, ())
        else
         k0 (false, ())
       else
        k0 (false, ())
     else
      bif s.1.Cmd.Mode == 2 then
       bif s.2.2.2.1 then
        bindO (command_Key s.1.Cmd.Dead) fun r6 =>
         bif r6 then
          bif s.1.Cmd.Was == 0 then
           k0 (true, ())
          else
           bif s.2.2.2.2.1 then
            bindO (command_Key s.1.Cmd.Was) fun r7 =>
             k0 (r7, ())
           else
            k0 (false, ())
         else
          bif !s.2.2.2.1 then
           bif s.1.Cmd.Dead == 0 then
            bif s.1.Cmd.Was == 0 then
             k0 (true, ())
            else
             bif s.2.2.2.2.1 then
              bindO (command_Key s.1.Cmd.Was) fun r8 =>
               k0 (r8, ())
             else
              k0 (false, ())
           else
            k0 (false, ())
          else
           k0 (false, ())
       else
        bif !s.2.2.2.1 then
         bif s.1.Cmd.Dead == 0 then
          bif s.1.Cmd.Was == 0 then
           k0 (true, ())
          else
           bif s.2.2.2.2.1 then
            bindO (command_Key s.1.Cmd.Was) fun r9 =>
             k0 (r9, ())
           else
            k0 (false, ())
         else
          k0 (false, ())
        else
         k0 (false, ())
      else
       bif !s.2.2.1 then
        bif s.1.Cmd.Mode == 0 then
         bif s.2.2.2.1 then
          bindO (command_Key s.1.Cmd.Dead) fun r10 =>
           bif r10 then
            bif s.1.Cmd.Was == 0 then
             k0 (true, ())
            else
             bif s.2.2.2.2.1 then
              bindO (command_Key s.1.Cmd.Was) fun r11 =>
               k0 (r11, ())
             else
              k0 (false, ())
           else
            bif !s.2.2.2.1 then
             bif s.1.Cmd.Dead == 0 then
              bif s.1.Cmd.Was == 0 then
               k0 (true, ())
              else
               bif s.2.2.2.2.1 then
                bindO (command_Key s.1.Cmd.Was) fun r12 =>
                 k0 (r12, ())
               else
                k0 (false, ())
             else
              k0 (false, ())
            else
             k0 (false, ())
         else
          bif !s.2.2.2.1 then
           bif s.1.Cmd.Dead == 0 then
            bif s.1.Cmd.Was == 0 then
             k0 (true, ())
            else
             bif s.2.2.2.2.1 then
              bindO (command_Key s.1.Cmd.Was) fun r13 =>
               k0 (r13, ())
             else
              k0 (false, ())
           else
            k0 (false, ())
          else
           k0 (false, ())
        else
         k0 (false, ())
       else
        k0 (false, ())
    else
     bif !s.2.2.1 then
      bif s.1.Cmd.Mode == 0 then
       bif s.2.2.2.1 then
        bindO (command_Key s.1.Cmd.Dead) fun r14 =>
         bif r14 then
          bif s.1.Cmd.Was == 0 then
           k0 (true, ())
          else
           bif s.2.2.2.2.1 then
            bindO (command_Key s.1.Cmd.Was) fun r15 =>
             k0 (r15, ())
           else
            k0 (false, ())
         else
          bif !s.2.2.2.1 then
           bif s.1.Cmd.Dead == 0 then
            bif s.1.Cmd.Was == 0 then
             k0 (true, ())
            else
             bif s.2.2.2.2.1 then
              bindO (command_Key s.1.Cmd.Was) fun r16 =>
               k0 (r16, ())
             else
              k0 (false, ())
           else
            k0 (false, ())
          else
           k0 (false, ())
       else
        bif !s.2.2.2.1 then
         bif s.1.Cmd.Dead == 0 then
          bif s.1.Cmd.Was == 0 then
           k0 (true, ())
          else
           bif s.2.2.2.2.1 then
            bindO (command_Key s.1.Cmd.Was) fun r17 =>
             k0 (r17, ())
           else
            k0 (false, ())
         else
          k0 (false, ())
        else
         k0 (false, ())
      else
       k0 (false, ())
     else
      k0 (false, ())
   else
    bif !s.2.1 then
     bif (s.1.Cmd.Span.Lo == 0) && ((s.1.Cmd.Span.Hi == 0) && true) then
      bif s.2.2.1 then
       bif s.1.Cmd.Mode == 1 then
        bif s.2.2.2.1 then
         bindO (command_Key s.1.Cmd.Dead) fun r18 =>
          bif r18 then
           bif s.1.Cmd.Was == 0 then
            k0 (true, ())
           else
            bif s.2.2.2.2.1 then
             bindO (command_Key s.1.Cmd.Was) fun r19 =>
              k0 (r19, ())
            else
             k0 (false, ())
          else
           bif !s.2.2.2.1 then
            bif s.1.Cmd.Dead == 0 then
             bif s.1.Cmd.Was == 0 then
              k0 (true, ())
             else
              bif s.2.2.2.2.1 then
               bindO (command_Key s.1.Cmd.Was) fun r20 =>
                k0 (r20, ())
              else
               k0 (false, ())
            else
             k0 (false, ())
           else
            k0 (false, ())
        else
         bif !s.2.2.2.1 then
          bif s.1.Cmd.Dead == 0 then
           bif s.1.Cmd.Was == 0 then
            k0 (true, ())
           else
            bif s.2.2.2.2.1 then
             bindO (command_Key s.1.Cmd.Was) fun r21 =>
              k0 (r21, ())
            else
             k0 (false, ())
          else
           k0 (false, ())
         else
          k0 (false, ())
       else
        bif s.1.Cmd.Mode == 2 then
         bif s.2.2.2.1 then
          bindO (command_Key s.1.Cmd.Dead) fun r22 =>
           bif r22 then
            bif s.1.Cmd.Was == 0 then
             k0 (true, ())
            else
             bif s.2.2.2.2.1 then
              bindO (command_Key s.1.Cmd.Was) fun r23 =>
               k0 (r23, ())
             else
              k0 (false, ())
           else
            bif !s.2.2.2.1 then
             bif s.1.Cmd.Dead == 0 then
              bif s.1.Cmd.Was == 0 then
               k0 (true, ())
              else
               bif s.2.2.2.2.1 then
                bindO (command_Key s.1.Cmd.Was) fun r24 =>
                 k0 (r24, ())
               else
                k0 (false, ())
             else
              k0 (false, ())
            else
             k0 (false, ())
         else
          bif !s.2.2.2.1 then
           bif s.1.Cmd.Dead == 0 then
            bif s.1.Cmd.Was == 0 then
             k0 (true, ())
            else
             bif s.2.2.2.2.1 then
              bindO (command_Key s.1.Cmd.Was) fun r25 =>
               k0 (r25, ())
             else
              k0 (false, ())
           else
            k0 (false, ())
          else
           k0 (false, ())
        else
         bif !s.2.2.1 then
          bif s.1.Cmd.Mode == 0 then
           bif s.2.2.2.1 then
            bindO (command_Key s.1.Cmd.Dead) fun r26 =>
             bif r26 then
              bif s.1.Cmd.Was == 0 then
               k0 (true, ())
              else
               bif s.2.2.2.2.1 then
                bindO (command_Key s.1.Cmd.Was) fun r27 =>
                 k0 (r27, ())
               else
                k0 (false, ())
             else
              bif !s.2.2.2.1 then
               bif s.1.Cmd.Dead == 0 then
                bif s.1.Cmd.Was == 0 then
                 k0 (true, ())
                else
                 bif s.2.2.2.2.1 then
                  bindO (command_Key s.1.Cmd.Was) fun r28 =>
                   k0 (r28, ())
                 else
                  k0 (false, ())
               else
                k0 (false, ())
              else
               k0 (false, ())
           else
            bif !s.2.2.2.1 then
             bif s.1.Cmd.Dead == 0 then
              bif s.1.Cmd.Was == 0 then
               k0 (true, ())
              else
               bif s.2.2.2.2.1 then
                bindO (command_Key s.1.Cmd.Was) fun r29 =>
                 k0 (r29, ())
               else
                k0 (false, ())
             else
              k0 (false, ())
            else
             k0 (false, ())
          else
           k0 (false, ())
         else
          k0 (false, ())
      else
       bif !s.2.2.1 then
        bif s.1.Cmd.Mode == 0 then
         bif s.2.2.2.1 then
          bindO (command_Key s.1.Cmd.Dead) fun r30 =>
           bif r30 then
            bif s.1.Cmd.Was == 0 then
             k0 (true, ())
            else
             bif s.2.2.2.2.1 then
              bindO (command_Key s.1.Cmd.Was) fun r31 =>
               k0 (r31, ())
             else
              k0 (false, ())
           else
            bif !s.2.2.2.1 then
             bif s.1.Cmd.Dead == 0 then
              bif s.1.Cmd.Was == 0 then
               k0 (true, ())
              else
               bif s.2.2.2.2.1 then
                bindO (command_Key s.1.Cmd.Was) fun r32 =>
                 k0 (r32, ())
               else
                k0 (false, ())
             else
              k0 (false, ())
            else
             k0 (false, ())
         else
          bif !s.2.2.2.1 then
           bif s.1.Cmd.Dead == 0 then
            bif s.1.Cmd.Was == 0 then
             k0 (true, ())
            else
             bif s.2.2.2.2.1 then
              bindO (command_Key s.1.Cmd.Was) fun r33 =>
               k0 (r33, ())
             else
              k0 (false, ())
           else
            k0 (false, ())
          else
           k0 (false, ())
        else
         k0 (false, ())
       else
        k0 (false, ())
     else
      k0 (false, ())
    else
     k0 (false, ())
 else
  bif !s.2.1 then
   bif (s.1.Cmd.Span.Lo == 0) && ((s.1.Cmd.Span.Hi == 0) && true) then
    bif s.2.2.1 then
     bif s.1.Cmd.Mode == 1 then
      bif s.2.2.2.1 then
       bindO (command_Key s.1.Cmd.Dead) fun r34 =>
        bif r34 then
         bif s.1.Cmd.Was == 0 then
          k0 (true, ())
         else
          bif s.2.2.2.2.1 then
           bindO (command_Key s.1.Cmd.Was) fun r35 =>
            k0 (r35, ())
          else
           k0 (false, ())
        else
         bif !s.2.2.2.1 then
          bif s.1.Cmd.Dead == 0 then
           bif s.1.Cmd.Was == 0 then
            k0 (true, ())
           else
            bif s.2.2.2.2.1 then
             bindO (command_Key s.1.Cmd.Was) fun r36 =>
              k0 (r36, ())
            else
             k0 (false, ())
          else
           k0 (false, ())
         else
          k0 (false, ())
      else
       bif !s.2.2.2.1 then
        bif s.1.Cmd.Dead == 0 then
         bif s.1.Cmd.Was == 0 then
          k0 (true, ())
         else
          bif s.2.2.2.2.1 then
           bindO (command_Key s.1.Cmd.Was) fun r37 =>
            k0 (r37, ())
          else
           k0 (false, ())
        else
         k0 (false, ())
       else
        k0 (false, ())
     else
      bif s.1.Cmd.Mode == 2 then
       bif s.2.2.2.1 then
        bindO (command_Key s.1.Cmd.Dead) fun r38 =>
         bif r38 then
          bif s.1.Cmd.Was == 0 then
           k0 (true, ())
          else
           bif s.2.2.2.2.1 then
            bindO (command_Key s.1.Cmd.Was) fun r39 =>
             k0 (r39, ())
           else
            k0 (false, ())
         else
          bif !s.2.2.2.1 then
           bif s.1.Cmd.Dead == 0 then
            bif s.1.Cmd.Was == 0 then
             k0 (true, ())
            else
             bif s.2.2.2.2.1 then
              bindO (command_Key s.1.Cmd.Was) fun r40 =>
               k0 (r40, ())
             else
              k0 (false, ())
           else
            k0 (false, ())
          else
           k0 (false, ())
       else
        bif !s.2.2.2.1 then
         bif s.1.Cmd.Dead == 0 then
          bif s.1.Cmd.Was == 0 then
           k0 (true, ())
          else
           bif s.2.2.2.2.1 then
            bindO (command_Key s.1.Cmd.Was) fun r41 =>
             k0 (r41, ())
           else
            k0 (false, ())
         else
          k0 (false, ())
        else
         k0 (false, ())
      else
       bif !s.2.2.1 then
        bif s.1.Cmd.Mode == 0 then
         bif s.2.2.2.1 then
          bindO (command_Key s.1.Cmd.Dead) fun r42 =>
           bif r42 then
            bif s.1.Cmd.Was == 0 then
             k0 (true, ())
            else
             bif s.2.2.2.2.1 then
              bindO (command_Key s.1.Cmd.Was) fun r43 =>
               k0 (r43, ())
             else
              k0 (false, ())
           else
            bif !s.2.2.2.1 then
             bif s.1.Cmd.Dead == 0 then
              bif s.1.Cmd.Was == 0 then
               k0 (true, ())
              else
               bif s.2.2.2.2.1 then
                bindO (command_Key s.1.Cmd.Was) fun r44 =>
                 k0 (r44, ())
               else
                k0 (false, ())
             else
              k0 (false, ())
            else
             k0 (false, ())
         else
          bif !s.2.2.2.1 then
           bif s.1.Cmd.Dead == 0 then
            bif s.1.Cmd.Was == 0 then
             k0 (true, ())
            else
             bif s.2.2.2.2.1 then
              bindO (command_Key s.1.Cmd.Was) fun r45 =>
               k0 (r45, ())
             else
              k0 (false, ())
           else
            k0 (false, ())
          else
           k0 (false, ())
        else
         k0 (false, ())
       else
        k0 (false, ())
    else
     bif !s.2.2.1 then
      bif s.1.Cmd.Mode == 0 then
       bif s.2.2.2.1 then
        bindO (command_Key s.1.Cmd.Dead) fun r46 =>
         bif r46 then
          bif s.1.Cmd.Was == 0 then
           k0 (true, ())
          else
           bif s.2.2.2.2.1 then
            bindO (command_Key s.1.Cmd.Was) fun r47 =>
             k0 (r47, ())
           else
            k0 (false, ())
         else
          bif !s.2.2.2.1 then
           bif s.1.Cmd.Dead == 0 then
            bif s.1.Cmd.Was == 0 then
             k0 (true, ())
            else
             bif s.2.2.2.2.1 then
              bindO (command_Key s.1.Cmd.Was) fun r48 =>
               k0 (r48, ())
             else
              k0 (false, ())
           else
            k0 (false, ())
          else
           k0 (false, ())
       else
        bif !s.2.2.2.1 then
         bif s.1.Cmd.Dead == 0 then
          bif s.1.Cmd.Was == 0 then
           k0 (true, ())
          else
           bif s.2.2.2.2.1 then
            bindO (command_Key s.1.Cmd.Was) fun r49 =>
             k0 (r49, ())
           else
            k0 (false, ())
         else
          k0 (false, ())
        else
         k0 (false, ())
      else
       k0 (false, ())
     else
      k0 (false, ())
   else
    k0 (false, ())
  else
   k0 (false, ())
def command_order_only_P0_live : List (Nat × Md) := [(0, .p), (1, .p), (2, .p), (3, .p), (4, .p)]
def command_order_only_P0_outs : AEx → List (Nat × Md) := (fun e => match e with | .exit i => [] | .ret => [] | .normal => [(10, .p)])
def command_order_only_P0_cl : Cl (G_command_order × Bool × Bool × Bool × Bool × Unit) := (clC (cxV (ceP (cdP (caA G_command_order.ks G_command_order.cs G_command_order.of G_command_order.h)))) (clC (cxV (ceP cdB)) (clC (cxV (ceP cdB)) (clC (cxV (ceP cdB)) (clC (cxV (ceP cdB)) clN)))))
def command_order_only_P0_c0 : Cl (Bool × Unit) := (clC (cxV (ceP cdB)) clN)
theorem command_order_only_P0_e {α : Type} (command_order_span : G_command_order → Option Bool) (command_Key : Int → Option Bool) (s : G_command_order × Bool × Bool × Bool × Bool × Unit) (Ke : AEx → List AV → Option α) : stepQ Tryz.prog (tabS [(284, spE false (caC (cdP (caA G_command_order.ks G_command_order.cs G_command_order.of G_command_order.h)) caN) cdB (fun a => command_order_span a.1)), (181, spE false (caC (cdI .i64) caN) cdB (fun a => command_Key a.1))]) 10 30 (subC (bodyOf Tryz.f238) [1, 0]) .no command_order_only_P0_live command_order_only_P0_outs (command_order_only_P0_cl.enc s) Ke = command_order_only_P0 command_order_span command_Key s (fun a => Ke .normal (command_order_only_P0_c0.enc a)) := by kernel_rfl
theorem command_order_only_P0_ok {α : Type} (L : Nat) : POk Tryz.prog Tryz.f238.ntmps (subC (bodyOf Tryz.f238) [1, 0]) (⟨command_order_only_P0_live, command_order_only_P0_outs, run1 command_order_only_P0_cl .normal command_order_only_P0_c0 (command_order_only_P0 (command_order_span L) (command_Key L))⟩ : LSpec α) ∧ LDet (⟨command_order_only_P0_live, command_order_only_P0_outs, run1 command_order_only_P0_cl .normal command_order_only_P0_c0 (command_order_only_P0 (command_order_span L) (command_Key L))⟩ : LSpec α) :=
  pspec (cl := command_order_only_P0_cl) mixed (sp := (tabS [(284, spE false (caC (cdP (caA G_command_order.ks G_command_order.cs G_command_order.of G_command_order.h)) caN) cdB (fun a => (command_order_span L) a.1)), (181, spE false (caC (cdI .i64) caN) cdB (fun a => (command_Key L) a.1))])) (tabS_cons (command_order_span_c L).ent (tabS_cons (command_Key_c L).ent tabS_nil)) (L := 10) (n := 30) (t := .no) (okL_of (by kernel_rfl)) (ltN _) (ldN _) (by kernel_rfl) (command_order_only_P0_e (command_order_span L) (command_Key L)) (fun _ _ => rfl)
abbrev command_order_only_t (P0 : (G_command_order × Bool × Bool × Bool × Bool × Unit) → ((Bool × Unit) → Option (Bool)) → Option (Bool)) (x0 : G_command_order) (x1 : Bool) (x2 : Bool) (x3 : Bool) (x4 : Bool) : Option Bool :=
 P0 (x0, x1, x2, x3, x4, ()) (fun q1 =>
   some q1.1)
theorem command_order_only_e (P0 : (G_command_order × Bool × Bool × Bool × Bool × Unit) → ((Bool × Unit) → Option (Bool)) → Option (Bool)) (a : G_command_order × Bool × Bool × Bool × Bool × Unit) : symL Tryz.prog (tabS []) 10 30 (.two .no (.two (.pt ⟨command_order_only_P0_live, command_order_only_P0_outs, run1 command_order_only_P0_cl .normal command_order_only_P0_c0 P0⟩) .no)) 238 ((caC (cdP (caA G_command_order.ks G_command_order.cs G_command_order.of G_command_order.h)) (caC cdB (caC cdB (caC cdB (caC cdB caN))))).enc a) (outK cdB) = command_order_only_t P0 a.1 a.2.1 a.2.2.1 a.2.2.2.1 a.2.2.2.2.1 := by kernel_rfl
def command_order_only (L : Nat) (x0 : G_command_order) (x1 : Bool) (x2 : Bool) (x3 : Bool) (x4 : Bool) : Option Bool := command_order_only_t (command_order_only_P0 (command_order_span L) (command_Key L)) x0 x1 x2 x3 x4
theorem command_order_only_c (L : Nat) : Ctr Tryz.prog 238 false (caC (cdP (caA G_command_order.ks G_command_order.cs G_command_order.of G_command_order.h)) (caC cdB (caC cdB (caC cdB (caC cdB caN))))) cdB (fun a => command_order_only L a.1 a.2.1 a.2.2.1 a.2.2.2.1 a.2.2.2.2.1) :=
  ctr_of mixed (sp := (tabS [])) tabS_nil (lt := (.two .no (.two (.pt ⟨command_order_only_P0_live, command_order_only_P0_outs, run1 command_order_only_P0_cl .normal command_order_only_P0_c0 (command_order_only_P0 (command_order_span L) (command_Key L))⟩) .no))) (x := bodyOf Tryz.f238) Tryz.func238 (by kernel_rfl) (ltS (ltN _) (ltS (ptL (command_order_only_P0_ok L).1) (ltN _))) (ldS (ldN _) (ldS (pdL (command_order_only_P0_ok L).2) (ldN _))) fun a => command_order_only_e (command_order_only_P0 (command_order_span L) (command_Key L)) a
abbrev command_order_may_t (command_Key : Int → Option Bool) (command_order_only : G_command_order → Bool → Bool → Bool → Bool → Option Bool) (x0 : G_command_order) : Option Bool :=
 bindO (command_Key x0.Cmd.By) fun r1 =>
  bif !r1 then
   some false
  else
   bif decide (x0.Cmd.Serial < 1) then
    some false
   else
    bif decide (2147483648 < x0.Cmd.Serial) then
     some false
    else
     bif x0.Cmd.Kind == 0 then
      bindO (command_order_only x0 false false false false) fun r2 =>
       some r2
     else
      bif x0.Cmd.Kind == 1 then
       bindO (command_order_only x0 false false false false) fun r3 =>
        some r3
      else
       bif x0.Cmd.Kind == 2 then
        bindO (command_order_only x0 true true false false) fun r4 =>
         some r4
       else
        bif x0.Cmd.Kind == 3 then
         bindO (command_order_only x0 true false false false) fun r5 =>
          some r5
        else
         bif x0.Cmd.Kind == 4 then
          bindO (command_order_only x0 false false true true) fun r6 =>
           some r6
         else
          bif x0.Cmd.Kind == 5 then
           bindO (command_order_only x0 false false true false) fun r7 =>
            some r7
          else
           some false
theorem command_order_may_e (command_Key : Int → Option Bool) (command_order_only : G_command_order → Bool → Bool → Bool → Bool → Option Bool) (a : G_command_order × Unit) : symL Tryz.prog (tabS [(181, spE false (caC (cdI .i64) caN) cdB (fun a => command_Key a.1)), (238, spE false (caC (cdP (caA G_command_order.ks G_command_order.cs G_command_order.of G_command_order.h)) (caC cdB (caC cdB (caC cdB (caC cdB caN))))) cdB (fun a => command_order_only a.1 a.2.1 a.2.2.1 a.2.2.2.1 a.2.2.2.2.1))]) 10 30 .no 185 ((caC (cdP (caA G_command_order.ks G_command_order.cs G_command_order.of G_command_order.h)) caN).enc a) (outK cdB) = command_order_may_t command_Key command_order_only a.1 := by kernel_rfl
def command_order_may (L : Nat) (x0 : G_command_order) : Option Bool := command_order_may_t (command_Key L) (command_order_only L) x0
theorem command_order_may_c (L : Nat) : Ctr Tryz.prog 185 false (caC (cdP (caA G_command_order.ks G_command_order.cs G_command_order.of G_command_order.h)) caN) cdB (fun a => command_order_may L a.1) :=
  ctr_of mixed (sp := (tabS [(181, spE false (caC (cdI .i64) caN) cdB (fun a => (command_Key L) a.1)), (238, spE false (caC (cdP (caA G_command_order.ks G_command_order.cs G_command_order.of G_command_order.h)) (caC cdB (caC cdB (caC cdB (caC cdB caN))))) cdB (fun a => (command_order_only L) a.1 a.2.1 a.2.2.1 a.2.2.2.1 a.2.2.2.2.1))])) (tabS_cons (command_Key_c L).ent (tabS_cons (command_order_only_c L).ent tabS_nil)) (lt := .no) (x := bodyOf Tryz.f185) Tryz.func185 (by kernel_rfl) (ltN _) (ldN _) fun a => command_order_may_e (command_Key L) (command_order_only L) a
abbrev command_May_t (command_order_may : G_command_order → Option Bool) (x0 : G_Cmd) : Option Bool :=
 bindO (command_order_may (⟨x0, []⟩ : G_command_order)) fun r1 =>
  some r1
theorem command_May_e (command_order_may : G_command_order → Option Bool) (a : G_Cmd × Unit) : symL Tryz.prog (tabS [(185, spE false (caC (cdP (caA G_command_order.ks G_command_order.cs G_command_order.of G_command_order.h)) caN) cdB (fun a => command_order_may a.1))]) 10 30 .no 180 ((caC cd_Cmd caN).enc a) (outK cdB) = command_May_t command_order_may a.1 := by kernel_rfl
def command_May (L : Nat) (x0 : G_Cmd) : Option Bool := command_May_t (command_order_may L) x0
theorem command_May_c (L : Nat) : Ctr Tryz.prog 180 false (caC cd_Cmd caN) cdB (fun a => command_May L a.1) :=
  ctr_of mixed (sp := (tabS [(185, spE false (caC (cdP (caA G_command_order.ks G_command_order.cs G_command_order.of G_command_order.h)) caN) cdB (fun a => (command_order_may L) a.1))])) (tabS_cons (command_order_may_c L).ent tabS_nil) (lt := .no) (x := bodyOf Tryz.f180) Tryz.func180 (by kernel_rfl) (ltN _) (ldN _) fun a => command_May_e (command_order_may L) a
abbrev command_Read_P0 {α : Type} (num_Get : ByteArray → Int → Int → Option (Int × Int × Unit)) (s : G_Cmd × G_command_taker × Unit) (k0 : (G_Cmd × G_command_taker × Int × Unit) → Option α) : Option α :=
 bindO (num_Get s.2.1.s_ 0 1) fun r1 =>
  bif r1.2.1 != 0 then
   k0 (s.1, { s.2.1 with bad_ := true }, 0, ())
  else
   bif decide (1 ≤ (s.2.1.s_.size : Int)) then
    k0 (s.1, { s.2.1 with s_ := s.2.1.s_.extract 1 s.2.1.s_.size }, r1.1, ())
   else none
def command_Read_P0_live : List (Nat × Md) := [(2, .o [.p, .p, .p, .p, .p, .p, .p, .p]), (4, .o [.p, .p])]
def command_Read_P0_outs : AEx → List (Nat × Md) := (fun e => match e with | .exit i => [] | .ret => [] | .normal => [(2, .o [.p, .p, .p, .p, .p, .p, .p, .p]), (4, .o [.p, .p]), (5, .p)])
def command_Read_P0_cl : Cl (G_Cmd × G_command_taker × Unit) := (clC (cxO (czA (caA G_Cmd.ks G_Cmd.cs G_Cmd.of G_Cmd.h)) 8) (clC (cxO (czA (caA G_command_taker.ks G_command_taker.cs G_command_taker.of G_command_taker.h)) 2) clN))
def command_Read_P0_c0 : Cl (G_Cmd × G_command_taker × Int × Unit) := (clC (cxO (czA (caA G_Cmd.ks G_Cmd.cs G_Cmd.of G_Cmd.h)) 8) (clC (cxO (czA (caA G_command_taker.ks G_command_taker.cs G_command_taker.of G_command_taker.h)) 2) (clC (cxV (ceP (cdI .i64))) clN)))
theorem command_Read_P0_e {α : Type} (num_Get : ByteArray → Int → Int → Option (Int × Int × Unit)) (s : G_Cmd × G_command_taker × Unit) (Ke : AEx → List AV → Option α) : stepQ Tryz.prog (tabS [(234, spE false (caC cdS (caC (cdI .i64) (caC (cdI .i64) caN))) (cdT (caC (cdI .i64) (caC (cdI .i64) caN))) (fun a => num_Get a.1 a.2.1 a.2.2.1))]) 10 30 (subC (bodyOf Tryz.f118) [1, 1, 0]) .no command_Read_P0_live command_Read_P0_outs (command_Read_P0_cl.enc s) Ke = command_Read_P0 num_Get s (fun a => Ke .normal (command_Read_P0_c0.enc a)) := by kernel_rfl
theorem command_Read_P0_ok {α : Type} (L : Nat) : POk Tryz.prog Tryz.f118.ntmps (subC (bodyOf Tryz.f118) [1, 1, 0]) (⟨command_Read_P0_live, command_Read_P0_outs, run1 command_Read_P0_cl .normal command_Read_P0_c0 (command_Read_P0 (num_Get L))⟩ : LSpec α) ∧ LDet (⟨command_Read_P0_live, command_Read_P0_outs, run1 command_Read_P0_cl .normal command_Read_P0_c0 (command_Read_P0 (num_Get L))⟩ : LSpec α) :=
  pspec (cl := command_Read_P0_cl) mixed (sp := (tabS [(234, spE false (caC cdS (caC (cdI .i64) (caC (cdI .i64) caN))) (cdT (caC (cdI .i64) (caC (cdI .i64) caN))) (fun a => (num_Get L) a.1 a.2.1 a.2.2.1))])) (tabS_cons (num_Get_c L).ent tabS_nil) (L := 10) (n := 30) (t := .no) (okL_of (by kernel_rfl)) (ltN _) (ldN _) (by kernel_rfl) (command_Read_P0_e (num_Get L)) (fun _ _ => rfl)
abbrev command_Read_P1 {α : Type} (num_Get : ByteArray → Int → Int → Option (Int × Int × Unit)) (s : G_Cmd × G_command_taker × Int × Unit) (k0 : (G_Cmd × G_command_taker × G_Cmd × Unit) → Option α) : Option α :=
 bindO (num_Get s.2.1.s_ 0 6) fun r1 =>
  bif r1.2.1 != 0 then
   bindO (num_Get s.2.1.s_ 0 4) fun r2 =>
    bif r2.2.1 != 0 then
     k0 (s.1, { s.2.1 with bad_ := true }, (⟨IntKind.i8.wrap (minI false s.2.2.1 127), 0, 0, 0, 0, G_Span.z, 0⟩ : G_Cmd), ())
    else
     bif decide (4 ≤ (s.2.1.s_.size : Int)) then
      k0 (s.1, (⟨s.2.1.s_.extract 4 s.2.1.s_.size, true⟩ : G_command_taker), (⟨IntKind.i8.wrap (minI false s.2.2.1 127), 0, r2.1, 0, 0, G_Span.z, 0⟩ : G_Cmd), ())
     else none
  else
   bif decide (6 ≤ (s.2.1.s_.size : Int)) then
    bindO (num_Get (s.2.1.s_.extract 6 s.2.1.s_.size) 0 4) fun r3 =>
     bif r3.2.1 != 0 then
      k0 (s.1, (⟨s.2.1.s_.extract 6 s.2.1.s_.size, true⟩ : G_command_taker), (⟨IntKind.i8.wrap (minI false s.2.2.1 127), r1.1, 0, 0, 0, G_Span.z, 0⟩ : G_Cmd), ())
     else
      bif decide (4 ≤ ((s.2.1.s_.extract 6 s.2.1.s_.size).size : Int)) then
       k0 (s.1, { s.2.1 with s_ := (s.2.1.s_.extract 6 s.2.1.s_.size).extract 4 ((s.2.1.s_.extract 6 s.2.1.s_.size).size) }, (⟨IntKind.i8.wrap (minI false s.2.2.1 127), r1.1, r3.1, 0, 0, G_Span.z, 0⟩ : G_Cmd), ())
      else none
   else none
def command_Read_P1_live : List (Nat × Md) := [(2, .o [.p, .p, .p, .p, .p, .p, .p, .p]), (4, .o [.p, .p]), (5, .p)]
def command_Read_P1_outs : AEx → List (Nat × Md) := (fun e => match e with | .exit i => [] | .ret => [] | .normal => [(2, .o [.p, .p, .p, .p, .p, .p, .p, .p]), (4, .o [.p, .p]), (6, .o [.p, .p, .p, .p, .p, .p, .p, .p])])
def command_Read_P1_cl : Cl (G_Cmd × G_command_taker × Int × Unit) := (clC (cxO (czA (caA G_Cmd.ks G_Cmd.cs G_Cmd.of G_Cmd.h)) 8) (clC (cxO (czA (caA G_command_taker.ks G_command_taker.cs G_command_taker.of G_command_taker.h)) 2) (clC (cxV (ceP (cdI .i64))) clN)))
def command_Read_P1_c0 : Cl (G_Cmd × G_command_taker × G_Cmd × Unit) := (clC (cxO (czA (caA G_Cmd.ks G_Cmd.cs G_Cmd.of G_Cmd.h)) 8) (clC (cxO (czA (caA G_command_taker.ks G_command_taker.cs G_command_taker.of G_command_taker.h)) 2) (clC (cxO (czA (caA G_Cmd.ks G_Cmd.cs G_Cmd.of G_Cmd.h)) 8) clN)))
theorem command_Read_P1_e {α : Type} (num_Get : ByteArray → Int → Int → Option (Int × Int × Unit)) (s : G_Cmd × G_command_taker × Int × Unit) (Ke : AEx → List AV → Option α) : stepQ Tryz.prog (tabS [(234, spE false (caC cdS (caC (cdI .i64) (caC (cdI .i64) caN))) (cdT (caC (cdI .i64) (caC (cdI .i64) caN))) (fun a => num_Get a.1 a.2.1 a.2.2.1))]) 10 30 (subC (bodyOf Tryz.f118) [1, 1, 1, 0]) .no command_Read_P1_live command_Read_P1_outs (command_Read_P1_cl.enc s) Ke = command_Read_P1 num_Get s (fun a => Ke .normal (command_Read_P1_c0.enc a)) := by kernel_rfl
theorem command_Read_P1_ok {α : Type} (L : Nat) : POk Tryz.prog Tryz.f118.ntmps (subC (bodyOf Tryz.f118) [1, 1, 1, 0]) (⟨command_Read_P1_live, command_Read_P1_outs, run1 command_Read_P1_cl .normal command_Read_P1_c0 (command_Read_P1 (num_Get L))⟩ : LSpec α) ∧ LDet (⟨command_Read_P1_live, command_Read_P1_outs, run1 command_Read_P1_cl .normal command_Read_P1_c0 (command_Read_P1 (num_Get L))⟩ : LSpec α) :=
  pspec (cl := command_Read_P1_cl) mixed (sp := (tabS [(234, spE false (caC cdS (caC (cdI .i64) (caC (cdI .i64) caN))) (cdT (caC (cdI .i64) (caC (cdI .i64) caN))) (fun a => (num_Get L) a.1 a.2.1 a.2.2.1))])) (tabS_cons (num_Get_c L).ent tabS_nil) (L := 10) (n := 30) (t := .no) (okL_of (by kernel_rfl)) (ltN _) (ldN _) (by kernel_rfl) (command_Read_P1_e (num_Get L)) (fun _ _ => rfl)
abbrev command_Read_P2 {α : Type} (s : G_Cmd × G_command_taker × G_Cmd × Int × Bool × Unit) (k0 : (G_Cmd × G_command_taker × G_Cmd × Int × Bool × Unit) → Option α) : Option α :=
 bif s.2.2.2.2.1 then
  k0 (s.1, s.2.1, s.2.2.1, s.2.2.2.1, true, ())
 else
  k0 (s.1, s.2.1, s.2.2.1, s.2.2.2.1, s.2.2.2.1 == 3, ())
def command_Read_P2_live : List (Nat × Md) := [(2, .o [.p, .p, .p, .p, .p, .p, .p, .p]), (4, .o [.p, .p]), (6, .o [.p, .p, .p, .p, .p, .p, .p, .p]), (21, .p), (22, .p)]
def command_Read_P2_outs : AEx → List (Nat × Md) := (fun e => match e with | .exit i => [] | .ret => [] | .normal => [(2, .o [.p, .p, .p, .p, .p, .p, .p, .p]), (4, .o [.p, .p]), (6, .o [.p, .p, .p, .p, .p, .p, .p, .p]), (21, .p), (22, .p)])
def command_Read_P2_cl : Cl (G_Cmd × G_command_taker × G_Cmd × Int × Bool × Unit) := (clC (cxO (czA (caA G_Cmd.ks G_Cmd.cs G_Cmd.of G_Cmd.h)) 8) (clC (cxO (czA (caA G_command_taker.ks G_command_taker.cs G_command_taker.of G_command_taker.h)) 2) (clC (cxO (czA (caA G_Cmd.ks G_Cmd.cs G_Cmd.of G_Cmd.h)) 8) (clC (cxV (ceP (cdI .i8))) (clC (cxV (ceP cdB)) clN)))))
def command_Read_P2_c0 : Cl (G_Cmd × G_command_taker × G_Cmd × Int × Bool × Unit) := (clC (cxO (czA (caA G_Cmd.ks G_Cmd.cs G_Cmd.of G_Cmd.h)) 8) (clC (cxO (czA (caA G_command_taker.ks G_command_taker.cs G_command_taker.of G_command_taker.h)) 2) (clC (cxO (czA (caA G_Cmd.ks G_Cmd.cs G_Cmd.of G_Cmd.h)) 8) (clC (cxV (ceP (cdI .i8))) (clC (cxV (ceP cdB)) clN)))))
theorem command_Read_P2_e {α : Type} (s : G_Cmd × G_command_taker × G_Cmd × Int × Bool × Unit) (Ke : AEx → List AV → Option α) : stepQ Tryz.prog (tabS []) 10 30 (subC (bodyOf Tryz.f118) [1, 1, 1, 1, 0, 1, 0, 0, 1]) .no command_Read_P2_live command_Read_P2_outs (command_Read_P2_cl.enc s) Ke = command_Read_P2 s (fun a => Ke .normal (command_Read_P2_c0.enc a)) := by kernel_rfl
theorem command_Read_P2_ok {α : Type} (L : Nat) : POk Tryz.prog Tryz.f118.ntmps (subC (bodyOf Tryz.f118) [1, 1, 1, 1, 0, 1, 0, 0, 1]) (⟨command_Read_P2_live, command_Read_P2_outs, run1 command_Read_P2_cl .normal command_Read_P2_c0 (command_Read_P2)⟩ : LSpec α) ∧ LDet (⟨command_Read_P2_live, command_Read_P2_outs, run1 command_Read_P2_cl .normal command_Read_P2_c0 (command_Read_P2)⟩ : LSpec α) :=
  pspec (cl := command_Read_P2_cl) mixed (sp := (tabS [])) tabS_nil (L := 10) (n := 30) (t := .no) (okL_of (by kernel_rfl)) (ltN _) (ldN _) (by kernel_rfl) (command_Read_P2_e) (fun _ _ => rfl)
abbrev command_Read_P3 {α : Type} (num_Get : ByteArray → Int → Int → Option (Int × Int × Unit)) (s : G_Cmd × G_command_taker × G_Cmd × Int × Bool × Unit) (k0 : (G_Cmd × G_command_taker × G_Cmd × Unit) → Option α) : Option α :=
 bif s.2.2.2.2.1 then
  bindO (num_Get s.2.1.s_ 0 1) fun r1 =>
   bif r1.2.1 != 0 then
    bindO (num_Get s.2.1.s_ 0 1) fun r2 =>
     bif r2.2.1 != 0 then
      bif s.2.2.1.Kind == 2 then
       bindO (num_Get s.2.1.s_ 0 1) fun r3 =>
        bif r3.2.1 != 0 then
         k0 (s.1, { s.2.1 with bad_ := true }, { s.2.2.1 with Span := G_Span.z, Mode := 0 }, ())
        else
         bif decide (1 ≤ (s.2.1.s_.size : Int)) then
          k0 (s.1, (⟨s.2.1.s_.extract 1 s.2.1.s_.size, true⟩ : G_command_taker), { s.2.2.1 with Span := G_Span.z, Mode := IntKind.i8.wrap (minI false r3.1 127) }, ())
         else none
      else
       k0 (s.1, { s.2.1 with bad_ := true }, { s.2.2.1 with Span := G_Span.z }, ())
     else
      bif decide (1 ≤ (s.2.1.s_.size : Int)) then
       bif s.2.2.1.Kind == 2 then
        bindO (num_Get (s.2.1.s_.extract 1 s.2.1.s_.size) 0 1) fun r4 =>
         bif r4.2.1 != 0 then
          k0 (s.1, (⟨s.2.1.s_.extract 1 s.2.1.s_.size, true⟩ : G_command_taker), { s.2.2.1 with Span := (⟨0, r2.1⟩ : G_Span), Mode := 0 }, ())
         else
          bif decide (1 ≤ ((s.2.1.s_.extract 1 s.2.1.s_.size).size : Int)) then
           k0 (s.1, (⟨(s.2.1.s_.extract 1 s.2.1.s_.size).extract 1 ((s.2.1.s_.extract 1 s.2.1.s_.size).size), true⟩ : G_command_taker), { s.2.2.1 with Span := (⟨0, r2.1⟩ : G_Span), Mode := IntKind.i8.wrap (minI false r4.1 127) }, ())
          else none
       else
        k0 (s.1, (⟨s.2.1.s_.extract 1 s.2.1.s_.size, true⟩ : G_command_taker), { s.2.2.1 with Span := (⟨0, r2.1⟩ : G_Span) }, ())
      else none
   else
    bif decide (1 ≤ (s.2.1.s_.size : Int)) then
     bindO (num_Get (s.2.1.s_.extract 1 s.2.1.s_.size) 0 1) fun r5 =>
      bif r5.2.1 != 0 then
       bif s.2.2.1.Kind == 2 then
        bindO (num_Get (s.2.1.s_.extract 1 s.2.1.s_.size) 0 1) fun r6 =>
         bif r6.2.1 != 0 then
          k0 (s.1, (⟨s.2.1.s_.extract 1 s.2.1.s_.size, true⟩ : G_command_taker), { s.2.2.1 with Span := (⟨r1.1, 0⟩ : G_Span), Mode := 0 }, ())
         else
          bif decide (1 ≤ ((s.2.1.s_.extract 1 s.2.1.s_.size).size : Int)) then
           k0 (s.1, (⟨(s.2.1.s_.extract 1 s.2.1.s_.size).extract 1 ((s.2.1.s_.extract 1 s.2.1.s_.size).size), true⟩ : G_command_taker), { s.2.2.1 with Span := (⟨r1.1, 0⟩ : G_Span), Mode := IntKind.i8.wrap (minI false r6.1 127) }, ())
          else none
       else
        k0 (s.1, (⟨s.2.1.s_.extract 1 s.2.1.s_.size, true⟩ : G_command_taker), { s.2.2.1 with Span := (⟨r1.1, 0⟩ : G_Span) }, ())
      else
       bif decide (1 ≤ ((s.2.1.s_.extract 1 s.2.1.s_.size).size : Int)) then
        bif s.2.2.1.Kind == 2 then
         bindO (num_Get ((s.2.1.s_.extract 1 s.2.1.s_.size).extract 1 ((s.2.1.s_.extract 1 s.2.1.s_.size).size)) 0 1) fun r7 =>
          bif r7.2.1 != 0 then
           k0 (s.1, (⟨(s.2.1.s_.extract 1 s.2.1.s_.size).extract 1 ((s.2.1.s_.extract 1 s.2.1.s_.size).size), true⟩ : G_command_taker), { s.2.2.1 with Span := (⟨r1.1, r5.1⟩ : G_Span), Mode := 0 }, ())
          else
           bif decide (1 ≤ (((s.2.1.s_.extract 1 s.2.1.s_.size).extract 1 ((s.2.1.s_.extract 1 s.2.1.s_.size).size)).size : Int)) then
            k0 (s.1, { s.2.1 with s_ := ((s.2.1.s_.extract 1 s.2.1.s_.size).extract 1 ((s.2.1.s_.extract 1 s.2.1.s_.size).size)).extract 1 (((s.2.1.s_.extract 1 s.2.1.s_.size).extract 1 ((s.2.1.s_.extract 1 s.2.1.s_.size).size)).size) }, { s.2.2.1 with Span := (⟨r1.1, r5.1⟩ : G_Span), Mode := IntKind.i8.wrap (minI false r7.1 127) }, ())
           else none
        else
         k0 (s.1, { s.2.1 with s_ := (s.2.1.s_.extract 1 s.2.1.s_.size).extract 1 ((s.2.1.s_.extract 1 s.2.1.s_.size).size) }, { s.2.2.1 with Span := (⟨r1.1, r5.1⟩ : G_Span) }, ())
       else none
    else none
 else
  bif s.2.2.2.1 == 4 then
   bindO (num_Get s.2.1.s_ 0 6) fun r8 =>
    bif r8.2.1 != 0 then
     bif s.2.2.1.Kind == 4 then
      bindO (num_Get s.2.1.s_ 0 6) fun r9 =>
       bif r9.2.1 != 0 then
        k0 (s.1, { s.2.1 with bad_ := true }, { s.2.2.1 with Dead := 0, Was := 0 }, ())
       else
        bif decide (6 ≤ (s.2.1.s_.size : Int)) then
         k0 (s.1, (⟨s.2.1.s_.extract 6 s.2.1.s_.size, true⟩ : G_command_taker), { s.2.2.1 with Dead := 0, Was := r9.1 }, ())
        else none
     else
      k0 (s.1, { s.2.1 with bad_ := true }, { s.2.2.1 with Dead := 0 }, ())
    else
     bif decide (6 ≤ (s.2.1.s_.size : Int)) then
      bif s.2.2.1.Kind == 4 then
       bindO (num_Get (s.2.1.s_.extract 6 s.2.1.s_.size) 0 6) fun r10 =>
        bif r10.2.1 != 0 then
         k0 (s.1, (⟨s.2.1.s_.extract 6 s.2.1.s_.size, true⟩ : G_command_taker), { s.2.2.1 with Dead := r8.1, Was := 0 }, ())
        else
         bif decide (6 ≤ ((s.2.1.s_.extract 6 s.2.1.s_.size).size : Int)) then
          k0 (s.1, { s.2.1 with s_ := (s.2.1.s_.extract 6 s.2.1.s_.size).extract 6 ((s.2.1.s_.extract 6 s.2.1.s_.size).size) }, { s.2.2.1 with Dead := r8.1, Was := r10.1 }, ())
         else none
      else
       k0 (s.1, { s.2.1 with s_ := s.2.1.s_.extract 6 s.2.1.s_.size }, { s.2.2.1 with Dead := r8.1 }, ())
     else none
  else
   bif s.2.2.2.1 == 5 then
    bindO (num_Get s.2.1.s_ 0 6) fun r11 =>
     bif r11.2.1 != 0 then
      bif s.2.2.1.Kind == 4 then
       bindO (num_Get s.2.1.s_ 0 6) fun r12 =>
        bif r12.2.1 != 0 then
         k0 (s.1, { s.2.1 with bad_ := true }, { s.2.2.1 with Dead := 0, Was := 0 }, ())
        else
         bif decide (6 ≤ (s.2.1.s_.size : Int)) then
          k0 (s.1, (⟨s.2.1.s_.extract 6 s.2.1.s_.size, true⟩ : G_command_taker), { s.2.2.1 with Dead := 0, Was := r12.1 }, ())
         else none
      else
       k0 (s.1, { s.2.1 with bad_ := true }, { s.2.2.1 with Dead := 0 }, ())
     else
      bif decide (6 ≤ (s.2.1.s_.size : Int)) then
       bif s.2.2.1.Kind == 4 then
        bindO (num_Get (s.2.1.s_.extract 6 s.2.1.s_.size) 0 6) fun r13 =>
         bif r13.2.1 != 0 then
          k0 (s.1, (⟨s.2.1.s_.extract 6 s.2.1.s_.size, true⟩ : G_command_taker), { s.2.2.1 with Dead := r11.1, Was := 0 }, ())
         else
          bif decide (6 ≤ ((s.2.1.s_.extract 6 s.2.1.s_.size).size : Int)) then
           k0 (s.1, { s.2.1 with s_ := (s.2.1.s_.extract 6 s.2.1.s_.size).extract 6 ((s.2.1.s_.extract 6 s.2.1.s_.size).size) }, { s.2.2.1 with Dead := r11.1, Was := r13.1 }, ())
          else none
       else
        k0 (s.1, { s.2.1 with s_ := s.2.1.s_.extract 6 s.2.1.s_.size }, { s.2.2.1 with Dead := r11.1 }, ())
      else none
   else
    k0 (s.1, s.2.1, s.2.2.1, ())
def command_Read_P3_live : List (Nat × Md) := [(2, .o [.p, .p, .p, .p, .p, .p, .p, .p]), (4, .o [.p, .p]), (6, .o [.p, .p, .p, .p, .p, .p, .p, .p]), (21, .p), (22, .p)]
def command_Read_P3_outs : AEx → List (Nat × Md) := (fun e => match e with | .exit i => [] | .ret => [] | .normal => [(2, .o [.p, .p, .p, .p, .p, .p, .p, .p]), (4, .o [.p, .p]), (6, .o [.p, .p, .p, .p, .p, .p, .p, .p])])
def command_Read_P3_cl : Cl (G_Cmd × G_command_taker × G_Cmd × Int × Bool × Unit) := (clC (cxO (czA (caA G_Cmd.ks G_Cmd.cs G_Cmd.of G_Cmd.h)) 8) (clC (cxO (czA (caA G_command_taker.ks G_command_taker.cs G_command_taker.of G_command_taker.h)) 2) (clC (cxO (czA (caA G_Cmd.ks G_Cmd.cs G_Cmd.of G_Cmd.h)) 8) (clC (cxV (ceP (cdI .i8))) (clC (cxV (ceP cdB)) clN)))))
def command_Read_P3_c0 : Cl (G_Cmd × G_command_taker × G_Cmd × Unit) := (clC (cxO (czA (caA G_Cmd.ks G_Cmd.cs G_Cmd.of G_Cmd.h)) 8) (clC (cxO (czA (caA G_command_taker.ks G_command_taker.cs G_command_taker.of G_command_taker.h)) 2) (clC (cxO (czA (caA G_Cmd.ks G_Cmd.cs G_Cmd.of G_Cmd.h)) 8) clN)))
theorem command_Read_P3_e {α : Type} (num_Get : ByteArray → Int → Int → Option (Int × Int × Unit)) (s : G_Cmd × G_command_taker × G_Cmd × Int × Bool × Unit) (Ke : AEx → List AV → Option α) : stepQ Tryz.prog (tabS [(234, spE false (caC cdS (caC (cdI .i64) (caC (cdI .i64) caN))) (cdT (caC (cdI .i64) (caC (cdI .i64) caN))) (fun a => num_Get a.1 a.2.1 a.2.2.1))]) 10 30 (subC (bodyOf Tryz.f118) [1, 1, 1, 1, 0, 1, 0, 1]) .no command_Read_P3_live command_Read_P3_outs (command_Read_P3_cl.enc s) Ke = command_Read_P3 num_Get s (fun a => Ke .normal (command_Read_P3_c0.enc a)) := by kernel_rfl
theorem command_Read_P3_ok {α : Type} (L : Nat) : POk Tryz.prog Tryz.f118.ntmps (subC (bodyOf Tryz.f118) [1, 1, 1, 1, 0, 1, 0, 1]) (⟨command_Read_P3_live, command_Read_P3_outs, run1 command_Read_P3_cl .normal command_Read_P3_c0 (command_Read_P3 (num_Get L))⟩ : LSpec α) ∧ LDet (⟨command_Read_P3_live, command_Read_P3_outs, run1 command_Read_P3_cl .normal command_Read_P3_c0 (command_Read_P3 (num_Get L))⟩ : LSpec α) :=
  pspec (cl := command_Read_P3_cl) mixed (sp := (tabS [(234, spE false (caC cdS (caC (cdI .i64) (caC (cdI .i64) caN))) (cdT (caC (cdI .i64) (caC (cdI .i64) caN))) (fun a => (num_Get L) a.1 a.2.1 a.2.2.1))])) (tabS_cons (num_Get_c L).ent tabS_nil) (L := 10) (n := 30) (t := .no) (okL_of (by kernel_rfl)) (ltN _) (ldN _) (by kernel_rfl) (command_Read_P3_e (num_Get L)) (fun _ _ => rfl)
abbrev command_Read_P4 {α : Type} (command_May : G_Cmd → Option Bool) (s : G_Cmd × G_command_taker × G_Cmd × Unit) (k0 : (G_Cmd × G_Cmd × Bool × Unit) → Option α) : Option α :=
 bif s.2.1.bad_ then
  k0 (s.1, s.2.2.1, true, ())
 else
  bif !(s.2.1.s_.toList == noS.toList) then
   k0 (s.1, s.2.2.1, true, ())
  else
   bindO (command_May s.2.2.1) fun r1 =>
    k0 (s.1, s.2.2.1, !r1, ())
def command_Read_P4_live : List (Nat × Md) := [(2, .o [.p, .p, .p, .p, .p, .p, .p, .p]), (4, .o [.p, .p]), (6, .o [.p, .p, .p, .p, .p, .p, .p, .p])]
def command_Read_P4_outs : AEx → List (Nat × Md) := (fun e => match e with | .exit i => [] | .ret => [] | .normal => [(2, .o [.p, .p, .p, .p, .p, .p, .p, .p]), (6, .o [.p, .p, .p, .p, .p, .p, .p, .p]), (68, .p)])
def command_Read_P4_cl : Cl (G_Cmd × G_command_taker × G_Cmd × Unit) := (clC (cxO (czA (caA G_Cmd.ks G_Cmd.cs G_Cmd.of G_Cmd.h)) 8) (clC (cxO (czA (caA G_command_taker.ks G_command_taker.cs G_command_taker.of G_command_taker.h)) 2) (clC (cxO (czA (caA G_Cmd.ks G_Cmd.cs G_Cmd.of G_Cmd.h)) 8) clN)))
def command_Read_P4_c0 : Cl (G_Cmd × G_Cmd × Bool × Unit) := (clC (cxO (czA (caA G_Cmd.ks G_Cmd.cs G_Cmd.of G_Cmd.h)) 8) (clC (cxO (czA (caA G_Cmd.ks G_Cmd.cs G_Cmd.of G_Cmd.h)) 8) (clC (cxV (ceP cdB)) clN)))
theorem command_Read_P4_e {α : Type} (command_May : G_Cmd → Option Bool) (s : G_Cmd × G_command_taker × G_Cmd × Unit) (Ke : AEx → List AV → Option α) : stepQ Tryz.prog (tabS [(180, spE false (caC cd_Cmd caN) cdB (fun a => command_May a.1))]) 10 30 (subC (bodyOf Tryz.f118) [1, 1, 1, 1, 1, 0, 0]) .no command_Read_P4_live command_Read_P4_outs (command_Read_P4_cl.enc s) Ke = command_Read_P4 command_May s (fun a => Ke .normal (command_Read_P4_c0.enc a)) := by kernel_rfl
theorem command_Read_P4_ok {α : Type} (L : Nat) : POk Tryz.prog Tryz.f118.ntmps (subC (bodyOf Tryz.f118) [1, 1, 1, 1, 1, 0, 0]) (⟨command_Read_P4_live, command_Read_P4_outs, run1 command_Read_P4_cl .normal command_Read_P4_c0 (command_Read_P4 (command_May L))⟩ : LSpec α) ∧ LDet (⟨command_Read_P4_live, command_Read_P4_outs, run1 command_Read_P4_cl .normal command_Read_P4_c0 (command_Read_P4 (command_May L))⟩ : LSpec α) :=
  pspec (cl := command_Read_P4_cl) mixed (sp := (tabS [(180, spE false (caC cd_Cmd caN) cdB (fun a => (command_May L) a.1))])) (tabS_cons (command_May_c L).ent tabS_nil) (L := 10) (n := 30) (t := .no) (okL_of (by kernel_rfl)) (ltN _) (ldN _) (by kernel_rfl) (command_Read_P4_e (command_May L)) (fun _ _ => rfl)
abbrev command_Read_P5 {α : Type} (s : G_Cmd × G_Cmd × Bool × Unit) (k0 : (G_Cmd × G_Cmd × Unit) → Option α) (k1 : (G_Cmd × Int × Unit) → Option α) : Option α :=
 bif s.2.2.1 then
  k1 (G_Cmd.z, 100, ())
 else
  k0 (s.1, s.2.1, ())
def command_Read_P5_live : List (Nat × Md) := [(2, .o [.p, .p, .p, .p, .p, .p, .p, .p]), (6, .o [.p, .p, .p, .p, .p, .p, .p, .p]), (68, .p)]
def command_Read_P5_outs : AEx → List (Nat × Md) := (fun e => match e with | .exit i => [] | .ret => [(2, .o [.p, .p, .p, .p, .p, .p, .p, .p]), (3, .p)] | .normal => [(2, .o [.p, .p, .p, .p, .p, .p, .p, .p]), (6, .o [.p, .p, .p, .p, .p, .p, .p, .p])])
def command_Read_P5_cl : Cl (G_Cmd × G_Cmd × Bool × Unit) := (clC (cxO (czA (caA G_Cmd.ks G_Cmd.cs G_Cmd.of G_Cmd.h)) 8) (clC (cxO (czA (caA G_Cmd.ks G_Cmd.cs G_Cmd.of G_Cmd.h)) 8) (clC (cxV (ceP cdB)) clN)))
def command_Read_P5_c0 : Cl (G_Cmd × G_Cmd × Unit) := (clC (cxO (czA (caA G_Cmd.ks G_Cmd.cs G_Cmd.of G_Cmd.h)) 8) (clC (cxO (czA (caA G_Cmd.ks G_Cmd.cs G_Cmd.of G_Cmd.h)) 8) clN))
def command_Read_P5_c1 : Cl (G_Cmd × Int × Unit) := (clC (cxO (czA (caA G_Cmd.ks G_Cmd.cs G_Cmd.of G_Cmd.h)) 8) (clC (cxV (ceP (cdI .i64))) clN))
theorem command_Read_P5_e {α : Type} (s : G_Cmd × G_Cmd × Bool × Unit) (Ke : AEx → List AV → Option α) : stepQ Tryz.prog (tabS []) 10 30 (subC (bodyOf Tryz.f118) [1, 1, 1, 1, 1, 0, 1]) .no command_Read_P5_live command_Read_P5_outs (command_Read_P5_cl.enc s) Ke = command_Read_P5 s (fun a => Ke .normal (command_Read_P5_c0.enc a)) (fun a => Ke .ret (command_Read_P5_c1.enc a)) := by kernel_rfl
theorem command_Read_P5_ok {α : Type} (L : Nat) : POk Tryz.prog Tryz.f118.ntmps (subC (bodyOf Tryz.f118) [1, 1, 1, 1, 1, 0, 1]) (⟨command_Read_P5_live, command_Read_P5_outs, run2 command_Read_P5_cl .normal command_Read_P5_c0 .ret command_Read_P5_c1 (command_Read_P5)⟩ : LSpec α) ∧ LDet (⟨command_Read_P5_live, command_Read_P5_outs, run2 command_Read_P5_cl .normal command_Read_P5_c0 .ret command_Read_P5_c1 (command_Read_P5)⟩ : LSpec α) :=
  pspec (cl := command_Read_P5_cl) mixed (sp := (tabS [])) tabS_nil (L := 10) (n := 30) (t := .no) (okL_of (by kernel_rfl)) (ltN _) (ldN _) (by kernel_rfl) (command_Read_P5_e) (fun _ _ => rfl)
abbrev command_Read_t (P0 : (G_Cmd × G_command_taker × Unit) → ((G_Cmd × G_command_taker × Int × Unit) → Option (G_Cmd × Int × Unit)) → Option (G_Cmd × Int × Unit)) (P1 : (G_Cmd × G_command_taker × Int × Unit) → ((G_Cmd × G_command_taker × G_Cmd × Unit) → Option (G_Cmd × Int × Unit)) → Option (G_Cmd × Int × Unit)) (P2 : (G_Cmd × G_command_taker × G_Cmd × Int × Bool × Unit) → ((G_Cmd × G_command_taker × G_Cmd × Int × Bool × Unit) → Option (G_Cmd × Int × Unit)) → Option (G_Cmd × Int × Unit)) (P3 : (G_Cmd × G_command_taker × G_Cmd × Int × Bool × Unit) → ((G_Cmd × G_command_taker × G_Cmd × Unit) → Option (G_Cmd × Int × Unit)) → Option (G_Cmd × Int × Unit)) (P4 : (G_Cmd × G_command_taker × G_Cmd × Unit) → ((G_Cmd × G_Cmd × Bool × Unit) → Option (G_Cmd × Int × Unit)) → Option (G_Cmd × Int × Unit)) (P5 : (G_Cmd × G_Cmd × Bool × Unit) → ((G_Cmd × G_Cmd × Unit) → Option (G_Cmd × Int × Unit)) → ((G_Cmd × Int × Unit) → Option (G_Cmd × Int × Unit)) → Option (G_Cmd × Int × Unit)) (x0 : ByteArray) : Option (G_Cmd × Int × Unit) :=
 P0 (G_Cmd.z, (⟨x0, false⟩ : G_command_taker), ()) (fun q1 =>
   P1 (q1.1, q1.2.1, q1.2.2.1, ()) (fun q2 =>
     P2 (q2.1, q2.2.1, q2.2.2.1, q2.2.2.1.Kind, q2.2.2.1.Kind == 2, ()) (fun q3 =>
       P3 (q3.1, q3.2.1, q3.2.2.1, q3.2.2.2.1, q3.2.2.2.2.1, ()) (fun q4 =>
         P4 (q4.1, q4.2.1, q4.2.2.1, ()) (fun q5 =>
           P5 (q5.1, q5.2.1, q5.2.2.1, ()) (fun q6 =>
             some (q6.2.1, 0, ())) (fun q7 =>
             some (q7.1, q7.2.1, ())))))))
theorem command_Read_e (P0 : (G_Cmd × G_command_taker × Unit) → ((G_Cmd × G_command_taker × Int × Unit) → Option (G_Cmd × Int × Unit)) → Option (G_Cmd × Int × Unit)) (P1 : (G_Cmd × G_command_taker × Int × Unit) → ((G_Cmd × G_command_taker × G_Cmd × Unit) → Option (G_Cmd × Int × Unit)) → Option (G_Cmd × Int × Unit)) (P2 : (G_Cmd × G_command_taker × G_Cmd × Int × Bool × Unit) → ((G_Cmd × G_command_taker × G_Cmd × Int × Bool × Unit) → Option (G_Cmd × Int × Unit)) → Option (G_Cmd × Int × Unit)) (P3 : (G_Cmd × G_command_taker × G_Cmd × Int × Bool × Unit) → ((G_Cmd × G_command_taker × G_Cmd × Unit) → Option (G_Cmd × Int × Unit)) → Option (G_Cmd × Int × Unit)) (P4 : (G_Cmd × G_command_taker × G_Cmd × Unit) → ((G_Cmd × G_Cmd × Bool × Unit) → Option (G_Cmd × Int × Unit)) → Option (G_Cmd × Int × Unit)) (P5 : (G_Cmd × G_Cmd × Bool × Unit) → ((G_Cmd × G_Cmd × Unit) → Option (G_Cmd × Int × Unit)) → ((G_Cmd × Int × Unit) → Option (G_Cmd × Int × Unit)) → Option (G_Cmd × Int × Unit)) (a : ByteArray × Unit) : symL Tryz.prog (tabS []) 10 30 (.two .no (.two .no (.two (.pt ⟨command_Read_P0_live, command_Read_P0_outs, run1 command_Read_P0_cl .normal command_Read_P0_c0 P0⟩) (.two (.pt ⟨command_Read_P1_live, command_Read_P1_outs, run1 command_Read_P1_cl .normal command_Read_P1_c0 P1⟩) (.two (.two .no (.one (.two (.two .no (.pt ⟨command_Read_P2_live, command_Read_P2_outs, run1 command_Read_P2_cl .normal command_Read_P2_c0 P2⟩)) (.pt ⟨command_Read_P3_live, command_Read_P3_outs, run1 command_Read_P3_cl .normal command_Read_P3_c0 P3⟩)))) (.two (.two (.pt ⟨command_Read_P4_live, command_Read_P4_outs, run1 command_Read_P4_cl .normal command_Read_P4_c0 P4⟩) (.pt ⟨command_Read_P5_live, command_Read_P5_outs, run2 command_Read_P5_cl .normal command_Read_P5_c0 .ret command_Read_P5_c1 P5⟩)) .no)))))) 118 ((caC cdS caN).enc a) (outK (cdT (caC cd_Cmd (caC (cdI .i64) caN)))) = command_Read_t P0 P1 P2 P3 P4 P5 a.1 := by kernel_rfl
def command_Read (L : Nat) (x0 : ByteArray) : Option (G_Cmd × Int × Unit) := command_Read_t (command_Read_P0 (num_Get L)) (command_Read_P1 (num_Get L)) (command_Read_P2) (command_Read_P3 (num_Get L)) (command_Read_P4 (command_May L)) (command_Read_P5) x0
theorem command_Read_c (L : Nat) : Ctr Tryz.prog 118 false (caC cdS caN) (cdT (caC cd_Cmd (caC (cdI .i64) caN))) (fun a => command_Read L a.1) :=
  ctr_of mixed (sp := (tabS [])) tabS_nil (lt := (.two .no (.two .no (.two (.pt ⟨command_Read_P0_live, command_Read_P0_outs, run1 command_Read_P0_cl .normal command_Read_P0_c0 (command_Read_P0 (num_Get L))⟩) (.two (.pt ⟨command_Read_P1_live, command_Read_P1_outs, run1 command_Read_P1_cl .normal command_Read_P1_c0 (command_Read_P1 (num_Get L))⟩) (.two (.two .no (.one (.two (.two .no (.pt ⟨command_Read_P2_live, command_Read_P2_outs, run1 command_Read_P2_cl .normal command_Read_P2_c0 (command_Read_P2)⟩)) (.pt ⟨command_Read_P3_live, command_Read_P3_outs, run1 command_Read_P3_cl .normal command_Read_P3_c0 (command_Read_P3 (num_Get L))⟩)))) (.two (.two (.pt ⟨command_Read_P4_live, command_Read_P4_outs, run1 command_Read_P4_cl .normal command_Read_P4_c0 (command_Read_P4 (command_May L))⟩) (.pt ⟨command_Read_P5_live, command_Read_P5_outs, run2 command_Read_P5_cl .normal command_Read_P5_c0 .ret command_Read_P5_c1 (command_Read_P5)⟩)) .no))))))) (x := bodyOf Tryz.f118) Tryz.func118 (by kernel_rfl) (ltS (ltN _) (ltS (ltN _) (ltS (ptL (command_Read_P0_ok L).1) (ltS (ptL (command_Read_P1_ok L).1) (ltS (ltS (ltN _) (ltB (ltS (ltS (ltN _) (ptL (command_Read_P2_ok L).1)) (ptL (command_Read_P3_ok L).1)))) (ltS (ltS (ptL (command_Read_P4_ok L).1) (ptL (command_Read_P5_ok L).1)) (ltN _))))))) (ldS (ldN _) (ldS (ldN _) (ldS (pdL (command_Read_P0_ok L).2) (ldS (pdL (command_Read_P1_ok L).2) (ldS (ldS (ldN _) (ldB (ldS (ldS (ldN _) (pdL (command_Read_P2_ok L).2)) (pdL (command_Read_P3_ok L).2)))) (ldS (ldS (pdL (command_Read_P4_ok L).2) (pdL (command_Read_P5_ok L).2)) (ldN _))))))) fun a => command_Read_e (command_Read_P0 (num_Get L)) (command_Read_P1 (num_Get L)) (command_Read_P2) (command_Read_P3 (num_Get L)) (command_Read_P4 (command_May L)) (command_Read_P5) a
abbrev command_Of_t (command_Key : Int → Option Bool) (x0 : Int) : Option Int :=
 bindO (command_Key x0) fun r1 =>
  bif r1 then
   some (x0.tmod 16)
  else
   some (-1)
theorem command_Of_e (command_Key : Int → Option Bool) (a : Int × Unit) : symL Tryz.prog (tabS [(181, spE false (caC (cdI .i64) caN) cdB (fun a => command_Key a.1))]) 10 30 .no 119 ((caC (cdI .i64) caN).enc a) (outK (cdI .i64)) = command_Of_t command_Key a.1 := by kernel_rfl
def command_Of (L : Nat) (x0 : Int) : Option Int := command_Of_t (command_Key L) x0
theorem command_Of_c (L : Nat) : Ctr Tryz.prog 119 false (caC (cdI .i64) caN) (cdI .i64) (fun a => command_Of L a.1) :=
  ctr_of mixed (sp := (tabS [(181, spE false (caC (cdI .i64) caN) cdB (fun a => (command_Key L) a.1))])) (tabS_cons (command_Key_c L).ent tabS_nil) (lt := .no) (x := bodyOf Tryz.f119) Tryz.func119 (by kernel_rfl) (ltN _) (ldN _) fun a => command_Of_e (command_Key L) a
abbrev paxos_Begin_t (command_Read : ByteArray → Option (G_Cmd × Int × Unit)) (geo_May : G_Geo → Option Bool) (command_Of : Int → Option Int) (x0 : G_Geo) (x1 : Int) (x2 : ByteArray) : Option (G_Prop × Int × Unit) :=
 bindO (command_Read x2) fun r1 =>
  bif r1.2.1 != 0 then
   some (G_Prop.z, 2, ())
  else
   bindO (geo_May x0) fun r2 =>
    bif !r2 then
     some (G_Prop.z, 2, ())
    else
     bif decide (x1 < 0) then
      some (G_Prop.z, 2, ())
     else
      bif decide (x0.Nodes ≤ x1) then
       some (G_Prop.z, 2, ())
      else
       bindO (command_Of r1.1.By) fun r3 =>
        bif r3 != x1 then
         some (G_Prop.z, 2, ())
        else
         some ((⟨x1, x2, 0, 0, G_Rec.z, G_Tally.z⟩ : G_Prop), 0, ())
theorem paxos_Begin_e (command_Read : ByteArray → Option (G_Cmd × Int × Unit)) (geo_May : G_Geo → Option Bool) (command_Of : Int → Option Int) (a : G_Geo × Int × ByteArray × Unit) : symL Tryz.prog (tabS [(118, spE false (caC cdS caN) (cdT (caC cd_Cmd (caC (cdI .i64) caN))) (fun a => command_Read a.1)), (56, spE false (caC cd_Geo caN) cdB (fun a => geo_May a.1)), (119, spE false (caC (cdI .i64) caN) (cdI .i64) (fun a => command_Of a.1))]) 10 30 .no 47 ((caC cd_Geo (caC (cdI .i64) (caC cdS caN))).enc a) (outK (cdT (caC cd_Prop (caC (cdI .i64) caN)))) = paxos_Begin_t command_Read geo_May command_Of a.1 a.2.1 a.2.2.1 := by kernel_rfl
def paxos_Begin (L : Nat) (x0 : G_Geo) (x1 : Int) (x2 : ByteArray) : Option (G_Prop × Int × Unit) := paxos_Begin_t (command_Read L) (geo_May L) (command_Of L) x0 x1 x2
theorem paxos_Begin_c (L : Nat) : Ctr Tryz.prog 47 false (caC cd_Geo (caC (cdI .i64) (caC cdS caN))) (cdT (caC cd_Prop (caC (cdI .i64) caN))) (fun a => paxos_Begin L a.1 a.2.1 a.2.2.1) :=
  ctr_of mixed (sp := (tabS [(118, spE false (caC cdS caN) (cdT (caC cd_Cmd (caC (cdI .i64) caN))) (fun a => (command_Read L) a.1)), (56, spE false (caC cd_Geo caN) cdB (fun a => (geo_May L) a.1)), (119, spE false (caC (cdI .i64) caN) (cdI .i64) (fun a => (command_Of L) a.1))])) (tabS_cons (command_Read_c L).ent (tabS_cons (geo_May_c L).ent (tabS_cons (command_Of_c L).ent tabS_nil))) (lt := .no) (x := bodyOf Tryz.f47) Tryz.func47 (by kernel_rfl) (ltN _) (ldN _) fun a => paxos_Begin_e (command_Read L) (geo_May L) (command_Of L) a
end Go.Proofs.YtakljpcmbpaeaaaGreat

namespace Go.Proofs.YtakljpcmbpaeaaaGreat
open Go.RowKit
set_option maxRecDepth 100000
set_option maxHeartbeats 16000000
set_option linter.unusedSimpArgs false
set_option linter.unusedVariables false

abbrev command_Bytes_t (command_order_may : G_command_order → Option Bool) (num_Put : (List (List V)) → Int → (List (List V)) → Option ((List (List V)) × Int × Unit)) (x0 : G_Cmd) : Option (ByteArray × Int × Unit) :=
 bindO (command_order_may (⟨x0, []⟩ : G_command_order)) fun r1 =>
  bif !r1 then
   some (noS, 2, ())
  else
   bindO (num_Put ([]) 1 ([[V.int .i64 (IntKind.i64.wrap x0.Kind)]])) fun r2 =>
    bindO (num_Put r2.1 6 ([[V.int .i64 x0.By]])) fun r3 =>
     bindO (num_Put r3.1 4 ([[V.int .i64 x0.Serial]])) fun r4 =>
      bif x0.Kind == 2 then
       bindO (num_Put r4.1 1 ([[V.int .i64 x0.Span.Lo], [V.int .i64 x0.Span.Hi], [V.int .i64 (IntKind.i64.wrap x0.Mode)]])) fun r5 =>
        bif (bytesOf r5.1).isSome then
         some (bytesS r5.1, 0, ())
        else none
      else
       bif x0.Kind == 3 then
        bindO (num_Put r4.1 1 ([[V.int .i64 x0.Span.Lo], [V.int .i64 x0.Span.Hi]])) fun r6 =>
         bif (bytesOf r6.1).isSome then
          some (bytesS r6.1, 0, ())
         else none
       else
        bif x0.Kind == 4 then
         bindO (num_Put r4.1 6 ([[V.int .i64 x0.Dead], [V.int .i64 x0.Was]])) fun r7 =>
          bif (bytesOf r7.1).isSome then
           some (bytesS r7.1, 0, ())
          else none
        else
         bif x0.Kind == 5 then
          bindO (num_Put r4.1 6 ([[V.int .i64 x0.Dead]])) fun r8 =>
           bif (bytesOf r8.1).isSome then
            some (bytesS r8.1, 0, ())
           else none
         else
          bif (bytesOf r4.1).isSome then
           some (bytesS r4.1, 0, ())
          else none
theorem command_Bytes_e (command_order_may : G_command_order → Option Bool) (num_Put : (List (List V)) → Int → (List (List V)) → Option ((List (List V)) × Int × Unit)) (a : G_Cmd × Unit) : symL Tryz.prog (tabS [(185, spE false (caC (cdP (caA G_command_order.ks G_command_order.cs G_command_order.of G_command_order.h)) caN) cdB (fun a => command_order_may a.1)), (177, spE true (caC cdR (caC (cdI .i64) (caC cdR caN))) (cdT (caC cdR (caC (cdI .i64) caN))) (fun a => num_Put a.1 a.2.1 a.2.2.1))]) 10 30 .no 128 ((caC cd_Cmd caN).enc a) (outK (cdT (caC cdS (caC (cdI .i64) caN)))) = command_Bytes_t command_order_may num_Put a.1 := by kernel_rfl
def command_Bytes (L : Nat) (x0 : G_Cmd) : Option (ByteArray × Int × Unit) := command_Bytes_t (command_order_may L) (num_Put L) x0
theorem command_Bytes_c (L : Nat) : Ctr Tryz.prog 128 false (caC cd_Cmd caN) (cdT (caC cdS (caC (cdI .i64) caN))) (fun a => command_Bytes L a.1) :=
  ctr_of mixed (sp := (tabS [(185, spE false (caC (cdP (caA G_command_order.ks G_command_order.cs G_command_order.of G_command_order.h)) caN) cdB (fun a => (command_order_may L) a.1)), (177, spE true (caC cdR (caC (cdI .i64) (caC cdR caN))) (cdT (caC cdR (caC (cdI .i64) caN))) (fun a => (num_Put L) a.1 a.2.1 a.2.2.1))])) (tabS_cons (command_order_may_c L).ent (tabS_cons (num_Put_c L).ent tabS_nil)) (lt := .no) (x := bodyOf Tryz.f128) Tryz.func128 (by kernel_rfl) (ltN _) (ldN _) fun a => command_Bytes_e (command_order_may L) (num_Put L) a
abbrev settle_course_end_t (x0 : G_settle_course) : Option Bool :=
 some (decide (2 < x0.Settling.At))
theorem settle_course_end_e (a : G_settle_course × Unit) : symL Tryz.prog (tabS []) 10 30 .no 184 ((caC (cdP (caA G_settle_course.ks G_settle_course.cs G_settle_course.of G_settle_course.h)) caN).enc a) (outK cdB) = settle_course_end_t a.1 := by kernel_rfl
def settle_course_end (L : Nat) (x0 : G_settle_course) : Option Bool := settle_course_end_t x0
theorem settle_course_end_c (L : Nat) : Ctr Tryz.prog 184 false (caC (cdP (caA G_settle_course.ks G_settle_course.cs G_settle_course.of G_settle_course.h)) caN) cdB (fun a => settle_course_end L a.1) :=
  ctr_of mixed (sp := (tabS [])) tabS_nil (lt := .no) (x := bodyOf Tryz.f184) Tryz.func184 (by kernel_rfl) (ltN _) (ldN _) fun a => settle_course_end_e a
abbrev settle_Over_t (settle_course_end : G_settle_course → Option Bool) (x0 : G_Settling) : Option Bool :=
 bindO (settle_course_end (⟨x0, 0, noS⟩ : G_settle_course)) fun r1 =>
  some r1
theorem settle_Over_e (settle_course_end : G_settle_course → Option Bool) (a : G_Settling × Unit) : symL Tryz.prog (tabS [(184, spE false (caC (cdP (caA G_settle_course.ks G_settle_course.cs G_settle_course.of G_settle_course.h)) caN) cdB (fun a => settle_course_end a.1))]) 10 30 .no 127 ((caC cd_Settling caN).enc a) (outK cdB) = settle_Over_t settle_course_end a.1 := by kernel_rfl
def settle_Over (L : Nat) (x0 : G_Settling) : Option Bool := settle_Over_t (settle_course_end L) x0
theorem settle_Over_c (L : Nat) : Ctr Tryz.prog 127 false (caC cd_Settling caN) cdB (fun a => settle_Over L a.1) :=
  ctr_of mixed (sp := (tabS [(184, spE false (caC (cdP (caA G_settle_course.ks G_settle_course.cs G_settle_course.of G_settle_course.h)) caN) cdB (fun a => (settle_course_end L) a.1))])) (tabS_cons (settle_course_end_c L).ent tabS_nil) (lt := .no) (x := bodyOf Tryz.f127) Tryz.func127 (by kernel_rfl) (ltN _) (ldN _) fun a => settle_Over_e (settle_course_end L) a
abbrev mount_Begin_P0 {α : Type} (geo_May : G_Geo → Option Bool) (mount_Mine_1 : Int → Option Bool) (s : G_Geo × G_Node × G_Node × G_Answer × G_mount_course × Unit) (k0 : (G_Node × G_Node × G_Answer × G_mount_course × Bool × Unit) → Option α) : Option α :=
 bindO (geo_May s.1) fun r1 =>
  bif !r1 then
   k0 (s.2.1, s.2.2.1, s.2.2.2.1, s.2.2.2.2.1, true, ())
  else
   bif decide (s.2.1.Num < 0) then
    k0 (s.2.1, s.2.2.1, s.2.2.2.1, s.2.2.2.2.1, true, ())
   else
    bif decide (s.1.Nodes ≤ s.2.1.Num) then
     k0 (s.2.1, s.2.2.1, s.2.2.2.1, s.2.2.2.2.1, true, ())
    else
     bindO (mount_Mine_1 s.2.1.Op.Kind) fun r2 =>
      bif r2 then
       k0 (s.2.1, s.2.2.1, s.2.2.2.1, s.2.2.2.2.1, true, ())
      else
       k0 (s.2.1, s.2.2.1, s.2.2.2.1, s.2.2.2.2.1, false, ())
def mount_Begin_P0_live : List (Nat × Md) := [(2, .o [.p, .p, .p, .p, .p, .p, .p, .p]), (3, .o [.p, .p, .p, .p, .p, .p, .p, .p, .p, .p, .p, .p, .p, .p, .p, .p, .p, .p, .p, .p, .p, .p, .p, .p, .p, .p, .p, .p, .p, .p, .p, .p, .p, .p, .p, .p, .p, .p, .p, .p, .p, .p, .p, .p, .p, .p, .p, .p, .p, .p, .p, .p, .p, .p, .p, .p, .p, .p, .p, .p, .p, .p, .p, .p]), (4, .o [.p, .p, .p, .p, .p, .p, .p, .p, .p, .p, .p, .p, .p, .p, .p, .p, .p, .p, .p, .p, .p, .p, .p, .p, .p, .p, .p, .p, .p, .p, .p, .p, .p, .p, .p, .p, .p, .p, .p, .p, .p, .p, .p, .p, .p, .p, .p, .p, .p, .p, .p, .p, .p, .p, .p, .p, .p, .p, .p, .p, .p, .p, .p, .p]), (5, .o [.p, .p, .p]), (7, .o [.p, .p, .p, .p, .p, .p, .p, .p, .p, .p, .p, .p, .p, .p, .p, .p, .p, .p, .p, .p, .p, .p, .p, .p, .p, .p, .p, .p, .p, .p, .p, .p, .p, .p, .p, .p, .p, .p, .p, .p, .p, .p, .p, .p, .p, .p, .p, .p, .p, .p, .p, .p, .p, .p, .p, .p, .p, .p, .p, .p, .p, .p, .p, .p, .p, .p, .p, .p, .p, .p, .p, .p, .p, .p, .p, .p])]
def mount_Begin_P0_outs : AEx → List (Nat × Md) := (fun e => match e with | .exit i => [] | .ret => [] | .normal => [(3, .o [.p, .p, .p, .p, .p, .p, .p, .p, .p, .p, .p, .p, .p, .p, .p, .p, .p, .p, .p, .p, .p, .p, .p, .p, .p, .p, .p, .p, .p, .p, .p, .p, .p, .p, .p, .p, .p, .p, .p, .p, .p, .p, .p, .p, .p, .p, .p, .p, .p, .p, .p, .p, .p, .p, .p, .p, .p, .p, .p, .p, .p, .p, .p, .p]), (4, .o [.p, .p, .p, .p, .p, .p, .p, .p, .p, .p, .p, .p, .p, .p, .p, .p, .p, .p, .p, .p, .p, .p, .p, .p, .p, .p, .p, .p, .p, .p, .p, .p, .p, .p, .p, .p, .p, .p, .p, .p, .p, .p, .p, .p, .p, .p, .p, .p, .p, .p, .p, .p, .p, .p, .p, .p, .p, .p, .p, .p, .p, .p, .p, .p]), (5, .o [.p, .p, .p]), (7, .o [.p, .p, .p, .p, .p, .p, .p, .p, .p, .p, .p, .p, .p, .p, .p, .p, .p, .p, .p, .p, .p, .p, .p, .p, .p, .p, .p, .p, .p, .p, .p, .p, .p, .p, .p, .p, .p, .p, .p, .p, .p, .p, .p, .p, .p, .p, .p, .p, .p, .p, .p, .p, .p, .p, .p, .p, .p, .p, .p, .p, .p, .p, .p, .p, .p, .p, .p, .p, .p, .p, .p, .p, .p, .p, .p, .p]), (16, .p)])
def mount_Begin_P0_cl : Cl (G_Geo × G_Node × G_Node × G_Answer × G_mount_course × Unit) := (clC (cxO (czA (caA G_Geo.ks G_Geo.cs G_Geo.of G_Geo.h)) 8) (clC (cxO (czA (caA G_Node.ks G_Node.cs G_Node.of G_Node.h)) 64) (clC (cxO (czA (caA G_Node.ks G_Node.cs G_Node.of G_Node.h)) 64) (clC (cxO (czA (caA G_Answer.ks G_Answer.cs G_Answer.of G_Answer.h)) 3) (clC (cxO (czA (caA G_mount_course.ks G_mount_course.cs G_mount_course.of G_mount_course.h)) 76) clN)))))
def mount_Begin_P0_c0 : Cl (G_Node × G_Node × G_Answer × G_mount_course × Bool × Unit) := (clC (cxO (czA (caA G_Node.ks G_Node.cs G_Node.of G_Node.h)) 64) (clC (cxO (czA (caA G_Node.ks G_Node.cs G_Node.of G_Node.h)) 64) (clC (cxO (czA (caA G_Answer.ks G_Answer.cs G_Answer.of G_Answer.h)) 3) (clC (cxO (czA (caA G_mount_course.ks G_mount_course.cs G_mount_course.of G_mount_course.h)) 76) (clC (cxV (ceP cdB)) clN)))))
theorem mount_Begin_P0_e {α : Type} (geo_May : G_Geo → Option Bool) (mount_Mine_1 : Int → Option Bool) (s : G_Geo × G_Node × G_Node × G_Answer × G_mount_course × Unit) (Ke : AEx → List AV → Option α) : stepQ Tryz.prog (tabS [(56, spE false (caC cd_Geo caN) cdB (fun a => geo_May a.1)), (125, spE false (caC (cdI .i8) caN) cdB (fun a => mount_Mine_1 a.1))]) 10 30 (subC (bodyOf Tryz.f13) [1, 1, 0, 0, 0]) .no mount_Begin_P0_live mount_Begin_P0_outs (mount_Begin_P0_cl.enc s) Ke = mount_Begin_P0 geo_May mount_Mine_1 s (fun a => Ke .normal (mount_Begin_P0_c0.enc a)) := by kernel_rfl
theorem mount_Begin_P0_ok {α : Type} (L : Nat) : POk Tryz.prog Tryz.f13.ntmps (subC (bodyOf Tryz.f13) [1, 1, 0, 0, 0]) (⟨mount_Begin_P0_live, mount_Begin_P0_outs, run1 mount_Begin_P0_cl .normal mount_Begin_P0_c0 (mount_Begin_P0 (geo_May L) (mount_Mine_1 L))⟩ : LSpec α) ∧ LDet (⟨mount_Begin_P0_live, mount_Begin_P0_outs, run1 mount_Begin_P0_cl .normal mount_Begin_P0_c0 (mount_Begin_P0 (geo_May L) (mount_Mine_1 L))⟩ : LSpec α) :=
  pspec (cl := mount_Begin_P0_cl) mixed (sp := (tabS [(56, spE false (caC cd_Geo caN) cdB (fun a => (geo_May L) a.1)), (125, spE false (caC (cdI .i8) caN) cdB (fun a => (mount_Mine_1 L) a.1))])) (tabS_cons (geo_May_c L).ent (tabS_cons (mount_Mine_1_c L).ent tabS_nil)) (L := 10) (n := 30) (t := .no) (okL_of (by kernel_rfl)) (ltN _) (ldN _) (by kernel_rfl) (mount_Begin_P0_e (geo_May L) (mount_Mine_1 L)) (fun _ _ => rfl)
abbrev mount_Begin_P1 {α : Type} (settle_Begin : G_Geo → (List (List V)) → Option (G_Settling × Int × Unit)) (settle_Over : G_Settling → Option Bool) (command_Bytes : G_Cmd → Option (ByteArray × Int × Unit)) (paxos_Begin : G_Geo → Int → ByteArray → Option (G_Prop × Int × Unit)) (s : G_Node × G_Node × G_Answer × G_mount_course × Bool × Unit) (k0 : (G_Node × G_Answer × G_mount_course × Unit) → Option α) : Option α :=
 bif s.2.2.2.2.1 then
  k0 (s.2.1, s.2.2.1, (⟨{ s.2.2.2.1.Node with At := 0, P := G_Prop.z, St := G_Settling.z }, s.2.2.2.1.g_, (⟨2, noS, false⟩ : G_Answer), true⟩ : G_mount_course), ())
 else
  bif s.1.Op.Kind == 1 then
   bindO (settle_Begin s.2.2.2.1.g_ s.2.2.2.1.Node.Pend) fun r1 =>
    bif !s.2.2.2.1.Node.Mounted then
     k0 (s.2.1, s.2.2.1, (⟨{ s.2.2.2.1.Node with At := 0, P := G_Prop.z, St := G_Settling.z }, s.2.2.2.1.g_, (⟨241, noS, false⟩ : G_Answer), true⟩ : G_mount_course), ())
    else
     bif s.2.2.2.1.Node.Txn.Open then
      k0 (s.2.1, s.2.2.1, (⟨{ s.2.2.2.1.Node with At := 0, P := G_Prop.z, St := G_Settling.z }, s.2.2.2.1.g_, (⟨252, noS, false⟩ : G_Answer), true⟩ : G_mount_course), ())
     else
      bif r1.2.1 != 0 then
       k0 (s.2.1, s.2.2.1, (⟨{ s.2.2.2.1.Node with At := 0, P := G_Prop.z, St := G_Settling.z }, s.2.2.2.1.g_, (⟨2, noS, false⟩ : G_Answer), true⟩ : G_mount_course), ())
      else
       bindO (settle_Over r1.1) fun r2 =>
        bif r2 then
         bindO (command_Bytes (⟨1, s.2.2.2.1.Node.Key, IntKind.i64.wrap (s.2.2.2.1.Node.Serial + 1), 0, 0, G_Span.z, 0⟩ : G_Cmd)) fun r3 =>
          bindO (paxos_Begin s.2.2.2.1.g_ s.2.2.2.1.Node.Num r3.1) fun r4 =>
           bif r3.2.1 != 0 then
            k0 (s.2.1, s.2.2.1, (⟨{ s.2.2.2.1.Node with At := 0, P := G_Prop.z, St := G_Settling.z }, s.2.2.2.1.g_, (⟨2, noS, false⟩ : G_Answer), true⟩ : G_mount_course), ())
           else
            bif r4.2.1 != 0 then
             k0 (s.2.1, s.2.2.1, (⟨{ s.2.2.2.1.Node with At := 0, P := G_Prop.z, St := G_Settling.z }, s.2.2.2.1.g_, (⟨2, noS, false⟩ : G_Answer), true⟩ : G_mount_course), ())
            else
             k0 (s.2.1, s.2.2.1, { s.2.2.2.1 with Node := { s.2.2.2.1.Node with Serial := IntKind.i64.wrap (s.2.2.2.1.Node.Serial + 1), At := 7, P := r4.1 } }, ())
        else
         k0 (s.2.1, s.2.2.1, { s.2.2.2.1 with Node := { s.2.2.2.1.Node with At := 6, St := r1.1 } }, ())
  else
   bif s.1.Op.Kind == 13 then
    bif s.1.Key != 0 then
     k0 (s.2.1, s.2.2.1, (⟨{ s.2.2.2.1.Node with At := 0, P := G_Prop.z, St := G_Settling.z }, s.2.2.2.1.g_, G_Answer.z, true⟩ : G_mount_course), ())
    else
     bif s.1.Op.Kind == 0 then
      bif s.1.Mounted then
       k0 (s.2.1, s.2.2.1, (⟨{ s.2.2.2.1.Node with At := 0, P := G_Prop.z, St := G_Settling.z }, s.2.2.2.1.g_, (⟨241, noS, false⟩ : G_Answer), true⟩ : G_mount_course), ())
      else
       bif s.1.Key != 0 then
        bindO (command_Bytes (⟨0, s.2.2.2.1.Node.Key, IntKind.i64.wrap (s.2.2.2.1.Node.Serial + 1), 0, 0, G_Span.z, 0⟩ : G_Cmd)) fun r5 =>
         bindO (paxos_Begin s.2.2.2.1.g_ s.2.2.2.1.Node.Num r5.1) fun r6 =>
          bif r5.2.1 != 0 then
           k0 (s.2.1, s.2.2.1, (⟨{ s.2.2.2.1.Node with At := 0, P := G_Prop.z, St := G_Settling.z }, s.2.2.2.1.g_, (⟨2, noS, false⟩ : G_Answer), true⟩ : G_mount_course), ())
          else
           bif r6.2.1 != 0 then
            k0 (s.2.1, s.2.2.1, (⟨{ s.2.2.2.1.Node with At := 0, P := G_Prop.z, St := G_Settling.z }, s.2.2.2.1.g_, (⟨2, noS, false⟩ : G_Answer), true⟩ : G_mount_course), ())
           else
            k0 (s.2.1, s.2.2.1, { s.2.2.2.1 with Node := { s.2.2.2.1.Node with Serial := IntKind.i64.wrap (s.2.2.2.1.Node.Serial + 1), At := 4, P := r6.1 } }, ())
       else
        k0 (s.2.1, s.2.2.1, { s.2.2.2.1 with Node := { s.2.2.2.1.Node with At := 0 } }, ())
     else
      bif s.1.Key != 0 then
       bindO (command_Bytes (⟨0, s.2.2.2.1.Node.Key, IntKind.i64.wrap (s.2.2.2.1.Node.Serial + 1), 0, 0, G_Span.z, 0⟩ : G_Cmd)) fun r7 =>
        bindO (paxos_Begin s.2.2.2.1.g_ s.2.2.2.1.Node.Num r7.1) fun r8 =>
         bif r7.2.1 != 0 then
          k0 (s.2.1, s.2.2.1, (⟨{ s.2.2.2.1.Node with At := 0, P := G_Prop.z, St := G_Settling.z }, s.2.2.2.1.g_, (⟨2, noS, false⟩ : G_Answer), true⟩ : G_mount_course), ())
         else
          bif r8.2.1 != 0 then
           k0 (s.2.1, s.2.2.1, (⟨{ s.2.2.2.1.Node with At := 0, P := G_Prop.z, St := G_Settling.z }, s.2.2.2.1.g_, (⟨2, noS, false⟩ : G_Answer), true⟩ : G_mount_course), ())
          else
           k0 (s.2.1, s.2.2.1, { s.2.2.2.1 with Node := { s.2.2.2.1.Node with Serial := IntKind.i64.wrap (s.2.2.2.1.Node.Serial + 1), At := 4, P := r8.1 } }, ())
      else
       k0 (s.2.1, s.2.2.1, { s.2.2.2.1 with Node := { s.2.2.2.1.Node with At := 0 } }, ())
   else
    bif s.1.Op.Kind == 0 then
     bif s.1.Mounted then
      k0 (s.2.1, s.2.2.1, (⟨{ s.2.2.2.1.Node with At := 0, P := G_Prop.z, St := G_Settling.z }, s.2.2.2.1.g_, (⟨241, noS, false⟩ : G_Answer), true⟩ : G_mount_course), ())
     else
      bif s.1.Key != 0 then
       bindO (command_Bytes (⟨0, s.2.2.2.1.Node.Key, IntKind.i64.wrap (s.2.2.2.1.Node.Serial + 1), 0, 0, G_Span.z, 0⟩ : G_Cmd)) fun r9 =>
        bindO (paxos_Begin s.2.2.2.1.g_ s.2.2.2.1.Node.Num r9.1) fun r10 =>
         bif r9.2.1 != 0 then
          k0 (s.2.1, s.2.2.1, (⟨{ s.2.2.2.1.Node with At := 0, P := G_Prop.z, St := G_Settling.z }, s.2.2.2.1.g_, (⟨2, noS, false⟩ : G_Answer), true⟩ : G_mount_course), ())
         else
          bif r10.2.1 != 0 then
           k0 (s.2.1, s.2.2.1, (⟨{ s.2.2.2.1.Node with At := 0, P := G_Prop.z, St := G_Settling.z }, s.2.2.2.1.g_, (⟨2, noS, false⟩ : G_Answer), true⟩ : G_mount_course), ())
          else
           k0 (s.2.1, s.2.2.1, { s.2.2.2.1 with Node := { s.2.2.2.1.Node with Serial := IntKind.i64.wrap (s.2.2.2.1.Node.Serial + 1), At := 4, P := r10.1 } }, ())
      else
       k0 (s.2.1, s.2.2.1, { s.2.2.2.1 with Node := { s.2.2.2.1.Node with At := 0 } }, ())
    else
     bif s.1.Key != 0 then
      bindO (command_Bytes (⟨0, s.2.2.2.1.Node.Key, IntKind.i64.wrap (s.2.2.2.1.Node.Serial + 1), 0, 0, G_Span.z, 0⟩ : G_Cmd)) fun r11 =>
       bindO (paxos_Begin s.2.2.2.1.g_ s.2.2.2.1.Node.Num r11.1) fun r12 =>
        bif r11.2.1 != 0 then
         k0 (s.2.1, s.2.2.1, (⟨{ s.2.2.2.1.Node with At := 0, P := G_Prop.z, St := G_Settling.z }, s.2.2.2.1.g_, (⟨2, noS, false⟩ : G_Answer), true⟩ : G_mount_course), ())
        else
         bif r12.2.1 != 0 then
          k0 (s.2.1, s.2.2.1, (⟨{ s.2.2.2.1.Node with At := 0, P := G_Prop.z, St := G_Settling.z }, s.2.2.2.1.g_, (⟨2, noS, false⟩ : G_Answer), true⟩ : G_mount_course), ())
         else
          k0 (s.2.1, s.2.2.1, { s.2.2.2.1 with Node := { s.2.2.2.1.Node with Serial := IntKind.i64.wrap (s.2.2.2.1.Node.Serial + 1), At := 4, P := r12.1 } }, ())
     else
      k0 (s.2.1, s.2.2.1, { s.2.2.2.1 with Node := { s.2.2.2.1.Node with At := 0 } }, ())
def mount_Begin_P1_live : List (Nat × Md) := [(3, .o [.p, .p, .p, .p, .p, .p, .p, .p, .p, .p, .p, .p, .p, .p, .p, .p, .p, .p, .p, .p, .p, .p, .p, .p, .p, .p, .p, .p, .p, .p, .p, .p, .p, .p, .p, .p, .p, .p, .p, .p, .p, .p, .p, .p, .p, .p, .p, .p, .p, .p, .p, .p, .p, .p, .p, .p, .p, .p, .p, .p, .p, .p, .p, .p]), (4, .o [.p, .p, .p, .p, .p, .p, .p, .p, .p, .p, .p, .p, .p, .p, .p, .p, .p, .p, .p, .p, .p, .p, .p, .p, .p, .p, .p, .p, .p, .p, .p, .p, .p, .p, .p, .p, .p, .p, .p, .p, .p, .p, .p, .p, .p, .p, .p, .p, .p, .p, .p, .p, .p, .p, .p, .p, .p, .p, .p, .p, .p, .p, .p, .p]), (5, .o [.p, .p, .p]), (7, .o [.p, .p, .p, .p, .p, .p, .p, .p, .p, .p, .p, .p, .p, .p, .p, .p, .p, .p, .p, .p, .p, .p, .p, .p, .p, .p, .p, .p, .p, .p, .p, .p, .p, .p, .p, .p, .p, .p, .p, .p, .p, .p, .p, .p, .p, .p, .p, .p, .p, .p, .p, .p, .p, .p, .p, .p, .p, .p, .p, .p, .p, .p, .p, .p, .p, .p, .p, .p, .p, .p, .p, .p, .p, .p, .p, .p]), (16, .p)]
def mount_Begin_P1_outs : AEx → List (Nat × Md) := (fun e => match e with | .exit i => [] | .ret => [] | .normal => [(4, .o [.p, .p, .p, .p, .p, .p, .p, .p, .p, .p, .p, .p, .p, .p, .p, .p, .p, .p, .p, .p, .p, .p, .p, .p, .p, .p, .p, .p, .p, .p, .p, .p, .p, .p, .p, .p, .p, .p, .p, .p, .p, .p, .p, .p, .p, .p, .p, .p, .p, .p, .p, .p, .p, .p, .p, .p, .p, .p, .p, .p, .p, .p, .p, .p]), (5, .o [.p, .p, .p]), (7, .o [.p, .p, .p, .p, .p, .p, .p, .p, .p, .p, .p, .p, .p, .p, .p, .p, .p, .p, .p, .p, .p, .p, .p, .p, .p, .p, .p, .p, .p, .p, .p, .p, .p, .p, .p, .p, .p, .p, .p, .p, .p, .p, .p, .p, .p, .p, .p, .p, .p, .p, .p, .p, .p, .p, .p, .p, .p, .p, .p, .p, .p, .p, .p, .p, .p, .p, .p, .p, .p, .p, .p, .p, .p, .p, .p, .p])])
def mount_Begin_P1_cl : Cl (G_Node × G_Node × G_Answer × G_mount_course × Bool × Unit) := (clC (cxO (czA (caA G_Node.ks G_Node.cs G_Node.of G_Node.h)) 64) (clC (cxO (czA (caA G_Node.ks G_Node.cs G_Node.of G_Node.h)) 64) (clC (cxO (czA (caA G_Answer.ks G_Answer.cs G_Answer.of G_Answer.h)) 3) (clC (cxO (czA (caA G_mount_course.ks G_mount_course.cs G_mount_course.of G_mount_course.h)) 76) (clC (cxV (ceP cdB)) clN)))))
def mount_Begin_P1_c0 : Cl (G_Node × G_Answer × G_mount_course × Unit) := (clC (cxO (czA (caA G_Node.ks G_Node.cs G_Node.of G_Node.h)) 64) (clC (cxO (czA (caA G_Answer.ks G_Answer.cs G_Answer.of G_Answer.h)) 3) (clC (cxO (czA (caA G_mount_course.ks G_mount_course.cs G_mount_course.of G_mount_course.h)) 76) clN)))
theorem mount_Begin_P1_e {α : Type} (settle_Begin : G_Geo → (List (List V)) → Option (G_Settling × Int × Unit)) (settle_Over : G_Settling → Option Bool) (command_Bytes : G_Cmd → Option (ByteArray × Int × Unit)) (paxos_Begin : G_Geo → Int → ByteArray → Option (G_Prop × Int × Unit)) (s : G_Node × G_Node × G_Answer × G_mount_course × Bool × Unit) (Ke : AEx → List AV → Option α) : stepQ Tryz.prog (tabS [(126, spE false (caC cd_Geo (caC cdR caN)) (cdT (caC cd_Settling (caC (cdI .i64) caN))) (fun a => settle_Begin a.1 a.2.1)), (127, spE false (caC cd_Settling caN) cdB (fun a => settle_Over a.1)), (128, spE false (caC cd_Cmd caN) (cdT (caC cdS (caC (cdI .i64) caN))) (fun a => command_Bytes a.1)), (47, spE false (caC cd_Geo (caC (cdI .i64) (caC cdS caN))) (cdT (caC cd_Prop (caC (cdI .i64) caN))) (fun a => paxos_Begin a.1 a.2.1 a.2.2.1))]) 10 30 (subC (bodyOf Tryz.f13) [1, 1, 0, 0, 1]) .no mount_Begin_P1_live mount_Begin_P1_outs (mount_Begin_P1_cl.enc s) Ke = mount_Begin_P1 settle_Begin settle_Over command_Bytes paxos_Begin s (fun a => Ke .normal (mount_Begin_P1_c0.enc a)) := by kernel_rfl
theorem mount_Begin_P1_ok {α : Type} (L : Nat) : POk Tryz.prog Tryz.f13.ntmps (subC (bodyOf Tryz.f13) [1, 1, 0, 0, 1]) (⟨mount_Begin_P1_live, mount_Begin_P1_outs, run1 mount_Begin_P1_cl .normal mount_Begin_P1_c0 (mount_Begin_P1 (settle_Begin L) (settle_Over L) (command_Bytes L) (paxos_Begin L))⟩ : LSpec α) ∧ LDet (⟨mount_Begin_P1_live, mount_Begin_P1_outs, run1 mount_Begin_P1_cl .normal mount_Begin_P1_c0 (mount_Begin_P1 (settle_Begin L) (settle_Over L) (command_Bytes L) (paxos_Begin L))⟩ : LSpec α) :=
  pspec (cl := mount_Begin_P1_cl) mixed (sp := (tabS [(126, spE false (caC cd_Geo (caC cdR caN)) (cdT (caC cd_Settling (caC (cdI .i64) caN))) (fun a => (settle_Begin L) a.1 a.2.1)), (127, spE false (caC cd_Settling caN) cdB (fun a => (settle_Over L) a.1)), (128, spE false (caC cd_Cmd caN) (cdT (caC cdS (caC (cdI .i64) caN))) (fun a => (command_Bytes L) a.1)), (47, spE false (caC cd_Geo (caC (cdI .i64) (caC cdS caN))) (cdT (caC cd_Prop (caC (cdI .i64) caN))) (fun a => (paxos_Begin L) a.1 a.2.1 a.2.2.1))])) (tabS_cons (settle_Begin_c L).ent (tabS_cons (settle_Over_c L).ent (tabS_cons (command_Bytes_c L).ent (tabS_cons (paxos_Begin_c L).ent tabS_nil)))) (L := 10) (n := 30) (t := .no) (okL_of (by kernel_rfl)) (ltN _) (ldN _) (by kernel_rfl) (mount_Begin_P1_e (settle_Begin L) (settle_Over L) (command_Bytes L) (paxos_Begin L)) (fun _ _ => rfl)
abbrev mount_Begin_P2 {α : Type} (s : G_Node × G_Answer × G_mount_course × Unit) (k0 : (G_Node × G_Answer × Bool × Unit) → Option α) : Option α :=
 k0 (s.2.2.1.Node, s.2.2.1.a_, s.2.2.1.over_, ())
def mount_Begin_P2_live : List (Nat × Md) := [(4, .o [.p, .p, .p, .p, .p, .p, .p, .p, .p, .p, .p, .p, .p, .p, .p, .p, .p, .p, .p, .p, .p, .p, .p, .p, .p, .p, .p, .p, .p, .p, .p, .p, .p, .p, .p, .p, .p, .p, .p, .p, .p, .p, .p, .p, .p, .p, .p, .p, .p, .p, .p, .p, .p, .p, .p, .p, .p, .p, .p, .p, .p, .p, .p, .p]), (5, .o [.p, .p, .p]), (7, .o [.p, .p, .p, .p, .p, .p, .p, .p, .p, .p, .p, .p, .p, .p, .p, .p, .p, .p, .p, .p, .p, .p, .p, .p, .p, .p, .p, .p, .p, .p, .p, .p, .p, .p, .p, .p, .p, .p, .p, .p, .p, .p, .p, .p, .p, .p, .p, .p, .p, .p, .p, .p, .p, .p, .p, .p, .p, .p, .p, .p, .p, .p, .p, .p, .p, .p, .p, .p, .p, .p, .p, .p, .p, .p, .p, .p])]
def mount_Begin_P2_outs : AEx → List (Nat × Md) := (fun e => match e with | .exit i => [] | .ret => [] | .normal => [(4, .o [.p, .p, .p, .p, .p, .p, .p, .p, .p, .p, .p, .p, .p, .p, .p, .p, .p, .p, .p, .p, .p, .p, .p, .p, .p, .p, .p, .p, .p, .p, .p, .p, .p, .p, .p, .p, .p, .p, .p, .p, .p, .p, .p, .p, .p, .p, .p, .p, .p, .p, .p, .p, .p, .p, .p, .p, .p, .p, .p, .p, .p, .p, .p, .p]), (5, .o [.p, .p, .p]), (6, .p)])
def mount_Begin_P2_cl : Cl (G_Node × G_Answer × G_mount_course × Unit) := (clC (cxO (czA (caA G_Node.ks G_Node.cs G_Node.of G_Node.h)) 64) (clC (cxO (czA (caA G_Answer.ks G_Answer.cs G_Answer.of G_Answer.h)) 3) (clC (cxO (czA (caA G_mount_course.ks G_mount_course.cs G_mount_course.of G_mount_course.h)) 76) clN)))
def mount_Begin_P2_c0 : Cl (G_Node × G_Answer × Bool × Unit) := (clC (cxO (czA (caA G_Node.ks G_Node.cs G_Node.of G_Node.h)) 64) (clC (cxO (czA (caA G_Answer.ks G_Answer.cs G_Answer.of G_Answer.h)) 3) (clC (cxV (ceP cdB)) clN)))
theorem mount_Begin_P2_e {α : Type} (s : G_Node × G_Answer × G_mount_course × Unit) (Ke : AEx → List AV → Option α) : stepQ Tryz.prog (tabS []) 10 30 (subC (bodyOf Tryz.f13) [1, 1, 1, 0]) .no mount_Begin_P2_live mount_Begin_P2_outs (mount_Begin_P2_cl.enc s) Ke = mount_Begin_P2 s (fun a => Ke .normal (mount_Begin_P2_c0.enc a)) := by kernel_rfl
theorem mount_Begin_P2_ok {α : Type} (L : Nat) : POk Tryz.prog Tryz.f13.ntmps (subC (bodyOf Tryz.f13) [1, 1, 1, 0]) (⟨mount_Begin_P2_live, mount_Begin_P2_outs, run1 mount_Begin_P2_cl .normal mount_Begin_P2_c0 (mount_Begin_P2)⟩ : LSpec α) ∧ LDet (⟨mount_Begin_P2_live, mount_Begin_P2_outs, run1 mount_Begin_P2_cl .normal mount_Begin_P2_c0 (mount_Begin_P2)⟩ : LSpec α) :=
  pspec (cl := mount_Begin_P2_cl) mixed (sp := (tabS [])) tabS_nil (L := 10) (n := 30) (t := .no) (okL_of (by kernel_rfl)) (ltN _) (ldN _) (by kernel_rfl) (mount_Begin_P2_e) (fun _ _ => rfl)
abbrev mount_Begin_t (P0 : (G_Geo × G_Node × G_Node × G_Answer × G_mount_course × Unit) → ((G_Node × G_Node × G_Answer × G_mount_course × Bool × Unit) → Option (G_Node × G_Answer × Bool × Unit)) → Option (G_Node × G_Answer × Bool × Unit)) (P1 : (G_Node × G_Node × G_Answer × G_mount_course × Bool × Unit) → ((G_Node × G_Answer × G_mount_course × Unit) → Option (G_Node × G_Answer × Bool × Unit)) → Option (G_Node × G_Answer × Bool × Unit)) (P2 : (G_Node × G_Answer × G_mount_course × Unit) → ((G_Node × G_Answer × Bool × Unit) → Option (G_Node × G_Answer × Bool × Unit)) → Option (G_Node × G_Answer × Bool × Unit)) (x0 : G_Geo) (x1 : G_Node) : Option (G_Node × G_Answer × Bool × Unit) :=
 P0 (x0, x1, G_Node.z, G_Answer.z, (⟨x1, x0, G_Answer.z, false⟩ : G_mount_course), ()) (fun q1 =>
   P1 (q1.1, q1.2.1, q1.2.2.1, q1.2.2.2.1, q1.2.2.2.2.1, ()) (fun q2 =>
     P2 (q2.1, q2.2.1, q2.2.2.1, ()) (fun q3 =>
       some (q3.1, q3.2.1, q3.2.2.1, ()))))
theorem mount_Begin_e (P0 : (G_Geo × G_Node × G_Node × G_Answer × G_mount_course × Unit) → ((G_Node × G_Node × G_Answer × G_mount_course × Bool × Unit) → Option (G_Node × G_Answer × Bool × Unit)) → Option (G_Node × G_Answer × Bool × Unit)) (P1 : (G_Node × G_Node × G_Answer × G_mount_course × Bool × Unit) → ((G_Node × G_Answer × G_mount_course × Unit) → Option (G_Node × G_Answer × Bool × Unit)) → Option (G_Node × G_Answer × Bool × Unit)) (P2 : (G_Node × G_Answer × G_mount_course × Unit) → ((G_Node × G_Answer × Bool × Unit) → Option (G_Node × G_Answer × Bool × Unit)) → Option (G_Node × G_Answer × Bool × Unit)) (a : G_Geo × G_Node × Unit) : symL Tryz.prog (tabS []) 10 30 (.two .no (.two .no (.two (.one (.two (.pt ⟨mount_Begin_P0_live, mount_Begin_P0_outs, run1 mount_Begin_P0_cl .normal mount_Begin_P0_c0 P0⟩) (.pt ⟨mount_Begin_P1_live, mount_Begin_P1_outs, run1 mount_Begin_P1_cl .normal mount_Begin_P1_c0 P1⟩))) (.two (.pt ⟨mount_Begin_P2_live, mount_Begin_P2_outs, run1 mount_Begin_P2_cl .normal mount_Begin_P2_c0 P2⟩) .no)))) 13 ((caC cd_Geo (caC cd_Node caN)).enc a) (outK (cdT (caC cd_Node (caC cd_Answer (caC cdB caN))))) = mount_Begin_t P0 P1 P2 a.1 a.2.1 := by kernel_rfl
def mount_Begin (L : Nat) (x0 : G_Geo) (x1 : G_Node) : Option (G_Node × G_Answer × Bool × Unit) := mount_Begin_t (mount_Begin_P0 (geo_May L) (mount_Mine_1 L)) (mount_Begin_P1 (settle_Begin L) (settle_Over L) (command_Bytes L) (paxos_Begin L)) (mount_Begin_P2) x0 x1
theorem mount_Begin_c (L : Nat) : Ctr Tryz.prog 13 false (caC cd_Geo (caC cd_Node caN)) (cdT (caC cd_Node (caC cd_Answer (caC cdB caN)))) (fun a => mount_Begin L a.1 a.2.1) :=
  ctr_of mixed (sp := (tabS [])) tabS_nil (lt := (.two .no (.two .no (.two (.one (.two (.pt ⟨mount_Begin_P0_live, mount_Begin_P0_outs, run1 mount_Begin_P0_cl .normal mount_Begin_P0_c0 (mount_Begin_P0 (geo_May L) (mount_Mine_1 L))⟩) (.pt ⟨mount_Begin_P1_live, mount_Begin_P1_outs, run1 mount_Begin_P1_cl .normal mount_Begin_P1_c0 (mount_Begin_P1 (settle_Begin L) (settle_Over L) (command_Bytes L) (paxos_Begin L))⟩))) (.two (.pt ⟨mount_Begin_P2_live, mount_Begin_P2_outs, run1 mount_Begin_P2_cl .normal mount_Begin_P2_c0 (mount_Begin_P2)⟩) .no))))) (x := bodyOf Tryz.f13) Tryz.func13 (by kernel_rfl) (ltS (ltN _) (ltS (ltN _) (ltS (ltB (ltS (ptL (mount_Begin_P0_ok L).1) (ptL (mount_Begin_P1_ok L).1))) (ltS (ptL (mount_Begin_P2_ok L).1) (ltN _))))) (ldS (ldN _) (ldS (ldN _) (ldS (ldB (ldS (pdL (mount_Begin_P0_ok L).2) (pdL (mount_Begin_P1_ok L).2))) (ldS (pdL (mount_Begin_P2_ok L).2) (ldN _))))) fun a => mount_Begin_e (mount_Begin_P0 (geo_May L) (mount_Mine_1 L)) (mount_Begin_P1 (settle_Begin L) (settle_Over L) (command_Bytes L) (paxos_Begin L)) (mount_Begin_P2) a
abbrev ref11_SameHolds_F0 {α : Type} (s : (List (List V)) × (List (List V)) × Int × Unit) (kn : ((List (List V)) × (List (List V)) × Int × Unit) → Option α) (k0 : Unit → Option α) (k1 : (Bool × Unit) → Option α) : Option α :=
 bif decide (s.2.2.1 < (s.1.length : Int)) then
  bif decide (0 ≤ s.2.2.1) then
   bif decide (s.2.2.1 < (s.1.length : Int)) then
    bif rowIs [.i .i64, .i .i64, .i .i64, .i .i8] s.1 s.2.2.1.toNat then
     bif decide (0 ≤ s.2.2.1) then
      bif decide (s.2.2.1 < (s.2.1.length : Int)) then
       bif rowIs [.i .i64, .i .i64, .i .i64, .i .i8] s.2.1 s.2.2.1.toNat then
        bif !(((asI (cell s.1 s.2.2.1.toNat 0)) == (asI (cell s.2.1 s.2.2.1.toNat 0))) && (((asI (cell s.1 s.2.2.1.toNat 1)) == (asI (cell s.2.1 s.2.2.1.toNat 1))) && (((asI (cell s.1 s.2.2.1.toNat 2)) == (asI (cell s.2.1 s.2.2.1.toNat 2))) && (((asI (cell s.1 s.2.2.1.toNat 3)) == (asI (cell s.2.1 s.2.2.1.toNat 3))) && true)))) then
         k1 (false, ())
        else
         kn (s.1, s.2.1, IntKind.i64.wrap (s.2.2.1 + 1), ())
       else none
      else none
     else none
    else none
   else none
  else none
 else
  k0 (())
def ref11_SameHolds_F0_live : List (Nat × Md) := [(0, .p), (1, .p), (5, .p)]
def ref11_SameHolds_F0_outs : AEx → List (Nat × Md) := (fun e => match e with | .exit i => bif Nat.beq i 0 then [] else [] | .ret => [(4, .p)] | .normal => [])
def ref11_SameHolds_F0_cl : Cl ((List (List V)) × (List (List V)) × Int × Unit) := (clC (cxV (ceP cdR)) (clC (cxV (ceP cdR)) (clC (cxV (ceP (cdI .i64))) clN)))
def ref11_SameHolds_F0_c0 : Cl (Unit) := clN
def ref11_SameHolds_F0_c1 : Cl (Bool × Unit) := (clC (cxV (ceP cdB)) clN)
theorem ref11_SameHolds_F0_e {α : Type} (s : (List (List V)) × (List (List V)) × Int × Unit) (Kn : List AV → Option α) (Ke : AEx → List AV → Option α) : stepS Tryz.prog (tabS []) 10 30 (lcode Tryz.f104 [1, 1, 0, 1, 0]) .no ref11_SameHolds_F0_live ref11_SameHolds_F0_outs (ref11_SameHolds_F0_cl.enc s) Kn Ke = ref11_SameHolds_F0 s (fun a => Kn (ref11_SameHolds_F0_cl.enc a)) (fun a => Ke (.exit 0) (ref11_SameHolds_F0_c0.enc a)) (fun a => Ke .ret (ref11_SameHolds_F0_c1.enc a)) := by kernel_rfl
abbrev ref11_SameHolds_t (F0 : ((List (List V)) × (List (List V)) × Int × Unit) → (Unit → Option (Bool)) → ((Bool × Unit) → Option (Bool)) → Option (Bool)) (x0 : List (List V)) (x1 : List (List V)) : Option Bool :=
 bif (x0.length : Int) != (x1.length : Int) then
  some false
 else
  F0 (x0, x1, 0, ()) (fun q1 =>
    some true) (fun q2 =>
    some q2.1)
theorem ref11_SameHolds_e (F0 : ((List (List V)) × (List (List V)) × Int × Unit) → (Unit → Option (Bool)) → ((Bool × Unit) → Option (Bool)) → Option (Bool)) (a : (List (List V)) × (List (List V)) × Unit) : symL Tryz.prog (tabS []) 10 30 (.two .no (.two .no (.two (.two .no (.one (.lp ⟨ref11_SameHolds_F0_live, ref11_SameHolds_F0_outs, run2 ref11_SameHolds_F0_cl (.exit 0) ref11_SameHolds_F0_c0 .ret ref11_SameHolds_F0_c1 F0⟩))) .no))) 104 ((caC cdR (caC cdR caN)).enc a) (outK cdB) = ref11_SameHolds_t F0 a.1 a.2.1 := by kernel_rfl
def ref11_SameHolds (L : Nat) (x0 : List (List V)) (x1 : List (List V)) : Option Bool := ref11_SameHolds_t (loop2 (ref11_SameHolds_F0) L) x0 x1
theorem ref11_SameHolds_F0_ok {α : Type} (L : Nat) : LOk Tryz.prog Tryz.f104.ntmps (lcode Tryz.f104 [1, 1, 0, 1, 0]) (⟨ref11_SameHolds_F0_live, ref11_SameHolds_F0_outs, run2 ref11_SameHolds_F0_cl (.exit 0) ref11_SameHolds_F0_c0 .ret ref11_SameHolds_F0_c1 (loop2 (ref11_SameHolds_F0) L)⟩ : LSpec α) ∧ LDet (⟨ref11_SameHolds_F0_live, ref11_SameHolds_F0_outs, run2 ref11_SameHolds_F0_cl (.exit 0) ref11_SameHolds_F0_c0 .ret ref11_SameHolds_F0_c1 (loop2 (ref11_SameHolds_F0) L)⟩ : LSpec α) :=
  lspec2 (σ := (List (List V)) × (List (List V)) × Int × Unit) (cl := ref11_SameHolds_F0_cl) (ca := ref11_SameHolds_F0_c0) (cb := ref11_SameHolds_F0_c1) (sp := (tabS [])) mixed tabS_nil (L := 10) (n := 30) (t := .no) (okL_of (by kernel_rfl)) (ltN _) (ldN _) (by kernel_rfl) (ref11_SameHolds_F0_e) L
theorem ref11_SameHolds_c (L : Nat) : Ctr Tryz.prog 104 false (caC cdR (caC cdR caN)) cdB (fun a => ref11_SameHolds L a.1 a.2.1) :=
  ctr_of mixed (sp := (tabS [])) tabS_nil (lt := (.two .no (.two .no (.two (.two .no (.one (.lp ⟨ref11_SameHolds_F0_live, ref11_SameHolds_F0_outs, run2 ref11_SameHolds_F0_cl (.exit 0) ref11_SameHolds_F0_c0 .ret ref11_SameHolds_F0_c1 (loop2 (ref11_SameHolds_F0) L)⟩))) .no)))) (x := bodyOf Tryz.f104) Tryz.func104 (by kernel_rfl) (ltS (ltN _) (ltS (ltN _) (ltS (ltS (ltN _) (ltB (ltL (ref11_SameHolds_F0_ok L).1))) (ltN _)))) (ldS (ldN _) (ldS (ldN _) (ldS (ldS (ldN _) (ldB (ldL (ref11_SameHolds_F0_ok L).2))) (ldN _)))) fun a => ref11_SameHolds_e (loop2 (ref11_SameHolds_F0) L) a
abbrev ref11_Same_F0 {α : Type} (s : G_Table × G_Table × Int × Unit) (kn : (G_Table × G_Table × Int × Unit) → Option α) (k0 : Unit → Option α) (k1 : (Bool × Unit) → Option α) : Option α :=
 bif decide (s.2.2.1 < (s.1.Slots.length : Int)) then
  bif decide (0 ≤ s.2.2.1) then
   bif decide (s.2.2.1 < (s.1.Slots.length : Int)) then
    bif rowIs [.i .i64, .i .i64] s.1.Slots s.2.2.1.toNat then
     bif decide (0 ≤ s.2.2.1) then
      bif decide (s.2.2.1 < (s.2.1.Slots.length : Int)) then
       bif rowIs [.i .i64, .i .i64] s.2.1.Slots s.2.2.1.toNat then
        bif !(((asI (cell s.1.Slots s.2.2.1.toNat 0)) == (asI (cell s.2.1.Slots s.2.2.1.toNat 0))) && (((asI (cell s.1.Slots s.2.2.1.toNat 1)) == (asI (cell s.2.1.Slots s.2.2.1.toNat 1))) && true)) then
         k1 (false, ())
        else
         kn (s.1, s.2.1, IntKind.i64.wrap (s.2.2.1 + 1), ())
       else none
      else none
     else none
    else none
   else none
  else none
 else
  k0 (())
def ref11_Same_F0_live : List (Nat × Md) := [(2, .o [.p, .p, .p]), (3, .o [.p, .p, .p]), (5, .p)]
def ref11_Same_F0_outs : AEx → List (Nat × Md) := (fun e => match e with | .exit i => bif Nat.beq i 0 then [] else [] | .ret => [(4, .p)] | .normal => [])
def ref11_Same_F0_cl : Cl (G_Table × G_Table × Int × Unit) := (clC (cxO (czA (caA G_Table.ks G_Table.cs G_Table.of G_Table.h)) 3) (clC (cxO (czA (caA G_Table.ks G_Table.cs G_Table.of G_Table.h)) 3) (clC (cxV (ceP (cdI .i64))) clN)))
def ref11_Same_F0_c0 : Cl (Unit) := clN
def ref11_Same_F0_c1 : Cl (Bool × Unit) := (clC (cxV (ceP cdB)) clN)
theorem ref11_Same_F0_e {α : Type} (s : G_Table × G_Table × Int × Unit) (Kn : List AV → Option α) (Ke : AEx → List AV → Option α) : stepS Tryz.prog (tabS []) 10 30 (lcode Tryz.f29 [1, 1, 0, 1, 0]) .no ref11_Same_F0_live ref11_Same_F0_outs (ref11_Same_F0_cl.enc s) Kn Ke = ref11_Same_F0 s (fun a => Kn (ref11_Same_F0_cl.enc a)) (fun a => Ke (.exit 0) (ref11_Same_F0_c0.enc a)) (fun a => Ke .ret (ref11_Same_F0_c1.enc a)) := by kernel_rfl
abbrev ref11_Same_t (ref11_SameHolds : (List (List V)) → (List (List V)) → Option Bool) (F0 : (G_Table × G_Table × Int × Unit) → (Unit → Option (Bool)) → ((Bool × Unit) → Option (Bool)) → Option (Bool)) (x0 : G_Table) (x1 : G_Table) : Option Bool :=
 bif (x0.Slots.length : Int) != (x1.Slots.length : Int) then
  some false
 else
  bindO (ref11_SameHolds x0.Holds x1.Holds) fun r1 =>
   bif !r1 then
    some false
   else
    bindO (ref11_SameHolds x0.Queue x1.Queue) fun r2 =>
     bif !r2 then
      some false
     else
      F0 (x0, x1, 0, ()) (fun q3 =>
        some true) (fun q4 =>
        some q4.1)
theorem ref11_Same_e (ref11_SameHolds : (List (List V)) → (List (List V)) → Option Bool) (F0 : (G_Table × G_Table × Int × Unit) → (Unit → Option (Bool)) → ((Bool × Unit) → Option (Bool)) → Option (Bool)) (a : G_Table × G_Table × Unit) : symL Tryz.prog (tabS [(104, spE false (caC cdR (caC cdR caN)) cdB (fun a => ref11_SameHolds a.1 a.2.1))]) 10 30 (.two .no (.two .no (.two (.two .no (.one (.lp ⟨ref11_Same_F0_live, ref11_Same_F0_outs, run2 ref11_Same_F0_cl (.exit 0) ref11_Same_F0_c0 .ret ref11_Same_F0_c1 F0⟩))) .no))) 29 ((caC cd_Table (caC cd_Table caN)).enc a) (outK cdB) = ref11_Same_t ref11_SameHolds F0 a.1 a.2.1 := by kernel_rfl
def ref11_Same (L : Nat) (x0 : G_Table) (x1 : G_Table) : Option Bool := ref11_Same_t (ref11_SameHolds L) (loop2 (ref11_Same_F0) L) x0 x1
theorem ref11_Same_F0_ok {α : Type} (L : Nat) : LOk Tryz.prog Tryz.f29.ntmps (lcode Tryz.f29 [1, 1, 0, 1, 0]) (⟨ref11_Same_F0_live, ref11_Same_F0_outs, run2 ref11_Same_F0_cl (.exit 0) ref11_Same_F0_c0 .ret ref11_Same_F0_c1 (loop2 (ref11_Same_F0) L)⟩ : LSpec α) ∧ LDet (⟨ref11_Same_F0_live, ref11_Same_F0_outs, run2 ref11_Same_F0_cl (.exit 0) ref11_Same_F0_c0 .ret ref11_Same_F0_c1 (loop2 (ref11_Same_F0) L)⟩ : LSpec α) :=
  lspec2 (σ := G_Table × G_Table × Int × Unit) (cl := ref11_Same_F0_cl) (ca := ref11_Same_F0_c0) (cb := ref11_Same_F0_c1) (sp := (tabS [])) mixed tabS_nil (L := 10) (n := 30) (t := .no) (okL_of (by kernel_rfl)) (ltN _) (ldN _) (by kernel_rfl) (ref11_Same_F0_e) L
theorem ref11_Same_c (L : Nat) : Ctr Tryz.prog 29 false (caC cd_Table (caC cd_Table caN)) cdB (fun a => ref11_Same L a.1 a.2.1) :=
  ctr_of mixed (sp := (tabS [(104, spE false (caC cdR (caC cdR caN)) cdB (fun a => (ref11_SameHolds L) a.1 a.2.1))])) (tabS_cons (ref11_SameHolds_c L).ent tabS_nil) (lt := (.two .no (.two .no (.two (.two .no (.one (.lp ⟨ref11_Same_F0_live, ref11_Same_F0_outs, run2 ref11_Same_F0_cl (.exit 0) ref11_Same_F0_c0 .ret ref11_Same_F0_c1 (loop2 (ref11_Same_F0) L)⟩))) .no)))) (x := bodyOf Tryz.f29) Tryz.func29 (by kernel_rfl) (ltS (ltN _) (ltS (ltN _) (ltS (ltS (ltN _) (ltB (ltL (ref11_Same_F0_ok L).1))) (ltN _)))) (ldS (ldN _) (ldS (ldN _) (ldS (ldS (ldN _) (ldB (ldL (ref11_Same_F0_ok L).2))) (ldN _)))) fun a => ref11_Same_e (ref11_SameHolds L) (loop2 (ref11_Same_F0) L) a
abbrev ref18_Same_F0 {α : Type} (s : (List (List V)) × (List (List V)) × Int × Unit) (kn : ((List (List V)) × (List (List V)) × Int × Unit) → Option α) (k0 : Unit → Option α) (k1 : (Bool × Unit) → Option α) : Option α :=
 bif decide (s.2.2.1 < (s.1.length : Int)) then
  bif decide (0 ≤ s.2.2.1) then
   bif decide (s.2.2.1 < (s.1.length : Int)) then
    bif rowIs [.i .i64, .s] s.1 s.2.2.1.toNat then
     bif decide (0 ≤ s.2.2.1) then
      bif decide (s.2.2.1 < (s.2.1.length : Int)) then
       bif rowIs [.i .i64, .s] s.2.1 s.2.2.1.toNat then
        bif !(((asI (cell s.1 s.2.2.1.toNat 0)) == (asI (cell s.2.1 s.2.2.1.toNat 0))) && (((asS (cell s.1 s.2.2.1.toNat 1)).toList == (asS (cell s.2.1 s.2.2.1.toNat 1)).toList) && true)) then
         k1 (false, ())
        else
         kn (s.1, s.2.1, IntKind.i64.wrap (s.2.2.1 + 1), ())
       else none
      else none
     else none
    else none
   else none
  else none
 else
  k0 (())
def ref18_Same_F0_live : List (Nat × Md) := [(0, .p), (1, .p), (5, .p)]
def ref18_Same_F0_outs : AEx → List (Nat × Md) := (fun e => match e with | .exit i => bif Nat.beq i 0 then [] else [] | .ret => [(4, .p)] | .normal => [])
def ref18_Same_F0_cl : Cl ((List (List V)) × (List (List V)) × Int × Unit) := (clC (cxV (ceP cdR)) (clC (cxV (ceP cdR)) (clC (cxV (ceP (cdI .i64))) clN)))
def ref18_Same_F0_c0 : Cl (Unit) := clN
def ref18_Same_F0_c1 : Cl (Bool × Unit) := (clC (cxV (ceP cdB)) clN)
theorem ref18_Same_F0_e {α : Type} (s : (List (List V)) × (List (List V)) × Int × Unit) (Kn : List AV → Option α) (Ke : AEx → List AV → Option α) : stepS Tryz.prog (tabS []) 10 30 (lcode Tryz.f68 [1, 1, 0, 1, 0]) .no ref18_Same_F0_live ref18_Same_F0_outs (ref18_Same_F0_cl.enc s) Kn Ke = ref18_Same_F0 s (fun a => Kn (ref18_Same_F0_cl.enc a)) (fun a => Ke (.exit 0) (ref18_Same_F0_c0.enc a)) (fun a => Ke .ret (ref18_Same_F0_c1.enc a)) := by kernel_rfl
abbrev ref18_Same_t (F0 : ((List (List V)) × (List (List V)) × Int × Unit) → (Unit → Option (Bool)) → ((Bool × Unit) → Option (Bool)) → Option (Bool)) (x0 : List (List V)) (x1 : List (List V)) : Option Bool :=
 bif (x0.length : Int) != (x1.length : Int) then
  some false
 else
  F0 (x0, x1, 0, ()) (fun q1 =>
    some true) (fun q2 =>
    some q2.1)
theorem ref18_Same_e (F0 : ((List (List V)) × (List (List V)) × Int × Unit) → (Unit → Option (Bool)) → ((Bool × Unit) → Option (Bool)) → Option (Bool)) (a : (List (List V)) × (List (List V)) × Unit) : symL Tryz.prog (tabS []) 10 30 (.two .no (.two .no (.two (.two .no (.one (.lp ⟨ref18_Same_F0_live, ref18_Same_F0_outs, run2 ref18_Same_F0_cl (.exit 0) ref18_Same_F0_c0 .ret ref18_Same_F0_c1 F0⟩))) .no))) 68 ((caC cdR (caC cdR caN)).enc a) (outK cdB) = ref18_Same_t F0 a.1 a.2.1 := by kernel_rfl
def ref18_Same (L : Nat) (x0 : List (List V)) (x1 : List (List V)) : Option Bool := ref18_Same_t (loop2 (ref18_Same_F0) L) x0 x1
theorem ref18_Same_F0_ok {α : Type} (L : Nat) : LOk Tryz.prog Tryz.f68.ntmps (lcode Tryz.f68 [1, 1, 0, 1, 0]) (⟨ref18_Same_F0_live, ref18_Same_F0_outs, run2 ref18_Same_F0_cl (.exit 0) ref18_Same_F0_c0 .ret ref18_Same_F0_c1 (loop2 (ref18_Same_F0) L)⟩ : LSpec α) ∧ LDet (⟨ref18_Same_F0_live, ref18_Same_F0_outs, run2 ref18_Same_F0_cl (.exit 0) ref18_Same_F0_c0 .ret ref18_Same_F0_c1 (loop2 (ref18_Same_F0) L)⟩ : LSpec α) :=
  lspec2 (σ := (List (List V)) × (List (List V)) × Int × Unit) (cl := ref18_Same_F0_cl) (ca := ref18_Same_F0_c0) (cb := ref18_Same_F0_c1) (sp := (tabS [])) mixed tabS_nil (L := 10) (n := 30) (t := .no) (okL_of (by kernel_rfl)) (ltN _) (ldN _) (by kernel_rfl) (ref18_Same_F0_e) L
theorem ref18_Same_c (L : Nat) : Ctr Tryz.prog 68 false (caC cdR (caC cdR caN)) cdB (fun a => ref18_Same L a.1 a.2.1) :=
  ctr_of mixed (sp := (tabS [])) tabS_nil (lt := (.two .no (.two .no (.two (.two .no (.one (.lp ⟨ref18_Same_F0_live, ref18_Same_F0_outs, run2 ref18_Same_F0_cl (.exit 0) ref18_Same_F0_c0 .ret ref18_Same_F0_c1 (loop2 (ref18_Same_F0) L)⟩))) .no)))) (x := bodyOf Tryz.f68) Tryz.func68 (by kernel_rfl) (ltS (ltN _) (ltS (ltN _) (ltS (ltS (ltN _) (ltB (ltL (ref18_Same_F0_ok L).1))) (ltN _)))) (ldS (ldN _) (ldS (ldN _) (ldS (ldS (ldN _) (ldB (ldL (ref18_Same_F0_ok L).2))) (ldN _)))) fun a => ref18_Same_e (loop2 (ref18_Same_F0) L) a
abbrev ref24_watches_F0 {α : Type} (s : (List (List V)) × (List (List V)) × Int × Unit) (kn : ((List (List V)) × (List (List V)) × Int × Unit) → Option α) (k0 : Unit → Option α) (k1 : (Bool × Unit) → Option α) : Option α :=
 bif decide (s.2.2.1 < (s.1.length : Int)) then
  bif decide (0 ≤ s.2.2.1) then
   bif decide (s.2.2.1 < (s.1.length : Int)) then
    bif rowIs [.i .i64, .i .i64, .i .i64, .b] s.1 s.2.2.1.toNat then
     bif decide (0 ≤ s.2.2.1) then
      bif decide (s.2.2.1 < (s.2.1.length : Int)) then
       bif rowIs [.i .i64, .i .i64, .i .i64, .b] s.2.1 s.2.2.1.toNat then
        bif !(((asI (cell s.1 s.2.2.1.toNat 0)) == (asI (cell s.2.1 s.2.2.1.toNat 0))) && (((asI (cell s.1 s.2.2.1.toNat 1)) == (asI (cell s.2.1 s.2.2.1.toNat 1))) && (((asI (cell s.1 s.2.2.1.toNat 2)) == (asI (cell s.2.1 s.2.2.1.toNat 2))) && (((asB (cell s.1 s.2.2.1.toNat 3)) == (asB (cell s.2.1 s.2.2.1.toNat 3))) && true)))) then
         k1 (false, ())
        else
         kn (s.1, s.2.1, IntKind.i64.wrap (s.2.2.1 + 1), ())
       else none
      else none
     else none
    else none
   else none
  else none
 else
  k0 (())
def ref24_watches_F0_live : List (Nat × Md) := [(0, .p), (1, .p), (5, .p)]
def ref24_watches_F0_outs : AEx → List (Nat × Md) := (fun e => match e with | .exit i => bif Nat.beq i 0 then [] else [] | .ret => [(4, .p)] | .normal => [])
def ref24_watches_F0_cl : Cl ((List (List V)) × (List (List V)) × Int × Unit) := (clC (cxV (ceP cdR)) (clC (cxV (ceP cdR)) (clC (cxV (ceP (cdI .i64))) clN)))
def ref24_watches_F0_c0 : Cl (Unit) := clN
def ref24_watches_F0_c1 : Cl (Bool × Unit) := (clC (cxV (ceP cdB)) clN)
theorem ref24_watches_F0_e {α : Type} (s : (List (List V)) × (List (List V)) × Int × Unit) (Kn : List AV → Option α) (Ke : AEx → List AV → Option α) : stepS Tryz.prog (tabS []) 10 30 (lcode Tryz.f69 [1, 1, 0, 1, 0]) .no ref24_watches_F0_live ref24_watches_F0_outs (ref24_watches_F0_cl.enc s) Kn Ke = ref24_watches_F0 s (fun a => Kn (ref24_watches_F0_cl.enc a)) (fun a => Ke (.exit 0) (ref24_watches_F0_c0.enc a)) (fun a => Ke .ret (ref24_watches_F0_c1.enc a)) := by kernel_rfl
abbrev ref24_watches_t (F0 : ((List (List V)) × (List (List V)) × Int × Unit) → (Unit → Option (Bool)) → ((Bool × Unit) → Option (Bool)) → Option (Bool)) (x0 : List (List V)) (x1 : List (List V)) : Option Bool :=
 bif (x0.length : Int) != (x1.length : Int) then
  some false
 else
  F0 (x0, x1, 0, ()) (fun q1 =>
    some true) (fun q2 =>
    some q2.1)
theorem ref24_watches_e (F0 : ((List (List V)) × (List (List V)) × Int × Unit) → (Unit → Option (Bool)) → ((Bool × Unit) → Option (Bool)) → Option (Bool)) (a : (List (List V)) × (List (List V)) × Unit) : symL Tryz.prog (tabS []) 10 30 (.two .no (.two .no (.two (.two .no (.one (.lp ⟨ref24_watches_F0_live, ref24_watches_F0_outs, run2 ref24_watches_F0_cl (.exit 0) ref24_watches_F0_c0 .ret ref24_watches_F0_c1 F0⟩))) .no))) 69 ((caC cdR (caC cdR caN)).enc a) (outK cdB) = ref24_watches_t F0 a.1 a.2.1 := by kernel_rfl
def ref24_watches (L : Nat) (x0 : List (List V)) (x1 : List (List V)) : Option Bool := ref24_watches_t (loop2 (ref24_watches_F0) L) x0 x1
theorem ref24_watches_F0_ok {α : Type} (L : Nat) : LOk Tryz.prog Tryz.f69.ntmps (lcode Tryz.f69 [1, 1, 0, 1, 0]) (⟨ref24_watches_F0_live, ref24_watches_F0_outs, run2 ref24_watches_F0_cl (.exit 0) ref24_watches_F0_c0 .ret ref24_watches_F0_c1 (loop2 (ref24_watches_F0) L)⟩ : LSpec α) ∧ LDet (⟨ref24_watches_F0_live, ref24_watches_F0_outs, run2 ref24_watches_F0_cl (.exit 0) ref24_watches_F0_c0 .ret ref24_watches_F0_c1 (loop2 (ref24_watches_F0) L)⟩ : LSpec α) :=
  lspec2 (σ := (List (List V)) × (List (List V)) × Int × Unit) (cl := ref24_watches_F0_cl) (ca := ref24_watches_F0_c0) (cb := ref24_watches_F0_c1) (sp := (tabS [])) mixed tabS_nil (L := 10) (n := 30) (t := .no) (okL_of (by kernel_rfl)) (ltN _) (ldN _) (by kernel_rfl) (ref24_watches_F0_e) L
theorem ref24_watches_c (L : Nat) : Ctr Tryz.prog 69 false (caC cdR (caC cdR caN)) cdB (fun a => ref24_watches L a.1 a.2.1) :=
  ctr_of mixed (sp := (tabS [])) tabS_nil (lt := (.two .no (.two .no (.two (.two .no (.one (.lp ⟨ref24_watches_F0_live, ref24_watches_F0_outs, run2 ref24_watches_F0_cl (.exit 0) ref24_watches_F0_c0 .ret ref24_watches_F0_c1 (loop2 (ref24_watches_F0) L)⟩))) .no)))) (x := bodyOf Tryz.f69) Tryz.func69 (by kernel_rfl) (ltS (ltN _) (ltS (ltN _) (ltS (ltS (ltN _) (ltB (ltL (ref24_watches_F0_ok L).1))) (ltN _)))) (ldS (ldN _) (ldS (ldN _) (ldS (ldS (ldN _) (ldB (ldL (ref24_watches_F0_ok L).2))) (ldN _)))) fun a => ref24_watches_e (loop2 (ref24_watches_F0) L) a
abbrev ref24_spans_F0 {α : Type} (s : (List (List V)) × (List (List V)) × Int × Unit) (kn : ((List (List V)) × (List (List V)) × Int × Unit) → Option α) (k0 : Unit → Option α) (k1 : (Bool × Unit) → Option α) : Option α :=
 bif decide (s.2.2.1 < (s.1.length : Int)) then
  bif decide (0 ≤ s.2.2.1) then
   bif decide (s.2.2.1 < (s.1.length : Int)) then
    bif rowIs [.i .i64, .i .i64] s.1 s.2.2.1.toNat then
     bif decide (0 ≤ s.2.2.1) then
      bif decide (s.2.2.1 < (s.2.1.length : Int)) then
       bif rowIs [.i .i64, .i .i64] s.2.1 s.2.2.1.toNat then
        bif !(((asI (cell s.1 s.2.2.1.toNat 0)) == (asI (cell s.2.1 s.2.2.1.toNat 0))) && (((asI (cell s.1 s.2.2.1.toNat 1)) == (asI (cell s.2.1 s.2.2.1.toNat 1))) && true)) then
         k1 (false, ())
        else
         kn (s.1, s.2.1, IntKind.i64.wrap (s.2.2.1 + 1), ())
       else none
      else none
     else none
    else none
   else none
  else none
 else
  k0 (())
def ref24_spans_F0_live : List (Nat × Md) := [(0, .p), (1, .p), (5, .p)]
def ref24_spans_F0_outs : AEx → List (Nat × Md) := (fun e => match e with | .exit i => bif Nat.beq i 0 then [] else [] | .ret => [(4, .p)] | .normal => [])
def ref24_spans_F0_cl : Cl ((List (List V)) × (List (List V)) × Int × Unit) := (clC (cxV (ceP cdR)) (clC (cxV (ceP cdR)) (clC (cxV (ceP (cdI .i64))) clN)))
def ref24_spans_F0_c0 : Cl (Unit) := clN
def ref24_spans_F0_c1 : Cl (Bool × Unit) := (clC (cxV (ceP cdB)) clN)
theorem ref24_spans_F0_e {α : Type} (s : (List (List V)) × (List (List V)) × Int × Unit) (Kn : List AV → Option α) (Ke : AEx → List AV → Option α) : stepS Tryz.prog (tabS []) 10 30 (lcode Tryz.f70 [1, 1, 0, 1, 0]) .no ref24_spans_F0_live ref24_spans_F0_outs (ref24_spans_F0_cl.enc s) Kn Ke = ref24_spans_F0 s (fun a => Kn (ref24_spans_F0_cl.enc a)) (fun a => Ke (.exit 0) (ref24_spans_F0_c0.enc a)) (fun a => Ke .ret (ref24_spans_F0_c1.enc a)) := by kernel_rfl
abbrev ref24_spans_t (F0 : ((List (List V)) × (List (List V)) × Int × Unit) → (Unit → Option (Bool)) → ((Bool × Unit) → Option (Bool)) → Option (Bool)) (x0 : List (List V)) (x1 : List (List V)) : Option Bool :=
 bif (x0.length : Int) != (x1.length : Int) then
  some false
 else
  F0 (x0, x1, 0, ()) (fun q1 =>
    some true) (fun q2 =>
    some q2.1)
theorem ref24_spans_e (F0 : ((List (List V)) × (List (List V)) × Int × Unit) → (Unit → Option (Bool)) → ((Bool × Unit) → Option (Bool)) → Option (Bool)) (a : (List (List V)) × (List (List V)) × Unit) : symL Tryz.prog (tabS []) 10 30 (.two .no (.two .no (.two (.two .no (.one (.lp ⟨ref24_spans_F0_live, ref24_spans_F0_outs, run2 ref24_spans_F0_cl (.exit 0) ref24_spans_F0_c0 .ret ref24_spans_F0_c1 F0⟩))) .no))) 70 ((caC cdR (caC cdR caN)).enc a) (outK cdB) = ref24_spans_t F0 a.1 a.2.1 := by kernel_rfl
def ref24_spans (L : Nat) (x0 : List (List V)) (x1 : List (List V)) : Option Bool := ref24_spans_t (loop2 (ref24_spans_F0) L) x0 x1
theorem ref24_spans_F0_ok {α : Type} (L : Nat) : LOk Tryz.prog Tryz.f70.ntmps (lcode Tryz.f70 [1, 1, 0, 1, 0]) (⟨ref24_spans_F0_live, ref24_spans_F0_outs, run2 ref24_spans_F0_cl (.exit 0) ref24_spans_F0_c0 .ret ref24_spans_F0_c1 (loop2 (ref24_spans_F0) L)⟩ : LSpec α) ∧ LDet (⟨ref24_spans_F0_live, ref24_spans_F0_outs, run2 ref24_spans_F0_cl (.exit 0) ref24_spans_F0_c0 .ret ref24_spans_F0_c1 (loop2 (ref24_spans_F0) L)⟩ : LSpec α) :=
  lspec2 (σ := (List (List V)) × (List (List V)) × Int × Unit) (cl := ref24_spans_F0_cl) (ca := ref24_spans_F0_c0) (cb := ref24_spans_F0_c1) (sp := (tabS [])) mixed tabS_nil (L := 10) (n := 30) (t := .no) (okL_of (by kernel_rfl)) (ltN _) (ldN _) (by kernel_rfl) (ref24_spans_F0_e) L
theorem ref24_spans_c (L : Nat) : Ctr Tryz.prog 70 false (caC cdR (caC cdR caN)) cdB (fun a => ref24_spans L a.1 a.2.1) :=
  ctr_of mixed (sp := (tabS [])) tabS_nil (lt := (.two .no (.two .no (.two (.two .no (.one (.lp ⟨ref24_spans_F0_live, ref24_spans_F0_outs, run2 ref24_spans_F0_cl (.exit 0) ref24_spans_F0_c0 .ret ref24_spans_F0_c1 (loop2 (ref24_spans_F0) L)⟩))) .no)))) (x := bodyOf Tryz.f70) Tryz.func70 (by kernel_rfl) (ltS (ltN _) (ltS (ltN _) (ltS (ltS (ltN _) (ltB (ltL (ref24_spans_F0_ok L).1))) (ltN _)))) (ldS (ldN _) (ldS (ldN _) (ldS (ldS (ldN _) (ldB (ldL (ref24_spans_F0_ok L).2))) (ldN _)))) fun a => ref24_spans_e (loop2 (ref24_spans_F0) L) a
abbrev ref16_Same_F0 {α : Type} (s : (List (List V)) × (List (List V)) × Int × Unit) (kn : ((List (List V)) × (List (List V)) × Int × Unit) → Option α) (k0 : Unit → Option α) (k1 : (Bool × Unit) → Option α) : Option α :=
 bif decide (s.2.2.1 < (s.1.length : Int)) then
  bif decide (0 ≤ s.2.2.1) then
   bif decide (s.2.2.1 < (s.1.length : Int)) then
    bif rowIs [.i .i64, .i .i64, .i .i64, .i .i64, .s, .i .i64] s.1 s.2.2.1.toNat then
     bif decide (0 ≤ s.2.2.1) then
      bif decide (s.2.2.1 < (s.2.1.length : Int)) then
       bif rowIs [.i .i64, .i .i64, .i .i64, .i .i64, .s, .i .i64] s.2.1 s.2.2.1.toNat then
        bif !(((asI (cell s.1 s.2.2.1.toNat 0)) == (asI (cell s.2.1 s.2.2.1.toNat 0))) && (((asI (cell s.1 s.2.2.1.toNat 1)) == (asI (cell s.2.1 s.2.2.1.toNat 1))) && (((asI (cell s.1 s.2.2.1.toNat 2)) == (asI (cell s.2.1 s.2.2.1.toNat 2))) && (((asI (cell s.1 s.2.2.1.toNat 3)) == (asI (cell s.2.1 s.2.2.1.toNat 3))) && (((asS (cell s.1 s.2.2.1.toNat 4)).toList == (asS (cell s.2.1 s.2.2.1.toNat 4)).toList) && (((asI (cell s.1 s.2.2.1.toNat 5)) == (asI (cell s.2.1 s.2.2.1.toNat 5))) && true)))))) then
         k1 (false, ())
        else
         kn (s.1, s.2.1, IntKind.i64.wrap (s.2.2.1 + 1), ())
       else none
      else none
     else none
    else none
   else none
  else none
 else
  k0 (())
def ref16_Same_F0_live : List (Nat × Md) := [(0, .p), (1, .p), (5, .p)]
def ref16_Same_F0_outs : AEx → List (Nat × Md) := (fun e => match e with | .exit i => bif Nat.beq i 0 then [] else [] | .ret => [(4, .p)] | .normal => [])
def ref16_Same_F0_cl : Cl ((List (List V)) × (List (List V)) × Int × Unit) := (clC (cxV (ceP cdR)) (clC (cxV (ceP cdR)) (clC (cxV (ceP (cdI .i64))) clN)))
def ref16_Same_F0_c0 : Cl (Unit) := clN
def ref16_Same_F0_c1 : Cl (Bool × Unit) := (clC (cxV (ceP cdB)) clN)
theorem ref16_Same_F0_e {α : Type} (s : (List (List V)) × (List (List V)) × Int × Unit) (Kn : List AV → Option α) (Ke : AEx → List AV → Option α) : stepS Tryz.prog (tabS []) 10 30 (lcode Tryz.f131 [1, 1, 0, 1, 0]) .no ref16_Same_F0_live ref16_Same_F0_outs (ref16_Same_F0_cl.enc s) Kn Ke = ref16_Same_F0 s (fun a => Kn (ref16_Same_F0_cl.enc a)) (fun a => Ke (.exit 0) (ref16_Same_F0_c0.enc a)) (fun a => Ke .ret (ref16_Same_F0_c1.enc a)) := by kernel_rfl
abbrev ref16_Same_t (F0 : ((List (List V)) × (List (List V)) × Int × Unit) → (Unit → Option (Bool)) → ((Bool × Unit) → Option (Bool)) → Option (Bool)) (x0 : List (List V)) (x1 : List (List V)) : Option Bool :=
 bif (x0.length : Int) != (x1.length : Int) then
  some false
 else
  F0 (x0, x1, 0, ()) (fun q1 =>
    some true) (fun q2 =>
    some q2.1)
theorem ref16_Same_e (F0 : ((List (List V)) × (List (List V)) × Int × Unit) → (Unit → Option (Bool)) → ((Bool × Unit) → Option (Bool)) → Option (Bool)) (a : (List (List V)) × (List (List V)) × Unit) : symL Tryz.prog (tabS []) 10 30 (.two .no (.two .no (.two (.two .no (.one (.lp ⟨ref16_Same_F0_live, ref16_Same_F0_outs, run2 ref16_Same_F0_cl (.exit 0) ref16_Same_F0_c0 .ret ref16_Same_F0_c1 F0⟩))) .no))) 131 ((caC cdR (caC cdR caN)).enc a) (outK cdB) = ref16_Same_t F0 a.1 a.2.1 := by kernel_rfl
def ref16_Same (L : Nat) (x0 : List (List V)) (x1 : List (List V)) : Option Bool := ref16_Same_t (loop2 (ref16_Same_F0) L) x0 x1
theorem ref16_Same_F0_ok {α : Type} (L : Nat) : LOk Tryz.prog Tryz.f131.ntmps (lcode Tryz.f131 [1, 1, 0, 1, 0]) (⟨ref16_Same_F0_live, ref16_Same_F0_outs, run2 ref16_Same_F0_cl (.exit 0) ref16_Same_F0_c0 .ret ref16_Same_F0_c1 (loop2 (ref16_Same_F0) L)⟩ : LSpec α) ∧ LDet (⟨ref16_Same_F0_live, ref16_Same_F0_outs, run2 ref16_Same_F0_cl (.exit 0) ref16_Same_F0_c0 .ret ref16_Same_F0_c1 (loop2 (ref16_Same_F0) L)⟩ : LSpec α) :=
  lspec2 (σ := (List (List V)) × (List (List V)) × Int × Unit) (cl := ref16_Same_F0_cl) (ca := ref16_Same_F0_c0) (cb := ref16_Same_F0_c1) (sp := (tabS [])) mixed tabS_nil (L := 10) (n := 30) (t := .no) (okL_of (by kernel_rfl)) (ltN _) (ldN _) (by kernel_rfl) (ref16_Same_F0_e) L
theorem ref16_Same_c (L : Nat) : Ctr Tryz.prog 131 false (caC cdR (caC cdR caN)) cdB (fun a => ref16_Same L a.1 a.2.1) :=
  ctr_of mixed (sp := (tabS [])) tabS_nil (lt := (.two .no (.two .no (.two (.two .no (.one (.lp ⟨ref16_Same_F0_live, ref16_Same_F0_outs, run2 ref16_Same_F0_cl (.exit 0) ref16_Same_F0_c0 .ret ref16_Same_F0_c1 (loop2 (ref16_Same_F0) L)⟩))) .no)))) (x := bodyOf Tryz.f131) Tryz.func131 (by kernel_rfl) (ltS (ltN _) (ltS (ltN _) (ltS (ltS (ltN _) (ltB (ltL (ref16_Same_F0_ok L).1))) (ltN _)))) (ldS (ldN _) (ldS (ldN _) (ldS (ldS (ldN _) (ldB (ldL (ref16_Same_F0_ok L).2))) (ldN _)))) fun a => ref16_Same_e (loop2 (ref16_Same_F0) L) a
end Go.Proofs.YtakljpcmbpaeaaaGreat
