/- Typed functions. (printed by wip/sx) -/
import Derived.Test.YtakljpcmbpaeaaaGreatMountErrorsM51
import Derived.Test.YtakljpcmbpaeaaaGreatMountErrorsM50
import Derived.Test.YtakljpcmbpaeaaaGreatMountErrorsM43
namespace Go.Proofs.YtakljpcmbpaeaaaGreat
open Go.RowKit
set_option maxRecDepth 100000
set_option maxHeartbeats 16000000
set_option linter.unusedSimpArgs false
set_option linter.unusedVariables false

abbrev ref18_SameCells_F0 {α : Type} (s : (List (List V)) × (List (List V)) × Int × Unit) (kn : ((List (List V)) × (List (List V)) × Int × Unit) → Option α) (k0 : Unit → Option α) (k1 : (Bool × Unit) → Option α) : Option α :=
 bif decide (s.2.2.1 < (s.1.length : Int)) then
  bif decide (0 ≤ s.2.2.1) then
   bif decide (s.2.2.1 < (s.1.length : Int)) then
    bif rowIs [.i .i64, .s] s.1 s.2.2.1.toNat then
     bif decide (0 ≤ s.2.2.1) then
      bif decide (s.2.2.1 < (s.2.1.length : Int)) then
       bif rowIs [.i .i64, .s] s.2.1 s.2.2.1.toNat then
        bif !(((asI (cell s.1 s.2.2.1.toNat 0)) == (asI (cell s.2.1 s.2.2.1.toNat 0))) && (((asS (cell s.1 s.2.2.1.toNat 1)).toList == (asS (cell s.2.1 s.2.2.1.toNat 1)).toList) && true)) then
         k1 (false, ())
        else
         kn (s.1, s.2.1, IntKind.i64.wrap (s.2.2.1 + 1), ())
       else none
      else none
     else none
    else none
   else none
  else none
 else
  k0 (())
def ref18_SameCells_F0_live : List (Nat × Md) := [(0, .p), (1, .p), (5, .p)]
def ref18_SameCells_F0_outs : AEx → List (Nat × Md) := (fun e => match e with | .exit i => bif Nat.beq i 0 then [] else [] | .ret => [(4, .p)] | .normal => [])
def ref18_SameCells_F0_cl : Cl ((List (List V)) × (List (List V)) × Int × Unit) := (clC (cxV (ceP cdR)) (clC (cxV (ceP cdR)) (clC (cxV (ceP (cdI .i64))) clN)))
def ref18_SameCells_F0_c0 : Cl (Unit) := clN
def ref18_SameCells_F0_c1 : Cl (Bool × Unit) := (clC (cxV (ceP cdB)) clN)
theorem ref18_SameCells_F0_e {α : Type} (s : (List (List V)) × (List (List V)) × Int × Unit) (Kn : List AV → Option α) (Ke : AEx → List AV → Option α) : stepS Tryz.prog (tabS []) 10 30 (lcode Tryz.f134 [1, 1, 0, 1, 0]) .no ref18_SameCells_F0_live ref18_SameCells_F0_outs (ref18_SameCells_F0_cl.enc s) Kn Ke = ref18_SameCells_F0 s (fun a => Kn (ref18_SameCells_F0_cl.enc a)) (fun a => Ke (.exit 0) (ref18_SameCells_F0_c0.enc a)) (fun a => Ke .ret (ref18_SameCells_F0_c1.enc a)) := by kernel_rfl
abbrev ref18_SameCells_t (F0 : ((List (List V)) × (List (List V)) × Int × Unit) → (Unit → Option (Bool)) → ((Bool × Unit) → Option (Bool)) → Option (Bool)) (x0 : List (List V)) (x1 : List (List V)) : Option Bool :=
 bif (x0.length : Int) != (x1.length : Int) then
  some false
 else
  F0 (x0, x1, 0, ()) (fun q1 =>
    some true) (fun q2 =>
    some q2.1)
theorem ref18_SameCells_e (F0 : ((List (List V)) × (List (List V)) × Int × Unit) → (Unit → Option (Bool)) → ((Bool × Unit) → Option (Bool)) → Option (Bool)) (a : (List (List V)) × (List (List V)) × Unit) : symL Tryz.prog (tabS []) 10 30 (.two .no (.two .no (.two (.two .no (.one (.lp ⟨ref18_SameCells_F0_live, ref18_SameCells_F0_outs, run2 ref18_SameCells_F0_cl (.exit 0) ref18_SameCells_F0_c0 .ret ref18_SameCells_F0_c1 F0⟩))) .no))) 134 ((caC cdR (caC cdR caN)).enc a) (outK cdB) = ref18_SameCells_t F0 a.1 a.2.1 := by kernel_rfl
def ref18_SameCells (L : Nat) (x0 : List (List V)) (x1 : List (List V)) : Option Bool := ref18_SameCells_t (loop2 (ref18_SameCells_F0) L) x0 x1
theorem ref18_SameCells_F0_ok {α : Type} (L : Nat) : LOk Tryz.prog Tryz.f134.ntmps (lcode Tryz.f134 [1, 1, 0, 1, 0]) (⟨ref18_SameCells_F0_live, ref18_SameCells_F0_outs, run2 ref18_SameCells_F0_cl (.exit 0) ref18_SameCells_F0_c0 .ret ref18_SameCells_F0_c1 (loop2 (ref18_SameCells_F0) L)⟩ : LSpec α) ∧ LDet (⟨ref18_SameCells_F0_live, ref18_SameCells_F0_outs, run2 ref18_SameCells_F0_cl (.exit 0) ref18_SameCells_F0_c0 .ret ref18_SameCells_F0_c1 (loop2 (ref18_SameCells_F0) L)⟩ : LSpec α) :=
  lspec2 (σ := (List (List V)) × (List (List V)) × Int × Unit) (cl := ref18_SameCells_F0_cl) (ca := ref18_SameCells_F0_c0) (cb := ref18_SameCells_F0_c1) (sp := (tabS [])) mixed tabS_nil (L := 10) (n := 30) (t := .no) (okL_of (by kernel_rfl)) (ltN _) (ldN _) (by kernel_rfl) (ref18_SameCells_F0_e) L
theorem ref18_SameCells_c (L : Nat) : Ctr Tryz.prog 134 false (caC cdR (caC cdR caN)) cdB (fun a => ref18_SameCells L a.1 a.2.1) :=
  ctr_of mixed (sp := (tabS [])) tabS_nil (lt := (.two .no (.two .no (.two (.two .no (.one (.lp ⟨ref18_SameCells_F0_live, ref18_SameCells_F0_outs, run2 ref18_SameCells_F0_cl (.exit 0) ref18_SameCells_F0_c0 .ret ref18_SameCells_F0_c1 (loop2 (ref18_SameCells_F0) L)⟩))) .no)))) (x := bodyOf Tryz.f134) Tryz.func134 (by kernel_rfl) (ltS (ltN _) (ltS (ltN _) (ltS (ltS (ltN _) (ltB (ltL (ref18_SameCells_F0_ok L).1))) (ltN _)))) (ldS (ldN _) (ldS (ldN _) (ldS (ldS (ldN _) (ldB (ldL (ref18_SameCells_F0_ok L).2))) (ldN _)))) fun a => ref18_SameCells_e (loop2 (ref18_SameCells_F0) L) a
abbrev ref20_Same_t (ref18_SameCells : (List (List V)) → (List (List V)) → Option Bool) (x0 : G_Settling) (x1 : G_Settling) : Option Bool :=
 bindO (ref18_SameCells x0.Cells x1.Cells) fun r1 =>
  bif r1 then
   bif x0.I == x1.I then
    bif x0.Left == x1.Left then
     some (x0.At == x1.At)
    else
     some false
   else
    some false
  else
   some false
theorem ref20_Same_e (ref18_SameCells : (List (List V)) → (List (List V)) → Option Bool) (a : G_Settling × G_Settling × Unit) : symL Tryz.prog (tabS [(134, spE false (caC cdR (caC cdR caN)) cdB (fun a => ref18_SameCells a.1 a.2.1))]) 10 30 .no 132 ((caC cd_Settling (caC cd_Settling caN)).enc a) (outK cdB) = ref20_Same_t ref18_SameCells a.1 a.2.1 := by kernel_rfl
def ref20_Same (L : Nat) (x0 : G_Settling) (x1 : G_Settling) : Option Bool := ref20_Same_t (ref18_SameCells L) x0 x1
theorem ref20_Same_c (L : Nat) : Ctr Tryz.prog 132 false (caC cd_Settling (caC cd_Settling caN)) cdB (fun a => ref20_Same L a.1 a.2.1) :=
  ctr_of mixed (sp := (tabS [(134, spE false (caC cdR (caC cdR caN)) cdB (fun a => (ref18_SameCells L) a.1 a.2.1))])) (tabS_cons (ref18_SameCells_c L).ent tabS_nil) (lt := .no) (x := bodyOf Tryz.f132) Tryz.func132 (by kernel_rfl) (ltN _) (ldN _) fun a => ref20_Same_e (ref18_SameCells L) a
abbrev ref24_texts_F0 {α : Type} (s : (List (List V)) × (List (List V)) × Int × Unit) (kn : ((List (List V)) × (List (List V)) × Int × Unit) → Option α) (k0 : Unit → Option α) (k1 : (Bool × Unit) → Option α) : Option α :=
 bif decide (s.2.2.1 < (s.1.length : Int)) then
  bif decide (0 ≤ s.2.2.1) then
   bif decide (s.2.2.1 < (s.1.length : Int)) then
    bif rowIs [.s] s.1 s.2.2.1.toNat then
     bif decide (0 ≤ s.2.2.1) then
      bif decide (s.2.2.1 < (s.2.1.length : Int)) then
       bif rowIs [.s] s.2.1 s.2.2.1.toNat then
        bif !((asS (cell s.1 s.2.2.1.toNat 0)).toList == (asS (cell s.2.1 s.2.2.1.toNat 0)).toList) then
         k1 (false, ())
        else
         kn (s.1, s.2.1, IntKind.i64.wrap (s.2.2.1 + 1), ())
       else none
      else none
     else none
    else none
   else none
  else none
 else
  k0 (())
def ref24_texts_F0_live : List (Nat × Md) := [(0, .p), (1, .p), (5, .p)]
def ref24_texts_F0_outs : AEx → List (Nat × Md) := (fun e => match e with | .exit i => bif Nat.beq i 0 then [] else [] | .ret => [(4, .p)] | .normal => [])
def ref24_texts_F0_cl : Cl ((List (List V)) × (List (List V)) × Int × Unit) := (clC (cxV (ceP cdR)) (clC (cxV (ceP cdR)) (clC (cxV (ceP (cdI .i64))) clN)))
def ref24_texts_F0_c0 : Cl (Unit) := clN
def ref24_texts_F0_c1 : Cl (Bool × Unit) := (clC (cxV (ceP cdB)) clN)
theorem ref24_texts_F0_e {α : Type} (s : (List (List V)) × (List (List V)) × Int × Unit) (Kn : List AV → Option α) (Ke : AEx → List AV → Option α) : stepS Tryz.prog (tabS []) 10 30 (lcode Tryz.f133 [1, 1, 0, 1, 0]) .no ref24_texts_F0_live ref24_texts_F0_outs (ref24_texts_F0_cl.enc s) Kn Ke = ref24_texts_F0 s (fun a => Kn (ref24_texts_F0_cl.enc a)) (fun a => Ke (.exit 0) (ref24_texts_F0_c0.enc a)) (fun a => Ke .ret (ref24_texts_F0_c1.enc a)) := by kernel_rfl
abbrev ref24_texts_t (F0 : ((List (List V)) × (List (List V)) × Int × Unit) → (Unit → Option (Bool)) → ((Bool × Unit) → Option (Bool)) → Option (Bool)) (x0 : List (List V)) (x1 : List (List V)) : Option Bool :=
 bif (x0.length : Int) != (x1.length : Int) then
  some false
 else
  F0 (x0, x1, 0, ()) (fun q1 =>
    some true) (fun q2 =>
    some q2.1)
theorem ref24_texts_e (F0 : ((List (List V)) × (List (List V)) × Int × Unit) → (Unit → Option (Bool)) → ((Bool × Unit) → Option (Bool)) → Option (Bool)) (a : (List (List V)) × (List (List V)) × Unit) : symL Tryz.prog (tabS []) 10 30 (.two .no (.two .no (.two (.two .no (.one (.lp ⟨ref24_texts_F0_live, ref24_texts_F0_outs, run2 ref24_texts_F0_cl (.exit 0) ref24_texts_F0_c0 .ret ref24_texts_F0_c1 F0⟩))) .no))) 133 ((caC cdR (caC cdR caN)).enc a) (outK cdB) = ref24_texts_t F0 a.1 a.2.1 := by kernel_rfl
def ref24_texts (L : Nat) (x0 : List (List V)) (x1 : List (List V)) : Option Bool := ref24_texts_t (loop2 (ref24_texts_F0) L) x0 x1
theorem ref24_texts_F0_ok {α : Type} (L : Nat) : LOk Tryz.prog Tryz.f133.ntmps (lcode Tryz.f133 [1, 1, 0, 1, 0]) (⟨ref24_texts_F0_live, ref24_texts_F0_outs, run2 ref24_texts_F0_cl (.exit 0) ref24_texts_F0_c0 .ret ref24_texts_F0_c1 (loop2 (ref24_texts_F0) L)⟩ : LSpec α) ∧ LDet (⟨ref24_texts_F0_live, ref24_texts_F0_outs, run2 ref24_texts_F0_cl (.exit 0) ref24_texts_F0_c0 .ret ref24_texts_F0_c1 (loop2 (ref24_texts_F0) L)⟩ : LSpec α) :=
  lspec2 (σ := (List (List V)) × (List (List V)) × Int × Unit) (cl := ref24_texts_F0_cl) (ca := ref24_texts_F0_c0) (cb := ref24_texts_F0_c1) (sp := (tabS [])) mixed tabS_nil (L := 10) (n := 30) (t := .no) (okL_of (by kernel_rfl)) (ltN _) (ldN _) (by kernel_rfl) (ref24_texts_F0_e) L
theorem ref24_texts_c (L : Nat) : Ctr Tryz.prog 133 false (caC cdR (caC cdR caN)) cdB (fun a => ref24_texts L a.1 a.2.1) :=
  ctr_of mixed (sp := (tabS [])) tabS_nil (lt := (.two .no (.two .no (.two (.two .no (.one (.lp ⟨ref24_texts_F0_live, ref24_texts_F0_outs, run2 ref24_texts_F0_cl (.exit 0) ref24_texts_F0_c0 .ret ref24_texts_F0_c1 (loop2 (ref24_texts_F0) L)⟩))) .no)))) (x := bodyOf Tryz.f133) Tryz.func133 (by kernel_rfl) (ltS (ltN _) (ltS (ltN _) (ltS (ltS (ltN _) (ltB (ltL (ref24_texts_F0_ok L).1))) (ltN _)))) (ldS (ldN _) (ldS (ldN _) (ldS (ldS (ldN _) (ldB (ldL (ref24_texts_F0_ok L).2))) (ldN _)))) fun a => ref24_texts_e (loop2 (ref24_texts_F0) L) a
abbrev ref24_ways_t (ref16_Same : (List (List V)) → (List (List V)) → Option Bool) (ref20_Same : G_Settling → G_Settling → Option Bool) (ref24_texts : (List (List V)) → (List (List V)) → Option Bool) (ref18_SameCells : (List (List V)) → (List (List V)) → Option Bool) (x0 : G_Node) (x1 : G_Node) : Option Bool :=
 bif (x0.P.Node == x1.P.Node) && ((x0.P.Cmd.toList == x1.P.Cmd.toList) && ((x0.P.At == x1.P.At) && ((x0.P.I == x1.P.I) && ((x0.P.Own.Inst == x1.P.Own.Inst) && ((x0.P.Own.Mbal == x1.P.Own.Mbal) && ((x0.P.Own.Bal == x1.P.Own.Bal) && ((x0.P.Own.Val.toList == x1.P.Own.Val.toList) && ((x0.P.T.Inst == x1.P.T.Inst) && ((x0.P.T.Mbal == x1.P.T.Mbal) && ((x0.P.T.Best == x1.P.T.Best) && ((x0.P.T.Val.toList == x1.P.T.Val.toList) && ((x0.P.T.Seen == x1.P.T.Seen) && ((x0.P.T.Ahead == x1.P.T.Ahead) && ((x0.P.T.Lost == x1.P.T.Lost) && true)))))))))))))) then
  bif x0.Pu.I == x1.Pu.I then
   bindO (ref16_Same x0.Pu.L x1.Pu.L) fun r1 =>
    bif r1 then
     bindO (ref20_Same x0.St x1.St) fun r2 =>
      bif r2 then
       bif x0.F.Block == x1.F.Block then
        bif x0.F.K == x1.F.K then
         bindO (ref24_texts x0.F.Parts x1.F.Parts) fun r3 =>
          bif r3 then
           bif x0.R.Slot == x1.R.Slot then
            bif x0.R.Key == x1.R.Key then
             bif x0.R.At == x1.R.At then
              bif x0.R.Tail == x1.R.Tail then
               bif x0.R.I == x1.R.I then
                bif x0.R.End == x1.R.End then
                 bindO (ref16_Same x0.R.L x1.R.L) fun r4 =>
                  bif r4 then
                   bindO (ref18_SameCells x0.R.Cells x1.R.Cells) fun r5 =>
                    some r5
                  else
                   some false
                else
                 some false
               else
                some false
              else
               some false
             else
              some false
            else
             some false
           else
            some false
          else
           some false
        else
         some false
       else
        some false
      else
       some false
    else
     some false
  else
   some false
 else
  some false
theorem ref24_ways_e (ref16_Same : (List (List V)) → (List (List V)) → Option Bool) (ref20_Same : G_Settling → G_Settling → Option Bool) (ref24_texts : (List (List V)) → (List (List V)) → Option Bool) (ref18_SameCells : (List (List V)) → (List (List V)) → Option Bool) (a : G_Node × G_Node × Unit) : symL Tryz.prog (tabS [(131, spE false (caC cdR (caC cdR caN)) cdB (fun a => ref16_Same a.1 a.2.1)), (132, spE false (caC cd_Settling (caC cd_Settling caN)) cdB (fun a => ref20_Same a.1 a.2.1)), (133, spE false (caC cdR (caC cdR caN)) cdB (fun a => ref24_texts a.1 a.2.1)), (134, spE false (caC cdR (caC cdR caN)) cdB (fun a => ref18_SameCells a.1 a.2.1))]) 10 30 .no 71 ((caC cd_Node (caC cd_Node caN)).enc a) (outK cdB) = ref24_ways_t ref16_Same ref20_Same ref24_texts ref18_SameCells a.1 a.2.1 := by kernel_rfl
def ref24_ways (L : Nat) (x0 : G_Node) (x1 : G_Node) : Option Bool := ref24_ways_t (ref16_Same L) (ref20_Same L) (ref24_texts L) (ref18_SameCells L) x0 x1
theorem ref24_ways_c (L : Nat) : Ctr Tryz.prog 71 false (caC cd_Node (caC cd_Node caN)) cdB (fun a => ref24_ways L a.1 a.2.1) :=
  ctr_of mixed (sp := (tabS [(131, spE false (caC cdR (caC cdR caN)) cdB (fun a => (ref16_Same L) a.1 a.2.1)), (132, spE false (caC cd_Settling (caC cd_Settling caN)) cdB (fun a => (ref20_Same L) a.1 a.2.1)), (133, spE false (caC cdR (caC cdR caN)) cdB (fun a => (ref24_texts L) a.1 a.2.1)), (134, spE false (caC cdR (caC cdR caN)) cdB (fun a => (ref18_SameCells L) a.1 a.2.1))])) (tabS_cons (ref16_Same_c L).ent (tabS_cons (ref20_Same_c L).ent (tabS_cons (ref24_texts_c L).ent (tabS_cons (ref18_SameCells_c L).ent tabS_nil)))) (lt := .no) (x := bodyOf Tryz.f71) Tryz.func71 (by kernel_rfl) (ltN _) (ldN _) fun a => ref24_ways_e (ref16_Same L) (ref20_Same L) (ref24_texts L) (ref18_SameCells L) a
abbrev ref24_Same_t (ref11_Same : G_Table → G_Table → Option Bool) (ref18_Same : (List (List V)) → (List (List V)) → Option Bool) (ref24_watches : (List (List V)) → (List (List V)) → Option Bool) (ref24_spans : (List (List V)) → (List (List V)) → Option Bool) (ref24_ways : G_Node → G_Node → Option Bool) (x0 : G_Node) (x1 : G_Node) : Option Bool :=
 bif x0.Num != x1.Num then
  some false
 else
  bif x0.Clock != x1.Clock then
   some false
  else
   bif !(x0.Up == x1.Up) then
    some false
   else
    bif x0.Over != x1.Over then
     some false
    else
     bif x0.Key != x1.Key then
      some false
     else
      bif x0.Asked != x1.Asked then
       some false
      else
       bif x0.Count != x1.Count then
        some false
       else
        bif !(x0.Mounted == x1.Mounted) then
         some false
        else
         bif x0.Slot != x1.Slot then
          some false
         else
          bif x0.Head != x1.Head then
           some false
          else
           bif x0.Tail != x1.Tail then
            some false
           else
            bif x0.Done != x1.Done then
             some false
            else
             bif x0.Serial != x1.Serial then
              some false
             else
              bif !(x0.GivingAll == x1.GivingAll) then
               some false
              else
               bif !(x0.Busy == x1.Busy) then
                some false
               else
                bif !((x0.Op.Kind == x1.Op.Kind) && ((x0.Op.Span.Lo == x1.Op.Span.Lo) && ((x0.Op.Span.Hi == x1.Op.Span.Hi) && ((x0.Op.Mode == x1.Op.Mode) && ((x0.Op.Block == x1.Op.Block) && ((x0.Op.Text.toList == x1.Op.Text.toList) && ((x0.Op.Node == x1.Op.Node) && ((x0.Op.Key == x1.Op.Key) && true)))))))) then
                 some false
                else
                 bif x0.At != x1.At then
                  some false
                 else
                  bif !(x0.Txn.Open == x1.Txn.Open) then
                   some false
                  else
                   bindO (ref11_Same x0.Table x1.Table) fun r1 =>
                    bif r1 then
                     bindO (ref18_Same x0.Txn.Writes x1.Txn.Writes) fun r2 =>
                      bif r2 then
                       bindO (ref18_Same x0.Pend x1.Pend) fun r3 =>
                        bif r3 then
                         bindO (ref24_watches x0.Watch x1.Watch) fun r4 =>
                          bif r4 then
                           bindO (ref24_spans x0.Giving x1.Giving) fun r5 =>
                            bif r5 then
                             bindO (ref24_ways x0 x1) fun r6 =>
                              some r6
                            else
                             some false
                          else
                           some false
                        else
                         some false
                      else
                       some false
                    else
                     some false
theorem ref24_Same_e (ref11_Same : G_Table → G_Table → Option Bool) (ref18_Same : (List (List V)) → (List (List V)) → Option Bool) (ref24_watches : (List (List V)) → (List (List V)) → Option Bool) (ref24_spans : (List (List V)) → (List (List V)) → Option Bool) (ref24_ways : G_Node → G_Node → Option Bool) (a : G_Node × G_Node × Unit) : symL Tryz.prog (tabS [(29, spE false (caC cd_Table (caC cd_Table caN)) cdB (fun a => ref11_Same a.1 a.2.1)), (68, spE false (caC cdR (caC cdR caN)) cdB (fun a => ref18_Same a.1 a.2.1)), (69, spE false (caC cdR (caC cdR caN)) cdB (fun a => ref24_watches a.1 a.2.1)), (70, spE false (caC cdR (caC cdR caN)) cdB (fun a => ref24_spans a.1 a.2.1)), (71, spE false (caC cd_Node (caC cd_Node caN)) cdB (fun a => ref24_ways a.1 a.2.1))]) 10 30 .no 15 ((caC cd_Node (caC cd_Node caN)).enc a) (outK cdB) = ref24_Same_t ref11_Same ref18_Same ref24_watches ref24_spans ref24_ways a.1 a.2.1 := by kernel_rfl
def ref24_Same (L : Nat) (x0 : G_Node) (x1 : G_Node) : Option Bool := ref24_Same_t (ref11_Same L) (ref18_Same L) (ref24_watches L) (ref24_spans L) (ref24_ways L) x0 x1
theorem ref24_Same_c (L : Nat) : Ctr Tryz.prog 15 false (caC cd_Node (caC cd_Node caN)) cdB (fun a => ref24_Same L a.1 a.2.1) :=
  ctr_of mixed (sp := (tabS [(29, spE false (caC cd_Table (caC cd_Table caN)) cdB (fun a => (ref11_Same L) a.1 a.2.1)), (68, spE false (caC cdR (caC cdR caN)) cdB (fun a => (ref18_Same L) a.1 a.2.1)), (69, spE false (caC cdR (caC cdR caN)) cdB (fun a => (ref24_watches L) a.1 a.2.1)), (70, spE false (caC cdR (caC cdR caN)) cdB (fun a => (ref24_spans L) a.1 a.2.1)), (71, spE false (caC cd_Node (caC cd_Node caN)) cdB (fun a => (ref24_ways L) a.1 a.2.1))])) (tabS_cons (ref11_Same_c L).ent (tabS_cons (ref18_Same_c L).ent (tabS_cons (ref24_watches_c L).ent (tabS_cons (ref24_spans_c L).ent (tabS_cons (ref24_ways_c L).ent tabS_nil))))) (lt := .no) (x := bodyOf Tryz.f15) Tryz.func15 (by kernel_rfl) (ltN _) (ldN _) fun a => ref24_Same_e (ref11_Same L) (ref18_Same L) (ref24_watches L) (ref24_spans L) (ref24_ways L) a
abbrev ref24_far_F0 {α : Type} (s : (List (List V)) × Int × Unit) (kn : ((List (List V)) × Int × Unit) → Option α) (k0 : Unit → Option α) (k1 : (Bool × Unit) → Option α) : Option α :=
 bif decide (s.2.1 < (s.1.length : Int)) then
  bif decide (0 ≤ s.2.1) then
   bif decide (s.2.1 < (s.1.length : Int)) then
    bif rowIs [.i .i64] s.1 s.2.1.toNat then
     bif decide (1099511627776 < asI (cell s.1 s.2.1.toNat 0)) then
      k1 (true, ())
     else
      bif decide (0 ≤ s.2.1) then
       bif decide (s.2.1 < (s.1.length : Int)) then
        bif rowIs [.i .i64] s.1 s.2.1.toNat then
         bif decide (asI (cell s.1 s.2.1.toNat 0) < (-1099511627776)) then
          k1 (true, ())
         else
          kn (s.1, IntKind.i64.wrap (s.2.1 + 1), ())
        else none
       else none
      else none
    else none
   else none
  else none
 else
  k0 (())
def ref24_far_F0_live : List (Nat × Md) := [(0, .p), (3, .p)]
def ref24_far_F0_outs : AEx → List (Nat × Md) := (fun e => match e with | .exit i => bif Nat.beq i 0 then [] else [] | .ret => [(2, .p)] | .normal => [])
def ref24_far_F0_cl : Cl ((List (List V)) × Int × Unit) := (clC (cxV (ceP cdR)) (clC (cxV (ceP (cdI .i64))) clN))
def ref24_far_F0_c0 : Cl (Unit) := clN
def ref24_far_F0_c1 : Cl (Bool × Unit) := (clC (cxV (ceP cdB)) clN)
theorem ref24_far_F0_e {α : Type} (s : (List (List V)) × Int × Unit) (Kn : List AV → Option α) (Ke : AEx → List AV → Option α) : stepS Tryz.prog (tabS []) 10 30 (lcode Tryz.f106 [1, 0, 1, 0]) .no ref24_far_F0_live ref24_far_F0_outs (ref24_far_F0_cl.enc s) Kn Ke = ref24_far_F0 s (fun a => Kn (ref24_far_F0_cl.enc a)) (fun a => Ke (.exit 0) (ref24_far_F0_c0.enc a)) (fun a => Ke .ret (ref24_far_F0_c1.enc a)) := by kernel_rfl
abbrev ref24_far_t (F0 : ((List (List V)) × Int × Unit) → (Unit → Option (Bool)) → ((Bool × Unit) → Option (Bool)) → Option (Bool)) (x0 : List (List V)) : Option Bool :=
 F0 (x0, 0, ()) (fun q1 =>
   some false) (fun q2 =>
   some q2.1)
theorem ref24_far_e (F0 : ((List (List V)) × Int × Unit) → (Unit → Option (Bool)) → ((Bool × Unit) → Option (Bool)) → Option (Bool)) (a : (List (List V)) × Unit) : symL Tryz.prog (tabS []) 10 30 (.two .no (.two (.two .no (.one (.lp ⟨ref24_far_F0_live, ref24_far_F0_outs, run2 ref24_far_F0_cl (.exit 0) ref24_far_F0_c0 .ret ref24_far_F0_c1 F0⟩))) .no)) 106 ((caC cdR caN).enc a) (outK cdB) = ref24_far_t F0 a.1 := by kernel_rfl
def ref24_far (L : Nat) (x0 : List (List V)) : Option Bool := ref24_far_t (loop2 (ref24_far_F0) L) x0
theorem ref24_far_F0_ok {α : Type} (L : Nat) : LOk Tryz.prog Tryz.f106.ntmps (lcode Tryz.f106 [1, 0, 1, 0]) (⟨ref24_far_F0_live, ref24_far_F0_outs, run2 ref24_far_F0_cl (.exit 0) ref24_far_F0_c0 .ret ref24_far_F0_c1 (loop2 (ref24_far_F0) L)⟩ : LSpec α) ∧ LDet (⟨ref24_far_F0_live, ref24_far_F0_outs, run2 ref24_far_F0_cl (.exit 0) ref24_far_F0_c0 .ret ref24_far_F0_c1 (loop2 (ref24_far_F0) L)⟩ : LSpec α) :=
  lspec2 (σ := (List (List V)) × Int × Unit) (cl := ref24_far_F0_cl) (ca := ref24_far_F0_c0) (cb := ref24_far_F0_c1) (sp := (tabS [])) mixed tabS_nil (L := 10) (n := 30) (t := .no) (okL_of (by kernel_rfl)) (ltN _) (ldN _) (by kernel_rfl) (ref24_far_F0_e) L
theorem ref24_far_c (L : Nat) : Ctr Tryz.prog 106 false (caC cdR caN) cdB (fun a => ref24_far L a.1) :=
  ctr_of mixed (sp := (tabS [])) tabS_nil (lt := (.two .no (.two (.two .no (.one (.lp ⟨ref24_far_F0_live, ref24_far_F0_outs, run2 ref24_far_F0_cl (.exit 0) ref24_far_F0_c0 .ret ref24_far_F0_c1 (loop2 (ref24_far_F0) L)⟩))) .no))) (x := bodyOf Tryz.f106) Tryz.func106 (by kernel_rfl) (ltS (ltN _) (ltS (ltS (ltN _) (ltB (ltL (ref24_far_F0_ok L).1))) (ltN _))) (ldS (ldN _) (ldS (ldS (ldN _) (ldB (ldL (ref24_far_F0_ok L).2))) (ldN _))) fun a => ref24_far_e (loop2 (ref24_far_F0) L) a
abbrev ref11_Great_t (x0 : G_Table) : Option Bool :=
 bif decide (40 < (x0.Slots.length : Int)) then
  some true
 else
  bif decide (100 < (x0.Holds.length : Int)) then
   some true
  else
   some (decide (100 < (x0.Queue.length : Int)))
theorem ref11_Great_e (a : G_Table × Unit) : symL Tryz.prog (tabS []) 10 30 .no 107 ((caC cd_Table caN).enc a) (outK cdB) = ref11_Great_t a.1 := by kernel_rfl
def ref11_Great (L : Nat) (x0 : G_Table) : Option Bool := ref11_Great_t x0
theorem ref11_Great_c (L : Nat) : Ctr Tryz.prog 107 false (caC cd_Table caN) cdB (fun a => ref11_Great L a.1) :=
  ctr_of mixed (sp := (tabS [])) tabS_nil (lt := .no) (x := bodyOf Tryz.f107) Tryz.func107 (by kernel_rfl) (ltN _) (ldN _) fun a => ref11_Great_e a
abbrev ref16_Great_F0 {α : Type} (s : (List (List V)) × Int × Unit) (kn : ((List (List V)) × Int × Unit) → Option α) (k0 : ((List (List V)) × Unit) → Option α) (k1 : (Bool × Unit) → Option α) : Option α :=
 bif decide (s.2.1 < (s.1.length : Int)) then
  bif decide (s.2.1 ≤ 70) then
   bif decide (0 ≤ s.2.1) then
    bif decide (s.2.1 < (s.1.length : Int)) then
     bif rowIs [.i .i64, .s] s.1 s.2.1.toNat then
      bif decide (5000 < ((asS (cell s.1 s.2.1.toNat 1)).size : Int)) then
       k1 (true, ())
      else
       kn (s.1, IntKind.i64.wrap (s.2.1 + 1), ())
     else none
    else none
   else none
  else
   k0 (s.1, ())
 else
  k0 (s.1, ())
def ref16_Great_F0_live : List (Nat × Md) := [(0, .p), (3, .p)]
def ref16_Great_F0_outs : AEx → List (Nat × Md) := (fun e => match e with | .exit i => bif Nat.beq i 0 then [(0, .p)] else [] | .ret => [(2, .p)] | .normal => [])
def ref16_Great_F0_cl : Cl ((List (List V)) × Int × Unit) := (clC (cxV (ceP cdR)) (clC (cxV (ceP (cdI .i64))) clN))
def ref16_Great_F0_c0 : Cl ((List (List V)) × Unit) := (clC (cxV (ceP cdR)) clN)
def ref16_Great_F0_c1 : Cl (Bool × Unit) := (clC (cxV (ceP cdB)) clN)
theorem ref16_Great_F0_e {α : Type} (s : (List (List V)) × Int × Unit) (Kn : List AV → Option α) (Ke : AEx → List AV → Option α) : stepS Tryz.prog (tabS []) 10 30 (lcode Tryz.f108 [1, 0, 1, 0]) .no ref16_Great_F0_live ref16_Great_F0_outs (ref16_Great_F0_cl.enc s) Kn Ke = ref16_Great_F0 s (fun a => Kn (ref16_Great_F0_cl.enc a)) (fun a => Ke (.exit 0) (ref16_Great_F0_c0.enc a)) (fun a => Ke .ret (ref16_Great_F0_c1.enc a)) := by kernel_rfl
abbrev ref16_Great_t (F0 : ((List (List V)) × Int × Unit) → (((List (List V)) × Unit) → Option (Bool)) → ((Bool × Unit) → Option (Bool)) → Option (Bool)) (x0 : List (List V)) : Option Bool :=
 F0 (x0, 0, ()) (fun q1 =>
   some (decide (70 < (q1.1.length : Int)))) (fun q2 =>
   some q2.1)
theorem ref16_Great_e (F0 : ((List (List V)) × Int × Unit) → (((List (List V)) × Unit) → Option (Bool)) → ((Bool × Unit) → Option (Bool)) → Option (Bool)) (a : (List (List V)) × Unit) : symL Tryz.prog (tabS []) 10 30 (.two .no (.two (.two .no (.one (.lp ⟨ref16_Great_F0_live, ref16_Great_F0_outs, run2 ref16_Great_F0_cl (.exit 0) ref16_Great_F0_c0 .ret ref16_Great_F0_c1 F0⟩))) .no)) 108 ((caC cdR caN).enc a) (outK cdB) = ref16_Great_t F0 a.1 := by kernel_rfl
def ref16_Great (L : Nat) (x0 : List (List V)) : Option Bool := ref16_Great_t (loop2 (ref16_Great_F0) L) x0
theorem ref16_Great_F0_ok {α : Type} (L : Nat) : LOk Tryz.prog Tryz.f108.ntmps (lcode Tryz.f108 [1, 0, 1, 0]) (⟨ref16_Great_F0_live, ref16_Great_F0_outs, run2 ref16_Great_F0_cl (.exit 0) ref16_Great_F0_c0 .ret ref16_Great_F0_c1 (loop2 (ref16_Great_F0) L)⟩ : LSpec α) ∧ LDet (⟨ref16_Great_F0_live, ref16_Great_F0_outs, run2 ref16_Great_F0_cl (.exit 0) ref16_Great_F0_c0 .ret ref16_Great_F0_c1 (loop2 (ref16_Great_F0) L)⟩ : LSpec α) :=
  lspec2 (σ := (List (List V)) × Int × Unit) (cl := ref16_Great_F0_cl) (ca := ref16_Great_F0_c0) (cb := ref16_Great_F0_c1) (sp := (tabS [])) mixed tabS_nil (L := 10) (n := 30) (t := .no) (okL_of (by kernel_rfl)) (ltN _) (ldN _) (by kernel_rfl) (ref16_Great_F0_e) L
theorem ref16_Great_c (L : Nat) : Ctr Tryz.prog 108 false (caC cdR caN) cdB (fun a => ref16_Great L a.1) :=
  ctr_of mixed (sp := (tabS [])) tabS_nil (lt := (.two .no (.two (.two .no (.one (.lp ⟨ref16_Great_F0_live, ref16_Great_F0_outs, run2 ref16_Great_F0_cl (.exit 0) ref16_Great_F0_c0 .ret ref16_Great_F0_c1 (loop2 (ref16_Great_F0) L)⟩))) .no))) (x := bodyOf Tryz.f108) Tryz.func108 (by kernel_rfl) (ltS (ltN _) (ltS (ltS (ltN _) (ltB (ltL (ref16_Great_F0_ok L).1))) (ltN _))) (ldS (ldN _) (ldS (ldS (ldN _) (ldB (ldL (ref16_Great_F0_ok L).2))) (ldN _))) fun a => ref16_Great_e (loop2 (ref16_Great_F0) L) a
abbrev ref24_long_t (x0 : G_Node) : Option Bool :=
 bif decide (100 < (x0.Pu.L.length : Int)) then
  some true
 else
  bif decide (100 < (x0.R.L.length : Int)) then
   some true
  else
   bif decide (600 < (x0.R.Cells.length : Int)) then
    some true
   else
    bif decide (600 < (x0.St.Cells.length : Int)) then
     some true
    else
     bif decide (x0.St.I < 0) then
      some true
     else
      bif decide (40 < (x0.F.Parts.length : Int)) then
       some true
      else
       bif decide (600 < (x0.P.Cmd.size : Int)) then
        some true
       else
        bif decide (600 < (x0.P.Own.Val.size : Int)) then
         some true
        else
         some (decide (600 < (x0.P.T.Val.size : Int)))
theorem ref24_long_e (a : G_Node × Unit) : symL Tryz.prog (tabS []) 10 30 .no 109 ((caC cd_Node caN).enc a) (outK cdB) = ref24_long_t a.1 := by kernel_rfl
def ref24_long (L : Nat) (x0 : G_Node) : Option Bool := ref24_long_t x0
theorem ref24_long_c (L : Nat) : Ctr Tryz.prog 109 false (caC cd_Node caN) cdB (fun a => ref24_long L a.1) :=
  ctr_of mixed (sp := (tabS [])) tabS_nil (lt := .no) (x := bodyOf Tryz.f109) Tryz.func109 (by kernel_rfl) (ltN _) (ldN _) fun a => ref24_long_e a
abbrev ref24_Great_F0 {α : Type} (ref24_far : (List (List V)) → Option Bool) (s : G_Node × Int × Unit) (kn : (G_Node × Int × Unit) → Option α) (k0 : (G_Node × Unit) → Option α) (k1 : (Bool × Unit) → Option α) : Option α :=
 bif decide (s.2.1 < (s.1.Watch.length : Int)) then
  bif decide (s.2.1 ≤ 40) then
   bif decide (0 ≤ s.2.1) then
    bif decide (s.2.1 < (s.1.Watch.length : Int)) then
     bif rowIs [.i .i64, .i .i64, .i .i64, .b] s.1.Watch s.2.1.toNat then
      bindO (ref24_far ([[V.int .i64 (asI (cell s.1.Watch s.2.1.toNat 2))]])) fun r1 =>
       bif r1 then
        k1 (true, ())
       else
        kn (s.1, IntKind.i64.wrap (s.2.1 + 1), ())
     else none
    else none
   else none
  else
   k0 (s.1, ())
 else
  k0 (s.1, ())
def ref24_Great_F0_live : List (Nat × Md) := [(1, .o [.p, .p, .p, .p, .p, .p, .p, .p, .p, .p, .p, .p, .p, .p, .p, .p, .p, .p, .p, .p, .p, .p, .p, .p, .p, .p, .p, .p, .p, .p, .p, .p, .p, .p, .p, .p, .p, .p, .p, .p, .p, .p, .p, .p, .p, .p, .p, .p, .p, .p, .p, .p, .p, .p, .p, .p, .p, .p, .p, .p, .p, .p, .p, .p]), (3, .p)]
def ref24_Great_F0_outs : AEx → List (Nat × Md) := (fun e => match e with | .exit i => bif Nat.beq i 0 then [(1, .o [.p, .p, .p, .p, .p, .p, .p, .p, .p, .p, .p, .p, .p, .p, .p, .p, .p, .p, .p, .p, .p, .p, .p, .p, .p, .p, .p, .p, .p, .p, .p, .p, .p, .p, .p, .p, .p, .p, .p, .p, .p, .p, .p, .p, .p, .p, .p, .p, .p, .p, .p, .p, .p, .p, .p, .p, .p, .p, .p, .p, .p, .p, .p, .p])] else [] | .ret => [(2, .p)] | .normal => [])
def ref24_Great_F0_cl : Cl (G_Node × Int × Unit) := (clC (cxO (czA (caA G_Node.ks G_Node.cs G_Node.of G_Node.h)) 64) (clC (cxV (ceP (cdI .i64))) clN))
def ref24_Great_F0_c0 : Cl (G_Node × Unit) := (clC (cxO (czA (caA G_Node.ks G_Node.cs G_Node.of G_Node.h)) 64) clN)
def ref24_Great_F0_c1 : Cl (Bool × Unit) := (clC (cxV (ceP cdB)) clN)
theorem ref24_Great_F0_e {α : Type} (ref24_far : (List (List V)) → Option Bool) (s : G_Node × Int × Unit) (Kn : List AV → Option α) (Ke : AEx → List AV → Option α) : stepS Tryz.prog (tabS [(106, spE false (caC cdR caN) cdB (fun a => ref24_far a.1))]) 10 30 (lcode Tryz.f35 [1, 0, 1, 0]) .no ref24_Great_F0_live ref24_Great_F0_outs (ref24_Great_F0_cl.enc s) Kn Ke = ref24_Great_F0 ref24_far s (fun a => Kn (ref24_Great_F0_cl.enc a)) (fun a => Ke (.exit 0) (ref24_Great_F0_c0.enc a)) (fun a => Ke .ret (ref24_Great_F0_c1.enc a)) := by kernel_rfl
abbrev ref24_Great_t (ref24_far : (List (List V)) → Option Bool) (ref11_Great : G_Table → Option Bool) (ref16_Great : (List (List V)) → Option Bool) (ref24_long : G_Node → Option Bool) (F0 : (G_Node × Int × Unit) → ((G_Node × Unit) → Option (Bool)) → ((Bool × Unit) → Option (Bool)) → Option (Bool)) (x0 : G_Node) : Option Bool :=
 F0 (x0, 0, ()) (fun q1 =>
   bindO (ref24_far ([[V.int .i64 q1.1.Done], [V.int .i64 q1.1.Serial], [V.int .i64 q1.1.Clock], [V.int .i64 q1.1.Asked], [V.int .i64 q1.1.Count], [V.int .i64 q1.1.Head], [V.int .i64 q1.1.Tail], [V.int .i64 q1.1.P.I], [V.int .i64 q1.1.Pu.I], [V.int .i64 q1.1.St.I], [V.int .i64 q1.1.St.Left], [V.int .i64 q1.1.R.Tail], [V.int .i64 q1.1.R.I], [V.int .i64 q1.1.R.End], [V.int .i64 q1.1.F.K]])) fun r2 =>
    bif r2 then
     some true
    else
     bindO (ref11_Great q1.1.Table) fun r3 =>
      bif r3 then
       some true
      else
       bindO (ref16_Great q1.1.Pend) fun r4 =>
        bif r4 then
         some true
        else
         bindO (ref16_Great q1.1.Txn.Writes) fun r5 =>
          bif r5 then
           some true
          else
           bif decide (40 < (q1.1.Watch.length : Int)) then
            some true
           else
            bif decide (100 < (q1.1.Giving.length : Int)) then
             some true
            else
             bindO (ref24_long q1.1) fun r6 =>
              some r6) (fun q7 =>
   some q7.1)
theorem ref24_Great_e (ref24_far : (List (List V)) → Option Bool) (ref11_Great : G_Table → Option Bool) (ref16_Great : (List (List V)) → Option Bool) (ref24_long : G_Node → Option Bool) (F0 : (G_Node × Int × Unit) → ((G_Node × Unit) → Option (Bool)) → ((Bool × Unit) → Option (Bool)) → Option (Bool)) (a : G_Node × Unit) : symL Tryz.prog (tabS [(106, spE false (caC cdR caN) cdB (fun a => ref24_far a.1)), (107, spE false (caC cd_Table caN) cdB (fun a => ref11_Great a.1)), (108, spE false (caC cdR caN) cdB (fun a => ref16_Great a.1)), (109, spE false (caC cd_Node caN) cdB (fun a => ref24_long a.1))]) 10 30 (.two .no (.two (.two .no (.one (.lp ⟨ref24_Great_F0_live, ref24_Great_F0_outs, run2 ref24_Great_F0_cl (.exit 0) ref24_Great_F0_c0 .ret ref24_Great_F0_c1 F0⟩))) .no)) 35 ((caC cd_Node caN).enc a) (outK cdB) = ref24_Great_t ref24_far ref11_Great ref16_Great ref24_long F0 a.1 := by kernel_rfl
def ref24_Great (L : Nat) (x0 : G_Node) : Option Bool := ref24_Great_t (ref24_far L) (ref11_Great L) (ref16_Great L) (ref24_long L) (loop2 (ref24_Great_F0 (ref24_far L)) L) x0
theorem ref24_Great_F0_ok {α : Type} (L : Nat) : LOk Tryz.prog Tryz.f35.ntmps (lcode Tryz.f35 [1, 0, 1, 0]) (⟨ref24_Great_F0_live, ref24_Great_F0_outs, run2 ref24_Great_F0_cl (.exit 0) ref24_Great_F0_c0 .ret ref24_Great_F0_c1 (loop2 (ref24_Great_F0 (ref24_far L)) L)⟩ : LSpec α) ∧ LDet (⟨ref24_Great_F0_live, ref24_Great_F0_outs, run2 ref24_Great_F0_cl (.exit 0) ref24_Great_F0_c0 .ret ref24_Great_F0_c1 (loop2 (ref24_Great_F0 (ref24_far L)) L)⟩ : LSpec α) :=
  lspec2 (σ := G_Node × Int × Unit) (cl := ref24_Great_F0_cl) (ca := ref24_Great_F0_c0) (cb := ref24_Great_F0_c1) (sp := (tabS [(106, spE false (caC cdR caN) cdB (fun a => (ref24_far L) a.1))])) mixed (tabS_cons (ref24_far_c L).ent tabS_nil) (L := 10) (n := 30) (t := .no) (okL_of (by kernel_rfl)) (ltN _) (ldN _) (by kernel_rfl) (ref24_Great_F0_e (ref24_far L)) L
theorem ref24_Great_c (L : Nat) : Ctr Tryz.prog 35 false (caC cd_Node caN) cdB (fun a => ref24_Great L a.1) :=
  ctr_of mixed (sp := (tabS [(106, spE false (caC cdR caN) cdB (fun a => (ref24_far L) a.1)), (107, spE false (caC cd_Table caN) cdB (fun a => (ref11_Great L) a.1)), (108, spE false (caC cdR caN) cdB (fun a => (ref16_Great L) a.1)), (109, spE false (caC cd_Node caN) cdB (fun a => (ref24_long L) a.1))])) (tabS_cons (ref24_far_c L).ent (tabS_cons (ref11_Great_c L).ent (tabS_cons (ref16_Great_c L).ent (tabS_cons (ref24_long_c L).ent tabS_nil)))) (lt := (.two .no (.two (.two .no (.one (.lp ⟨ref24_Great_F0_live, ref24_Great_F0_outs, run2 ref24_Great_F0_cl (.exit 0) ref24_Great_F0_c0 .ret ref24_Great_F0_c1 (loop2 (ref24_Great_F0 (ref24_far L)) L)⟩))) .no))) (x := bodyOf Tryz.f35) Tryz.func35 (by kernel_rfl) (ltS (ltN _) (ltS (ltS (ltN _) (ltB (ltL (ref24_Great_F0_ok L).1))) (ltN _))) (ldS (ldN _) (ldS (ldS (ldN _) (ldB (ldL (ref24_Great_F0_ok L).2))) (ldN _))) fun a => ref24_Great_e (ref24_far L) (ref11_Great L) (ref16_Great L) (ref24_long L) (loop2 (ref24_Great_F0 (ref24_far L)) L) a
end Go.Proofs.YtakljpcmbpaeaaaGreat

namespace Go.Proofs.YtakljpcmbpaeaaaGreat
open Go.RowKit
set_option linter.unusedSimpArgs false
set_option linter.unusedVariables false

abbrev law24_MountErrors_t (ref24_Great : G_Node → Option Bool) (wakes_ : Option Bool) (mount_Begin : G_Geo → G_Node → Option (G_Node × G_Answer × Bool × Unit)) (ref04_May : G_Geo → Option Bool) (ref24_Same : G_Node → G_Node → Option Bool) (x0 : G_Geo) (x1 : G_Node) : Option Bool :=
 bindO (ref24_Great x1) fun r1 =>
  bif r1 then
   bindO (wakes_) fun r2 =>
    some r2
  else
   bindO (mount_Begin x0 x1) fun r3 =>
    bif !r3.2.2.1 then
     bif (r3.2.1.E == 0) && ((r3.2.1.Text.toList == noS.toList) && ((r3.2.1.Yes == false) && true)) then
      bindO (wakes_) fun r4 =>
       some r4
     else
      some false
    else
     bif x1.Op.Kind == 0 then
      bif x1.Mounted then
       bindO (ref04_May x0) fun r5 =>
        bif r5 then
         bif decide (0 ≤ x1.Num) then
          bif decide (x1.Num < x0.Nodes) then
           bif r3.2.1.E != 241 then
            some false
           else
            bindO (ref24_Same r3.1 ({ x1 with At := 0, P := G_Prop.z, St := G_Settling.z })) fun r6 =>
             bif r6 then
              bindO (wakes_) fun r7 =>
               some r7
             else
              some false
          else
           bindO (ref24_Same r3.1 ({ x1 with At := 0, P := G_Prop.z, St := G_Settling.z })) fun r8 =>
            bif r8 then
             bindO (wakes_) fun r9 =>
              some r9
            else
             some false
         else
          bindO (ref24_Same r3.1 ({ x1 with At := 0, P := G_Prop.z, St := G_Settling.z })) fun r10 =>
           bif r10 then
            bindO (wakes_) fun r11 =>
             some r11
           else
            some false
        else
         bindO (ref24_Same r3.1 ({ x1 with At := 0, P := G_Prop.z, St := G_Settling.z })) fun r12 =>
          bif r12 then
           bindO (wakes_) fun r13 =>
            some r13
          else
           some false
      else
       bindO (ref24_Same r3.1 ({ x1 with At := 0, P := G_Prop.z, St := G_Settling.z })) fun r14 =>
        bif r14 then
         bindO (wakes_) fun r15 =>
          some r15
        else
         some false
     else
      bindO (ref24_Same r3.1 ({ x1 with At := 0, P := G_Prop.z, St := G_Settling.z })) fun r16 =>
       bif r16 then
        bindO (wakes_) fun r17 =>
         some r17
       else
        some false
set_option maxRecDepth 100000 in
set_option maxHeartbeats 16000000 in
theorem law24_MountErrors_e (ref24_Great : G_Node → Option Bool) (wakes_ : Option Bool) (mount_Begin : G_Geo → G_Node → Option (G_Node × G_Answer × Bool × Unit)) (ref04_May : G_Geo → Option Bool) (ref24_Same : G_Node → G_Node → Option Bool) (a : G_Geo × G_Node × Unit) : symL Tryz.prog (tabS [(35, spE false (caC cd_Node caN) cdB (fun a => ref24_Great a.1)), (11, spE false caN cdB (fun a => wakes_)), (13, spE false (caC cd_Geo (caC cd_Node caN)) (cdT (caC cd_Node (caC cd_Answer (caC cdB caN)))) (fun a => mount_Begin a.1 a.2.1)), (10, spE false (caC cd_Geo caN) cdB (fun a => ref04_May a.1)), (15, spE false (caC cd_Node (caC cd_Node caN)) cdB (fun a => ref24_Same a.1 a.2.1))]) 10 30 .no 6 ((caC cd_Geo (caC cd_Node caN)).enc a) (outK cdB) = law24_MountErrors_t ref24_Great wakes_ mount_Begin ref04_May ref24_Same a.1 a.2.1 := by kernel_rfl
def law24_MountErrors (L : Nat) (x0 : G_Geo) (x1 : G_Node) : Option Bool := law24_MountErrors_t (ref24_Great L) (wakes_ L) (mount_Begin L) (ref04_May L) (ref24_Same L) x0 x1
set_option maxRecDepth 100000 in
set_option maxHeartbeats 16000000 in
theorem law24_MountErrors_c (L : Nat) : Ctr Tryz.prog 6 false (caC cd_Geo (caC cd_Node caN)) cdB (fun a => law24_MountErrors L a.1 a.2.1) :=
  ctr_of mixed (sp := (tabS [(35, spE false (caC cd_Node caN) cdB (fun a => (ref24_Great L) a.1)), (11, spE false caN cdB (fun a => (wakes_ L))), (13, spE false (caC cd_Geo (caC cd_Node caN)) (cdT (caC cd_Node (caC cd_Answer (caC cdB caN)))) (fun a => (mount_Begin L) a.1 a.2.1)), (10, spE false (caC cd_Geo caN) cdB (fun a => (ref04_May L) a.1)), (15, spE false (caC cd_Node (caC cd_Node caN)) cdB (fun a => (ref24_Same L) a.1 a.2.1))])) (tabS_cons (ref24_Great_c L).ent (tabS_cons (wakes__c L).ent (tabS_cons (mount_Begin_c L).ent (tabS_cons (ref04_May_c L).ent (tabS_cons (ref24_Same_c L).ent tabS_nil))))) (lt := .no) (x := bodyOf Tryz.f6) Tryz.func6 (by kernel_rfl) (ltN _) (ldN _) fun a => law24_MountErrors_e (ref24_Great L) (wakes_ L) (mount_Begin L) (ref04_May L) (ref24_Same L) a
end Go.Proofs.YtakljpcmbpaeaaaGreat



namespace Go.Proofs.YtakljpcmbpaeaaaGreat
open Go.RowKit
set_option linter.unusedSimpArgs false
set_option linter.unusedVariables false

theorem getD_at {es : List (List V)} {i : Nat} {r : List V} (h : es[i]? = some r) : es.getD i [] = r := by
  rw [List.getD_eq_getElem?_getD, h]; rfl
theorem cell_at {es : List (List V)} {i j : Nat} {r : List V} (h : es[i]? = some r) : cell es i j = cell [r] 0 j := by
  unfold cell
  rw [getD_at h]; rfl
theorem segIs_at {es : List (List V)} {i : Nat} {r : List V} (h : es[i]? = some r) : ∀ (ks : List Kc) (j : Nat), segIs ks es i j = segIs ks [r] 0 j
  | [], j => by unfold segIs; rw [getD_at h]; rfl
  | k :: ks, j => by unfold segIs; rw [cell_at h, segIs_at h ks]
theorem rowIs_at {es : List (List V)} {i : Nat} {r : List V} (ks : List Kc) (h : es[i]? = some r) : rowIs ks es i = rowIs ks [r] 0 := by
  unfold rowIs
  rw [segIs_at h, getD_at h]; rfl
section
variable {α σ A B : Type}
theorem loop2_run {F : σ → (σ → Option α) → (A → Option α) → (B → Option α) → Option α} (I : σ → Prop) (m : σ → Nat) (PA : A → Prop) (PB : B → Prop)
    (h : ∀ s, I s → (∃ s', I s' ∧ m s' < m s ∧ ∀ kn ka kb, F s kn ka kb = kn s') ∨ (∃ a, PA a ∧ ∀ kn ka kb, F s kn ka kb = ka a) ∨ (∃ b, PB b ∧ ∀ kn ka kb, F s kn ka kb = kb b)) :
    ∀ (L : Nat) (s : σ), I s → m s < L → (∃ a, PA a ∧ ∀ ka kb, loop2 F L s ka kb = ka a) ∨ (∃ b, PB b ∧ ∀ ka kb, loop2 F L s ka kb = kb b)
  | 0, _, _, hm => absurd hm (Nat.not_lt_zero _)
  | L + 1, s, hs, hm => by
    rcases h s hs with ⟨s', h1, h2, h3⟩ | ⟨a, h1, h2⟩ | ⟨b, h1, h2⟩
    · rcases loop2_run I m PA PB h L s' h1 (by omega) with ⟨a, k1, k2⟩ | ⟨b, k1, k2⟩
      · exact .inl ⟨a, k1, fun ka kb => (h3 _ ka kb).trans (k2 ka kb)⟩
      · exact .inr ⟨b, k1, fun ka kb => (h3 _ ka kb).trans (k2 ka kb)⟩
    · exact .inl ⟨a, h1, fun ka kb => h2 _ ka kb⟩
    · exact .inr ⟨b, h1, fun ka kb => h2 _ ka kb⟩
end
structure Rw (ks : List Kc) (rows : List (List V)) : Prop where
  len : rows.length ≤ 9223372036854775807
  is : ∀ i, i < rows.length → rowIs ks rows i = true
theorem all_run {α A B σ : Type} {F : σ → (σ → Option α) → (A → Option α) → (B → Option α) → Option α} {n : Nat} (st : Int → σ) (a : A) (hn : n ≤ 9223372036854775807)
    (hF : ∀ (i : Int) kn ka kb, 0 ≤ i → i < n → F (st i) kn ka kb = kn (st (IntKind.i64.wrap (i + 1)))) (hE : ∀ (i : Int) kn ka kb, ¬ i < n → F (st i) kn ka kb = ka a) :
    ∀ (L : Nat) (k : Nat), k ≤ n → n - k < L → ∀ ka kb, loop2 F L (st k) ka kb = ka a
  | 0, _, _, h, _, _ => absurd h (Nat.not_lt_zero _)
  | L + 1, k, hk, h, ka, kb => by
    by_cases hlt : k < n
    · refine (hF k _ ka kb (by omega) (by omega)).trans ?_
      rw [wrap64 (by omega) (by omega)]
      exact all_run st a hn hF hE L (k + 1) (by omega) (by omega) ka kb
    · exact hE k _ ka kb (by omega)
theorem bif_t {α : Type} {c : Bool} {x y : α} (h : c = true) : (bif c then x else y) = x := by rw [h]; rfl
theorem bif_f {α : Type} {c : Bool} {x y : α} (h : c = false) : (bif c then x else y) = y := by rw [h]; rfl
end Go.Proofs.YtakljpcmbpaeaaaGreat

namespace Go.Proofs.YtakljpcmbpaeaaaGreat
open Go.RowKit
set_option linter.unusedSimpArgs false
set_option linter.unusedVariables false

def Near (a : Int) : Prop := -1099511627776 ≤ a ∧ a ≤ 1099511627776
theorem inV_is (a : Int) : rowIs [.i .i64] [inV a] 0 = true := rfl
theorem map_at {α β : Type} {f : α → β} {l : List α} {i : Nat} (h : i < l.length) : (l.map f)[i]? = some (f l[i]) := by simp [h]
set_option maxHeartbeats 1000000 in
theorem far_run (L : Nat) (l : List Int) (hL : l.length < L) (hl : l.length ≤ 1099511627776) : ∃ b, ref24_far L (l.map inV) = some b ∧ (b = false → ∀ x ∈ l, Near x) := by
  have H := by
    refine loop2_run (α := Bool) (F := ref24_far_F0) (fun s => s.1 = l.map inV ∧ 0 ≤ s.2.1 ∧ s.2.1 ≤ l.length ∧ ∀ j (hj : j < l.length), j < s.2.1.toNat → Near l[j]) (fun s => l.length - s.2.1.toNat) (fun _ => ∀ x ∈ l, Near x) (fun b => b.1 = true) (fun s hs => ?_) L (l.map inV, 0, ()) ⟨rfl, Int.le_refl _, Int.natCast_nonneg _, fun j _ h => absurd h (Nat.not_lt_zero _)⟩ (by simpa using hL)
    · obtain ⟨r, i, u⟩ := s
      obtain ⟨rfl, h0, h1, h2⟩ := hs
      dsimp only at h0 h1 h2
      by_cases hi : i < l.length
      · have hj : i.toNat < l.length := by omega
        have hr := map_at (f := inV) hj
        have c1 : decide (i < ((l.map inV).length : Int)) = true := decide_eq_true (by rw [List.length_map]; exact hi)
        have c2 : decide (0 ≤ i) = true := decide_eq_true h0
        have c3 : rowIs [.i .i64] (l.map inV) i.toNat = true := (rowIs_at _ hr).trans (inV_is _)
        have c4 : asI (cell (l.map inV) i.toNat 0) = l[i.toNat] := by rw [cell_at hr]; rfl
        by_cases hx : 1099511627776 < l[i.toNat]
        · refine .inr (.inr ⟨(true, ()), rfl, fun kn ka kb => ?_⟩)
          simp only [ref24_far_F0, c1, c2, c3, c4, decide_eq_true hx, cond_true]
        · by_cases hy : l[i.toNat] < -1099511627776
          · refine .inr (.inr ⟨(true, ()), rfl, fun kn ka kb => ?_⟩)
            simp only [ref24_far_F0, c1, c2, c3, c4, decide_eq_false hx, decide_eq_true hy, cond_true, cond_false]
          · refine .inl ⟨(l.map inV, i + 1, ()), ⟨rfl, by dsimp only; omega, by dsimp only; omega, fun j hj' hlt => ?_⟩, by dsimp only; omega, fun kn ka kb => ?_⟩
            · dsimp only at hlt
              by_cases hji : j = i.toNat
              · subst hji; exact ⟨by omega, by omega⟩
              · exact h2 j hj' (by omega)
            · simp only [ref24_far_F0, c1, c2, c3, c4, decide_eq_false hx, decide_eq_false hy, cond_true, cond_false]
              rw [wrap64 (by omega) (by omega)]
      · have c1 : decide (i < ((l.map inV).length : Int)) = false := decide_eq_false (by rw [List.length_map]; exact hi)
        refine .inr (.inl ⟨(), fun x hx => ?_, fun kn ka kb => ?_⟩)
        · obtain ⟨j, hj, rfl⟩ := List.getElem_of_mem hx
          exact h2 j hj (by omega)
        · simp only [ref24_far_F0, c1, cond_false]
  rcases H with ⟨a, h1, h2⟩ | ⟨b, h1, h2⟩
  · exact ⟨false, h2 _ _, fun _ => h1⟩
  · exact ⟨true, (h2 _ _).trans (by show some b.1 = _; rw [h1]), nofun⟩
end Go.Proofs.YtakljpcmbpaeaaaGreat

namespace Go.Proofs.YtakljpcmbpaeaaaGreat
open Go.RowKit
set_option linter.unusedSimpArgs false
set_option linter.unusedVariables false

theorem ref11_SameHolds_refl {L : Nat} {l : List (List V)} (h : Rw [.i .i64, .i .i64, .i .i64, .i .i8] l) (hL : l.length < L) : ref11_SameHolds L l l = some true := by
  show (bif (l.length : Int) != (l.length : Int) then some false else loop2 ref11_SameHolds_F0 L (l, l, ((0 : Nat) : Int), ()) (fun _ => some true) (fun q => some q.1)) = some true
  rw [bif_f (by simp)]
  exact all_run (n := l.length) (fun i => (l, l, i, ())) () h.len (fun i kn ka kb h0 h1 => by
    have c3 := h.is i.toNat (by omega)
    simp only [ref11_SameHolds_F0, decide_eq_true h1, decide_eq_true h0, c3, cond_true, beq_self_eq_true, Bool.and_self, Bool.not_true, cond_false]) (fun i kn ka kb h1 => by
    simp only [ref11_SameHolds_F0, decide_eq_false h1, cond_false]) L 0 (Nat.zero_le _) (by omega) _ _
theorem ref18_Same_refl {L : Nat} {l : List (List V)} (h : Rw [.i .i64, .s] l) (hL : l.length < L) : ref18_Same L l l = some true := by
  show (bif (l.length : Int) != (l.length : Int) then some false else loop2 ref18_Same_F0 L (l, l, ((0 : Nat) : Int), ()) (fun _ => some true) (fun q => some q.1)) = some true
  rw [bif_f (by simp)]
  exact all_run (n := l.length) (fun i => (l, l, i, ())) () h.len (fun i kn ka kb h0 h1 => by
    have c3 := h.is i.toNat (by omega)
    simp only [ref18_Same_F0, decide_eq_true h1, decide_eq_true h0, c3, cond_true, beq_self_eq_true, Bool.and_self, Bool.not_true, cond_false]) (fun i kn ka kb h1 => by
    simp only [ref18_Same_F0, decide_eq_false h1, cond_false]) L 0 (Nat.zero_le _) (by omega) _ _
theorem ref24_watches_refl {L : Nat} {l : List (List V)} (h : Rw [.i .i64, .i .i64, .i .i64, .b] l) (hL : l.length < L) : ref24_watches L l l = some true := by
  show (bif (l.length : Int) != (l.length : Int) then some false else loop2 ref24_watches_F0 L (l, l, ((0 : Nat) : Int), ()) (fun _ => some true) (fun q => some q.1)) = some true
  rw [bif_f (by simp)]
  exact all_run (n := l.length) (fun i => (l, l, i, ())) () h.len (fun i kn ka kb h0 h1 => by
    have c3 := h.is i.toNat (by omega)
    simp only [ref24_watches_F0, decide_eq_true h1, decide_eq_true h0, c3, cond_true, beq_self_eq_true, Bool.and_self, Bool.not_true, cond_false]) (fun i kn ka kb h1 => by
    simp only [ref24_watches_F0, decide_eq_false h1, cond_false]) L 0 (Nat.zero_le _) (by omega) _ _
theorem ref24_spans_refl {L : Nat} {l : List (List V)} (h : Rw [.i .i64, .i .i64] l) (hL : l.length < L) : ref24_spans L l l = some true := by
  show (bif (l.length : Int) != (l.length : Int) then some false else loop2 ref24_spans_F0 L (l, l, ((0 : Nat) : Int), ()) (fun _ => some true) (fun q => some q.1)) = some true
  rw [bif_f (by simp)]
  exact all_run (n := l.length) (fun i => (l, l, i, ())) () h.len (fun i kn ka kb h0 h1 => by
    have c3 := h.is i.toNat (by omega)
    simp only [ref24_spans_F0, decide_eq_true h1, decide_eq_true h0, c3, cond_true, beq_self_eq_true, Bool.and_self, Bool.not_true, cond_false]) (fun i kn ka kb h1 => by
    simp only [ref24_spans_F0, decide_eq_false h1, cond_false]) L 0 (Nat.zero_le _) (by omega) _ _
theorem ref16_Same_refl {L : Nat} {l : List (List V)} (h : Rw [.i .i64, .i .i64, .i .i64, .i .i64, .s, .i .i64] l) (hL : l.length < L) : ref16_Same L l l = some true := by
  show (bif (l.length : Int) != (l.length : Int) then some false else loop2 ref16_Same_F0 L (l, l, ((0 : Nat) : Int), ()) (fun _ => some true) (fun q => some q.1)) = some true
  rw [bif_f (by simp)]
  exact all_run (n := l.length) (fun i => (l, l, i, ())) () h.len (fun i kn ka kb h0 h1 => by
    have c3 := h.is i.toNat (by omega)
    simp only [ref16_Same_F0, decide_eq_true h1, decide_eq_true h0, c3, cond_true, beq_self_eq_true, Bool.and_self, Bool.not_true, cond_false]) (fun i kn ka kb h1 => by
    simp only [ref16_Same_F0, decide_eq_false h1, cond_false]) L 0 (Nat.zero_le _) (by omega) _ _
theorem ref18_SameCells_refl {L : Nat} {l : List (List V)} (h : Rw [.i .i64, .s] l) (hL : l.length < L) : ref18_SameCells L l l = some true := by
  show (bif (l.length : Int) != (l.length : Int) then some false else loop2 ref18_SameCells_F0 L (l, l, ((0 : Nat) : Int), ()) (fun _ => some true) (fun q => some q.1)) = some true
  rw [bif_f (by simp)]
  exact all_run (n := l.length) (fun i => (l, l, i, ())) () h.len (fun i kn ka kb h0 h1 => by
    have c3 := h.is i.toNat (by omega)
    simp only [ref18_SameCells_F0, decide_eq_true h1, decide_eq_true h0, c3, cond_true, beq_self_eq_true, Bool.and_self, Bool.not_true, cond_false]) (fun i kn ka kb h1 => by
    simp only [ref18_SameCells_F0, decide_eq_false h1, cond_false]) L 0 (Nat.zero_le _) (by omega) _ _
theorem ref24_texts_refl {L : Nat} {l : List (List V)} (h : Rw [.s] l) (hL : l.length < L) : ref24_texts L l l = some true := by
  show (bif (l.length : Int) != (l.length : Int) then some false else loop2 ref24_texts_F0 L (l, l, ((0 : Nat) : Int), ()) (fun _ => some true) (fun q => some q.1)) = some true
  rw [bif_f (by simp)]
  exact all_run (n := l.length) (fun i => (l, l, i, ())) () h.len (fun i kn ka kb h0 h1 => by
    have c3 := h.is i.toNat (by omega)
    simp only [ref24_texts_F0, decide_eq_true h1, decide_eq_true h0, c3, cond_true, beq_self_eq_true, Bool.and_self, Bool.not_true, cond_false]) (fun i kn ka kb h1 => by
    simp only [ref24_texts_F0, decide_eq_false h1, cond_false]) L 0 (Nat.zero_le _) (by omega) _ _
structure Nd (n : G_Node) : Prop where
  slots : Rw [.i .i64, .i .i64] n.Table.Slots
  holds : Rw [.i .i64, .i .i64, .i .i64, .i .i8] n.Table.Holds
  queue : Rw [.i .i64, .i .i64, .i .i64, .i .i8] n.Table.Queue
  writes : Rw [.i .i64, .s] n.Txn.Writes
  pend : Rw [.i .i64, .s] n.Pend
  watch : Rw [.i .i64, .i .i64, .i .i64, .b] n.Watch
  giving : Rw [.i .i64, .i .i64] n.Giving
  pul : Rw [.i .i64, .i .i64, .i .i64, .i .i64, .s, .i .i64] n.Pu.L
  cells : Rw [.i .i64, .s] n.St.Cells
  parts : Rw [.s] n.F.Parts
  rl : Rw [.i .i64, .i .i64, .i .i64, .i .i64, .s, .i .i64] n.R.L
  rcells : Rw [.i .i64, .s] n.R.Cells
theorem ref11_Same_refl {L : Nat} {t : G_Table} (h1 : Rw [.i .i64, .i .i64] t.Slots) (h2 : Rw [.i .i64, .i .i64, .i .i64, .i .i8] t.Holds) (h3 : Rw [.i .i64, .i .i64, .i .i64, .i .i8] t.Queue) (hL : 9223372036854775807 < L) : ref11_Same L t t = some true := by
  have e1 := ref11_SameHolds_refl (L := L) h2 (by have := h2.len; omega)
  have e2 := ref11_SameHolds_refl (L := L) h3 (by have := h3.len; omega)
  have e3 : ∀ (ka : Unit → Option Bool) (kb : Bool × Unit → Option Bool), loop2 ref11_Same_F0 L (t, t, ((0 : Nat) : Int), ()) ka kb = ka () := all_run (n := t.Slots.length) (fun i => (t, t, i, ())) () h1.len (fun i kn ka kb h0 hi => by
    have c3 := h1.is i.toNat (by omega)
    simp only [ref11_Same_F0, decide_eq_true hi, decide_eq_true h0, c3, cond_true, beq_self_eq_true, Bool.and_self, Bool.not_true, cond_false]) (fun i kn ka kb hi => by
    simp only [ref11_Same_F0, decide_eq_false hi, cond_false]) L 0 (Nat.zero_le _) (by have := h1.len; omega)
  unfold ref11_Same ref11_Same_t
  rw [bif_f (by simp), e1]
  show (bif !true then some false else bindO (ref11_SameHolds L t.Queue t.Queue) fun r2 => _) = _
  rw [e2]
  exact e3 _ _
theorem ref20_Same_refl {L : Nat} {x : G_Settling} (h : Rw [.i .i64, .s] x.Cells) (hL : 9223372036854775807 < L) : ref20_Same L x x = some true := by
  have e1 := ref18_SameCells_refl (L := L) h (by have := h.len; omega)
  unfold ref20_Same ref20_Same_t
  rw [e1]
  simp only [bindO, beq_self_eq_true, cond_true]
theorem ref24_ways_refl {L : Nat} {n : G_Node} (h : Nd n) (hL : 9223372036854775807 < L) : ref24_ways L n n = some true := by
  have e1 := ref16_Same_refl (L := L) h.pul (by have := h.pul.len; omega)
  have e2 := ref20_Same_refl (L := L) (x := n.St) h.cells hL
  have e3 := ref24_texts_refl (L := L) h.parts (by have := h.parts.len; omega)
  have e4 := ref16_Same_refl (L := L) h.rl (by have := h.rl.len; omega)
  have e5 := ref18_SameCells_refl (L := L) h.rcells (by have := h.rcells.len; omega)
  unfold ref24_ways ref24_ways_t
  simp only [e1, e2, e3, e4, e5, bindO, beq_self_eq_true, Bool.and_self, cond_true]
theorem ref24_Same_refl {L : Nat} {n : G_Node} (h : Nd n) (hL : 9223372036854775807 < L) : ref24_Same L n n = some true := by
  have e1 := ref11_Same_refl (L := L) (t := n.Table) h.slots h.holds h.queue hL
  have e2 := ref18_Same_refl (L := L) h.writes (by have := h.writes.len; omega)
  have e3 := ref18_Same_refl (L := L) h.pend (by have := h.pend.len; omega)
  have e4 := ref24_watches_refl (L := L) h.watch (by have := h.watch.len; omega)
  have e5 := ref24_spans_refl (L := L) h.giving (by have := h.giving.len; omega)
  have e6 := ref24_ways_refl (L := L) h hL
  unfold ref24_Same ref24_Same_t
  simp only [e1, e2, e3, e4, e5, e6, bindO, bne_self_eq_false, beq_self_eq_true, Bool.and_self, Bool.not_true, cond_true, cond_false]
end Go.Proofs.YtakljpcmbpaeaaaGreat

namespace Go.Proofs.YtakljpcmbpaeaaaGreat
open Go.RowKit
set_option linter.unusedSimpArgs false
set_option linter.unusedVariables false

def Dfn {α : Type} (o : Option α) : Prop := ∃ r, o = some r
theorem dfn_some {α : Type} (r : α) : Dfn (some r) := ⟨r, rfl⟩
theorem dfn_bif {α : Type} {c : Bool} {x y : Option α} (h1 : c = true → Dfn x) (h2 : c = false → Dfn y) : Dfn (bif c then x else y) := by
  cases c with
  | true => exact h1 rfl
  | false => exact h2 rfl
theorem dfn_bind {α β : Type} {o : Option β} {f : β → Option α} (h : Dfn o) (hf : ∀ b, o = some b → Dfn (f b)) : Dfn (bindO o f) := by
  obtain ⟨b, rfl⟩ := h
  exact hf b rfl
theorem ext_le (s : ByteArray) (a b : Nat) : (s.extract a b).size ≤ s.size := by rw [ByteArray.size_extract]; omega
structure Ok (s : ByteArray) : Prop where
  h : s.size ≤ maxLen
theorem ext_max {s : ByteArray} {a b : Nat} (h : Ok s) : Ok (s.extract a b) := ⟨Nat.le_trans (ext_le s a b) h.h⟩
theorem get_dfn {L : Nat} {s : ByteArray} {a n : Int} (h : Ok s) : Dfn (num_Get L s a n) := by
  unfold num_Get
  rw [bif_t (Nat.ble_eq_true_of_le h.h)]
  exact ⟨_, rfl⟩
theorem get_len {L : Nat} {s : ByteArray} {a n : Int} {r : Int × Int × Unit} (h : num_Get L s a n = some r) (hr : (r.2.1 != 0) = false) : a + n ≤ (s.size : Int) := by
  unfold num_Get at h
  obtain ⟨-, h⟩ := bif_some h
  injection h with h
  subst h
  dsimp only at hr
  unfold getS at hr
  split at hr
  · split at hr
    · rename_i h1 h2
      have : s.data.toList.length = s.size := by simp
      rw [this] at h2
      exact h2.2
    · simp at hr
  · simp at hr
theorem key_dfn {L : Nat} {x : Int} : Dfn (command_Key L x) := by
  unfold command_Key command_Key_t
  refine dfn_bif (fun _ => dfn_some _) (fun _ => dfn_some _)
theorem cspan_dfn {L : Nat} {x : G_command_order} : Dfn (command_order_span L x) := by
  unfold command_order_span command_order_span_t
  refine dfn_bif (fun _ => dfn_bif (fun _ => dfn_some _) (fun _ => dfn_some _)) (fun _ => dfn_some _)
set_option maxHeartbeats 4000000 in
theorem only_dfn {L : Nat} {x : G_command_order} {a b c d : Bool} : Dfn (command_order_only L x a b c d) := by
  unfold command_order_only command_order_only_t
  simp only [command_order_only_P0]
  repeat' (first | exact dfn_some _ | refine dfn_bind cspan_dfn (fun _ _ => ?_) | refine dfn_bind key_dfn (fun _ _ => ?_) | refine dfn_bif (fun _ => ?_) (fun _ => ?_))
theorem omay_dfn {L : Nat} {x : G_command_order} : Dfn (command_order_may L x) := by
  unfold command_order_may command_order_may_t
  repeat' (first | exact dfn_some _ | refine dfn_bind only_dfn (fun _ _ => ?_) | refine dfn_bind key_dfn (fun _ _ => ?_) | refine dfn_bif (fun _ => ?_) (fun _ => ?_))
theorem cMay_dfn {L : Nat} {x : G_Cmd} : Dfn (command_May L x) := by
  unfold command_May command_May_t
  exact dfn_bind omay_dfn fun _ _ => dfn_some _
theorem cOf_dfn {L : Nat} {x : Int} : Dfn (command_Of L x) := by
  unfold command_Of command_Of_t
  exact dfn_bind key_dfn fun _ _ => dfn_bif (fun _ => dfn_some _) (fun _ => dfn_some _)
section
variable {α : Type} {L : Nat}
theorem Read_P0_dfn {s : G_Cmd × G_command_taker × Unit} {k0 : (G_Cmd × G_command_taker × Int × Unit) → Option α} (hs : Ok s.2.1.s_) (hk : ∀ o, Ok o.2.1.s_ → Dfn (k0 o)) : Dfn (command_Read_P0 (num_Get L) s k0) := by
  unfold command_Read_P0
  repeat' (first | with_reducible refine hk _ ?_ | with_reducible assumption | with_reducible refine ext_max ?_ | with_reducible refine dfn_bif (fun _ => ?_) (fun _ => ?_) | with_reducible refine dfn_bind (get_dfn ?_) (fun _ _ => ?_))
  all_goals (rename_i r hr hz hc; have h1 := get_len hr hz; have h2 := of_decide_eq_false hc; clear hr hz hc; exfalso; omega)
theorem Read_P1_dfn {s : G_Cmd × G_command_taker × Int × Unit} {k0 : (G_Cmd × G_command_taker × G_Cmd × Unit) → Option α} (hs : Ok s.2.1.s_) (hk : ∀ o, Ok o.2.1.s_ → Dfn (k0 o)) : Dfn (command_Read_P1 (num_Get L) s k0) := by
  unfold command_Read_P1
  repeat' (first | with_reducible refine hk _ ?_ | with_reducible assumption | with_reducible refine ext_max ?_ | with_reducible refine dfn_bif (fun _ => ?_) (fun _ => ?_) | with_reducible refine dfn_bind (get_dfn ?_) (fun _ _ => ?_))
  all_goals (rename_i r hr hz hc; have h1 := get_len hr hz; have h2 := of_decide_eq_false hc; clear hr hz hc; exfalso; omega)
set_option maxHeartbeats 4000000 in
theorem Read_P3_dfn {s : G_Cmd × G_command_taker × G_Cmd × Int × Bool × Unit} {k0 : (G_Cmd × G_command_taker × G_Cmd × Unit) → Option α} (hs : Ok s.2.1.s_) (hk : ∀ o, Ok o.2.1.s_ → Dfn (k0 o)) : Dfn (command_Read_P3 (num_Get L) s k0) := by
  unfold command_Read_P3
  repeat' (first | with_reducible refine hk _ ?_ | with_reducible assumption | with_reducible refine ext_max ?_ | with_reducible refine dfn_bif (fun _ => ?_) (fun _ => ?_) | with_reducible refine dfn_bind (get_dfn ?_) (fun _ _ => ?_))
  all_goals (rename_i r hr hz hc; have h1 := get_len hr hz; have h2 := of_decide_eq_false hc; clear hr hz hc; exfalso; omega)
end
theorem Read_dfn {L : Nat} {s : ByteArray} (hs : Ok s) : Dfn (command_Read L s) := by
  unfold command_Read command_Read_t
  refine Read_P0_dfn hs fun q1 h1 => ?_
  refine Read_P1_dfn h1 fun q2 h2 => ?_
  unfold command_Read_P2
  have rest : ∀ q3 : G_Cmd × G_command_taker × G_Cmd × Int × Bool × Unit, Ok q3.2.1.s_ → Dfn (command_Read_P3 (num_Get L) (q3.1, q3.2.1, q3.2.2.1, q3.2.2.2.1, q3.2.2.2.2.1, ()) (fun q4 => command_Read_P4 (command_May L) (q4.1, q4.2.1, q4.2.2.1, ()) (fun q5 => command_Read_P5 (q5.1, q5.2.1, q5.2.2.1, ()) (fun q6 => some (q6.2.1, 0, ())) (fun q7 => some (q7.1, q7.2.1, ()))))) := fun q3 h3 => by
    refine Read_P3_dfn h3 fun q4 h4 => ?_
    unfold command_Read_P4 command_Read_P5
    repeat' (first | exact dfn_some _ | refine dfn_bind cMay_dfn (fun _ _ => ?_) | refine dfn_bif (fun _ => ?_) (fun _ => ?_))
  refine dfn_bif (fun _ => ?_) (fun _ => ?_)
  · exact rest _ h2
  · exact rest _ h2
theorem pBegin_dfn {L : Nat} {g : G_Geo} {k : Int} {s : ByteArray} (hs : Ok s) (hg : i64b g.Wait = true) : Dfn (paxos_Begin L g k s) := by
  have hm : Dfn (geo_May L g) := by unfold geo_May; rw [bif_t hg]; exact dfn_some _
  unfold paxos_Begin paxos_Begin_t
  repeat' (first | exact dfn_some _ | refine dfn_bind (Read_dfn hs) (fun _ _ => ?_) | refine dfn_bind hm (fun _ _ => ?_) | refine dfn_bind cOf_dfn (fun _ _ => ?_) | refine dfn_bif (fun _ => ?_) (fun _ => ?_))
end Go.Proofs.YtakljpcmbpaeaaaGreat

namespace Go.Proofs.YtakljpcmbpaeaaaGreat
open Go.RowKit
set_option linter.unusedSimpArgs false
set_option linter.unusedVariables false

def DfnP {α : Type} (o : Option α) (P : α → Prop) : Prop := ∃ r, o = some r ∧ P r
section
variable {α β : Type} {P : α → Prop}
theorem dp_some {r : α} (h : P r) : DfnP (some r) P := ⟨r, rfl, h⟩
theorem dp_bif {c : Bool} {x y : Option α} (h1 : c = true → DfnP x P) (h2 : c = false → DfnP y P) : DfnP (bif c then x else y) P := by
  cases c with
  | true => exact h1 rfl
  | false => exact h2 rfl
theorem dp_bind {o : Option β} {Q : β → Prop} {f : β → Option α} (h : DfnP o Q) (hf : ∀ b, Q b → DfnP (f b) P) : DfnP (bindO o f) P := by
  obtain ⟨b, rfl, hq⟩ := h
  exact hf b hq
theorem Dfn.p {o : Option α} (h : Dfn o) : DfnP o (fun _ => True) := by
  obtain ⟨r, h⟩ := h
  exact ⟨r, h, trivial⟩
end
def ByN (m : Nat) (rows : List (List V)) : Prop := ∃ x : Bs, rows = x.map byV ∧ x.length ≤ m
theorem put_len (b : Bs) (n : Int) (l : List Int) : (putR b n l).1.length ≤ b.length + 6 * l.length := by
  unfold putR putS
  by_cases h : (1 ≤ n ∧ n ≤ 6) ∧ l.all (fitsB · n) = true
  · rw [if_pos h]
    show (b ++ putAll n.toNat l).length ≤ _
    rw [List.length_append, putAll_length]
    have : n.toNat * l.length ≤ 6 * l.length := Nat.mul_le_mul_right _ (by omega)
    omega
  · rw [if_neg h]
    exact Nat.zero_le _
theorem put_P {L : Nat} {b l : List (List V)} {n : Int} {m : Nat} (hb : ByN m b) (l' : List Int) (hl : l = l'.map inV) (hm : m + 6 * l'.length ≤ 1000000000) : DfnP (num_Put L b n l) (fun r => ByN (m + 6 * l'.length) r.1) := by
  obtain ⟨x, rfl, hx⟩ := hb
  subst hl
  unfold num_Put
  rw [bif_t (by rw [rows_all byRB_v, rows_all inRB_v, Bool.true_and, Bool.true_and]; exact Nat.ble_eq_true_of_le (by rw [List.length_map, List.length_map]; omega))]
  refine ⟨_, rfl, _, rfl, Nat.le_trans (put_len _ _ _) ?_⟩
  simp only [List.length_map]
  omega
theorem bytes_leaf {m : Nat} {rows : List (List V)} (h : ByN m rows) (hm : m ≤ 1000) : DfnP (bif (bytesOf rows).isSome then some (bytesS rows, (0 : Int), ()) else none) (fun r => Ok r.1) := by
  obtain ⟨x, rfl, hx⟩ := h
  rw [bytesOf_by, Option.isSome_some, cond_true]
  refine ⟨_, rfl, ⟨?_⟩⟩
  have : (bytesS (x.map byV)).size = x.length := by
    unfold bytesS
    rw [bytesOf_by]
    simp [ByteArray.size]
  rw [this]
  exact Nat.le_trans (Nat.le_trans hx hm) (by decide)
theorem cBytes_P {L : Nat} {x : G_Cmd} : DfnP (command_Bytes L x) (fun r => Ok r.1) := by
  unfold command_Bytes command_Bytes_t
  refine dp_bind omay_dfn.p fun r1 _ => ?_
  refine dp_bif (fun _ => dp_some ⟨by show noS.size ≤ maxLen; decide⟩) fun _ => ?_
  refine dp_bind (put_P (m := 0) ⟨[], rfl, Nat.le_refl _⟩ [_] rfl (by simp only [List.length_cons, List.length_nil]; omega)) fun r2 h2 => ?_
  refine dp_bind (put_P h2 [_] rfl (by simp only [List.length_cons, List.length_nil]; omega)) fun r3 h3 => ?_
  refine dp_bind (put_P h3 [_] rfl (by simp only [List.length_cons, List.length_nil]; omega)) fun r4 h4 => ?_
  refine dp_bif (fun _ => dp_bind (put_P h4 [_, _, _] rfl (by simp only [List.length_cons, List.length_nil]; omega)) fun r h => bytes_leaf h (by simp only [List.length_cons, List.length_nil]; omega)) fun _ => ?_
  refine dp_bif (fun _ => dp_bind (put_P h4 [_, _] rfl (by simp only [List.length_cons, List.length_nil]; omega)) fun r h => bytes_leaf h (by simp only [List.length_cons, List.length_nil]; omega)) fun _ => ?_
  refine dp_bif (fun _ => dp_bind (put_P h4 [_, _] rfl (by simp only [List.length_cons, List.length_nil]; omega)) fun r h => bytes_leaf h (by simp only [List.length_cons, List.length_nil]; omega)) fun _ => ?_
  refine dp_bif (fun _ => dp_bind (put_P h4 [_] rfl (by simp only [List.length_cons, List.length_nil]; omega)) fun r h => bytes_leaf h (by simp only [List.length_cons, List.length_nil]; omega)) fun _ => ?_
  exact bytes_leaf h4 (by simp only [List.length_cons, List.length_nil]; omega)
theorem over_dfn {L : Nat} {x : G_Settling} : Dfn (settle_Over L x) := ⟨_, rfl⟩
theorem sBegin_dfn {L : Nat} {g : G_Geo} {rows : List (List V)} (hg : i64b g.Wait = true) (hr : rows.all prRB = true) (hl : rows.length ≤ 100000) : Dfn (settle_Begin L g rows) := by
  unfold settle_Begin
  rw [bif_t (by rw [hg, hr, Nat.ble_eq_true_of_le hl]; rfl)]
  exact dfn_some _
def Starts (g : G_Geo) (n : G_Node) : Prop := n.Op.Kind = 0 ∧ n.Mounted = true ∧ (geoOf g).may = true ∧ 0 ≤ n.Num ∧ n.Num < g.Nodes
structure MB (g : G_Geo) (n o : G_Node) (a : G_Answer) (over : Bool) : Prop where
  zero : over = false → a = G_Answer.z
  over : over = true → o = { n with At := 0, P := G_Prop.z, St := G_Settling.z }
  mnt : Starts g n → a.E = 241
section
variable {α : Type} {P : α → Prop} {L : Nat} {g : G_Geo} {n : G_Node}
theorem mP0 {c1 : G_Node} {c2 : G_Answer} {c3 : G_mount_course} {k0 : (G_Node × G_Node × G_Answer × G_mount_course × Bool × Unit) → Option α} (hg : i64b g.Wait = true) (hk : ∀ fl, (fl = true → ¬ Starts g n) → DfnP (k0 (n, c1, c2, c3, fl, ())) P) :
    DfnP (mount_Begin_P0 (geo_May L) (mount_Mine_1 L) (g, n, c1, c2, c3, ()) k0) P := by
  have hm : geo_May L g = some (geoOf g).may := by unfold geo_May; rw [bif_t hg]
  unfold mount_Begin_P0
  refine dp_bind (Q := fun r => r = (geoOf g).may) ⟨_, hm, rfl⟩ fun r1 h1 => ?_
  refine dp_bif (fun h => hk true fun _ hs => ?_) fun _ => ?_
  · rw [h1, hs.2.2.1] at h; cases h
  refine dp_bif (fun h => hk true fun _ hs => ?_) fun _ => ?_
  · have := of_decide_eq_true h; have h2 := hs.2.2.2.1; dsimp only at this; omega
  refine dp_bif (fun h => hk true fun _ hs => ?_) fun _ => ?_
  · have := of_decide_eq_true h; have h2 := hs.2.2.2.2; dsimp only at this; omega
  refine dp_bind (Q := fun r => r = true → n.Op.Kind ≠ 0) ?_ fun r2 h2 => ?_
  · unfold mount_Mine_1 mount_Mine_1_t
    refine dp_bif (fun _ => dp_bif (fun h => dp_some fun _ => ?_) (fun _ => dp_some nofun)) (fun _ => dp_some nofun)
    simpa using h
  · exact dp_bif (fun h => hk true fun _ hs => h2 h hs.1) fun _ => hk false nofun
set_option maxHeartbeats 4000000 in
theorem mP1 {c1 : G_Node} {c2 : G_Answer} {fl : Bool} {k0 : (G_Node × G_Answer × G_mount_course × Unit) → Option α} (hg : i64b g.Wait = true) (hr : n.Pend.all prRB = true) (hl : n.Pend.length ≤ 100000) (hf : fl = true → ¬ Starts g n)
    (hk : ∀ c : G_mount_course, MB g n c.Node c.a_ c.over_ → DfnP (k0 (c1, c2, c, ())) P) : DfnP (mount_Begin_P1 (settle_Begin L) (settle_Over L) (command_Bytes L) (paxos_Begin L) (n, c1, c2, ⟨n, g, G_Answer.z, false⟩, fl, ()) k0) P := by
  unfold mount_Begin_P1
  dsimp only
  have h1 : ∀ {c : G_mount_course}, c.over_ = true → c.Node = { n with At := 0, P := G_Prop.z, St := G_Settling.z } → (Starts g n → c.a_.E = 241) → DfnP (k0 (c1, c2, c, ())) P := fun ho hn hm => hk _ ⟨fun h => (by rw [ho] at h; cases h), fun _ => hn, hm⟩
  have h2 : ∀ {c : G_mount_course}, c.over_ = false → c.a_ = G_Answer.z → ¬ Starts g n → DfnP (k0 (c1, c2, c, ())) P := fun ho ha hm => hk _ ⟨fun _ => ha, fun h => (by rw [ho] at h; cases h), fun h => absurd h hm⟩
  refine dp_bif (fun h => h1 rfl rfl fun hs => absurd hs (hf h)) fun _ => ?_
  have prop : ∀ {x : G_Cmd} {c e1 e2 : G_mount_course} {K : G_Prop → G_mount_course}, e1.over_ = true → e1.Node = { n with At := 0, P := G_Prop.z, St := G_Settling.z } → (∀ p, (K p).over_ = false) → (∀ p, (K p).a_ = G_Answer.z) → ¬ Starts g n →
      DfnP (bindO (command_Bytes L x) fun r3 => bindO (paxos_Begin L g n.Num r3.1) fun r4 => bif r3.2.1 != 0 then k0 (c1, c2, e1, ()) else bif r4.2.1 != 0 then k0 (c1, c2, e1, ()) else k0 (c1, c2, K r4.1, ())) P := fun q1 q2 q3 q4 q5 => by
    refine dp_bind cBytes_P fun r3 h3 => ?_
    refine dp_bind (pBegin_dfn h3 hg).p fun r4 _ => ?_
    exact dp_bif (fun _ => h1 q1 q2 fun hs => absurd hs q5) fun _ => dp_bif (fun _ => h1 q1 q2 fun hs => absurd hs q5) fun _ => h2 (q3 _) (q4 _) q5
  refine dp_bif (fun h => ?_) fun _ => ?_
  · have hs : ¬ Starts g n := fun hs => by rw [hs.1] at h; cases h
    refine dp_bind (sBegin_dfn hg hr hl).p fun r1 _ => ?_
    refine dp_bif (fun _ => h1 rfl rfl fun q => absurd q hs) fun _ => ?_
    refine dp_bif (fun _ => h1 rfl rfl fun q => absurd q hs) fun _ => ?_
    refine dp_bif (fun _ => h1 rfl rfl fun q => absurd q hs) fun _ => ?_
    refine dp_bind over_dfn.p fun r2 _ => ?_
    exact dp_bif (fun _ => prop (c := ⟨n, g, G_Answer.z, false⟩) (e2 := ⟨n, g, G_Answer.z, false⟩) (K := fun p => ⟨{ n with Serial := IntKind.i64.wrap (n.Serial + 1), At := 7, P := p }, g, G_Answer.z, false⟩) rfl rfl (fun _ => rfl) (fun _ => rfl) hs) fun _ => h2 rfl rfl hs
  have tail : DfnP (bif n.Op.Kind == 0 then
      bif n.Mounted then k0 (c1, c2, (⟨{ n with At := 0, P := G_Prop.z, St := G_Settling.z }, g, (⟨241, noS, false⟩ : G_Answer), true⟩ : G_mount_course), ())
      else bif n.Key != 0 then
        bindO (command_Bytes L (⟨0, n.Key, IntKind.i64.wrap (n.Serial + 1), 0, 0, G_Span.z, 0⟩ : G_Cmd)) fun r9 => bindO (paxos_Begin L g n.Num r9.1) fun r10 =>
          bif r9.2.1 != 0 then k0 (c1, c2, (⟨{ n with At := 0, P := G_Prop.z, St := G_Settling.z }, g, (⟨2, noS, false⟩ : G_Answer), true⟩ : G_mount_course), ())
          else bif r10.2.1 != 0 then k0 (c1, c2, (⟨{ n with At := 0, P := G_Prop.z, St := G_Settling.z }, g, (⟨2, noS, false⟩ : G_Answer), true⟩ : G_mount_course), ())
          else k0 (c1, c2, ⟨{ n with Serial := IntKind.i64.wrap (n.Serial + 1), At := 4, P := r10.1 }, g, G_Answer.z, false⟩, ())
        else k0 (c1, c2, ⟨{ n with At := 0 }, g, G_Answer.z, false⟩, ())
    else bif n.Key != 0 then
      bindO (command_Bytes L (⟨0, n.Key, IntKind.i64.wrap (n.Serial + 1), 0, 0, G_Span.z, 0⟩ : G_Cmd)) fun r11 => bindO (paxos_Begin L g n.Num r11.1) fun r12 =>
        bif r11.2.1 != 0 then k0 (c1, c2, (⟨{ n with At := 0, P := G_Prop.z, St := G_Settling.z }, g, (⟨2, noS, false⟩ : G_Answer), true⟩ : G_mount_course), ())
        else bif r12.2.1 != 0 then k0 (c1, c2, (⟨{ n with At := 0, P := G_Prop.z, St := G_Settling.z }, g, (⟨2, noS, false⟩ : G_Answer), true⟩ : G_mount_course), ())
        else k0 (c1, c2, ⟨{ n with Serial := IntKind.i64.wrap (n.Serial + 1), At := 4, P := r12.1 }, g, G_Answer.z, false⟩, ())
      else k0 (c1, c2, ⟨{ n with At := 0 }, g, G_Answer.z, false⟩, ())) P := by
    refine dp_bif (fun h => ?_) fun h => ?_
    · refine dp_bif (fun _ => h1 rfl rfl fun _ => rfl) fun hm => ?_
      have hs : ¬ Starts g n := fun hs => by rw [hs.2.1] at hm; cases hm
      exact dp_bif (fun _ => prop (c := ⟨n, g, G_Answer.z, false⟩) (e2 := ⟨n, g, G_Answer.z, false⟩) (K := fun p => ⟨{ n with Serial := IntKind.i64.wrap (n.Serial + 1), At := 4, P := p }, g, G_Answer.z, false⟩) rfl rfl (fun _ => rfl) (fun _ => rfl) hs) fun _ => h2 rfl rfl hs
    · have hs : ¬ Starts g n := fun hs => by rw [hs.1] at h; cases h
      exact dp_bif (fun _ => prop (c := ⟨n, g, G_Answer.z, false⟩) (e2 := ⟨n, g, G_Answer.z, false⟩) (K := fun p => ⟨{ n with Serial := IntKind.i64.wrap (n.Serial + 1), At := 4, P := p }, g, G_Answer.z, false⟩) rfl rfl (fun _ => rfl) (fun _ => rfl) hs) fun _ => h2 rfl rfl hs
  refine dp_bif (fun h => ?_) fun _ => tail
  have hs : ¬ Starts g n := fun hs => by rw [hs.1] at h; cases h
  exact dp_bif (fun _ => h1 rfl rfl fun q => absurd q hs) fun _ => tail
end
theorem mBegin_P {L : Nat} {g : G_Geo} {n : G_Node} (hg : i64b g.Wait = true) (hr : n.Pend.all prRB = true) (hl : n.Pend.length ≤ 100000) : DfnP (mount_Begin L g n) (fun r => MB g n r.1 r.2.1 r.2.2.1) := by
  unfold mount_Begin mount_Begin_t
  refine mP0 hg fun fl hf => ?_
  refine mP1 hg hr hl hf fun c hc => ?_
  exact dp_some hc
end Go.Proofs.YtakljpcmbpaeaaaGreat

namespace Go.Proofs.YtakljpcmbpaeaaaGreat
open Go.RowKit
set_option linter.unusedSimpArgs false
set_option linter.unusedVariables false

theorem pend_pr {rows : List (List V)} (h : Rw [.i .i64, .s] rows) : rows.all prRB = true := List.all_eq_true.2 fun r hr => by
  obtain ⟨i, hi, rfl⟩ := List.getElem_of_mem hr
  have := (rowIs_eq (h.is i hi) hi).1
  rw [List.getElem?_eq_getElem hi, Option.some.injEq] at this
  rw [this]; rfl
set_option maxHeartbeats 1000000 in
theorem g16_P {L : Nat} {l : List (List V)} (h : Rw [.i .i64, .s] l) (hL : 100 < L) : DfnP (ref16_Great L l) (fun b => b = false → l.length ≤ 70) := by
  have H := by
    refine loop2_run (α := Bool) (F := ref16_Great_F0) (fun s => s.1 = l ∧ 0 ≤ s.2.1 ∧ s.2.1 ≤ 71) (fun s => 71 - s.2.1.toNat) (fun a => a.1 = l) (fun b => b.1 = true) (fun s hs => ?_) L (l, 0, ()) ⟨rfl, Int.le_refl _, by show (0 : Int) ≤ 71; omega⟩ (by show 71 - (0 : Int).toNat < L; omega)
    obtain ⟨r, i, u⟩ := s
    obtain ⟨rfl, h0, h1⟩ := hs
    dsimp only at h0 h1
    by_cases hi : i < r.length
    · by_cases h7 : i ≤ 70
      · have c3 := h.is i.toNat ((Int.toNat_lt h0).2 hi)
        by_cases hx : 5000 < ((asS (cell r i.toNat 1)).size : Int)
        · refine .inr (.inr ⟨(true, ()), rfl, fun kn ka kb => ?_⟩)
          simp only [ref16_Great_F0, decide_eq_true hi, decide_eq_true h7, decide_eq_true h0, c3, decide_eq_true hx, cond_true]
        · refine .inl ⟨(r, i + 1, ()), ⟨rfl, by show 0 ≤ i + 1; omega, by show i + 1 ≤ 71; omega⟩, by show 71 - (i + 1).toNat < 71 - i.toNat; omega, fun kn ka kb => ?_⟩
          simp only [ref16_Great_F0, decide_eq_true hi, decide_eq_true h7, decide_eq_true h0, c3, decide_eq_false hx, cond_true, cond_false]
          rw [wrap64 (by omega) (by omega)]
      · refine .inr (.inl ⟨(r, ()), rfl, fun kn ka kb => ?_⟩)
        simp only [ref16_Great_F0, decide_eq_true hi, decide_eq_false h7, cond_true, cond_false]
    · refine .inr (.inl ⟨(r, ()), rfl, fun kn ka kb => ?_⟩)
      simp only [ref16_Great_F0, decide_eq_false hi, cond_false]
  rcases H with ⟨a, h1, h2⟩ | ⟨b, h1, h2⟩
  · refine ⟨_, (h2 _ _), fun hb => ?_⟩
    rw [h1] at hb
    have := of_decide_eq_false hb
    omega
  · refine ⟨_, (h2 _ _), fun hb => ?_⟩
    rw [h1] at hb; cases hb
theorem far_P {L : Nat} (l : List Int) (hL : 100 < L) (hl : l.length ≤ 50) {rows : List (List V)} (hr : rows = l.map inV) : DfnP (ref24_far L rows) (fun _ => True) := by
  subst hr
  obtain ⟨b, h, _⟩ := far_run L l (by omega) (by omega)
  exact ⟨b, h, trivial⟩
set_option maxHeartbeats 1000000 in
theorem gLoop {L : Nat} {n : G_Node} (h : Rw [.i .i64, .i .i64, .i .i64, .b] n.Watch) (hL : 100 < L) : (∃ a : G_Node × Unit, a.1 = n ∧ ∀ ka kb, loop2 (α := Bool) (ref24_Great_F0 (ref24_far L)) L (n, 0, ()) ka kb = ka a) ∨ (∃ b : Bool × Unit, b.1 = true ∧ ∀ ka kb, loop2 (α := Bool) (ref24_Great_F0 (ref24_far L)) L (n, 0, ()) ka kb = kb b) := by
  refine loop2_run (α := Bool) (F := ref24_Great_F0 (ref24_far L)) (fun s => s.1 = n ∧ 0 ≤ s.2.1 ∧ s.2.1 ≤ 41) (fun s => 41 - s.2.1.toNat) (fun a => a.1 = n) (fun b => b.1 = true) (fun s hs => ?_) L (n, 0, ()) ⟨rfl, Int.le_refl _, by show (0 : Int) ≤ 41; omega⟩ (by show 41 - (0 : Int).toNat < L; omega)
  obtain ⟨r, i, u⟩ := s
  obtain ⟨rfl, h0, h1⟩ := hs
  dsimp only at h0 h1
  by_cases hi : i < r.Watch.length
  · by_cases h7 : i ≤ 40
    · have c3 := h.is i.toNat ((Int.toNat_lt h0).2 hi)
      obtain ⟨b, hb, -⟩ := far_P (L := L) [asI (cell r.Watch i.toNat 2)] hL (by simp) (rows := [[V.int .i64 (asI (cell r.Watch i.toNat 2))]]) rfl
      cases b with
      | true =>
        refine .inr (.inr ⟨(true, ()), rfl, fun kn ka kb => ?_⟩)
        simp only [ref24_Great_F0, decide_eq_true hi, decide_eq_true h7, decide_eq_true h0, c3, hb, bindO, cond_true]
      | false =>
        refine .inl ⟨(r, i + 1, ()), ⟨rfl, by show 0 ≤ i + 1; omega, by show i + 1 ≤ 41; omega⟩, by show 41 - (i + 1).toNat < 41 - i.toNat; omega, fun kn ka kb => ?_⟩
        simp only [ref24_Great_F0, decide_eq_true hi, decide_eq_true h7, decide_eq_true h0, c3, hb, bindO, cond_true, cond_false]
        rw [wrap64 (by omega) (by omega)]
    · refine .inr (.inl ⟨(r, ()), rfl, fun kn ka kb => ?_⟩)
      simp only [ref24_Great_F0, decide_eq_true hi, decide_eq_false h7, cond_true, cond_false]
  · refine .inr (.inl ⟨(r, ()), rfl, fun kn ka kb => ?_⟩)
    simp only [ref24_Great_F0, decide_eq_false hi, cond_false]
theorem g11_dfn {L : Nat} {t : G_Table} : Dfn (ref11_Great L t) := by
  unfold ref11_Great ref11_Great_t
  exact dfn_bif (fun _ => dfn_some _) fun _ => dfn_bif (fun _ => dfn_some _) fun _ => dfn_some _
theorem glong_dfn {L : Nat} {n : G_Node} : Dfn (ref24_long L n) := by
  unfold ref24_long ref24_long_t
  repeat' (first | exact dfn_some _ | refine dfn_bif (fun _ => ?_) (fun _ => ?_))
theorem great_P {L : Nat} {n : G_Node} (h : Nd n) (hL : 100 < L) : DfnP (ref24_Great L n) (fun b => b = false → n.Pend.length ≤ 70) := by
  unfold ref24_Great ref24_Great_t
  rcases gLoop h.watch hL with ⟨⟨a, u⟩, h1, h2⟩ | ⟨b, h1, h2⟩
  · rw [h2]
    dsimp only at h1
    subst h1
    refine dp_bind (far_P [_, _, _, _, _, _, _, _, _, _, _, _, _, _, _] hL (by simp) rfl) fun r2 _ => ?_
    refine dp_bif (fun _ => dp_some nofun) fun _ => ?_
    refine dp_bind g11_dfn.p fun r3 _ => ?_
    refine dp_bif (fun _ => dp_some nofun) fun _ => ?_
    refine dp_bind (g16_P h.pend hL) fun r4 h4 => ?_
    refine dp_bif (fun _ => dp_some nofun) fun hf => ?_
    have h4 := h4 hf
    refine dp_bind (g16_P h.writes hL) fun r5 _ => ?_
    refine dp_bif (fun _ => dp_some nofun) fun _ => ?_
    refine dp_bif (fun _ => dp_some nofun) fun _ => ?_
    refine dp_bif (fun _ => dp_some nofun) fun _ => ?_
    exact dp_bind glong_dfn.p fun r6 _ => dp_some fun _ => h4
  · rw [h2]
    exact dp_some fun hb => by rw [h1] at hb; cases hb
end Go.Proofs.YtakljpcmbpaeaaaGreat

namespace Go.Proofs.YtakljpcmbpaeaaaGreat
open Go.RowKit
set_option linter.unusedSimpArgs false
set_option linter.unusedVariables false

theorem Rw.nil {ks : List Kc} : Rw ks [] := ⟨Nat.zero_le _, fun i h => absurd h (Nat.not_lt_zero _)⟩
theorem Nd.done {n : G_Node} (h : Nd n) : Nd { n with At := 0, P := G_Prop.z, St := G_Settling.z } :=
  ⟨h.slots, h.holds, h.queue, h.writes, h.pend, h.watch, h.giving, h.pul, Rw.nil, h.parts, h.rl, h.rcells⟩
theorem glue {X o : Option Bool} {k m y h0 h1 e : Bool} (hX : X = some true) (ho : o = some y) (he : k = true → m = true → y = true → h0 = true → h1 = true → e = false) :
    (bif k then bif m then bindO o fun r => bif r then bif h0 then bif h1 then bif e then some false else X else X else X else X else X else X) = some true := by
  subst ho
  cases k <;> cases m <;> cases y <;> cases h0 <;> cases h1 <;> first | exact hX | (rw [he rfl rfl rfl rfl rfl]; exact hX)
theorem mErr {L : Nat} {g : G_Geo} {n : G_Node} (hN : Nd n) (hg : i64b g.Wait = true) (hL : 9223372036854775807 < L) : law24_MountErrors L g n = some true := by
  unfold law24_MountErrors law24_MountErrors_t
  obtain ⟨b, hb, hP⟩ := great_P (L := L) hN (by omega)
  rw [hb]
  cases b with
  | true => rfl
  | false =>
    obtain ⟨⟨o, a, ov, u⟩, hr, hM⟩ := mBegin_P (L := L) (g := g) (n := n) hg (pend_pr hN.pend) (by have := hP rfl; omega)
    show (bindO (mount_Begin L g n) fun r3 => _) = _
    rw [hr]
    have hz := hM.zero
    have ho := hM.over
    have hm := hM.mnt
    dsimp only at hz ho hm
    cases ov with
    | false =>
      have := hz rfl
      subst this
      show (bif (G_Answer.z.E == 0) && ((G_Answer.z.Text.toList == noS.toList) && ((G_Answer.z.Yes == false) && true)) then bindO (wakes_ L) (fun r => some r) else some false) = some true
      have e : (G_Answer.z.Text.toList == noS.toList) = true := beq_self_eq_true (noS.toList)
      rw [e]
      rfl
    | true =>
      have := ho rfl
      subst this
      have hS := ref24_Same_refl (L := L) hN.done hL
      have leaf : (bindO (ref24_Same L { n with At := 0, P := G_Prop.z, St := G_Settling.z } { n with At := 0, P := G_Prop.z, St := G_Settling.z }) fun r => bif r then bindO (wakes_ L) (fun r => some r) else some false) = some true := by rw [hS]; rfl
      exact glue (k := n.Op.Kind == 0) (m := n.Mounted) (o := ref04_May L g) (y := (geoOf g).may) (h0 := decide (0 ≤ n.Num)) (h1 := decide (n.Num < g.Nodes)) (e := a.E != 241) leaf rfl fun hk hu hy h0 h1 => by
        have he := hm ⟨by simpa using hk, hu, hy, of_decide_eq_true h0, of_decide_eq_true h1⟩
        rw [he]; rfl
end Go.Proofs.YtakljpcmbpaeaaaGreat

namespace Go.Proofs.YtakljpcmbpaeaaaGreat
open Go.RowKit
set_option linter.unusedSimpArgs false
set_option linter.unusedVariables false
def shGeo : List Sh := [.int .i64, .int .i64, .int .i64, .int .i64, .int .i64, .int .i64, .int .i64, .int .i64]
structure InGeo (x : Geo) : Prop where
  nodes : (-9223372036854775808 ≤ x.nodes ∧ x.nodes ≤ 9223372036854775807)
  slots : (-9223372036854775808 ≤ x.slots ∧ x.slots ≤ 9223372036854775807)
  blocks : (-9223372036854775808 ≤ x.blocks ∧ x.blocks ≤ 9223372036854775807)
  per : (-9223372036854775808 ≤ x.per ∧ x.per ≤ 9223372036854775807)
  journal : (-9223372036854775808 ≤ x.journal ∧ x.journal ≤ 9223372036854775807)
  log : (-9223372036854775808 ≤ x.log ∧ x.log ≤ 9223372036854775807)
  lease : (-9223372036854775808 ≤ x.lease ∧ x.lease ≤ 9223372036854775807)
  wait : (-9223372036854775808 ≤ x.wait ∧ x.wait ≤ 9223372036854775807)
theorem Geo_of {xs : List V} (h : HasShs shGeo xs) : ∃ x : Geo, .agg xs = geoV x ∧ InGeo x := by
  unfold shGeo at h
  have k0 := h
  clear h
  obtain ⟨_, _, rfl, q0, k1⟩ := k0.cons_inv
  obtain ⟨v0, rfl, w0⟩ := q0.int_inv
  obtain ⟨_, _, rfl, q1, k2⟩ := k1.cons_inv
  obtain ⟨v1, rfl, w1⟩ := q1.int_inv
  obtain ⟨_, _, rfl, q2, k3⟩ := k2.cons_inv
  obtain ⟨v2, rfl, w2⟩ := q2.int_inv
  obtain ⟨_, _, rfl, q3, k4⟩ := k3.cons_inv
  obtain ⟨v3, rfl, w3⟩ := q3.int_inv
  obtain ⟨_, _, rfl, q4, k5⟩ := k4.cons_inv
  obtain ⟨v4, rfl, w4⟩ := q4.int_inv
  obtain ⟨_, _, rfl, q5, k6⟩ := k5.cons_inv
  obtain ⟨v5, rfl, w5⟩ := q5.int_inv
  obtain ⟨_, _, rfl, q6, k7⟩ := k6.cons_inv
  obtain ⟨v6, rfl, w6⟩ := q6.int_inv
  obtain ⟨_, _, rfl, q7, k8⟩ := k7.cons_inv
  obtain ⟨v7, rfl, w7⟩ := q7.int_inv
  obtain rfl := k8.nil_inv
  exact ⟨⟨v0, v1, v2, v3, v4, v5, v6, v7⟩, rfl, wf_i64n w0, wf_i64n w1, wf_i64n w2, wf_i64n w3, wf_i64n w4, wf_i64n w5, wf_i64n w6, wf_i64n w7⟩
end Go.Proofs.YtakljpcmbpaeaaaGreat

namespace Go.Proofs.YtakljpcmbpaeaaaGreat
open Go.RowKit
set_option linter.unusedSimpArgs false
set_option linter.unusedVariables false

def shK : Sh → Kc
  | .int k => .i k
  | .bool => .b
  | .str => .s
  | .sl _ => .m
theorem sh_is {s : Sh} {x : V} (h : HasSh s x) : isC (shK s) x = true := by
  cases h with
  | int k n h => exact decide_eq_true rfl
  | bool b => rfl
  | str s h => rfl
  | sl row es h1 h2 h3 => rfl
theorem cell_one {xs : List V} {j : Nat} {x : V} (h : xs[j]? = some x) : cell [xs] 0 j = x := by
  show xs.getD j .undef = x
  rw [List.getD_eq_getElem?_getD, h]; rfl
theorem seg_of (xs : List V) : ∀ (ss : List Sh) (j : Nat), j + ss.length ≤ xs.length → (∀ i (h : i < ss.length), ∃ x, xs[j + i]? = some x ∧ HasSh ss[i] x) → segIs (ss.map shK) [xs] 0 j = true
  | [], j, hl, _ => by
    show Nat.ble j xs.length = true
    exact Nat.ble_eq_true_of_le hl
  | s :: ss, j, hl, h => by
    obtain ⟨x, h1, h2⟩ := h 0 (by simp)
    show (isC (shK s) (cell [xs] 0 j) && segIs (ss.map shK) [xs] 0 (j + 1)) = true
    have e : isC (shK s) x = true := sh_is h2
    rw [cell_one (by simpa using h1), e, seg_of xs ss (j + 1) (by simp at hl; omega) fun i hi => by
      obtain ⟨y, k1, k2⟩ := h (i + 1) (by simpa using hi)
      exact ⟨y, by rw [show j + 1 + i = j + (i + 1) by omega]; exact k1, by simpa using k2⟩]
    rfl
theorem shs_row {ss : List Sh} {xs : List V} (h : HasShs ss xs) : rowIs (ss.map shK) [xs] 0 = true := by
  unfold rowIs
  rw [seg_of xs ss 0 (by rw [h.1]; omega) fun i hi => ⟨xs[i]'(by rw [h.1]; exact hi), by simp [h.1, hi], h.2 i hi (by rw [h.1]; exact hi)⟩]
  show (true && Nat.beq xs.length (ss.map shK).length) = true
  rw [List.length_map, h.1, Nat.beq_refl]; rfl
theorem Rw_of {row : List Sh} {es : List (List V)} (h1 : es.length ≤ maxLen) (h2 : ∀ r ∈ es, HasShs row r) : Rw (row.map shK) es :=
  ⟨h1, fun i hi => (rowIs_at _ (List.getElem?_eq_getElem hi)).trans (shs_row (h2 _ (List.getElem_mem hi)))⟩
theorem cell_sl {ss : List Sh} {xs : List V} (h : HasShs ss xs) {j : Nat} {row : List Sh} (hj : ss[j]? = some (.sl row)) : Rw (row.map shK) (asR (cell [xs] 0 j)) := by
  obtain ⟨hlt, e⟩ := List.getElem?_eq_some_iff.1 hj
  have hx : j < xs.length := by rw [h.1]; exact hlt
  have := h.2 j hlt hx
  rw [e] at this
  obtain ⟨es, h1, h2, h3⟩ := this.sl_inv
  rw [cell_one (List.getElem?_eq_getElem hx), h1]
  exact Rw_of h2 h3
set_option maxRecDepth 100000 in
theorem node_nd {xs : List V} (h : HasShs shNod xs) : G_Node.cs (G_Node.of xs) = xs ∧ Nd (G_Node.of xs) := by
  refine ⟨?_, ?_⟩
  · have := cd_Node.h (.agg xs) (show rowIs G_Node.ks [xs] 0 = true from shs_row h)
    injection this
  · exact ⟨cell_sl h (j := 11) rfl, cell_sl h (j := 12) rfl, cell_sl h (j := 13) rfl, cell_sl h (j := 17) rfl, cell_sl h (j := 18) rfl, cell_sl h (j := 19) rfl, cell_sl h (j := 20) rfl, cell_sl h (j := 47) rfl, cell_sl h (j := 49) rfl, cell_sl h (j := 63) rfl, cell_sl h (j := 57) rfl, cell_sl h (j := 58) rfl⟩
end Go.Proofs.YtakljpcmbpaeaaaGreat
