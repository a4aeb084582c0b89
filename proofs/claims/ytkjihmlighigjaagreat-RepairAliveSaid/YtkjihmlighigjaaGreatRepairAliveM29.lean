/- The awp calculus, 21: what simp needs beside: ends, plain values, calls. -/
import Derived.Test.YtkjihmlighigjaaGreatRepairAliveM28
namespace Go.Proofs.YtkjihmlighigjaaGreat
open Go.RowKit

section
variable {P : Program} {l : List ResultVar} {post : V → Prop} {fr : Fr} {st : St}
def rv1 (P : Program) (fr : Fr) (st : St) : ResultVar → Option V
  | .tmp t => some (ev fr (.tmp t))
  | .cell a t => vLoadT P t st (ev fr (.tmp a))
def rvs (P : Program) (fr : Fr) (st : St) : List ResultVar → Option (List V)
  | [] => some []
  | r :: l => (rv1 P fr st r).bind fun x => (rvs P fr st l).map fun xs => x :: xs
def one1 : List V → V
  | [x] => x
  | xs => .tup xs
def rvv (P : Program) (fr : Fr) (st : St) (l : List ResultVar) : Option V := (rvs P fr st l).map one1
theorem rvs_eq : ∀ l : List ResultVar, rvs P fr st l = resL P fr st l
  | [] => rfl
  | r :: l => by
    unfold rvs resL
    rw [rvs_eq l]
    cases r <;> rfl
theorem rvv_eq (l : List ResultVar) : rvv P fr st l = resV P fr st l := by
  unfold rvv resV
  rw [rvs_eq]
  cases resL P fr st l with
  | none => rfl
  | some xs =>
    match xs with
    | [] => rfl
    | [x] => rfl
    | x :: y :: r => rfl
@[go_sem] theorem rvv_e {l : List ResultVar} : rvv P fr st l = (rvs P fr st l).map one1 := nrfl rfl
@[go_sem] theorem rvs_n : rvs P fr st [] = some [] := nrfl rfl
@[go_sem] theorem rvs_c {r : ResultVar} {l : List ResultVar} : rvs P fr st (r :: l) = (rv1 P fr st r).bind fun x => (rvs P fr st l).map fun xs => x :: xs := nrfl rfl
@[go_sem] theorem rv1_t {t : Tmp} : rv1 P fr st (.tmp t) = some (ev fr (.tmp t)) := nrfl rfl
@[go_sem] theorem rv1_c {a : Tmp} {t : TypeId} : rv1 P fr st (.cell a t) = vLoadT P t st (ev fr (.tmp a)) := nrfl rfl
@[go_sem] theorem one1_0 : one1 [] = .tup [] := nrfl rfl
@[go_sem] theorem one1_1 {x : V} : one1 [x] = x := nrfl rfl
@[go_sem] theorem one1_2 {x y : V} {r : List V} : one1 (x :: y :: r) = .tup (x :: y :: r) := nrfl rfl
@[go_sem] theorem bindV_k {x : V} {K : V → Prop} : bindV (some x) K = K x := nrfl rfl
end
@[go_sem] theorem ieq_dec (a b : Int) : (a == b) = decide (a = b) := rfl
@[go_sem] theorem ine_dec (a b : Int) : (a != b) = !decide (a = b) := rfl
@[go_sem] theorem neq_dec (a b : Nat) : (a == b) = decide (a = b) := by cases h : a == b <;> simp_all
theorem plain_agg {cs : List V} : Plain (.agg cs) ↔ ∀ x ∈ cs, Plain x := ⟨fun h => by cases h; assumption, fun h => .agg cs h⟩
theorem plain_tup {cs : List V} : Plain (.tup cs) ↔ ∀ x ∈ cs, Plain x := ⟨fun h => by cases h; assumption, fun h => .tup cs h⟩
theorem plain_tp {cs : List V} : Plain (.tp cs) ↔ ∀ x ∈ cs, Plain x := ⟨fun h => by cases h; assumption, fun h => .tp cs h⟩
theorem plain_int {k : IntKind} {n : Int} : Plain (.int k n) ↔ True := ⟨fun _ => trivial, fun _ => .int k n⟩
theorem plain_bool {b : Bool} : Plain (.bool b) ↔ True := ⟨fun _ => trivial, fun _ => .bool b⟩
theorem plain_str {b : ByteArray} : Plain (.str b) ↔ True := ⟨fun _ => trivial, fun _ => .str b⟩
theorem plain_nilp : Plain .nilp ↔ True := ⟨fun _ => trivial, fun _ => .nilp⟩
theorem plain_undef : Plain .undef ↔ True := ⟨fun _ => trivial, fun _ => .undef⟩
theorem plain_nilfn : Plain .nilfn ↔ True := ⟨fun _ => trivial, fun _ => .nilfn⟩
section
variable {P : Program} {g : FuncId} {args : List V} {st : St} {K : V → St → Prop}
end
def PCon (P : Program) (h : FuncId) (args : List V) (r : V) : Prop := Con P h args (· = r) ∧ ∀ x ∈ args, Plain x
def ac1 (P : Program) (ops : Array Oper) (h : FuncId) (args : List V) (d : Option Tmp) (l : List Oper) (fr : Fr) (st : St) (K : Fr → St → Prop) : Prop := acall P h args st fun x st' => aops P ops l (fr.put d x) st' K
def dc1 (P : Program) (ops : Array Oper) (n0 : Nat) (K : Fr → Gs → Prop) (h : FuncId) (args : List V) (d : Option Tmp) (op : Oper) (l : List Oper) (k : Nat) (rd wr : Acc) (fr : Fr) (g : Gs) : Prop :=
  (∃ T x, okAcc op wr T [] = true ∧ memL T (n0 + k) = true ∧
      (((∀ y ∈ args, Plain y) ∧ Con P h args (· = x)) ∨ (∃ fz args', Fzs ⟨resT (memL T) g, n0 + k⟩ fz args args' ∧ Con P h args' (· = x) ∧ Sc x) ∨ ∃ fz args', Fzs ⟨resT (memL T) g, n0 + k⟩ fz args args' ∧ FCon P h args' x) ∧
      dl P ops n0 K l (k + 1) ((k, T, []) :: rd) wr (fr.put d x) g) ∨
      ∃ T x b, okAcc op wr T [n0 + k] = true ∧ okAcc op rd T [n0 + k] = true ∧ memL T (n0 + k) = true ∧
        (∃ fz args' es sz, NArgs ⟨resT (memL T) g, n0 + k⟩ fz args args' es ∧ NCon P h args' es sz ∧ x = .bs (n0 + k) 0 es.length es.length ∧ b = ⟨es, sz, 0⟩) ∧
        dl P ops n0 K l (k + 1) rd ((k, T, [n0 + k]) :: wr) (fr.put d x) (St.new ⟨g, n0 + k⟩ b).get
section
variable {P : Program} {ops : Array Oper} {n0 k : Nat} {h : FuncId} {first caps args args' : List V} {d : Option Tmp} {op : Oper} {l : List Oper} {rd wr : Acc} {fr : Fr} {st : St} {g : Gs} {r : V}
@[go_sem] theorem acl_fn {K : Fr → St → Prop} : acl P ops (.fn (.func h) first caps) args d l fr st K = ac1 P ops h (first ++ (args ++ caps)) d l fr st K := nrfl rfl
@[go_sem] theorem dcl_fn {K : Fr → Gs → Prop} : dcl P ops n0 K (.fn (.func h) first caps) args d op l k rd wr fr g = dc1 P ops n0 K h (first ++ (args ++ caps)) d op l k rd wr fr g := nrfl rfl
end
attribute [go_sem] decTrue decFalse wrap64 Int.tdiv_eq_ediv_of_nonneg Int.tmod_eq_emod_of_nonneg cond_true cond_false Option.bind_some Option.map_some Option.bind_none Option.map_none if_true if_false
  List.getElem?_cons_zero List.getElem?_cons_succ List.getElem?_nil List.getElem?_toArray List.drop_zero List.drop_succ_cons List.drop_nil List.take_zero List.take_succ_cons List.take_nil List.head?_cons List.length_cons List.length_nil List.map_cons List.map_nil List.set_cons_zero List.set_cons_succ List.cons_append List.nil_append List.append_nil List.append_assoc
  Nat.zero_add Nat.add_zero Nat.le_refl decide_true decide_false Bool.and_true Bool.true_and Bool.and_false Bool.false_and Bool.not_true Bool.not_false
  plain_agg plain_tup plain_tp plain_int plain_bool plain_str plain_nilp plain_undef plain_nilfn List.forall_mem_cons List.not_mem_nil
end Go.Proofs.YtkjihmlighigjaaGreat
