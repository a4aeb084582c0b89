/- Regions that draw their order: quiet operations (they look at no memory) in any order between others whose order is forced. -/
import Derived.Test.YtkjihmlighigjaaGreatRepairAliveM36
set_option linter.unusedSimpArgs false
set_option linter.unusedVariables false
namespace Go.Proofs.YtkjihmlighigjaaGreat
open Go.RowKit

def quietB : Op → Bool
  | .move _ => true
  | .assign _ => true
  | .nilCheck _ => true
  | .fieldAddr _ _ _ => true
  | .field _ _ _ => true
  | .extract _ _ => true
  | _ => false
def swapB : Op → Bool
  | .call c => match c.callee with
    | .builtin .clear => false
    | _ => true
  | _ => true
theorem quiet_st {P : Program} {op : Op} {fr : Fr} (h : quietB op = true) (st st' : St) : vop P op fr st = vop P op fr st' := by
  cases op <;> first | rfl | (simp [quietB] at h; done)
theorem quiet_aop {P : Program} {op : Op} {fr : Fr} {st : St} {K : V → St → Prop} (h : quietB op = true) : aop P op fr st K = bindV (vop P op fr st) (fun x => K x st) := by
  cases op <;> first | rfl | (simp [quietB] at h; done)
theorem acall_gen {P : Program} {g : FuncId} {args : List V} {st : St} {K K' : V → St → Prop} (hK : ∀ v s, K v s → K' v s) (hh : acall P g args st K) : acall P g args st K' := by
  rcases hh with ⟨p, h1, h2, h3⟩ | ⟨f, a', p, h1, h2, h3⟩ | ⟨f, a', p, h1, h2, h3⟩ | ⟨f, a', q, h1, h2, h3⟩ | ⟨p, h1, h2⟩
  · exact .inl ⟨p, h1, h2, fun q hq => hK _ _ (h3 q hq)⟩
  · exact .inr (.inl ⟨f, a', p, h1, h2, fun q hq => ⟨(h3 q hq).1, hK _ _ (h3 q hq).2⟩⟩)
  · exact .inr (.inr (.inl ⟨f, a', p, h1, h2, fun q hq => hK _ _ (h3 q hq)⟩))
  · exact .inr (.inr (.inr (.inl ⟨f, a', q, h1, h2, hK _ _ h3⟩)))
  · exact .inr (.inr (.inr (.inr ⟨p, h1, fun r s hr => hK _ _ (h2 r s hr)⟩)))
theorem aop_gen {P : Program} {op : Op} {fr fr' : Fr} {st : St} {K K' : V → St → Prop} (h : ∀ y ∈ op.operands, ev fr y = ev fr' y) (hK : ∀ v s, K v s → K' v s) (hs : swapB op = true) (hk : aop P op fr st K) : aop P op fr' st K' := by
  have bv : bindV (vop P op fr st) (fun x => K x st) → bindV (vop P op fr' st) (fun x => K' x st) := fun hh => by
    rw [← vop_congr h]
    cases hv : vop P op fr st with
    | none => rw [hv] at hh; exact hh
    | some x => rw [hv] at hh; exact hK _ _ hh
  have bs : bindS (sop P op fr st) K → bindS (sop P op fr' st) K' := fun hh => by
    rw [← sop_congr h]
    cases hv : sop P op fr st with
    | none => rw [hv] at hh; exact hh
    | some x => rw [hv] at hh; exact hK _ _ hh
  cases op <;> try first | exact bv hk | exact bs hk
  case binOp o t x y u =>
    unfold aop at hk ⊢
    dsimp only at hk ⊢
    cases hn : isNilC y with
    | true =>
      rw [hn, cond_true] at hk
      rw [cond_true, ← h x (by simp [Op.operands])]
      exact anK_mono (fun v hv => hK _ _ hv) hk
    | false => rw [hn, cond_false] at hk; rw [cond_false]; exact bv hk
  case convert s d x =>
    unfold aop at hk ⊢
    dsimp only at hk ⊢
    cases hn : mkBytes P s d with
    | true => rw [hn, cond_true] at hk; rw [cond_true]; exact bs hk
    | false => rw [hn, cond_false] at hk; rw [cond_false]; exact bv hk
  case call c =>
    obtain ⟨callee, args, ts⟩ := c
    cases callee with
    | builtin b => cases b <;> first | exact bv hk | exact bs hk | (simp [swapB] at hs; done)
    | invoke a b => exact hk
    | value f =>
      unfold aop at hk ⊢
      dsimp only at hk ⊢
      simp only [Op.operands, Call.operands] at h
      rw [← h f (by simp), ← List.map_congr_left (l := args.toList) (f := ev fr) (g := ev fr') fun y hy => h y (by simp_all)]
      split at hk
      · exact acall_gen hK hk
      · exact hk
theorem aops_none {P : Program} {ops : Array Oper} {o : Oper} {r : List Oper} {fr : Fr} {st : St} {K : Fr → St → Prop} (g : o.guard = none) : aops P ops (o :: r) fr st K = aop P o.op fr st fun x st' => aops P ops r (fr.put o.dst x) st' K := by
  conv => lhs; unfold aops
  rw [g]
structure SwapOk (ops : Array Oper) (q i : Oper) : Prop where
  qq : quietB q.op = true
  gq : q.guard = none
  gi : i.guard = none
  s : swapB i.op = true
  h1 : ∀ d, i.dst = some d → d ∉ q.looksAt ops
  h2 : ∀ d, q.dst = some d → d ∉ i.looksAt ops
  h3 : ∀ d, q.dst = some d → i.dst ≠ some d
section
variable {P : Program} {ops : Array Oper} {K : Fr → St → Prop}
theorem aops_swap {q i : Oper} {r : List Oper} {fr : Fr} {st : St} (o : SwapOk ops q i) (h : aops P ops (q :: i :: r) fr st K) : aops P ops (i :: q :: r) fr st K := by
  rw [aops_none o.gq, quiet_aop o.qq] at h
  obtain ⟨x, hx, h⟩ := bindV_some h
  rw [aops_none o.gi] at h ⊢
  refine aop_gen (fun y hy => ev_apart o.h2 y hy) (fun v s hv => ?_) o.s h
  rw [aops_none o.gq, quiet_aop o.qq, vop_congr (ev_apart o.h1), quiet_st o.qq s st, hx]
  show aops P ops r ((fr.put i.dst v).put q.dst x) s K
  rw [← Fr.put_comm fr x v o.h3]
  exact hv
theorem aops_pre {r r' : List Oper} (h : ∀ fr st, aops P ops r fr st K → aops P ops r' fr st K) : ∀ (l : List Oper), (∀ o ∈ l, o.guard = none ∧ swapB o.op = true) → ∀ fr st, aops P ops (l ++ r) fr st K → aops P ops (l ++ r') fr st K
  | [], _, fr, st, hk => h fr st hk
  | o :: l, hg, fr, st, hk => by
    rw [List.cons_append, aops_none (hg o (by simp)).1] at hk ⊢
    exact aop_gen (fun _ _ => rfl) (fun v s hv => aops_pre h l (fun o' ho' => hg o' (List.mem_cons_of_mem _ ho')) _ _ hv) (hg o (by simp)).2 hk
theorem aops_front {i : Oper} {r : List Oper} : ∀ (l : List Oper), (∀ q ∈ l, SwapOk ops q i) → ∀ fr st, aops P ops (l ++ i :: r) fr st K → aops P ops (i :: (l ++ r)) fr st K
  | [], _, fr, st, hk => hk
  | q :: l, ho, fr, st, hk => by
    have hq := ho q (by simp)
    refine aops_swap hq ?_
    refine aops_pre (r := l ++ i :: r) (r' := i :: (l ++ r)) (fun fr st h => aops_front l (fun q' hq' => ho q' (List.mem_cons_of_mem _ hq')) fr st h) [q] (fun o hh => ?_) fr st hk
    rw [List.mem_singleton.1 hh]
    exact ⟨hq.gq, by have := hq.qq; revert this; cases q.op <;> simp [quietB, swapB]⟩
end
def pickL (ops : Array Oper) (l : List Nat) : List Oper := l.filterMap fun i => ops[i]?
def sepB (ops : Array Oper) (q x : Nat) : Bool := match ops[q]?, ops[x]? with
  | some oq, some ox => (match ox.dst with | some d => !(oq.looksAt ops).contains d | none => true) && (match oq.dst with | some d => ox.dst != some d && (Region.waitsFor .any ops x q || !(ox.looksAt ops).contains d) | none => true)
  | _, _ => false
def sepL (ops : Array Oper) : List Nat → List Nat → Bool
  | [], _ => true
  | q :: r, ms => (r ++ ms).all (fun x => sepB ops q x) && sepL ops r ms
def chainL (ops : Array Oper) : List Nat → Bool
  | a :: b :: r => Region.waitsFor .any ops b a && chainL ops (b :: r)
  | _ => true
def qSel (ops : Array Oper) : List Nat := (List.range ops.size).foldl (fun acc i => match ops[i]? with
  | some o => bif quietB o.op && o.after.all (fun e => !Region.binds .any e || acc.contains e.on) then acc ++ [i] else acc
  | none => acc) []
def mSel (ops : Array Oper) (qs : List Nat) : List Nat := (List.range ops.size).filter fun i => !qs.contains i
def ndL : List Nat → Bool
  | [] => true
  | a :: r => !r.contains a && ndL r
def mqB (ops : Array Oper) (qs ms : List Nat) : Bool :=
  ((List.range ops.size).all fun i => qs.contains i || ms.contains i) && ((qs ++ ms).all fun i => decide (i < ops.size)) && (Nat.beq (qs ++ ms).length ops.size && ndL (qs ++ ms)) &&
  (ops.all fun o => o.guard.isNone && swapB o.op) && (qs.all fun i => match ops[i]? with | some o => quietB o.op | none => false) && sepL ops qs ms && chainL ops ms &&
  ((List.range ops.size).all fun i => match ops[i]? with | some o => o.after.all fun e => decide (e.on < i) | none => true)
theorem sepL_mid {ops : Array Oper} {ms : List Nat} {i : Nat} : ∀ (q1 q2 : List Nat), sepL ops (q1 ++ i :: q2) ms = true → sepL ops (q1 ++ q2) ms = true ∧ ∀ q ∈ q1, sepB ops q i = true
  | [], q2, h => ⟨by have := (and_tt' (show ((q2 ++ ms).all (fun x => sepB ops i x) && sepL ops q2 ms) = true from h)).2; exact this, nofun⟩
  | q :: q1, q2, h => by
    obtain ⟨h1, h2⟩ := and_tt' (show (((q1 ++ i :: q2) ++ ms).all (fun x => sepB ops q x) && sepL ops (q1 ++ i :: q2) ms) = true from h)
    obtain ⟨k1, k2⟩ := sepL_mid q1 q2 h2
    have h1 := List.all_eq_true.1 h1
    refine ⟨?_, fun x hx => ?_⟩
    · show (((q1 ++ q2) ++ ms).all (fun x => sepB ops q x) && sepL ops (q1 ++ q2) ms) = true
      rw [k1, Bool.and_true]
      exact List.all_eq_true.2 fun x hx => h1 x (by simp only [List.mem_append, List.mem_cons] at hx ⊢; grind)
    · rcases List.mem_cons.1 hx with rfl | hx
      · exact h1 i (by simp)
      · exact k2 x hx
theorem sepL_head {ops : Array Oper} {r : List Nat} {i : Nat} : ∀ (qs : List Nat), sepL ops qs (i :: r) = true → sepL ops qs r = true ∧ ∀ q ∈ qs, sepB ops q i = true
  | [], _ => ⟨rfl, nofun⟩
  | q :: qs, h => by
    obtain ⟨h1, h2⟩ := and_tt' (show ((qs ++ i :: r).all (fun x => sepB ops q x) && sepL ops qs (i :: r)) = true from h)
    obtain ⟨k1, k2⟩ := sepL_head qs h2
    have h1 := List.all_eq_true.1 h1
    refine ⟨?_, fun x hx => ?_⟩
    · show ((qs ++ r).all (fun x => sepB ops q x) && sepL ops qs r) = true
      rw [k1, Bool.and_true]
      exact List.all_eq_true.2 fun x hx => h1 x (by simp only [List.mem_append, List.mem_cons] at hx ⊢; grind)
    · rcases List.mem_cons.1 hx with rfl | hx
      · exact h1 i (by simp)
      · exact k2 x hx
theorem chain_pred {ops : Array Oper} {i : Nat} : ∀ (m : Nat) (r : List Nat), chainL ops (m :: r) = true → i ∈ r → ∃ p ∈ m :: r, Region.waitsFor .any ops i p = true
  | m, [], _, h => by cases h
  | m, b :: r, hc, h => by
    obtain ⟨h1, h2⟩ := and_tt' (show (Region.waitsFor .any ops b m && chainL ops (b :: r)) = true from hc)
    rcases List.mem_cons.1 h with rfl | h
    · exact ⟨m, by simp, h1⟩
    · obtain ⟨p, hp, hw⟩ := chain_pred b r h2 h
      exact ⟨p, List.mem_cons_of_mem _ hp, hw⟩
structure Mq (ops : Array Oper) (qs ms : List Nat) (listed : Array Bool) : Prop where
  size : listed.size = ops.size
  out : ∀ i, listed.getD i true = false → i ∈ qs ∨ i ∈ ms
  inn : ∀ i ∈ qs ++ ms, listed.getD i true = false
  nd : (qs ++ ms).Nodup
  quiet : ∀ i ∈ qs, ∃ o, ops[i]? = some o ∧ quietB o.op = true
  sep : sepL ops qs ms = true
  chain : chainL ops ms = true
structure Ms0 (ops : Array Oper) : Prop where
  ok : ∀ (i : Nat) (o : Oper), ops[i]? = some o → o.guard = none ∧ swapB o.op = true
  back : ∀ (i : Nat) (o : Oper), ops[i]? = some o → ∀ e ∈ o.after, e.on < i
section
variable {mu0 : Mu} {S0 : Stab} {B nt : Nat} {w0 : World} {P : Program} {ops : Array Oper} {K : Fr → St → Prop} {Q : Exit → Act → World → Prop}
theorem not_waits {listed : Array Bool} {i p : Nat} (hi : i ∈ Region.ready .any ops listed) (hp : listed.getD p true = false) : Region.waitsFor .any ops i p = false := by
  cases h : Region.waitsFor .any ops i p with
  | false => rfl
  | true =>
    obtain ⟨-, o, ho, hall⟩ := mem_ready.1 hi
    obtain ⟨o', ho', e, he, hb, hon⟩ := Region.waitsFor_spec h
    have : o' = o := Option.some.inj (ho'.symm.trans ho)
    subst this
    have := hall e he hb
    rw [hon, getD_both hp] at this
    cases this
theorem swapOk_of {listed : Array Bool} {i q : Nat} {oi oq : Oper} (h0 : Ms0 ops) (hi : i ∈ Region.ready .any ops listed) (hq : listed.getD q true = false) (ei : ops[i]? = some oi) (eq : ops[q]? = some oq) (hqq : quietB oq.op = true) (hs : sepB ops q i = true) : SwapOk ops oq oi := by
  unfold sepB at hs
  rw [ei, eq] at hs
  dsimp only at hs
  obtain ⟨s1, s2⟩ := and_tt' hs
  refine ⟨hqq, (h0.ok q oq eq).1, (h0.ok i oi ei).1, (h0.ok i oi ei).2, fun d hd => ?_, fun d hd => ?_, fun d hd => ?_⟩
  · rw [hd] at s1
    simpa using s1
  · rw [hd] at s2
    dsimp only at s2
    obtain ⟨-, s2⟩ := and_tt' s2
    rw [not_waits hi hq, Bool.false_or] at s2
    simpa using s2
  · rw [hd] at s2
    dsimp only at s2
    obtain ⟨s2, -⟩ := and_tt' s2
    simpa using s2
theorem ready_some {listed : Array Bool} (h0 : Ms0 ops) (hs : listed.size = ops.size) : ∀ (i : Nat), listed.getD i true = false → Region.ready .any ops listed ≠ [] := by
  intro i
  induction i using Nat.strongRecOn with
  | _ i ih =>
    intro hi he
    have hlt : i < listed.size := by
      rcases Nat.lt_or_ge i listed.size with h | h
      · exact h
      · simp [Array.getElem?_eq_none h] at hi
    have ho : ops[i]? = some (ops[i]'(by omega)) := Array.getElem?_eq_getElem (by omega)
    have : i ∉ Region.ready .any ops listed := by rw [he]; simp
    refine this (mem_ready.2 ⟨hi, _, ho, fun e hee hb => ?_⟩)
    cases hl : listed.getD e.on false with
    | true => rfl
    | false =>
      have hlt2 := h0.back i _ ho e hee
      exact absurd he (ih e.on hlt2 (getD_in (by omega) hl))
theorem pickL_app {l1 l2 : List Nat} : pickL ops (l1 ++ l2) = pickL ops l1 ++ pickL ops l2 := List.filterMap_append
theorem pickL_cons {i : Nat} {o : Oper} {l : List Nat} (h : ops[i]? = some o) : pickL ops (i :: l) = o :: pickL ops l := by
  unfold pickL
  rw [List.filterMap_cons, h]
theorem wpAny_mq (h0 : Ms0 ops) (hd : ∀ o ∈ ops.toList, ∀ t, o.dst = some t → t < nt) (hQ : ∀ fr st a w, AR mu0 S0 B w0 nt fr st a w → K fr st → Q .normal a w) : ∀ (g : Nat) (qs ms : List Nat) (listed : Array Bool) (fr : Fr) (st : St) (a : Act) (w : World), (qs ++ ms).length = g →
    Mq ops qs ms listed → AR mu0 S0 B w0 nt fr st a w → aops P ops (pickL ops (qs ++ ms)) fr st K → wpAny P .any ops Q g listed a w
  | 0, qs, ms, listed, fr, st, a, w, hg, inv, h, hk => by
    have hq : qs = [] ∧ ms = [] := by simpa using hg
    obtain ⟨rfl, rfl⟩ := hq
    refine ⟨?_, hQ _ _ _ _ h hk⟩
    cases hr : Region.ready .any ops listed with
    | nil => rfl
    | cons i r =>
      have : i ∈ Region.ready .any ops listed := by rw [hr]; simp
      rcases inv.out i (mem_ready.1 this).1 with h | h <;> cases h
  | g + 1, qs, ms, listed, fr, st, a, w, hg, inv, h, hk => by
    have hmem : ∃ i, i ∈ qs ++ ms := by
      cases hl : qs ++ ms with
      | nil => rw [hl] at hg; simp at hg
      | cons i r => exact ⟨i, by simp⟩
    obtain ⟨j, hj⟩ := hmem
    refine ⟨fun he => absurd he (ready_some h0 inv.size j (inv.inn j hj)), fun i hi => ?_⟩
    obtain ⟨hiu, oi, hoi, hall⟩ := mem_ready.1 hi
    have hdi : ∀ t, oi.dst = some t → t < nt := hd oi (by rw [Array.mem_toList_iff]; exact Array.mem_of_getElem? hoi)
    have hlt : i < listed.size := by
      rw [inv.size]; exact (Array.getElem?_eq_some_iff.1 hoi).1
    have go : ∀ (qs' ms' : List Nat), (qs' ++ ms').length = g → (∀ x, x ∈ qs' ++ ms' ↔ x ∈ qs ++ ms ∧ x ≠ i) → (qs' ++ ms').Nodup → (∀ x ∈ qs', x ∈ qs) → sepL ops qs' ms' = true → chainL ops ms' = true → aops P ops (oi :: pickL ops (qs' ++ ms')) fr st K →
        wpOp P ops Q i (wpAny P .any ops Q g (listed.setIfInBounds i true)) a w := fun qs' ms' e1 e2 e3 e4 e5 e6 e7 =>
      aops_step hoi hdi h e7 fun fr st a w h hk => wpAny_mq h0 hd hQ g qs' ms' _ fr st a w e1 ⟨by simpa using inv.size, fun x hx => by
        by_cases hxi : i = x
        · subst hxi
          simp [hlt] at hx
        · rw [getD_set_ne true hxi] at hx
          have := (e2 x).2 ⟨by rcases inv.out x hx with h | h <;> simp [h], fun e => hxi e.symm⟩
          simpa using this, fun x hx => by
        obtain ⟨k1, k2⟩ := (e2 x).1 hx
        rw [getD_set_ne true (fun e => k2 e.symm)]
        exact inv.inn x k1, e3, fun x hx => inv.quiet x (e4 x hx), e5, e6⟩ h hk
    have frontL : ∀ (l : List Nat) (r : List Oper), (∀ q ∈ l, q ∈ qs) → (∀ q ∈ l, sepB ops q i = true) → aops P ops (pickL ops l ++ oi :: r) fr st K → aops P ops (oi :: (pickL ops l ++ r)) fr st K := fun l r h1 h2 => aops_front _ (fun o ho => by
      obtain ⟨q, hq, e⟩ := List.mem_filterMap.1 ho
      obtain ⟨o', eo, hqq⟩ := inv.quiet q (h1 q hq)
      have : o' = o := Option.some.inj (eo.symm.trans e)
      subst this
      exact swapOk_of h0 hi (inv.inn q (List.mem_append_left _ (h1 q hq))) hoi eo hqq (h2 q hq)) fr st
    rcases inv.out i hiu with hin | hin
    · obtain ⟨q1, q2, rfl⟩ := List.append_of_mem hin
      obtain ⟨s1, s2⟩ := sepL_mid q1 q2 inv.sep
      have nd := inv.nd
      refine go (q1 ++ q2) ms ?_ (fun x => ?_) ?_ (fun x hx => ?_) s1 inv.chain ?_
      · simp only [List.length_append, List.length_cons] at hg ⊢; omega
      · have hni : i ∉ q1 ++ (q2 ++ ms) := by
          have : (q1 ++ i :: (q2 ++ ms)).Nodup := by simpa [List.append_assoc] using nd
          have := (List.perm_middle.nodup_iff).1 this
          exact (List.nodup_cons.1 this).1
        constructor
        · intro hx
          refine ⟨by simp only [List.mem_append, List.mem_cons] at hx ⊢; grind, fun e => hni ?_⟩
          subst e
          simpa [List.append_assoc] using hx
        · rintro ⟨hx, hne⟩
          simp only [List.mem_append, List.mem_cons] at hx ⊢
          grind
      · have : (q1 ++ i :: (q2 ++ ms)).Nodup := by simpa [List.append_assoc] using nd
        have := (List.perm_middle.nodup_iff).1 this
        simpa [List.append_assoc] using (List.nodup_cons.1 this).2
      · simp only [List.mem_append, List.mem_cons] at hx ⊢; grind
      · rw [List.append_assoc, pickL_app, List.cons_append, pickL_cons hoi] at hk
        rw [List.append_assoc, pickL_app]
        exact frontL q1 _ (fun q hq => by simp [hq]) s2 hk
    · cases ms with
      | nil => cases hin
      | cons m r =>
        have him : i = m := by
          rcases List.mem_cons.1 hin with e | hin
          · exact e
          · obtain ⟨p, hp, hw⟩ := chain_pred m r inv.chain hin
            rw [not_waits hi (inv.inn p (List.mem_append_right _ hp))] at hw
            cases hw
        subst him
        obtain ⟨s1, s2⟩ := sepL_head qs inv.sep
        have nd : (i :: (qs ++ r)).Nodup := (List.perm_middle.nodup_iff).1 inv.nd
        refine go qs r ?_ (fun x => ?_) (List.nodup_cons.1 nd).2 (fun x hx => hx) s1 ?_ ?_
        · simp only [List.length_append, List.length_cons] at hg ⊢; omega
        · constructor
          · intro hx
            refine ⟨by simp only [List.mem_append, List.mem_cons] at hx ⊢; grind, fun e => ?_⟩
            subst e
            exact (List.nodup_cons.1 nd).1 hx
          · rintro ⟨hx, hne⟩
            simp only [List.mem_append, List.mem_cons] at hx ⊢
            grind
        · have := inv.chain
          cases r with
          | nil => rfl
          | cons b r => exact (and_tt' (show (Region.waitsFor .any ops b i && chainL ops (b :: r)) = true from this)).2
        · rw [pickL_app, pickL_cons hoi] at hk
          rw [pickL_app]
          exact frontL qs _ (fun q hq => hq) s2 hk
end
theorem ndL_ok : ∀ (l : List Nat), ndL l = true → l.Nodup
  | [], _ => List.nodup_nil
  | a :: r, h => by
    obtain ⟨h1, h2⟩ := and_tt' (show (!r.contains a && ndL r) = true from h)
    exact List.nodup_cons.2 ⟨by simpa using h1, ndL_ok r h2⟩
theorem AW.region_mq {P : Program} {nt id : Nat} {ops : Array Oper} {Q : AEx → Fr → St → Prop} {fr : Fr} {st : St} (hm : P.follows .mixedOrders = true) (hd : dstB ops nt = true) {qs ms : List Nat} (hq : mqB ops qs ms = true) (h : aops P ops (pickL ops (qs ++ ms)) fr st (Q .normal)) : AW P nt (.region id ops true) Q fr st := fun mu0 S0 B w0 a w hA => by
  have hd' : ∀ o ∈ ops.toList, ∀ t, o.dst = some t → t < nt := fun o ho t ht => by
    have := Array.all_eq_true_iff_forall_mem.1 hd o (Array.mem_toList_iff.1 ho)
    rw [ht] at this
    exact Nat.lt_of_succ_le (Nat.le_of_ble_eq_true this)
  unfold mqB at hq
  obtain ⟨hq, q8⟩ := and_tt' hq
  obtain ⟨hq, q7⟩ := and_tt' hq
  obtain ⟨hq, q6⟩ := and_tt' hq
  obtain ⟨hq, q5⟩ := and_tt' hq
  obtain ⟨hq, q4⟩ := and_tt' hq
  obtain ⟨hq, q3⟩ := and_tt' hq
  obtain ⟨q1, q2⟩ := and_tt' hq
  obtain ⟨q3, q9⟩ := and_tt' q3
  have hlen : (qs ++ ms).length = ops.size := Nat.eq_of_beq_eq_true q3
  have hcov : ∀ i, i < ops.size → i ∈ qs ∨ i ∈ ms := fun i hi => by
    have := List.all_eq_true.1 q1 i (List.mem_range.2 hi)
    simpa using this
  have h0 : Ms0 ops := ⟨fun i o ho => by
    have := Array.all_eq_true_iff_forall_mem.1 q4 o (Array.mem_of_getElem? ho)
    obtain ⟨k1, k2⟩ := and_tt' this
    exact ⟨by simpa using k1, k2⟩, fun i o ho e he => by
    have := List.all_eq_true.1 q8 i (List.mem_range.2 (Array.getElem?_eq_some_iff.1 ho).1)
    rw [ho] at this
    exact of_decide_eq_true (Array.all_eq_true_iff_forall_mem.1 this e he)⟩
  refine wp_region_any hm ?_
  rw [← hlen]
  have := wpAny_mq (Q := QR mu0 S0 B w0 nt Q) (K := Q .normal) h0 hd' (fun fr st a w h1 h2 => ⟨fr, st, h1, h2⟩) (qs ++ ms).length qs ms (Array.replicate (qs ++ ms).length false) fr st a { w with drawn := w.drawn + 1 } rfl
    ⟨by simp [hlen], fun i hi => hcov i (by
      rcases Nat.lt_or_ge i ops.size with h | h
      · exact h
      · rw [hlen] at hi; simp [h] at hi), fun i hi => by
      have : i < ops.size := of_decide_eq_true (List.all_eq_true.1 q2 i hi)
      rw [hlen]; simp [this], ndL_ok _ q9, fun i hi => (by
      have := List.all_eq_true.1 q5 i hi
      split at this
      · rename_i o ho; exact ⟨o, ho, this⟩
      · cases this), q6, q7⟩ hA.drew h
  exact this
end Go.Proofs.YtkjihmlighigjaaGreat
