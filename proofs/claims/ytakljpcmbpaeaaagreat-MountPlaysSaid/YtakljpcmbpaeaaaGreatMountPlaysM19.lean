/- The awp calculus, 16: regions that draw their order: one walk in the text's order serves every order. -/
import Derived.Test.YtakljpcmbpaeaaaGreatMountPlaysM18
import Derived.Still
set_option linter.unusedSimpArgs false
set_option linter.unusedVariables false
namespace Go.Proofs.YtakljpcmbpaeaaaGreat
open Go.RowKit
abbrev Gs:=Nat->Option Blk'
def resT(T:Nat->Bool)(g:Gs):Gs:=fun b=>cond (T b) (g b) none
def ov(W:Nat->Bool)(u g:Gs):Gs:=fun b=>cond (W b) (u b) (g b)
def opS(P:Program):Op->Bool
 | .alloc _=>true
 | .box _ _=>true
 | .buildSlice _ _ _=>true
 | .makeSlice _ _ _=>true
 | .store _ _ _=>true
 | .convert s d _=>yVQ P s d
 | .call c=>match c.callee with | .builtin .append=>true | .builtin .clear=>true | _=>false
 | _=>false
def eff(P:Program)(op:Op)(fr:Fr)(st:St):Option (V×St):=bif opS P op then sop P op fr st else(vop P op fr st).map fun x=>(x,st)
def dcall(P:Program)(op:Op)(fr:Fr)(st:St)(x:V):Prop:=
 match op with
 | .call c=>match c.callee with
   | .value f=>match ev fr f with
     | .fn (.func g) first caps=>((∀y∈first++(c.args.toList.map (ev fr)++caps),Plain y)/\Con P g (first++(c.args.toList.map (ev fr)++caps)) (· = x))\/
      (∃fz args',Fzs st fz (first++(c.args.toList.map (ev fr)++caps)) args'/\Con P g args' (· = x)/\Sc x)\/
      ∃fz args',Fzs st fz (first++(c.args.toList.map (ev fr)++caps)) args'/\xTC P g args' x
     | _=>False
   | _=>False
 | _=>False
def xMm(P:Program)(op:Op)(fr:Fr)(st:St)(x:V)(k:Blk'):Prop:=
 match op with
 | .call c=>match c.callee with
   | .value f=>match ev fr f with
     | .fn (.func g) first caps=>∃fz args' es sz,xIb st fz (first++(c.args.toList.map (ev fr)++caps)) args' es/\xF0 P g args' es sz/\x= .bs st.c 0 es.length es.length/\k=⟨es,sz,0⟩
     | _=>False
   | _=>False
 | _=>False
def dop(P:Program)(op:Op)(fr:Fr)(n:Nat)(T W:Nat->Bool)(g:Gs)(x:V)(u:Gs):Prop:=
 (∀b,W b=true->T b=true)/\T n=true/\
 ((∃s',eff P op fr ⟨resT T g,n⟩=some (x,s')/\∀b,s'.get b=resT T (ov W u g) b)\/(dcall P op fr ⟨resT T g,n⟩ x/\∀b,W b=false)\/
   ∃k,xMm P op fr ⟨resT T g,n⟩ x k/\(∀b,W b=Nat.beq b n)/\u n=some k)
def wantedA(ops:Array Oper)(o:Oper)(fr:Fr):Option Bool:=
 match o.guard with
 | none=>some true
 | some (j,want)=>match gval ops fr j with
   | .bool b=>some (b==want)
   | .undef=>none
   | _=>some false
theorem xSK{fr:Fr}{d:Option Tmp}{x:V}{y:Operand}(h:∀t,d=some t->y≠ .tmp t):ev (fr.put d x) y=ev fr y:=by
 cases d with
 | none=>rfl
 | some t=>cases y with
   | tmp s=>
     show(fr.set t x) s=fr s
     rw[Fr.set_get,if_neg (fun e=>h t rfl (by rw[e]))]
   | _=>rfl
theorem Fr.put_comm(fr:Fr){d e:Option Tmp}(x y:V)(h:∀t,d=some t->e≠some t):(fr.put d x).put e y=(fr.put e y).put d x:=by
 cases d with
 | none=>rfl
 | some t=>cases e with
   | none=>rfl
   | some s=>
     have hne:t≠s:=fun e=>h t rfl (by rw[e])
     funext z
     show((fr.set t x).set s y) z=((fr.set s y).set t x) z
     rw[Fr.set_get,Fr.set_get,Fr.set_get,Fr.set_get]
     by_cases h1:z=s <;> by_cases h2:z=t <;> simp_all
theorem xOW{P:Program}{op:Op}{fr fr':Fr}{st:St}(h:∀y∈op.operands,ev fr y=ev fr' y):vop P op fr st=vop P op fr' st:=by
 have lists:∀l:List Operand,(∀y∈l,ev fr y=ev fr' y)->l.map (ev fr)=l.map (ev fr'):=fun l hl=>List.map_congr_left hl
 cases op <;> simp only[Op.operands] at h <;> simp only[vop]
 case build t ps=>
  rw[List.map_congr_left (l:=ps.toList) (f:=fun p=>(p.1,ev fr p.2)) (g:=fun p=>(p.1,ev fr' p.2)) fun p hp=>by rw[h p.2 (by simpa using ⟨p.1,Array.mem_toList_iff.1 hp⟩)]]
 case makeFunc f first caps=>
  rw[lists first.toList fun y hy=>h y (by simp_all),lists caps.toList fun y hy=>h y (by simp_all)]
 case slice t x lo hi mx=>cases lo <;> cases hi <;> cases mx <;> simp_all
 case call c=>
  simp only[Call.operands] at h
  have ha:∀y∈c.args.toList,ev fr y=ev fr' y:=fun y hy=>h y (by simp_all)
  have he:∀(r:Option V->Option V->Prop),True:=fun _=>trivial
  split
  ·split
   ·rename_i x t hx ht;rw[ha x (by rw[hx];simp)]
   ·rfl
  ·split
   ·rename_i x r hx;rw[ha x (by rw[hx];simp),lists r fun y hy=>ha y (by rw[hx];simp[hy])]
   ·rfl
  ·split
   ·rename_i x r hx;rw[ha x (by rw[hx];simp),lists r fun y hy=>ha y (by rw[hx];simp[hy])]
   ·rfl
  ·split
   ·rename_i x t hx ht;rw[ha x (by rw[hx];simp)]
   ·rfl
  ·rfl
 all_goals (first | rfl | (simp_all;done))
theorem xOE{P:Program}{op:Op}{fr fr':Fr}{st:St}(h:∀y∈op.operands,ev fr y=ev fr' y):sop P op fr st=sop P op fr' st:=by
 unfold sop
 congr 1
 cases op <;> simp only[Op.operands] at h <;> simp only[sop0]
 case buildSlice t n ps=>
  rw[List.map_congr_left (l:=ps.toList) (f:=fun p=>(p.1,ev fr p.2)) (g:=fun p=>(p.1,ev fr' p.2)) fun p hp=>by rw[h p.2 (by simpa using ⟨p.1,Array.mem_toList_iff.1 hp⟩)]]
 case call c=>
  simp only[Call.operands] at h
  have ha:∀y∈c.args.toList,ev fr y=ev fr' y:=fun y hy=>h y (by simp_all)
  split
  ·split
   ·rename_i x y t t2 hx ht;rw[ha x (by rw[hx];simp),ha y (by rw[hx];simp)]
   ·rfl
  ·split
   ·rename_i x t hx ht;rw[ha x (by rw[hx];simp)]
   ·rfl
  ·rfl
 all_goals (first | rfl | (simp_all;done))
theorem xMn{P:Program}{op:Op}{fr fr':Fr}{st:St}(h:∀y∈op.operands,ev fr y=ev fr' y):eff P op fr st=eff P op fr' st:=by
 unfold eff;rw[xOW h,xOE h]
theorem xIo{P:Program}{op:Op}{fr fr':Fr}{st:St}{x:V}(h:∀y∈op.operands,ev fr y=ev fr' y):dcall P op fr st x->dcall P op fr' st x:=by
 intro hd
 unfold dcall at hd ⊢
 cases op with
 | call c=>
   obtain⟨callee,args,ats⟩:=c
   cases callee with
   | value f=>
     dsimp only at hd ⊢
     simp only[Op.operands,Call.operands] at h
     rw[←h f (by simp),←List.map_congr_left (l:=args.toList) (f:=ev fr) (g:=ev fr') fun y hy=>h y (by simp_all)]
     exact hd
   | _=>exact hd
 | _=>exact hd
theorem xLD{P:Program}{op:Op}{fr fr':Fr}{st:St}{x:V}{k:Blk'}(h:∀y∈op.operands,ev fr y=ev fr' y):xMm P op fr st x k->xMm P op fr' st x k:=by
 intro hd
 unfold xMm at hd ⊢
 cases op with
 | call c=>
   obtain⟨callee,args,ats⟩:=c
   cases callee with
   | value f=>
     dsimp only at hd ⊢
     simp only[Op.operands,Call.operands] at h
     rw[←h f (by simp),←List.map_congr_left (l:=args.toList) (f:=ev fr) (g:=ev fr') fun y hy=>h y (by simp_all)]
     exact hd
   | _=>exact hd
 | _=>exact hd
theorem xAc{P:Program}{op:Op}{fr fr':Fr}{n:Nat}{T W:Nat->Bool}{g g1 u:Gs}{x:V}(h:∀y∈op.operands,ev fr y=ev fr' y)(hg:∀b,T b=true->g b=g1 b)
  (hd:dop P op fr n T W g x u):dop P op fr' n T W g1 x u:=by
 obtain⟨h1,h2,h3⟩:=hd
 have e1:resT T g=resT T g1:=by
  funext b
  unfold resT
  cases hT:T b
  ·rfl
  ·rw[cond_true,cond_true,hg b hT]
 have e2:∀b,resT T (ov W u g) b=resT T (ov W u g1) b:=fun b=>by
  unfold resT ov
  cases hT:T b
  ·rfl
  ·rw[cond_true,cond_true,hg b hT]
 refine⟨h1,h2,?_⟩
 rcases h3 with ⟨s',h3,h4⟩ | ⟨h3,h4⟩ | ⟨k,h3,h4⟩
 ·exact .inl ⟨s',by rw[←xMn h,←e1];exact h3,fun b=>by rw[←e2];exact h4 b⟩
 ·exact .inr (.inl ⟨by rw[←e1];exact xIo h h3,h4⟩)
 ·exact .inr (.inr ⟨k,by rw[←e1];exact xLD h h3,h4⟩)
section
variable {P:Program} {ops:Array Oper} {md:Region.Mode} {TT WW:Nat->Nat->Bool} {n0:Nat}
theorem xKS{o:Oper}{fr:Fr}{d:Option Tmp}{x:V}(h:∀t,d=some t->t ∉ o.looksAt ops):∀y∈o.op.operands,ev (fr.put d x) y=ev fr y:=fun y hy=>
 xSK fun t ht e=>h t ht (by subst e;exact List.mem_append_left _ (List.mem_filterMap.2 ⟨.tmp t,by simpa using hy,rfl⟩))
theorem yV1{o:Oper}{fr:Fr}{d:Option Tmp}{x:V}(h:∀t,d=some t->t ∉ o.looksAt ops):wantedA ops o (fr.put d x)=wantedA ops o fr:=by
 unfold wantedA
 cases hg:o.guard with
 | none=>rfl
 | some p=>
   obtain⟨j,want⟩:=p
   dsimp only
   have:gval ops (fr.put d x) j=gval ops fr j:=by
    unfold gval
    cases ht:(ops[j]?).bind (·.dst) with
    | none=>rfl
    | some t=>
      cases d with
      | none=>rfl
      | some s=>
        show(fr.set s x) t=fr t
        rw[Fr.set_get,if_neg (fun e=>h s rfl (by subst e;simp[Oper.looksAt,hg,ht]))]
   rw[this]
def dOp(P:Program)(ops:Array Oper)(TT WW:Nat->Nat->Bool)(n0 i:Nat)(K:Fr->Gs->Prop)(fr:Fr)(g:Gs):Prop:=
 match ops[i]? with
 | none=>K fr g
 | some o=>match wantedA ops o fr with
   | none=>False
   | some true=>∃x u,dop P o.op fr (n0+i) (TT i) (WW i) g x u/\K (fr.put o.dst x) (ov (WW i) u g)
   | some false=>K (fr.put o.dst (.tup [])) g
theorem xOy{i:Nat}{K K':Fr->Gs->Prop}{fr:Fr}{g:Gs}(h:∀fr g,K fr g->K' fr g)(hh:dOp P ops TT WW n0 i K fr g):dOp P ops TT WW n0 i K' fr g:=by
 unfold dOp at*
 split
 ·rename_i ho;simp only[ho] at hh;exact h _ _ hh
 ·rename_i o ho
  simp only[ho] at hh
  split at hh
  ·exact hh.elim
  ·obtain⟨x,u,h1,h2⟩:=hh;exact⟨x,u,h1,h _ _ h2⟩
  ·exact h _ _ hh
def DY(P:Program)(ops:Array Oper)(TT WW:Nat->Nat->Bool)(n0 i:Nat)(o:Oper)(q:Bool)(x:V)(u:Gs)(fr:Fr)(g:Gs):Prop:=
 (q=true/\wantedA ops o fr=some true/\dop P o.op fr (n0+i) (TT i) (WW i) g x u)\/(q=false/\wantedA ops o fr=some false/\x= .tup [])
theorem DY.dOp{i:Nat}{o:Oper}{q:Bool}{x:V}{u:Gs}{fr:Fr}{g:Gs}{K:Fr->Gs->Prop}(hi:ops[i]?=some o)(hy:DY P ops TT WW n0 i o q x u fr g)(hK:K (fr.put o.dst x) (ov (fun b=>q&&WW i b) u g)):
  dOp P ops TT WW n0 i K fr g:=by
 unfold Go.Proofs.YtakljpcmbpaeaaaGreat.dOp
 rcases hy with ⟨rfl,h1,h2⟩ | ⟨rfl,h1,rfl⟩
 ·simp only[hi,h1];exact⟨x,u,h2,hK⟩
 ·simp only[hi,h1];exact hK
theorem xMj{i:Nat}{o:Oper}{fr:Fr}{g:Gs}{K:Fr->Gs->Prop}(hi:ops[i]?=some o)(h:dOp P ops TT WW n0 i K fr g):
  ∃q x u,DY P ops TT WW n0 i o q x u fr g/\K (fr.put o.dst x) (ov (fun b=>q&&WW i b) u g):=by
 unfold dOp at h
 simp only[hi] at h
 split at h
 ·exact h.elim
 ·rename_i hw
  obtain⟨x,u,h1,h2⟩:=h
  exact⟨true,x,u,.inl ⟨rfl,hw,h1⟩,h2⟩
 ·rename_i hw
  exact⟨false,_,fun _=>none,.inr ⟨rfl,hw,rfl⟩,h⟩
def NC(TT WW:Nat->Nat->Bool)(i j:Nat):Prop:=(∀b,WW i b=true->TT j b=false)/\∀b,WW j b=true->TT i b=false
theorem xQ4{i j:Nat}{oi oj:Oper}{q:Bool}{x:V}{u:Gs}{fr:Fr}{g:Gs}{K:Fr->Gs->Prop}(hj:ops[j]?=some oj)(hap:oi.apart ops oj=true)(hnc:NC TT WW i j)
  (hy:DY P ops TT WW n0 i oi q x u fr g) (h:dOp P ops TT WW n0 j K (fr.put oi.dst x) (ov (fun b=>q&&WW i b) u g)):
  dOp P ops TT WW n0 j (fun fr' g'=>DY P ops TT WW n0 i oi q x u fr' g'/\K (fr'.put oi.dst x) (ov (fun b=>q&&WW i b) u g')) fr g:=by
 obtain⟨h1,h2,h3⟩:=Oper.apart_spec hap
 have keepF:∀(fr:Fr) (g:Gs),DY P ops TT WW n0 i oi q x u fr g->∀y,DY P ops TT WW n0 i oi q x u (fr.put oj.dst y) g:=fun fr g hy y=>by
  rcases hy with ⟨e,k1,k2⟩ | ⟨e,k1,k2⟩
  ·exact .inl ⟨e,by rw[yV1 h3];exact k1,xAc (fun z hz=>(xKS h3 z hz).symm) (fun _ _=>rfl) k2⟩
  ·exact .inr ⟨e,by rw[yV1 h3];exact k1,k2⟩
 unfold dOp at*
 simp only[hj] at*
 rw[yV1 h1] at h
 split at h
 ·exact h.elim
 ·rename_i hw
  try simp only[]
  obtain⟨xj,uj,hd,hK⟩:=h
  have hov:∀b,TT j b=true->ov (fun b=>q&&WW i b) u g b=g b:=fun b hb=>by
   show cond (q&&WW i b) (u b) (g b)=g b
   cases hW:WW i b
   ·rw[Bool.and_false];rfl
   ·rw[hnc.1 b hW] at hb;cases hb
  have hd':dop P oj.op fr (n0+j) (TT j) (WW j) g xj uj:=xAc (xKS h1) hov hd
  refine⟨xj,uj,hd',?_,?_⟩
  ·refine keepF _ _ ?_ xj
   rcases hy with ⟨e,k1,k2⟩ | ⟨e,k1,k2⟩
   ·refine .inl ⟨e,k1,xAc (fun _ _=>rfl) (fun b hb=>?_) k2⟩
    unfold ov
    cases hW:WW j b
    ·rfl
    ·rw[hnc.2 b hW] at hb;cases hb
   ·exact .inr ⟨e,k1,k2⟩
  ·rw[←Fr.put_comm fr x xj h2]
   have:ov (fun b=>q&&WW i b) u (ov (WW j) uj g)=ov (WW j) uj (ov (fun b=>q&&WW i b) u g):=by
    funext b
    unfold ov
    cases hW:WW j b
    ·rfl
    ·have:WW i b=false:=by
       cases hWi:WW i b
       ·rfl
       ·have:=hd'.1 b hW;rw[hnc.1 b hWi] at this;cases this
     simp[this]
   rw[this];exact hK
 ·rename_i hw
  try simp only[]
  exact⟨keepF _ _ hy _,by rw[←Fr.put_comm fr x _ h2];exact h⟩
def xRz(P:Program)(md:Region.Mode)(ops:Array Oper)(TT WW:Nat->Nat->Bool)(n0:Nat)(K:Fr->Gs->Prop):Nat->Array Bool->Fr->Gs->Prop
 | 0,listed,fr,g=>Region.ready md ops listed= []/\K fr g
 | fuel+1,listed,fr,g=>(Region.ready md ops listed= []->K fr g)/\∀i∈Region.ready md ops listed,dOp P ops TT WW n0 i (xRz P md ops TT WW n0 K fuel (listed.setIfInBounds i true)) fr g
theorem xLA{K:Fr->Gs->Prop}{i:Nat}{oi:Oper}{q:Bool}{x:V}{u:Gs}(hi:ops[i]?=some oi):
  ∀(fuel:Nat) (listed:Array Bool) (fr:Fr) (g:Gs),
   (∀j oj,ops[j]?=some oj->j≠i->listed.getD j true=false->(∀e∈oj.after,Region.binds md e=true->e.on≠i)->oi.apart ops oj=true/\NC TT WW i j)→
   i∈Region.ready md ops listed->DY P ops TT WW n0 i oi q x u fr g→
   xRz P md ops TT WW n0 K fuel (listed.setIfInBounds i true) (fr.put oi.dst x) (ov (fun b=>q&&WW i b) u g)->xRz P md ops TT WW n0 K (fuel+1) listed fr g:=by
 intro fuel
 induction fuel with
 | zero=>
   intro listed fr g _ hr hy H
   refine⟨fun h=>(by rw[h] at hr;cases hr),fun j hj=>?_⟩
   by_cases hji:j=i
   ·subst hji;exact hy.dOp hi H
   ·have:=ready_mono hj hji
    rw[H.1] at this
    cases this
 | succ fuel ih=>
   intro listed fr g hfree hr hy H
   refine⟨fun h=>(by rw[h] at hr;cases hr),fun j hj=>?_⟩
   by_cases hji:j=i
   ·subst hji;exact hy.dOp hi H
   ·have h1:=H.2 j (ready_mono hj hji)
    obtain⟨hjun,oj,hoj,hall⟩:=mem_ready.1 hj
    have hnot:∀e∈oj.after,Region.binds md e=true->e.on≠i:=fun e he hb heq=>by
     have h1:=hall e he hb
     have h0:=(mem_ready.1 hr).1
     rw[heq] at h1
     rcases Nat.lt_or_ge i listed.size with h' | h'
     ·simp[h'] at h0 h1;rw[h0] at h1;cases h1
     ·simp[Array.getElem?_eq_none h'] at h1
    obtain⟨hap,hnc⟩:=hfree j oj hoj hji hjun hnot
    have h2:=xQ4 hoj hap hnc hy h1
    have hfree':∀k ok,ops[k]?=some ok->k≠i->(listed.setIfInBounds j true).getD k true=false→
      (∀e∈ok.after,Region.binds md e=true->e.on≠i)->oi.apart ops ok=true/\NC TT WW i k:=fun k ok hk hki hun hno=>by
     refine hfree k ok hk hki ?_ hno
     by_cases hjk:j=k
     ·subst hjk;exact hjun
     ·rw[getD_set_ne true hjk] at hun;exact hun
    refine xOy (fun fr' g' h3=>ih (listed.setIfInBounds j true) fr' g' hfree' (ready_mono hr (Ne.symm hji)) h3.1 ?_) h2
    rw[Array.setIfInBounds_comm _ _ hji]
    exact h3.2
def dlistF(P:Program)(ops:Array Oper)(TT WW:Nat->Nat->Bool)(n0:Nat)(K:Fr->Gs->Prop):List Oper->Nat->Fr->Gs->Prop
 | [],_,fr,g=>K fr g
 | o::r,k,fr,g=>match wantedA ops o fr with
   | none=>False
   | some true=>∃x u,dop P o.op fr (n0+k) (TT k) (WW k) g x u/\dlistF P ops TT WW n0 K r (k+1) (fr.put o.dst x) (ov (WW k) u g)
   | some false=>dlistF P ops TT WW n0 K r (k+1) (fr.put o.dst (.tup [])) g
theorem xKR{K:Fr->Gs->Prop}(hNC:∀i j oj,i<j->ops[j]?=some oj->(∀e∈oj.after,Region.binds md e=true->e.on≠i)->NC TT WW i j):
  ∀(l:List Oper) (k:Nat) (listed:Array Bool) (fr:Fr) (g:Gs),(∀j,l[j]?=ops[k+j]?)->(∀j,j<k->listed.getD j true=true)→
  Region.lexFrom md ops l.length k listed=true->dlistF P ops TT WW n0 K l k fr g->xRz P md ops TT WW n0 K l.length listed fr g
 | [],_,_,_,_,_,_,hB,h=>⟨by simpa[Region.lexFrom] using hB,h⟩
 | o::l,k,listed,fr,g,hl,hlis,hB,h=>by
   have h0:ops[k]?=some o:=by simpa using (hl 0).symm
   simp only[List.length_cons,Region.lexFrom,Bool.and_eq_true] at hB
   obtain⟨⟨hr,hf⟩,hB'⟩:=hB
   have hst:dOp P ops TT WW n0 k (dlistF P ops TT WW n0 K l (k+1)) fr g:=by unfold dOp;simp only[h0];exact h
   obtain⟨q,x,u,hy,hK⟩:=xMj h0 hst
   refine xLA h0 l.length listed fr g (fun j oj hj hne hun hno=>⟨Region.free_spec h0 hf j oj hj hne hun hno,hNC k j oj ?_ hj hno⟩) (by simpa using hr) hy
    (xKR hNC l (k+1) _ _ _ (fun j=>by have:=hl (j+1);simpa[Nat.add_assoc,Nat.add_comm 1 j] using this) (fun j hj=>?_) hB' hK)
   ·rcases Nat.lt_trichotomy k j with h | h | h
    ·exact h
    ·exact absurd h.symm hne
    ·rw[hlis j h] at hun;cases hun
   ·by_cases e:k=j
    ·subst e
     have hlt:k<listed.size\/listed.size<=k:=Nat.lt_or_ge _ _
     rcases hlt with h | h
     ·simp[h]
     ·simp[h]
    ·rw[getD_set_ne true e];exact hlis j (by omega)
end
end Go.Proofs.YtakljpcmbpaeaaaGreat
