/- Methods: calls on a block of the caller's own, by typed functions of what is in it. -/
import Derived.Test.YtakljpcmbpaeaaaGreatMountPlaysM31
set_option linter.unusedSimpArgs false
set_option linter.unusedVariables false
namespace Go.Proofs.YtakljpcmbpaeaaaGreat
open Go.RowKit
def PlA(xs:List AV0):Prop:=∀x∈xs,match x with
 | .p y=>Plain y
 | .a es _=>∀r∈es,∀z∈r,Plain z
 | .w es _=>∀r∈es,∀z∈r,Plain z
theorem PlA.cons{x:AV0}{xs:List AV0}(h:PlA (x::xs)):PlA xs:=fun y hy=>h y (List.mem_cons_of_mem _ hy)
def rG(xs:List AV0)(sz:Nat):Tr Blk':=blT (av0s xs 1).2 1 (Tr.set 20 .leaf 0 (some ⟨[(av0s xs 1).1],sz,0⟩))
def rN(xs:List AV0):Nat:=(av0s xs 1).2.length+1
def xRw(P:Program)(g:FuncId)(args:List V)(xs:List AV0)(sz:Nat)(r:V)(ys:List AV0):Prop:=
 yKl P g/\Plain r/\PlA ys/\(av0s ys 1).2.length<=1000/\∀(mu:Mu) (S:yEn) (B:Dom) (w:World) (vargs:List Value),SR mu S B ⟨(rG xs sz).get,rN xs⟩ w->FrA mu ⟨(rG xs sz).get,rN xs⟩->yV2 B w->VRs mu S w args vargs→
  Calls P g vargs.toArray w fun e w'=>∃v mu' S',e= .returned v/\VR yOr S' w' r v/\SR mu' S' B ⟨(rG ys sz).get,rN ys⟩ w'/\mu' 0=mu 0/\(∀g i,S g i->S' g i)/\(∀g i,S' g i->S g i\/B g)/\yQF S w w'/\Off B w w'
theorem xKe{xs:List AV0}{sz:Nat}(hl:(av0s xs 1).2.length<=1000)(x:Nat):(rG xs sz).get x=if x=0 then some ⟨[(av0s xs 1).1],sz,0⟩ else if x<rN xs then(av0s xs 1).2[x-1]? else none:=by
 unfold rG rN
 rw[yXR _ 1 _ x (by omega),Tr.set_get 20 .leaf 0 x _ (by decide)]
 by_cases h0:x=0
 ·rw[if_neg (by omega),if_pos h0,if_pos h0]
 ·rw[if_neg h0,if_neg h0]
  by_cases h1:x<(av0s xs 1).2.length+1
  ·rw[if_pos (by omega),if_pos h1]
  ·rw[if_neg (by omega),if_neg h1,Tr.leaf_get]
theorem xIg:∀(xs:List AV0) (n m:Nat),(av0s xs n).2=(av0s xs m).2
 | [],_,_=>rfl
 | x::l,n,m=>by
   have h:(av0 x n).2=(av0 x m).2:=by cases x <;> rfl
   show(av0 x n).2++_=(av0 x m).2++_
   rw[h,xIg l _ (m+(av0 x m).2.length)]
theorem yRV:∀(xs:List AV0) (n:Nat),(av0s xs n).1.length=xs.length
 | [],_=>rfl
 | x::l,n=>by
   show(av0s l _).1.length+1=_
   rw[yRV l];rfl
theorem yQn{xs:List AV0}(h:PlA xs):∀n,∀p∈(av0s xs n).2,∀r∈p.es,∀z∈r,Plain z:=by
 induction xs with
 | nil=>intro n p hp;cases hp
 | cons x l ih=>
   intro n p hp
   rcases List.mem_append.1 (show p∈(av0 x n).2++_ from hp) with hp | hp
   ·have hx:=h x (by simp)
    cases x with
    | p y=>cases hp
    | a es sz=>obtain rfl:=List.mem_singleton.1 hp;exact hx
    | w es sz=>obtain rfl:=List.mem_singleton.1 hp;exact hx
   ·exact ih h.cons _ p hp
theorem xIi{mu mu':Mu}{S:yEn}{w:World}:∀(xs:List AV0) (n m:Nat),PlA xs->(∀j,j<(av0s xs n).2.length->mu' (m+j)=mu (n+j))->∀j (hj:j<(av0s xs n).1.length) (hj':j<(av0s xs m).1.length) v,VR mu S w (av0s xs n).1[j] v->VR mu' S w (av0s xs m).1[j] v
 | [],n,m,_,_=>fun j hj=>absurd hj (by simp[av0s])
 | x::l,n,m,hp,hmu=>fun j hj hj' v hv=>by
   have hx:=hp x (by simp)
   have hrest:=xIi (S:=S) (w:=w) l (n+(av0 x n).2.length) (m+(av0 x n).2.length) hp.cons (fun j hj=>by
    have:=hmu ((av0 x n).2.length+j) (by show _<((av0 x n).2++_).length;rw[List.length_append];omega)
    rw[Nat.add_assoc,Nat.add_assoc];exact this)
   have hb:(av0 x n).2.length=(av0 x m).2.length:=by cases x <;> rfl
   cases j with
   | zero=>
     have hv:VR mu S w (av0 x n).1 v:=hv
     show VR mu' S w (av0 x m).1 v
     have h0:∀b:Blk',(av0 x n).2= [b]->mu' m=mu n:=fun b e=>hmu 0 (by show 0<((av0 x n).2++_).length;rw[e];simp)
     cases x with
     | p y=>exact hv.plain hx
     | a es sz=>
       have e:=h0 _ rfl
       cases hv with
       | bs _ _ _ _ L A cc hL hn hc hA hm=>exact .bs _ 0 _ _ L A cc (by rw[e];exact hL) hn hc hA hm
     | w es sz=>
       have e:=h0 _ rfl
       cases hv with
       | bs _ _ _ _ L A cc hL hn hc hA hm=>exact .bs _ 0 _ _ L A cc (by rw[e];exact hL) hn hc hA hm
   | succ j=>
     have hj2:j<(av0s l (n+(av0 x n).2.length)).1.length:=by simpa[av0s] using hj
     have hj3:j<(av0s l (m+(av0 x n).2.length)).1.length:=by rw[yRV] at hj2 ⊢;exact hj2
     have:=hrest j hj2 hj3 v hv
     simpa only[av0s,hb,List.getElem_cons_succ] using this
def xTa(P:Program)(l:List ResultVar)(t0:Nat)(r:V)(ys:List AV0)(sz:Nat):AEx->Fr->St->Prop
 | .exit _,_,_=>False
 | _,fr,st=>∃(f:Nat->Nat) (m:Md) (row:List V) (ns:List (Option Nat)) (r0:V),fr t0= .ptr 0 0 0/\st.get 0=some ⟨[row],sz,0⟩/\f 0=0/\CVs st.get st.c f row 1 (av0s ys 1).1 (av0s ys 1).2 ns/\noDup (some 0::ns)=true/\resV P fr st l=some r0/\Fz st f r0 r
theorem xI8{P:Program}{g:FuncId}{fn:Func}{c:Code}{args:List V}{xs ys:List AV0}{sz t0:Nat}{r:V}(hf:P.funcs[g]?=some fn)(hb:fn.body=some c) (hn:(fn.name== "runtime.NumGoroutine")=false)
  (hl:args.length<=fn.ntmps) (hpr:Plain r) (hpy:PlA ys) (hlx:(av0s xs 1).2.length<=1000) (hly:(av0s ys 1).2.length<=1000) (h:AW0 P fn.ntmps c (xTa P fn.results.toList t0 r ys sz) (frOf args) ⟨(rG xs sz).get,rN xs⟩):xRw P g args xs sz r ys:=by
 refine⟨⟨fn,hf,hn,by rw[hb];rfl⟩,hpr,hpy,hly,fun mu S B w vargs h1 h2 h3 hx=>calls_of_wp hf hb ?_⟩
 have hlv:vargs.length<=fn.ntmps:=by rw[←hx.1];exact hl
 have h0:(⟨(rG xs sz).get,rN xs⟩:St).get 0=some ⟨[(av0s xs 1).1],sz,0⟩:=by show(rG xs sz).get 0=_;rw[xKe hlx,if_pos rfl]
 obtain⟨L0,hL0,-⟩:=h1.loc 0 _ h0
 have hA:AR (fun b=>if b=0 then mu 0 else none) S B w fn.ntmps (frOf args) ⟨(rG xs sz).get,rN xs⟩ {tmps:=vargs.toArray++Array.replicate (fn.ntmps-vargs.toArray.size) Go.undef,defers:= []} w:=
  ⟨mu,S,h1,h2,FR.enter hx _,h3,⟨fun b L hb=>by
   by_cases e:b=0
   ·subst e;simpa using hb
   ·simp[e] at hb,fun _ _ h=>h,fun _ _ h=> .inl h,fun _ _ _=>rfl,Off.refl _ _⟩,rfl,yPt hlv⟩
 refine Code.wp_mono (fun e a w' he=>?_) (h _ _ _ _ _ _ (fun b L hb=>by
  by_cases e:b=0
  ·exact e
  ·simp[e] at hb) hA)
 have fin:∀fr st,AR (fun b=>if b=0 then mu 0 else none) S B w fn.ntmps fr st a w'->(∃(f:Nat->Nat) (m:Md) (row:List V) (ns:List (Option Nat)) (r0:V),fr t0= .ptr 0 0 0/\st.get 0=some ⟨[row],sz,0⟩/\f 0=0/\CVs st.get st.c f row 1 (av0s ys 1).1 (av0s ys 1).2 ns/\noDup (some 0::ns)=true/\resV P fr st fn.results.toList=some r0/\Fz st f r0 r)→
   a.defers= []/\∃v,(results fn a.tmps).run P w'= .ok v w'/\(∃v' mu' S',Ending.returned v= .returned v'/\VR yOr S' w' r v'/\SR mu' S' B ⟨(rG ys sz).get,rN ys⟩ w'/\mu' 0=mu 0/\(∀g i,S g i->S' g i)/\(∀g i,S' g i->S g i\/B g)/\yQF S w w'/\Off B w w'):=by
  rintro fr st ⟨mu',S',k1,k2,k3,k4,k5,k6,k7⟩ ⟨f,m,row,ns,r0,hp,hg,hf0,hcv,hnd,hr,hz⟩
  obtain⟨v,hv,hrun⟩:=yKh k1 k3 hr
  obtain⟨q1,q2⟩:=hz.sound (S':=yFE mu' S' st f) (mu':=yOr) k1 hv (fun _ _ h=> .inl h) (fun b k L hk hL hm i q1 q2=> .inr ⟨b,k,L,hk,hL,hm,rfl,q1,q2⟩)
  have hpv:=k3 t0
  rw[hp] at hpv
  obtain⟨L,hL,hbr,-⟩:=k1.loc 0 _ hg
  have hLm:=hpv.ptr_reg hL
  have hrow:∀x∈row,∃v,VR mu' S' w' x v:=fun x hx=>by
   obtain⟨j,hj,rfl⟩:=List.getElem_of_mem hx
   obtain⟨v,_,_,h3⟩:=hbr.cell hLm 0 (by simp) j (by simpa using hj)
   exact⟨v,h3⟩
  obtain⟨j1,j2,-⟩:=xGK (q:=0) (c:=st.c) (g:=st.get) k1 hnd hly hcv.len (fun j hj hj'=>hcv.src hrow j hj hj')
   (.inr ⟨_,rfl,.inr (.inl ⟨row,_,sz,1,_,ns,hg,rfl,hf0,hcv,fun mu' hm=>hm,fun L' hL'=>hpv.ptr_reg hL'⟩)⟩)
  have hz:yUl mu' 0 (av0s ys 1).2 ns 0=mu' 0:=by unfold yUl;rw[if_pos (by omega)];rfl
  refine⟨k6,v,hrun,v,_,_,rfl,q1,j2.weaken fun g hg=>hg.1,?_,fun g i hs=> .inl (k5.sub g i hs),fun g i hs=>?_,k5.keeps,k5.below⟩
  ·rw[hz]
   exact(k5.mono 0 L0 (by simpa using hL0)).trans hL0.symm
  ·rcases yH2 k1 f g i hs with hs | hs
   ·exact k5.new g i hs
   ·exact .inr hs
 cases e with
 | normal=>obtain⟨fr,st,k1,k2⟩:=he;exact fin fr st k1 k2
 | ret=>obtain⟨fr,st,k1,k2⟩:=he;exact fin fr st k1 k2
 | exit i=>obtain⟨fr,st,k1,k2⟩:=he;exact k2.elim
 | _=>exact he.elim
def isN(ns:List (Option Nat))(x:Nat):Bool:=ns.any fun o=>match o with
 | some y=>Nat.beq x y
 | none=>false
theorem xRD{ns:List (Option Nat)}{x:Nat}:isN ns x=true↔∃j:Nat,ns[j]?=some (some x):=by
 constructor
 ·intro h
  obtain⟨o,ho,h⟩:=List.any_eq_true.1 h
  cases o with
  | none=>cases h
  | some y=>
    obtain rfl:=Nat.eq_of_beq_eq_true h
    obtain⟨j,hj,e⟩:=List.getElem_of_mem ho
    exact⟨j,by rw[List.getElem?_eq_getElem hj,e]⟩
 ·rintro⟨j,hj⟩
  exact List.any_eq_true.2 ⟨some x,List.mem_of_getElem? hj,Nat.beq_refl x⟩
def xQM(g:Gs)(c b sz:Nat)(f:Nat->Nat)(ns:List (Option Nat))(ys:List AV0):Gs:=fun x=>
 bif Nat.beq x b then some ⟨[(av0s ys c).1],sz,0⟩ else bif Nat.ble c x&&Nat.blt x (c+(av0s ys c).2.length) then(av0s ys c).2[x-c]? else bif isN ns x then none else(St.lockF ⟨g,c⟩ f).get x
theorem yZ3{g:Gs}{c b sz:Nat}{f:Nat->Nat}{ns:List (Option Nat)}{ys:List AV0}(x:Nat):xQM g c b sz f ns ys x=
  if x=b then some ⟨[(av0s ys c).1],sz,0⟩ else if c<=x/\x<c+(av0s ys c).2.length then(av0s ys c).2[x-c]? else if isN ns x=true then none else(St.lockF ⟨g,c⟩ f).get x:=by
 unfold xQM
 by_cases h1:x=b
 ·rw[ySo h1,if_pos h1,cond_true]
 ·rw[ySn h1,if_neg h1,cond_false]
  by_cases h2:c<=x/\x<c+(av0s ys c).2.length
  ·rw[if_pos h2,show(Nat.ble c x&&Nat.blt x (c+(av0s ys c).2.length))=true by
    rw[Bool.and_eq_true]
    exact⟨Nat.ble_eq_true_of_le h2.1,Nat.ble_eq_true_of_le h2.2⟩,cond_true]
  ·rw[if_neg h2,show(Nat.ble c x&&Nat.blt x (c+(av0s ys c).2.length))=false by
     cases h:(Nat.ble c x&&Nat.blt x (c+(av0s ys c).2.length)) with
     | false=>rfl
     | true=>
       rw[Bool.and_eq_true] at h
       exact absurd ⟨Nat.le_of_ble_eq_true h.1,Nat.le_of_ble_eq_true h.2⟩ h2,cond_false]
   cases isN ns x <;> simp
section
variable {mu:Mu} {S:yEn} {B:Dom} {w:World}
theorem BR.plain{mu mu':Mu}{S:yEn}{w:World}{k:Blk'}{L:Loc}(h:BR mu S w k L)(hp:∀r∈k.es,∀x∈r,Plain x):BR mu' S w k L:=
 ⟨h.sz,h.len,h.lk,h.row,h.room,fun hm i hi j hj=>by
  obtain⟨v,h1,h2,h3⟩:=h.cell hm i hi j hj
  exact⟨v,h1,h2,h3.plain (hp _ (List.getElem_mem _) _ (List.getElem_mem _))⟩,fun hm=>by
  obtain⟨h0,ents,clock,h1,hst,h2,h3⟩:=h.map hm
  refine⟨h0,ents,clock,h1,hst,h2,fun i hi hi'=>?_⟩
  obtain⟨k',v',e,h4,h5⟩:=h3 i hi hi'
  have hm:=hp _ (List.getElem_mem hi)
  rw[e] at hm
  exact⟨k',v',e,h4.plain (hm _ (by simp)),h5.plain (hm _ (by simp))⟩⟩
def xUE(g:Gs)(c b:Nat)(f:Nat->Nat)(x y:V):Prop:=(x= .ptr b 0 0/\y= .ptr 0 0 0)\/(Fz ⟨g,c⟩ f x y/\Plain y)
theorem xGf{P:Program}{fi:FuncId}{args args':List V}{xs ys:List AV0}{sz c b:Nat}{r:V}{g:Gs}{f:Nat->Nat}{row:List V}{ns:List (Option Nat)}
  (hM:xRw P fi args' xs sz r ys) (hk:g b=some ⟨[row],sz,0⟩) (hf:f b=0) (hcv:CVs g c f row 1 (av0s xs 1).1 (av0s xs 1).2 ns) (hnd:noDup (some b::ns)=true) (hlx:(av0s xs 1).2.length<=1000) (h0:args[0]?=some (.ptr b 0 0))
  (hargs:args.length=args'.length/\∀j (hj:j<args.length) (hj':j<args'.length),xUE g c b f args[j] args'[j]):
  xOf P fi args ⟨g,c⟩ (fun r' st'=>r'=r/\st'=⟨xQM g c b sz f ns ys,c+(av0s ys c).2.length⟩):=by
 obtain⟨hcall,hpr,hpy,hly,hM⟩:=hM
 refine⟨hcall,fun mu S B w vargs h1 h2 h3 hx=>?_⟩
 obtain⟨v0,hv0,hpv⟩:=hx.get h0
 obtain⟨L,hL,hbr,-⟩:=h1.loc b _ hk
 have hLm:=hpv.ptr_reg hL
 have hbc:b<c:=by
  rcases Nat.lt_or_ge b c with h | h
  ·exact h
  ·have:g b=none:=(h2 b h).2
   rw[hk] at this;cases this
 have hrow:∀x∈row,∃v,VR mu S w x v:=fun x hx=>by
  obtain⟨j,hj,rfl⟩:=List.getElem_of_mem hx
  obtain⟨v,_,_,h3⟩:=hbr.cell hLm 0 (by simp) j (by simpa using hj)
  exact⟨v,h3⟩
 obtain⟨k1,k2,k3⟩:=xGK (q:=b) (c:=c) (g:=g) h1 hnd hlx hcv.len (fun j hj hj'=>hcv.src hrow j hj hj')
  (.inr ⟨_,rfl,.inr (.inl ⟨row,_,sz,1,_,ns,hk,rfl,hf,hcv,fun mu' hm=>hm,fun L' hL'=>hpv.ptr_reg hL'⟩)⟩)
 have hz:yUl mu b (av0s xs 1).2 ns 0=mu b:=by unfold yUl;rw[if_pos (by omega)];rfl
 have hl:=h1.lockF f
 have hOpn:yV2 (Oth B mu g (some b::ns)) w:=fun x hx=>⟨h3 x hx,fun b' k L' hk' hL' hp hno e=>by
  have:=(h1.own hk' hL' hp).2
  omega⟩
 have hv:VRs (yUl mu b (av0s xs 1).2 ns) (yFE mu S ⟨g,c⟩ f) w args' vargs:=by
  refine⟨by rw[←hargs.1];exact hx.1,fun j hj hj'=>?_⟩
  have hj0:j<args.length:=by rw[hargs.1];exact hj
  have hvj:=hx.2 j hj0 hj'
  rcases hargs.2 j hj0 hj with ⟨e1,e2⟩ | ⟨e1,e2⟩
  ·rw[e2]
   rw[e1] at hvj
   generalize vargs[j]=val at hvj ⊢
   cases hvj with
   | ptr _ _ _ L hL hm=>exact .ptr 0 0 0 L (by rw[hz];exact hL) hm
  ·exact(Fz.sound h1 e1 hvj (fun _ _ h=> .inl h) (fun b k L hk hL hm i q1 q2=> .inr ⟨b,k,L,hk,hL,hm,rfl,q1,q2⟩)).1
 refine(hM _ _ _ w vargs k2 k3 hOpn hv).mono ?_
 rintro e w' ⟨v,mu1,S1,rfl,hr,hs1,hm0,hsub,hnew,hkeep,hoff⟩
 have hmb:mu1 0=mu b:=hm0.trans hz
 have hSS:∀g i,S g i->S1 g i:=fun g' i hs=>hsub g' i (.inl hs)
 have hKS:yQF S w w':=fun g' i hs=>hkeep g' i (.inl hs)
 -- where all lies now
 generalize hmd:(fun x=>if x<c then mu x else if x<c+(av0s ys c).2.length then mu1 (1+(x-c)) else none:Mu)=mu2
 have hm_lt:∀x,x<c->mu2 x=mu x:=fun x hx=>by rw[←hmd];exact if_pos hx
 have hm_ge:∀x,c<=x->x<c+(av0s ys c).2.length->mu2 x=mu1 (1+(x-c)):=fun x hx hx'=>by
  rw[←hmd]
  dsimp only
  rw[if_neg (by omega),if_pos hx']
 have hmono:∀x L,mu x=some L->mu2 x=some L:=fun x L hx=>by
  rcases Nat.lt_or_ge x c with h | h
  ·rw[hm_lt x h];exact hx
  ·have:=(h2 x h).1;rw[hx] at this;cases this
 have hblk:(av0s ys c).2=(av0s ys 1).2:=xIg ys c 1
 have hplb:=yQn hpy 1
 -- the new blocks,and the one that was written,in the world behind
 have hnewb:∀x k,c<=x->(av0s ys c).2[x-c]?=some k->(rG ys sz).get (1+(x-c))=some k/\k∈(av0s ys 1).2/\x<c+(av0s ys c).2.length:=fun x k hx hk=>by
  rw[hblk] at hk
  have hlt:=(List.getElem?_eq_some_iff.1 hk).1
  refine⟨?_,List.mem_of_getElem? hk,by rw[hblk];omega⟩
  rw[xKe hly,if_neg (by omega),if_pos (by unfold rN;omega),show 1+(x-c)-1=x-c by omega]
  exact hk
 have hown:(rG ys sz).get 0=some ⟨[(av0s ys 1).1],sz,0⟩:=by rw[xKe hly,if_pos rfl]
 -- a block of the store:one that was worked on,or another one
 have key:∀x k,xQM g c b sz f ns ys x=some k->(∃x1 k1,(x1=if x=b then 0 else 1+(x-c))/\(x≠b->c<=x)/\(rG ys sz).get x1=some k1/\k1.sz=k.sz/\k1.lk=k.lk/\mu2 x=mu1 x1/\∀L,mu1 x1=some L->BR mu1 S1 w' k1 L->BR mu2 S1 w' k L)\/
   (x<c/\x≠b/\(∀j:Nat,(some b::ns)[j]?≠some (some x))/\(St.lockF ⟨g,c⟩ f).get x=some k):=fun x k hk=>by
  rw[yZ3] at hk
  by_cases e:x=b
  ·left
   rw[if_pos e] at hk
   injection hk with hk
   subst hk e
   refine⟨0,_,(if_pos rfl).symm,fun h=>absurd rfl h,hown,rfl,rfl,by rw[hm_lt x hbc,hmb],fun L1 hL1 hbr=>⟨hbr.sz,hbr.len,hbr.lk,fun i hi=>?_,hbr.room,fun hm i hi j hj=>?_,fun hm=>?_⟩⟩
   ·have:i=0:=by simpa using hi
    subst this
    show(av0s ys c).1.length=L1.sz
    rw[yRV,←yRV ys 1]
    exact hbr.row 0 (by simp)
   ·have:i=0:=by simpa using hi
    subst this
    have hj:j<(av0s ys c).1.length:=hj
    have hj1:j<(av0s ys 1).1.length:=by rw[yRV] at hj ⊢;exact hj
    obtain⟨v,e1,e2,e3⟩:=hbr.cell hm 0 (by simp) j hj1
    exact⟨v,e1,e2,xIi ys 1 c hpy (fun j hj=>by rw[hm_ge _ (by omega) (by rw[hblk];omega)];congr 1;omega) j hj1 hj v e3⟩
   ·rw[hmb] at hL1
    rw[hpv.ptr_reg hL1] at hm;cases hm
  ·rw[if_neg e] at hk
   by_cases hx:c<=x/\x<c+(av0s ys c).2.length
   ·left
    rw[if_pos hx] at hk
    obtain⟨q1,q2,q3⟩:=hnewb x k hx.1 hk
    exact⟨_,k,(if_neg e).symm,fun _=>hx.1,q1,rfl,rfl,hm_ge x hx.1 q3,fun L hL hbr=>hbr.plain (hplb k q2)⟩
   ·rw[if_neg hx] at hk
    right
    by_cases hn:isN ns x=true
    ·rw[if_pos hn] at hk;cases hk
    ·rw[if_neg hn] at hk
     refine⟨?_,e,fun j hj=>?_,hk⟩
     ·rcases Nat.lt_or_ge x c with h | h
      ·exact h
      ·obtain⟨k0,hk0,-⟩:=Option.map_eq_some_iff.1 (show(g x).map _=some k from hk)
       have:g x=none:=(h2 x h).2
       rw[hk0] at this;cases this
     cases j with
     | zero=>simp at hj;exact e hj.symm
     | succ j=>exact hn (xRD.2 ⟨j,by simpa using hj⟩)
 have hoth:∀x kx L,(∀j:Nat,(some b::ns)[j]?≠some (some x))->(St.lockF ⟨g,c⟩ f).get x=some kx->mu x=some L->(0<L.lim\/L.mp=true)->¬Oth B mu g (some b::ns) L.g:=fun x kx L hno hk hL hp hB=>by
  obtain⟨k0,hk0,-⟩:=Option.map_eq_some_iff.1 (show(g x).map _=some kx from hk)
  exact hB.2 x k0 L hk0 hL hp hno rfl
 -- another one is as it was
 have other:∀x kx L,(∀j:Nat,(some b::ns)[j]?≠some (some x))->(St.lockF ⟨g,c⟩ f).get x=some kx->mu x=some L->BR mu (yFE mu S ⟨g,c⟩ f) w kx L->(0<L.lim\/L.mp=true->B L.g/\L.g<w.heap.size)->BR mu2 S1 w' kx L:=fun x kx L hno hk hL hbr hgg=>by
  have hsame:(0<L.lim\/L.mp=true)->w'.heap[L.g]?=w.heap[L.g]?:=fun hp=>hoff.block _ (hgg hp).2 (hoth x kx L hno hk hL hp)
  refine⟨hbr.sz,hbr.len,hbr.lk,hbr.row,fun i e1 e2=>?_,fun hm i hi j hj=>?_,fun hm=>?_⟩
  ·have hp:0<L.lim:=by
     rcases Nat.eq_zero_or_pos L.lim with h0 | h0
     ·rw[h0] at e2;simp at e2;omega
     ·exact h0
   rw[World.cell?_of_block (w:=w) (hsame (.inl hp)),World.frozen?_of_block (w:=w) (hsame (.inl hp))]
   exact hbr.room i e1 e2
  ·obtain⟨v,e1,e2,e3⟩:=hbr.cell hm i hi j hj
   exact⟨v,by rw[World.cell?_of_block (w:=w) (hsame (.inl (hbr.lim_pos hm hi)))];exact e1,e2,e3.mono hmono hsub hkeep⟩
  ·obtain⟨e0,ents,clock,e1,e2,e3⟩:=hbr.map hm
   exact⟨e0,ents,clock,(hsame (.inr hm)).trans e1,e2,e3.mono hmono hsub hkeep⟩
 refine⟨v,r,_,mu2,S1,rfl,⟨rfl,rfl⟩,⟨fun x k hk=>?_,fun x x' k k' L1 L2 hne hk hk' hL1 hL2 hp hp'=>?_,fun x k L1 hk hL1 gg i he hs=>?_,hs1.sb⟩,fun x hx=>⟨?_,?_⟩,hr.plain hpr,⟨hmono,hSS,fun gg i hs=>?_,hKS,hoff.mono fun g hg=>hg.1⟩⟩
 ·rcases key x k hk with ⟨x1,k1,-,-,q1,q2,q3,q4,q5⟩ | ⟨q1,q2,q3,q4⟩
  ·obtain⟨L1,hL1,hbr1,hg1⟩:=hs1.loc x1 k1 q1
   exact⟨L1,q4.trans hL1,q5 L1 hL1 hbr1,fun hp=>⟨(hg1 hp).1.1,(hg1 hp).2⟩⟩
  ·obtain⟨L1,hL1,hbr1,hg1⟩:=hl.loc x k q4
   exact⟨L1,hmono x L1 hL1,other x k L1 q3 q4 hL1 hbr1 hg1,fun hp=>⟨(hg1 hp).1,Nat.lt_of_lt_of_le (hg1 hp).2 hoff.size⟩⟩
 ·rcases key x k hk with ⟨x1,k1,p1,p2,q1,q2,q3,q4,q5⟩ | ⟨q1,q2,q3,q4⟩
  ·rcases key x' k' hk' with ⟨x1',k1',p1',p2',r1,r2,r3,r4,r5⟩ | ⟨r1,r2,r3,r4⟩
   ·have hne1:x1≠x1':=by
      rw[p1,p1']
      by_cases e:x=b
      ·by_cases e':x'=b
       ·exact absurd (e.trans e'.symm) hne
       ·rw[if_pos e,if_neg e'];omega
      ·have:=p2 e
       by_cases e':x'=b
       ·rw[if_neg e,if_pos e'];omega
       ·have:=p2' e'
        rw[if_neg e,if_neg e'];omega
    exact hs1.gdis x1 x1' k1 k1' L1 L2 hne1 q1 r1 (q4.symm.trans hL1) (r4.symm.trans hL2) hp hp'
   ·have hL2':mu x'=some L2:=by rw[←hm_lt x' r1];exact hL2
    have hB:=(hs1.own q1 (q4.symm.trans hL1) hp).1
    exact fun e=>hoth x' k' L2 r3 r4 hL2' hp' (e▸hB)
  ·have hL1':mu x=some L1:=by rw[←hm_lt x q1];exact hL1
   rcases key x' k' hk' with ⟨x1',k1',p1',p2',r1,r2,r3,r4,r5⟩ | ⟨r1,r2,r3,r4⟩
   ·have hB:=(hs1.own r1 (r4.symm.trans hL2) hp').1
    exact fun e=>hoth x k L1 q3 q4 hL1' hp (e▸hB)
   ·have hL2':mu x'=some L2:=by rw[←hm_lt x' r1];exact hL2
    exact hl.gdis x x' k k' L1 L2 hne q4 r4 hL1' hL2' hp hp'
 ·rcases key x k hk with ⟨x1,k1,p1,p2,q1,q2,q3,q4,q5⟩ | ⟨q1,q2,q3,q4⟩
  ·exact hs1.exS x1 k1 L1 q1 (q4.symm.trans hL1) gg i ⟨he.1,by rw[q3];exact he.2.1,he.2.2⟩ hs
  ·have hL1':mu x=some L1:=by rw[←hm_lt x q1];exact hL1
   rcases hnew gg i hs with hs | hs
   ·exact hl.exS x k L1 q4 hL1' gg i he hs
   ·rw[he.1] at hs
    exact hoth x k L1 q3 q4 hL1' (.inl he.rg.pos) hs
 ·have hx:c+(av0s ys c).2.length<=x:=hx
  rw[←hmd]
  dsimp only
  rw[if_neg (by omega),if_neg (by omega)]
 ·have hx:c+(av0s ys c).2.length<=x:=hx
  show xQM g c b sz f ns ys x=none
  rw[yZ3,if_neg (by omega),if_neg (by omega)]
  split
  ·rfl
  ·show(g x).map _=none
   rw[show g x=none from(h2 x (by show c<=x;omega)).2];rfl
 ·rcases hnew gg i hs with hs | hs
  ·rcases yH2 h1 f gg i hs with hs | hs
   ·exact .inl hs
   ·exact .inr hs
  ·exact .inr hs.1
end
section
variable {α:Type}
theorem CV.pl{g:Gs}{c:Nat}{f:Nat->Nat}{x y:V}{n:Nat}{bs:Bl}{ns:List (Option Nat)}(h:CV g c f x n y bs ns):(bs= []->Plain y)/\∀p∈bs,∀r∈p.es,∀z∈r,Plain z:=by
 cases h with
 | p hz hp=>exact⟨fun _=>hp,fun p hp=>by cases hp⟩
 | a hk hl hf hp=>exact⟨fun e=>(by cases e),fun p hq=>by obtain rfl:=List.mem_singleton.1 hq;exact hp⟩
 | w hk hl hf hp=>exact⟨fun e=>(by cases e),fun p hq=>by obtain rfl:=List.mem_singleton.1 hq;exact hp.pl⟩
 | z=>exact⟨fun e=>(by cases e),fun p hq=>by obtain rfl:=List.mem_singleton.1 hq;simp⟩
theorem yZ0{G:Tr Blk'}{f:Nat->Nat}(hg:PSg G.get):∀(ms:List Md) (xs:List V) (cs:List Bool) (ys:List AV0) (ns:List (Option Nat)),(∀x∈xs,PS x)->canVs G f ms xs=some (cs,ys,ns)->(∀b∈cs,b=true)->PlA ys
 | [],[],cs,ys,ns,hx,h,hc=>by
   simp only[canVs,Option.some.injEq,Prod.mk.injEq] at h
   obtain⟨rfl,rfl,rfl⟩:=h
   exact fun x hx=>by cases hx
 | m::ms,x::xs,cs,ys,ns,hx,h,hc=>by
   unfold canVs at h
   split at h
   ·cases h
   ·rename_i c1 y1 ns1 h1
    split at h
    ·cases h
    ·rename_i d2 ys2 ns2 h2
     simp only[Option.some.injEq,Prod.mk.injEq] at h
     obtain⟨rfl,rfl,rfl⟩:=h
     have k1:=(xIm (c:=0) (n:=1) hg (hx x (by simp)) h1 fun b hb=>hc b (List.mem_append_left _ hb)).pl
     have k2:=yZ0 hg ms xs _ _ _ (fun z hz=>hx z (by simp[hz])) h2 fun b hb=>hc b (List.mem_append_right _ hb)
     intro z hz
     rcases List.mem_cons.1 hz with rfl | hz
     ·cases z with
      | p y=>exact k1.1 rfl
      | a es sz=>exact k1.2 _ (List.mem_singleton.2 rfl)
      | w es sz=>exact k1.2 _ (List.mem_singleton.2 rfl)
     ·exact k2 z hz
 | [],_::_,_,_,_,_,h,_=>by cases h
 | _::_,[],_,_,_,_,h,_=>by cases h
theorem xIh{xs:List AV0}(h:PlA xs):∀n,∀y∈(av0s xs n).1,PS y:=by
 induction xs with
 | nil=>intro n y hy;cases hy
 | cons x l ih=>
   intro n y hy
   rcases List.mem_cons.1 (show y∈(av0 x n).1::_ from hy) with rfl | hy
   ·have hx:=h x (by simp)
    cases x with
    | p y=>exact Plain.ps hx
    | a es sz=>exact .bs _ _ _ _
    | w es sz=>exact .bs _ _ _ _
   ·exact ih h.cons _ y hy
theorem xTn{xs:List AV0}(h:PlA xs)(hl:(av0s xs 1).2.length<=1000)(sz:Nat):PSg (rG xs sz).get:=fun b k hk=>by
 rw[xKe hl] at hk
 split at hk
 ·injection hk with hk
  subst hk
  intro r hr x hx
  obtain rfl:=List.mem_singleton.1 hr
  exact xIh h 1 x hx
 ·split at hk
  ·exact fun r hr x hx=>(yQn h 1 k (List.mem_of_getElem? hk) r hr x hx).ps
  ·cases hk
def endM(P:Program)(rs:List ResultVar)(ms:List Md)(sz:Nat)(K:V->List AV0->Option α)(T':Tr V)(G':Tr Blk')(c':Nat):Option α:=match (T'.get 0).getD .undef with
 | .ptr b i j=>match G'.get 0 with
   | some k=>match k.es with
     | [row]=>match canVs G' (fOf (0::wN ms row)) ms row with
       | none=>none
       | some (c1,ys,ns)=>match resV P (yBO T') ⟨G'.get,c'⟩ rs with
         | none=>none
         | some r=>match frC (fOf (0::wN ms row)) 20 G'.get r with
           | none=>none
           | some p=>yXO (noDup (some 0::ns)::Nat.beq b 0::Nat.beq i 0::Nat.beq j 0::Nat.beq k.sz sz::Nat.beq k.lk 0::Nat.beq (fOf (0::wN ms row) 0) 0::Nat.ble (av0s ys 1).2.length 1000::(c1++p.1)) (K p.2 ys) none
     | _=>none
   | none=>none
 | _=>none
theorem xGS{P:Program}{rs:List ResultVar}{ms:List Md}{sz:Nat}{K:V->List AV0->Option α}{T':Tr V}{G':Tr Blk'}{c':Nat}{r:α}(hf:PSf (yBO T'))(hg:PSg G'.get)(h:endM P rs ms sz K T' G' c'=some r):
  ∃v ys,K v ys=some r/\(∀K':V->List AV0->Option α,endM P rs ms sz K' T' G' c'=K' v ys)/\Plain v/\PlA ys/\(av0s ys 1).2.length<=1000/\∀e,e= .ret\/e= .normal->xTa P rs 0 v ys sz e (yBO T') ⟨G'.get,c'⟩:=by
 unfold endM at h
 split at h
 ·rename_i b i j hx
  split at h
  ·rename_i k hk
   split at h
   ·rename_i row hrow
    split at h
    ·cases h
    ·rename_i c1 ys ns h1
     split at h
     ·cases h
     ·rename_i r0 hr
      split at h
      ·cases h
      ·rename_i p hp
       obtain⟨hc,h2,h3⟩:=yCR h
       have e0:=Nat.eq_of_beq_eq_true (hc (Nat.beq b 0) (by simp))
       have e1:=Nat.eq_of_beq_eq_true (hc (Nat.beq i 0) (by simp))
       have e2:=Nat.eq_of_beq_eq_true (hc (Nat.beq j 0) (by simp))
       have e3:=Nat.eq_of_beq_eq_true (hc (Nat.beq (fOf (0::wN ms row) 0) 0) (by simp))
       have e4:=Nat.eq_of_beq_eq_true (hc (Nat.beq k.lk 0) (by simp))
       have e5:=Nat.eq_of_beq_eq_true (hc (Nat.beq k.sz sz) (by simp))
       have e6:=Nat.le_of_ble_eq_true (hc (Nat.ble (av0s ys 1).2.length 1000) (by simp))
       subst e0 e1 e2 e5
       have hps:∀z∈row,PS z:=fun z hz=>hg 0 _ hk row (by rw[hrow];simp) z hz
       obtain⟨k1,k2⟩:=yWI 20 ⟨G'.get,c'⟩ r0 p.1 p.2 hg (xBe hf hg hr) hp fun b hb=>hc b (by simp[hb])
       refine⟨p.2,ys,h2,fun K'=>?_,k2,yZ0 hg ms row _ _ _ hps h1 fun b hb=>hc b (by simp[hb]),e6,fun e he=>?_⟩
       ·unfold endM
        rw[hx]
        dsimp only
        rw[hk]
        dsimp only
        rw[hrow]
        dsimp only
        rw[h1]
        dsimp only
        rw[hr]
        dsimp only
        rw[hp]
        exact h3 _
       ·have hkk:G'.get 0=some ⟨[row],k.sz,0⟩:=by
          rw[hk,←hrow,←e4]
        have fin:∃(f:Nat->Nat) (m:Md) (row:List V) (ns:List (Option Nat)) (r0:V),yBO T' 0= .ptr 0 0 0/\(⟨G'.get,c'⟩:St).get 0=some ⟨[row],k.sz,0⟩/\f 0=0/\CVs G'.get c' f row 1 (av0s ys 1).1 (av0s ys 1).2 ns/\noDup (some 0::ns)=true/\resV P (yBO T') ⟨G'.get,c'⟩ rs=some r0/\Fz ⟨G'.get,c'⟩ f r0 p.2:=
         ⟨_,.p,row,ns,r0,hx,hkk,e3,yUR hg ms row 1 _ _ _ hps h1 fun b hb=>hc b (by simp[hb]),hc (noDup (some 0::ns)) (by simp),hr,k1⟩
        rcases he with rfl | rfl <;> exact fin
   ·cases h
  ·cases h
 ·cases h
def runM(P:Program)(call:ICk α)(cc:CCk α)(L:Nat)(lt:LT α)(g:FuncId)(ms:List Md)(xs:List AV0)(sz:Nat)(args:List V)(K:V->List AV0->Option α):Option α:=
 match P.funcs[g]? with
 | none=>none
 | some fn=>match fn.body with
   | none=>none
   | some x=>bif(fn.name== "runtime.NumGoroutine") then none else
     bif Nat.ble args.length fn.ntmps&&okC fn.ntmps x&&Nat.ble args.length 4000 then
      codeL P call cc L x lt (frT args 0 .leaf) (rG xs sz) (rN xs) fun e T' G' c'=>match e with
       | .exit _=>none
       | .normal=>endM P fn.results.toList ms sz K T' G' c'
       | .ret=>endM P fn.results.toList ms sz K T' G' c'
     else none
theorem xRa{P:Program}(hm:P.follows .mixedOrders=true){call:ICk α}{cc:CCk α}(hi:xFy P call)(hc:xDj P cc)(di:xF2 call)(dc:xFx cc){L sz:Nat}{lt:LT α}{g:FuncId}{fn:Func}{x:Code}(hf:P.funcs[g]?=some fn)(hb:fn.body=some x)(hlt:yUh P fn.ntmps x lt)(hld:yIs x lt)
  {args:List V} {ms:List Md} {xs:List AV0} {K:V->List AV0->Option α} {r:α} (ha:∀y∈args,PS y) (hxs:PlA xs) (hlx:(av0s xs 1).2.length<=1000) (h:runM P call cc L lt g ms xs sz args K=some r):∃v ys,xRw P g args xs sz v ys/\K v ys=some r:=by
 unfold runM at h
 rw[hf] at h
 dsimp only at h
 rw[hb] at h
 dsimp only at h
 cases hn:(fn.name== "runtime.NumGoroutine") with
 | true=>rw[hn] at h;cases h
 | false=>
 rw[hn,cond_false] at h
 obtain⟨h1,h2⟩:=yAN h
 rw[Bool.and_eq_true,Bool.and_eq_true] at h1
 have hl:args.length<=4000:=Nat.le_of_ble_eq_true h1.2
 have hT:PSf (yBO (frT args 0 .leaf)):=by rw[yLb hl];exact .frOf ha
 have hG:=xTn hxs hlx sz
 obtain⟨e,T1,G1,c1,k1,k2⟩:=yQt di dc x lt _ _ _ _ r hld h2
 obtain⟨p1,p2⟩:=k2 hT hG
 rw[k1] at h2
 have fin:endM P fn.results.toList ms sz K T1 G1 c1=some r->e= .normal\/e= .ret->∃v ys,xRw P g args xs sz v ys/\K v ys=some r:=fun h2 he=>by
  obtain⟨v,ys,q1,q2,q3,q4,q5,-⟩:=xGS p1 p2 h2
  refine⟨v,ys,?_,q1⟩
  let K1:V->List AV0->Option α:=fun v' ys'=>open Classical in if v'=v/\ys'=ys then some r else none
  have hK1:codeL P call cc L x lt (frT args 0 .leaf) (rG xs sz) (rN xs) (fun e T' G' c'=>match e with
    | .exit _=>none
    | .normal=>endM P fn.results.toList ms sz K1 T' G' c'
    | .ret=>endM P fn.results.toList ms sz K1 T' G' c')=some r:=by
   rw[k1]
   have:endM P fn.results.toList ms sz K1 T1 G1 c1=some r:=(q2 K1).trans (if_pos ⟨rfl,rfl⟩)
   rcases he with rfl | rfl <;> exact this
  have hle:args.length<=fn.ntmps:=Nat.le_of_ble_eq_true h1.1.1
  refine xI8 (t0:=0) hf hb hn hle q3 q4 hlx q5 ?_
  rw[←yLb hl]
  refine yLj hm hi hc x lt _ _ _ _ r hK1 hlt h1.1.2 hT hG _ fun e T' G' c' hf' hg' h'=>?_
  have go:∀e,e= .ret\/e= .normal->endM P fn.results.toList ms sz K1 T' G' c'=some r->xTa P fn.results.toList 0 v ys sz e (yBO T') ⟨G'.get,c'⟩:=fun e he h'=>by
   obtain⟨v',ys',m1,-,-,-,-,m2⟩:=xGS hf' hg' h'
   have m1:(open Classical in if v'=v/\ys'=ys then some r else none)=some r:=m1
   split at m1
   ·rename_i e0
    obtain⟨rfl,rfl⟩:=e0
    exact m2 e he
   ·cases m1
  cases e with
  | exit i=>cases h'
  | normal=>exact go _ (.inr rfl) h'
  | ret=>exact go _ (.inl rfl) h'
 cases e with
 | exit i=>cases h2
 | normal=>exact fin h2 (.inl rfl)
 | ret=>exact fin h2 (.inr rfl)
def xUA(P:Program)(sp:Spk α)(L n:Nat)(lt:LT α)(g:FuncId)(ms:List Md)(xs:List AV0)(sz:Nat)(args:List V)(K:V->List AV0->Option α):Option α:=runM P (yDw P sp L n).1 (yDw P sp L n).2 L lt g ms xs sz args K
end
section
variable {α A X R Y:Type}
def xT6(cr:Cd R)(cy:Cz Y)(v:V)(ys:List AV0):Option (R×Y):=bif cr.ok v&&cy.ok ys then some (cr.dec v,cy.dec ys) else none
def xR2(P:Program)(i:FuncId)(sz:Nat)(ca:Ca A)(cx:Cz X)(cr:Cd R)(cy:Cz Y)(g:A->X->Option (R×Y)):Prop:=
 ∀a x r y,(∀v∈ca.enc a,Plain v)->PlA (cx.enc x)->(av0s (cx.enc x) 1).2.length<=1000->g a x=some (r,y)->xRw P i (.ptr 0 0 0::ca.enc a) (cx.enc x) sz (cr.enc r) (cy.enc y)
theorem xQ1{P:Program}(hm:P.follows .mixedOrders=true){sp:Spk (R×Y)}(hs:yLc P sp){L n sz:Nat}{lt:LT (R×Y)}{g:FuncId}{ms:List Md}{fn:Func}{x:Code}(hf:P.funcs[g]?=some fn)(hb:fn.body=some x)(hlt:yUh P fn.ntmps x lt)(hld:yIs x lt)
  {ca:Ca A} {cx:Cz X} {cr:Cd R} {cy:Cz Y} {f:A->X->Option (R×Y)} (he:∀a x,xUA P sp L n lt g ms (cx.enc x) sz (.ptr 0 0 0::ca.enc a) (xT6 cr cy)=f a x):xR2 P g sz ca cx cr cy f:=by
 intro a x r y hp hx hl h
 obtain⟨h1,h2,h3,h4⟩:=yOO hm hs (L:=L) n
 obtain⟨v,ys,k1,k2⟩:=xRa hm h1 h2 h3 h4 hf hb hlt hld (fun z hz=>by
  rcases List.mem_cons.1 hz with rfl | hz
  ·exact .ptr _ _ _
  ·exact(hp z hz).ps) hx hl ((he a x).trans h)
 obtain⟨k4,k5⟩:=yAN (show(bif cr.ok v&&cy.ok ys then some (cr.dec v,cy.dec ys) else none)=some (r,y) from k2)
 rw[Bool.and_eq_true] at k4
 injection k5 with k5
 injection k5 with k5 k6
 have e1:cr.enc r=v:=by rw[←k5];exact cr.h v k4.1
 have e2:cy.enc y=ys:=by rw[←k6];exact cy.h ys k4.2
 rw[e1,e2]
 exact k1
end
section
variable {α:Type}
def nms:Nat->Gs->V->List Nat
 | 0,_,_=> []
 | n+1,g,x=>match x with
   | .bs b _ _ _=> [b]
   | .agg cs=>cs.flatMap (nms n g)
   | .tup cs=>cs.flatMap (nms n g)
   | .fn _ a b=>a.flatMap (nms n g)++b.flatMap (nms n g)
   | .ptr b i _=>b::(match g b with | some k=>((k.es[i]?).getD []).flatMap (nms n g) | none=> [])
   | _=> []
def xQS(g:Gs):List Md->List V->List Nat
 | .p::ms,x::xs=>nms 5 g x++xQS g ms xs
 | .a _::ms,x::xs=>nms 5 g x++xQS g ms xs
 | _::ms,_::xs=>xQS g ms xs
 | _,_=> []
def fRe(rs:List Nat)(b:Nat):Nat:=bif yE3 rs b then 2000000 else 0
def xLa:List (Option Nat)->List Nat
 | []=> []
 | some b::l=>b::xLa l
 | none::l=>xLa l
def xQf(c:Nat):Nat->List Nat
 | 0=> []
 | n+1=>(c+n)::xQf c n
abbrev xTD(α:Type):=List V->List AV0->(V->List AV0->Option α)->Option α
def putK(G:Tr Blk')(c b sz:Nat)(rs:List Nat)(ns:List (Option Nat))(r:V)(ys:List AV0)(K:V->Tr Blk'->Nat->Option α):Option α:=
 match xDh G (b::(xLa ns++(rs++xQf c (av0s ys c).2.length))) (xQM G.get c b sz (fRe rs) ns ys) with
 | none=>none
 | some G'=>K r G' (c+(av0s ys c).2.length)
def mcK(ms:List Md)(sz:Nat)(run:xTD α):ICf α:=fun args G c K=>match args with
 | .ptr b i j::ax=>match G.get b with
   | some k=>match k.es with
     | [row]=>match canVs G (fRe (xQS G.get ms row++ax.flatMap (nms 5 G.get))) ms row with
       | none=>none
       | some (c1,xs,ns)=>match mapC (frC (fRe (xQS G.get ms row++ax.flatMap (nms 5 G.get))) 20 G.get) ax with
         | none=>none
         | some p=>yXO (Nat.beq i 0::Nat.beq j 0::Nat.beq k.sz sz::Nat.beq k.lk 0::Nat.beq (fRe (xQS G.get ms row++ax.flatMap (nms 5 G.get)) b) 0::noDup (some b::ns)::Nat.ble (av0s xs 1).2.length 1000::(c1++p.1))
          (run p.2 xs fun r ys=>putK G c b sz (xQS G.get ms row++ax.flatMap (nms 5 G.get)) ns r ys K) none
     | _=>none
   | none=>none
 | _=>none
def MOk(P:Program)(g:FuncId)(sz:Nat)(run:xTD α):Prop:=∀ax xs K r,run ax xs K=some r->∃v ys,(∀K',run ax xs K'=K' v ys)/\((∀y∈ax,Plain y)->PlA xs->(av0s xs 1).2.length<=1000->xRw P g (.ptr 0 0 0::ax) xs sz v ys)
theorem xA0:∀{ns:List (Option Nat)} {x:Nat},isN ns x=true->x∈xLa ns
 | [],x,h=>by cases h
 | none::l,x,h=>xA0 (ns:=l) (by simpa[isN] using h)
 | some b::l,x,h=>by
   have h:(Nat.beq x b || isN l x)=true:=h
   rw[Bool.or_eq_true] at h
   rcases h with h | h
   ·rw[Nat.eq_of_beq_eq_true h];exact List.mem_cons_self ..
   ·exact List.mem_cons_of_mem _ (xA0 h)
theorem xFq{c:Nat}:∀{n x:Nat},c<=x->x<c+n->x∈xQf c n
 | 0,x,h1,h2=>by omega
 | n+1,x,h1,h2=>by
   by_cases e:x=c+n
   ·rw[e];exact List.mem_cons_self ..
   ·exact List.mem_cons_of_mem _ (xFq h1 (by omega))
theorem xNd{G:Tr Blk'}{c b sz:Nat}{rs:List Nat}{ns:List (Option Nat)}{v:V}{ys:List AV0}{K:V->Tr Blk'->Nat->Option α}{r:α}(h:putK G c b sz rs ns v ys K=some r):
  ∃G',G'.get=xQM G.get c b sz (fRe rs) ns ys/\K v G' (c+(av0s ys c).2.length)=some r/\∀K':V->Tr Blk'->Nat->Option α,putK G c b sz rs ns v ys K'=K' v G' (c+(av0s ys c).2.length):=by
 unfold putK at h
 split at h
 ·cases h
 ·rename_i G' hu
  refine⟨G',?_,h,fun K'=>by unfold putK;rw[hu]⟩
  rw[yOm _ _ _ _ hu]
  funext x
  show cond (yE3 _ x) (xQM _ _ _ _ _ _ _ x) (G.get x)=_
  cases hx:yE3 (b::(xLa ns++(rs++xQf c (av0s ys c).2.length))) x with
  | true=>rfl
  | false=>
    have hno:¬x∈b::(xLa ns++(rs++xQf c (av0s ys c).2.length)):=fun hm=>by rw[yE4.2 hm] at hx;cases hx
    simp only[List.mem_cons,List.mem_append,not_or] at hno
    obtain⟨n1,n2,n3,n4⟩:=hno
    rw[cond_false,yZ3,if_neg n1,if_neg (fun hh=>n4 (xFq hh.1 hh.2)),if_neg (fun hh=>n2 (xA0 hh))]
    have hm:yE3 rs x=false:=by
     cases h:yE3 rs x with
     | false=>rfl
     | true=>exact absurd (yE4.1 h) n3
    show G.get x=(G.get x).map fun k=>(⟨k.es,k.sz,max k.lk (min (fRe rs x) k.es.length)⟩:Blk')
    unfold fRe
    rw[hm,cond_false]
    cases G.get x with
    | none=>rfl
    | some k=>simp
theorem xSZ{P:Program}{g:FuncId}{ms:List Md}{sz:Nat}{run:xTD α}(hr:MOk P g sz run):xRv P g (mcK ms sz run):=by
 have key:∀args (G:Tr Blk') c K r,mcK ms sz run args G c K=some r->∃v G' c',(∀K',mcK ms sz run args G c K'=K' v G' c')/\((∀x∈args,PS x)->PSg G.get->PS v/\PSg (Tr.get G')/\xOf P g args ⟨G.get,c⟩ (fun r' st'=>r'=v/\st'=⟨G'.get,c'⟩)):=by
  intro args G c K r h
  unfold mcK at h
  split at h
  ·rename_i args b i j ax
   split at h
   ·rename_i k hk
    split at h
    ·rename_i row hrow
     split at h
     ·cases h
     ·rename_i c1 xs ns h1
      split at h
      ·cases h
      ·rename_i p hp
       obtain⟨hc,h2,h3⟩:=yCR h
       obtain⟨v,ys,q1,q2⟩:=hr _ _ _ _ h2
       rw[q1] at h2
       obtain⟨G',m1,m2,m3⟩:=xNd h2
       refine⟨v,G',c+(av0s ys c).2.length,fun K'=>?_,fun hps hg=>?_⟩
       ·unfold mcK
        dsimp only
        rw[hk]
        dsimp only
        rw[hrow]
        dsimp only
        rw[h1]
        dsimp only
        rw[hp]
        dsimp only
        rw[h3,q1,m3]
       ·have e1:=Nat.eq_of_beq_eq_true (hc (Nat.beq i 0) (by simp))
        have e2:=Nat.eq_of_beq_eq_true (hc (Nat.beq j 0) (by simp))
        have e4:=Nat.eq_of_beq_eq_true (hc (Nat.beq k.lk 0) (by simp))
        have e5:=Nat.eq_of_beq_eq_true (hc (Nat.beq k.sz sz) (by simp))
        have e6:=Nat.le_of_ble_eq_true (hc (Nat.ble (av0s xs 1).2.length 1000) (by simp))
        have e3:=Nat.eq_of_beq_eq_true (hc (Nat.beq (fRe (xQS G.get ms row++ax.flatMap (nms 5 G.get)) b) 0) (by simp))
        have e7:=hc (noDup (some b::ns)) (by simp)
        subst e1 e2 e5
        have hps2:∀z∈row,PS z:=fun z hz=>hg b _ hk row (by rw[hrow];simp) z hz
        have hkk:G.get b=some ⟨[row],k.sz,0⟩:=by rw[hk,←hrow,←e4]
        have hcv:=yUR (c:=c) hg ms row 1 _ _ _ hps2 h1 fun b hb=>hc b (by simp[hb])
        have hpl:=yZ0 hg ms row _ _ _ hps2 h1 fun b hb=>hc b (by simp[hb])
        obtain⟨k1,k2⟩:=yLl (st:=⟨G.get,c⟩) hg (fun x hx=>hps x (List.mem_cons_of_mem _ hx)) hp fun b hb=>hc b (by simp[hb])
        have hM:=q2 k2 hpl e6
        have hI:=xGf hM hkk e3 hcv e7 e6 (args:= .ptr b 0 0::ax) rfl ⟨by simp[k1.1],fun j hj hj'=>by
         cases j with
         | zero=>exact .inl ⟨rfl,rfl⟩
         | succ j=>exact .inr ⟨k1.2 j (by simpa using hj) (by simpa using hj'),k2 _ (List.getElem_mem _)⟩⟩
        refine⟨hM.2.1.ps,fun x kx hx=>?_,?_⟩
        ·rw[m1,yZ3] at hx
         split at hx
         ·injection hx with hx
          subst hx
          intro r hr z hz
          obtain rfl:=List.mem_singleton.1 hr
          exact xIh hM.2.2.1 c z hz
         ·split at hx
          ·exact fun r hr z hz=>(yQn hM.2.2.1 c kx (List.mem_of_getElem? hx) r hr z hz).ps
          ·split at hx
           ·cases hx
           ·obtain⟨k0,hk0,rfl⟩:=Option.map_eq_some_iff.1 (show(G.get x).map _=some kx from hx)
            exact hg x k0 hk0
        ·rw[m1];exact hI
    ·cases h
   ·cases h
  ·cases h
 refine⟨fun args G c K r ha hg h Kp hk=>?_,fun args G c K r h=>?_⟩
 ·obtain⟨v,G',c',k1,k2⟩:=key args G c K r h
  obtain⟨k3,k4,k5⟩:=k2 ha hg
  rw[k1] at h
  refine .inr (.inr (.inr (.inr ⟨_,k5,?_⟩)))
  rintro r' st' ⟨rfl,rfl⟩
  exact hk _ _ _ k3 k4 h
 ·obtain⟨v,G',c',k1,k2⟩:=key args G c K r h
  exact⟨v,G',c',k1,fun ha hg=>⟨(k2 ha hg).1,(k2 ha hg).2.1⟩⟩
end
section
variable {α A X R Y:Type}
def xTs(ca:Ca A)(cx:Cz X)(cr:Cd R)(cy:Cz Y)(g:A->X->Option (R×Y)):xTD α:=fun ax xs K=>bif ca.ok ax&&cx.ok xs then yAB (g (ca.dec ax) (cx.dec xs)) fun q=>K (cr.enc q.1) (cy.enc q.2) else none
def spM(ms:List Md)(sz:Nat)(ca:Ca A)(cx:Cz X)(cr:Cd R)(cy:Cz Y)(g:A->X->Option (R×Y)):Ent α:=spI (mcK ms sz (xTs ca cx cr cy g))
theorem xR2.ent{P:Program}{i:FuncId}{ms:List Md}{sz:Nat}{ca:Ca A}{cx:Cz X}{cr:Cd R}{cy:Cz Y}{g:A->X->Option (R×Y)}(h:xR2 P i sz ca cx cr cy g):yS5 P i (spM (α:=α) ms sz ca cx cr cy g):=by
 refine xKp (xSZ fun ax xs K r hr=>?_)
 obtain⟨h1,h2⟩:=yAN (show(bif ca.ok ax&&cx.ok xs then yAB (g (ca.dec ax) (cx.dec xs)) fun q=>K (cr.enc q.1) (cy.enc q.2) else none)=some r from hr)
 obtain⟨⟨r',y⟩,h3,h4⟩:=yQp h2
 refine⟨cr.enc r',cy.enc y,fun K'=>?_,fun hp hx hl=>?_⟩
 ·show(bif ca.ok ax&&cx.ok xs then yAB (g (ca.dec ax) (cx.dec xs)) fun q=>K' (cr.enc q.1) (cy.enc q.2) else none)=_
  rw[h1,h3];rfl
 ·rw[Bool.and_eq_true] at h1
  have e1:=ca.h ax h1.1
  have e2:=cx.h xs h1.2
  have:=h (ca.dec ax) (cx.dec xs) r' y (by rw[e1];exact hp) (by rw[e2];exact hx) (by rw[e2];exact hl) h3
  rw[e1,e2] at this
  exact this
end
inductive RK where
 | a
 | t
 | s
 | ta (k:Nat)
def rkV:RK->List V->V
 | .a,l=> .agg l
 | .t,l=> .tup l
 | .s,l=>l.headD .undef
 | .ta k,l=> .tup (.agg (l.take k)::l.drop k)
def rkL:RK->V->Option (List V)
 | .a,.agg l=>some l
 | .t,.tup l=>some l
 | .s,v=>some [v]
 | .ta k,.tup (.agg a::l)=>bif Nat.beq a.length k then some (a++l) else none
 | _,_=>none
theorem xQZ{k:Nat}{v:V}{l:List V}(h:rkL (.ta k) v=some l):∃a r,v= .tup (.agg a::r)/\a.length=k/\l=a++r:=by
 cases v with
 | tup xs=>cases xs with
   | nil=>cases h
   | cons y r=>cases y with
     | agg a=>
       obtain⟨h1,h2⟩:=yAN (show(bif Nat.beq a.length k then some (a++r) else none)=some l from h)
       injection h2 with h2
       exact⟨a,r,rfl,Nat.eq_of_beq_eq_true h1,h2.symm⟩
     | _=>cases h
 | _=>cases h
theorem xPa{k:RK}{v:V}{l:List V}(h:rkL k v=some l):v=rkV k l:=by
 cases k with
 | a=>cases v <;> first | (cases h;done) | (injection h with h;subst h;rfl)
 | t=>cases v <;> first | (cases h;done) | (injection h with h;subst h;rfl)
 | s=>injection h with h;subst h;rfl
 | ta k=>
   obtain⟨a,r,rfl,rfl,rfl⟩:=xQZ h
   show _=V.tup (.agg ((a++r).take a.length)::(a++r).drop a.length)
   rw[List.take_left,List.drop_left]
theorem xS2{k:RK}{v:V}{l:List V}(h:rkL k v=some l)(hp:PS v):∀z∈l,PS z:=by
 cases k with
 | a=>cases hp <;> first | (cases h;done) | (injection h with h;subst h;rename_i h2;exact h2)
 | t=>cases hp <;> first | (cases h;done) | (injection h with h;subst h;rename_i h2;exact h2)
 | s=>
   injection h with h
   subst h
   intro z hz
   rw[List.mem_singleton.1 hz];exact hp
 | ta k=>
   obtain⟨a,r,rfl,rfl,rfl⟩:=xQZ h
   cases hp with
   | tup _ h2=>
     intro z hz
     rcases List.mem_append.1 hz with hz | hz
     ·cases h2 _ (List.mem_cons_self ..) with
      | agg _ h3=>exact h3 z hz
     ·exact h2 z (List.mem_cons_of_mem _ hz)
theorem xS3{k:RK}{l:List V}(h:∀z∈l,PS z):PS (rkV k l):=by
 cases k with
 | a=>exact .agg _ h
 | t=>exact .tup _ h
 | s=>cases l with
   | nil=>exact .undef
   | cons x l=>exact h x (by simp)
 | ta k=>
   refine .tup _ fun z hz=>?_
   rcases List.mem_cons.1 hz with rfl | hz
   ·exact .agg _ fun y hy=>h y (List.mem_of_mem_take hy)
   ·exact h z (List.mem_of_mem_drop hz)
theorem xNp{mu mu':Mu}{S S':yEn}{w w':World}{k:RK}{l l':List V}{v:Value}(hl:l.length=l'.length)(h:VR mu S w (rkV k l) v)(hm:∀j (hj:j<l.length) (hj':j<l'.length) u,VR mu S w l[j] u->VR mu' S' w' l'[j] u):VR mu' S' w' (rkV k l') v:=by
 cases k with
 | a=>
   cases h with
   | agg _ vs hl2 h1 hv=>exact .agg _ vs (by omega) h1 fun j hj hj'=>hm j (by omega) hj _ (hv j (by omega) hj')
 | t=>
   cases h with
   | tup _ vs hl2 hv=>exact .tup _ vs (by omega) fun j hj hj'=>hm j (by omega) hj _ (hv j (by omega) hj')
 | s=>
   cases l with
   | nil=>
     obtain rfl:l'= []:=List.eq_nil_of_length_eq_zero (by simpa using hl.symm)
     exact .undef _
   | cons x l=>
     cases l' with
     | nil=>cases hl
     | cons x' l'=>exact hm 0 (by simp) (by simp) v h
 | ta k=>
   cases h with
   | tup _ vs hl2 hv=>
     have hl2:(V.agg (l.take k)::l.drop k).length=vs.length:=hl2
     rw[List.length_cons,List.length_drop] at hl2
     refine .tup _ vs (by rw[List.length_cons,List.length_drop];omega) fun j hj hj'=>?_
     have h2:=hv j (by rw[List.length_cons,List.length_drop];omega) hj'
     cases j with
     | zero=>
       rw[List.getElem_cons_zero] at h2 ⊢
       generalize vs[0]=u at*
       cases h2 with
       | agg _ ws hl3 h1 hw=>
         rw[List.length_take] at hl3
         refine .agg _ ws (by rw[List.length_take];omega) h1 fun i hi hi'=>?_
         rw[List.length_take] at hi
         have h3:=hw i (by rw[List.length_take];omega) hi'
         rw[List.getElem_take] at h3 ⊢
         exact hm i (by omega) (by omega) _ h3
     | succ j=>
       rw[List.length_cons,List.length_drop] at hj
       rw[List.getElem_cons_succ,List.getElem_drop] at h2 ⊢
       exact hm (k+j) (by omega) (by omega) _ h2
def nG(zs:List AV0):Tr Blk':=blT (av0s zs 1).2 1 .leaf
def xP7(P:Program)(rk:RK)(g:FuncId)(args:List V)(zs:List AV0):Prop:=
 yKl P g/\PlA zs/\(av0s zs 1).2.length<=1000/\∀(w:World) (S:yEn) (vargs:List Value),(∀g i,S g i->g<w.heap.size)->VRs yOr S w args vargs→
  Calls P g vargs.toArray w fun e w'=>∃v mu' S',e= .returned v/\VR mu' S' w' (rkV rk (av0s zs 1).1) v/\SR mu' S' (fun g=>w.heap.size<=g) ⟨(nG zs).get,rN zs⟩ w'/\(∀g i,S g i->S' g i)/\(∀g i,S' g i->S g i\/w.heap.size<=g)/\Below w.heap.size w w'
theorem xQP{zs:List AV0}(hl:(av0s zs 1).2.length<=1000)(x:Nat):(nG zs).get x=if 1<=x/\x<rN zs then(av0s zs 1).2[x-1]? else none:=by
 unfold nG rN
 rw[yXR _ 1 _ x (by omega),Tr.leaf_get,Nat.add_comm 1]
def xH9(g:Gs)(c:Nat)(f:Nat->Nat)(zs:List AV0):Gs:=fun x=>
 bif Nat.ble c x&&Nat.blt x (c+(av0s zs c).2.length) then(av0s zs c).2[x-c]? else(St.lockF ⟨g,c⟩ f).get x
theorem yW4{g:Gs}{c:Nat}{f:Nat->Nat}{zs:List AV0}(x:Nat):xH9 g c f zs x=if c<=x/\x<c+(av0s zs c).2.length then(av0s zs c).2[x-c]? else(St.lockF ⟨g,c⟩ f).get x:=by
 unfold xH9
 by_cases h2:c<=x/\x<c+(av0s zs c).2.length
 ·rw[if_pos h2,show(Nat.ble c x&&Nat.blt x (c+(av0s zs c).2.length))=true by
   rw[Bool.and_eq_true]
   exact⟨Nat.ble_eq_true_of_le h2.1,Nat.ble_eq_true_of_le h2.2⟩,cond_true]
 ·rw[if_neg h2,show(Nat.ble c x&&Nat.blt x (c+(av0s zs c).2.length))=false by
   cases h:(Nat.ble c x&&Nat.blt x (c+(av0s zs c).2.length)) with
   | false=>rfl
   | true=>
     rw[Bool.and_eq_true] at h
     exact absurd ⟨Nat.le_of_ble_eq_true h.1,Nat.le_of_ble_eq_true h.2⟩ h2,cond_false]
theorem xGh{P:Program}{rk:RK}{fi:FuncId}{args args':List V}{zs:List AV0}{c:Nat}{g:Gs}{f:Nat->Nat}(hR:xP7 P rk fi args' zs)(hz:Fzs ⟨g,c⟩ f args args'):
  xOf P fi args ⟨g,c⟩ (fun r' st'=>r'=rkV rk (av0s zs c).1/\st'=⟨xH9 g c f zs,c+(av0s zs c).2.length⟩):=by
 obtain⟨hcall,hpy,hly,hR⟩:=hR
 refine⟨hcall,fun mu S B w vargs h1 h2 h3 hx=>?_⟩
 have hl:=h1.lockF f
 have hv:VRs yOr (yFE mu S ⟨g,c⟩ f) w args' vargs:=Fzs.sound h1 hz hx (fun _ _ h=> .inl h) (fun b k L hk hL hm i q1 q2=> .inr ⟨b,k,L,hk,hL,hm,rfl,q1,q2⟩)
 refine(hR w _ vargs hl.sb hv).mono ?_
 rintro e w' ⟨v,mu1,S1,rfl,hr,hs1,hsub,hnew,hbel⟩
 have hSS:∀g i,S g i->S1 g i:=fun g' i hs=>hsub g' i (.inl hs)
 have hkeep:yQF (yFE mu S ⟨g,c⟩ f) w w':=fun g' i hs=>hbel.cell (p:=⟨g',i,none⟩) (hl.sb _ _ hs)
 generalize hmd:(fun x=>if x<c then mu x else if x<c+(av0s zs c).2.length then mu1 (1+(x-c)) else none:Mu)=mu2
 have hm_lt:∀x,x<c->mu2 x=mu x:=fun x hx=>by rw[←hmd];exact if_pos hx
 have hm_ge:∀x,c<=x->x<c+(av0s zs c).2.length->mu2 x=mu1 (1+(x-c)):=fun x hx hx'=>by
  rw[←hmd]
  dsimp only
  rw[if_neg (by omega),if_pos hx']
 have hmono:∀x L,mu x=some L->mu2 x=some L:=fun x L hx=>by
  rcases Nat.lt_or_ge x c with h | h
  ·rw[hm_lt x h];exact hx
  ·have:=(h2 x h).1;rw[hx] at this;cases this
 have hblk:(av0s zs c).2=(av0s zs 1).2:=xIg zs c 1
 have hplb:=yQn hpy 1
 have key:∀x k,xH9 g c f zs x=some k->(c<=x/\(nG zs).get (1+(x-c))=some k/\mu2 x=mu1 (1+(x-c))/\∀L,BR mu1 S1 w' k L->BR mu2 S1 w' k L)\/(x<c/\(St.lockF ⟨g,c⟩ f).get x=some k):=fun x k hk=>by
  rw[yW4] at hk
  by_cases hx:c<=x/\x<c+(av0s zs c).2.length
  ·left
   rw[if_pos hx] at hk
   rw[hblk] at hk
   have hlt:=(List.getElem?_eq_some_iff.1 hk).1
   refine⟨hx.1,?_,hm_ge x hx.1 hx.2,fun L hbr=>hbr.plain (hplb k (List.mem_of_getElem? hk))⟩
   rw[xQP hly,if_pos ⟨by omega,by unfold rN;omega⟩,show 1+(x-c)-1=x-c by omega]
   exact hk
  ·right
   rw[if_neg hx] at hk
   refine⟨?_,hk⟩
   rcases Nat.lt_or_ge x c with h | h
   ·exact h
   ·obtain⟨k0,hk0,-⟩:=Option.map_eq_some_iff.1 (show(g x).map _=some k from hk)
    have:g x=none:=(h2 x h).2
    rw[hk0] at this;cases this
 have other:∀x kx L,(St.lockF ⟨g,c⟩ f).get x=some kx->mu x=some L->BR mu (yFE mu S ⟨g,c⟩ f) w kx L->(0<L.lim\/L.mp=true->B L.g/\L.g<w.heap.size)->BR mu2 S1 w' kx L:=fun x kx L hk hL hbr hgg=>by
  have hsame:(0<L.lim\/L.mp=true)->w'.heap[L.g]?=w.heap[L.g]?:=fun hp=>hbel.block _ (hgg hp).2
  refine⟨hbr.sz,hbr.len,hbr.lk,hbr.row,fun i e1 e2=>?_,fun hm i hi j hj=>?_,fun hm=>?_⟩
  ·have hp:0<L.lim:=by
     rcases Nat.eq_zero_or_pos L.lim with h0 | h0
     ·rw[h0] at e2;simp at e2;omega
     ·exact h0
   rw[World.cell?_of_block (w:=w) (hsame (.inl hp)),World.frozen?_of_block (w:=w) (hsame (.inl hp))]
   exact hbr.room i e1 e2
  ·obtain⟨v,e1,e2,e3⟩:=hbr.cell hm i hi j hj
   exact⟨v,by rw[World.cell?_of_block (w:=w) (hsame (.inl (hbr.lim_pos hm hi)))];exact e1,e2,e3.mono hmono hsub hkeep⟩
  ·obtain⟨e0,ents,clock,e1,e2,e3⟩:=hbr.map hm
   exact⟨e0,ents,clock,(hsame (.inr hm)).trans e1,e2,e3.mono hmono hsub hkeep⟩
 have hval:VR mu2 S1 w' (rkV rk (av0s zs c).1) v:=
  xNp ((yRV zs 1).trans (yRV zs c).symm) hr fun j hj hj' u hu=>xIi zs 1 c hpy (fun j hj=>by rw[hm_ge _ (by omega) (by rw[hblk];omega)];congr 1;omega) j hj hj' u hu
 refine⟨v,_,_,mu2,S1,rfl,⟨rfl,rfl⟩,⟨fun x k hk=>?_,fun x x' k k' L1 L2 hne hk hk' hL1 hL2 hp hp'=>?_,fun x k L1 hk hL1 gg i he hs=>?_,hs1.sb⟩,fun x hx=>⟨?_,?_⟩,hval,⟨hmono,hSS,fun gg i hs=>?_,fun g' i hs=>hkeep g' i (.inl hs),Off.of_below hbel⟩⟩
 ·rcases key x k hk with ⟨q0,q1,q4,q5⟩ | ⟨q1,q4⟩
  ·obtain⟨L1,hL1,hbr1,hg1⟩:=hs1.loc _ k q1
   exact⟨L1,q4.trans hL1,q5 L1 hbr1,fun hp=>⟨h3 _ (hg1 hp).1,(hg1 hp).2⟩⟩
  ·obtain⟨L1,hL1,hbr1,hg1⟩:=hl.loc x k q4
   exact⟨L1,hmono x L1 hL1,other x k L1 q4 hL1 hbr1 hg1,fun hp=>⟨(hg1 hp).1,Nat.lt_of_lt_of_le (hg1 hp).2 hbel.size⟩⟩
 ·rcases key x k hk with ⟨q0,q1,q4,q5⟩ | ⟨q1,q4⟩
  ·have hB:=(hs1.own q1 (q4.symm.trans hL1) hp).1
   rcases key x' k' hk' with ⟨r0,r1,r4,r5⟩ | ⟨r1,r4⟩
   ·exact hs1.gdis _ _ k k' L1 L2 (by omega) q1 r1 (q4.symm.trans hL1) (r4.symm.trans hL2) hp hp'
   ·have hL2':mu x'=some L2:=by rw[←hm_lt x' r1];exact hL2
    have:=(hl.own r4 hL2' hp').2
    omega
  ·have hL1':mu x=some L1:=by rw[←hm_lt x q1];exact hL1
   have hlt:=(hl.own q4 hL1' hp).2
   rcases key x' k' hk' with ⟨r0,r1,r4,r5⟩ | ⟨r1,r4⟩
   ·have hB:=(hs1.own r1 (r4.symm.trans hL2) hp').1
    omega
   ·have hL2':mu x'=some L2:=by rw[←hm_lt x' r1];exact hL2
    exact hl.gdis x x' k k' L1 L2 hne q4 r4 hL1' hL2' hp hp'
 ·rcases key x k hk with ⟨q0,q1,q4,q5⟩ | ⟨q1,q4⟩
  ·exact hs1.exS _ k L1 q1 (q4.symm.trans hL1) gg i he hs
  ·have hL1':mu x=some L1:=by rw[←hm_lt x q1];exact hL1
   rcases hnew gg i hs with hs | hs
   ·exact hl.exS x k L1 q4 hL1' gg i he hs
   ·have:=(hl.own q4 hL1' (.inl he.rg.pos)).2
    have:=he.1
    omega
 ·have hx:c+(av0s zs c).2.length<=x:=hx
  rw[←hmd]
  dsimp only
  rw[if_neg (by omega),if_neg (by omega)]
 ·have hx:c+(av0s zs c).2.length<=x:=hx
  show xH9 g c f zs x=none
  rw[yW4,if_neg (by omega)]
  show(g x).map _=none
  rw[show g x=none from(h2 x (by show c<=x;omega)).2];rfl
 ·rcases hnew gg i hs with hs | hs
  ·rcases yH2 h1 f gg i hs with hs | hs
   ·exact .inl hs
   ·exact .inr hs
  ·exact .inr (h3 _ hs)
def xTm(P:Program)(rk:RK)(l:List ResultVar)(zs:List AV0):AEx->Fr->St->Prop
 | .exit _,_,_=>False
 | _,fr,st=>∃(f:Nat->Nat) (row:List V) (ns:List (Option Nat)),resV P fr st l=some (rkV rk row)/\CVs st.get st.c f row 1 (av0s zs 1).1 (av0s zs 1).2 ns/\noDup (some 0::ns)=true/\(rk= .s->row.length=1)
theorem xJO{P:Program}{rk:RK}{g:FuncId}{fn:Func}{c:Code}{args:List V}{zs:List AV0}(hf:P.funcs[g]?=some fn)(hb:fn.body=some c) (hn:(fn.name== "runtime.NumGoroutine")=false)
  (hl:args.length<=fn.ntmps) (hpz:PlA zs) (hlz:(av0s zs 1).2.length<=1000) (h:AW0 P fn.ntmps c (xTm P rk fn.results.toList zs) (frOf args) ⟨fun _=>none,1⟩):xP7 P rk g args zs:=by
 refine⟨⟨fn,hf,hn,by rw[hb];rfl⟩,hpz,hlz,fun w S vargs hS hx=>calls_of_wp hf hb ?_⟩
 have hlv:vargs.length<=fn.ntmps:=by rw[←hx.1];exact hl
 have hA:AR yOr S (fun g=>w.heap.size<=g) w fn.ntmps (frOf args) ⟨fun _=>none,1⟩ {tmps:=vargs.toArray++Array.replicate (fn.ntmps-vargs.toArray.size) Go.undef,defers:= []} w:=
  ⟨yOr,S,.none hS 1,fun _ _=>⟨rfl,rfl⟩,FR.enter hx _,fun _ h=>h,Ev.refl,rfl,yPt hlv⟩
 refine Code.wp_mono (fun e a w' he=>?_) (h yOr _ _ _ _ _ (fun _ _ h=>by cases h) hA)
 have fin:∀fr st,AR yOr S (fun g=>w.heap.size<=g) w fn.ntmps fr st a w'->(∃(f:Nat->Nat) (row:List V) (ns:List (Option Nat)),resV P fr st fn.results.toList=some (rkV rk row)/\CVs st.get st.c f row 1 (av0s zs 1).1 (av0s zs 1).2 ns/\noDup (some 0::ns)=true/\(rk= .s->row.length=1))→
   a.defers= []/\∃v,(results fn a.tmps).run P w'= .ok v w'/\(∃v' mu' S',Ending.returned v= .returned v'/\VR mu' S' w' (rkV rk (av0s zs 1).1) v'/\SR mu' S' (fun g=>w.heap.size<=g) ⟨(nG zs).get,rN zs⟩ w'/\(∀g i,S g i->S' g i)/\(∀g i,S' g i->S g i\/w.heap.size<=g)/\Below w.heap.size w w'):=by
  rintro fr st ⟨mu',S',k1,k2,k3,k4,k5,k6,k7⟩ ⟨f,row,ns,hr,hcv,hnd,hone⟩
  obtain⟨v,hv,hrun⟩:=yKh k1 k3 hr
  refine⟨k6,v,hrun,?_⟩
  have hrow:∀j (hj:j<row.length),(∃v,VR mu' S' w' row[j] v)\/(rk= .s/\j≠0):=fun j hj=>by
   cases rk with
   | a=>cases hv with
     | agg _ vs hl1 ho hvv=>exact .inl ⟨_,hvv j hj (by omega)⟩
   | t=>cases hv with
     | tup _ vs hl1 hvv=>exact .inl ⟨_,hvv j hj (by omega)⟩
   | s=>cases j with
     | succ j=>exact .inr ⟨rfl,by omega⟩
     | zero=>cases row with
       | nil=>exact absurd hj (by simp)
       | cons x l=>exact .inl ⟨v,hv⟩
   | ta k=>cases hv with
     | tup _ vs hl1 hvv=>
       have hl1:(V.agg (row.take k)::row.drop k).length=vs.length:=hl1
       rw[List.length_cons,List.length_drop] at hl1
       by_cases hk:j<k
       ·have h2:=hvv 0 (by simp) (by omega)
        rw[List.getElem_cons_zero] at h2
        generalize vs[0]=u at*
        cases h2 with
        | agg _ ws hl3 h1 hw=>
          rw[List.length_take] at hl3
          have h3:=hw j (by rw[List.length_take];omega) (by omega)
          rw[List.getElem_take] at h3
          exact .inl ⟨_,h3⟩
       ·have h2:=hvv (j-k+1) (by rw[List.length_cons,List.length_drop];omega) (by omega)
        rw[List.getElem_cons_succ,List.getElem_drop] at h2
        have e:row[k+(j-k)]'(by omega)=row[j]:=by congr 1;omega
        rw[e] at h2
        exact .inl ⟨_,h2⟩
  have hrow:∀x∈row,∃v,VR mu' S' w' x v:=fun x hx=>by
   obtain⟨j,hj,rfl⟩:=List.getElem_of_mem hx
   rcases hrow j hj with h | ⟨rfl,h⟩
   ·exact h
   ·have:=hone rfl
    omega
  obtain⟨j1,j2,-⟩:=xGK (q:=0) (c:=st.c) (g:=st.get) k1 hnd hlz hcv.len (fun j hj hj'=>hcv.src hrow j hj hj') (.inl rfl)
  obtain⟨v1,v2⟩:=hcv.vr k1 j1
  refine⟨_,_,_,rfl,xNp (by omega) hv fun j hj hj' u hu=>v2 j hj hj' u hu,j2.weaken fun g hg=>hg.1,fun g i hs=> .inl (k5.sub g i hs),fun g i hs=>?_,k5.below.below⟩
  rcases yH2 k1 f g i hs with hs | hs
  ·exact k5.new g i hs
  ·exact .inr hs
 cases e with
 | normal=>obtain⟨fr,st,k1,k2⟩:=he;exact fin fr st k1 k2
 | ret=>obtain⟨fr,st,k1,k2⟩:=he;exact fin fr st k1 k2
 | exit i=>obtain⟨fr,st,k1,k2⟩:=he;exact k2.elim
 | _=>exact he.elim
section
variable {α:Type}
def endRw(P:Program)(rk:RK)(rs:List ResultVar)(ms:List Md)(K:List AV0->Option α)(T':Tr V)(G':Tr Blk')(c':Nat):Option α:=match resV P (yBO T') ⟨G'.get,c'⟩ rs with
 | none=>none
 | some v=>match rkL rk v with
   | none=>none
   | some row=>match canVs G' (fOf (wN ms row)) ms row with
     | none=>none
     | some (c1,zs,ns)=>yXO (noDup (some 0::ns)::Nat.ble (av0s zs 1).2.length 1000::c1) (K zs) none
theorem xDL{P:Program}{rk:RK}{rs:List ResultVar}{ms:List Md}{K:List AV0->Option α}{T':Tr V}{G':Tr Blk'}{c':Nat}{r:α}(hf:PSf (yBO T'))(hg:PSg G'.get)(h:endRw P rk rs ms K T' G' c'=some r):
  ∃zs,K zs=some r/\(∀K':List AV0->Option α,endRw P rk rs ms K' T' G' c'=K' zs)/\PlA zs/\(av0s zs 1).2.length<=1000/\∀e,e= .ret\/e= .normal->xTm P rk rs zs e (yBO T') ⟨G'.get,c'⟩:=by
 unfold endRw at h
 split at h
 ·cases h
 rename_i v hr
 split at h
 ·cases h
 rename_i row hv
 split at h
 ·cases h
 rename_i c1 zs ns h1
 obtain⟨hc,h2,h3⟩:=yCR h
 have hps:∀z∈row,PS z:=xS2 hv (xBe hf hg hr)
 have e6:=Nat.le_of_ble_eq_true (hc (Nat.ble (av0s zs 1).2.length 1000) (by simp))
 refine⟨zs,h2,fun K'=>?_,yZ0 hg ms row _ _ _ hps h1 fun b hb=>hc b (by simp[hb]),e6,fun e he=>?_⟩
 ·unfold endRw
  rw[hr]
  dsimp only
  rw[hv]
  dsimp only
  rw[h1]
  exact h3 _
 ·have fin:∃(f:Nat->Nat) (row:List V) (ns:List (Option Nat)),resV P (yBO T') ⟨G'.get,c'⟩ rs=some (rkV rk row)/\CVs G'.get c' f row 1 (av0s zs 1).1 (av0s zs 1).2 ns/\noDup (some 0::ns)=true/\(rk= .s->row.length=1):=
    ⟨_,row,ns,by rw[hr,xPa hv],yUR hg ms row 1 _ _ _ hps h1 fun b hb=>hc b (by simp[hb]),hc (noDup (some 0::ns)) (by simp),fun e=>by
     subst e
     injection hv with hv
     rw[←hv];rfl⟩
  rcases he with rfl | rfl <;> exact fin
def xRc(P:Program)(rk:RK)(call:ICk α)(cc:CCk α)(L:Nat)(lt:LT α)(g:FuncId)(ms:List Md)(args:List V)(K:List AV0->Option α):Option α:=
 match P.funcs[g]? with
 | none=>none
 | some fn=>match fn.body with
   | none=>none
   | some x=>bif(fn.name== "runtime.NumGoroutine") then none else
     bif Nat.ble args.length fn.ntmps&&okC fn.ntmps x&&Nat.ble args.length 4000 then
      codeL P call cc L x lt (frT args 0 .leaf) .leaf 1 fun e T' G' c'=>match e with
       | .exit _=>none
       | .normal=>endRw P rk fn.results.toList ms K T' G' c'
       | .ret=>endRw P rk fn.results.toList ms K T' G' c'
     else none
theorem xPf{P:Program}{rk:RK}(hm:P.follows .mixedOrders=true){call:ICk α}{cc:CCk α}(hi:xFy P call)(hc:xDj P cc)(di:xF2 call)(dc:xFx cc){L:Nat}{lt:LT α}{g:FuncId}{fn:Func}{x:Code}(hf:P.funcs[g]?=some fn)(hb:fn.body=some x)(hlt:yUh P fn.ntmps x lt)(hld:yIs x lt)
  {args:List V} {ms:List Md} {K:List AV0->Option α} {r:α} (ha:∀y∈args,Plain y) (h:xRc P rk call cc L lt g ms args K=some r):∃zs,xP7 P rk g args zs/\K zs=some r:=by
 unfold xRc at h
 rw[hf] at h
 dsimp only at h
 rw[hb] at h
 dsimp only at h
 cases hn:(fn.name== "runtime.NumGoroutine") with
 | true=>rw[hn] at h;cases h
 | false=>
 rw[hn,cond_false] at h
 obtain⟨h1,h2⟩:=yAN h
 rw[Bool.and_eq_true,Bool.and_eq_true] at h1
 have hl:args.length<=4000:=Nat.le_of_ble_eq_true h1.2
 have hT:PSf (yBO (frT args 0 .leaf)):=by rw[yLb hl];exact .frOf fun y hy=>(ha y hy).ps
 obtain⟨e,T1,G1,c1,k1,k2⟩:=yQt di dc x lt _ _ _ _ r hld h2
 obtain⟨p1,p2⟩:=k2 hT .leaf
 rw[k1] at h2
 have fin:endRw P rk fn.results.toList ms K T1 G1 c1=some r->e= .normal\/e= .ret->∃zs,xP7 P rk g args zs/\K zs=some r:=fun h2 he=>by
  obtain⟨zs,q1,q2,q4,q5,-⟩:=xDL p1 p2 h2
  refine⟨zs,?_,q1⟩
  let K1:List AV0->Option α:=fun zs'=>open Classical in if zs'=zs then some r else none
  have hK1:codeL P call cc L x lt (frT args 0 .leaf) .leaf 1 (fun e T' G' c'=>match e with
    | .exit _=>none
    | .normal=>endRw P rk fn.results.toList ms K1 T' G' c'
    | .ret=>endRw P rk fn.results.toList ms K1 T' G' c')=some r:=by
   rw[k1]
   have:endRw P rk fn.results.toList ms K1 T1 G1 c1=some r:=(q2 K1).trans (if_pos rfl)
   rcases he with rfl | rfl <;> exact this
  have hle:args.length<=fn.ntmps:=Nat.le_of_ble_eq_true h1.1.1
  refine xJO hf hb hn hle q4 q5 ?_
  rw[←yLb hl]
  refine yLj hm hi hc x lt _ _ _ _ r hK1 hlt h1.1.2 hT .leaf _ fun e T' G' c' hf' hg' h'=>?_
  have go:∀e,e= .ret\/e= .normal->endRw P rk fn.results.toList ms K1 T' G' c'=some r->xTm P rk fn.results.toList zs e (yBO T') ⟨G'.get,c'⟩:=fun e he h'=>by
   obtain⟨zs',m1,-,-,-,m2⟩:=xDL hf' hg' h'
   have m1:(open Classical in if zs'=zs then some r else none)=some r:=m1
   split at m1
   ·rename_i e0
    subst e0
    exact m2 e he
   ·cases m1
  cases e with
  | exit i=>cases h'
  | normal=>exact go _ (.inr rfl) h'
  | ret=>exact go _ (.inl rfl) h'
 cases e with
 | exit i=>cases h2
 | normal=>exact fin h2 (.inl rfl)
 | ret=>exact fin h2 (.inr rfl)
def xUC(P:Program)(rk:RK)(sp:Spk α)(L n:Nat)(lt:LT α)(g:FuncId)(ms:List Md)(args:List V)(K:List AV0->Option α):Option α:=xRc P rk (yDw P sp L n).1 (yDw P sp L n).2 L lt g ms args K
abbrev xTF(α:Type):=List V->(List AV0->Option α)->Option α
def putRw(rk:RK)(G:Tr Blk')(c:Nat)(rs:List Nat)(zs:List AV0)(K:V->Tr Blk'->Nat->Option α):Option α:=
 match xDh G (rs++xQf c (av0s zs c).2.length) (xH9 G.get c (fRe rs) zs) with
 | none=>none
 | some G'=>K (rkV rk (av0s zs c).1) G' (c+(av0s zs c).2.length)
def rcK(rk:RK)(run:xTF α):ICf α:=fun args G c K=>match mapC (frC (fRe (args.flatMap (nms 5 G.get))) 20 G.get) args with
 | none=>none
 | some p=>yXO p.1 (run p.2 fun zs=>putRw rk G c (args.flatMap (nms 5 G.get)) zs K) none
def ROk(P:Program)(rk:RK)(g:FuncId)(run:xTF α):Prop:=∀ax K r,run ax K=some r->∃zs,(∀K',run ax K'=K' zs)/\((∀y∈ax,Plain y)->xP7 P rk g ax zs)
theorem xLe{rk:RK}{G:Tr Blk'}{c:Nat}{rs:List Nat}{zs:List AV0}{K:V->Tr Blk'->Nat->Option α}{r:α}(h:putRw rk G c rs zs K=some r):
  ∃G',G'.get=xH9 G.get c (fRe rs) zs/\K (rkV rk (av0s zs c).1) G' (c+(av0s zs c).2.length)=some r/\∀K':V->Tr Blk'->Nat->Option α,putRw rk G c rs zs K'=K' (rkV rk (av0s zs c).1) G' (c+(av0s zs c).2.length):=by
 unfold putRw at h
 split at h
 ·cases h
 ·rename_i G' hu
  refine⟨G',?_,h,fun K'=>by unfold putRw;rw[hu]⟩
  rw[yOm _ _ _ _ hu]
  funext x
  show cond (yE3 _ x) (xH9 _ _ _ _ x) (G.get x)=_
  cases hx:yE3 (rs++xQf c (av0s zs c).2.length) x with
  | true=>rfl
  | false=>
    have hno:¬x∈rs++xQf c (av0s zs c).2.length:=fun hm=>by rw[yE4.2 hm] at hx;cases hx
    simp only[List.mem_append,not_or] at hno
    obtain⟨n3,n4⟩:=hno
    rw[cond_false,yW4,if_neg (fun hh=>n4 (xFq hh.1 hh.2))]
    have hm:yE3 rs x=false:=by
     cases h:yE3 rs x with
     | false=>rfl
     | true=>exact absurd (yE4.1 h) n3
    show G.get x=(G.get x).map fun k=>(⟨k.es,k.sz,max k.lk (min (fRe rs x) k.es.length)⟩:Blk')
    unfold fRe
    rw[hm,cond_false]
    cases G.get x with
    | none=>rfl
    | some k=>simp
theorem xSz{P:Program}{rk:RK}{g:FuncId}{run:xTF α}(hr:ROk P rk g run):xRv P g (rcK rk run):=by
 have key:∀args (G:Tr Blk') c K r,rcK rk run args G c K=some r->∃v G' c',(∀K',rcK rk run args G c K'=K' v G' c')/\((∀x∈args,PS x)->PSg G.get->PS v/\PSg (Tr.get G')/\xOf P g args ⟨G.get,c⟩ (fun r' st'=>r'=v/\st'=⟨G'.get,c'⟩)):=by
  intro args G c K r h
  unfold rcK at h
  split at h
  ·cases h
  ·rename_i p hp
   obtain⟨hc,h2,h3⟩:=yCR h
   obtain⟨zs,q1,q2⟩:=hr _ _ _ h2
   rw[q1] at h2
   obtain⟨G',m1,m2,m3⟩:=xLe h2
   refine⟨rkV rk (av0s zs c).1,G',c+(av0s zs c).2.length,fun K'=>?_,fun hps hg=>?_⟩
   ·unfold rcK
    rw[hp]
    dsimp only
    rw[h3,q1,m3]
   ·obtain⟨k1,k2⟩:=yLl (st:=⟨G.get,c⟩) hg hps hp hc
    have hR:=q2 k2
    have hI:=xGh hR k1
    refine⟨xS3 (xIh hR.2.1 c),fun x kx hx=>?_,by rw[m1];exact hI⟩
    rw[m1,yW4] at hx
    split at hx
    ·exact fun r hr z hz=>(yQn hR.2.1 c kx (List.mem_of_getElem? hx) r hr z hz).ps
    ·obtain⟨k0,hk0,rfl⟩:=Option.map_eq_some_iff.1 (show(G.get x).map _=some kx from hx)
     exact hg x k0 hk0
 refine⟨fun args G c K r ha hg h Kp hk=>?_,fun args G c K r h=>?_⟩
 ·obtain⟨v,G',c',k1,k2⟩:=key args G c K r h
  obtain⟨k3,k4,k5⟩:=k2 ha hg
  rw[k1] at h
  refine .inr (.inr (.inr (.inr ⟨_,k5,?_⟩)))
  rintro r' st' ⟨rfl,rfl⟩
  exact hk _ _ _ k3 k4 h
 ·obtain⟨v,G',c',k1,k2⟩:=key args G c K r h
  exact⟨v,G',c',k1,fun ha hg=>⟨(k2 ha hg).1,(k2 ha hg).2.1⟩⟩
end
section
variable {α A Z:Type}
def xT7(cz:Cz Z)(zs:List AV0):Option Z:=bif cz.ok zs then some (cz.dec zs) else none
def xRu(P:Program)(rk:RK)(i:FuncId)(ca:Ca A)(cz:Cz Z)(g:A->Option Z):Prop:=∀a z,(∀v∈ca.enc a,Plain v)->g a=some z->xP7 P rk i (ca.enc a) (cz.enc z)
theorem xQ3{P:Program}{rk:RK}(hm:P.follows .mixedOrders=true){sp:Spk Z}(hs:yLc P sp){L n:Nat}{lt:LT Z}{g:FuncId}{ms:List Md}{fn:Func}{x:Code}(hf:P.funcs[g]?=some fn)(hb:fn.body=some x)(hlt:yUh P fn.ntmps x lt)(hld:yIs x lt)
  {ca:Ca A} {cz:Cz Z} {f:A->Option Z} (he:∀a,xUC P rk sp L n lt g ms (ca.enc a) (xT7 cz)=f a):xRu P rk g ca cz f:=by
 intro a z hp h
 obtain⟨h1,h2,h3,h4⟩:=yOO hm hs (L:=L) n
 obtain⟨zs,k1,k2⟩:=xPf hm h1 h2 h3 h4 hf hb hlt hld hp ((he a).trans h)
 obtain⟨k4,k5⟩:=yAN (show(bif cz.ok zs then some (cz.dec zs) else none)=some z from k2)
 injection k5 with k5
 have e2:cz.enc z=zs:=by rw[←k5];exact cz.h zs k4
 rw[e2]
 exact k1
def xTv(ca:Ca A)(cz:Cz Z)(g:A->Option Z):xTF α:=fun ax K=>bif ca.ok ax then yAB (g (ca.dec ax)) fun q=>K (cz.enc q) else none
def spR(rk:RK)(ca:Ca A)(cz:Cz Z)(g:A->Option Z):Ent α:=spI (rcK rk (xTv ca cz g))
theorem xRu.ent{P:Program}{rk:RK}{i:FuncId}{ca:Ca A}{cz:Cz Z}{g:A->Option Z}(h:xRu P rk i ca cz g):yS5 P i (spR (α:=α) rk ca cz g):=by
 refine xKp (xSz fun ax K r hr=>?_)
 obtain⟨h1,h2⟩:=yAN (show(bif ca.ok ax then yAB (g (ca.dec ax)) fun q=>K (cz.enc q) else none)=some r from hr)
 obtain⟨z,h3,h4⟩:=yQp h2
 refine⟨cz.enc z,fun K'=>?_,fun hp=>?_⟩
 ·show(bif ca.ok ax then yAB (g (ca.dec ax)) fun q=>K' (cz.enc q) else none)=_
  rw[h1,h3];rfl
 ·have e1:=ca.h ax h1
  have:=h (ca.dec ax) z (by rw[e1];exact hp) h3
  rw[e1] at this
  exact this
end
def qG(es:List (List V))(sz:Nat):Tr Blk':=Tr.set 20 .leaf 0 (some ⟨es,sz,0⟩)
theorem xKd{es:List (List V)}{sz:Nat}(x:Nat):(qG es sz).get x=if x=0 then some ⟨es,sz,0⟩ else none:=by
 unfold qG
 rw[Tr.set_get 20 .leaf 0 x _ (by decide),Tr.leaf_get]
theorem BR.cut{mu:Mu}{S:yEn}{w:World}{es:List (List V)}{sz:Nat}{L:Loc}(h:BR mu S w ⟨es,sz,0⟩ L)(hm:L.mp=false)(n:Nat):BR mu S w ⟨es.take n,sz,0⟩ L:=
 ⟨h.sz,fun _=>by have:=h.len hm;simp only[List.length_take] at *;omega,Nat.zero_le _,fun i hi=>by
  have hi':i<es.length:=by simp only[List.length_take] at hi;omega
  have:=h.row i hi'
  simpa only[List.getElem_take] using this,h.room,fun _ i hi j hj=>by
  have hi':i<es.length:=by simp only[List.length_take] at hi;omega
  have e:(es.take n)[i]=es[i]:=List.getElem_take
  have hj':j<es[i].length:=by simpa only[e] using hj
  obtain⟨v,h1,h2,h3⟩:=h.cell hm i hi' j hj'
  refine⟨v,h1,h2,?_⟩
  have e2:(es.take n)[i][j]=es[i][j]:=by simp only[e]
  show VR mu S w (es.take n)[i][j] v
  rw[e2];exact h3,fun q=>by rw[hm] at q;cases q⟩
def xRx(P:Program)(g:FuncId)(args:List V)(es:List (List V))(sz:Nat)(ys:List (List V)):Prop:=
 yKl P g/\(∀r∈ys,∀x∈r,Plain x)/\∀(mu:Mu) (S:yEn) (B:Dom) (w:World) (vargs:List Value),SR mu S B ⟨(qG es sz).get,1⟩ w->FrA mu ⟨(qG es sz).get,1⟩->yV2 B w->VRs mu S w args vargs→
  Calls P g vargs.toArray w fun e w'=>∃v mu' S',e= .returned v/\VR mu' S' w' (.bs 0 0 ys.length ys.length) v/\SR mu' S' B ⟨(qG ys sz).get,1⟩ w'/\mu' 0=mu 0/\(∀g i,S g i->S' g i)/\(∀g i,S' g i->S g i\/B g)/\yQF S w w'/\Off B w w'
def xTi(P:Program)(l:List ResultVar)(ys:List (List V))(sz:Nat):AEx->Fr->St->Prop
 | .exit _,_,_=>False
 | _,fr,st=>∃es' n cap,st.get 0=some ⟨es',sz,0⟩/\resV P fr st l=some (.bs 0 0 n cap)/\n<=es'.length/\ys=es'.take n
theorem xJH{P:Program}{g:FuncId}{fn:Func}{c:Code}{args:List V}{es ys:List (List V)}{sz:Nat}(hf:P.funcs[g]?=some fn)(hb:fn.body=some c) (hn:(fn.name== "runtime.NumGoroutine")=false)
  (hl:args.length<=fn.ntmps) (hpy:∀r∈ys,∀x∈r,Plain x) (h:AW0 P fn.ntmps c (xTi P fn.results.toList ys sz) (frOf args) ⟨(qG es sz).get,1⟩):xRx P g args es sz ys:=by
 refine⟨⟨fn,hf,hn,by rw[hb];rfl⟩,hpy,fun mu S B w vargs h1 h2 h3 hx=>calls_of_wp hf hb ?_⟩
 have hlv:vargs.length<=fn.ntmps:=by rw[←hx.1];exact hl
 have h0:(⟨(qG es sz).get,1⟩:St).get 0=some ⟨es,sz,0⟩:=by show(qG es sz).get 0=_;rw[xKd,if_pos rfl]
 obtain⟨L0,hL0,-⟩:=h1.loc 0 _ h0
 have hA:AR (fun b=>if b=0 then mu 0 else none) S B w fn.ntmps (frOf args) ⟨(qG es sz).get,1⟩ {tmps:=vargs.toArray++Array.replicate (fn.ntmps-vargs.toArray.size) Go.undef,defers:= []} w:=
  ⟨mu,S,h1,h2,FR.enter hx _,h3,⟨fun b L hb=>by
   by_cases e:b=0
   ·subst e;simpa using hb
   ·simp[e] at hb,fun _ _ h=>h,fun _ _ h=> .inl h,fun _ _ _=>rfl,Off.refl _ _⟩,rfl,yPt hlv⟩
 refine Code.wp_mono (fun e a w' he=>?_) (h _ _ _ _ _ _ (fun b L hb=>by
  by_cases e:b=0
  ·exact e
  ·simp[e] at hb) hA)
 have fin:∀fr st,AR (fun b=>if b=0 then mu 0 else none) S B w fn.ntmps fr st a w'->(∃es' n cap,st.get 0=some ⟨es',sz,0⟩/\resV P fr st fn.results.toList=some (.bs 0 0 n cap)/\n<=es'.length/\ys=es'.take n)→
   a.defers= []/\∃v,(results fn a.tmps).run P w'= .ok v w'/\(∃v' mu' S',Ending.returned v= .returned v'/\VR mu' S' w' (.bs 0 0 ys.length ys.length) v'/\SR mu' S' B ⟨(qG ys sz).get,1⟩ w'/\mu' 0=mu 0/\(∀g i,S g i->S' g i)/\(∀g i,S' g i->S g i\/B g)/\yQF S w w'/\Off B w w'):=by
  rintro fr st ⟨mu',S',k1,k2,k3,k4,k5,k6,k7⟩ ⟨es',n,cap,hg,hr,hn',rfl⟩
  obtain⟨v,hv,hrun⟩:=yKh k1 k3 hr
  obtain⟨L,hL,hbr,hgg⟩:=k1.loc 0 _ hg
  have hLm:=hv.bs_reg hL
  have hln:(es'.take n).length=n:=by rw[List.length_take];omega
  have hget:∀b k,(qG (es'.take n) sz).get b=some k->b=0/\k=⟨es'.take n,sz,0⟩:=fun b k hk=>by
   rw[xKd] at hk
   split at hk
   ·injection hk with hk;exact⟨by assumption,hk.symm⟩
   ·cases hk
  have hc:=hbr.cut hLm n
  refine⟨k6,v,hrun,v,fun b=>if b=0 then mu' 0 else none,S',rfl,?_,⟨fun b k hk=>?_,fun b b' k k' L1 L2 hne hk hk'=>absurd ((hget b k hk).1.trans (hget b' k' hk').1.symm) hne,fun b k L1 hk hL1 gg i he hs=>?_,k1.sb⟩,?_,k5.sub,k5.new,k5.keeps,k5.below⟩
  ·rw[hln]
   cases hv with
   | bs _ _ _ _ L A cc hL hn hc hA hm=>exact .bs _ 0 _ _ L A cc (by simpa using hL) (Nat.le_refl _) (by omega) hA hm
  ·obtain⟨rfl,rfl⟩:=hget b k hk
   refine⟨L,by simpa using hL,⟨hc.sz,hc.len,hc.lk,hc.row,hc.room,fun hm i hi j hj=>?_,fun q=>by rw[hLm] at q;cases q⟩,hgg⟩
   obtain⟨u,e1,e2,e3⟩:=hc.cell hm i hi j hj
   exact⟨u,e1,e2,e3.plain (hpy _ (List.getElem_mem _) _ (List.getElem_mem _))⟩
  ·obtain⟨rfl,rfl⟩:=hget b k hk
   have hL1:mu' 0=some L1:=by simpa using hL1
   exact k1.exS 0 _ L1 hg hL1 gg i he hs
  ·show(if(0:Nat)=0 then mu' 0 else none)=mu 0
   rw[if_pos rfl]
   exact(k5.mono 0 L0 (by simpa using hL0)).trans hL0.symm
 cases e with
 | normal=>obtain⟨fr,st,k1,k2⟩:=he;exact fin fr st k1 k2
 | ret=>obtain⟨fr,st,k1,k2⟩:=he;exact fin fr st k1 k2
 | exit i=>obtain⟨fr,st,k1,k2⟩:=he;exact k2.elim
 | _=>exact he.elim
def xOe(g:Gs)(b sz:Nat)(f:Nat->Nat)(ys:List (List V)):Gs:=fun x=>if x=b then some ⟨ys,sz,0⟩ else(St.lockF ⟨g,0⟩ f).get x
def xUF(g:Gs)(c b:Nat)(f:Nat->Nat)(x y:V):Prop:=(∃n cap,x= .bs b 0 n cap/\y= .bs 0 0 n n)\/(Fz ⟨g,c⟩ f x y/\Plain y)
theorem xGg{P:Program}{fi:FuncId}{args args':List V}{es ys:List (List V)}{sz c b m cap:Nat}{g:Gs}{f:Nat->Nat}
  (hM:xRx P fi args' es sz ys) (hk:g b=some ⟨es,sz,0⟩) (hf:f b=0) (hpe:∀r∈es,∀x∈r,Plain x) (h0:args[0]?=some (.bs b 0 m cap))
  (hargs:args.length=args'.length/\∀j (hj:j<args.length) (hj':j<args'.length),xUF g c b f args[j] args'[j]):
  xOf P fi args ⟨g,c⟩ (fun r' st'=>r'= .bs b 0 ys.length ys.length/\st'=⟨xOe g b sz f ys,c⟩):=by
 obtain⟨hcall,hpy,hM⟩:=hM
 refine⟨hcall,fun mu S B w vargs h1 h2 h3 hx=>?_⟩
 obtain⟨v0,hv0,hpv⟩:=hx.get h0
 obtain⟨L,hL,hbr,-⟩:=h1.loc b _ hk
 have hLm:=hpv.bs_reg hL
 have hbc:b<c:=by
  rcases Nat.lt_or_ge b c with h | h
  ·exact h
  ·have:g b=none:=(h2 b h).2
   rw[hk] at this;cases this
 obtain⟨k1,k2,k3⟩:=xGK (q:=b) (c:=c) (f:=f) (g:=g) (bs:= []) (ns:= []) (base:=Tr.set 20 .leaf 0 (some ⟨es,sz,0⟩)) h1 rfl (Nat.zero_le _) rfl (fun j hj=>absurd hj (Nat.not_lt_zero _))
  (.inr ⟨_,rfl,.inr (.inr ⟨_,es,hk,rfl,rfl,hf,.same hpe,fun L' hL'=>hpv.bs_reg hL'⟩)⟩)
 have hz:yUl mu b [] [] 0=mu b:=by unfold yUl;rw[if_pos (by simp)];rfl
 have hl:=h1.lockF f
 have hOpn:yV2 (Oth B mu g [some b]) w:=fun x hx=>⟨h3 x hx,fun b' k L' hk' hL' hp hno e=>by
  have:=(h1.own hk' hL' hp).2
  omega⟩
 have hv:VRs (yUl mu b [] []) (yFE mu S ⟨g,c⟩ f) w args' vargs:=by
  refine⟨by rw[←hargs.1];exact hx.1,fun j hj hj'=>?_⟩
  have hj0:j<args.length:=by rw[hargs.1];exact hj
  have hvj:=hx.2 j hj0 hj'
  rcases hargs.2 j hj0 hj with ⟨n,cap,e1,e2⟩ | ⟨e1,e2⟩
  ·rw[e2]
   rw[e1] at hvj
   generalize vargs[j]=val at hvj ⊢
   cases hvj with
   | bs _ _ _ _ L A cc hL hn hc hA hm=>exact .bs 0 0 _ _ L A cc (by rw[hz];exact hL) (Nat.le_refl _) (by omega) hA hm
  ·exact(Fz.sound h1 e1 hvj (fun _ _ h=> .inl h) (fun b k L hk hL hm i q1 q2=> .inr ⟨b,k,L,hk,hL,hm,rfl,q1,q2⟩)).1
 have k2:SR (yUl mu b [] []) (yFE mu S ⟨g,c⟩ f) (Oth B mu g [some b]) ⟨(qG es sz).get,1⟩ w:=k2
 have k3:FrA (yUl mu b [] []) ⟨(qG es sz).get,1⟩:=k3
 refine(hM _ _ _ w vargs k2 k3 hOpn hv).mono ?_
 rintro e w' ⟨v,mu1,S1,rfl,hr,hs1,hm0,hsub,hnew,hkeep,hoff⟩
 have hmb:mu1 0=mu b:=hm0.trans hz
 have hKS:yQF S w w':=fun g' i hs=>hkeep g' i (.inl hs)
 have hown:(qG ys sz).get 0=some ⟨ys,sz,0⟩:=by rw[xKd,if_pos rfl]
 have key:∀x k,xOe g b sz f ys x=some k->(x=b/\k=⟨ys,sz,0⟩)\/(x≠b/\(St.lockF ⟨g,c⟩ f).get x=some k):=fun x k hk=>by
  unfold xOe at hk
  split at hk
  ·injection hk with hk;exact .inl ⟨by assumption,hk.symm⟩
  ·exact .inr ⟨by assumption,hk⟩
 have hno:∀x,x≠b->∀j:Nat,([some b]:List (Option Nat))[j]?≠some (some x):=fun x hx j hj=>by
  cases j with
  | zero=>simp at hj;exact hx hj.symm
  | succ j=>simp at hj
 have hoth:∀x kx L,x≠b->(St.lockF ⟨g,c⟩ f).get x=some kx->mu x=some L->(0<L.lim\/L.mp=true)->¬Oth B mu g [some b] L.g:=fun x kx L hxb hk hL hp hB=>by
  obtain⟨k0,hk0,-⟩:=Option.map_eq_some_iff.1 (show(g x).map _=some kx from hk)
  exact hB.2 x k0 L hk0 hL hp (hno x hxb) rfl
 have other:∀x kx L,x≠b->(St.lockF ⟨g,c⟩ f).get x=some kx->mu x=some L->BR mu (yFE mu S ⟨g,c⟩ f) w kx L->(0<L.lim\/L.mp=true->B L.g/\L.g<w.heap.size)->BR mu S1 w' kx L:=fun x kx L hxb hk hL hbr hgg=>by
  have hsame:(0<L.lim\/L.mp=true)->w'.heap[L.g]?=w.heap[L.g]?:=fun hp=>hoff.block _ (hgg hp).2 (hoth x kx L hxb hk hL hp)
  refine⟨hbr.sz,hbr.len,hbr.lk,hbr.row,fun i e1 e2=>?_,fun hm i hi j hj=>?_,fun hm=>?_⟩
  ·have hp:0<L.lim:=by
     rcases Nat.eq_zero_or_pos L.lim with h0 | h0
     ·rw[h0] at e2;simp at e2;omega
     ·exact h0
   rw[World.cell?_of_block (w:=w) (hsame (.inl hp)),World.frozen?_of_block (w:=w) (hsame (.inl hp))]
   exact hbr.room i e1 e2
  ·obtain⟨v,e1,e2,e3⟩:=hbr.cell hm i hi j hj
   exact⟨v,by rw[World.cell?_of_block (w:=w) (hsame (.inl (hbr.lim_pos hm hi)))];exact e1,e2,e3.mono (fun _ _ h=>h) hsub hkeep⟩
  ·obtain⟨e0,ents,clock,e1,e2,e3⟩:=hbr.map hm
   exact⟨e0,ents,clock,(hsame (.inr hm)).trans e1,e2,e3.mono (fun _ _ h=>h) hsub hkeep⟩
 refine⟨v,_,_,mu,S1,rfl,⟨rfl,rfl⟩,⟨fun x k hk=>?_,fun x x' k k' L1 L2 hne hk hk' hL1 hL2 hp hp'=>?_,fun x k L1 hk hL1 gg i he hs=>?_,hs1.sb⟩,fun x hx=>⟨(h2 x hx).1,?_⟩,?_,⟨fun _ _ h=>h,fun _ _ hs=>hsub _ _ (.inl hs),fun gg i hs=>?_,hKS,hoff.mono fun g hg=>hg.1⟩⟩
 ·rcases key x k hk with ⟨rfl,rfl⟩ | ⟨q1,q2⟩
  ·obtain⟨L1,hL1,hbr1,hg1⟩:=hs1.loc 0 _ hown
   exact⟨L1,hmb.symm.trans hL1,hbr1.plain hpy,fun hp=>⟨(hg1 hp).1.1,(hg1 hp).2⟩⟩
  ·obtain⟨L1,hL1,hbr1,hg1⟩:=hl.loc x k q2
   exact⟨L1,hL1,other x k L1 q1 q2 hL1 hbr1 hg1,fun hp=>⟨(hg1 hp).1,Nat.lt_of_lt_of_le (hg1 hp).2 hoff.size⟩⟩
 ·rcases key x k hk with ⟨rfl,rfl⟩ | ⟨q1,q2⟩
  ·rcases key x' k' hk' with ⟨rfl,rfl⟩ | ⟨r1,r2⟩
   ·exact absurd rfl hne
   ·have hB:=(hs1.own hown (hmb.trans hL1) hp).1
    exact fun e=>hoth x' k' L2 r1 r2 hL2 hp' (e▸hB)
  ·rcases key x' k' hk' with ⟨rfl,rfl⟩ | ⟨r1,r2⟩
   ·have hB:=(hs1.own hown (hmb.trans hL2) hp').1
    exact fun e=>hoth x k L1 q1 q2 hL1 hp (e▸hB)
   ·exact hl.gdis x x' k k' L1 L2 hne q2 r2 hL1 hL2 hp hp'
 ·rcases key x k hk with ⟨rfl,rfl⟩ | ⟨q1,q2⟩
  ·exact hs1.exS 0 _ L1 hown (hmb.trans hL1) gg i he hs
  ·rcases hnew gg i hs with hs | hs
   ·exact hl.exS x k L1 q2 hL1 gg i he hs
   ·rw[he.1] at hs
    exact hoth x k L1 q1 q2 hL1 (.inl he.rg.pos) hs
 ·have hx:c<=x:=hx
  show xOe g b sz f ys x=none
  unfold xOe
  rw[if_neg (by omega)]
  show(g x).map _=none
  rw[show g x=none from(h2 x (by show c<=x;omega)).2];rfl
 ·cases hr with
  | bs _ _ _ _ L A cc hL hn hc hA hm=>exact .bs b 0 _ _ L A cc (by rw[←hmb];exact hL) hn hc hA hm
 ·rcases hnew gg i hs with hs | hs
  ·rcases yH2 h1 f gg i hs with hs | hs
   ·exact .inl hs
   ·exact .inr hs
  ·exact .inr hs.1
section
variable {α:Type}
theorem xTj{es:List (List V)}(h:∀r∈es,∀x∈r,Plain x)(sz:Nat):PSg (qG es sz).get:=fun b k hk=>by
 rw[xKd] at hk
 split at hk
 ·injection hk with hk
  subst hk
  exact fun r hr x hx=>(h r hr x hx).ps
 ·cases hk
def endQ(P:Program)(rs:List ResultVar)(sz:Nat)(K:List (List V)->Option α)(T':Tr V)(G':Tr Blk')(c':Nat):Option α:=match resV P (yBO T') ⟨G'.get,c'⟩ rs with
 | some (.bs b i n _)=>match G'.get 0 with
   | some k=>yXO [Nat.beq b 0,Nat.beq i 0,Nat.beq k.sz sz,Nat.beq k.lk 0,Nat.ble n k.es.length,yCL (k.es.take n)] (K (k.es.take n)) none
   | none=>none
 | _=>none
theorem xGT{P:Program}{rs:List ResultVar}{sz:Nat}{K:List (List V)->Option α}{T':Tr V}{G':Tr Blk'}{c':Nat}{r:α}(hf:PSf (yBO T'))(hg:PSg G'.get)(h:endQ P rs sz K T' G' c'=some r):
  ∃ys,K ys=some r/\(∀K':List (List V)->Option α,endQ P rs sz K' T' G' c'=K' ys)/\(∀r∈ys,∀x∈r,Plain x)/\∀e,e= .ret\/e= .normal->xTi P rs ys sz e (yBO T') ⟨G'.get,c'⟩:=by
 unfold endQ at h
 split at h
 ·rename_i b i n cap hr
  split at h
  ·rename_i k hk
   obtain⟨hc,h2,h3⟩:=yCR h
   have e0:=Nat.eq_of_beq_eq_true (hc (Nat.beq b 0) (by simp))
   have e1:=Nat.eq_of_beq_eq_true (hc (Nat.beq i 0) (by simp))
   have e4:=Nat.eq_of_beq_eq_true (hc (Nat.beq k.lk 0) (by simp))
   have e5:=Nat.eq_of_beq_eq_true (hc (Nat.beq k.sz sz) (by simp))
   have e6:=Nat.le_of_ble_eq_true (hc (Nat.ble n k.es.length) (by simp))
   have e7:=hc (yCL (k.es.take n)) (by simp)
   subst e0 e1 e5
   refine⟨k.es.take n,h2,fun K'=>?_,fun r hr z hz=>yCg 20 z (hg 0 k hk r (List.mem_of_mem_take hr) z hz) (List.all_eq_true.1 (List.all_eq_true.1 e7 r hr) z hz),fun e he=>?_⟩
   ·unfold endQ
    rw[hr]
    dsimp only
    rw[hk]
    exact h3 _
   ·have fin:∃es' n' cap',(⟨G'.get,c'⟩:St).get 0=some ⟨es',k.sz,0⟩/\resV P (yBO T') ⟨G'.get,c'⟩ rs=some (.bs 0 0 n' cap')/\n'<=es'.length/\k.es.take n=es'.take n':=⟨k.es,n,cap,by show G'.get 0=_;rw[hk,←e4],hr,e6,rfl⟩
    rcases he with rfl | rfl <;> exact fin
  ·cases h
 ·cases h
def xTt(P:Program)(call:ICk α)(cc:CCk α)(L:Nat)(lt:LT α)(g:FuncId)(es:List (List V))(sz:Nat)(args:List V)(K:List (List V)->Option α):Option α:=
 match P.funcs[g]? with
 | none=>none
 | some fn=>match fn.body with
   | none=>none
   | some x=>bif(fn.name== "runtime.NumGoroutine") then none else
     bif Nat.ble args.length fn.ntmps&&okC fn.ntmps x&&Nat.ble args.length 4000 then
      codeL P call cc L x lt (frT args 0 .leaf) (qG es sz) 1 fun e T' G' c'=>match e with
       | .exit _=>none
       | .normal=>endQ P fn.results.toList sz K T' G' c'
       | .ret=>endQ P fn.results.toList sz K T' G' c'
     else none
theorem xRb{P:Program}(hm:P.follows .mixedOrders=true){call:ICk α}{cc:CCk α}(hi:xFy P call)(hc:xDj P cc)(di:xF2 call)(dc:xFx cc){L sz:Nat}{lt:LT α}{g:FuncId}{fn:Func}{x:Code}(hf:P.funcs[g]?=some fn)(hb:fn.body=some x)(hlt:yUh P fn.ntmps x lt)(hld:yIs x lt)
  {args:List V} {es:List (List V)} {K:List (List V)->Option α} {r:α} (ha:∀y∈args,PS y) (hxs:∀r∈es,∀x∈r,Plain x) (h:xTt P call cc L lt g es sz args K=some r):∃ys,xRx P g args es sz ys/\K ys=some r:=by
 unfold xTt at h
 rw[hf] at h
 dsimp only at h
 rw[hb] at h
 dsimp only at h
 cases hn:(fn.name== "runtime.NumGoroutine") with
 | true=>rw[hn] at h;cases h
 | false=>
 rw[hn,cond_false] at h
 obtain⟨h1,h2⟩:=yAN h
 rw[Bool.and_eq_true,Bool.and_eq_true] at h1
 have hl:args.length<=4000:=Nat.le_of_ble_eq_true h1.2
 have hT:PSf (yBO (frT args 0 .leaf)):=by rw[yLb hl];exact .frOf ha
 have hG:=xTj hxs sz
 obtain⟨e,T1,G1,c1,k1,k2⟩:=yQt di dc x lt _ _ _ _ r hld h2
 obtain⟨p1,p2⟩:=k2 hT hG
 rw[k1] at h2
 have fin:endQ P fn.results.toList sz K T1 G1 c1=some r->e= .normal\/e= .ret->∃ys,xRx P g args es sz ys/\K ys=some r:=fun h2 he=>by
  obtain⟨ys,q1,q2,q4,-⟩:=xGT p1 p2 h2
  refine⟨ys,?_,q1⟩
  let K1:List (List V)->Option α:=fun ys'=>open Classical in if ys'=ys then some r else none
  have hK1:codeL P call cc L x lt (frT args 0 .leaf) (qG es sz) 1 (fun e T' G' c'=>match e with
    | .exit _=>none
    | .normal=>endQ P fn.results.toList sz K1 T' G' c'
    | .ret=>endQ P fn.results.toList sz K1 T' G' c')=some r:=by
   rw[k1]
   have:endQ P fn.results.toList sz K1 T1 G1 c1=some r:=(q2 K1).trans (if_pos rfl)
   rcases he with rfl | rfl <;> exact this
  have hle:args.length<=fn.ntmps:=Nat.le_of_ble_eq_true h1.1.1
  refine xJH hf hb hn hle q4 ?_
  rw[←yLb hl]
  refine yLj hm hi hc x lt _ _ _ _ r hK1 hlt h1.1.2 hT hG _ fun e T' G' c' hf' hg' h'=>?_
  have go:∀e,e= .ret\/e= .normal->endQ P fn.results.toList sz K1 T' G' c'=some r->xTi P fn.results.toList ys sz e (yBO T') ⟨G'.get,c'⟩:=fun e he h'=>by
   obtain⟨ys',m1,-,-,m2⟩:=xGT hf' hg' h'
   have m1:(open Classical in if ys'=ys then some r else none)=some r:=m1
   split at m1
   ·rename_i e0
    subst e0
    exact m2 e he
   ·cases m1
  cases e with
  | exit i=>cases h'
  | normal=>exact go _ (.inr rfl) h'
  | ret=>exact go _ (.inl rfl) h'
 cases e with
 | exit i=>cases h2
 | normal=>exact fin h2 (.inl rfl)
 | ret=>exact fin h2 (.inr rfl)
end
section
variable {α A:Type}
def xUB(P:Program)(sp:Spk α)(L n:Nat)(lt:LT α)(g:FuncId)(es:List (List V))(sz:Nat)(args:List V)(K:List (List V)->Option α):Option α:=xTt P (yDw P sp L n).1 (yDw P sp L n).2 L lt g es sz args K
def xR4(P:Program)(i:FuncId)(sz:Nat)(ca:Ca A)(g:A->List (List V)->Option (List (List V))):Prop:=
 ∀a es ys,(∀v∈ca.enc a,Plain v)->(∀r∈es,∀x∈r,Plain x)->g a es=some ys->xRx P i (.bs 0 0 es.length es.length::ca.enc a) es sz ys
theorem xQ2{P:Program}(hm:P.follows .mixedOrders=true){sp:Spk (List (List V))}(hs:yLc P sp){L n sz:Nat}{lt:LT (List (List V))}{g:FuncId}{fn:Func}{x:Code}(hf:P.funcs[g]?=some fn)(hb:fn.body=some x)(hlt:yUh P fn.ntmps x lt)(hld:yIs x lt)
  {ca:Ca A} {f:A->List (List V)->Option (List (List V))} (he:∀a es,xUB P sp L n lt g es sz (.bs 0 0 es.length es.length::ca.enc a) some=f a es):xR4 P g sz ca f:=by
 intro a es ys hp hx h
 obtain⟨h1,h2,h3,h4⟩:=yOO hm hs (L:=L) n
 obtain⟨ys',k1,k2⟩:=xRb hm h1 h2 h3 h4 hf hb hlt hld (fun z hz=>by
  rcases List.mem_cons.1 hz with rfl | hz
  ·exact .bs _ _ _ _
  ·exact(hp z hz).ps) hx ((he a es).trans h)
 injection k2 with k2
 subst k2
 exact k1
abbrev xTE(α:Type):=List V->List (List V)->(List (List V)->Option α)->Option α
def putQ(G:Tr Blk')(c b sz:Nat)(rs:List Nat)(ys:List (List V))(K:V->Tr Blk'->Nat->Option α):Option α:=
 match xDh G (b::rs) (xOe G.get b sz (fRe rs) ys) with
 | none=>none
 | some G'=>K (.bs b 0 ys.length ys.length) G' c
def qcK(sz:Nat)(run:xTE α):ICf α:=fun args G c K=>match args with
 | .bs b i m _::ax=>match G.get b with
   | some k=>match mapC (frC (fRe (ax.flatMap (nms 5 G.get))) 20 G.get) ax with
     | none=>none
     | some p=>yXO (Nat.beq i 0::Nat.beq m k.es.length::Nat.beq k.sz sz::Nat.beq k.lk 0::Nat.beq (fRe (ax.flatMap (nms 5 G.get)) b) 0::yCL k.es::p.1) (run p.2 k.es fun ys=>putQ G c b sz (ax.flatMap (nms 5 G.get)) ys K) none
   | none=>none
 | _=>none
def QOk(P:Program)(g:FuncId)(sz:Nat)(run:xTE α):Prop:=∀ax es K r,run ax es K=some r->∃ys,(∀K',run ax es K'=K' ys)/\((∀y∈ax,Plain y)->(∀r∈es,∀x∈r,Plain x)->xRx P g (.bs 0 0 es.length es.length::ax) es sz ys)
theorem xNe{G:Tr Blk'}{c b sz:Nat}{rs:List Nat}{ys:List (List V)}{K:V->Tr Blk'->Nat->Option α}{r:α}(h:putQ G c b sz rs ys K=some r):
  ∃G',G'.get=xOe G.get b sz (fRe rs) ys/\K (.bs b 0 ys.length ys.length) G' c=some r/\∀K':V->Tr Blk'->Nat->Option α,putQ G c b sz rs ys K'=K' (.bs b 0 ys.length ys.length) G' c:=by
 unfold putQ at h
 split at h
 ·cases h
 ·rename_i G' hu
  refine⟨G',?_,h,fun K'=>by unfold putQ;rw[hu]⟩
  rw[yOm _ _ _ _ hu]
  funext x
  show cond (yE3 _ x) (xOe _ _ _ _ _ x) (G.get x)=_
  cases hx:yE3 (b::rs) x with
  | true=>rfl
  | false=>
    have hno:¬x∈b::rs:=fun hm=>by rw[yE4.2 hm] at hx;cases hx
    simp only[List.mem_cons,not_or] at hno
    have hm:yE3 rs x=false:=by
     cases h:yE3 rs x with
     | false=>rfl
     | true=>exact absurd (yE4.1 h) hno.2
    rw[cond_false]
    unfold xOe
    rw[if_neg hno.1]
    show G.get x=(G.get x).map fun k=>(⟨k.es,k.sz,max k.lk (min (fRe rs x) k.es.length)⟩:Blk')
    unfold fRe
    rw[hm,cond_false]
    cases G.get x with
    | none=>rfl
    | some k=>simp
theorem xSp{P:Program}{g:FuncId}{sz:Nat}{run:xTE α}(hr:QOk P g sz run):xRv P g (qcK sz run):=by
 have key:∀args (G:Tr Blk') c K r,qcK sz run args G c K=some r->∃v G' c',(∀K',qcK sz run args G c K'=K' v G' c')/\((∀x∈args,PS x)->PSg G.get->PS v/\PSg (Tr.get G')/\xOf P g args ⟨G.get,c⟩ (fun r' st'=>r'=v/\st'=⟨G'.get,c'⟩)):=by
  intro args G c K r h
  unfold qcK at h
  split at h
  ·rename_i args b i m cap ax
   split at h
   ·rename_i k hk
    split at h
    ·cases h
    ·rename_i p hp
     obtain⟨hc,h2,h3⟩:=yCR h
     obtain⟨ys,q1,q2⟩:=hr _ _ _ _ h2
     rw[q1] at h2
     obtain⟨G',m1,m2,m3⟩:=xNe h2
     refine⟨.bs b 0 ys.length ys.length,G',c,fun K'=>?_,fun hps hg=>?_⟩
     ·unfold qcK
      dsimp only
      rw[hk]
      dsimp only
      rw[hp]
      dsimp only
      rw[h3,q1,m3]
     ·have e1:=Nat.eq_of_beq_eq_true (hc (Nat.beq i 0) (by simp))
      have e2:=Nat.eq_of_beq_eq_true (hc (Nat.beq m k.es.length) (by simp))
      have e4:=Nat.eq_of_beq_eq_true (hc (Nat.beq k.lk 0) (by simp))
      have e5:=Nat.eq_of_beq_eq_true (hc (Nat.beq k.sz sz) (by simp))
      have e3:=Nat.eq_of_beq_eq_true (hc (Nat.beq (fRe (ax.flatMap (nms 5 G.get)) b) 0) (by simp))
      have e6:=hc (yCL k.es) (by simp)
      subst e1 e2 e5
      have hkk:G.get b=some ⟨k.es,k.sz,0⟩:=by rw[hk,←e4]
      have hpl:∀r∈k.es,∀z∈r,Plain z:=fun r hr z hz=>yCg 20 z (hg b k hk r hr z hz) (List.all_eq_true.1 (List.all_eq_true.1 e6 r hr) z hz)
      obtain⟨k1,k2⟩:=yLl (st:=⟨G.get,c⟩) hg (fun x hx=>hps x (List.mem_cons_of_mem _ hx)) hp fun b hb=>hc b (by simp[hb])
      have hM:=q2 k2 hpl
      have hI:=xGg hM hkk e3 hpl (c:=c) (args:= .bs b 0 k.es.length cap::ax) rfl ⟨by simp[k1.1],fun j hj hj'=>by
       cases j with
       | zero=>exact .inl ⟨_,_,rfl,rfl⟩
       | succ j=>exact .inr ⟨k1.2 j (by simpa using hj) (by simpa using hj'),k2 _ (List.getElem_mem _)⟩⟩
      refine⟨.bs _ _ _ _,fun x kx hx=>?_,?_⟩
      ·rw[m1] at hx
       unfold xOe at hx
       split at hx
       ·injection hx with hx
        subst hx
        exact fun r hr z hz=>(hM.2.1 r hr z hz).ps
       ·obtain⟨k0,hk0,rfl⟩:=Option.map_eq_some_iff.1 (show(G.get x).map _=some kx from hx)
        exact hg x k0 hk0
      ·rw[m1];exact hI
   ·cases h
  ·cases h
 refine⟨fun args G c K r ha hg h Kp hk=>?_,fun args G c K r h=>?_⟩
 ·obtain⟨v,G',c',k1,k2⟩:=key args G c K r h
  obtain⟨k3,k4,k5⟩:=k2 ha hg
  rw[k1] at h
  refine .inr (.inr (.inr (.inr ⟨_,k5,?_⟩)))
  rintro r' st' ⟨rfl,rfl⟩
  exact hk _ _ _ k3 k4 h
 ·obtain⟨v,G',c',k1,k2⟩:=key args G c K r h
  exact⟨v,G',c',k1,fun ha hg=>⟨(k2 ha hg).1,(k2 ha hg).2.1⟩⟩
def xTu(ca:Ca A)(g:A->List (List V)->Option (List (List V))):xTE α:=fun ax es K=>bif ca.ok ax then yAB (g (ca.dec ax) es) K else none
def spQ(sz:Nat)(ca:Ca A)(g:A->List (List V)->Option (List (List V))):Ent α:=spI (qcK sz (xTu ca g))
theorem xR4.ent{P:Program}{i:FuncId}{sz:Nat}{ca:Ca A}{g:A->List (List V)->Option (List (List V))}(h:xR4 P i sz ca g):yS5 P i (spQ (α:=α) sz ca g):=by
 refine xKp (xSp fun ax es K r hr=>?_)
 obtain⟨h1,h2⟩:=yAN (show(bif ca.ok ax then yAB (g (ca.dec ax) es) K else none)=some r from hr)
 obtain⟨y,h3,h4⟩:=yQp h2
 refine⟨y,fun K'=>?_,fun hp hx=>?_⟩
 ·show(bif ca.ok ax then yAB (g (ca.dec ax) es) K' else none)=_
  rw[h1,h3];rfl
 ·have e1:=ca.h ax h1
  have:=h (ca.dec ax) es y (by rw[e1];exact hp) hx h3
  rw[e1] at this
  exact this
end
abbrev cI:Cd Int:=cdI .i64
abbrev w64(n:Int):Int:=IntKind.i64.wrap n
abbrev kI:List Kc:= [.i .i64]
abbrev kU:List Kc:= [.i .u8]
abbrev kS:List Kc:= [.s]
abbrev kL:List Kc:= [.l]
abbrev aI(es:List (List V))(i j:Nat):Int:=asI (cell es i j)
abbrev aB(es:List (List V))(i j:Nat):Bool:=asB (cell es i j)
abbrev aS(es:List (List V))(i j:Nat):ByteArray:=asS (cell es i j)
abbrev aR(es:List (List V))(i j:Nat):List (List V):=asR (cell es i j)
section
variable {α:Type} (es:List (List V))
abbrev gd(c:Bool)(x:Option α):Option α:=bif c then x else none
abbrev gI(ks:List Kc)(n:Int)(x:Option α):Option α:=gd (decide (0<=n))<|gd (decide (n<(es.length:Int)))<|gd (rowIs ks es n.toNat) x
abbrev gB(n:Int)(m:Nat)(x:Option α):Option α:=gd (decide (0<=n))<|gd (decide (n<(m:Int))) x
abbrev gL(ks:List Kc)(i j:Nat)(x:Option α):Option α:=gd (decide (i<es.length))<|gd (yW9 ks es i j) x
abbrev gF(n:Nat)(x:Option α):Option α:=gd (Nat.ble n es.length)<|gd (Nat.ble n 2000000)<|gd (yCL es) x
abbrev gW(n:Nat)(x:Option α):Option α:=gd (Nat.beq n es.length)<|gd (yCL es) x
abbrev gA(n:Nat)(x:Option α):Option α:=gd (Nat.beq n es.length)<|gd (Nat.ble es.length 2000000)<|gd (yCL es) x
abbrev gM(m b:Nat)(x:Option α):Option α:=gd (decide (m*b<=140737488355328))<|gd (decide (m<=9223372036854775807)) x
end
section
variable {α β σ R X Y Z A B C D E F G H I J K M N O P:Type}
structure Mx (α:Type) where
 md:Md
 cx:Cx α
structure Lv (α:Type) where
 live:List (Nat×Md)
 cl:Cl α
abbrev lvN:Lv Unit:=⟨[],clN⟩
abbrev lvC(t:Nat)(m:Mx α)(d:Lv β):Lv (α×β):=⟨(t,m.md)::d.live,clC m.cx d.cl⟩
abbrev mP(c:Cd α):Mx α:=⟨.p,cxV (ceP c)⟩
abbrev mA(n:Nat):Mx (List (List V)):=⟨.a n,cxV (ceA n)⟩
abbrev mW(n:Nat):Mx (List (List V)):=⟨.w n,cxV (ceW n)⟩
abbrev mQ(n:Nat):Mx (List (List V)):=⟨.q n,cxQ n⟩
structure Mz (α:Type) where
 mds:List Md
 cz:Cz α
abbrev zN:Mz Unit:=⟨[],czN⟩
abbrev zP(c:Cd α)(d:Mz β):Mz (α×β):=⟨.p::d.mds,czC (ceP c) d.cz⟩
abbrev zA(n:Nat)(d:Mz β):Mz (List (List V)×β):=⟨.a n::d.mds,czC (ceA n) d.cz⟩
abbrev zW(n:Nat)(d:Mz β):Mz (List (List V)×β):=⟨.w n::d.mds,czC (ceW n) d.cz⟩
abbrev zF(n:Nat)(L:List Nat)(d:Mz β):Mz (List (List V)×β):=⟨.f n L::d.mds,czC (ceW n) d.cz⟩
abbrev zS(n:Nat)(c:Ca α):Mz α:=⟨List.replicate n .p,czA c⟩
abbrev mO(z:Mz α)(n:Nat):Mx α:=⟨.o z.mds,cxO z.cz n⟩
abbrev mR(z:Mz α)(n:Nat):Mx α:=⟨.r z.mds,cxR z.cz n⟩
theorem tN:yLc Tryz.prog (yYR ([]:List (Nat×Ent α))):=xPl
theorem tC{s:Nat×Ent α}{l:List (Nat×Ent α)}(hs:yS5 Tryz.prog s.1 s.2)(hl:yLc Tryz.prog (yYR l)):yLc Tryz.prog (yYR (s::l)):=xOL hs hl
def LTP(n:Nat)(x:Code)(t:LT α):Prop:=yUh Tryz.prog n x t/\yIs x t
def LO(fn:Func)(p:List Nat)(s:LSpec α):Prop:=LOk Tryz.prog fn.ntmps (xAt fn p) s/\xDk s
def PO(fn:Func)(p:List Nat)(s:LSpec α):Prop:=POk Tryz.prog fn.ntmps (xIa (yNB fn) p) s/\xDk s
section
variable {fn:Func} {p:List Nat} {n:Nat} {x y:Code} {t r:LT α}
theorem lN(x:Code):LTP n x (.no:LT α):=⟨ltN x,ldN x⟩
theorem lS(h1:LTP n x t)(h2:LTP n y r):LTP n (.seq x y) (.two t r):=⟨ltS h1.1 h2.1,ldS h1.2 h2.2⟩
theorem lQ{c:Operand}(h1:LTP n x t)(h2:LTP n y r):LTP n (.cond c x y) (.two t r):=⟨ltQ h1.1 h2.1,ldQ h1.2 h2.2⟩
theorem lB{i:Nat}(h:LTP n x t):LTP n (.block i x) (.one t):=h
abbrev xT:LT α:= .pt ⟨[],fun _=> [],fun _ _=>none⟩
theorem lX(x:Code):LTP n x (xT:LT α):=⟨ltP.symm▸(fun vs K r _ h=>(by cases h)),ldP.symm▸(fun vs K r h=>(by cases h))⟩
theorem lL{s:LSpec α}(h:LO fn p s):LTP fn.ntmps (.loop (xAt fn p)) (.lp s):=⟨ltL h.1,ldL h.2⟩
theorem lP{s:LSpec α}(h:PO fn p s):LTP fn.ntmps (xIa (yNB fn) p) (.pt s):=⟨ptL h.1,pdL h.2⟩
end
end
structure Fw where
 A:Type
 R:Type
 T:Type
 id:Nat
 ca:Ca A
 cr:Cd R
 un:T->A->Option R
abbrev Fw.s{α:Type}(w:Fw)(g:w.T):Nat×Ent α:=(w.id,spE false w.ca w.cr (w.un g))
def Fw.Eq(w:Fw)(l:List (Nat×Ent w.R))(t:LT w.R)(f:w.T):Prop:=∀a,xT9 Tryz.prog (yYR l) 10 30 t w.id (w.ca.enc a) (xT5 w.cr)=w.un f a
def Fw.C(w:Fw)(f:w.T):Prop:=Ctr Tryz.prog w.id false w.ca w.cr (w.un f)
theorem Fw.C.ent{α:Type}{w:Fw}{f:w.T}(h:w.C f):yS5 Tryz.prog w.id (w.s (α:=α) f).2:=Ctr.ent h
theorem Fw.c(w:Fw){l:List (Nat×Ent w.R)}{t:LT w.R}{f:w.T}(he:w.Eq l t f)(hs:yLc Tryz.prog (yYR l)){fn:Func}(hf:Tryz.prog.funcs[w.id]?=some fn)(hb:fn.body=some (yNB fn))(h:LTP fn.ntmps (yNB fn) t):w.C f:=xSG mixed hs hf hb h.1 h.2 he
structure Nw where
 A:Type
 T:Type
 id:Nat
 sz:Nat
 ca:Ca A
 un:T->A->Option (List (List V))
abbrev Nw.s{α:Type}(w:Nw)(g:w.T):Nat×Ent α:=(w.id,spN w.sz w.ca (w.un g))
def Nw.Eq(w:Nw)(l:List (Nat×Ent (List (List V))))(t:LT (List (List V)))(f:w.T):Prop:=∀a,xUL Tryz.prog (yYR l) 10 30 w.sz t w.id (w.ca.enc a) some=w.un f a
structure Rw where
 A:Type
 Z:Type
 T:Type
 id:Nat
 rk:RK
 ca:Ca A
 z:Mz Z
 un:T->A->Option Z
abbrev Rw.s{α:Type}(w:Rw)(g:w.T):Nat×Ent α:=(w.id,spR w.rk w.ca w.z.cz (w.un g))
def Rw.Eq(w:Rw)(l:List (Nat×Ent w.Z))(t:LT w.Z)(f:w.T):Prop:=∀a,xUC Tryz.prog w.rk (yYR l) 10 30 t w.id w.z.mds (w.ca.enc a) (xT7 w.z.cz)=w.un f a
def Rw.C(w:Rw)(f:w.T):Prop:=xRu Tryz.prog w.rk w.id w.ca w.z.cz (w.un f)
theorem Rw.C.ent{α:Type}{w:Rw}{f:w.T}(h:w.C f):yS5 Tryz.prog w.id (w.s (α:=α) f).2:=xRu.ent h
theorem Rw.c(w:Rw){l:List (Nat×Ent w.Z)}{t:LT w.Z}{f:w.T}(he:w.Eq l t f)(hs:yLc Tryz.prog (yYR l)){fn:Func}(hf:Tryz.prog.funcs[w.id]?=some fn)(hb:fn.body=some (yNB fn))(h:LTP fn.ntmps (yNB fn) t):w.C f:=xQ3 mixed hs hf hb h.1 h.2 he
structure Mw where
 A:Type
 R:Type
 X:Type
 T:Type
 id:Nat
 z:Mz X
 sz:Nat
 ca:Ca A
 cr:Cd R
 un:T->A->X->Option (R×X)
abbrev Mw.s{α:Type}(w:Mw)(g:w.T):Nat×Ent α:=(w.id,spM w.z.mds w.sz w.ca w.z.cz w.cr w.z.cz (w.un g))
def Mw.Eq(w:Mw)(l:List (Nat×Ent (w.R×w.X)))(t:LT (w.R×w.X))(f:w.T):Prop:=∀a x,xUA Tryz.prog (yYR l) 10 30 t w.id w.z.mds (w.z.cz.enc x) w.sz (.ptr 0 0 0::w.ca.enc a) (xT6 w.cr w.z.cz)=w.un f a x
def Mw.C(w:Mw)(f:w.T):Prop:=xR2 Tryz.prog w.id w.sz w.ca w.z.cz w.cr w.z.cz (w.un f)
theorem Mw.C.ent{α:Type}{w:Mw}{f:w.T}(h:w.C f):yS5 Tryz.prog w.id (w.s (α:=α) f).2:=xR2.ent h
theorem Mw.c(w:Mw){l:List (Nat×Ent (w.R×w.X))}{t:LT (w.R×w.X)}{f:w.T}(he:w.Eq l t f)(hs:yLc Tryz.prog (yYR l)){fn:Func}(hf:Tryz.prog.funcs[w.id]?=some fn)(hb:fn.body=some (yNB fn))(h:LTP fn.ntmps (yNB fn) t):w.C f:=xQ1 mixed hs hf hb h.1 h.2 he
structure Qw where
 A:Type
 T:Type
 id:Nat
 sz:Nat
 ca:Ca A
 un:T->A->List (List V)->Option (List (List V))
abbrev Qw.s{α:Type}(w:Qw)(g:w.T):Nat×Ent α:=(w.id,spQ w.sz w.ca (w.un g))
def Qw.Eq(w:Qw)(l:List (Nat×Ent (List (List V))))(t:LT (List (List V)))(f:w.T):Prop:=∀a es,xUB Tryz.prog (yYR l) 10 30 t w.id es w.sz (.bs 0 0 es.length es.length::w.ca.enc a) some=w.un f a es
def Qw.C(w:Qw)(f:w.T):Prop:=xR4 Tryz.prog w.id w.sz w.ca (w.un f)
theorem Qw.C.ent{α:Type}{w:Qw}{f:w.T}(h:w.C f):yS5 Tryz.prog w.id (w.s (α:=α) f).2:=xR4.ent h
theorem Qw.c(w:Qw){l:List (Nat×Ent (List (List V)))}{t:LT (List (List V))}{f:w.T}(he:w.Eq l t f)(hs:yLc Tryz.prog (yYR l)){fn:Func}(hf:Tryz.prog.funcs[w.id]?=some fn)(hb:fn.body=some (yNB fn))(h:LTP fn.ntmps (yNB fn) t):w.C f:=xQ2 mixed hs hf hb h.1 h.2 he
section
variable {R X Z A B C D E F G H I J K M N O P:Type}
abbrev fw0(i:Nat)(ca:Ca (Unit))(cr:Cd R):Fw:=⟨Unit,R,Option R,i,ca,cr,fun g a=>g⟩
abbrev fw1(i:Nat)(ca:Ca (A×Unit))(cr:Cd R):Fw:=⟨A×Unit,R,A->Option R,i,ca,cr,fun g a=>g a.1⟩
abbrev fw2(i:Nat)(ca:Ca (A×B×Unit))(cr:Cd R):Fw:=⟨A×B×Unit,R,A->B->Option R,i,ca,cr,fun g a=>g a.1 a.2.1⟩
abbrev fw3(i:Nat)(ca:Ca (A×B×C×Unit))(cr:Cd R):Fw:=⟨A×B×C×Unit,R,A->B->C->Option R,i,ca,cr,fun g a=>g a.1 a.2.1 a.2.2.1⟩
abbrev fw4(i:Nat)(ca:Ca (A×B×C×D×Unit))(cr:Cd R):Fw:=⟨A×B×C×D×Unit,R,A->B->C->D->Option R,i,ca,cr,fun g a=>g a.1 a.2.1 a.2.2.1 a.2.2.2.1⟩
abbrev fw5(i:Nat)(ca:Ca (A×B×C×D×E×Unit))(cr:Cd R):Fw:=⟨A×B×C×D×E×Unit,R,A->B->C->D->E->Option R,i,ca,cr,fun g a=>g a.1 a.2.1 a.2.2.1 a.2.2.2.1 a.2.2.2.2.1⟩
abbrev nw1(i sz:Nat)(ca:Ca (A×Unit)):Nw:=⟨A×Unit,A->Option (List (List V)),i,sz,ca,fun g a=>g a.1⟩
abbrev mw0(i:Nat)(z:Mz X)(sz:Nat)(ca:Ca (Unit))(cr:Cd R):Mw:=⟨Unit,R,X,X->Option (R×X),i,z,sz,ca,cr,fun g a x=>g x⟩
abbrev qw1(i sz:Nat)(ca:Ca (A×Unit)):Qw:=⟨A×Unit,List (List V)->A->Option (List (List V)),i,sz,ca,fun g a x=>g x a.1⟩
abbrev rw1(i:Nat)(rk:RK)(ca:Ca (A×Unit))(z:Mz Z):Rw:=⟨A×Unit,Z,A->Option Z,i,rk,ca,z,fun g a=>g a.1⟩
abbrev mw1(i:Nat)(z:Mz X)(sz:Nat)(ca:Ca (A×Unit))(cr:Cd R):Mw:=⟨A×Unit,R,X,X->A->Option (R×X),i,z,sz,ca,cr,fun g a x=>g x a.1⟩
abbrev rw2(i:Nat)(rk:RK)(ca:Ca (A×B×Unit))(z:Mz Z):Rw:=⟨A×B×Unit,Z,A->B->Option Z,i,rk,ca,z,fun g a=>g a.1 a.2.1⟩
abbrev rw3(i:Nat)(rk:RK)(ca:Ca (A×B×C×Unit))(z:Mz Z):Rw:=⟨A×B×C×Unit,Z,A->B->C->Option Z,i,rk,ca,z,fun g a=>g a.1 a.2.1 a.2.2.1⟩
end
def exB:AEx->AEx->Bool
 | .normal,.normal=>true
 | .ret,.ret=>true
 | .exit i,.exit j=>Nat.beq i j
 | _,_=>false
abbrev LF1(S A α:Type):=S->(A->Option α)->Option α
abbrev LF2(S A B α:Type):=S->(A->Option α)->(B->Option α)->Option α
abbrev LF3(S A B C α:Type):=S->(A->Option α)->(B->Option α)->(C->Option α)->Option α
def okB{S:Type}(n:Nat)(x:Code)(v:Lv S):Bool:=(v.live.all fun p=>Nat.ble p.1 4000)&&okC n x
theorem xNY{S:Type}{n:Nat}{x:Code}{v:Lv S}(h:okB n x v=true):okL v.live:=xSf (yBE h).1
theorem xNX{S:Type}{n:Nat}{x:Code}{v:Lv S}(h:okB n x v=true):okC n x=true:=(yBE h).2
section
variable {α S A B C:Type}
structure LW1 (S A:Type) where
 v:Lv S
 e0:AEx
 w0:Lv A
abbrev LW1.ou(x:LW1 S A):AEx->List (Nat×Md):=fun y=>bif exB y x.e0 then x.w0.live else []
abbrev LW1.s(x:LW1 S A)(F:LF1 S A α):LSpec α:=⟨x.v.live,x.ou,xS4 x.v.cl x.e0 x.w0.cl F⟩
def LW1.Eq(x:LW1 S A)(l:List (Nat×Ent α))(fn:Func)(p:List Nat)(t:LT α)(st:S->(S->Option α)->(A->Option α)->Option α):Prop:=∀s Kn Ke,xL4 Tryz.prog (yYR l) 10 30 (xAt fn p) t x.v.live x.ou (x.v.cl.enc s) Kn Ke=st s (fun s'=>Kn (x.v.cl.enc s')) (fun a=>Ke x.e0 (x.w0.cl.enc a))
def LW1.Ep(x:LW1 S A)(l:List (Nat×Ent α))(fn:Func)(p:List Nat)(t:LT α)(F:LF1 S A α):Prop:=∀s Ke,xRl Tryz.prog (yYR l) 10 30 (xIa (yNB fn) p) t x.v.live x.ou (x.v.cl.enc s) Ke=F s (fun a=>Ke x.e0 (x.w0.cl.enc a))
theorem LW1.k(x:LW1 S A){l:List (Nat×Ent α)}{fn:Func}{p:List Nat}{t:LT α}{st:S->(S->Option α)->(A->Option α)->Option α}(h:x.Eq l fn p t st)(hs:yLc Tryz.prog (yYR l))(ht:LTP fn.ntmps (xAt fn p) t)(ho:okB fn.ntmps (xAt fn p) x.v=true)(m:Nat):LO fn p (x.s (yAb st m)):=xSU mixed hs (xNY ho) ht.1 ht.2 (xNX ho) h m
theorem LW1.kp(x:LW1 S A){l:List (Nat×Ent α)}{fn:Func}{p:List Nat}{t:LT α}{F:LF1 S A α}(h:x.Ep l fn p t F)(hs:yLc Tryz.prog (yYR l))(ht:LTP fn.ntmps (xIa (yNB fn) p) t)(ho:okB fn.ntmps (xIa (yNB fn) p) x.v=true):PO fn p (x.s F):=xSl mixed hs (xNY ho) ht.1 ht.2 (xNX ho) h fun _ _=>rfl
structure LW2 (S A B:Type) where
 v:Lv S
 e0:AEx
 w0:Lv A
 e1:AEx
 w1:Lv B
abbrev LW2.ou(x:LW2 S A B):AEx->List (Nat×Md):=fun y=>bif exB y x.e0 then x.w0.live else bif exB y x.e1 then x.w1.live else []
abbrev LW2.s(x:LW2 S A B)(F:LF2 S A B α):LSpec α:=⟨x.v.live,x.ou,xS5 x.v.cl x.e0 x.w0.cl x.e1 x.w1.cl F⟩
def LW2.Eq(x:LW2 S A B)(l:List (Nat×Ent α))(fn:Func)(p:List Nat)(t:LT α)(st:S->(S->Option α)->(A->Option α)->(B->Option α)->Option α):Prop:=∀s Kn Ke,xL4 Tryz.prog (yYR l) 10 30 (xAt fn p) t x.v.live x.ou (x.v.cl.enc s) Kn Ke=st s (fun s'=>Kn (x.v.cl.enc s')) (fun a=>Ke x.e0 (x.w0.cl.enc a)) (fun a=>Ke x.e1 (x.w1.cl.enc a))
def LW2.Ep(x:LW2 S A B)(l:List (Nat×Ent α))(fn:Func)(p:List Nat)(t:LT α)(F:LF2 S A B α):Prop:=∀s Ke,xRl Tryz.prog (yYR l) 10 30 (xIa (yNB fn) p) t x.v.live x.ou (x.v.cl.enc s) Ke=F s (fun a=>Ke x.e0 (x.w0.cl.enc a)) (fun a=>Ke x.e1 (x.w1.cl.enc a))
theorem LW2.k(x:LW2 S A B){l:List (Nat×Ent α)}{fn:Func}{p:List Nat}{t:LT α}{st:S->(S->Option α)->(A->Option α)->(B->Option α)->Option α}(h:x.Eq l fn p t st)(hs:yLc Tryz.prog (yYR l))(ht:LTP fn.ntmps (xAt fn p) t)(ho:okB fn.ntmps (xAt fn p) x.v=true)(m:Nat):LO fn p (x.s (yAf st m)):=xSV mixed hs (xNY ho) ht.1 ht.2 (xNX ho) h m
theorem LW2.kp(x:LW2 S A B){l:List (Nat×Ent α)}{fn:Func}{p:List Nat}{t:LT α}{F:LF2 S A B α}(h:x.Ep l fn p t F)(hs:yLc Tryz.prog (yYR l))(ht:LTP fn.ntmps (xIa (yNB fn) p) t)(ho:okB fn.ntmps (xIa (yNB fn) p) x.v=true):PO fn p (x.s F):=xSl mixed hs (xNY ho) ht.1 ht.2 (xNX ho) h fun _ _=>rfl
structure LW3 (S A B C:Type) where
 v:Lv S
 e0:AEx
 w0:Lv A
 e1:AEx
 w1:Lv B
 e2:AEx
 w2:Lv C
abbrev LW3.ou(x:LW3 S A B C):AEx->List (Nat×Md):=fun y=>bif exB y x.e0 then x.w0.live else bif exB y x.e1 then x.w1.live else bif exB y x.e2 then x.w2.live else []
abbrev LW3.s(x:LW3 S A B C)(F:LF3 S A B C α):LSpec α:=⟨x.v.live,x.ou,xS6 x.v.cl x.e0 x.w0.cl x.e1 x.w1.cl x.e2 x.w2.cl F⟩
def LW3.Eq(x:LW3 S A B C)(l:List (Nat×Ent α))(fn:Func)(p:List Nat)(t:LT α)(st:S->(S->Option α)->(A->Option α)->(B->Option α)->(C->Option α)->Option α):Prop:=∀s Kn Ke,xL4 Tryz.prog (yYR l) 10 30 (xAt fn p) t x.v.live x.ou (x.v.cl.enc s) Kn Ke=st s (fun s'=>Kn (x.v.cl.enc s')) (fun a=>Ke x.e0 (x.w0.cl.enc a)) (fun a=>Ke x.e1 (x.w1.cl.enc a)) (fun a=>Ke x.e2 (x.w2.cl.enc a))
theorem LW3.k(x:LW3 S A B C){l:List (Nat×Ent α)}{fn:Func}{p:List Nat}{t:LT α}{st:S->(S->Option α)->(A->Option α)->(B->Option α)->(C->Option α)->Option α}(h:x.Eq l fn p t st)(hs:yLc Tryz.prog (yYR l))(ht:LTP fn.ntmps (xAt fn p) t)(ho:okB fn.ntmps (xAt fn p) x.v=true)(m:Nat):LO fn p (x.s (xLX st m)):=xSW mixed hs (xNY ho) ht.1 ht.2 (xNX ho) h m
end
end Go.Proofs.YtakljpcmbpaeaaaGreat
