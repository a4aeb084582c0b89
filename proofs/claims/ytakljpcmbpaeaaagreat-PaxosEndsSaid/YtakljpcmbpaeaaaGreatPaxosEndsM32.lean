/- Codecs; known functions and loops by typed functions; contracts out of equations. -/
import Derived.Test.YtakljpcmbpaeaaaGreatPaxosEndsM31
set_option linter.unusedSimpArgs false
set_option linter.unusedVariables false
namespace Go.Proofs.YtakljpcmbpaeaaaGreat
open Go.RowKit
def yAB{α β:Type}(o:Option β)(f:β->Option α):Option α:=match o with
 | none=>none
 | some b=>f b
theorem yNo{α β:Type}{o:Option β}{f:β->Option α}{r:α}(h:yAB o f=some r):∃b,o=some b/\f b=some r:=by
 cases o with
 | none=>cases h
 | some b=>exact⟨b,rfl,h⟩
structure Cd (α:Type) where
 enc:α->V
 dec:V->α
 ok:V->Bool
 h:∀v,ok v=true->enc (dec v)=v
def cdK{α:Type}(k:Kc)(mk:α->V)(of:V->α)(hk:∀v,mk (of v)=etaC k v):Cd α:=⟨mk,of,isC k,fun v hv=>(hk v).trans (xGQ hv)⟩
def cdI(k:IntKind):Cd Int:=cdK (.i k) (.int k) asI fun _=>rfl
def cdB:Cd Bool:=cdK .b .bool asB fun _=>rfl
def cdS:Cd ByteArray:=cdK .s .str asS fun _=>rfl
def cdR:Cd (List (List V)):=cdK .m (fun es=> .sl es false) asR fun _=>rfl
structure Ca (α:Type) where
 enc:α->List V
 dec:List V->α
 ok:List V->Bool
 h:∀v,ok v=true->enc (dec v)=v
def caN:Ca Unit:=⟨fun _=> [],fun _=>(),fun l=>match l with | []=>true | _=>false,fun l h=>by cases l <;> first | rfl | cases h⟩
def caC{α β:Type}(c:Cd α)(d:Ca β):Ca (α×β):=⟨fun a=>c.enc a.1::d.enc a.2,fun l=>(c.dec (l.headD .undef),d.dec l.tail),fun l=>match l with | []=>false | x::l=>c.ok x&&d.ok l,fun l h=>by
 cases l with
 | nil=>cases h
 | cons x l=>
   obtain⟨h1,h2⟩:=yBA h
   show c.enc (c.dec x)::d.enc (d.dec l)=_
   rw[c.h x h1,d.h l h2]⟩
def xNW:V->List V
 | .tup l=>l
 | _=> []
def xNS:V->List V
 | .agg l=>l
 | _=> []
def tpL:V->List V
 | .tp l=>l
 | _=> []
def cdT{α:Type}(d:Ca α):Cd α:=⟨fun a=> .tup (d.enc a),fun v=>d.dec (xNW v),fun v=>match v with | .tup l=>d.ok l | _=>false,fun v h=>by
 cases v <;> first | (cases h;done) | (rename_i l;exact congrArg V.tup (d.h l h))⟩
def cdP{α:Type}(d:Ca α):Cd α:=⟨fun a=> .tp (d.enc a),fun v=>d.dec (tpL v),fun v=>match v with | .tp l=>d.ok l | _=>false,fun v h=>by
 cases v <;> first | (cases h;done) | (rename_i l;exact congrArg V.tp (d.h l h))⟩
def xLi:V->List V
 | .fn _ _ l=>l
 | _=> []
def cdF{α:Type}(i:Nat)(d:Ca α):Cd α:=⟨fun a=> .fn (.func i) [] (d.enc a),fun v=>d.dec (xLi v),fun v=>match v with | .fn (.func j) [] l=>Nat.beq j i&&d.ok l | _=>false,fun v h=>by
 cases v with
 | fn f first l=>
   cases f with
   | func j=>
     cases first with
     | nil=>
       obtain⟨h1,h2⟩:=yBA h
       have h1:=Nat.eq_of_beq_eq_true h1
       subst h1
       exact congrArg (V.fn (.func j) []) (d.h l h2)
     | cons _ _=>cases h
   | _=>cases h
 | _=>cases h⟩
structure Cr (α:Type) where
 enc:α->List (List V)
 dec:List (List V)->α
 ok:List (List V)->Bool
 h:∀v,ok v=true->enc (dec v)=v
def xMY:Cr Unit:=⟨fun _=> [],fun _=>(),fun l=>match l with | []=>true | _=>false,fun l h=>by cases l <;> first | rfl | cases h⟩
def xMX{α β:Type}(c:Cd α)(d:Cr β):Cr (α×β):=⟨fun a=> [c.enc a.1]::d.enc a.2,fun l=>(c.dec ((l.headD []).headD .undef),d.dec l.tail),fun l=>match l with | [x]::l=>c.ok x&&d.ok l | _=>false,fun l h=>by
 cases l with
 | nil=>cases h
 | cons r l=>
   cases r with
   | nil=>cases h
   | cons x r=>
     cases r with
     | cons _ _=>cases h
     | nil=>
       obtain⟨h1,h2⟩:=yBA h
       show [c.enc (c.dec x)]::d.enc (d.dec l)=_
       rw[c.h x h1,d.h l h2]⟩
def cdL{α:Type}(d:Cr α):Cd α:=⟨fun a=> .sl (d.enc a) false,fun v=>d.dec (asR v),fun v=>match v with | .sl l f=> !f&&d.ok l | _=>false,fun v h=>by
 cases v with
 | sl l f=>
   obtain⟨h1,h2⟩:=yBA h
   cases f with
   | true=>cases h1
   | false=>exact congrArg (V.sl · false) (d.h l h2)
 | _=>cases h⟩
def cdA{α:Type}(ks:List Kc)(cs:α->List V)(of:List V->α)(h:∀l,cs (of l)=etaSeg ks [l] 0 0):Cd α:=⟨fun a=> .agg (cs a),fun v=>of (xNS v),fun v=>match v with | .agg l=>rowIs ks [l] 0 | _=>false,fun v hv=>by
 cases v <;> first | (cases hv;done) | (
  rename_i l
  have:=(yZS hv (by simp)).1
  simp only[List.getElem?_cons_zero,Option.some.injEq] at this
  exact congrArg V.agg ((h l).trans this.symm))⟩
def caA{α:Type}(ks:List Kc)(cs:α->List V)(of:List V->α)(h:∀l,cs (of l)=etaSeg ks [l] 0 0):Ca α:=⟨cs,of,fun l=>rowIs ks [l] 0,fun l hv=>by
 have:=(yZS hv (by simp)).1
 simp only[List.getElem?_cons_zero,Option.some.injEq] at this
 exact(h l).trans this.symm⟩
theorem xB6{P:Program}{g:FuncId}{args:List V}{es:List (List V)}{sz:Nat}(h:yZq P g args es sz):Con P g args (· = .sl es false):=by
 obtain⟨hc,hrow,hpl,hcon⟩:=h
 refine⟨hc,fun w S vargs hS hv=>(hcon w S vargs hS hv).mono ?_⟩
 rintro e w' ⟨A,c,S',rfl,hlc,hbel,t1,t2,t3,hcase⟩
 rcases hcase with ⟨rfl,rfl⟩ | ⟨b,o,rfl,hb1,hb2,hSx,hroom,hcell⟩
 ·exact⟨_,_,S',rfl,rfl,.sl _ _ (by simp),.sl0 false A 0 (by simp),t1,t2,t3,hbel⟩
 ·refine⟨_,_,fun g i=>S' g i\/(g=b/\o<=i/\i<o+es.length*sz),rfl,rfl,.sl _ _ hpl,?_,fun g i h=> .inl (t1 g i h),fun g i h=>h.elim (t2 g i) fun q=> .inr (by rw[q.1];exact hb1),fun g i h=>h.elim (t3 g i) fun q=>by rw[q.1];exact hb2,hbel⟩
  by_cases h0:es.length=0
  ·have:=List.eq_nil_of_length_eq_zero h0
   subst this
   exact .sl0 false _ c (by simp)
  ·have hch:∃vals:Nat->Nat->Value,∀i (hi:i<es.length) j (hj:j<es[i].length),w'.cell? ⟨b,o+i*sz+j,none⟩=some (vals i j)/\(vals i j).oneCell'=true/\VR yMH (fun g i=>S' g i\/(g=b/\o<=i/\i<o+es.length*sz)) w' es[i][j] (vals i j):=by
     refine⟨fun i j=>(w'.cell? ⟨b,o+i*sz+j,none⟩).getD Go.undef,fun i hi j hj=>?_⟩
     obtain⟨u,h1,h2,h3⟩:=hcell i hi j hj
     have e:(w'.cell? ⟨b,o+i*sz+j,none⟩).getD Go.undef=u:=by rw[h1];rfl
     dsimp only
     rw[e]
     exact⟨h1,h2,h3.mono (fun _ _ h=>h) (fun _ _ h=> .inl h) (fun _ _ _=>rfl)⟩
   obtain⟨vals,hvals⟩:=hch
   refine .sl1 es false b o c sz vals (by omega) hlc (by simp) hrow (fun i j hi hj=> .inr ⟨rfl,by omega,?_⟩) (fun i j hi hj=>(hvals i hi j (by rw[hrow i hi];exact hj)).1) (fun i j hi hj=>(hvals i hi j (by rw[hrow i hi];exact hj)).2.1) (fun i hi j hj=>(hvals i hi j hj).2.2)
   have h1:(i+1)*sz<=es.length*sz:=Nat.mul_le_mul_right _ (by omega)
   rw[Nat.succ_mul] at h1
   omega
section
variable {α A R:Type}
abbrev Ent(α:Type):=Knd α×(List V->(V->Option α)->Option α)
def spE(fb:Bool)(ca:Ca A)(cr:Cd R)(g:A->Option R):Ent α:=(bif fb then .f else .c,fun args K=>bif ca.ok args then yAB (g (ca.dec args)) fun r=>K (cr.enc r) else none)
def Ctr(P:Program)(i:FuncId)(fb:Bool)(ca:Ca A)(cr:Cd R)(g:A->Option R):Prop:=
 ∀a r,(∀y∈ca.enc a,Plain y)->g a=some r->Con P i (ca.enc a) (· = cr.enc r)/\Plain (cr.enc r)/\(fb=true->xMS P i (ca.enc a) (cr.enc r))
theorem Ctr.ent{P:Program}{i:FuncId}{fb:Bool}{ca:Ca A}{cr:Cd R}{g:A->Option R}(h:Ctr P i fb ca cr g):yPW P i (spE (α:=α) fb ca cr g):=by
 refine⟨fun f q=>(by cases fb <;> cases q),fun args K r hr=>?_⟩
 obtain⟨h1,h2⟩:=yAL hr
 obtain⟨b,h3,h4⟩:=yNo h2
 refine⟨cr.enc b,fun K'=>?_,fun hp=>?_⟩
 ·show(bif ca.ok args then yAB (g (ca.dec args)) fun r=>K' (cr.enc r) else none)=_
  rw[h1,h3];rfl
 ·have e:=ca.h args h1
  obtain⟨k1,k2,k3⟩:=h (ca.dec args) b (by rw[e];exact hp) h3
  rw[e] at k1 k3
  exact⟨k1,k2,fun q=>k3 (by cases fb with | true=>rfl | false=>cases q),fun sz q=>by cases fb <;> cases q⟩
def spN(sz:Nat)(ca:Ca A)(g:A->Option (List (List V))):Ent α:=(.n sz,fun args K=>bif ca.ok args then yAB (g (ca.dec args)) fun r=>K (.sl r false) else none)
def xHu(P:Program)(i:FuncId)(sz:Nat)(ca:Ca A)(g:A->Option (List (List V))):Prop:=
 ∀a r,(∀y∈ca.enc a,Plain y)->g a=some r->yZq P i (ca.enc a) r sz
theorem xHu.ent{P:Program}{i:FuncId}{sz:Nat}{ca:Ca A}{g:A->Option (List (List V))}(h:xHu P i sz ca g):yPW P i (spN (α:=α) sz ca g):=by
 refine⟨fun f q=>(by cases q),fun args K r hr=>?_⟩
 obtain⟨h1,h2⟩:=yAL hr
 obtain⟨b,h3,h4⟩:=yNo h2
 refine⟨.sl b false,fun K'=>?_,fun hp=>?_⟩
 ·show(bif ca.ok args then yAB (g (ca.dec args)) fun r=>K' (.sl r false) else none)=_
  rw[h1,h3];rfl
 ·have e:=ca.h args h1
  have hN:=h (ca.dec args) b (by rw[e];exact hp) h3
  rw[e] at hN
  refine⟨xB6 hN,.sl _ _ hN.2.2.1,fun q=>(by cases q),fun s q=>?_⟩
  have q:some sz=some s:=q
  injection q with q
  subst q
  exact hN
def xMa:V->Nat
 | .fn (.func j) _ _=>j
 | _=>0
def xK1:List (Nat×Ent α)->Nat->Option (Ent α)
 | [],_=>none
 | p::l,g=>bif Nat.beq g p.1 then some p.2 else xK1 l g
def spF(j:Nat)(l:List (Nat×Ent α)):Ent α:=(.c,fun args K=>match xK1 l (xMa ((args[j]?).getD .undef)) with
 | none=>none
 | some s=>s.2 args K)
def xHy(P:Program)(i:FuncId)(l:List (Nat×Ent α)):Prop:=∀c s,xK1 l c=some s->yPW P i s
theorem yJd{P:Program}{i:FuncId}:xHy P i ([]:List (Nat×Ent α)):=fun c s h=>by cases h
theorem yGT{P:Program}{i:FuncId}{c:Nat}{s:Ent α}{l:List (Nat×Ent α)}(hs:yPW P i s)(hl:xHy P i l):xHy P i ((c,s)::l):=fun c' s' h=>by
 have h:(bif Nat.beq c' c then some s else xK1 l c')=some s':=h
 by_cases he:c'=c
 ·rw[yPV he,cond_true,Option.some.injEq] at h
  subst h
  exact hs
 ·rw[yPU he,cond_false] at h
  exact hl c' s' h
theorem yNE{P:Program}{i:FuncId}{j:Nat}{l:List (Nat×Ent α)}(hl:xHy P i l):yPW P i (spF j l):=by
 refine⟨fun f q=>(by cases q),fun args K r hr=>?_⟩
 have hr:(match xK1 l (xMa ((args[j]?).getD .undef)) with
  | none=>none
  | some s=>s.2 args K)=some r:=hr
 cases hs:xK1 l (xMa ((args[j]?).getD .undef)) with
 | none=>rw[hs] at hr;cases hr
 | some s=>
   rw[hs] at hr
   obtain⟨x,h1,h2⟩:=(hl _ _ hs).2 args K r hr
   refine⟨x,fun K'=>?_,fun hp=>⟨(h2 hp).1,(h2 hp).2.1,fun q=>(by cases q),fun sz q=>(by cases q)⟩⟩
   show(match xK1 l (xMa ((args[j]?).getD .undef)) with
   | none=>none
   | some s=>s.2 args K')=_
   rw[hs]
   exact h1 K'
def spI(f:ICf α):Ent α:=(.i f,fun _ _=>none)
theorem xEM{P:Program}{i:FuncId}{f:ICf α}(h:xJn P i f):yPW P i (spI f):=
 ⟨fun g q=>by injection q with q;subst q;exact h,fun args K r hr=>by cases hr⟩
def yVD:List (Nat×Ent α)->Spk α
 | [],_=>none
 | p::l,g=>bif Nat.beq g p.1 then some p.2 else yVD l g
theorem xI0{P:Program}:yLI P (yVD ([]:List (Nat×Ent α))):=fun g s h=>by cases h
theorem xHe{P:Program}{i:Nat}{s:Ent α}{l:List (Nat×Ent α)}(hs:yPW P i s)(hl:yLI P (yVD l)):yLI P (yVD ((i,s)::l)):=fun g s' h=>by
 have h:(bif Nat.beq g i then some s else yVD l g)=some s':=h
 by_cases he:g=i
 ·rw[yPV he,cond_true,Option.some.injEq] at h
  subst h he
  exact hs
 ·rw[yPU he,cond_false] at h
  exact hl g s' h
end
section
variable {α:Type}
theorem xEm{P:Program}{g:FuncId}{fn:Func}{c:Code}{args:List V}{post:V->Prop}(hf:P.funcs[g]?=some fn)(hb:fn.body=some c) (hn:(fn.name== "runtime.NumGoroutine")=false)
  (hl:args.length<=fn.ntmps) (h:AW0 P fn.ntmps c (xJI P fn.results.toList post) (frOf args) ⟨fun _=>none,1⟩):Con P g args post:=by
 refine⟨⟨fn,hf,hn,by rw[hb];rfl⟩,fun w S vargs hS hx=>calls_of_wp hf hb ?_⟩
 have hlv:vargs.length<=fn.ntmps:=by rw[←hx.1];exact hl
 have hA:AR yMH S (fun g=>w.heap.size<=g) w fn.ntmps (frOf args) ⟨fun _=>none,1⟩ {tmps:=vargs.toArray++Array.replicate (fn.ntmps-vargs.toArray.size) Go.undef,defers:= []} w:=
  ⟨yMH,S,.none hS 1,fun _ _=>⟨rfl,rfl⟩,FR.enter hx _,fun _ h=>h,Ev.refl,rfl,yMx hlv⟩
 refine Code.wp_mono (fun e a w' he=>?_) (h yMH _ _ _ _ _ (fun _ _ h=>by cases h) hA)
 have fin:∀fr st,AR yMH S (fun g=>w.heap.size<=g) w fn.ntmps fr st a w'->(∃r0 f r,resV P fr st fn.results.toList=some r0/\Fz st f r0 r/\post r)→
   a.defers= []/\∃v,(results fn a.tmps).run P w'= .ok v w'/\(∃v' r S',Ending.returned v= .returned v'/\post r/\Plain r/\VR yMH S' w' r v'/\(∀g i,S g i->S' g i)/\(∀g i,S' g i->S g i\/w.heap.size<=g)/\(∀g i,S' g i->g<w'.heap.size)/\Below w.heap.size w w'):=by
  rintro fr st ⟨mu,S',h1,h2,h3,h4,h5,h6,h7⟩ ⟨r0,f,r,hr,hz,hp⟩
  obtain⟨v,hv,hrun⟩:=yIv h1 h3 hr
  obtain⟨k1,k2⟩:=hz.sound (S':=yEz mu S' st f) (mu':=yMH) h1 hv (fun _ _ h=> .inl h) (fun b k L hk hL hm i q1 q2=> .inr ⟨b,k,L,hk,hL,hm,rfl,q1,q2⟩)
  refine⟨h6,v,hrun,v,r,_,rfl,hp,k2,k1,fun g i hs=> .inl (h5.sub g i hs),fun g i hs=>?_,(h1.lockF f).sb,h5.below.below⟩
  rcases yG9 h1 f g i hs with hs | hs
  ·exact h5.new g i hs
  ·exact .inr hs
 cases e with
 | normal=>obtain⟨fr,st,k1,k2⟩:=he;exact fin fr st k1 k2
 | ret=>obtain⟨fr,st,k1,k2⟩:=he;exact fin fr st k1 k2
 | exit i=>obtain⟨fr,st,k1,k2⟩:=he;exact k2.elim
 | _=>exact he.elim
def runT(P:Program)(call:ICk α)(cc:CCk α)(L:Nat)(lt:LT α)(g:FuncId)(args:List V)(K:V->Option α):Option α:=
 match P.funcs[g]? with
 | none=>none
 | some fn=>match fn.body with
   | none=>none
   | some x=>bif(fn.name== "runtime.NumGoroutine") then none else
     bif Nat.ble args.length fn.ntmps&&okC fn.ntmps x&&Nat.ble args.length 4000 then
      codeL P call cc L x lt (frT args 0 .leaf) .leaf 1 fun e T' G' c'=>match e with
       | .exit _=>none
       | _=>match resV P (yBK T') ⟨G'.get,c'⟩ fn.results.toList with
         | none=>none
         | some r=>match frC mny 20 G'.get r with
           | none=>none
           | some p=>yUH p.1 (K p.2) none
     else none
def xEx(P:Program)(rs:List ResultVar)(K:V->Option α)(T':Tr V)(G':Tr Blk')(c':Nat):Option α:=match resV P (yBK T') ⟨G'.get,c'⟩ rs with
 | none=>none
 | some r=>match frC mny 20 G'.get r with
   | none=>none
   | some p=>yUH p.1 (K p.2) none
theorem xAJ{P:Program}{rs:List ResultVar}{K:V->Option α}{T':Tr V}{G':Tr Blk'}{c':Nat}{r:α}(hf:PSf (yBK T'))(hg:PSg G'.get)(h:xEx P rs K T' G' c'=some r):
  ∃v,K v=some r/\(∀K':V->Option α,xEx P rs K' T' G' c'=K' v)/\Plain v/\∃r0,resV P (yBK T') ⟨G'.get,c'⟩ rs=some r0/\Fz ⟨G'.get,c'⟩ mny r0 v:=by
 unfold xEx at h
 split at h
 ·cases h
 ·rename_i r0 hr
  split at h
  ·cases h
  ·rename_i p hp
   obtain⟨h1,h2,h3⟩:=yCP h
   obtain⟨k1,k2⟩:=ySb 20 ⟨G'.get,c'⟩ r0 p.1 p.2 hg (yWU hf hg hr) hp h1
   refine⟨p.2,h2,fun K'=>?_,k2,r0,hr,k1⟩
   unfold xEx
   rw[hr]
   dsimp only
   rw[hp]
   exact h3 _
theorem xKt{P:Program}(hm:P.follows .mixedOrders=true){call:ICk α}{cc:CCk α}(hi:yZo P call)(hc:yYI P cc)(di:yZs call)(dc:yZn cc){L:Nat}{lt:LT α}{g:FuncId}{fn:Func}{x:Code}(hf:P.funcs[g]?=some fn)(hb:fn.body=some x)(hlt:yRM P fn.ntmps x lt)(hld:yHi x lt)
  {args:List V} {K:V->Option α} {r:α} (ha:∀y∈args,Plain y) (h:runT P call cc L lt g args K=some r):∃v,Con P g args (· = v)/\Plain v/\K v=some r:=by
 have hrun:∀K:V->Option α,runT P call cc L lt g args K=bif(fn.name== "runtime.NumGoroutine") then none else
   bif Nat.ble args.length fn.ntmps&&okC fn.ntmps x&&Nat.ble args.length 4000 then
    codeL P call cc L x lt (frT args 0 .leaf) .leaf 1 fun e T' G' c'=>match e with
     | .exit _=>none
     | .normal=>xEx P fn.results.toList K T' G' c'
     | .ret=>xEx P fn.results.toList K T' G' c'
   else none:=fun K=>by
  unfold runT
  rw[hf]
  dsimp only
  rw[hb]
  dsimp only
  have e:(fun(e:AEx) (T':Tr V) (G':Tr Blk') (c':Nat)=>match e with
    | .exit _=>none
    | _=>match resV P (yBK T') ⟨G'.get,c'⟩ fn.results.toList with
      | none=>none
      | some r=>match frC mny 20 G'.get r with
        | none=>none
        | some p=>yUH p.1 (K p.2) none)=(fun(e:AEx) (T':Tr V) (G':Tr Blk') (c':Nat)=>match e with
    | .exit _=>(none:Option α)
    | .normal=>xEx P fn.results.toList K T' G' c'
    | .ret=>xEx P fn.results.toList K T' G' c'):=by
   funext e T' G' c'
   cases e <;> rfl
  rw[←e]
 rw[hrun] at h
 cases hn:(fn.name== "runtime.NumGoroutine") with
 | true=>rw[hn] at h;cases h
 | false=>
 rw[hn,cond_false] at h
 obtain⟨h1,h2⟩:=yAL h
 rw[Bool.and_eq_true,Bool.and_eq_true] at h1
 have hl:args.length<=4000:=Nat.le_of_ble_eq_true h1.2
 have hT:PSf (yBK (frT args 0 .leaf)):=by rw[yJj hl];exact .frOf fun y hy=>(ha y hy).ps
 obtain⟨e,T1,G1,c1,k1,k2⟩:=yNu di dc x lt _ _ _ _ r hld h2
 obtain⟨p1,p2⟩:=k2 hT .leaf
 rw[k1] at h2
 have fin:xEx P fn.results.toList K T1 G1 c1=some r->e= .normal\/e= .ret->∃v,Con P g args (· = v)/\Plain v/\K v=some r:=fun h2 he=>by
  obtain⟨v,q1,q2,q3,-⟩:=xAJ p1 p2 h2
  refine⟨v,?_,q3,q1⟩
  let K1:V->Option α:=fun v'=>open Classical in if v'=v then some r else none
  have hK1:codeL P call cc L x lt (frT args 0 .leaf) .leaf 1 (fun e T' G' c'=>match e with
    | .exit _=>none
    | .normal=>xEx P fn.results.toList K1 T' G' c'
    | .ret=>xEx P fn.results.toList K1 T' G' c')=some r:=by
   rw[k1]
   have:xEx P fn.results.toList K1 T1 G1 c1=some r:=(q2 K1).trans (if_pos rfl)
   rcases he with rfl | rfl <;> exact this
  have hle:args.length<=fn.ntmps:=Nat.le_of_ble_eq_true h1.1.1
  refine xEm hf hb hn hle ?_
  rw[←yJj hl]
  refine yJr hm hi hc x lt _ _ _ _ r hK1 hlt h1.1.2 hT .leaf _ fun e T' G' c' hf' hg' h'=>?_
  have go:xEx P fn.results.toList K1 T' G' c'=some r->∃r0 f r,resV P (yBK T') ⟨G'.get,c'⟩ fn.results.toList=some r0/\Fz ⟨G'.get,c'⟩ f r0 r/\r=v:=fun h'=>by
   obtain⟨v',m1,-,-,r0,m2,m3⟩:=xAJ hf' hg' h'
   have m1:(open Classical in if v'=v then some r else none)=some r:=m1
   split at m1
   ·rename_i e;exact⟨r0,mny,v',m2,m3,e⟩
   ·cases m1
  cases e with
  | exit i=>cases h'
  | normal=>exact go h'
  | ret=>exact go h'
 cases e with
 | exit i=>cases h2
 | normal=>exact fin h2 (.inl rfl)
 | ret=>exact fin h2 (.inr rfl)
def xMg(P:Program)(rs:List ResultVar)(es:List (List V))(sz:Nat)(e:AEx)(fr:Fr)(st:St):Prop:=(e= .ret\/e= .normal)/\
 ((∃b cap n k,resV P fr st rs=some (.bs b 0 n cap)/\st.get b=some k/\n<=k.es.length/\es=k.es.take n/\k.lk=0/\k.sz=sz)\/(es= []/\resV P fr st rs=some (.sl [] true)))
theorem xCa{P:Program}{g:FuncId}{fn:Func}{c:Code}{args:List V}{es:List (List V)}{sz:Nat}(hf:P.funcs[g]?=some fn)(hb:fn.body=some c) (hn:(fn.name== "runtime.NumGoroutine")=false)
  (hl:args.length<=fn.ntmps) (hrow:∀i (hi:i<es.length),es[i].length=sz) (hpl:∀r∈es,∀x∈r,Plain x) (h:AW0 P fn.ntmps c (xMg P fn.results.toList es sz) (frOf args) ⟨fun _=>none,1⟩):yZq P g args es sz:=by
 refine⟨⟨fn,hf,hn,by rw[hb];rfl⟩,hrow,hpl,fun w S vargs hS hx=>calls_of_wp hf hb ?_⟩
 have hlv:vargs.length<=fn.ntmps:=by rw[←hx.1];exact hl
 have hA:AR yMH S (fun g=>w.heap.size<=g) w fn.ntmps (frOf args) ⟨fun _=>none,1⟩ {tmps:=vargs.toArray++Array.replicate (fn.ntmps-vargs.toArray.size) Go.undef,defers:= []} w:=
  ⟨yMH,S,.none hS 1,fun _ _=>⟨rfl,rfl⟩,FR.enter hx _,fun _ h=>h,Ev.refl,rfl,yMx hlv⟩
 refine Code.wp_mono (fun e a w' he=>?_) (h yMH _ _ _ _ _ (fun _ _ h=>by cases h) hA)
 have fin:∀e' fr st,AR yMH S (fun g=>w.heap.size<=g) w fn.ntmps fr st a w'->xMg P fn.results.toList es sz e' fr st→
   a.defers= []/\∃v,(results fn a.tmps).run P w'= .ok v w'/\∃(A:Option Addr) (c:Nat) (S':yEZ),Ending.returned v= .returned (.slice A es.length c)/\es.length<=c/\Below w.heap.size w w'/\
   (∀g i,S g i->S' g i)/\(∀g i,S' g i->S g i\/w.heap.size<=g)/\(∀g i,S' g i->g<w'.heap.size)/\
   ((es= []/\c=0)\/∃b o,A=some ⟨b,o,none⟩/\w.heap.size<=b/\b<w'.heap.size/\(∀i,o<=i->i<o+c*sz->¬S' b i)/\
     (∀i,o<=i->i<o+c*sz->(∃v,w'.cell? ⟨b,i,none⟩=some v)/\w'.frozen? ⟨b,i,none⟩=false)/\
     ∀i (hi:i<es.length) j (hj:j<es[i].length),∃u,w'.cell? ⟨b,o+i*sz+j,none⟩=some u/\u.oneCell'=true/\VR yMH S' w' es[i][j] u):=by
  rintro e' fr st ⟨mu,S',h1,h2,h3,h4,h5,h6,h7⟩ ⟨-,hend⟩
  refine⟨h6,?_⟩
  rcases hend with ⟨b,cap,n,k,hr,hk,hnl,rfl,hlk,rfl⟩ | ⟨rfl,hr⟩
  ·obtain⟨v,hv,hrun⟩:=yIv h1 h3 hr
   obtain⟨L,A,c,hL,rfl,hn1,hc,hA⟩:=hv.bs_inv
   have hm:=hv.bs_reg hL
   obtain⟨L',hL',hbr,hg⟩:=h1.loc b k hk
   rw[hL] at hL';injection hL' with hL';subst hL'
   have hln:(k.es.take n).length=n:=by rw[List.length_take];omega
   refine⟨_,hrun,A,c,S',by rw[hln],by omega,h5.below.below,h5.sub,h5.new,h1.sb,?_⟩
   rcases hA with hA | ⟨rfl,hlim⟩
   ·left
    exact⟨List.eq_nil_of_length_eq_zero (by omega),hA⟩
   ·by_cases hc0:c=0
    ·left
     exact⟨List.eq_nil_of_length_eq_zero (by omega),hc0⟩
    ·right
     have hg:=hg (.inl (by omega))
     have hle:c*k.sz<=L.lim*L.sz:=by rw[hbr.sz];exact Nat.mul_le_mul_right _ (by omega)
     have e0:L.o+0*L.sz=L.o:=by omega
     rw[e0]
     refine⟨L.g,L.o,rfl,hg.1,hg.2,fun x q1 q2=>h1.exS b k L hk hL L.g x ⟨rfl,by rw[hlk];omega,by omega⟩,fun x q1 q2=>hbr.room x (by rw[hlk];omega) (by omega),fun i hi j hj=>?_⟩
     have hi':i<k.es.length:=by omega
     have he:(k.es.take n)[i]=k.es[i]:=List.getElem_take
     have hj':j<k.es[i].length:=by rw[←he];exact hj
     obtain⟨u,u1,u2,u3⟩:=hbr.cell hm i hi' j hj'
     have he2:(k.es.take n)[i][j]=k.es[i][j]:=by simp only[he]
     exact⟨u,by rw[hbr.sz];exact u1,u2,by
      have hp:=hpl _ (List.getElem_mem hi) _ (List.getElem_mem hj)
      rw[he2] at hp ⊢
      exact u3.plain hp⟩
  ·obtain⟨v,hv,hrun⟩:=yIv h1 h3 hr
   cases hv with
   | sl0 _ A c hfl=>exact⟨_,hrun,A,c,S',rfl,Nat.zero_le _,h5.below.below,h5.sub,h5.new,h1.sb,.inl ⟨rfl,hfl rfl⟩⟩
   | sl1 _ _ g' o c sz' vals hne=>exact absurd hne (by simp)
 cases e with
 | normal=>obtain⟨fr,st,k1,k2⟩:=he;exact fin _ fr st k1 k2
 | ret=>obtain⟨fr,st,k1,k2⟩:=he;exact fin _ fr st k1 k2
 | exit i=>obtain⟨fr,st,k1,k2⟩:=he;rcases k2.1 with h | h <;> cases h
 | _=>exact he.elim
def xNM(P:Program)(sp:Spk α)(L n:Nat)(lt:LT α)(g:FuncId)(args:List V)(K:V->Option α):Option α:=runT P (yGU P sp L n).1 (yGU P sp L n).2 L lt g args K
def xIx(P:Program)(sp:Spk α)(L n:Nat)(x:Code)(t:LT α)(live:List (Nat×Md))(outs:AEx->List (Nat×Md))(vs:List AV)(Kn:List AV->Option α)(Ke:AEx->List AV->Option α):Option α:=
 yLS P (yGU P sp L n).1 (yGU P sp L n).2 L x t live outs vs Kn Ke
end
def xNI{R:Type}(cr:Cd R)(v:V):Option R:=bif cr.ok v then some (cr.dec v) else none
theorem xLa{P:Program}(hm:P.follows .mixedOrders=true){A R:Type}{sp:Spk R}(hs:yLI P sp){L n:Nat}{lt:LT R}{g:FuncId}{fn:Func}{x:Code}(hf:P.funcs[g]?=some fn)(hb:fn.body=some x)(hlt:yRM P fn.ntmps x lt)(hld:yHi x lt)
  {ca:Ca A} {cr:Cd R} {f:A->Option R} (he:∀a,xNM P sp L n lt g (ca.enc a) (xNI cr)=f a):Ctr P g false ca cr f:=by
 intro a r hp h
 obtain⟨h1,h2,h3,h4⟩:=yM3 hm hs (L:=L) n
 obtain⟨v,k1,k2,k3⟩:=xKt hm h1 h2 h3 h4 hf hb hlt hld hp ((he a).trans h)
 obtain⟨k4,k5⟩:=yAL (show(bif cr.ok v then some (cr.dec v) else none)=some r from k3)
 injection k5 with k5
 have e:cr.enc r=v:=by rw[←k5];exact cr.h v k4
 rw[e]
 exact⟨k1,k2,fun h=>by cases h⟩
structure Ce (α:Type) where
 enc:α->AV0
 dec:AV0->α
 ok:AV0->Bool
 h:∀v,ok v=true->enc (dec v)=v
def ceP{α:Type}(c:Cd α):Ce α:=⟨fun a=> .p (c.enc a),fun v=>match v with | .p y=>c.dec y | _=>c.dec .undef,fun v=>match v with | .p y=>c.ok y | _=>false,fun v h=>by
 cases v with
 | p y=>exact congrArg AV0.p (c.h y h)
 | a es sz=>cases h
 | w es sz=>cases h⟩
def ceA(sz:Nat):Ce (List (List V)):=⟨fun es=> .a es sz,fun v=>match v with | .a es _=>es | _=> [],fun v=>match v with | .a _ s=>Nat.beq s sz | _=>false,fun v h=>by
 cases v with
 | p y=>cases h
 | a es s=>exact congrArg (AV0.a es) (Nat.eq_of_beq_eq_true h).symm
 | w es s=>cases h⟩
def ceW(sz:Nat):Ce (List (List V)):=⟨fun es=> .w es sz,fun v=>match v with | .w es _=>es | _=> [],fun v=>match v with | .w _ s=>Nat.beq s sz | _=>false,fun v h=>by
 cases v with
 | p y=>cases h
 | a es s=>cases h
 | w es s=>exact congrArg (AV0.w es) (Nat.eq_of_beq_eq_true h).symm⟩
structure Cz (α:Type) where
 enc:α->List AV0
 dec:List AV0->α
 ok:List AV0->Bool
 h:∀v,ok v=true->enc (dec v)=v
def czN:Cz Unit:=⟨fun _=> [],fun _=>(),fun l=>match l with | []=>true | _=>false,fun l h=>by cases l <;> first | rfl | cases h⟩
def czC{α β:Type}(c:Ce α)(d:Cz β):Cz (α×β):=⟨fun a=>c.enc a.1::d.enc a.2,fun l=>(c.dec (l.headD (.p .undef)),d.dec l.tail),fun l=>match l with | []=>false | x::l=>c.ok x&&d.ok l,fun l h=>by
 cases l with
 | nil=>cases h
 | cons x l=>
   obtain⟨h1,h2⟩:=yBA h
   show c.enc (c.dec x)::d.enc (d.dec l)=_
   rw[c.h x h1,d.h l h2]⟩
def pL:AV0->V
 | .p y=>y
 | _=> .undef
def isP:AV0->Bool
 | .p _=>true
 | _=>false
def czA{α:Type}(c:Ca α):Cz α:=⟨fun a=>(c.enc a).map .p,fun l=>c.dec (l.map pL),fun l=>l.all isP&&c.ok (l.map pL),fun l h=>by
 obtain⟨h1,h2⟩:=yBA h
 show(c.enc (c.dec (l.map pL))).map AV0.p=l
 rw[c.h _ h2,List.map_map]
 conv=>rhs;rw[←List.map_id l]
 refine List.map_congr_left fun x hx=>?_
 have:=List.all_eq_true.1 h1 x hx
 cases x with
 | p y=>rfl
 | a es sz=>cases this
 | w es sz=>cases this⟩
structure Cx (α:Type) where
 enc:α->AV
 dec:AV->α
 ok:AV->Bool
 h:∀v,ok v=true->enc (dec v)=v
def cxV{α:Type}(c:Ce α):Cx α:=⟨fun a=> .v (c.enc a),fun v=>match v with | .v y=>c.dec y | _=>c.dec (.p .undef),fun v=>match v with | .v y=>c.ok y | _=>false,fun v h=>by
 cases v with
 | v y=>exact congrArg AV.v (c.h y h)
 | o cs sz=>cases h
 | r cs sz=>cases h
 | q es sz=>cases h⟩
def cxO{α:Type}(c:Cz α)(sz:Nat):Cx α:=⟨fun a=> .o (c.enc a) sz,fun v=>match v with | .o cs _=>c.dec cs | _=>c.dec [],fun v=>match v with | .o cs s=>Nat.beq s sz&&c.ok cs | _=>false,fun v h=>by
 cases v with
 | v y=>cases h
 | r cs s=>cases h
 | q es s=>cases h
 | o cs s=>
   obtain⟨h1,h2⟩:=yBA h
   show AV.o (c.enc (c.dec cs)) sz=_
   rw[c.h cs h2,Nat.eq_of_beq_eq_true h1]⟩
def cxR{α:Type}(c:Cz α)(sz:Nat):Cx α:=⟨fun a=> .r (c.enc a) sz,fun v=>match v with | .r cs _=>c.dec cs | _=>c.dec [],fun v=>match v with | .r cs s=>Nat.beq s sz&&c.ok cs | _=>false,fun v h=>by
 cases v with
 | v y=>cases h
 | o cs s=>cases h
 | q es s=>cases h
 | r cs s=>
   obtain⟨h1,h2⟩:=yBA h
   show AV.r (c.enc (c.dec cs)) sz=_
   rw[c.h cs h2,Nat.eq_of_beq_eq_true h1]⟩
def cxQ(sz:Nat):Cx (List (List V)):=⟨fun a=> .q a sz,fun v=>match v with | .q es _=>es | _=> [],fun v=>match v with | .q _ s=>Nat.beq s sz | _=>false,fun v h=>by
 cases v with
 | v y=>cases h
 | o cs s=>cases h
 | r cs s=>cases h
 | q es s=>exact congrArg (AV.q es) (Nat.eq_of_beq_eq_true h).symm⟩
structure Cl (α:Type) where
 enc:α->List AV
 dec:List AV->α
 ok:List AV->Bool
 h:∀v,ok v=true->enc (dec v)=v
def clN:Cl Unit:=⟨fun _=> [],fun _=>(),fun l=>match l with | []=>true | _=>false,fun l h=>by cases l <;> first | rfl | cases h⟩
def clC{α β:Type}(c:Cx α)(d:Cl β):Cl (α×β):=⟨fun a=>c.enc a.1::d.enc a.2,fun l=>(c.dec (l.headD (.v (.p .undef))),d.dec l.tail),fun l=>match l with | []=>false | x::l=>c.ok x&&d.ok l,fun l h=>by
 cases l with
 | nil=>cases h
 | cons x l=>
   obtain⟨h1,h2⟩:=yBA h
   show c.enc (c.dec x)::d.enc (d.dec l)=_
   rw[c.h x h1,d.h l h2]⟩
section
variable {α σ A B C:Type}
def yBL(st:σ->(σ->Option α)->(A->Option α)->Option α):Nat->σ->(A->Option α)->Option α
 | 0,_,_=>none
 | m+1,s,ka=>st s (fun s'=>yBL st m s' ka) ka
def yAe(st:σ->(σ->Option α)->(A->Option α)->(B->Option α)->Option α):Nat->σ->(A->Option α)->(B->Option α)->Option α
 | 0,_,_,_=>none
 | m+1,s,ka,kb=>st s (fun s'=>yAe st m s' ka kb) ka kb
def xMI(cl:Cl σ)(ea:AEx)(ca:Cl A)(F:σ->(A->Option α)->Option α):xJo α:=fun vs K=>bif cl.ok vs then F (cl.dec vs) (fun a=>K ea (ca.enc a)) else none
def xMJ(cl:Cl σ)(ea:AEx)(ca:Cl A)(eb:AEx)(cb:Cl B)(F:σ->(A->Option α)->(B->Option α)->Option α):xJo α:=fun vs K=>bif cl.ok vs then F (cl.dec vs) (fun a=>K ea (ca.enc a)) (fun b=>K eb (cb.enc b)) else none
theorem xJO{P:Program}{nt:Nat}{x:Code}{live:List (Nat×Md)}{outs:AEx->List (Nat×Md)}{cl:Cl σ}{R F:xJo α}(hF:∀vs K,cl.ok vs=true->F vs K=R vs K)(hF0:∀vs K,cl.ok vs=false->F vs K=none)(h:LOk P nt x ⟨live,outs,R⟩/\yZp ⟨live,outs,R⟩):LOk P nt x ⟨live,outs,F⟩/\yZp ⟨live,outs,F⟩:=by
 have key:∀vs K r,F vs K=some r->cl.ok vs=true:=fun vs K r h=>by
  cases hc:cl.ok vs with
  | true=>rfl
  | false=>rw[hF0 vs K hc] at h;cases h
 refine⟨fun vs K r hp hr=>?_,fun vs K r hr=>?_⟩
 ·have hr:F vs K=some r:=hr
  have hk:=key vs K r hr
  rw[hF vs K hk] at hr
  obtain⟨e,vs',h1,h2,h3,h4⟩:=h.1 vs K r hp hr
  exact⟨e,vs',fun K'=>(hF vs K' hk).trans (h1 K'),h2,h3,h4⟩
 ·have hr:F vs K=some r:=hr
  have hk:=key vs K r hr
  rw[hF vs K hk] at hr
  obtain⟨e,vs',h1,h2⟩:=h.2 vs K r hr
  exact⟨e,vs',fun K'=>(hF vs K' hk).trans (h1 K'),h2⟩
theorem xLs{P:Program}(hm:P.follows .mixedOrders=true){sp:Spk α}(hs:yLI P sp){L n nt:Nat}{x:Code}{t:LT α}{live:List (Nat×Md)}{outs:AEx->List (Nat×Md)}(hl:okL live)(ht:yRM P nt x t)(hd:yHi x t)(ho:okC nt x=true)
  {cl:Cl σ} {ea:AEx} {ca:Cl A} {st:σ->(σ->Option α)->(A->Option α)->Option α} (he:∀s Kn Ke,xIx P sp L n x t live outs (cl.enc s) Kn Ke=st s (fun s'=>Kn (cl.enc s')) (fun a=>Ke ea (ca.enc a))) (m:Nat):
  LOk P nt x ⟨live,outs,xMI cl ea ca (yBL st m)⟩/\yZp ⟨live,outs,xMI cl ea ca (yBL st m)⟩:=by
 obtain⟨h1,h2,h3,h4⟩:=yM3 hm hs (L:=L) n
 refine xJO (cl:=cl) (fun vs K hk=>?_) (fun vs K hk=>by unfold xMI;rw[hk];rfl) (xHN (L:=L) hm h1 h2 h3 h4 hl ht hd ho m)
 unfold xMI
 rw[hk,cond_true]
 have:∀(m:Nat) (s:σ),yBL st m s (fun a=>K ea (ca.enc a))=xFs (yLS P (yGU P sp L n).1 (yGU P sp L n).2 L x t live outs) m (cl.enc s) K:=by
  intro m
  induction m with
  | zero=>intro s;rfl
  | succ m ih=>
    intro s
    show st s (fun s'=>yBL st m s' (fun a=>K ea (ca.enc a))) (fun a=>K ea (ca.enc a))=yLS P (yGU P sp L n).1 (yGU P sp L n).2 L x t live outs (cl.enc s) _ K
    rw[show yLS P (yGU P sp L n).1 (yGU P sp L n).2 L x t live outs (cl.enc s) (fun vs'=>xFs (yLS P (yGU P sp L n).1 (yGU P sp L n).2 L x t live outs) m vs' K) K=_ from he s _ K]
    congr 1
    funext s'
    exact ih s'
 rw[this,cl.h vs hk]
theorem xLt{P:Program}(hm:P.follows .mixedOrders=true){sp:Spk α}(hs:yLI P sp){L n nt:Nat}{x:Code}{t:LT α}{live:List (Nat×Md)}{outs:AEx->List (Nat×Md)}(hl:okL live)(ht:yRM P nt x t)(hd:yHi x t)(ho:okC nt x=true)
  {cl:Cl σ} {ea eb:AEx} {ca:Cl A} {cb:Cl B} {st:σ->(σ->Option α)->(A->Option α)->(B->Option α)->Option α} (he:∀s Kn Ke,xIx P sp L n x t live outs (cl.enc s) Kn Ke=st s (fun s'=>Kn (cl.enc s')) (fun a=>Ke ea (ca.enc a)) (fun b=>Ke eb (cb.enc b))) (m:Nat):
  LOk P nt x ⟨live,outs,xMJ cl ea ca eb cb (yAe st m)⟩/\yZp ⟨live,outs,xMJ cl ea ca eb cb (yAe st m)⟩:=by
 obtain⟨h1,h2,h3,h4⟩:=yM3 hm hs (L:=L) n
 refine xJO (cl:=cl) (fun vs K hk=>?_) (fun vs K hk=>by unfold xMJ;rw[hk];rfl) (xHN (L:=L) hm h1 h2 h3 h4 hl ht hd ho m)
 unfold xMJ
 rw[hk,cond_true]
 have:∀(m:Nat) (s:σ),yAe st m s (fun a=>K ea (ca.enc a)) (fun b=>K eb (cb.enc b))=xFs (yLS P (yGU P sp L n).1 (yGU P sp L n).2 L x t live outs) m (cl.enc s) K:=by
  intro m
  induction m with
  | zero=>intro s;rfl
  | succ m ih=>
    intro s
    show st s (fun s'=>yAe st m s' (fun a=>K ea (ca.enc a)) (fun b=>K eb (cb.enc b))) (fun a=>K ea (ca.enc a)) (fun b=>K eb (cb.enc b))=yLS P (yGU P sp L n).1 (yGU P sp L n).2 L x t live outs (cl.enc s) _ K
    rw[show yLS P (yGU P sp L n).1 (yGU P sp L n).2 L x t live outs (cl.enc s) (fun vs'=>xFs (yLS P (yGU P sp L n).1 (yGU P sp L n).2 L x t live outs) m vs' K) K=_ from he s _ K]
    congr 1
    funext s'
    exact ih s'
 rw[this,cl.h vs hk]
end
section
variable {α σ A B C:Type}
def xK2(P:Program)(sp:Spk α)(L n:Nat)(x:Code)(t:LT α)(live:List (Nat×Md))(outs:AEx->List (Nat×Md))(vs:List AV)(Ke:AEx->List AV->Option α):Option α:=
 yZd P (yGU P sp L n).1 (yGU P sp L n).2 L x t live outs vs Ke
theorem xL8{P:Program}{nt:Nat}{x:Code}{live:List (Nat×Md)}{outs:AEx->List (Nat×Md)}{cl:Cl σ}{R F:xJo α}(hF:∀vs K,cl.ok vs=true->F vs K=R vs K)(hF0:∀vs K,cl.ok vs=false->F vs K=none)(h:POk P nt x ⟨live,outs,R⟩/\yZp ⟨live,outs,R⟩):POk P nt x ⟨live,outs,F⟩/\yZp ⟨live,outs,F⟩:=by
 have key:∀vs K r,F vs K=some r->cl.ok vs=true:=fun vs K r h=>by
  cases hc:cl.ok vs with
  | true=>rfl
  | false=>rw[hF0 vs K hc] at h;cases h
 refine⟨fun vs K r hp hr=>?_,fun vs K r hr=>?_⟩
 ·have hr:F vs K=some r:=hr
  have hk:=key vs K r hr
  rw[hF vs K hk] at hr
  obtain⟨e,vs',h1,h2,h3,h4⟩:=h.1 vs K r hp hr
  exact⟨e,vs',fun K'=>(hF vs K' hk).trans (h1 K'),h2,h3,h4⟩
 ·have hr:F vs K=some r:=hr
  have hk:=key vs K r hr
  rw[hF vs K hk] at hr
  obtain⟨e,vs',h1,h2⟩:=h.2 vs K r hr
  exact⟨e,vs',fun K'=>(hF vs K' hk).trans (h1 K'),h2⟩
theorem xL9{P:Program}(hm:P.follows .mixedOrders=true){sp:Spk α}(hs:yLI P sp){L n nt:Nat}{x:Code}{t:LT α}{live:List (Nat×Md)}{outs:AEx->List (Nat×Md)}(hl:okL live)(ht:yRM P nt x t)(hd:yHi x t)(ho:okC nt x=true)
  {cl:Cl σ} {F:σ->(AEx->List AV->Option α)->Option α} (he:∀s Ke,xK2 P sp L n x t live outs (cl.enc s) Ke=F s Ke) {R:xJo α} (hR:∀vs K,R vs K=bif cl.ok vs then F (cl.dec vs) K else none):
  POk P nt x ⟨live,outs,R⟩/\yZp ⟨live,outs,R⟩:=by
 obtain⟨h1,h2,h3,h4⟩:=yM3 hm hs (L:=L) n
 refine xL8 (cl:=cl) (fun vs K hk=>?_) (fun vs K hk=>by rw[hR,hk];rfl) (xIw (L:=L) hm h1 h2 h3 h4 hl ht hd ho)
 rw[hR,hk,cond_true,←he,cl.h vs hk];rfl
end
def noS:ByteArray:=⟨#[]⟩
def yDK(mx:Bool)(x y:Int):Int:=if(if mx then y>x else y<x) then y else x
def yI2(es:List (List V)):ByteArray:=⟨(((bytesOf es).getD []).map fun n=>UInt8.ofNat n.toNat).toArray⟩
def yCm(s:ByteArray):List (List V):=s.data.toList.map fun c=> [.int .u8 (c.toNat:Int)]
def yLJ(f:Func):Code:=f.body.getD .skip
def xBt:Code->List Nat->Code
 | c,[]=>c
 | .seq x _,0::r=>xBt x r
 | .seq _ y,1::r=>xBt y r
 | .cond _ x _,0::r=>xBt x r
 | .cond _ _ y,1::r=>xBt y r
 | .block _ x,0::r=>xBt x r
 | .scope x,0::r=>xBt x r
 | .loop x,0::r=>xBt x r
 | c,_=>c
def xAe(f:Func)(p:List Nat):Code:=match xBt (yLJ f) p with
 | .loop x=>x
 | c=>c
theorem xL0{l:List (Nat×Md)}(h:(l.all fun p=>Nat.ble p.1 4000)=true):okL l:=fun p hp=>Nat.le_of_ble_eq_true (List.all_eq_true.1 h p hp)
theorem ltN{α:Type}{P:Program}{nt:Nat}(x:Code):yRM P nt x (.no:LT α):=by cases x <;> trivial
theorem ltS{α:Type}{P:Program}{nt:Nat}{x y:Code}{l r:LT α}(h1:yRM P nt x l)(h2:yRM P nt y r):yRM P nt (.seq x y) (.two l r):=⟨h1,h2⟩
theorem ltQ{α:Type}{P:Program}{nt:Nat}{c:Operand}{x y:Code}{l r:LT α}(h1:yRM P nt x l)(h2:yRM P nt y r):yRM P nt (.cond c x y) (.two l r):=⟨h1,h2⟩
theorem ltL{α:Type}{P:Program}{nt:Nat}{x:Code}{s:LSpec α}(h1:LOk P nt x s):yRM P nt (.loop x) (.lp s):=h1
theorem ldN{α:Type}(x:Code):yHi x (.no:LT α):=by cases x <;> trivial
theorem ldS{α:Type}{x y:Code}{l r:LT α}(h1:yHi x l)(h2:yHi y r):yHi (.seq x y) (.two l r):=⟨h1,h2⟩
theorem ldQ{α:Type}{c:Operand}{x y:Code}{l r:LT α}(h1:yHi x l)(h2:yHi y r):yHi (.cond c x y) (.two l r):=⟨h1,h2⟩
theorem ptL{α:Type}{P:Program}{nt:Nat}{x:Code}{s:LSpec α}(h1:POk P nt x s):yRM P nt x (.pt s):=by rw[ltP];exact h1
theorem pdL{α:Type}{x:Code}{s:LSpec α}(h1:yZp s):yHi x (.pt s):=by rw[ldP];exact h1
theorem ldL{α:Type}{x:Code}{s:LSpec α}(h1:yZp s):yHi (.loop x) (.lp s):=h1
end Go.Proofs.YtakljpcmbpaeaaaGreat
