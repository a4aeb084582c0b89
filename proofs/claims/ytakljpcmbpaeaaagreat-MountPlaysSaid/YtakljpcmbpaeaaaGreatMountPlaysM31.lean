/- Codecs; known functions and loops by typed functions; contracts out of equations. -/
import Derived.Test.YtakljpcmbpaeaaaGreatMountPlaysM30
set_option linter.unusedSimpArgs false
set_option linter.unusedVariables false
namespace Go.Proofs.YtakljpcmbpaeaaaGreat
open Go.RowKit
def yAB{α β:Type}(o:Option β)(f:β->Option α):Option α:=match o with
 | none=>none
 | some b=>f b
theorem yQp{α β:Type}{o:Option β}{f:β->Option α}{r:α}(h:yAB o f=some r):∃b,o=some b/\f b=some r:=by
 cases o with
 | none=>cases h
 | some b=>exact⟨b,rfl,h⟩
structure Cd (α:Type) where
 enc:α->V
 dec:V->α
 ok:V->Bool
 h:∀v,ok v=true->enc (dec v)=v
def cdK{α:Type}(k:Kc)(mk:α->V)(of:V->α)(hk:∀v,mk (of v)=etaC k v):Cd α:=⟨mk,of,isC k,fun v hv=>(hk v).trans (xMp hv)⟩
def cdI(k:IntKind):Cd Int:=cdK (.i k) (.int k) asI fun _=>rfl
def cdB:Cd Bool:=cdK .b .bool asB fun _=>rfl
def cdS:Cd ByteArray:=cdK .s .str asS fun _=>rfl
def cdR:Cd (List (List V)):=cdK .m (fun es=> .sl es false) asR fun _=>rfl
structure Ca (α:Type) where
 enc:α->List V
 dec:List V->α
 ok:List V->Bool
 h:∀v,ok v=true->enc (dec v)=v
def caN:Ca Unit:=⟨fun _=> [],fun _=>(),fun l=>match l with | []=>true | _=>false,fun l h=>by cases l <;> first | rfl | cases h⟩
def caC{α β:Type}(c:Cd α)(d:Ca β):Ca (α×β):=⟨fun a=>c.enc a.1::d.enc a.2,fun l=>(c.dec (l.headD .undef),d.dec l.tail),fun l=>match l with | []=>false | x::l=>c.ok x&&d.ok l,fun l h=>by
 cases l with
 | nil=>cases h
 | cons x l=>
   obtain⟨h1,h2⟩:=yBE h
   show c.enc (c.dec x)::d.enc (d.dec l)=_
   rw[c.h x h1,d.h l h2]⟩
def xUM:V->List V
 | .tup l=>l
 | _=> []
def xUG:V->List V
 | .agg l=>l
 | _=> []
def tpL:V->List V
 | .tp l=>l
 | _=> []
def cdT{α:Type}(d:Ca α):Cd α:=⟨fun a=> .tup (d.enc a),fun v=>d.dec (xUM v),fun v=>match v with | .tup l=>d.ok l | _=>false,fun v h=>by
 cases v <;> first | (cases h;done) | (rename_i l;exact congrArg V.tup (d.h l h))⟩
def cdP{α:Type}(d:Ca α):Cd α:=⟨fun a=> .tp (d.enc a),fun v=>d.dec (tpL v),fun v=>match v with | .tp l=>d.ok l | _=>false,fun v h=>by
 cases v <;> first | (cases h;done) | (rename_i l;exact congrArg V.tp (d.h l h))⟩
def xSM:V->List V
 | .fn _ _ l=>l
 | _=> []
def cdF{α:Type}(i:Nat)(d:Ca α):Cd α:=⟨fun a=> .fn (.func i) [] (d.enc a),fun v=>d.dec (xSM v),fun v=>match v with | .fn (.func j) [] l=>Nat.beq j i&&d.ok l | _=>false,fun v h=>by
 cases v with
 | fn f first l=>
   cases f with
   | func j=>
     cases first with
     | nil=>
       obtain⟨h1,h2⟩:=yBE h
       have h1:=Nat.eq_of_beq_eq_true h1
       subst h1
       exact congrArg (V.fn (.func j) []) (d.h l h2)
     | cons _ _=>cases h
   | _=>cases h
 | _=>cases h⟩
structure Cr (α:Type) where
 enc:α->List (List V)
 dec:List (List V)->α
 ok:List (List V)->Bool
 h:∀v,ok v=true->enc (dec v)=v
def xTH:Cr Unit:=⟨fun _=> [],fun _=>(),fun l=>match l with | []=>true | _=>false,fun l h=>by cases l <;> first | rfl | cases h⟩
def xTG{α β:Type}(c:Cd α)(d:Cr β):Cr (α×β):=⟨fun a=> [c.enc a.1]::d.enc a.2,fun l=>(c.dec ((l.headD []).headD .undef),d.dec l.tail),fun l=>match l with | [x]::l=>c.ok x&&d.ok l | _=>false,fun l h=>by
 cases l with
 | nil=>cases h
 | cons r l=>
   cases r with
   | nil=>cases h
   | cons x r=>
     cases r with
     | cons _ _=>cases h
     | nil=>
       obtain⟨h1,h2⟩:=yBE h
       show [c.enc (c.dec x)]::d.enc (d.dec l)=_
       rw[c.h x h1,d.h l h2]⟩
def cdL{α:Type}(d:Cr α):Cd α:=⟨fun a=> .sl (d.enc a) false,fun v=>d.dec (asR v),fun v=>match v with | .sl l f=> !f&&d.ok l | _=>false,fun v h=>by
 cases v with
 | sl l f=>
   obtain⟨h1,h2⟩:=yBE h
   cases f with
   | true=>cases h1
   | false=>exact congrArg (V.sl · false) (d.h l h2)
 | _=>cases h⟩
def cdA{α:Type}(ks:List Kc)(cs:α->List V)(of:List V->α)(h:∀l,cs (of l)=etaSeg ks [l] 0 0):Cd α:=⟨fun a=> .agg (cs a),fun v=>of (xUG v),fun v=>match v with | .agg l=>rowIs ks [l] 0 | _=>false,fun v hv=>by
 cases v <;> first | (cases hv;done) | (
  rename_i l
  have:=(xFY hv (by simp)).1
  simp only[List.getElem?_cons_zero,Option.some.injEq] at this
  exact congrArg V.agg ((h l).trans this.symm))⟩
def caA{α:Type}(ks:List Kc)(cs:α->List V)(of:List V->α)(h:∀l,cs (of l)=etaSeg ks [l] 0 0):Ca α:=⟨cs,of,fun l=>rowIs ks [l] 0,fun l hv=>by
 have:=(xFY hv (by simp)).1
 simp only[List.getElem?_cons_zero,Option.some.injEq] at this
 exact(h l).trans this.symm⟩
theorem xIn{P:Program}{g:FuncId}{args:List V}{es:List (List V)}{sz:Nat}(h:xF0 P g args es sz):Con P g args (· = .sl es false):=by
 obtain⟨hc,hrow,hpl,hcon⟩:=h
 refine⟨hc,fun w S vargs hS hv=>(hcon w S vargs hS hv).mono ?_⟩
 rintro e w' ⟨A,c,S',rfl,hlc,hbel,t1,t2,t3,hcase⟩
 rcases hcase with ⟨rfl,rfl⟩ | ⟨b,o,rfl,hb1,hb2,hSx,hroom,hcell⟩
 ·exact⟨_,_,S',rfl,rfl,.sl _ _ (by simp),.sl0 false A 0 (by simp),t1,t2,t3,hbel⟩
 ·refine⟨_,_,fun g i=>S' g i\/(g=b/\o<=i/\i<o+es.length*sz),rfl,rfl,.sl _ _ hpl,?_,fun g i h=> .inl (t1 g i h),fun g i h=>h.elim (t2 g i) fun q=> .inr (by rw[q.1];exact hb1),fun g i h=>h.elim (t3 g i) fun q=>by rw[q.1];exact hb2,hbel⟩
  by_cases h0:es.length=0
  ·have:=List.eq_nil_of_length_eq_zero h0
   subst this
   exact .sl0 false _ c (by simp)
  ·have hch:∃vals:Nat->Nat->Value,∀i (hi:i<es.length) j (hj:j<es[i].length),w'.cell? ⟨b,o+i*sz+j,none⟩=some (vals i j)/\(vals i j).oneCell'=true/\VR yOr (fun g i=>S' g i\/(g=b/\o<=i/\i<o+es.length*sz)) w' es[i][j] (vals i j):=by
     refine⟨fun i j=>(w'.cell? ⟨b,o+i*sz+j,none⟩).getD Go.undef,fun i hi j hj=>?_⟩
     obtain⟨u,h1,h2,h3⟩:=hcell i hi j hj
     have e:(w'.cell? ⟨b,o+i*sz+j,none⟩).getD Go.undef=u:=by rw[h1];rfl
     dsimp only
     rw[e]
     exact⟨h1,h2,h3.mono (fun _ _ h=>h) (fun _ _ h=> .inl h) (fun _ _ _=>rfl)⟩
   obtain⟨vals,hvals⟩:=hch
   refine .sl1 es false b o c sz vals (by omega) hlc (by simp) hrow (fun i j hi hj=> .inr ⟨rfl,by omega,?_⟩) (fun i j hi hj=>(hvals i hi j (by rw[hrow i hi];exact hj)).1) (fun i j hi hj=>(hvals i hi j (by rw[hrow i hi];exact hj)).2.1) (fun i hi j hj=>(hvals i hi j hj).2.2)
   have h1:(i+1)*sz<=es.length*sz:=Nat.mul_le_mul_right _ (by omega)
   rw[Nat.succ_mul] at h1
   omega
section
variable {α A R:Type}
abbrev Ent(α:Type):=Knd α×(List V->(V->Option α)->Option α)
def spE(fb:Bool)(ca:Ca A)(cr:Cd R)(g:A->Option R):Ent α:=(bif fb then .f else .c,fun args K=>bif ca.ok args then yAB (g (ca.dec args)) fun r=>K (cr.enc r) else none)
def Ctr(P:Program)(i:FuncId)(fb:Bool)(ca:Ca A)(cr:Cd R)(g:A->Option R):Prop:=
 ∀a r,(∀y∈ca.enc a,Plain y)->g a=some r->Con P i (ca.enc a) (· = cr.enc r)/\Plain (cr.enc r)/\(fb=true->xTC P i (ca.enc a) (cr.enc r))
theorem Ctr.ent{P:Program}{i:FuncId}{fb:Bool}{ca:Ca A}{cr:Cd R}{g:A->Option R}(h:Ctr P i fb ca cr g):yS5 P i (spE (α:=α) fb ca cr g):=by
 refine⟨fun f q=>(by cases fb <;> cases q),fun args K r hr=>?_⟩
 obtain⟨h1,h2⟩:=yAN hr
 obtain⟨b,h3,h4⟩:=yQp h2
 refine⟨cr.enc b,fun K'=>?_,fun hp=>?_⟩
 ·show(bif ca.ok args then yAB (g (ca.dec args)) fun r=>K' (cr.enc r) else none)=_
  rw[h1,h3];rfl
 ·have e:=ca.h args h1
  obtain⟨k1,k2,k3⟩:=h (ca.dec args) b (by rw[e];exact hp) h3
  rw[e] at k1 k3
  exact⟨k1,k2,fun q=>k3 (by cases fb with | true=>rfl | false=>cases q),fun sz q=>by cases fb <;> cases q⟩
def spN(sz:Nat)(ca:Ca A)(g:A->Option (List (List V))):Ent α:=(.n sz,fun args K=>bif ca.ok args then yAB (g (ca.dec args)) fun r=>K (.sl r false) else none)
def xR3(P:Program)(i:FuncId)(sz:Nat)(ca:Ca A)(g:A->Option (List (List V))):Prop:=
 ∀a r,(∀y∈ca.enc a,Plain y)->g a=some r->xF0 P i (ca.enc a) r sz
theorem xR3.ent{P:Program}{i:FuncId}{sz:Nat}{ca:Ca A}{g:A->Option (List (List V))}(h:xR3 P i sz ca g):yS5 P i (spN (α:=α) sz ca g):=by
 refine⟨fun f q=>(by cases q),fun args K r hr=>?_⟩
 obtain⟨h1,h2⟩:=yAN hr
 obtain⟨b,h3,h4⟩:=yQp h2
 refine⟨.sl b false,fun K'=>?_,fun hp=>?_⟩
 ·show(bif ca.ok args then yAB (g (ca.dec args)) fun r=>K' (.sl r false) else none)=_
  rw[h1,h3];rfl
 ·have e:=ca.h args h1
  have hN:=h (ca.dec args) b (by rw[e];exact hp) h3
  rw[e] at hN
  refine⟨xIn hN,.sl _ _ hN.2.2.1,fun q=>(by cases q),fun s q=>?_⟩
  have q:some sz=some s:=q
  injection q with q
  subst q
  exact hN
def xTI:V->Nat
 | .fn (.func j) _ _=>j
 | _=>0
def xRk:List (Nat×Ent α)->Nat->Option (Ent α)
 | [],_=>none
 | p::l,g=>bif Nat.beq g p.1 then some p.2 else xRk l g
def spF(j:Nat)(l:List (Nat×Ent α)):Ent α:=(.c,fun args K=>match xRk l (xTI ((args[j]?).getD .undef)) with
 | none=>none
 | some s=>s.2 args K)
def xOg(P:Program)(i:FuncId)(l:List (Nat×Ent α)):Prop:=∀c s,xRk l c=some s->yS5 P i s
theorem yOD{P:Program}{i:FuncId}:xOg P i ([]:List (Nat×Ent α)):=fun c s h=>by cases h
theorem yIo{P:Program}{i:FuncId}{c:Nat}{s:Ent α}{l:List (Nat×Ent α)}(hs:yS5 P i s)(hl:xOg P i l):xOg P i ((c,s)::l):=fun c' s' h=>by
 have h:(bif Nat.beq c' c then some s else xRk l c')=some s':=h
 by_cases he:c'=c
 ·rw[ySo he,cond_true,Option.some.injEq] at h
  subst h
  exact hs
 ·rw[ySn he,cond_false] at h
  exact hl c' s' h
theorem ySt{P:Program}{i:FuncId}{j:Nat}{l:List (Nat×Ent α)}(hl:xOg P i l):yS5 P i (spF j l):=by
 refine⟨fun f q=>(by cases q),fun args K r hr=>?_⟩
 have hr:(match xRk l (xTI ((args[j]?).getD .undef)) with
  | none=>none
  | some s=>s.2 args K)=some r:=hr
 cases hs:xRk l (xTI ((args[j]?).getD .undef)) with
 | none=>rw[hs] at hr;cases hr
 | some s=>
   rw[hs] at hr
   obtain⟨x,h1,h2⟩:=(hl _ _ hs).2 args K r hr
   refine⟨x,fun K'=>?_,fun hp=>⟨(h2 hp).1,(h2 hp).2.1,fun q=>(by cases q),fun sz q=>(by cases q)⟩⟩
   show(match xRk l (xTI ((args[j]?).getD .undef)) with
   | none=>none
   | some s=>s.2 args K')=_
   rw[hs]
   exact h1 K'
def spI(f:ICf α):Ent α:=(.i f,fun _ _=>none)
theorem xKp{P:Program}{i:FuncId}{f:ICf α}(h:xRv P i f):yS5 P i (spI f):=
 ⟨fun g q=>by injection q with q;subst q;exact h,fun args K r hr=>by cases hr⟩
def yYR:List (Nat×Ent α)->Spk α
 | [],_=>none
 | p::l,g=>bif Nat.beq g p.1 then some p.2 else yYR l g
theorem xPl{P:Program}:yLc P (yYR ([]:List (Nat×Ent α))):=fun g s h=>by cases h
theorem xOL{P:Program}{i:Nat}{s:Ent α}{l:List (Nat×Ent α)}(hs:yS5 P i s)(hl:yLc P (yYR l)):yLc P (yYR ((i,s)::l)):=fun g s' h=>by
 have h:(bif Nat.beq g i then some s else yYR l g)=some s':=h
 by_cases he:g=i
 ·rw[ySo he,cond_true,Option.some.injEq] at h
  subst h he
  exact hs
 ·rw[ySn he,cond_false] at h
  exact hl g s' h
end
section
variable {α:Type}
theorem xK8{P:Program}{g:FuncId}{fn:Func}{c:Code}{args:List V}{post:V->Prop}(hf:P.funcs[g]?=some fn)(hb:fn.body=some c) (hn:(fn.name== "runtime.NumGoroutine")=false)
  (hl:args.length<=fn.ntmps) (h:AW0 P fn.ntmps c (xQC P fn.results.toList post) (frOf args) ⟨fun _=>none,1⟩):Con P g args post:=by
 refine⟨⟨fn,hf,hn,by rw[hb];rfl⟩,fun w S vargs hS hx=>calls_of_wp hf hb ?_⟩
 have hlv:vargs.length<=fn.ntmps:=by rw[←hx.1];exact hl
 have hA:AR yOr S (fun g=>w.heap.size<=g) w fn.ntmps (frOf args) ⟨fun _=>none,1⟩ {tmps:=vargs.toArray++Array.replicate (fn.ntmps-vargs.toArray.size) Go.undef,defers:= []} w:=
  ⟨yOr,S,.none hS 1,fun _ _=>⟨rfl,rfl⟩,FR.enter hx _,fun _ h=>h,Ev.refl,rfl,yPt hlv⟩
 refine Code.wp_mono (fun e a w' he=>?_) (h yOr _ _ _ _ _ (fun _ _ h=>by cases h) hA)
 have fin:∀fr st,AR yOr S (fun g=>w.heap.size<=g) w fn.ntmps fr st a w'->(∃r0 f r,resV P fr st fn.results.toList=some r0/\Fz st f r0 r/\post r)→
   a.defers= []/\∃v,(results fn a.tmps).run P w'= .ok v w'/\(∃v' r S',Ending.returned v= .returned v'/\post r/\Plain r/\VR yOr S' w' r v'/\(∀g i,S g i->S' g i)/\(∀g i,S' g i->S g i\/w.heap.size<=g)/\(∀g i,S' g i->g<w'.heap.size)/\Below w.heap.size w w'):=by
  rintro fr st ⟨mu,S',h1,h2,h3,h4,h5,h6,h7⟩ ⟨r0,f,r,hr,hz,hp⟩
  obtain⟨v,hv,hrun⟩:=yKh h1 h3 hr
  obtain⟨k1,k2⟩:=hz.sound (S':=yFE mu S' st f) (mu':=yOr) h1 hv (fun _ _ h=> .inl h) (fun b k L hk hL hm i q1 q2=> .inr ⟨b,k,L,hk,hL,hm,rfl,q1,q2⟩)
  refine⟨h6,v,hrun,v,r,_,rfl,hp,k2,k1,fun g i hs=> .inl (h5.sub g i hs),fun g i hs=>?_,(h1.lockF f).sb,h5.below.below⟩
  rcases yH2 h1 f g i hs with hs | hs
  ·exact h5.new g i hs
  ·exact .inr hs
 cases e with
 | normal=>obtain⟨fr,st,k1,k2⟩:=he;exact fin fr st k1 k2
 | ret=>obtain⟨fr,st,k1,k2⟩:=he;exact fin fr st k1 k2
 | exit i=>obtain⟨fr,st,k1,k2⟩:=he;exact k2.elim
 | _=>exact he.elim
def runT(P:Program)(call:ICk α)(cc:CCk α)(L:Nat)(lt:LT α)(g:FuncId)(args:List V)(K:V->Option α):Option α:=
 match P.funcs[g]? with
 | none=>none
 | some fn=>match fn.body with
   | none=>none
   | some x=>bif(fn.name== "runtime.NumGoroutine") then none else
     bif Nat.ble args.length fn.ntmps&&okC fn.ntmps x&&Nat.ble args.length 4000 then
      codeL P call cc L x lt (frT args 0 .leaf) .leaf 1 fun e T' G' c'=>match e with
       | .exit _=>none
       | _=>match resV P (yBO T') ⟨G'.get,c'⟩ fn.results.toList with
         | none=>none
         | some r=>match frC mny 20 G'.get r with
           | none=>none
           | some p=>yXO p.1 (K p.2) none
     else none
def xLG(P:Program)(rs:List ResultVar)(K:V->Option α)(T':Tr V)(G':Tr Blk')(c':Nat):Option α:=match resV P (yBO T') ⟨G'.get,c'⟩ rs with
 | none=>none
 | some r=>match frC mny 20 G'.get r with
   | none=>none
   | some p=>yXO p.1 (K p.2) none
theorem xGR{P:Program}{rs:List ResultVar}{K:V->Option α}{T':Tr V}{G':Tr Blk'}{c':Nat}{r:α}(hf:PSf (yBO T'))(hg:PSg G'.get)(h:xLG P rs K T' G' c'=some r):
  ∃v,K v=some r/\(∀K':V->Option α,xLG P rs K' T' G' c'=K' v)/\Plain v/\∃r0,resV P (yBO T') ⟨G'.get,c'⟩ rs=some r0/\Fz ⟨G'.get,c'⟩ mny r0 v:=by
 unfold xLG at h
 split at h
 ·cases h
 ·rename_i r0 hr
  split at h
  ·cases h
  ·rename_i p hp
   obtain⟨h1,h2,h3⟩:=yCR h
   obtain⟨k1,k2⟩:=yWI 20 ⟨G'.get,c'⟩ r0 p.1 p.2 hg (xBe hf hg hr) hp h1
   refine⟨p.2,h2,fun K'=>?_,k2,r0,hr,k1⟩
   unfold xLG
   rw[hr]
   dsimp only
   rw[hp]
   exact h3 _
theorem xRd{P:Program}(hm:P.follows .mixedOrders=true){call:ICk α}{cc:CCk α}(hi:xFy P call)(hc:xDj P cc)(di:xF2 call)(dc:xFx cc){L:Nat}{lt:LT α}{g:FuncId}{fn:Func}{x:Code}(hf:P.funcs[g]?=some fn)(hb:fn.body=some x)(hlt:yUh P fn.ntmps x lt)(hld:yIs x lt)
  {args:List V} {K:V->Option α} {r:α} (ha:∀y∈args,Plain y) (h:runT P call cc L lt g args K=some r):∃v,Con P g args (· = v)/\Plain v/\K v=some r:=by
 have hrun:∀K:V->Option α,runT P call cc L lt g args K=bif(fn.name== "runtime.NumGoroutine") then none else
   bif Nat.ble args.length fn.ntmps&&okC fn.ntmps x&&Nat.ble args.length 4000 then
    codeL P call cc L x lt (frT args 0 .leaf) .leaf 1 fun e T' G' c'=>match e with
     | .exit _=>none
     | .normal=>xLG P fn.results.toList K T' G' c'
     | .ret=>xLG P fn.results.toList K T' G' c'
   else none:=fun K=>by
  unfold runT
  rw[hf]
  dsimp only
  rw[hb]
  dsimp only
  have e:(fun(e:AEx) (T':Tr V) (G':Tr Blk') (c':Nat)=>match e with
    | .exit _=>none
    | _=>match resV P (yBO T') ⟨G'.get,c'⟩ fn.results.toList with
      | none=>none
      | some r=>match frC mny 20 G'.get r with
        | none=>none
        | some p=>yXO p.1 (K p.2) none)=(fun(e:AEx) (T':Tr V) (G':Tr Blk') (c':Nat)=>match e with
    | .exit _=>(none:Option α)
    | .normal=>xLG P fn.results.toList K T' G' c'
    | .ret=>xLG P fn.results.toList K T' G' c'):=by
   funext e T' G' c'
   cases e <;> rfl
  rw[←e]
 rw[hrun] at h
 cases hn:(fn.name== "runtime.NumGoroutine") with
 | true=>rw[hn] at h;cases h
 | false=>
 rw[hn,cond_false] at h
 obtain⟨h1,h2⟩:=yAN h
 rw[Bool.and_eq_true,Bool.and_eq_true] at h1
 have hl:args.length<=4000:=Nat.le_of_ble_eq_true h1.2
 have hT:PSf (yBO (frT args 0 .leaf)):=by rw[yLb hl];exact .frOf fun y hy=>(ha y hy).ps
 obtain⟨e,T1,G1,c1,k1,k2⟩:=yQt di dc x lt _ _ _ _ r hld h2
 obtain⟨p1,p2⟩:=k2 hT .leaf
 rw[k1] at h2
 have fin:xLG P fn.results.toList K T1 G1 c1=some r->e= .normal\/e= .ret->∃v,Con P g args (· = v)/\Plain v/\K v=some r:=fun h2 he=>by
  obtain⟨v,q1,q2,q3,-⟩:=xGR p1 p2 h2
  refine⟨v,?_,q3,q1⟩
  let K1:V->Option α:=fun v'=>open Classical in if v'=v then some r else none
  have hK1:codeL P call cc L x lt (frT args 0 .leaf) .leaf 1 (fun e T' G' c'=>match e with
    | .exit _=>none
    | .normal=>xLG P fn.results.toList K1 T' G' c'
    | .ret=>xLG P fn.results.toList K1 T' G' c')=some r:=by
   rw[k1]
   have:xLG P fn.results.toList K1 T1 G1 c1=some r:=(q2 K1).trans (if_pos rfl)
   rcases he with rfl | rfl <;> exact this
  have hle:args.length<=fn.ntmps:=Nat.le_of_ble_eq_true h1.1.1
  refine xK8 hf hb hn hle ?_
  rw[←yLb hl]
  refine yLj hm hi hc x lt _ _ _ _ r hK1 hlt h1.1.2 hT .leaf _ fun e T' G' c' hf' hg' h'=>?_
  have go:xLG P fn.results.toList K1 T' G' c'=some r->∃r0 f r,resV P (yBO T') ⟨G'.get,c'⟩ fn.results.toList=some r0/\Fz ⟨G'.get,c'⟩ f r0 r/\r=v:=fun h'=>by
   obtain⟨v',m1,-,-,r0,m2,m3⟩:=xGR hf' hg' h'
   have m1:(open Classical in if v'=v then some r else none)=some r:=m1
   split at m1
   ·rename_i e;exact⟨r0,mny,v',m2,m3,e⟩
   ·cases m1
  cases e with
  | exit i=>cases h'
  | normal=>exact go h'
  | ret=>exact go h'
 cases e with
 | exit i=>cases h2
 | normal=>exact fin h2 (.inl rfl)
 | ret=>exact fin h2 (.inr rfl)
def xTN(P:Program)(rs:List ResultVar)(es:List (List V))(sz:Nat)(e:AEx)(fr:Fr)(st:St):Prop:=(e= .ret\/e= .normal)/\
 ((∃b cap n k,resV P fr st rs=some (.bs b 0 n cap)/\st.get b=some k/\n<=k.es.length/\es=k.es.take n/\k.lk=0/\k.sz=sz)\/(es= []/\resV P fr st rs=some (.sl [] true)))
theorem xJC{P:Program}{g:FuncId}{fn:Func}{c:Code}{args:List V}{es:List (List V)}{sz:Nat}(hf:P.funcs[g]?=some fn)(hb:fn.body=some c) (hn:(fn.name== "runtime.NumGoroutine")=false)
  (hl:args.length<=fn.ntmps) (hrow:∀i (hi:i<es.length),es[i].length=sz) (hpl:∀r∈es,∀x∈r,Plain x) (h:AW0 P fn.ntmps c (xTN P fn.results.toList es sz) (frOf args) ⟨fun _=>none,1⟩):xF0 P g args es sz:=by
 refine⟨⟨fn,hf,hn,by rw[hb];rfl⟩,hrow,hpl,fun w S vargs hS hx=>calls_of_wp hf hb ?_⟩
 have hlv:vargs.length<=fn.ntmps:=by rw[←hx.1];exact hl
 have hA:AR yOr S (fun g=>w.heap.size<=g) w fn.ntmps (frOf args) ⟨fun _=>none,1⟩ {tmps:=vargs.toArray++Array.replicate (fn.ntmps-vargs.toArray.size) Go.undef,defers:= []} w:=
  ⟨yOr,S,.none hS 1,fun _ _=>⟨rfl,rfl⟩,FR.enter hx _,fun _ h=>h,Ev.refl,rfl,yPt hlv⟩
 refine Code.wp_mono (fun e a w' he=>?_) (h yOr _ _ _ _ _ (fun _ _ h=>by cases h) hA)
 have fin:∀e' fr st,AR yOr S (fun g=>w.heap.size<=g) w fn.ntmps fr st a w'->xTN P fn.results.toList es sz e' fr st→
   a.defers= []/\∃v,(results fn a.tmps).run P w'= .ok v w'/\∃(A:Option Addr) (c:Nat) (S':yEn),Ending.returned v= .returned (.slice A es.length c)/\es.length<=c/\Below w.heap.size w w'/\
   (∀g i,S g i->S' g i)/\(∀g i,S' g i->S g i\/w.heap.size<=g)/\(∀g i,S' g i->g<w'.heap.size)/\
   ((es= []/\c=0)\/∃b o,A=some ⟨b,o,none⟩/\w.heap.size<=b/\b<w'.heap.size/\(∀i,o<=i->i<o+c*sz->¬S' b i)/\
     (∀i,o<=i->i<o+c*sz->(∃v,w'.cell? ⟨b,i,none⟩=some v)/\w'.frozen? ⟨b,i,none⟩=false)/\
     ∀i (hi:i<es.length) j (hj:j<es[i].length),∃u,w'.cell? ⟨b,o+i*sz+j,none⟩=some u/\u.oneCell'=true/\VR yOr S' w' es[i][j] u):=by
  rintro e' fr st ⟨mu,S',h1,h2,h3,h4,h5,h6,h7⟩ ⟨-,hend⟩
  refine⟨h6,?_⟩
  rcases hend with ⟨b,cap,n,k,hr,hk,hnl,rfl,hlk,rfl⟩ | ⟨rfl,hr⟩
  ·obtain⟨v,hv,hrun⟩:=yKh h1 h3 hr
   obtain⟨L,A,c,hL,rfl,hn1,hc,hA⟩:=hv.bs_inv
   have hm:=hv.bs_reg hL
   obtain⟨L',hL',hbr,hg⟩:=h1.loc b k hk
   rw[hL] at hL';injection hL' with hL';subst hL'
   have hln:(k.es.take n).length=n:=by rw[List.length_take];omega
   refine⟨_,hrun,A,c,S',by rw[hln],by omega,h5.below.below,h5.sub,h5.new,h1.sb,?_⟩
   rcases hA with hA | ⟨rfl,hlim⟩
   ·left
    exact⟨List.eq_nil_of_length_eq_zero (by omega),hA⟩
   ·by_cases hc0:c=0
    ·left
     exact⟨List.eq_nil_of_length_eq_zero (by omega),hc0⟩
    ·right
     have hg:=hg (.inl (by omega))
     have hle:c*k.sz<=L.lim*L.sz:=by rw[hbr.sz];exact Nat.mul_le_mul_right _ (by omega)
     have e0:L.o+0*L.sz=L.o:=by omega
     rw[e0]
     refine⟨L.g,L.o,rfl,hg.1,hg.2,fun x q1 q2=>h1.exS b k L hk hL L.g x ⟨rfl,by rw[hlk];omega,by omega⟩,fun x q1 q2=>hbr.room x (by rw[hlk];omega) (by omega),fun i hi j hj=>?_⟩
     have hi':i<k.es.length:=by omega
     have he:(k.es.take n)[i]=k.es[i]:=List.getElem_take
     have hj':j<k.es[i].length:=by rw[←he];exact hj
     obtain⟨u,u1,u2,u3⟩:=hbr.cell hm i hi' j hj'
     have he2:(k.es.take n)[i][j]=k.es[i][j]:=by simp only[he]
     exact⟨u,by rw[hbr.sz];exact u1,u2,by
      have hp:=hpl _ (List.getElem_mem hi) _ (List.getElem_mem hj)
      rw[he2] at hp ⊢
      exact u3.plain hp⟩
  ·obtain⟨v,hv,hrun⟩:=yKh h1 h3 hr
   cases hv with
   | sl0 _ A c hfl=>exact⟨_,hrun,A,c,S',rfl,Nat.zero_le _,h5.below.below,h5.sub,h5.new,h1.sb,.inl ⟨rfl,hfl rfl⟩⟩
   | sl1 _ _ g' o c sz' vals hne=>exact absurd hne (by simp)
 cases e with
 | normal=>obtain⟨fr,st,k1,k2⟩:=he;exact fin _ fr st k1 k2
 | ret=>obtain⟨fr,st,k1,k2⟩:=he;exact fin _ fr st k1 k2
 | exit i=>obtain⟨fr,st,k1,k2⟩:=he;rcases k2.1 with h | h <;> cases h
 | _=>exact he.elim
def xT3(P:Program)(rs:List ResultVar)(sz:Nat)(K:List (List V)->Option α)(T':Tr V)(G':Tr Blk')(c':Nat):Option α:=match resV P (yBO T') ⟨G'.get,c'⟩ rs with
 | some (.bs b i n cap)=>(match G'.get b with
   | some k=>yXO [Nat.beq i 0,Nat.ble n k.es.length,Nat.beq k.lk 0,Nat.beq k.sz sz,yCL (k.es.take n),(k.es.take n).all fun r=>Nat.beq r.length sz] (K (k.es.take n)) none
   | none=>none)
 | some (.sl es fl)=>yXO [fl,Nat.beq es.length 0] (K []) none
 | _=>none
def runN(P:Program)(call:ICk α)(cc:CCk α)(L:Nat)(sz:Nat)(lt:LT α)(g:FuncId)(args:List V)(K:List (List V)->Option α):Option α:=
 match P.funcs[g]? with
 | none=>none
 | some fn=>match fn.body with
   | none=>none
   | some x=>bif(fn.name== "runtime.NumGoroutine") then none else
     bif Nat.ble args.length fn.ntmps&&okC fn.ntmps x&&Nat.ble args.length 4000 then
      codeL P call cc L x lt (frT args 0 .leaf) .leaf 1 fun e T' G' c'=>match e with
       | .exit _=>none
       | .normal=>xT3 P fn.results.toList sz K T' G' c'
       | .ret=>xT3 P fn.results.toList sz K T' G' c'
     else none
def xUL(P:Program)(sp:Spk α)(L n sz:Nat)(lt:LT α)(g:FuncId)(args:List V)(K:List (List V)->Option α):Option α:=runN P (yDw P sp L n).1 (yDw P sp L n).2 L sz lt g args K
def xT9(P:Program)(sp:Spk α)(L n:Nat)(lt:LT α)(g:FuncId)(args:List V)(K:V->Option α):Option α:=runT P (yDw P sp L n).1 (yDw P sp L n).2 L lt g args K
def xL4(P:Program)(sp:Spk α)(L n:Nat)(x:Code)(t:LT α)(live:List (Nat×Md))(outs:AEx->List (Nat×Md))(vs:List AV)(Kn:List AV->Option α)(Ke:AEx->List AV->Option α):Option α:=
 yKj P (yDw P sp L n).1 (yDw P sp L n).2 L x t live outs vs Kn Ke
end
def xT5{R:Type}(cr:Cd R)(v:V):Option R:=bif cr.ok v then some (cr.dec v) else none
theorem xSG{P:Program}(hm:P.follows .mixedOrders=true){A R:Type}{sp:Spk R}(hs:yLc P sp){L n:Nat}{lt:LT R}{g:FuncId}{fn:Func}{x:Code}(hf:P.funcs[g]?=some fn)(hb:fn.body=some x)(hlt:yUh P fn.ntmps x lt)(hld:yIs x lt)
  {ca:Ca A} {cr:Cd R} {f:A->Option R} (he:∀a,xT9 P sp L n lt g (ca.enc a) (xT5 cr)=f a):Ctr P g false ca cr f:=by
 intro a r hp h
 obtain⟨h1,h2,h3,h4⟩:=yOO hm hs (L:=L) n
 obtain⟨v,k1,k2,k3⟩:=xRd hm h1 h2 h3 h4 hf hb hlt hld hp ((he a).trans h)
 obtain⟨k4,k5⟩:=yAN (show(bif cr.ok v then some (cr.dec v) else none)=some r from k3)
 injection k5 with k5
 have e:cr.enc r=v:=by rw[←k5];exact cr.h v k4
 rw[e]
 exact⟨k1,k2,fun h=>by cases h⟩
structure Ce (α:Type) where
 enc:α->AV0
 dec:AV0->α
 ok:AV0->Bool
 h:∀v,ok v=true->enc (dec v)=v
def ceP{α:Type}(c:Cd α):Ce α:=⟨fun a=> .p (c.enc a),fun v=>match v with | .p y=>c.dec y | _=>c.dec .undef,fun v=>match v with | .p y=>c.ok y | _=>false,fun v h=>by
 cases v with
 | p y=>exact congrArg AV0.p (c.h y h)
 | a es sz=>cases h
 | w es sz=>cases h⟩
def ceA(sz:Nat):Ce (List (List V)):=⟨fun es=> .a es sz,fun v=>match v with | .a es _=>es | _=> [],fun v=>match v with | .a _ s=>Nat.beq s sz | _=>false,fun v h=>by
 cases v with
 | p y=>cases h
 | a es s=>exact congrArg (AV0.a es) (Nat.eq_of_beq_eq_true h).symm
 | w es s=>cases h⟩
def ceW(sz:Nat):Ce (List (List V)):=⟨fun es=> .w es sz,fun v=>match v with | .w es _=>es | _=> [],fun v=>match v with | .w _ s=>Nat.beq s sz | _=>false,fun v h=>by
 cases v with
 | p y=>cases h
 | a es s=>cases h
 | w es s=>exact congrArg (AV0.w es) (Nat.eq_of_beq_eq_true h).symm⟩
structure Cz (α:Type) where
 enc:α->List AV0
 dec:List AV0->α
 ok:List AV0->Bool
 h:∀v,ok v=true->enc (dec v)=v
def czN:Cz Unit:=⟨fun _=> [],fun _=>(),fun l=>match l with | []=>true | _=>false,fun l h=>by cases l <;> first | rfl | cases h⟩
def czC{α β:Type}(c:Ce α)(d:Cz β):Cz (α×β):=⟨fun a=>c.enc a.1::d.enc a.2,fun l=>(c.dec (l.headD (.p .undef)),d.dec l.tail),fun l=>match l with | []=>false | x::l=>c.ok x&&d.ok l,fun l h=>by
 cases l with
 | nil=>cases h
 | cons x l=>
   obtain⟨h1,h2⟩:=yBE h
   show c.enc (c.dec x)::d.enc (d.dec l)=_
   rw[c.h x h1,d.h l h2]⟩
def pL:AV0->V
 | .p y=>y
 | _=> .undef
def isP:AV0->Bool
 | .p _=>true
 | _=>false
def czA{α:Type}(c:Ca α):Cz α:=⟨fun a=>(c.enc a).map .p,fun l=>c.dec (l.map pL),fun l=>l.all isP&&c.ok (l.map pL),fun l h=>by
 obtain⟨h1,h2⟩:=yBE h
 show(c.enc (c.dec (l.map pL))).map AV0.p=l
 rw[c.h _ h2,List.map_map]
 conv=>rhs;rw[←List.map_id l]
 refine List.map_congr_left fun x hx=>?_
 have:=List.all_eq_true.1 h1 x hx
 cases x with
 | p y=>rfl
 | a es sz=>cases this
 | w es sz=>cases this⟩
structure Cx (α:Type) where
 enc:α->AV
 dec:AV->α
 ok:AV->Bool
 h:∀v,ok v=true->enc (dec v)=v
def cxV{α:Type}(c:Ce α):Cx α:=⟨fun a=> .v (c.enc a),fun v=>match v with | .v y=>c.dec y | _=>c.dec (.p .undef),fun v=>match v with | .v y=>c.ok y | _=>false,fun v h=>by
 cases v with
 | v y=>exact congrArg AV.v (c.h y h)
 | o cs sz=>cases h
 | r cs sz=>cases h
 | q es sz=>cases h⟩
def cxO{α:Type}(c:Cz α)(sz:Nat):Cx α:=⟨fun a=> .o (c.enc a) sz,fun v=>match v with | .o cs _=>c.dec cs | _=>c.dec [],fun v=>match v with | .o cs s=>Nat.beq s sz&&c.ok cs | _=>false,fun v h=>by
 cases v with
 | v y=>cases h
 | r cs s=>cases h
 | q es s=>cases h
 | o cs s=>
   obtain⟨h1,h2⟩:=yBE h
   show AV.o (c.enc (c.dec cs)) sz=_
   rw[c.h cs h2,Nat.eq_of_beq_eq_true h1]⟩
def cxR{α:Type}(c:Cz α)(sz:Nat):Cx α:=⟨fun a=> .r (c.enc a) sz,fun v=>match v with | .r cs _=>c.dec cs | _=>c.dec [],fun v=>match v with | .r cs s=>Nat.beq s sz&&c.ok cs | _=>false,fun v h=>by
 cases v with
 | v y=>cases h
 | o cs s=>cases h
 | q es s=>cases h
 | r cs s=>
   obtain⟨h1,h2⟩:=yBE h
   show AV.r (c.enc (c.dec cs)) sz=_
   rw[c.h cs h2,Nat.eq_of_beq_eq_true h1]⟩
def cxQ(sz:Nat):Cx (List (List V)):=⟨fun a=> .q a sz,fun v=>match v with | .q es _=>es | _=> [],fun v=>match v with | .q _ s=>Nat.beq s sz | _=>false,fun v h=>by
 cases v with
 | v y=>cases h
 | o cs s=>cases h
 | r cs s=>cases h
 | q es s=>exact congrArg (AV.q es) (Nat.eq_of_beq_eq_true h).symm⟩
structure Cl (α:Type) where
 enc:α->List AV
 dec:List AV->α
 ok:List AV->Bool
 h:∀v,ok v=true->enc (dec v)=v
def clN:Cl Unit:=⟨fun _=> [],fun _=>(),fun l=>match l with | []=>true | _=>false,fun l h=>by cases l <;> first | rfl | cases h⟩
def clC{α β:Type}(c:Cx α)(d:Cl β):Cl (α×β):=⟨fun a=>c.enc a.1::d.enc a.2,fun l=>(c.dec (l.headD (.v (.p .undef))),d.dec l.tail),fun l=>match l with | []=>false | x::l=>c.ok x&&d.ok l,fun l h=>by
 cases l with
 | nil=>cases h
 | cons x l=>
   obtain⟨h1,h2⟩:=yBE h
   show c.enc (c.dec x)::d.enc (d.dec l)=_
   rw[c.h x h1,d.h l h2]⟩
section
variable {α σ A B C:Type}
def yAb(st:σ->(σ->Option α)->(A->Option α)->Option α):Nat->σ->(A->Option α)->Option α
 | 0,_,_=>none
 | m+1,s,ka=>st s (fun s'=>yAb st m s' ka) ka
def yAf(st:σ->(σ->Option α)->(A->Option α)->(B->Option α)->Option α):Nat->σ->(A->Option α)->(B->Option α)->Option α
 | 0,_,_,_=>none
 | m+1,s,ka,kb=>st s (fun s'=>yAf st m s' ka kb) ka kb
def xLX(st:σ->(σ->Option α)->(A->Option α)->(B->Option α)->(C->Option α)->Option α):Nat->σ->(A->Option α)->(B->Option α)->(C->Option α)->Option α
 | 0,_,_,_,_=>none
 | m+1,s,ka,kb,kc=>st s (fun s'=>xLX st m s' ka kb kc) ka kb kc
def xS4(cl:Cl σ)(ea:AEx)(ca:Cl A)(F:σ->(A->Option α)->Option α):xP6 α:=fun vs K=>bif cl.ok vs then F (cl.dec vs) (fun a=>K ea (ca.enc a)) else none
def xS5(cl:Cl σ)(ea:AEx)(ca:Cl A)(eb:AEx)(cb:Cl B)(F:σ->(A->Option α)->(B->Option α)->Option α):xP6 α:=fun vs K=>bif cl.ok vs then F (cl.dec vs) (fun a=>K ea (ca.enc a)) (fun b=>K eb (cb.enc b)) else none
def xS6(cl:Cl σ)(ea:AEx)(ca:Cl A)(eb:AEx)(cb:Cl B)(ec:AEx)(cc:Cl C)(F:σ->(A->Option α)->(B->Option α)->(C->Option α)->Option α):xP6 α:=fun vs K=>bif cl.ok vs then F (cl.dec vs) (fun a=>K ea (ca.enc a)) (fun b=>K eb (cb.enc b)) (fun c=>K ec (cc.enc c)) else none
theorem xNJ{P:Program}{nt:Nat}{x:Code}{live:List (Nat×Md)}{outs:AEx->List (Nat×Md)}{cl:Cl σ}{R F:xP6 α}(hF:∀vs K,cl.ok vs=true->F vs K=R vs K)(hF0:∀vs K,cl.ok vs=false->F vs K=none)(h:LOk P nt x ⟨live,outs,R⟩/\xDk ⟨live,outs,R⟩):LOk P nt x ⟨live,outs,F⟩/\xDk ⟨live,outs,F⟩:=by
 have key:∀vs K r,F vs K=some r->cl.ok vs=true:=fun vs K r h=>by
  cases hc:cl.ok vs with
  | true=>rfl
  | false=>rw[hF0 vs K hc] at h;cases h
 refine⟨fun vs K r hp hr=>?_,fun vs K r hr=>?_⟩
 ·have hr:F vs K=some r:=hr
  have hk:=key vs K r hr
  rw[hF vs K hk] at hr
  obtain⟨e,vs',h1,h2,h3,h4⟩:=h.1 vs K r hp hr
  exact⟨e,vs',fun K'=>(hF vs K' hk).trans (h1 K'),h2,h3,h4⟩
 ·have hr:F vs K=some r:=hr
  have hk:=key vs K r hr
  rw[hF vs K hk] at hr
  obtain⟨e,vs',h1,h2⟩:=h.2 vs K r hr
  exact⟨e,vs',fun K'=>(hF vs K' hk).trans (h1 K'),h2⟩
theorem xSU{P:Program}(hm:P.follows .mixedOrders=true){sp:Spk α}(hs:yLc P sp){L n nt:Nat}{x:Code}{t:LT α}{live:List (Nat×Md)}{outs:AEx->List (Nat×Md)}(hl:okL live)(ht:yUh P nt x t)(hd:yIs x t)(ho:okC nt x=true)
  {cl:Cl σ} {ea:AEx} {ca:Cl A} {st:σ->(σ->Option α)->(A->Option α)->Option α} (he:∀s Kn Ke,xL4 P sp L n x t live outs (cl.enc s) Kn Ke=st s (fun s'=>Kn (cl.enc s')) (fun a=>Ke ea (ca.enc a))) (m:Nat):
  LOk P nt x ⟨live,outs,xS4 cl ea ca (yAb st m)⟩/\xDk ⟨live,outs,xS4 cl ea ca (yAb st m)⟩:=by
 obtain⟨h1,h2,h3,h4⟩:=yOO hm hs (L:=L) n
 refine xNJ (cl:=cl) (fun vs K hk=>?_) (fun vs K hk=>by unfold xS4;rw[hk];rfl) (xJq (L:=L) hm h1 h2 h3 h4 hl ht hd ho m)
 unfold xS4
 rw[hk,cond_true]
 have:∀(m:Nat) (s:σ),yAb st m s (fun a=>K ea (ca.enc a))=xKk (yKj P (yDw P sp L n).1 (yDw P sp L n).2 L x t live outs) m (cl.enc s) K:=by
  intro m
  induction m with
  | zero=>intro s;rfl
  | succ m ih=>
    intro s
    show st s (fun s'=>yAb st m s' (fun a=>K ea (ca.enc a))) (fun a=>K ea (ca.enc a))=yKj P (yDw P sp L n).1 (yDw P sp L n).2 L x t live outs (cl.enc s) _ K
    rw[show yKj P (yDw P sp L n).1 (yDw P sp L n).2 L x t live outs (cl.enc s) (fun vs'=>xKk (yKj P (yDw P sp L n).1 (yDw P sp L n).2 L x t live outs) m vs' K) K=_ from he s _ K]
    congr 1
    funext s'
    exact ih s'
 rw[this,cl.h vs hk]
theorem xSV{P:Program}(hm:P.follows .mixedOrders=true){sp:Spk α}(hs:yLc P sp){L n nt:Nat}{x:Code}{t:LT α}{live:List (Nat×Md)}{outs:AEx->List (Nat×Md)}(hl:okL live)(ht:yUh P nt x t)(hd:yIs x t)(ho:okC nt x=true)
  {cl:Cl σ} {ea eb:AEx} {ca:Cl A} {cb:Cl B} {st:σ->(σ->Option α)->(A->Option α)->(B->Option α)->Option α} (he:∀s Kn Ke,xL4 P sp L n x t live outs (cl.enc s) Kn Ke=st s (fun s'=>Kn (cl.enc s')) (fun a=>Ke ea (ca.enc a)) (fun b=>Ke eb (cb.enc b))) (m:Nat):
  LOk P nt x ⟨live,outs,xS5 cl ea ca eb cb (yAf st m)⟩/\xDk ⟨live,outs,xS5 cl ea ca eb cb (yAf st m)⟩:=by
 obtain⟨h1,h2,h3,h4⟩:=yOO hm hs (L:=L) n
 refine xNJ (cl:=cl) (fun vs K hk=>?_) (fun vs K hk=>by unfold xS5;rw[hk];rfl) (xJq (L:=L) hm h1 h2 h3 h4 hl ht hd ho m)
 unfold xS5
 rw[hk,cond_true]
 have:∀(m:Nat) (s:σ),yAf st m s (fun a=>K ea (ca.enc a)) (fun b=>K eb (cb.enc b))=xKk (yKj P (yDw P sp L n).1 (yDw P sp L n).2 L x t live outs) m (cl.enc s) K:=by
  intro m
  induction m with
  | zero=>intro s;rfl
  | succ m ih=>
    intro s
    show st s (fun s'=>yAf st m s' (fun a=>K ea (ca.enc a)) (fun b=>K eb (cb.enc b))) (fun a=>K ea (ca.enc a)) (fun b=>K eb (cb.enc b))=yKj P (yDw P sp L n).1 (yDw P sp L n).2 L x t live outs (cl.enc s) _ K
    rw[show yKj P (yDw P sp L n).1 (yDw P sp L n).2 L x t live outs (cl.enc s) (fun vs'=>xKk (yKj P (yDw P sp L n).1 (yDw P sp L n).2 L x t live outs) m vs' K) K=_ from he s _ K]
    congr 1
    funext s'
    exact ih s'
 rw[this,cl.h vs hk]
theorem xSW{P:Program}(hm:P.follows .mixedOrders=true){sp:Spk α}(hs:yLc P sp){L n nt:Nat}{x:Code}{t:LT α}{live:List (Nat×Md)}{outs:AEx->List (Nat×Md)}(hl:okL live)(ht:yUh P nt x t)(hd:yIs x t)(ho:okC nt x=true)
  {cl:Cl σ} {ea eb ec:AEx} {ca:Cl A} {cb:Cl B} {cc:Cl C} {st:σ->(σ->Option α)->(A->Option α)->(B->Option α)->(C->Option α)->Option α} (he:∀s Kn Ke,xL4 P sp L n x t live outs (cl.enc s) Kn Ke=st s (fun s'=>Kn (cl.enc s')) (fun a=>Ke ea (ca.enc a)) (fun b=>Ke eb (cb.enc b)) (fun c=>Ke ec (cc.enc c))) (m:Nat):
  LOk P nt x ⟨live,outs,xS6 cl ea ca eb cb ec cc (xLX st m)⟩/\xDk ⟨live,outs,xS6 cl ea ca eb cb ec cc (xLX st m)⟩:=by
 obtain⟨h1,h2,h3,h4⟩:=yOO hm hs (L:=L) n
 refine xNJ (cl:=cl) (fun vs K hk=>?_) (fun vs K hk=>by unfold xS6;rw[hk];rfl) (xJq (L:=L) hm h1 h2 h3 h4 hl ht hd ho m)
 unfold xS6
 rw[hk,cond_true]
 have:∀(m:Nat) (s:σ),xLX st m s (fun a=>K ea (ca.enc a)) (fun b=>K eb (cb.enc b)) (fun c=>K ec (cc.enc c))=xKk (yKj P (yDw P sp L n).1 (yDw P sp L n).2 L x t live outs) m (cl.enc s) K:=by
  intro m
  induction m with
  | zero=>intro s;rfl
  | succ m ih=>
    intro s
    show st s (fun s'=>xLX st m s' (fun a=>K ea (ca.enc a)) (fun b=>K eb (cb.enc b)) (fun c=>K ec (cc.enc c))) (fun a=>K ea (ca.enc a)) (fun b=>K eb (cb.enc b)) (fun c=>K ec (cc.enc c))=yKj P (yDw P sp L n).1 (yDw P sp L n).2 L x t live outs (cl.enc s) _ K
    rw[show yKj P (yDw P sp L n).1 (yDw P sp L n).2 L x t live outs (cl.enc s) (fun vs'=>xKk (yKj P (yDw P sp L n).1 (yDw P sp L n).2 L x t live outs) m vs' K) K=_ from he s _ K]
    congr 1
    funext s'
    exact ih s'
 rw[this,cl.h vs hk]
end
section
variable {α σ A B C:Type}
def xRl(P:Program)(sp:Spk α)(L n:Nat)(x:Code)(t:LT α)(live:List (Nat×Md))(outs:AEx->List (Nat×Md))(vs:List AV)(Ke:AEx->List AV->Option α):Option α:=
 xFn P (yDw P sp L n).1 (yDw P sp L n).2 L x t live outs vs Ke
theorem xSk{P:Program}{nt:Nat}{x:Code}{live:List (Nat×Md)}{outs:AEx->List (Nat×Md)}{cl:Cl σ}{R F:xP6 α}(hF:∀vs K,cl.ok vs=true->F vs K=R vs K)(hF0:∀vs K,cl.ok vs=false->F vs K=none)(h:POk P nt x ⟨live,outs,R⟩/\xDk ⟨live,outs,R⟩):POk P nt x ⟨live,outs,F⟩/\xDk ⟨live,outs,F⟩:=by
 have key:∀vs K r,F vs K=some r->cl.ok vs=true:=fun vs K r h=>by
  cases hc:cl.ok vs with
  | true=>rfl
  | false=>rw[hF0 vs K hc] at h;cases h
 refine⟨fun vs K r hp hr=>?_,fun vs K r hr=>?_⟩
 ·have hr:F vs K=some r:=hr
  have hk:=key vs K r hr
  rw[hF vs K hk] at hr
  obtain⟨e,vs',h1,h2,h3,h4⟩:=h.1 vs K r hp hr
  exact⟨e,vs',fun K'=>(hF vs K' hk).trans (h1 K'),h2,h3,h4⟩
 ·have hr:F vs K=some r:=hr
  have hk:=key vs K r hr
  rw[hF vs K hk] at hr
  obtain⟨e,vs',h1,h2⟩:=h.2 vs K r hr
  exact⟨e,vs',fun K'=>(hF vs K' hk).trans (h1 K'),h2⟩
theorem xSl{P:Program}(hm:P.follows .mixedOrders=true){sp:Spk α}(hs:yLc P sp){L n nt:Nat}{x:Code}{t:LT α}{live:List (Nat×Md)}{outs:AEx->List (Nat×Md)}(hl:okL live)(ht:yUh P nt x t)(hd:yIs x t)(ho:okC nt x=true)
  {cl:Cl σ} {F:σ->(AEx->List AV->Option α)->Option α} (he:∀s Ke,xRl P sp L n x t live outs (cl.enc s) Ke=F s Ke) {R:xP6 α} (hR:∀vs K,R vs K=bif cl.ok vs then F (cl.dec vs) K else none):
  POk P nt x ⟨live,outs,R⟩/\xDk ⟨live,outs,R⟩:=by
 obtain⟨h1,h2,h3,h4⟩:=yOO hm hs (L:=L) n
 refine xSk (cl:=cl) (fun vs K hk=>?_) (fun vs K hk=>by rw[hR,hk];rfl) (xPi (L:=L) hm h1 h2 h3 h4 hl ht hd ho)
 rw[hR,hk,cond_true,←he,cl.h vs hk];rfl
end
def noS:ByteArray:=⟨#[]⟩
def yEr(mx:Bool)(x y:Int):Int:=if(if mx then y>x else y<x) then y else x
def yPv(es:List (List V)):ByteArray:=⟨(((bytesOf es).getD []).map fun n=>UInt8.ofNat n.toNat).toArray⟩
def yCj(s:ByteArray):List (List V):=s.data.toList.map fun c=> [.int .u8 (c.toNat:Int)]
def yNB(f:Func):Code:=f.body.getD .skip
def xIa:Code->List Nat->Code
 | c,[]=>c
 | .seq x _,0::r=>xIa x r
 | .seq _ y,1::r=>xIa y r
 | .cond _ x _,0::r=>xIa x r
 | .cond _ _ y,1::r=>xIa y r
 | .block _ x,0::r=>xIa x r
 | .scope x,0::r=>xIa x r
 | .loop x,0::r=>xIa x r
 | c,_=>c
def xAt(f:Func)(p:List Nat):Code:=match xIa (yNB f) p with
 | .loop x=>x
 | c=>c
theorem xSf{l:List (Nat×Md)}(h:(l.all fun p=>Nat.ble p.1 4000)=true):okL l:=fun p hp=>Nat.le_of_ble_eq_true (List.all_eq_true.1 h p hp)
theorem ltN{α:Type}{P:Program}{nt:Nat}(x:Code):yUh P nt x (.no:LT α):=by cases x <;> trivial
theorem ltS{α:Type}{P:Program}{nt:Nat}{x y:Code}{l r:LT α}(h1:yUh P nt x l)(h2:yUh P nt y r):yUh P nt (.seq x y) (.two l r):=⟨h1,h2⟩
theorem ltQ{α:Type}{P:Program}{nt:Nat}{c:Operand}{x y:Code}{l r:LT α}(h1:yUh P nt x l)(h2:yUh P nt y r):yUh P nt (.cond c x y) (.two l r):=⟨h1,h2⟩
theorem ltL{α:Type}{P:Program}{nt:Nat}{x:Code}{s:LSpec α}(h1:LOk P nt x s):yUh P nt (.loop x) (.lp s):=h1
theorem ldN{α:Type}(x:Code):yIs x (.no:LT α):=by cases x <;> trivial
theorem ldS{α:Type}{x y:Code}{l r:LT α}(h1:yIs x l)(h2:yIs y r):yIs (.seq x y) (.two l r):=⟨h1,h2⟩
theorem ldQ{α:Type}{c:Operand}{x y:Code}{l r:LT α}(h1:yIs x l)(h2:yIs y r):yIs (.cond c x y) (.two l r):=⟨h1,h2⟩
theorem ptL{α:Type}{P:Program}{nt:Nat}{x:Code}{s:LSpec α}(h1:POk P nt x s):yUh P nt x (.pt s):=by rw[ltP];exact h1
theorem pdL{α:Type}{x:Code}{s:LSpec α}(h1:xDk s):yIs x (.pt s):=by rw[ldP];exact h1
theorem ldL{α:Type}{x:Code}{s:LSpec α}(h1:xDk s):yIs (.loop x) (.lp s):=h1
end Go.Proofs.YtakljpcmbpaeaaaGreat
