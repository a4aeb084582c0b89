/- The awp calculus, 18: code; contracts from it. -/
import Derived.Test.YtakljpcmbpaeaaaGreatMountPlaysM20
import Derived.Scope
set_option linter.unusedSimpArgs false
set_option linter.unusedVariables false
namespace Go.Proofs.YtakljpcmbpaeaaaGreat
open Go.RowKit
inductive AEx where
 | normal
 | exit (id:Nat)
 | ret
def QR(mu0:Mu)(S0:yEn)(B:Dom)(w0:World)(nt:Nat)(Q:AEx->Fr->St->Prop):Exit->Act->World->Prop
 | .normal,a,w=>∃fr st,AR mu0 S0 B w0 nt fr st a w/\Q .normal fr st
 | .exit i,a,w=>∃fr st,AR mu0 S0 B w0 nt fr st a w/\Q (.exit i) fr st
 | .ret,a,w=>∃fr st,AR mu0 S0 B w0 nt fr st a w/\Q .ret fr st
 | _,_,_=>False
def AW(P:Program)(nt:Nat)(c:Code)(Q:AEx->Fr->St->Prop)(fr:Fr)(st:St):Prop:=
 ∀(mu0:Mu) (S0:yEn) (B:Dom) (w0:World) (a:Act) (w:World),AR mu0 S0 B w0 nt fr st a w->c.wp P (QR mu0 S0 B w0 nt Q) a w
def AEx.then(K:Fr->St->Prop)(Q:AEx->Fr->St->Prop):AEx->Fr->St->Prop
 | .normal,fr,st=>K fr st
 | e,fr,st=>Q e fr st
def AEx.inBlock(id:Nat)(Q:AEx->Fr->St->Prop):AEx->Fr->St->Prop
 | .exit i,fr,st=>if i=id then Q .normal fr st else Q (.exit i) fr st
 | e,fr,st=>Q e fr st
def xQE(ops:Array Oper)(nt:Nat):Bool:=ops.all fun o=>match o.dst with | none=>true | some t=>Nat.blt t nt
def xUI(P:Program)(ops:Array Oper)(draw:Bool)(K:Fr->St->Prop)(fr:Fr)(st:St):Prop:=
 match draw with
 | true=>Region.lexB .any ops=true/\dlist P ops st.c (fun fr g=>K fr ⟨g,st.c+ops.size⟩) ops.toList 0 [] fr st.get
 | false=>aops P ops ops.toList fr st K
def resOne(P:Program)(fr:Fr)(st:St):ResultVar->Option V
 | .tmp t=>some (fr t)
 | .cell a t=>match P.underlying t,P.info? t with
   | some d,some i=>vLoad i.size d.isRow st (fr a)
   | _,_=>none
def resL(P:Program)(fr:Fr)(st:St):List ResultVar->Option (List V)
 | []=>some []
 | r::l=>(resOne P fr st r).bind fun x=>(resL P fr st l).map fun xs=>x::xs
def resV(P:Program)(fr:Fr)(st:St)(l:List ResultVar):Option V:=
 (resL P fr st l).map fun xs=>match xs with | [x]=>x | xs=> .tup xs
def frOf(args:List V):Fr:=fun t=>(args[t]?).getD .undef
section
variable {P:Program} {nt:Nat} {Q Q':AEx->Fr->St->Prop} {fr:Fr} {st:St}
theorem AW.mono{c:Code}(h:AW P nt c Q fr st)(hq:∀e fr st,Q e fr st->Q' e fr st):AW P nt c Q' fr st:=fun mu0 S0 B w0 a w hA=>
 Code.wp_mono (fun e a w h=>by
  cases e <;> first | exact h.elim | (obtain⟨fr,st,h1,h2⟩:=h;exact⟨fr,st,h1,hq _ _ _ h2⟩)) (h mu0 S0 B w0 a w hA)
theorem AW.skip(h:Q .normal fr st):AW P nt .skip Q fr st:=fun _ _ _ _ _ _ hA=>wp_skip ⟨fr,st,hA,h⟩
theorem AW.label{l:Nat}(h:Q .normal fr st):AW P nt (.label l) Q fr st:=fun _ _ _ _ _ _ hA=>wp_label ⟨fr,st,hA,h⟩
theorem AW.exit{i:Nat}(h:Q (.exit i) fr st):AW P nt (.exit i) Q fr st:=fun _ _ _ _ _ _ hA=>wp_exit ⟨fr,st,hA,h⟩
theorem AW.ret(h:Q .ret fr st):AW P nt .ret Q fr st:=fun _ _ _ _ _ _ hA=>wp_ret ⟨fr,st,hA,h⟩
theorem AW.seq{x y:Code}(h:AW P nt x (AEx.then (AW P nt y Q) Q) fr st):AW P nt (.seq x y) Q fr st:=fun mu0 S0 B w0 a w hA=>
 wp_seq (Code.wp_mono (fun e a w h=>by
  cases e with
  | normal=>obtain⟨fr,st,h1,h2⟩:=h;exact h2 mu0 S0 B w0 a w h1
  | exit i=>exact h
  | ret=>exact h
  | _=>exact h.elim) (h mu0 S0 B w0 a w hA))
theorem AW.cond{c:Operand}{x y:Code}{b:Bool}(hc:ev fr c= .bool b)(ht:b=true->AW P nt x Q fr st)(hf:b=false->AW P nt y Q fr st):AW P nt (.cond c x y) Q fr st:=fun mu0 S0 B w0 a w hA=>by
 have he:a.eval c= .bool b:=by
  obtain⟨mu,S,_,_,h3,_⟩:=hA
  have:=h3.at_ c
  rw[hc] at this
  exact this.bool_inv
 exact wp_cond_split he (fun h=>ht h mu0 S0 B w0 a w hA) (fun h=>hf h mu0 S0 B w0 a w hA)
theorem AW.block{id:Nat}{c:Code}(h:AW P nt c (AEx.inBlock id Q) fr st):AW P nt (.block id c) Q fr st:=fun mu0 S0 B w0 a w hA=>
 wp_block (Code.wp_mono (fun e a w h=>by
  cases e with
  | normal=>exact h
  | exit i=>
    obtain⟨fr,st,h1,h2⟩:=h
    unfold AEx.inBlock at h2
    unfold Exit.inBlock
    dsimp only at h2 ⊢
    split
    ·rename_i e;rw[if_pos e] at h2;exact⟨fr,st,h1,h2⟩
    ·rename_i e;rw[if_neg e] at h2;exact⟨fr,st,h1,h2⟩
  | ret=>exact h
  | _=>exact h.elim) (h mu0 S0 B w0 a w hA))
theorem AW.scope{c:Code}(h:AW P nt c Q fr st):AW P nt (.scope c) Q fr st:=fun mu0 S0 B w0 a w hA=>
 wp_scope_straight (Code.wp_mono (fun e a w h=>by cases e <;> first | exact h | exact h.elim) (h mu0 S0 B w0 a w hA))
theorem least{p:Nat->Prop}(h:∃n,p n):∃n,p n/\∀m,p m->n<=m:=by
 obtain⟨n,hn⟩:=h
 induction n using Nat.strongRecOn with
 | _ n ih=>
   by_cases hc:∃m,m<n/\p m
   ·obtain⟨m,hm,hp⟩:=hc;exact ih m hm hp
   ·exact⟨n,hn,fun m hm=>Nat.le_of_not_lt fun hlt=>hc ⟨m,hlt,hm⟩⟩
open Classical in
theorem AW.loop{c:Code}(I:Fr->St->Prop)(m:Fr->St->Nat)(h0:I fr st)(hr:∀fr st,I fr st->AW P nt c (AEx.then (fun fr' st'=>I fr' st'/\m fr' st'<m fr st) Q) fr st):
  AW P nt (.loop c) Q fr st:=fun mu0 S0 B w0 a w hA=>by
 have hmin:∀a w,(∃fr st,AR mu0 S0 B w0 nt fr st a w/\I fr st)->∃n,∃fr st,AR mu0 S0 B w0 nt fr st a w/\I fr st/\m fr st=n:=fun a w ⟨fr,st,h1,h2⟩=>⟨_,fr,st,h1,h2,rfl⟩
 refine wp_loop (fun a w=>∃fr st,AR mu0 S0 B w0 nt fr st a w/\I fr st)
  (fun a w=>if h:∃n,∃fr st,AR mu0 S0 B w0 nt fr st a w/\I fr st/\m fr st=n then Classical.choose (least h) else 0) ⟨fr,st,hA,h0⟩ fun a w hI=>?_
 have hn:=hmin a w hI
 obtain⟨fr,st,h1,h2,h3⟩:=(Classical.choose_spec (least hn)).1
 refine Code.wp_mono (fun e a' w' h=>?_) (hr fr st h2 mu0 S0 B w0 a w h1)
 cases e with
 | normal=>
   obtain⟨fr',st',k1,k2,k3⟩:=h
   refine⟨⟨fr',st',k1,k2⟩,?_⟩
   have hn':=hmin a' w' ⟨fr',st',k1,k2⟩
   rw[dif_pos hn,dif_pos hn']
   have:=(Classical.choose_spec (least hn')).2 (m fr' st') ⟨fr',st',k1,k2,rfl⟩
   omega
 | exit i=>exact h
 | ret=>exact h
 | _=>exact h.elim
theorem AW.region{id:Nat}{ops:Array Oper}{draw:Bool}(hm:P.follows .mixedOrders=true)(hd:xQE ops nt=true)(h:xUI P ops draw (fun fr st=>Q .normal fr st) fr st):AW P nt (.region id ops draw) Q fr st:=fun mu0 S0 B w0 a w hA=>by
 have hd':∀o∈ops,∀t,o.dst=some t->t<nt:=fun o ho t ht=>by
  have:=Array.all_eq_true_iff_forall_mem.1 hd o ho
  rw[ht] at this
  exact Nat.lt_of_succ_le (Nat.le_of_ble_eq_true this)
 cases draw with
 | true=>exact xIr hm h.1 hd' hA (fun fr st a w h1 h2=>⟨fr,st,h1,h2⟩) h.2
 | false=>exact wp_region_list (xDB (fun fr st a w h1 h2=>⟨fr,st,h1,h2⟩) ops.toList fr st a w (fun o ho=>hd' o (Array.mem_toList_iff.1 ho)) hA h)
end
section
variable {mu:Mu} {S:yEn} {B:Dom} {nt:Nat} {w:World} {fr:Fr} {st:St} {a:Act} {P:Program}
def rv(tmps:Array Value):ResultVar->Sem Value
 | .tmp t=>pure (tmps.getD t undef)
 | .cell a t=>do loadVar t (←asAddr (tmps.getD a undef))
theorem xDe(hst:SR mu S B st w)(hf:FR mu S w fr a):∀(l:List ResultVar) (xs:List V),resL P fr st l=some xs→
  ∃vs:List Value,VRs mu S w xs vs/\(l.mapM (rv a.tmps)).run P w= .ok vs w
 | [],xs,h=>by
   simp only[resL,Option.some.injEq] at h
   subst h
   exact⟨[],VRs.nil,by simp⟩
 | r::l,xs,h=>by
   unfold resL at h
   obtain⟨x,hx,h⟩:=Option.bind_eq_some_iff.1 h
   obtain⟨ys,hys,rfl⟩:=Option.map_eq_some_iff.1 h
   obtain⟨vs,k1,k2⟩:=xDe hst hf l ys hys
   have one:∃v,VR mu S w x v/\(rv a.tmps r).run P w= .ok v w:=by
    cases r with
    | tmp t=>
      simp only[resOne,Option.some.injEq] at hx
      subst hx
      exact⟨_,hf t,by simp[rv]⟩
    | cell t ty=>
      unfold resOne at hx
      dsimp only at hx
      split at hx
      ·rename_i d i hd hi
       obtain⟨u,h1,h2⟩:=xBw hd hi hst (hf t) hx
       refine⟨u,h2,?_⟩
       unfold rv
       dsimp only
       generalize a.tmps.getD t undef=p at h1 ⊢
       unfold Instr.loadAt Instr.sureAddr at h1
       unfold asAddr
       cases p with
       | pointer q=>cases q with
         | none=>simp at h1
         | some q=>simpa using h1
       | _=>simp at h1
      ·cases hx
   obtain⟨v,h1,h2⟩:=one
   refine⟨v::vs,VRs.cons h1 k1,?_⟩
   rw[List.mapM_cons,Sem.run_bind,h2]
   show(Sem.run P (_ >>= _) w)=_
   rw[Sem.run_bind,k2]
   simp
theorem yKh{fn:Func}{x:V}(hst:SR mu S B st w)(hf:FR mu S w fr a)(h:resV P fr st fn.results.toList=some x):∃v,VR mu S w x v/\(results fn a.tmps).run P w= .ok v w:=by
 obtain⟨xs,hxs,e⟩:=Option.map_eq_some_iff.1 h
 obtain⟨vs,k1,k2⟩:=xDe hst hf _ _ hxs
 have hrun:(results fn a.tmps).run P w= .ok (if h:vs.toArray.size=1 then vs.toArray[0] else .tuple vs.toArray) w:=by
  have e0:results fn a.tmps=(fn.results.mapM (rv a.tmps) >>= fun vs=>pure (if h:vs.size=1 then vs[0] else .tuple vs)):=by
   unfold results
   congr 1
  rw[e0,Array.mapM_eq_mapM_toList,Sem.run_bind]
  have e1:∀f:ResultVar->Sem Value,(Functor.map List.toArray (fn.results.toList.mapM f):Sem (Array Value))=(fn.results.toList.mapM f) >>= fun l=>pure l.toArray:=fun f=>(bind_pure_comp _ _).symm
  rw[e1,Sem.run_bind,k2]
  simp
 rw[hrun]
 refine⟨_,?_,rfl⟩
 subst e
 have hl:=k1.1
 match xs,vs,hl,k1 with
 | [],[],_,k1=>exact .tup [] [] rfl (fun _ h=>absurd h (by simp))
 | [x],[v],_,k1=>
   have:=k1.2 0 (by simp) (by simp)
   simpa using this
 | x::y::xs,v::u::vs,_,k1=>
   have:¬(v::u::vs).toArray.size=1:=by simp
   rw[dif_neg this]
   exact .tup _ _ k1.1 k1.2
end
theorem yPt{vargs:List Value}{n:Nat}(h:vargs.length<=n):(vargs.toArray++Array.replicate (n-vargs.toArray.size) Go.undef).size=n:=by simp;omega
theorem FR.enter{mu:Mu}{S:yEn}{w:World}{args:List V}{vargs:List Value}(h:VRs mu S w args vargs)(n:Nat):
  FR mu S w (frOf args) {tmps:=vargs.toArray++Array.replicate n Go.undef,defers:= []}:=fun t=>by
 unfold frOf
 rcases Nat.lt_or_ge t args.length with ht | ht
 ·rw[List.getElem?_eq_getElem ht]
  have ht':t<vargs.length:=by rw[←h.1];exact ht
  have:=h.2 t ht ht'
  have e:(vargs.toArray++Array.replicate n Go.undef).getD t Go.undef=vargs[t]:=by
   simp[ht',Nat.lt_add_right,Array.getElem_append_left]
  dsimp only[Option.getD]
  rw[e]
  exact this
 ·rw[List.getElem?_eq_none ht]
  exact .undef _
def xQC(P:Program)(l:List ResultVar)(post:V->Prop):AEx->Fr->St->Prop
 | .exit _,_,_=>False
 | _,fr,st=>∃r0 f r,resV P fr st l=some r0/\Fz st f r0 r/\post r
def xRC(P:Program)(l:List ResultVar)(post:V->St->Prop):AEx->Fr->St->Prop
 | .exit _,_,_=>False
 | _,fr,st=>∃r,resV P fr st l=some r/\post r st
theorem SR.none{S:yEn}{w:World}(hS:∀g i,S g i->g<w.heap.size)(c:Nat):SR yOr S (fun g=>w.heap.size<=g) ⟨fun _=>none,c⟩ w:=
 ⟨fun b k h=>(by cases h),fun b b' k k' L L' _ h=>(by cases h),fun b k L h=>(by cases h),hS⟩
theorem xMh{P:Program}{g:FuncId}{fn:Func}{c:Code}{args:List V}{post:V->Prop}(hf:P.funcs[g]?=some fn)(hb:fn.body=some c) (hn:(fn.name== "runtime.NumGoroutine")=false)
  (hl:args.length<=fn.ntmps) (h:AW P fn.ntmps c (xQC P fn.results.toList post) (frOf args) ⟨fun _=>none,0⟩):Con P g args post:=by
 refine⟨⟨fn,hf,hn,by rw[hb];rfl⟩,fun w S vargs hS hx=>calls_of_wp hf hb ?_⟩
 have hlv:vargs.length<=fn.ntmps:=by rw[←hx.1];exact hl
 have hA:AR yOr S (fun g=>w.heap.size<=g) w fn.ntmps (frOf args) ⟨fun _=>none,0⟩ {tmps:=vargs.toArray++Array.replicate (fn.ntmps-vargs.toArray.size) Go.undef,defers:= []} w:=
  ⟨yOr,S,.none hS 0,fun _ _=>⟨rfl,rfl⟩,FR.enter hx _,fun _ h=>h,Ev.refl,rfl,yPt hlv⟩
 refine Code.wp_mono (fun e a w' he=>?_) (h _ _ _ _ _ _ hA)
 have fin:∀fr st,AR yOr S (fun g=>w.heap.size<=g) w fn.ntmps fr st a w'->(∃r0 f r,resV P fr st fn.results.toList=some r0/\Fz st f r0 r/\post r)→
   a.defers= []/\∃v,(results fn a.tmps).run P w'= .ok v w'/\(∃v' r S',Ending.returned v= .returned v'/\post r/\Plain r/\VR yOr S' w' r v'/\(∀g i,S g i->S' g i)/\(∀g i,S' g i->S g i\/w.heap.size<=g)/\(∀g i,S' g i->g<w'.heap.size)/\Below w.heap.size w w'):=by
  rintro fr st ⟨mu,S',h1,h2,h3,h4,h5,h6,h7⟩ ⟨r0,f,r,hr,hz,hp⟩
  obtain⟨v,hv,hrun⟩:=yKh h1 h3 hr
  obtain⟨k1,k2⟩:=hz.sound (S':=yFE mu S' st f) (mu':=yOr) h1 hv (fun _ _ h=> .inl h) (fun b k L hk hL hm i q1 q2=> .inr ⟨b,k,L,hk,hL,hm,rfl,q1,q2⟩)
  refine⟨h6,v,hrun,v,r,_,rfl,hp,k2,k1,fun g i hs=> .inl (h5.sub g i hs),fun g i hs=>?_,(h1.lockF f).sb,h5.below.below⟩
  rcases yH2 h1 f g i hs with hs | hs
  ·exact h5.new g i hs
  ·exact .inr hs
 cases e with
 | normal=>obtain⟨fr,st,k1,k2⟩:=he;exact fin fr st k1 k2
 | ret=>obtain⟨fr,st,k1,k2⟩:=he;exact fin fr st k1 k2
 | exit i=>obtain⟨fr,st,k1,k2⟩:=he;exact k2.elim
 | _=>exact he.elim
theorem xLV{P:Program}{g:FuncId}{fn:Func}{c:Code}{args:List V}{st0:St}{post:V->St->Prop}(hf:P.funcs[g]?=some fn)(hb:fn.body=some c) (hn:(fn.name== "runtime.NumGoroutine")=false)
  (hl:args.length<=fn.ntmps) (h:AW P fn.ntmps c (xRC P fn.results.toList post) (frOf args) st0):xOf P g args st0 post:=by
 refine⟨⟨fn,hf,hn,by rw[hb];rfl⟩,fun mu0 S0 B w vargs h1 h2 h3 hx=>calls_of_wp hf hb ?_⟩
 have hlv:vargs.length<=fn.ntmps:=by rw[←hx.1];exact hl
 have hA:AR mu0 S0 B w fn.ntmps (frOf args) st0 {tmps:=vargs.toArray++Array.replicate (fn.ntmps-vargs.toArray.size) Go.undef,defers:= []} w:=
  ⟨mu0,S0,h1,h2,FR.enter hx _,h3,Ev.refl,rfl,yPt hlv⟩
 refine Code.wp_mono (fun e a w' he=>?_) (h _ _ _ _ _ _ hA)
 have fin:∀fr st,AR mu0 S0 B w fn.ntmps fr st a w'->(∃r,resV P fr st fn.results.toList=some r/\post r st)→
   a.defers= []/\∃v,(results fn a.tmps).run P w'= .ok v w'/\(∃v' r st' mu' S',Ending.returned v= .returned v'/\post r st'/\SR mu' S' B st' w'/\FrA mu' st'/\VR mu' S' w' r v'/\Ev mu0 S0 B w mu' S' w'):=by
  rintro fr st ⟨mu,S',h1,h2,h3,h4,h5,h6,h7⟩ ⟨r,hr,hp⟩
  obtain⟨v,hv,hrun⟩:=yKh h1 h3 hr
  exact⟨h6,v,hrun,v,r,st,mu,S',rfl,hp,h1,h2,hv,h5⟩
 cases e with
 | normal=>obtain⟨fr,st,k1,k2⟩:=he;exact fin fr st k1 k2
 | ret=>obtain⟨fr,st,k1,k2⟩:=he;exact fin fr st k1 k2
 | exit i=>obtain⟨fr,st,k1,k2⟩:=he;exact k2.elim
 | _=>exact he.elim
end Go.Proofs.YtakljpcmbpaeaaaGreat
