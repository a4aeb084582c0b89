/- The awp calculus, 13: values without names, frozen values, contracts, calls. -/
import Derived.Test.YtakljpcmbpaeaaaGreatMountPlaysM14
set_option linter.unusedSimpArgs false
set_option linter.unusedVariables false
namespace Go.Proofs.YtakljpcmbpaeaaaGreat
open Go.RowKit
inductive Plain:V->Prop
 | undef:Plain .undef
 | bool (b:Bool):Plain (.bool b)
 | int (k:IntKind) (n:Int):Plain (.int k n)
 | str (s:ByteArray):Plain (.str s)
 | sl (es:List (List V)) (full:Bool) (h:∀r∈es,∀x∈r,Plain x):Plain (.sl es full)
 | tp (cs:List V) (h:∀x∈cs,Plain x):Plain (.tp cs)
 | nilp:Plain .nilp
 | fn (f:Fn) (first caps:List V) (h:∀x∈first,Plain x) (h':∀x∈caps,Plain x):Plain (.fn f first caps)
 | nilfn:Plain .nilfn
 | agg (cs:List V) (h:∀x∈cs,Plain x):Plain (.agg cs)
 | tup (cs:List V) (h:∀x∈cs,Plain x):Plain (.tup cs)
inductive Sc:V->Prop
 | bool (b:Bool):Sc (.bool b)
 | int (k:IntKind) (n:Int):Sc (.int k n)
 | str (s:ByteArray):Sc (.str s)
 | nilp:Sc .nilp
 | nilfn:Sc .nilfn
 | agg (cs:List V) (h:∀x∈cs,Sc x):Sc (.agg cs)
 | tup (cs:List V) (h:∀x∈cs,Sc x):Sc (.tup cs)
inductive Fz (st:St) (f:Nat->Nat):V->V->Prop
 | plain (x:V) (h:Plain x):Fz st f x x
 | bs (b i n cap:Nat) (k:Blk') (ys:List (List V)) (hk:st.get b=some k) (hle:i+n<=k.es.length) (hf:i+n<=f b) (hl:ys.length=n)
  (hr:∀a (ha:i+a<k.es.length) (ha':a<ys.length),ys[a].length=k.es[i+a].length)
  (h:∀a (ha:i+a<k.es.length) (ha':a<ys.length) c (hc:c<k.es[i+a].length) (hc':c<ys[a].length),Fz st f k.es[i+a][c] ys[a][c]):Fz st f (.bs b i n cap) (.sl ys false)
 | weak (es:List (List V)) (full:Bool) (h:Plain (.sl es full)):Fz st f (.sl es full) (.sl es false)
 | ptr (b i j:Nat) (k:Blk') (ys:List V) (hk:st.get b=some k) (hi:i<k.es.length) (hf:i<f b) (hl:j+ys.length=k.es[i].length)
  (h:∀c (hc:j+c<k.es[i].length) (hc':c<ys.length),Fz st f k.es[i][j+c] ys[c]):Fz st f (.ptr b i j) (.tp ys)
 | agg (cs ds:List V) (hl:cs.length=ds.length) (h:∀j (hj:j<cs.length) (hj':j<ds.length),Fz st f cs[j] ds[j]):Fz st f (.agg cs) (.agg ds)
 | tup (cs ds:List V) (hl:cs.length=ds.length) (h:∀j (hj:j<cs.length) (hj':j<ds.length),Fz st f cs[j] ds[j]):Fz st f (.tup cs) (.tup ds)
 | fn (g:Fn) (as' bs cs ds:List V) (hl:as'.length=bs.length) (h:∀j (hj:j<as'.length) (hj':j<bs.length),Fz st f as'[j] bs[j])
  (hl':cs.length=ds.length) (h':∀j (hj:j<cs.length) (hj':j<ds.length),Fz st f cs[j] ds[j]):Fz st f (.fn g as' cs) (.fn g bs ds)
def Fzs(st:St)(f:Nat->Nat)(xs ys:List V):Prop:=xs.length=ys.length/\∀j (hj:j<xs.length) (hj':j<ys.length),Fz st f xs[j] ys[j]
def St.lockF(st:St)(f:Nat->Nat):St:=⟨fun b=>(st.get b).map fun k=>⟨k.es,k.sz,max k.lk (min (f b) k.es.length)⟩,st.c⟩
def yFE(mu:Mu)(S:yEn)(st:St)(f:Nat->Nat):yEn:=fun g x=>S g x\/∃b k L,st.get b=some k/\mu b=some L/\L.mp=false/\g=L.g/\L.o<=x/\x<L.o+min (f b) k.es.length*L.sz
section
variable {mu mu' mu'':Mu} {S S' S'':yEn} {B:Dom} {st:St} {w w' w'':World} {fr:Fr} {a:Act}
theorem VR.plain{x:V}{v:Value}(h:VR mu S w x v)(hx:Plain x):VR mu' S w x v:=by
 induction h with
 | undef v=>exact .undef v
 | bool b=>exact .bool b
 | int k n=>exact .int k n
 | str s=>exact .str s
 | sl0 full A c hf=>exact .sl0 full A c hf
 | sl1 es full g o c sz vals hne hc hf hlen h1 h2 h3 _ ih=>
   cases hx with
   | sl _ _ hp=>exact .sl1 es full g o c sz vals hne hc hf hlen h1 h2 h3 fun i hi j hj=>ih i hi j hj (hp _ (List.getElem_mem hi) _ (List.getElem_mem hj))
 | bs=>cases hx
 | ptr=>cases hx
 | tp cs g o vals h1 h2 h3 _ ih=>
   cases hx with
   | tp _ hp=>exact .tp cs g o vals h1 h2 h3 fun j hj=>ih j hj (hp _ (List.getElem_mem hj))
 | nilp=>exact .nilp
 | fn f first caps fv cv hf hc _ _ ih1 ih2=>
   cases hx with
   | fn _ _ _ hp hp'=>exact .fn f first caps fv cv hf hc (fun j hj hj'=>ih1 j hj hj' (hp _ (List.getElem_mem hj))) (fun j hj hj'=>ih2 j hj hj' (hp' _ (List.getElem_mem hj)))
 | nilfn=>exact .nilfn
 | agg cs vs hl h1 _ ih=>
   cases hx with
   | agg _ hp=>exact .agg cs vs hl h1 fun j hj hj'=>ih j hj hj' (hp _ (List.getElem_mem hj))
 | tup cs vs hl _ ih=>
   cases hx with
   | tup _ hp=>exact .tup cs vs hl fun j hj hj'=>ih j hj hj' (hp _ (List.getElem_mem hj))
 | mp=>cases hx
 | ptr0=>cases hx
theorem VR.sc{x:V}{v:Value}(h:VR mu S w x v)(hx:Sc x):VR mu' S' w' x v:=by
 induction h with
 | bool b=>exact .bool b
 | int k n=>exact .int k n
 | str s=>exact .str s
 | nilp=>exact .nilp
 | nilfn=>exact .nilfn
 | agg cs vs hl h1 _ ih=>
   cases hx with
   | agg _ hp=>exact .agg cs vs hl h1 fun j hj hj'=>ih j hj hj' (hp _ (List.getElem_mem hj))
 | tup cs vs hl _ ih=>
   cases hx with
   | tup _ hp=>exact .tup cs vs hl fun j hj hj'=>ih j hj hj' (hp _ (List.getElem_mem hj))
 | _=>cases hx
theorem Fz.sound{f:Nat->Nat}{x y:V}{v:Value}(hst:SR mu S B st w)(hz:Fz st f x y)(hx:VR mu S w x v)(hS:∀g i,S g i->S' g i)
  (hL:∀b k L,st.get b=some k->mu b=some L->L.mp=false->∀i,L.o<=i->i<L.o+min (f b) k.es.length*L.sz->S' L.g i):VR mu' S' w y v/\Plain y:=by
 induction hz generalizing v with
 | plain x h=>exact⟨(hx.plain h).mono (fun _ _ h=>h) hS (fun _ _ _=>rfl),h⟩
 | bs b i n cap k ys hk hle hf hl hr h ih=>
   obtain⟨L,A,c,hmu,rfl,hn,hc,hA⟩:=hx.bs_inv
   have hm:=hx.bs_reg hmu
   obtain⟨L',hL',hbr,_⟩:=hst.loc b k hk
   rw[hmu] at hL';injection hL' with hL';subst hL'
   have hcell:∀a (ha:a<ys.length) c (hc:c<ys[a].length),∃u,w.cell? ⟨L.g,L.o+i*L.sz+a*L.sz+c,none⟩=some u/\u.oneCell'=true/\VR mu' S' w ys[a][c] u/\Plain ys[a][c]:=by
    intro a ha c hc
    have ha':i+a<k.es.length:=by omega
    have hc':c<k.es[i+a].length:=by rw[←hr a ha' ha];exact hc
    obtain⟨u,h1,h2,h3⟩:=hbr.cell hm (i+a) ha' c hc'
    obtain⟨h4,h5⟩:=ih a ha' ha c hc' hc h3
    exact⟨u,by rw[show L.o+i*L.sz+a*L.sz+c=L.o+(i+a)*L.sz+c by rw[Nat.add_mul];omega];exact h1,h2,h4,h5⟩
   have hpl:Plain (.sl ys false):= .sl _ _ fun r hr' x hx'=>by
    obtain⟨a,ha,rfl⟩:=List.getElem_of_mem hr'
    obtain⟨c,hc,rfl⟩:=List.getElem_of_mem hx'
    obtain⟨_,_,_,_,h5⟩:=hcell a ha c hc
    exact h5
   refine⟨?_,hpl⟩
   subst hl
   by_cases h0:ys.length=0
   ·have:ys= []:=List.eq_nil_of_length_eq_zero h0
    subst this
    exact .sl0 _ _ _ (fun h=>by cases h)
   ·rcases hA with hA | ⟨rfl,hlim⟩
    ·omega
    ·have hrow:∀a (ha:a<ys.length),ys[a].length=L.sz:=fun a ha=>by rw[hr a (by omega) ha];exact hbr.row _ _
     have hch:∃vals:Nat->Nat->Value,∀a (ha:a<ys.length) c (hc:c<ys[a].length),w.cell? ⟨L.g,L.o+i*L.sz+a*L.sz+c,none⟩=some (vals a c)/\(vals a c).oneCell'=true/\VR mu' S' w ys[a][c] (vals a c):=by
      refine⟨fun a c=>(w.cell? ⟨L.g,L.o+i*L.sz+a*L.sz+c,none⟩).getD Go.undef,fun a ha c hc=>?_⟩
      obtain⟨u,h1,h2,h3,_⟩:=hcell a ha c hc
      have e:(w.cell? ⟨L.g,L.o+i*L.sz+a*L.sz+c,none⟩).getD Go.undef=u:=by rw[h1];rfl
      dsimp only
      rw[e]
      exact⟨h1,h2,h3⟩
     obtain⟨vals,hvals⟩:=hch
     refine .sl1 ys false _ _ _ L.sz vals (by omega) (by omega) (fun h=>by cases h) hrow (fun a c ha hc=>?_) (fun a c ha hc=>(hvals a ha c (by rw[hrow a ha];exact hc)).1) (fun a c ha hc=>(hvals a ha c (by rw[hrow a ha];exact hc)).2.1)
      (fun a ha c hc=>(hvals a ha c hc).2.2)
     refine hL b k L hk hmu hm _ (by omega) ?_
     have h1:(i+a+1)*L.sz<=min (f b) k.es.length*L.sz:=Nat.mul_le_mul_right _ (by omega)
     rw[Nat.succ_mul,Nat.add_mul] at h1
     omega
 | weak es full h=>
   have hv:=(hx.plain (mu':=mu') h).mono (fun _ _ h=>h) hS (fun _ _ _=>rfl)
   have hp:Plain (.sl es false):=by cases h with | sl _ _ h=>exact .sl _ _ h
   refine⟨?_,hp⟩
   cases hv with
   | sl0 _ A c hf=>exact .sl0 _ A c (fun h=>by cases h)
   | sl1 _ _ g o c sz vals hne hc hf hlen h1 h2 h3 h4=>exact .sl1 es false g o c sz vals hne hc (fun h=>by cases h) hlen h1 h2 h3 h4
 | ptr b i j k ys hk hi hf hl h ih=>
   obtain⟨L,hmu,rfl⟩:=hx.ptr_inv
   have hm:=hx.ptr_reg hmu
   obtain⟨L',hL',hbr,_⟩:=hst.loc b k hk
   rw[hmu] at hL';injection hL' with hL';subst hL'
   have hrow:=hbr.row i hi
   have hcell:∀c (hc:c<ys.length),∃u,w.cell? ⟨L.g,L.o+i*L.sz+j+c,none⟩=some u/\u.oneCell'=true/\VR mu' S' w ys[c] u/\Plain ys[c]:=by
    intro c hc
    have hc2:j+c<k.es[i].length:=by omega
    obtain⟨u,h1,h2,h3⟩:=hbr.cell hm i hi (j+c) hc2
    obtain⟨h4,h5⟩:=ih c hc2 hc h3
    exact⟨u,by rw[show L.o+i*L.sz+j+c=L.o+i*L.sz+(j+c) by omega];exact h1,h2,h4,h5⟩
   have hpl:Plain (.tp ys):= .tp _ fun x hx'=>by
    obtain⟨c,hc,rfl⟩:=List.getElem_of_mem hx'
    obtain⟨_,_,_,_,h5⟩:=hcell c hc
    exact h5
   refine⟨?_,hpl⟩
   have hch:∃vals:Nat->Value,∀c (hc:c<ys.length),w.cell? ⟨L.g,L.o+i*L.sz+j+c,none⟩=some (vals c)/\(vals c).oneCell'=true/\VR mu' S' w ys[c] (vals c):=by
    refine⟨fun c=>(w.cell? ⟨L.g,L.o+i*L.sz+j+c,none⟩).getD Go.undef,fun c hc=>?_⟩
    obtain⟨u,h1,h2,h3,_⟩:=hcell c hc
    have e:(w.cell? ⟨L.g,L.o+i*L.sz+j+c,none⟩).getD Go.undef=u:=by rw[h1];rfl
    dsimp only
    rw[e]
    exact⟨h1,h2,h3⟩
   obtain⟨vals,hvals⟩:=hch
   refine .tp ys _ _ vals (fun c hc=>?_) (fun c hc=>(hvals c hc).1) (fun c hc=>(hvals c hc).2.1) (fun c hc=>(hvals c hc).2.2)
   refine hL b k L hk hmu hm _ (by omega) ?_
   have h1:(i+1)*L.sz<=min (f b) k.es.length*L.sz:=Nat.mul_le_mul_right _ (by omega)
   rw[Nat.succ_mul] at h1
   omega
 | agg cs ds hl h ih=>
   cases hx with
   | agg _ vs hl' h1 hv=>
     refine⟨.agg ds vs (by omega) h1 fun j hj hj'=>(ih j (by omega) hj (hv j (by omega) hj')).1,.agg ds fun x hx=>?_⟩
     obtain⟨j,hj,rfl⟩:=List.getElem_of_mem hx
     exact(ih j (by omega) hj (hv j (by omega) (by omega))).2
 | tup cs ds hl h ih=>
   cases hx with
   | tup _ vs hl' hv=>
     refine⟨.tup ds vs (by omega) fun j hj hj'=>(ih j (by omega) hj (hv j (by omega) hj')).1,.tup ds fun x hx=>?_⟩
     obtain⟨j,hj,rfl⟩:=List.getElem_of_mem hx
     exact(ih j (by omega) hj (hv j (by omega) (by omega))).2
 | fn g as' bs cs ds hl h hl' h' ih ih'=>
   cases hx with
   | fn _ _ _ fv cv k1 k2 hv hv'=>
     refine⟨.fn g bs ds fv cv (by omega) (by omega) (fun j hj hj'=>(ih j (by omega) hj (hv j (by omega) hj')).1) (fun j hj hj'=>(ih' j (by omega) hj (hv' j (by omega) hj')).1),.fn g bs ds (fun x hx=>?_) fun x hx=>?_⟩
     ·obtain⟨j,hj,rfl⟩:=List.getElem_of_mem hx
      exact(ih j (by omega) hj (hv j (by omega) (by omega))).2
     ·obtain⟨j,hj,rfl⟩:=List.getElem_of_mem hx
      exact(ih' j (by omega) hj (hv' j (by omega) (by omega))).2
theorem Sc.plain{x:V}(h:Sc x):Plain x:=by
 induction h with
 | bool b=>exact .bool b
 | int k n=>exact .int k n
 | str s=>exact .str s
 | nilp=>exact .nilp
 | nilfn=>exact .nilfn
 | agg cs _ ih=>exact .agg cs ih
 | tup cs _ ih=>exact .tup cs ih
theorem Fzs.sound{f:Nat->Nat}{xs ys:List V}{vs:List Value}(hst:SR mu S B st w)(hz:Fzs st f xs ys)(hx:VRs mu S w xs vs)(hS:∀g i,S g i->S' g i)
  (hL:∀b k L,st.get b=some k->mu b=some L->L.mp=false->∀i,L.o<=i->i<L.o+min (f b) k.es.length*L.sz->S' L.g i):VRs mu' S' w ys vs:=
 ⟨by rw[←hz.1];exact hx.1,fun j hj hj'=>(Fz.sound hst (hz.2 j (by rw[hz.1];exact hj) hj) (hx.2 j (by rw[hz.1];exact hj) hj') hS hL).1⟩
theorem SR.lockF(h:SR mu S B st w)(f:Nat->Nat):SR mu (yFE mu S st f) B (st.lockF f) w:=by
 have hget:∀x kx,(st.lockF f).get x=some kx->∃k,st.get x=some k/\kx=⟨k.es,k.sz,max k.lk (min (f x) k.es.length)⟩:=fun x kx hx=>by
  obtain⟨k,hk,rfl⟩:=Option.map_eq_some_iff.1 hx
  exact⟨k,hk,rfl⟩
 have hSS:∀g i,S g i->yFE mu S st f g i:=fun _ _ h=> .inl h
 refine⟨fun x kx hx=>?_,fun x x' kx kx' L L' hne hx hx' hL hL'=>?_,fun x kx L hx hL g i he hs=>?_,fun g i hs=>?_⟩
 ·obtain⟨k,hk,rfl⟩:=hget x kx hx
  obtain⟨L,hL,hbr,hg⟩:=h.loc x k hk
  have hlk:=hbr.lk
  refine⟨L,hL,⟨hbr.sz,hbr.len,by dsimp only;omega,hbr.row,fun i h1 h2=>hbr.room i ?_ h2,(hbr.mono (fun _ _ h=>h) hSS).cell,(hbr.mono (fun _ _ h=>h) hSS).map⟩,hg⟩
  ·dsimp only at h1
   have:k.lk*L.sz<=max k.lk (min (f x) k.es.length)*L.sz:=Nat.mul_le_mul_right _ (Nat.le_max_left _ _)
   omega
 ·obtain⟨k,hk,_⟩:=hget x kx hx
  obtain⟨k',hk',_⟩:=hget x' kx' hx'
  exact h.gdis x x' k k' L L' hne hk hk' hL hL'
 ·obtain⟨k,hk,rfl⟩:=hget x kx hx
  have hm:k.lk*L.sz<=max k.lk (min (f x) k.es.length)*L.sz:=Nat.mul_le_mul_right _ (Nat.le_max_left _ _)
  have hm2:min (f x) k.es.length*L.sz<=max k.lk (min (f x) k.es.length)*L.sz:=Nat.mul_le_mul_right _ (Nat.le_max_right _ _)
  have he2:=he.2.1
  dsimp only at he2
  rcases hs with hs | ⟨b,k',L',hk',hL',hm',h1,h2,h3⟩
  ·exact h.exS x k L hk hL g i ⟨he.1,by omega,he.2.2⟩ hs
  ·by_cases e:x=b
   ·subst e
    rw[hk] at hk';injection hk' with hk';subst hk'
    rw[hL] at hL';injection hL' with hL';subst hL'
    omega
   ·obtain⟨L'',hL'',hbr',_⟩:=h.loc b k' hk'
    rw[hL'] at hL'';injection hL'' with hL'';subst hL''
    have:min (f b) k'.es.length*L'.sz<=L'.lim*L'.sz:=Nat.mul_le_mul_right _ (by have:=hbr'.len hm';omega)
    exact h.dis x b k k' L L' e hk hk' hL hL' g i ⟨he.1,by omega,he.2.2⟩ ⟨h1,h2,by omega⟩
 ·rcases hs with hs | ⟨b,k',L',hk',hL',hm',h1,h2,h3⟩
  ·exact h.sb g i hs
  ·obtain⟨L'',hL'',hbr',hg⟩:=h.loc b k' hk'
   rw[hL'] at hL'';injection hL'' with hL'';subst hL''
   have hp:0<L'.lim:=by
    have:=hbr'.len hm'
    rcases Nat.eq_zero_or_pos L'.lim with h0 | h0
    ·have:min (f b) k'.es.length=0:=by omega
     rw[this,Nat.zero_mul] at h3;omega
    ·exact h0
   rw[h1];exact(hg (.inl hp)).2
theorem yH2(h:SR mu S B st w)(f:Nat->Nat):∀g i,yFE mu S st f g i->S g i\/B g:=fun g i hs=>by
 rcases hs with hs | ⟨b,k',L',hk',hL',hm',h1,h2,h3⟩
 ·exact .inl hs
 ·obtain⟨L'',hL'',hbr',hg⟩:=h.loc b k' hk'
  rw[hL'] at hL'';injection hL'' with hL'';subst hL''
  have hp:0<L'.lim:=by
   have:=hbr'.len hm'
   rcases Nat.eq_zero_or_pos L'.lim with h0 | h0
   ·have:min (f b) k'.es.length=0:=by omega
    rw[this,Nat.zero_mul] at h3;omega
   ·exact h0
  rw[h1];exact .inr (hg (.inl hp)).1
end
def yKl(P:Program)(g:FuncId):Prop:=∃fn,P.funcs[g]?=some fn/\(fn.name== "runtime.NumGoroutine")=false/\fn.body.isNone=false
def yOr:Mu:=fun _=>none
def Con(P:Program)(g:FuncId)(args:List V)(post:V->Prop):Prop:=
 yKl P g/\∀(w:World) (S:yEn) (vargs:List Value),(∀g i,S g i->g<w.heap.size)->VRs yOr S w args vargs→
  Calls P g vargs.toArray w fun e w'=>∃v r S',e= .returned v/\post r/\Plain r/\VR yOr S' w' r v/\(∀g i,S g i->S' g i)/\(∀g i,S' g i->S g i\/w.heap.size<=g)/\(∀g i,S' g i->g<w'.heap.size)/\Below w.heap.size w w'
structure Ev (mu:Mu) (S:yEn) (B:Dom) (w:World) (mu':Mu) (S':yEn) (w':World):Prop where
 mono:∀b L,mu b=some L->mu' b=some L
 sub:∀g i,S g i->S' g i
 new:∀g i,S' g i->S g i\/B g
 keeps:yQF S w w'
 below:Off B w w'
def xOf(P:Program)(g:FuncId)(args:List V)(st:St)(post:V->St->Prop):Prop:=
 yKl P g/\∀(mu:Mu) (S:yEn) (B:Dom) (w:World) (vargs:List Value),SR mu S B st w->FrA mu st->yV2 B w->VRs mu S w args vargs→
  Calls P g vargs.toArray w fun e w'=>∃v r st' mu' S',e= .returned v/\post r st'/\SR mu' S' B st' w'/\FrA mu' st'/\VR mu' S' w' r v/\Ev mu S B w mu' S' w'
def xTC(P:Program)(g:FuncId)(args:List V)(r:V):Prop:=
 yKl P g/\∀(w:World) (S:yEn) (vargs:List Value),(∀g i,S g i->g<w.heap.size)->VRs yOr S w args vargs→
  Calls P g vargs.toArray w fun e w'=>∃v S',e= .returned v/\Plain r/\VR yOr S' w' r v/\(∀g i,S' g i->w.heap.size<=g/\g<w'.heap.size)/\Below w.heap.size w w'
def xMT(P:Program)(g:FuncId)(args:List V)(st:St)(K:V->St->Prop):Prop:=
 (∃post,(∀x∈args,Plain x)/\Con P g args post/\∀r,post r->K r st)\/
 (∃f args' post,Fzs st f args args'/\Con P g args' post/\∀r,post r->Sc r/\K r st)\/
 (∃f args' post,Fzs st f args args'/\Con P g args' post/\∀r,post r->K r (st.lockF f))\/
 (∃f args' r,Fzs st f args args'/\xTC P g args' r/\K r st)\/
 (∃post:V->St->Prop,xOf P g args st post/\∀r st',post r st'->K r st')
section
variable {mu mu' mu'':Mu} {S S' S'':yEn} {B:Dom} {st:St} {w w' w'':World} {fr:Fr} {a:Act}
theorem Ev.refl:Ev mu S B w mu S w:=⟨fun _ _ h=>h,fun _ _ h=>h,fun _ _ h=> .inl h,fun _ _ _=>rfl,Off.refl _ _⟩
theorem Ev.trans(h:Ev mu S B w mu' S' w')(k:Ev mu' S' B w' mu'' S'' w''):Ev mu S B w mu'' S'' w'':=
 ⟨fun b L hb=>k.mono b L (h.mono b L hb),fun g i hs=>k.sub g i (h.sub g i hs),fun g i hs=>by
  rcases k.new g i hs with h1 | h1
  ·exact h.new g i h1
  ·exact .inr h1,fun g i hs=>(k.keeps g i (h.sub g i hs)).trans (h.keeps g i hs),h.below.trans k.below⟩
theorem Out.ev{c:Nat}(h:Out mu S B w c mu' w'):Ev mu S B w mu' S w':=⟨h.mono,fun _ _ h=>h,fun _ _ h=> .inl h,h.keeps,h.below⟩
theorem xIe{P:Program}{g:FuncId}{args:List V}{vargs:List Value}{K:V->St->Prop}(h:SR mu S B st w)(hf:FrA mu st)(hB:yV2 B w)(hx:VRs mu S w args vargs)(hc:xMT P g args st K):
  yKl P g/\Calls P g vargs.toArray w fun e w'=>∃v r st' mu' S',e= .returned v/\K r st'/\SR mu' S' B st' w'/\FrA mu' st'/\VR mu' S' w' r v/\Ev mu S B w mu' S' w':=by
 rcases hc with ⟨post,hp,⟨hcall,hcon⟩,hK⟩ | ⟨f,args',post,hz,⟨hcall,hcon⟩,hK⟩ | ⟨f,args',post,hz,⟨hcall,hcon⟩,hK⟩ | ⟨f,args',r,hz,⟨hcall,hcon⟩,hK⟩ | ⟨post,⟨hcall,hcon⟩,hK⟩
 ·refine⟨hcall,(hcon w S vargs h.sb ⟨hx.1,fun j hj hj'=>(hx.2 j hj hj').plain (hp _ (List.getElem_mem hj))⟩).mono ?_⟩
  rintro e w' ⟨v,r,S',rfl,hpr,hpl,hr,hsub,hnew,hb,hbel⟩
  have hsr:=h.keep hbel hsub hnew hb
  exact⟨v,r,st,mu,S',rfl,hK r hpr,hsr,hf,hr.plain hpl,⟨fun _ _ h=>h,hsub,fun g i hs=>(hnew g i hs).imp id (fun h1=>hB _ h1),fun g i hs=>hbel.cell (p:=⟨g,i,none⟩) (h.sb g i hs),Off.of_below hbel⟩⟩
 ·have hall:∀g i,S g i->g<w.heap.size:=h.sb
  have hLall:∀b k L,st.get b=some k->mu b=some L->L.mp=false->∀i,L.o<=i->i<L.o+min (f b) k.es.length*L.sz->L.g<w.heap.size:=fun b k L hk hL hm i h1 h2=>by
   have hsb:=(h.lockF f).sb L.g i (.inr ⟨b,k,L,hk,hL,hm,rfl,h1,h2⟩)
   exact hsb
  refine⟨hcall,(hcon w (fun g _=>g<w.heap.size) vargs (fun _ _ h=>h) (Fzs.sound h hz hx hall (fun b k L hk hL hm i h1 h2=>hLall b k L hk hL hm i h1 h2))).mono ?_⟩
  rintro e w' ⟨v,r,S',rfl,hpr,hpl,hr,hsub,hnew,hb,hbel⟩
  obtain⟨hsc,hk⟩:=hK r hpr
  have hsr:=h.keep hbel (fun _ _ h=>h) (fun _ _ h=> .inl h) (fun g i hs=>Nat.lt_of_lt_of_le (h.sb g i hs) hbel.size)
  exact⟨v,r,st,mu,S,rfl,hk,hsr,hf,hr.sc hsc,⟨fun _ _ h=>h,fun _ _ h=>h,fun _ _ h=> .inl h,fun g i hs=>hbel.cell (p:=⟨g,i,none⟩) (h.sb g i hs),Off.of_below hbel⟩⟩
 ·have hl:=h.lockF f
  have hsubL:∀g i,S g i->yFE mu S st f g i:=fun _ _ h=> .inl h
  refine⟨hcall,(hcon w (yFE mu S st f) vargs hl.sb (Fzs.sound h hz hx hsubL (fun b k L hk hL hm i h1 h2=> .inr ⟨b,k,L,hk,hL,hm,rfl,h1,h2⟩))).mono ?_⟩
  rintro e w' ⟨v,r,S',rfl,hpr,hpl,hr,hsub,hnew,hb,hbel⟩
  have hsr:=hl.keep hbel hsub hnew hb
  refine⟨v,r,st.lockF f,mu,S',rfl,hK r hpr,hsr,fun b hb=>⟨(hf b hb).1,?_⟩,hr.plain hpl,⟨fun _ _ h=>h,fun g i hs=>hsub g i (hsubL g i hs),fun g i hs=>?_,fun g i hs=>hbel.cell (p:=⟨g,i,none⟩) (h.sb g i hs),Off.of_below hbel⟩⟩
  ·show(st.get b).map _=none
   rw[(hf b hb).2];rfl
  ·rcases hnew g i hs with h1 | h1
   ·exact yH2 h f g i h1
   ·exact .inr (hB _ h1)
 ·have hall:∀g i,S g i->g<w.heap.size:=h.sb
  have hLall:∀b k L,st.get b=some k->mu b=some L->L.mp=false->∀i,L.o<=i->i<L.o+min (f b) k.es.length*L.sz->L.g<w.heap.size:=fun b k L hk hL hm i h1 h2=>
   (h.lockF f).sb L.g i (.inr ⟨b,k,L,hk,hL,hm,rfl,h1,h2⟩)
  refine⟨hcall,(hcon w (fun g _=>g<w.heap.size) vargs (fun _ _ h=>h) (Fzs.sound h hz hx hall (fun b k L hk hL hm i h1 h2=>hLall b k L hk hL hm i h1 h2))).mono ?_⟩
  rintro e w' ⟨v,S',rfl,hpl,hr,hnew,hbel⟩
  have hsr:=h.keep (S':=fun g i=>S g i\/S' g i) hbel (fun _ _ h=> .inl h) (fun g i hs=>hs.imp id fun h=>(hnew g i h).1) (fun g i hs=>hs.elim (fun h1=>Nat.lt_of_lt_of_le (h.sb g i h1) hbel.size) fun h1=>(hnew g i h1).2)
  exact⟨v,r,st,mu,_,rfl,hK,hsr,hf,(hr.plain hpl).mono (fun _ _ h=>h) (fun _ _ h=> .inr h) (fun _ _ _=>rfl),⟨fun _ _ h=>h,fun _ _ h=> .inl h,fun g i hs=>hs.imp id fun h1=>hB _ (hnew g i h1).1,fun g i hs=>hbel.cell (p:=⟨g,i,none⟩) (h.sb g i hs),Off.of_below hbel⟩⟩
 ·refine⟨hcall,(hcon mu S B w vargs h hf hB hx).mono ?_⟩
  rintro e w' ⟨v,r,st',mu',S',rfl,hpr,h1⟩
  exact⟨v,r,st',mu',S',rfl,hK r st' hpr,h1⟩
theorem xFd{P:Program}{o:Oper}{f:Operand}{args:Array Operand}{ats:Array TypeId}{g:FuncId}{fv cv:Array Value}(hc:yKl P g)(ho:o.op= .call ⟨.value f,args,ats⟩)(hf:a.eval f= .func (.func g) fv cv):
  (execOp a.eval o).run P w= .ok (.enter g (fv++args.map a.eval++cv)) w:=by
 obtain⟨fn,h1,h2,h3⟩:=hc
 obtain⟨dst,op,ty,pos,after,guard⟩:=o
 dsimp only at ho
 subst ho
 show((do let d ←Deferred.ofValue (a.eval f) (args.map a.eval);invoke d.target d.args):Sem Next).run P w=_
 rw[hf]
 have h2':¬fn.name= "runtime.NumGoroutine" := by simpa using h2
 have h3':¬fn.body=none:=fun e=>by rw[e] at h3;cases h3
 simp[Deferred.ofValue,invoke,callFunc,h1,h2',h3']
end
end Go.Proofs.YtakljpcmbpaeaaaGreat
