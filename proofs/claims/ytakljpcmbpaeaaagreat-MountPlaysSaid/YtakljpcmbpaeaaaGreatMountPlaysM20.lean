/- The awp calculus, 17: regions that draw their order: the walk in the text's order with its footprints; that it serves. -/
import Derived.Test.YtakljpcmbpaeaaaGreatMountPlaysM19
set_option linter.unusedSimpArgs false
set_option linter.unusedVariables false
namespace Go.Proofs.YtakljpcmbpaeaaaGreat
open Go.RowKit
def yE3(l:List Nat):Nat->Bool:=fun b=>l.any (Nat.beq b)
def xLC(l m:List Nat):Bool:=l.all fun b=> !(yE3 m b)
def yLe(o:Oper)(acc:List (Nat×List Nat×List Nat))(T W:List Nat):Bool:=
 acc.all fun p=>(o.after.any fun e=>Region.binds .any e&&Nat.beq e.on p.1) || (xLC p.2.2 T&&xLC W p.2.1)
def dlist(P:Program)(ops:Array Oper)(n0:Nat)(K:Fr->Gs->Prop):List Oper->Nat->List (Nat×List Nat×List Nat)->Fr->Gs->Prop
 | [],_,_,fr,g=>K fr g
 | o::r,k,acc,fr,g=>match wantedA ops o fr with
   | none=>False
   | some true=>∃T W x u,yLe o acc T W=true/\dop P o.op fr (n0+k) (yE3 T) (yE3 W) g x u/\dlist P ops n0 K r (k+1) ((k,T,W)::acc) (fr.put o.dst x) (ov (yE3 W) u g)
   | some false=>dlist P ops n0 K r (k+1) acc (fr.put o.dst (.tup [])) g
def nb(o:Oper)(i:Nat):Prop:=∀e∈o.after,Region.binds .any e=true->e.on≠i
section
variable {P:Program} {ops:Array Oper} {n0:Nat} {K:Fr->Gs->Prop}
theorem yE4{l:List Nat}{b:Nat}:yE3 l b=true↔b∈l:=by
 unfold yE3
 rw[List.any_eq_true]
 exact⟨fun⟨c,hc,h⟩=>by rw[Nat.eq_of_beq_eq_true h];exact hc,fun h=>⟨b,h,Nat.beq_refl b⟩⟩
theorem xDJ{l m:List Nat}(h:xLC l m=true){b:Nat}(hb:yE3 l b=true):yE3 m b=false:=by
 have:=List.all_eq_true.1 h b (yE4.1 hb)
 simpa using this
theorem xLZ{o:Oper}{acc:List (Nat×List Nat×List Nat)}{T W:List Nat}(h:yLe o acc T W=true){p:Nat×List Nat×List Nat}(hp:p∈acc)(hn:nb o p.1):
  (∀b,yE3 p.2.2 b=true->yE3 T b=false)/\∀b,yE3 W b=true->yE3 p.2.1 b=false:=by
 have h1:=List.all_eq_true.1 h p hp
 rw[Bool.or_eq_true] at h1
 rcases h1 with h1 | h1
 ·obtain⟨e,he,hb⟩:=Array.any_eq_true'.1 h1
  rw[Bool.and_eq_true] at hb
  exact absurd (Nat.eq_of_beq_eq_true hb.2) (hn e he hb.1)
 ·rw[Bool.and_eq_true] at h1
  exact⟨fun b hb=>xDJ h1.1 hb,fun b hb=>xDJ h1.2 hb⟩
theorem yTK{TT WW TT' WW':Nat->Nat->Bool}:∀(l:List Oper) (k:Nat) (fr:Fr) (g:Gs),(∀m,k<=m->TT m=TT' m/\WW m=WW' m)->dlistF P ops TT WW n0 K l k fr g->dlistF P ops TT' WW' n0 K l k fr g
 | [],_,_,_,_,h=>h
 | o::r,k,fr,g,he,h=>by
   unfold dlistF at h ⊢
   split at h
   ·exact h.elim
   ·obtain⟨x,u,h1,h2⟩:=h
    obtain⟨e1,e2⟩:=he k (Nat.le_refl _)
    rw[←e1,←e2]
    exact⟨x,u,h1,yTK r (k+1) _ _ (fun m hm=>he m (by omega)) h2⟩
   ·exact yTK r (k+1) _ _ (fun m hm=>he m (by omega)) h
theorem xMl:∀(l:List Oper) (k:Nat) (acc:List (Nat×List Nat×List Nat)) (fr:Fr) (g:Gs),dlist P ops n0 K l k acc fr g→
  ∃TT WW,dlistF P ops TT WW n0 K l k fr g/\(∀j o,l[j]?=some o->∀p∈acc,nb o p.1->(∀b,yE3 p.2.2 b=true->TT (k+j) b=false)/\∀b,WW (k+j) b=true->yE3 p.2.1 b=false)/\
   ∀i j o,i<j->l[j]?=some o->nb o (k+i)->NC TT WW (k+i) (k+j):=by
 intro l
 induction l with
 | nil=>exact fun k acc fr g h=>⟨fun _ _=>false,fun _ _=>false,h,by simp,by simp⟩
 | cons o r ih=>
   intro k acc fr g h
   unfold dlist at h
   have main:∀(acc':List (Nat×List Nat×List Nat)) (fr':Fr) (g':Gs) (Tk Wk:Nat->Bool),dlist P ops n0 K r (k+1) acc' fr' g'→
     (∀p∈acc,p∈acc')->((∀b,Tk b=false)/\(∀b,Wk b=false)\/∃T W,Tk=yE3 T/\Wk=yE3 W/\(k,T,W)∈acc'/\yLe o acc T W=true)→
     (∀TT WW,TT k=Tk->WW k=Wk->dlistF P ops TT WW n0 K r (k+1) fr' g'->dlistF P ops TT WW n0 K (o::r) k fr g)→
     ∃TT WW,dlistF P ops TT WW n0 K (o::r) k fr g/\(∀j o',(o::r)[j]?=some o'->∀p∈acc,nb o' p.1->(∀b,yE3 p.2.2 b=true->TT (k+j) b=false)/\∀b,WW (k+j) b=true->yE3 p.2.1 b=false)/\
      ∀i j o',i<j->(o::r)[j]?=some o'->nb o' (k+i)->NC TT WW (k+i) (k+j):=by
    intro acc' fr' g' Tk Wk hd hacc hk hF
    obtain⟨TT,WW,h1,h2,h3⟩:=ih (k+1) acc' fr' g' hd
    refine⟨fun m=>if m=k then Tk else TT m,fun m=>if m=k then Wk else WW m,hF _ _ (by simp) (by simp) (yTK r (k+1) _ _ (fun m hm=>?_) h1),?_,?_⟩
    ·rw[if_neg (by omega),if_neg (by omega)];exact⟨rfl,rfl⟩
    ·intro j o' hj p hp hn
     cases j with
     | zero=>
       simp only[Nat.add_zero,if_true]
       simp only[List.getElem?_cons_zero,Option.some.injEq] at hj
       subst hj
       rcases hk with ⟨e1,e2⟩ | ⟨T,W,rfl,rfl,_,hok⟩
       ·exact⟨fun b _=>e1 b,fun b hb=>by rw[e2 b] at hb;cases hb⟩
       ·exact xLZ hok hp hn
     | succ j=>
       dsimp only
       rw[if_neg (by omega),if_neg (by omega),show k+(j+1)=k+1+j by omega]
       exact h2 j o' (by simpa using hj) p (hacc p hp) hn
    ·intro i j o' hij hj hn
     obtain⟨j,rfl⟩:∃j',j=j'+1:=⟨j-1,by omega⟩
     have hj':r[j]?=some o':=by simpa using hj
     cases i with
     | zero=>
       unfold NC
       simp only[Nat.add_zero,if_true]
       rw[if_neg (by omega),if_neg (by omega),show k+(j+1)=k+1+j by omega]
       rcases hk with ⟨e1,e2⟩ | ⟨T,W,rfl,rfl,hmem,_⟩
       ·exact⟨fun b hb=>(by rw[e2 b] at hb;cases hb),fun b _=>e1 b⟩
       ·exact h2 j o' hj' _ hmem hn
     | succ i=>
       have:=h3 i j o' (by omega) hj' (by rw[show k+1+i=k+(i+1) by omega];exact hn)
       unfold NC at this ⊢
       dsimp only
       rw[if_neg (by omega),if_neg (by omega),if_neg (by omega),if_neg (by omega),show k+(j+1)=k+1+j by omega,show k+(i+1)=k+1+i by omega]
       exact this
   split at h
   ·exact h.elim
   ·rename_i hw
    obtain⟨T,W,x,u,hok,hd,hr⟩:=h
    refine main _ _ _ (yE3 T) (yE3 W) hr (fun p hp=>List.mem_cons_of_mem _ hp) (.inr ⟨T,W,rfl,rfl,List.mem_cons_self,hok⟩) fun TT WW e1 e2 hF=>?_
    unfold dlistF
    rw[hw]
    dsimp only
    rw[e1,e2]
    exact⟨x,u,hd,hF⟩
   ·rename_i hw
    refine main _ _ _ (fun _=>false) (fun _=>false) h (fun p hp=>hp) (.inl ⟨fun _=>rfl,fun _=>rfl⟩) fun TT WW e1 e2 hF=>?_
    unfold dlistF
    rw[hw]
    exact hF
theorem yWF(hB:Region.lexB .any ops=true){fr:Fr}{g:Gs}(h:dlist P ops n0 K ops.toList 0 [] fr g):
  ∃TT WW,xRz P .any ops TT WW n0 K ops.size (Array.replicate ops.size false) fr g:=by
 obtain⟨TT,WW,h1,_,h3⟩:=xMl _ _ _ _ _ h
 refine⟨TT,WW,?_⟩
 simp only[Region.lexB,Bool.and_eq_true] at hB
 have:=xKR (md:= .any) (n0:=n0) (K:=K) (TT:=TT) (WW:=WW) (P:=P) (ops:=ops) (fun i j oj hij hj hn=>by
  have:=h3 i j oj hij (by simpa using hj) (by rw[Nat.zero_add];exact hn)
  simpa using this) ops.toList 0 (Array.replicate ops.size false) fr g (by simp) (by simp) (by simpa using hB.2) h1
 simpa using this
end
section
variable {mu mu':Mu} {S S':yEn} {B:Dom} {w w':World} {fr:Fr} {a:Act} {P:Program}
theorem Fz.sub{T:Nat->Bool}{s t:St}{f:Nat->Nat}{x y:V}(h:Sub T s t)(hz:Fz s f x y):Fz t f x y:=by
 induction hz with
 | plain x h=>exact .plain x h
 | bs b i n cap k ys hk hle hf hl hr _ ih=>exact .bs b i n cap k ys (h.le hk).1 hle hf hl hr ih
 | weak es full h=>exact .weak es full h
 | ptr b i j k ys hk hi hf hl _ ih=>exact .ptr b i j k ys (h.le hk).1 hi hf hl ih
 | agg cs ds hl _ ih=>exact .agg cs ds hl ih
 | tup cs ds hl _ ih=>exact .tup cs ds hl ih
 | fn g as' bs cs ds hl _ hl' _ ih ih'=>exact .fn g as' bs cs ds hl ih hl' ih'
theorem xIp{o:Oper}{st:St}{T:Nat->Bool}{s:St}{x:V}{K:Act->World->Prop}{Q:Exit->Act->World->Prop}(hsub:Sub T s st)(h:SR mu S B st w)(hB:yV2 B w)(hfr:FR mu S w fr a)(hc:dcall P o.op fr s x)
  (hK:∀u w' S',SR mu S' B st w'->VR mu S' w' x u->Ev mu S B w mu S' w'->K (a.put o.dst u) w'):o.wp P a w K Q:=by
 unfold dcall at hc
 split at hc
 ·rename_i c e
  split at hc
  ·rename_i f hcal
   obtain⟨callee,args,ats⟩:=c
   dsimp only at hc hcal
   subst hcal
   split at hc
   ·rename_i g first caps hfn
    have hfv:=hfr.at_ f
    rw[hfn] at hfv
    generalize hav:a.eval f=av at hfv
    cases hfv with
    | fn _ _ _ fv cv hl1 hl2 hv1 hv2=>
      have hx:VRs mu S w (first++(args.toList.map (ev fr)++caps)) (fv++(args.toList.map a.eval++cv)):=
       VRs.append ⟨hl1,hv1⟩ (VRs.append (hfr.evs args.toList) ⟨hl2,hv2⟩)
      have harr:(fv++(args.toList.map a.eval++cv)).toArray=fv.toArray++args.map a.eval++cv.toArray:=by
       apply Array.ext';simp
      have hcallable:yKl P g:=by
       rcases hc with ⟨_,h1,_⟩ | ⟨_,_,_,⟨h1,_⟩,_⟩ | ⟨_,_,_,⟨h1,_⟩⟩ <;> exact h1
      have hrun:=xFd (w:=w) hcallable e hav
      unfold Oper.wp
      rw[hrun]
      rcases hc with ⟨hp,_,hcon⟩ | ⟨fz,args',hz,⟨_,hcon⟩,hsc⟩ | ⟨fz,args',hz,⟨_,hcon⟩⟩
      ·have:=hcon w S _ h.sb ⟨hx.1,fun j hj hj'=>(hx.2 j hj hj').plain (hp _ (List.getElem_mem hj))⟩
       rw[harr] at this
       refine Calls.mono this ?_
       rintro en w' ⟨v,r,S',rfl,rfl,hpl,hr,hsub',hnew,hb,hbel⟩
       have hsr:=h.keep hbel hsub' hnew hb
       exact hK v w' S' hsr (hr.plain hpl) ⟨fun _ _ h=>h,hsub',fun g i hs=>(hnew g i hs).imp id (fun h1=>hB _ h1),fun g i hs=>hbel.cell (p:=⟨g,i,none⟩) (h.sb g i hs),Off.of_below hbel⟩
      ·have hall:∀g i,S g i->g<w.heap.size:=h.sb
       have hLall:∀b k L,st.get b=some k->mu b=some L->L.mp=false->∀i,L.o<=i->i<L.o+min (fz b) k.es.length*L.sz->L.g<w.heap.size:=fun b k L hk hL hm i h1 h2=>
        (h.lockF fz).sb L.g i (.inr ⟨b,k,L,hk,hL,hm,rfl,h1,h2⟩)
       have hz':Fzs st fz (first++(args.toList.map (ev fr)++caps)) args':=⟨hz.1,fun j hj hj'=>(hz.2 j hj hj').sub hsub⟩
       have:=hcon w (fun g _=>g<w.heap.size) _ (fun _ _ h=>h) (Fzs.sound h hz' hx hall (fun b k L hk hL hm i h1 h2=>hLall b k L hk hL hm i h1 h2))
       rw[harr] at this
       refine Calls.mono this ?_
       rintro en w' ⟨v,r,S',rfl,rfl,hpl,hr,hsub',hnew,hb,hbel⟩
       have hsr:=h.keep hbel (fun _ _ h=>h) (fun _ _ h=> .inl h) (fun g i hs=>Nat.lt_of_lt_of_le (h.sb g i hs) hbel.size)
       exact hK v w' S hsr (hr.sc hsc) ⟨fun _ _ h=>h,fun _ _ h=>h,fun _ _ h=> .inl h,fun g i hs=>hbel.cell (p:=⟨g,i,none⟩) (h.sb g i hs),Off.of_below hbel⟩
      ·have hall:∀g i,S g i->g<w.heap.size:=h.sb
       have hLall:∀b k L,st.get b=some k->mu b=some L->L.mp=false->∀i,L.o<=i->i<L.o+min (fz b) k.es.length*L.sz->L.g<w.heap.size:=fun b k L hk hL hm i h1 h2=>
        (h.lockF fz).sb L.g i (.inr ⟨b,k,L,hk,hL,hm,rfl,h1,h2⟩)
       have hz':Fzs st fz (first++(args.toList.map (ev fr)++caps)) args':=⟨hz.1,fun j hj hj'=>(hz.2 j hj hj').sub hsub⟩
       have:=hcon w (fun g _=>g<w.heap.size) _ (fun _ _ h=>h) (Fzs.sound h hz' hx hall (fun b k L hk hL hm i h1 h2=>hLall b k L hk hL hm i h1 h2))
       rw[harr] at this
       refine Calls.mono this ?_
       rintro en w' ⟨v,S',rfl,hpl,hr,hnew,hbel⟩
       have hsr:=h.keep (S':=fun g i=>S g i\/S' g i) hbel (fun _ _ h=> .inl h) (fun g i hs=>hs.imp id fun h=>(hnew g i h).1) (fun g i hs=>hs.elim (fun h1=>Nat.lt_of_lt_of_le (h.sb g i h1) hbel.size) fun h1=>(hnew g i h1).2)
       exact hK v w' _ hsr ((hr.plain hpl).mono (fun _ _ h=>h) (fun _ _ h=> .inr h) (fun _ _ _=>rfl)) ⟨fun _ _ h=>h,fun _ _ h=> .inl h,fun g i hs=>hs.imp id fun h1=>hB _ (hnew g i h1).1,fun g i hs=>hbel.cell (p:=⟨g,i,none⟩) (h.sb g i hs),Off.of_below hbel⟩
   ·exact hc.elim
  ·exact hc.elim
 ·exact hc.elim
theorem xIb.sub{T:Nat->Bool}{s t:St}{f:Nat->Nat}{args args':List V}{es:List (List V)}(h:Sub T s t)(hz:xIb s f args args' es):xIb t f args args' es:=by
 rcases hz with hz | ⟨hz,hs⟩
 ·exact .inl hz
 ·exact .inr ⟨⟨hz.1,fun j hj hj'=>(hz.2 j hj hj').sub h⟩,hs⟩
theorem xLE{o:Oper}{st:St}{T:Nat->Bool}{s:St}{x:V}{k:Blk'}{K:Act->World->Prop}{Q:Exit->Act->World->Prop}(hsub:Sub T s st)(h:SR mu S B st w)(hf:Fr0 mu st)(hB:yV2 B w)(hfr:FR mu S w fr a)(hc:xMm P o.op fr s x k)
  (hK:∀u mu' S' w',SR mu' S' B (st.new k) w'->VR mu' S' w' x u->OutN mu S B w st.c mu' S' w'->K (a.put o.dst u) w'):o.wp P a w K Q:=by
 unfold xMm at hc
 split at hc
 ·rename_i c e
  split at hc
  ·rename_i f hcal
   obtain⟨callee,args,ats⟩:=c
   dsimp only at hc hcal
   subst hcal
   split at hc
   ·rename_i g first caps hfn
    have hfv:=hfr.at_ f
    rw[hfn] at hfv
    generalize hav:a.eval f=av at hfv
    cases hfv with
    | fn _ _ _ fv cv hl1 hl2 hv1 hv2=>
      have hx:VRs mu S w (first++(args.toList.map (ev fr)++caps)) (fv++(args.toList.map a.eval++cv)):=
       VRs.append ⟨hl1,hv1⟩ (VRs.append (hfr.evs args.toList) ⟨hl2,hv2⟩)
      have harr:(fv++(args.toList.map a.eval++cv)).toArray=fv.toArray++args.map a.eval++cv.toArray:=by
       apply Array.ext';simp
      obtain⟨fz,args',es,sz,hz,hcon,rfl,rfl⟩:=hc
      have hrun:=xFd (w:=w) hcon.1 e hav
      unfold Oper.wp
      rw[hrun]
      have:=xDV h hf hB hx (hz.sub hsub) hcon
      rw[harr] at this
      refine Calls.mono this ?_
      rintro en w' ⟨v,mu',S',rfl,h1,h2,h3⟩
      exact hK v mu' S' w' h1 (by rw[hsub.c];exact h2) h3
   ·exact hc.elim
  ·exact hc.elim
 ·exact hc.elim
end
section
variable {mu0:Mu} {S0:yEn} {B:Dom} {nt:Nat} {w0 w:World} {fr:Fr} {a:Act} {P:Program} {ops:Array Oper} {n0:Nat} {TT WW:Nat->Nat->Bool}
def DR(mu0:Mu)(S0:yEn)(B:Dom)(w0:World)(nt n0 N:Nat)(listed:Array Bool)(fr:Fr)(g:Gs)(a:Act)(w:World):Prop:=
 ∃mu S,SR mu S B ⟨g,n0⟩ w/\(∀i,listed.getD i true=false->mu (n0+i)=none/\g (n0+i)=none)/\(∀b,n0+N<=b->mu b=none/\g b=none)/\FR mu S w fr a/\yV2 B w/\Ev mu0 S0 B w0 mu S w/\a.defers= []/\a.tmps.size=nt
theorem xLW{listed:Array Bool}{i j:Nat}(h:(listed.setIfInBounds i true).getD j true=false):j≠i/\listed.getD j true=false:=by
 by_cases e:i=j
 ·subst e
  exfalso
  rcases Nat.lt_or_ge i listed.size with h' | h'
  ·simp[h'] at h
  ·simp[h'] at h
 ·rw[getD_set_ne true e] at h;exact⟨fun h=>e h.symm,h⟩
theorem xMi{listed:Array Bool}{i:Nat}{g:Gs}{K:Fr->Gs->Prop}{Q:Exit->Act->World->Prop}(hi:listed.getD i true=false)(hiN:i<ops.size)(hd:∀o∈ops,∀t,o.dst=some t->t<nt)
  (h:DR mu0 S0 B w0 nt n0 ops.size listed fr g a w) (hk:dOp P ops TT WW n0 i K fr g):
  wpOp P ops Q i (fun a' w'=>∃fr' g',DR mu0 S0 B w0 nt n0 ops.size (listed.setIfInBounds i true) fr' g' a' w'/\K fr' g') a w:=by
 obtain⟨mu,S,h1,hfree,hfar,h3,h4,h5,h6,h7⟩:=h
 unfold dOp at hk
 unfold wpOp
 have hoi:ops[i]?=some ops[i]:=Array.getElem?_eq_getElem hiN
 generalize hoo:ops[i]=o at hoi
 rw[hoi] at hk ⊢
 dsimp only at hk ⊢
 have hdo:=hd o (by rw[←hoo];exact Array.getElem_mem hiN)
 have done:∀(mu':Mu) (S':yEn) (w':World) (x:V) (u:Value) (g':Gs),SR mu' S' B ⟨g',n0⟩ w'->(∀b,b≠n0+i->mu b=none->mu' b=none)->(∀b,b≠n0+i->g b=none->g' b=none)->VR mu' S' w' x u->Ev mu S B w mu' S' w'->K (fr.put o.dst x) g'→
   ∃fr' g',DR mu0 S0 B w0 nt n0 ops.size (listed.setIfInBounds i true) fr' g' (a.put o.dst u) w'/\K fr' g':=by
  intro mu' S' w' x u g' k1 k2 k3 k4 k5 k6
  refine⟨_,_,⟨mu',S',k1,fun j hj=>?_,fun b hb=>?_,(h3.mono k5.mono k5.sub k5.keeps).put (fun t e=>by rw[h7];exact hdo t e) k4,h4.off k5.below,h5.trans k5,?_,?_⟩,k6⟩
  ·obtain⟨hne,hl⟩:=xLW hj
   obtain⟨m1,m2⟩:=hfree j hl
   exact⟨k2 _ (by omega) m1,k3 _ (by omega) m2⟩
  ·obtain⟨m1,m2⟩:=hfar b hb
   exact⟨k2 _ (by omega) m1,k3 _ (by omega) m2⟩
  ·cases o.dst <;> exact h6
  ·cases ho:o.dst with
   | none=>exact h7
   | some t=>simpa[Act.put] using h7
 have hwant:∀b,wantedA ops o fr=some b->Region.wanted o (yielded ops a.tmps)=b:=by
  intro b hb
  unfold wantedA at hb
  split at hb
  ·rename_i hg
   injection hb with hb;subst hb
   unfold Region.wanted;rw[hg]
  ·rename_i j want hg
   split at hb
   ·rename_i b' hv
    injection hb with hb;subst hb
    exact ySl hg h3 hv
   ·cases hb
   ·rename_i n1 n2
    injection hb with hb;subst hb
    exact ySk hg h3 (fun b e=>n1 b e) (fun e=>n2 e)
 cases hw:wantedA ops o fr with
 | none=>rw[hw] at hk;exact hk.elim
 | some b=>
   rw[hw] at hk
   cases b with
   | false=>
     rw[if_neg (by rw[hwant _ hw];simp)]
     exact done mu S w _ _ g h1 (fun _ _ h=>h) (fun _ _ h=>h) .undef_ Ev.refl hk
   | true=>
     rw[if_pos (hwant _ hw)]
     obtain⟨x,u,⟨hWT,hTn,hcase⟩,hK⟩:=hk
     left
     have hsub:Sub (TT i) ⟨resT (TT i) g,n0+i⟩ ⟨g,n0+i⟩:=⟨rfl,fun b=>rfl⟩
     have h1i:SR mu S B ⟨g,n0+i⟩ w:=h1.c _
     obtain⟨f1,f2⟩:=hfree i hi
     rcases hcase with ⟨s',heff,hs'⟩ | ⟨hcall,hW⟩ | ⟨k,hnew,hW,hu⟩
     ·unfold eff at heff
      cases hop:opS P o.op with
      | true=>
        rw[hop,cond_true] at heff
        obtain⟨t',ht',hso⟩:=xRj hsub hTn heff
        have hget:t'.get=ov (WW i) u g:=by
         funext b
         cases hT:TT i b
         ·have hWb:WW i b=false:=by
            cases hW:WW i b
            ·rfl
            ·rw[hWT b hW] at hT;cases hT
          rw[hso.off b hT]
          unfold ov;rw[hWb];rfl
         ·have e1:=hso.get b
          rw[hT,cond_true,hs' b] at e1
          unfold resT at e1
          rw[hT,cond_true] at e1
          exact e1.symm
        obtain⟨v,mu',w',k1,k2,k3,k4,k5⟩:=xII h1i ⟨f1,f2⟩ h4 h3 ht'
        refine xDl.wp k1 (done mu' S w' x v (ov (WW i) u g) ?_ (fun b hb hm=>by rw[k4.oth b hb];exact hm) (fun b hb hg=>?_) k3 k4.ev hK)
        ·rw[←hget];exact k2.c _
        ·rw[←hget];exact xOF ht' hb hg
      | false=>
        rw[hop,cond_false] at heff
        obtain⟨x',hx',e⟩:=Option.map_eq_some_iff.1 heff
        injection e with e1 e2;subst e1;subst e2
        have hget:ov (WW i) u g=g:=by
         funext b
         cases hW:WW i b
         ·unfold ov;rw[hW];rfl
         ·have e1:=hs' b
          dsimp only at e1
          unfold resT at e1
          rw[hWT b hW,cond_true,cond_true] at e1
          exact e1.symm
        obtain⟨v,k1,k2⟩:=xBx h1i h3 (xRr hsub hx')
        rw[hget] at hK
        exact xDl.wp (.inl k1) (done mu S w x' v g h1 (fun _ _ h=>h) (fun _ _ h=>h) k2 Ev.refl hK)
     ·have hget:ov (WW i) u g=g:=by
        funext b;unfold ov;rw[hW b];rfl
      rw[hget] at hK
      exact xIp hsub h1i h4 h3 hcall fun v w' S' k1 k2 k3=>done mu S' w' x v g (k1.c _) (fun _ _ h=>h) (fun _ _ h=>h) k2 k3 hK
     ·have hget:ov (WW i) u g=(St.new ⟨g,n0+i⟩ k).get:=by
        funext b
        unfold ov St.new
        dsimp only
        rw[hW b]
        cases hb:Nat.beq b (n0+i) with
        | true=>
          obtain rfl:=Nat.eq_of_beq_eq_true hb
          exact hu
        | false=>rfl
      rw[hget] at hK
      exact xLE hsub h1i ⟨f1,f2⟩ h4 h3 hnew fun v mu' S' w' k1 k2 k3=>done mu' S' w' x v _ (k1.c _) (fun b hb hm=>by rw[k3.oth b hb];exact hm) (fun b hb hg=>by rw[St.get_new,if_neg hb];exact hg) k2 k3.ev hK
theorem yXW{K:Fr->Gs->Prop}{Q:Exit->Act->World->Prop}(hd:∀o∈ops,∀t,o.dst=some t->t<nt)
  (hQ:∀listed fr g a w,DR mu0 S0 B w0 nt n0 ops.size listed fr g a w->K fr g->Q .normal a w):
  ∀(fuel:Nat) (listed:Array Bool) (fr:Fr) (g:Gs) (a:Act) (w:World),DR mu0 S0 B w0 nt n0 ops.size listed fr g a w->xRz P .any ops TT WW n0 K fuel listed fr g->wpAny P .any ops Q fuel listed a w
 | 0,_,_,_,_,_,h,hk=>⟨hk.1,hQ _ _ _ _ _ h hk.2⟩
 | fuel+1,listed,fr,g,a,w,h,hk=>by
   refine⟨fun h0=>hQ _ _ _ _ _ h (hk.1 h0),fun i hi=>?_⟩
   obtain⟨hun,o,ho,_⟩:=mem_ready.1 hi
   refine wpOp_mono ?_ (xMi hun (Array.getElem?_eq_some_iff.1 ho).1 hd h (hk.2 i hi))
   rintro a' w' ⟨fr',g',h1,h2⟩
   exact yXW hd hQ fuel _ _ _ _ _ h1 h2
theorem xIr{id:Nat}{st:St}{K:Fr->St->Prop}{Q:Exit->Act->World->Prop}(hm:P.follows .mixedOrders=true)(hB:Region.lexB .any ops=true)(hd:∀o∈ops,∀t,o.dst=some t->t<nt)
  (h:AR mu0 S0 B w0 nt fr st a w) (hQ:∀fr st a w,AR mu0 S0 B w0 nt fr st a w->K fr st->Q .normal a w)
  (hk:dlist P ops st.c (fun fr g=>K fr ⟨g,st.c+ops.size⟩) ops.toList 0 [] fr st.get):(Code.region id ops true).wp P Q a w:=by
 obtain⟨TT,WW,hk⟩:=yWF hB hk
 obtain⟨mu,S,h1,h2,h3,h4,h5,h6,h7⟩:=h
 refine wp_region_any hm (yXW (mu0:=mu0) (S0:=S0) (B:=B) (w0:=w0) (nt:=nt) (n0:=st.c) hd ?_ ops.size _ fr st.get a _ ?_ hk)
 ·rintro listed fr' g a' w' ⟨mu',S',k1,_,k3,k4,k5,k6,k7,k8⟩ hK
  exact hQ _ _ _ _ ⟨mu',S',k1.c _,k3,k4,k5,k6,k7,k8⟩ hK
 ·have hb:Off B w {w with drawn:=w.drawn+1 }:=(Off.refl _ _).drew
  exact⟨mu,S,h1.drew.c _,fun i _=>h2 _ (by omega),fun b hb=>h2 _ (by omega),h3.mono (fun _ _ h=>h) (fun _ _ h=>h) (fun _ _ _=>rfl),h4,h5.trans ⟨fun _ _ h=>h,fun _ _ h=>h,fun _ _ h=> .inl h,fun _ _ _=>rfl,hb⟩,h6,h7⟩
end
end Go.Proofs.YtakljpcmbpaeaaaGreat
