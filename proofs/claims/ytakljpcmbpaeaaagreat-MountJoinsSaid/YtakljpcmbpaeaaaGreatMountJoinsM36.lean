/- slices.Grow of nil: a new row without elements. -/
import Derived.Test.YtakljpcmbpaeaaaGreatMountJoinsM33
import Derived.Test.YtakljpcmbpaeaaaGreatMountJoinsM01
import Derived.Laws.NewBlocks
import Derived.Test.YtakljpcmbpaeaaaGreatMountJoinsM34
import Derived.Test.YtakljpcmbpaeaaaGreatMountJoinsM35
set_option linter.unusedSimpArgs false
set_option linter.unusedVariables false
namespace Go.Proofs.YtakljpcmbpaeaaaGreat
open Go.RowKit
def grI{α:Type}(sz:Nat):ICf α:=fun args G c K=>match args with
 | [.sl es fl,.int .i64 n]=>yWG [fl,Nat.beq es.length 0,decide (0<=n),decide (n<=1000000)] (xLW G c sz [] K) none
 | _=>none
abbrev sGr{α:Type}(i sz:Nat):Nat×Ent α:=(i,spI (grI sz))
theorem xNP{α:Type}{P:Program}{g:FuncId}{sz:Nat}(h:∀n:Int,0<=n->n<=1000000->xCF P g [.sl [] true,.int .i64 n] [] sz):xMz P g (grI sz:ICf α):=by
 have key:∀args (G:Tr Blk') c K r,(grI sz:ICf α) args G c K=some r->∃n G',args= [.sl [] true,.int .i64 n]/\0<=n/\n<=1000000/\G'.get=(St.new ⟨G.get,c⟩ ⟨[],sz,0⟩).get/\∀K':V->Tr Blk'->Nat->Option α,grI sz args G c K'=K' (.bs c 0 0 0) G' (c+1):=by
  intro args G c K r q
  unfold grI at q
  split at q
  ·rename_i es fl n
   obtain⟨h1,h2,h3⟩:=yCQ q
   have e1:=h1 fl (by simp)
   have e2:=List.eq_nil_of_length_eq_zero (Nat.eq_of_beq_eq_true (h1 (Nat.beq es.length 0) (by simp)))
   have e3:=of_decide_eq_true (h1 (decide (0<=n)) (by simp))
   have e4:=of_decide_eq_true (h1 (decide (n<=1000000)) (by simp))
   subst e1 e2
   obtain⟨G',m1,m2,m3⟩:=yT6 h2
   refine⟨n,G',rfl,e3,e4,m1,fun K'=>?_⟩
   show yWG _ _ _=_
   rw[h3,m3];rfl
  ·cases q
 refine⟨fun args G c K r k1 k2 q Kp hk=>?_,fun args G c K r q=>?_⟩
 ·obtain⟨n,G',rfl,h0,h1,m1,m2⟩:=key args G c K r q
  have hN:=h n h0 h1
  refine .inr (.inr (.inr (.inr ⟨_,yVz (f:=mny) (.inl ⟨fun x hx=>?_,rfl⟩) hN,?_⟩)))
  ·rcases List.mem_cons.1 hx with rfl | hx
   ·exact .sl _ _ (by simp)
   ·obtain rfl:x=_:=by simpa using hx
    exact .int _ _
  ·rintro v st' ⟨rfl,rfl⟩
   rw[m2] at q
   have:=hk _ G' (c+1) (.bs _ _ _ _) (by rw[m1];exact PSg.new (st:=⟨G.get,c⟩) k2 hN.plain) q
   rw[m1] at this
   exact this
 ·obtain⟨n,G',rfl,h0,h1,m1,m2⟩:=key args G c K r q
  exact⟨_,G',c+1,m2,fun _ k2=>⟨.bs _ _ _ _,by rw[m1];exact PSg.new (st:=⟨G.get,c⟩) k2 fun r hr=>absurd hr (by simp)⟩⟩
theorem xMI(n:Int)(h0:0<=n)(h1:n<=1000000):xCF Tryz.prog 373 [.sl [] true,.int .i64 n] [] 4:=by
 refine⟨⟨_,Tryz.func373,rfl,rfl⟩,fun i hi=>absurd hi (by simp),by simp,fun w S vargs hS hv=>?_⟩
 match vargs,hv with
 | [v0,v1],hv=>
   have p0:=hv.2 0 (by simp) (by simp)
   have p1:=hv.2 1 (by simp) (by simp)
   dsimp only[List.getElem_cons_zero,List.getElem_cons_succ] at p0 p1
   obtain⟨A,c,rfl,-,hf⟩:=p0.sl_inv
   have hf:=hf rfl
   subst hf
   cases p1
   obtain⟨m,rfl⟩:=Int.eq_ofNat_of_zero_le h0
   rcases Nat.eq_zero_or_pos m with rfl | hm
   ·refine(xIl A w).mono ?_
    rintro e w' ⟨rfl,rfl⟩
    exact⟨A,0,S,rfl,Nat.zero_le _,Below.refl _ _,fun _ _ h=>h,fun _ _ h=> .inl h,hS,.inl ⟨rfl,rfl⟩⟩
   ·refine(xIk A m hm (by omega) w).mono ?_
    rintro e w' ⟨rfl,z,hz,rfl⟩
    have hge:=grownCap_ge w m 0 244
    generalize grownCap w m 0 244=G at hge ⊢
    have hlen:(Builtin.zeroCells z m++Builtin.zeroCells z (G-m)).size=G*4:=by
     rw[Array.size_append,yFo,yFo,hz];omega
    generalize Builtin.zeroCells z m++Builtin.zeroCells z (G-m)=cs at hlen ⊢
    refine⟨some ⟨w.heap.size,0,none⟩,G,S,rfl,Nat.zero_le _,(Below.refl _ _).drew.alloc (Nat.le_refl _) _,fun _ _ h=>h,fun _ _ h=> .inl h,fun g i h=>by have:=hS g i h;simp;omega,.inr ⟨w.heap.size,0,rfl,Nat.le_refl _,by simp,fun i _ _ h=>by have:=hS _ _ h;omega,fun i _ hi=>?_,fun i hi=>absurd hi (by simp)⟩⟩
    have hi':i<cs.size:=by omega
    exact⟨⟨cs[i],(World.cell?_alloc_at (w:=w.drew) cs _ w.heap.size i rfl).trans (Array.getElem?_eq_getElem hi')⟩,World.frozen?_alloc_at (w:=w.drew) cs _ w.heap.size i rfl⟩
theorem yTT{α:Type}:yQg Tryz.prog 373 (sGr (α:=α) 373 4).2:=xGZ (xNP xMI)
def ySp(L:Nat)(b:List (List V)):Option Int:=bif b.all byRB&&Nat.ble b.length 1000000000 then some (yJY (b.map xIG):Int) else none
theorem xCd(L:Nat):Ctr Tryz.prog 240 false (caC cdR caN) (cdI .i64) (fun a=>ySp L a.1):=by
 rintro⟨b,_⟩ r hp h
 obtain⟨h1,h2⟩:=yAO h
 cases h2
 obtain⟨h1,h3⟩:=yBE h1
 have e1:(b.map xIG).map byV=b:=xJT (fun r hr=>xLH hr) h1
 refine⟨?_,.int _ _,nofun⟩
 show Con Tryz.prog 240 [.sl b false] _
 rw[←e1,xGR xIH]
 refine xCc Tryz.func240 (by decide) rfl (.int _ _) fun w S vargs hS hv=>?_
 obtain⟨u1,us,rfl,q1,hv⟩:=yXN hv
 obtain rfl:=xJw hv
 obtain⟨A,c,rfl,hr⟩:=xN0 hS q1
 refine(xLs A c _ w (by rw[List.length_map];exact Nat.le_of_ble_eq_true h3) hr).mono ?_
 rintro e w' ⟨rfl,hB⟩
 exact⟨_,rfl,.int _ _,hB⟩
theorem xKf{P:Program}{i:FuncId}{args:List V}{es:List (List V)}{y:V}{e:TypeId}(hc:yJQ P i)(hy:Plain y)(hes:∀r∈es,∀x∈r,Plain x)(hrow:∀r∈es,r.length=1)
  (h:∀(w:World) (S:yEW) (vargs:List Value),(∀g i,S g i->g<w.heap.size)->VRs yM8 S w args vargs->Calls P i vargs.toArray w fun en w'=>∃v u xs,en= .returned (.tuple #[v,u])/\w'.ownsRow w.heap.size e 1 v es.length xs/\
    (∀i (hi:i<es.length) j (hj:j<es[i].length),∃q,xs[i*1+j]?=some q/\q.oneCell'=true/\VR yM8 S w' es[i][j] q)/\VR yM8 S w' y u/\Below w.heap.size w w'):xLF P .t i args [.w es 1,.p y]:=by
 refine⟨hc,?_,by show(1:Nat)<=1000;omega,fun w S vargs hS hv=>(h w S vargs hS hv).mono ?_⟩
 ·intro x hx
  rcases List.mem_cons.1 hx with rfl | hx
  ·exact hes
  ·rcases List.mem_cons.1 hx with rfl | hx
   ·exact hy
   ·cases hx
 ·rintro en w' ⟨v,u,xs,rfl,⟨hlen,hown⟩,hx,hu,hB⟩
  have hget:∀b k,(nG [.w es 1,.p y]).get b=some k->b=1/\k=⟨es,1,0⟩:=fun b k hk=>by
   rw[xLU (by show(1:Nat)<=1000;omega)] at hk
   split at hk
   ·rename_i hb
    have:rN [AV0.w es 1,.p y]=2:=rfl
    obtain rfl:b=1:=by omega
    injection hk with hk
    exact⟨rfl,hk.symm⟩
   ·cases hk
  have fin:∀L:Loc,L.sz=1->L.mp=false->BR (fun x=>if x=1 then some L else none) S w' ⟨es,1,0⟩ L->(0<L.lim->w.heap.size<=L.g/\L.g<w'.heap.size)→
    VR (fun x=>if x=1 then some L else none) S w' (.bs 1 0 es.length es.length) v→
    ∃v' mu' S',Ending.returned (.tuple #[v,u])= .returned v'/\VR mu' S' w' (rkV .t (av0s [.w es 1,.p y] 1).1) v'/\SR mu' S' (fun g=>w.heap.size<=g) ⟨(nG [.w es 1,.p y]).get,rN [.w es 1,.p y]⟩ w'/\(∀g i,S g i->S' g i)/\(∀g i,S' g i->S g i\/w.heap.size<=g)/\Below w.heap.size w w':=fun L h1 h2 h3 h4 h5=>by
   refine⟨_,fun x=>if x=1 then some L else none,S,rfl,?_,⟨fun b k hk=>?_,fun b b' k k' L1 L2 hne hk hk'=>absurd ((hget b k hk).1.trans (hget b' k' hk').1.symm) hne,fun b k L1 hk hL g i he hs=>?_,fun g i hs=>Nat.lt_of_lt_of_le (hS g i hs) hB.size⟩,fun _ _ h=>h,fun _ _ h=> .inl h,hB⟩
   ·refine VR.tup [_,_] [v,u] rfl fun j hj hj'=>?_
    match j,hj with
    | 0,_=>exact h5
    | 1,_=>exact hu.mono (fun b L h=>by cases h) (fun _ _ h=>h) (fun _ _ _=>rfl)
   ·obtain⟨rfl,rfl⟩:=hget b k hk
    exact⟨L,if_pos rfl,h3,fun hp=>h4 (hp.elim id fun h=>by rw[h2] at h;cases h)⟩
   ·obtain⟨rfl,rfl⟩:=hget b k hk
    rw[if_pos rfl] at hL
    injection hL with hL
    subst hL
    have hp:0<L.lim:=he.rg.pos
    have:=(h4 hp).1
    have:=hS g i hs
    have:=he.1
    omega
  rcases hown with ⟨rfl,h0⟩ | ⟨g,cap,cur,rfl,hb,hh,hnc,hcap,hsz,htk⟩
  ·have:es= []:=List.length_eq_zero_iff.1 h0
   subst this
   refine fin ⟨0,0,1,0,false⟩ rfl rfl ⟨rfl,fun _=>Nat.le_refl _,Nat.le_refl _,fun i hi=>absurd hi (by simp),fun i h1 h2=>?_,fun _ i hi=>absurd hi (by simp),fun h=>by cases h⟩ (fun h=>absurd h (by simp)) (.bs 1 0 0 0 ⟨0,0,1,0,false⟩ none 0 (if_pos rfl) (Nat.le_refl _) (Nat.le_refl _) (.inl rfl) rfl)
   dsimp only at h1 h2
   omega
  ·have hg:g<w'.heap.size:=by
     rcases Nat.lt_or_ge g w'.heap.size with h | h
     ·exact h
     ·rw[Array.getElem?_eq_none h] at hh;cases hh
   have hcell:∀k,w'.cell? ⟨g,k,none⟩=cur[k]?:=fun k=>by
    unfold World.cell?
    simp[hh]
   have hfz:∀k,w'.frozen? ⟨g,k,none⟩=false:=fun k=>by
    unfold World.frozen?
    simp[hh]
   refine fin ⟨g,0,1,cap,false⟩ rfl rfl ⟨rfl,fun _=>hnc,Nat.zero_le _,fun i hi=>hrow _ (List.getElem_mem hi),fun i h1 h2=>?_,fun _ i hi j hj=>?_,fun h=>by cases h⟩ (fun _=>⟨hb,hg⟩) (.bs 1 0 _ _ ⟨g,0,1,cap,false⟩ _ cap (if_pos rfl) (Nat.le_refl _) hnc (.inr ⟨rfl,by show 0+cap<=cap;omega⟩) rfl)
   ·dsimp only at h1 h2
    refine⟨?_,hfz i⟩
    rw[hcell]
    exact⟨_,Array.getElem?_eq_getElem (by omega)⟩
   ·obtain⟨q,e1,e2,e3⟩:=hx i hi j hj
    refine⟨q,?_,e2,e3.mono (fun b L h=>by cases h) (fun _ _ h=>h) (fun _ _ _=>rfl)⟩
    show w'.cell? ⟨g,0+i*1+j,none⟩=_
    rw[hcell,Nat.zero_add,←Array.getElem?_toList]
    rw[←htk] at e1
    have hlt:i*1+j<es.length*1:=by
     rcases Nat.lt_or_ge (i*1+j) (es.length*1) with h | h
     ·exact h
     ·rw[List.getElem?_take,if_neg (by omega)] at e1;cases e1
    rwa [List.getElem?_take,if_pos hlt] at e1
def yIf(L:Nat)(b:List (List V))(n:Int)(l:List (List V)):Option (List (List V)×Int×Unit):=
 bif b.all byRB&&(l.all inRB&&Nat.ble (b.length+6*l.length) 1000000000) then some ((yWf (b.map xIG) n (l.map xJ1)).1.map byV,(yWf (b.map xIG) n (l.map xJ1)).2,()) else none
theorem yX1(L:Nat):xMy Tryz.prog .t 177 (caC cdR (caC cI (caC cdR caN))) (zW 1 (zP cI zN)).cz (fun a=>yIf L a.1 a.2.1 a.2.2.1):=by
 rintro⟨b,n,l,_⟩ r hp h
 obtain⟨h1,h2⟩:=yAO h
 cases h2
 obtain⟨h1,h3⟩:=yBE h1
 obtain⟨h3,h4⟩:=yBE h3
 have e1:(b.map xIG).map byV=b:=xJT (fun r hr=>xLH hr) h1
 have e2:(l.map xJ1).map inV=l:=xJT (fun r hr=>xNR hr) h3
 show xLF Tryz.prog .t 177 [.sl b false,.int .i64 n,.sl l false] [.w ((yWf (b.map xIG) n (l.map xJ1)).1.map byV) 1,.p (.int .i64 (yWf (b.map xIG) n (l.map xJ1)).2)]
 have hbd:(b.map xIG).length+6*(l.map xJ1).length<=1000000000:=by rw[List.length_map,List.length_map];exact Nat.le_of_ble_eq_true h4
 generalize b.map xIG=b' at*
 generalize l.map xJ1=l' at*
 rw[←e1,←e2]
 refine xKf (e:=5) ⟨_,Tryz.func177,by decide,rfl⟩ (.int _ _) (fun r hr=>by obtain⟨c,_,rfl⟩:=List.mem_map.1 hr;exact xNE c) (fun r hr=>by obtain⟨p,_,rfl⟩:=List.mem_map.1 hr;rfl) fun w S vargs hS hv=>?_
 obtain⟨u1,us,rfl,e1,hv⟩:=yXN hv
 obtain⟨u2,us,rfl,e2,hv⟩:=yXN hv
 obtain⟨u3,us,rfl,e3,hv⟩:=yXN hv
 obtain rfl:=xJw hv
 obtain rfl:=xN1 e2
 obtain⟨A1,c1,rfl,r1⟩:=xN0 hS e1
 obtain⟨A3,c3,rfl,r3⟩:=xOh hS e3
 refine(xLr A1 A3 c1 c3 n b' l' w hbd r1 r3).mono ?_
 rintro en w' h
 unfold yWf
 cases hq:xGJ b' n l' with
 | none=>
   rw[hq] at h
   obtain⟨rfl,hB⟩:=h
   exact⟨_,_,[],rfl,⟨rfl,.inl ⟨rfl,rfl⟩⟩,fun i hi=>absurd hi (by simp),.int _ _,hB⟩
 | some x=>
   rw[hq] at h
   obtain⟨v,rfl,hrow,hB⟩:=h
   dsimp only
   refine⟨v,_,yFi x,rfl,by rw[List.length_map];exact hrow,fun i hi j hj=>?_,.int _ _,hB⟩
   have hi':i<x.length:=by simpa using hi
   have hj0:j=0:=by simpa[byV] using hj
   subst hj0
   refine⟨.int .u8 (x[i].toNat:Int),?_,rfl,?_⟩
   ·rw[Nat.mul_one,Nat.add_zero]
    simp[yFi,hi']
   ·simp only[List.getElem_map,byV,List.getElem_cons_zero]
    exact .int _ _
abbrev yOu:=rw3 177 .t (caC cdR (caC cI (caC cdR caN))) (zW 1 (zP cI zN))
abbrev yTq:=fw1 240 (caC cdR caN) cI
abbrev yNq:=nw1 356 2 (caC cdR caN)
abbrev yNp:=nw1 357 4 (caC cdR caN)
set_option maxRecDepth 100000
set_option maxHeartbeats 16000000
abbrev yDG:=fw3 52 (caC cI (caC cI (caC cI caN))) cdB
abbrev yVM(x0:Int)(x1:Int)(x2:Int):Option Bool:=
 bif decide (x1<=x0) then
 some (decide (x0<=x2))
 else
 some false
theorem xHX:yDG.Eq [] .no (yVM):=fun _=>by kernel_rfl
def yHG(L:Nat):yDG.T:=yVM
theorem yO1(L:Nat):yDG.C (yHG L):=yDG.c (xHX) tN Tryz.func52 (by kernel_rfl) (lN _)
abbrev yBk:=fw1 10 (caC yCI caN) cdB
abbrev yS5(f1:yDG.T)(x0:yAR):Option Bool:=
 yAA (f1 x0.Nodes 1 16) fun r1=>
 bif r1 then
 yAA (f1 x0.Slots 1 x0.Nodes) fun r2=>
 bif r2 then
 yAA (f1 x0.Blocks 1 64) fun r3=>
 bif r3 then
 yAA (f1 x0.Per 1 8) fun r4=>
 bif r4 then
 yAA (f1 x0.Journal (w64 (x0.Per+2)) 64) fun r5=>
 bif r5 then
 yAA (f1 x0.Log (w64 (8*x0.Slots)) 512) fun r6=>
 bif r6 then
 bif decide (1<=x0.Lease) then
 bif decide (x0.Lease<x0.Wait) then
 some (decide (x0.Wait<=1048576))
 else
 some false
 else
 some false
 else
 some false
 else
 some false
 else
 some false
 else
 some false
 else
 some false
 else
 some false
theorem xFD(f1):yBk.Eq [yDG.s f1] .no (yS5 f1):=fun _=>by kernel_rfl
def yCc(L:Nat):yBk.T:=yS5 (yHG L)
theorem yGn(L:Nat):yBk.C (yCc L):=yBk.c (xFD (yHG L)) (tC (yO1 L).ent tN) Tryz.func10 (by kernel_rfl) (lN _)
abbrev yI9:=fw3 105 (caC yCI (caC cI (caC cI caN))) cI
abbrev yRS(f1:yBk.T)(f2:yDG.T)(x0:yAR)(x1:Int)(x2:Int):Option Int:=
 yAA (f1 x0) fun r1=>
 bif !r1 then
 some (-1)
 else
 yAA (f2 x1 0 (w64 (x0.Blocks-1))) fun r2=>
 bif !r2 then
 some (-1)
 else
 yAA (f2 x2 0 (w64 (x0.Per-1))) fun r3=>
 bif !r3 then
 some (-1)
 else
 some (w64 ((w64 ((w64 ((w64 ((w64 (1+(w64 (2*x0.Nodes))))+x0.Log))+(w64 (x0.Slots*(w64 (1+x0.Journal))))))+(w64 (x1*x0.Per))))+x2))
theorem xDc(f1 f2):yI9.Eq [yBk.s f1,yDG.s f2] .no (yRS f1 f2):=fun _=>by kernel_rfl
def yR6(L:Nat):yI9.T:=yRS (yCc L) (yHG L)
theorem xDb(L:Nat):yI9.C (yR6 L):=yI9.c (xDc (yCc L) (yHG L)) (tC (yGn L).ent (tC (yO1 L).ent tN)) Tryz.func105 (by kernel_rfl) (lN _)
abbrev yC3:=fw1 49 (caC yCI caN) cI
abbrev yPd(f1:yBk.T)(f2:yI9.T)(x0:yAR):Option Int:=
 yAA (f1 x0) fun r1=>
 bif !r1 then
 some 0
 else
 yAA (f2 x0 (w64 (x0.Blocks-1)) (w64 (x0.Per-1))) fun r2=>
 some (w64 (r2+1))
theorem xBK(f1 f2):yC3.Eq [yBk.s f1,yI9.s f2] .no (yPd f1 f2):=fun _=>by kernel_rfl
def yCt(L:Nat):yC3.T:=yPd (yCc L) (yR6 L)
theorem yPc(L:Nat):yC3.C (yCt L):=yC3.c (xBK (yCc L) (yR6 L)) (tC (yGn L).ent (tC (xDb L).ent tN)) Tryz.func49 (by kernel_rfl) (lN _)
abbrev yJA:=fw2 75 (caC yCI (caC cI caN)) cI
abbrev yRT(f1:yBk.T)(f2:yDG.T)(x0:yAR)(x1:Int):Option Int:=
 yAA (f1 x0) fun r1=>
 bif !r1 then
 some (-1)
 else
 yAA (f2 x1 0 (w64 (x0.Slots-1))) fun r2=>
 bif !r2 then
 some (-1)
 else
 some (w64 ((w64 ((w64 (1+(w64 (2*x0.Nodes))))+x0.Log))+(w64 (x1*(w64 (1+x0.Journal))))))
theorem xDe(f1 f2):yJA.Eq [yBk.s f1,yDG.s f2] .no (yRT f1 f2):=fun _=>by kernel_rfl
def yHF(L:Nat):yJA.T:=yRT (yCc L) (yHG L)
theorem xDd(L:Nat):yJA.C (yHF L):=yJA.c (xDe (yCc L) (yHG L)) (tC (yGn L).ent (tC (yO1 L).ent tN)) Tryz.func75 (by kernel_rfl) (lN _)
abbrev yJk:=Int×Int×Int×Unit
abbrev yNX:=Int×Unit
abbrev yFY{α:Type}(s:yJk)(kn:yJk->Option α)(k0:yNX->Option α):Option α:=
 bif decide (s.2.2.1<s.1) then
 kn (s.1,w64 (s.2.1*256),w64 (s.2.2.1+1),())
 else
 k0 (s.2.1,())
abbrev yJl:LW1 yJk yNX:=⟨(lvC 0 (mP cI) (lvC 3 (mP cI) (lvC 4 (mP cI) lvN))),(.exit 0),(lvC 3 (mP cI) lvN)⟩
theorem yYH{α:Type}:yJl.Eq (α:=α) [] Tryz.f146 [1,1,1,0,1,0] .no (yFY):=fun _ _ _=>by kernel_rfl
abbrev yCm:=fw1 146 (caC cI caN) cI
abbrev yRK(F0:LF1 yJk yNX (Int))(x0:Int):Option Int:=
 bif decide (x0<1) then
 some (-1)
 else
 bif decide (6<x0) then
 some (-1)
 else
 F0 (x0,1,0,()) (fun q1=>
 some (yL4 false (w64 (q1.1-1)) 1099511627776))
theorem xDS(F0):yCm.Eq [] (.two .no (.two .no (.two .no (.two (.two .no (.one (.lp (yJl.s F0)))) .no)))) (yRK F0):=fun _=>by kernel_rfl
def yEv(L:Nat):yCm.T:=yRK (yBV (yFY) L)
theorem yWg{α:Type}(L:Nat):LO Tryz.f146 [1,1,1,0,1,0] (yJl.s (α:=α) (yBV (yFY) L)):=yJl.k (yYH) tN (lN _) (by kernel_rfl) L
theorem yN8(L:Nat):yCm.C (yEv L):=yCm.c (xDS (yBV (yFY) L)) tN Tryz.func146 (by kernel_rfl) (lS (lN _) (lS (lN _) (lS (lN _) (lS (lS (lN _) (lB (lL (yWg L)))) (lN _)))))
abbrev yI2:=fw2 147 (caC cI (caC cI caN)) cdB
abbrev yRJ(f1:yCm.T)(x0:Int)(x1:Int):Option Bool:=
 bif decide (0<=x0) then
 yAA (f1 x1) fun r1=>
 some (decide (x0<=r1))
 else
 some false
theorem xDR(f1):yI2.Eq [yCm.s f1] .no (yRJ f1):=fun _=>by kernel_rfl
def yI1(L:Nat):yI2.T:=yRJ (yEv L)
theorem xDQ(L:Nat):yI2.C (yI1 L):=yI2.c (xDR (yEv L)) (tC (yN8 L).ent tN) Tryz.func147 (by kernel_rfl) (lN _)
abbrev yLZ:=Int×(List (List V))×(List (List V))×Int×Int×Int×Unit
abbrev yLY:=Int×(List (List V))×(List (List V))×Int×Unit
abbrev yDA{α:Type}(s:yLZ)(kn:yLZ->Option α)(k0:yLY->Option α):Option α:=
 letI qb:=s.2.2.1
 letI qa:= [[V.int .u8 (IntKind.u8.wrap (s.2.2.2.2.1.tmod 256))]]
 bif decide (s.2.2.2.2.2.1<s.1) then
 gd (Nat.beq (0+qb.length) qb.length)<|
 gM (qb.length+1) 1<|
 gW (qb++qa) (qb.length+1)<|
 kn (s.1,s.2.1,qb++qa,s.2.2.2.1,w64 (s.2.2.2.2.1.tdiv 256),w64 (s.2.2.2.2.2.1+1),())
 else
 gW qb qb.length<|
 k0 (s.1,s.2.1,qb,s.2.2.2.1,())
abbrev yLa:LW1 yLZ yLY:=⟨(lvC 1 (mP cI) (lvC 2 (mP cdR) (lvC 8 (mW 1) (lvC 9 (mP cI) (lvC 10 (mP cI) (lvC 11 (mP cI) lvN)))))),(.exit 2),(lvC 1 (mP cI) (lvC 2 (mP cdR) (lvC 8 (mW 1) (lvC 9 (mP cI) lvN))))⟩
theorem yZP{α:Type}:yLa.Eq (α:=α) [] Tryz.f91 [1,1,1,1,0,1,0,0,1,0,0,1,1,1,0] .no (yDA):=fun _ _ _=>by kernel_rfl
abbrev yLW:=Int×(List (List V))×(List (List V))×Int×Unit
abbrev yOQ:=(List (List V))×Unit
abbrev yOR:=(List (List V))×Int×Unit
abbrev yFO{α:Type}(f1:yI2.T)(F1:LF1 yLZ yLY α)(s:yLW)(kn:yLW->Option α)(k0:yOQ->Option α)(k1:yOR->Option α):Option α:=
 letI qa:=s.2.2.2.1
 bif decide (qa<(s.2.1.length:Int)) then
 gI s.2.1 kI qa<|
 yAA (f1 (aI s.2.1 qa.toNat 0) s.1) fun r1=>
 bif !r1 then
 k1 ([],2,())
 else
 gI s.2.1 kI qa<|
 gW s.2.2.1 s.2.2.1.length<|
 F1 (s.1,s.2.1,s.2.2.1,qa,aI s.2.1 qa.toNat 0,0,()) (fun q2=>
 gW q2.2.2.1 q2.2.2.1.length<|
 kn (q2.1,q2.2.1,q2.2.2.1,w64 (q2.2.2.2.1+1),()))
 else
 gW s.2.2.1 s.2.2.1.length<|
 k0 (s.2.2.1,())
abbrev yLX:LW2 yLW yOQ yOR:=⟨(lvC 1 (mP cI) (lvC 2 (mP cdR) (lvC 8 (mW 1) (lvC 9 (mP cI) lvN)))),(.exit 0),(lvC 8 (mW 1) lvN),.ret,(lvC 6 (mW 1) (lvC 7 (mP cI) lvN))⟩
theorem yZO{α:Type}(f1 F1):yLX.Eq (α:=α) [yI2.s f1] Tryz.f91 [1,1,1,1,0,1,0] (.two .no (.two (.one (.two .no (.two .no (.two .no (.one (.lp (yLa.s F1))))))) .no)) (yFO f1 F1):=fun _ _ _=>by kernel_rfl
abbrev yDK:=rw3 91 .t (caC cdR (caC cI (caC cdR caN))) (zW 1 (zP cI zN))
abbrev yS1(f1:yCm.T)(F0:LF2 yLW yOQ yOR ((List (List V))×Int×Unit))(x0:List (List V))(x1:Int)(x2:List (List V)):Option ((List (List V))×Int×Unit):=
 yAA (f1 x1) fun r1=>
 bif decide (r1<0) then
 some ([],2,())
 else
 gd (x0.all fun r=>Nat.beq r.length 1)<|
 gM (0+x0.length) 1<|
 gW x0 (0+x0.length)<|
 F0 (x1,x2,x0,0,()) (fun q2=>
 gW q2.1 q2.1.length<|
 some (q2.1,0,())) (fun q3=>
 gW q3.1 q3.1.length<|
 some (q3.1,q3.2.1,()))
theorem xE5(f1 F0):yDK.Eq [yCm.s f1] (.two .no (.two .no (.two .no (.two .no (.two (.two .no (.one (.lp (yLX.s F0)))) .no))))) (yS1 f1 F0):=fun _=>by kernel_rfl
def yCX(L:Nat):yDK.T:=yS1 (yEv L) (yAQ (yFO (yI1 L) (yBV (yDA) L)) L)
theorem yYF{α:Type}(L:Nat):LO Tryz.f91 [1,1,1,1,0,1,0,0,1,0,0,1,1,1,0] (yLa.s (α:=α) (yBV (yDA) L)):=yLa.k (yZP) tN (lN _) (by kernel_rfl) L
theorem yYE{α:Type}(L:Nat):LO Tryz.f91 [1,1,1,1,0,1,0] (yLX.s (α:=α) (yAQ (yFO (yI1 L) (yBV (yDA) L)) L)):=yLX.k (yZO (yI1 L) (yBV (yDA) L)) (tC (xDQ L).ent tN) (lS (lN _) (lS (lB (lS (lN _) (lS (lN _) (lS (lN _) (lB (lL (yYF L))))))) (lN _))) (by kernel_rfl) L
theorem yPZ(L:Nat):yDK.C (yCX L):=yDK.c (xE5 (yEv L) (yAQ (yFO (yI1 L) (yBV (yDA) L)) L)) (tC (yN8 L).ent tN) Tryz.func91 (by kernel_rfl) (lS (lN _) (lS (lN _) (lS (lN _) (lS (lN _) (lS (lS (lN _) (lB (lL (yYE L)))) (lN _))))))
abbrev yI5:=fw1 304 (caC cI caN) cI
abbrev yRN(x0:Int):Option Int:=
 bif(IntKind.i64.wrap ((BitVec.ofInt IntKind.i64.bits x0 &&& BitVec.ofInt IntKind.i64.bits 1).toNat:Int))==1 then
 some (IntKind.i64.wrap ((BitVec.ofInt IntKind.i64.bits (x0.fdiv (2^(min (1:Int).toNat IntKind.i64.bits))) ^^^ BitVec.ofInt IntKind.i64.bits 2197175160).toNat:Int))
 else
 some (x0.fdiv (2^(min (1:Int).toNat IntKind.i64.bits)))
theorem xDW:yI5.Eq [] .no (yRN):=fun _=>by kernel_rfl
def yDY(L:Nat):yI5.T:=yRN
theorem xDV(L:Nat):yI5.C (yDY L):=yI5.c (xDW) tN Tryz.func304 (by kernel_rfl) (lN _)
set_option maxRecDepth 100000
set_option maxHeartbeats 16000000
abbrev yJo:=Int×Int×Int×Int×Unit
abbrev yNY:=Int×Int×Int×Unit
abbrev yCT{α:Type}(f1:yI5.T)(s:yJo)(kn:yJo->Option α)(k0:yNY->Option α):Option α:=
 bif decide (s.2.2.2.1<8) then
 yAA (f1 s.1) fun r1=>
 kn (r1,s.2.1,s.2.2.1,w64 (s.2.2.2.1+1),())
 else
 k0 (s.1,s.2.1,s.2.2.1,())
abbrev yJp:LW1 yJo yNY:=⟨(lvC 0 (mP cI) (lvC 1 (mP cI) (lvC 5 (mP cI) (lvC 6 (mP cI) lvN)))),(.exit 2),(lvC 0 (mP cI) (lvC 1 (mP cI) (lvC 5 (mP cI) lvN)))⟩
theorem yYK{α:Type}(f1):yJp.Eq (α:=α) [yI5.s f1] Tryz.f270 [1,1,0,1,0,0,1,0,0,1,0] .no (yCT f1):=fun _ _ _=>by kernel_rfl
abbrev yGl:=Int×Int×Int×Unit
abbrev yJm:=Int×Unit
abbrev yDP{α:Type}(F1:LF1 yJo yNY α)(s:yGl)(kn:yGl->Option α)(k0:yJm->Option α):Option α:=
 bif decide (s.2.2.1<s.2.1) then
 F1 (s.1,s.2.1,s.2.2.1,0,()) (fun q1=>
 kn (q1.1,q1.2.1,w64 (q1.2.2.1+1),()))
 else
 k0 (s.1,())
abbrev yJn:LW1 yGl yJm:=⟨(lvC 0 (mP cI) (lvC 1 (mP cI) (lvC 5 (mP cI) lvN))),(.exit 0),(lvC 0 (mP cI) lvN)⟩
theorem yYJ{α:Type}(F1):yJn.Eq (α:=α) [] Tryz.f270 [1,1,0,1,0] (.two .no (.two (.one (.two .no (.one (.lp (yJp.s F1))))) .no)) (yDP F1):=fun _ _ _=>by kernel_rfl
abbrev yI4:=fw2 270 (caC cI (caC cI caN)) cI
abbrev yRL(F0:LF1 yGl yJm (Int))(x0:Int)(x1:Int):Option Int:=
 F0 (IntKind.i64.wrap ((BitVec.ofInt IntKind.i64.bits x0 &&& BitVec.ofInt IntKind.i64.bits 4294967295).toNat:Int),x1,0,()) (fun q1=>
 some q1.1)
theorem xDU(F0):yI4.Eq [] (.two .no (.two .no (.two (.two .no (.one (.lp (yJn.s F0)))) .no))) (yRL F0):=fun _=>by kernel_rfl
def yI3(L:Nat):yI4.T:=yRL (yBV (yDP (yBV (yCT (yDY L)) L)) L)
theorem yWi{α:Type}(L:Nat):LO Tryz.f270 [1,1,0,1,0,0,1,0,0,1,0] (yJp.s (α:=α) (yBV (yCT (yDY L)) L)):=yJp.k (yYK (yDY L)) (tC (xDV L).ent tN) (lN _) (by kernel_rfl) L
theorem yWh{α:Type}(L:Nat):LO Tryz.f270 [1,1,0,1,0] (yJn.s (α:=α) (yBV (yDP (yBV (yCT (yDY L)) L)) L)):=yJn.k (yYJ (yBV (yCT (yDY L)) L)) tN (lS (lN _) (lS (lB (lS (lN _) (lB (lL (yWi L))))) (lN _))) (by kernel_rfl) L
theorem xDT(L:Nat):yI4.C (yI3 L):=yI4.c (xDU (yBV (yDP (yBV (yCT (yDY L)) L)) L)) tN Tryz.func270 (by kernel_rfl) (lS (lN _) (lS (lN _) (lS (lS (lN _) (lB (lL (yWh L)))) (lN _))))
abbrev yLd:=(List (List V))×Int×Int×Unit
abbrev yOT:=Int×Unit
abbrev yGk{α:Type}(f1:yI4.T)(s:yLd)(kn:yLd->Option α)(k0:yOT->Option α):Option α:=
 bif decide (s.2.2.1<(s.1.length:Int)) then
 gI s.1 kU s.2.2.1<|
 yAA (f1 (IntKind.i64.wrap ((BitVec.ofInt IntKind.i64.bits s.2.1 ^^^ BitVec.ofInt IntKind.i64.bits (w64 (aI s.1 s.2.2.1.toNat 0))).toNat:Int)) 1) fun r1=>
 kn (s.1,r1,w64 (s.2.2.1+1),())
 else
 k0 (s.2.1,())
abbrev yLe:LW1 yLd yOT:=⟨(lvC 1 (mP cdR) (lvC 5 (mP cI) (lvC 6 (mP cI) lvN))),(.exit 0),(lvC 5 (mP cI) lvN)⟩
theorem yZR{α:Type}(f1):yLe.Eq (α:=α) [yI4.s f1] Tryz.f207 [1,1,0,1,0] .no (yGk f1):=fun _ _ _=>by kernel_rfl
abbrev yKd:=fw2 207 (caC cI (caC cdR caN)) cI
abbrev yS2(F0:LF1 yLd yOT (Int))(x0:Int)(x1:List (List V)):Option Int:=
 F0 (x1,IntKind.i64.wrap ((BitVec.ofInt IntKind.i64.bits (IntKind.i64.wrap ((BitVec.ofInt IntKind.i64.bits x0 &&& BitVec.ofInt IntKind.i64.bits 4294967295).toNat:Int)) ^^^ BitVec.ofInt IntKind.i64.bits 4294967295).toNat:Int),0,()) (fun q1=>
 some (IntKind.i64.wrap ((BitVec.ofInt IntKind.i64.bits q1.1 ^^^ BitVec.ofInt IntKind.i64.bits 4294967295).toNat:Int)))
theorem xE9(F0):yKd.Eq [] (.two .no (.two .no (.two (.two .no (.one (.lp (yLe.s F0)))) .no))) (yS2 F0):=fun _=>by kernel_rfl
def yUI(L:Nat):yKd.T:=yS2 (yBV (yGk (yI3 L)) L)
theorem yYI{α:Type}(L:Nat):LO Tryz.f207 [1,1,0,1,0] (yLe.s (α:=α) (yBV (yGk (yI3 L)) L)):=yLe.k (yZR (yI3 L)) (tC (xDT L).ent tN) (lN _) (by kernel_rfl) L
theorem xE8(L:Nat):yKd.C (yUI L):=yKd.c (xE9 (yBV (yGk (yI3 L)) L)) tN Tryz.func207 (by kernel_rfl) (lS (lN _) (lS (lN _) (lS (lS (lN _) (lB (lL (yYI L)))) (lN _))))
abbrev yKe:=fw1 161 (caC cdR caN) cI
abbrev yS3(f1:yKd.T)(x0:List (List V)):Option Int:=
 yAA (f1 0 x0) fun r1=>
 some r1
theorem xFB(f1):yKe.Eq [yKd.s f1] .no (yS3 f1):=fun _=>by kernel_rfl
def yRM(L:Nat):yKe.T:=yS3 (yUI L)
theorem xFA(L:Nat):yKe.C (yRM L):=yKe.c (xFB (yUI L)) (tC (xE8 L).ent tN) Tryz.func161 (by kernel_rfl) (lN _)
abbrev yDV:=fw2 101 (caC (cdI .i8) (caC cdS caN)) (cdT (caC cdS (caC cI caN)))
abbrev yRR(f1:yDK.T)(f2:yKe.T)(x0:Int)(x1:ByteArray):Option (ByteArray×Int×Unit):=
 bif decide (x0<1) then
 some (noS,2,())
 else
 bif decide (505<(x1.size:Int)) then
 some (noS,2,())
 else
 yAA (f1 ([[V.int .u8 (IntKind.u8.wrap x0)]]) 2 ([[V.int .i64 (x1.size:Int)]])) fun r1=>
 letI qc:=r1.1++(yCe x1)
 letI qb:=r1.1.length+((yCe x1).length)
 gd (Nat.beq (0+r1.1.length) r1.1.length)<|
 gM qb 1<|
 gF qc (0+qb)<|
 yAA (f2 (qc.take qb)) fun r2=>
 letI qa:=qc++([[V.int .u8 (IntKind.u8.wrap r2)],[V.int .u8 (IntKind.u8.wrap (r2.fdiv (2^(min (8:Int).toNat IntKind.i64.bits))))],[V.int .u8 (IntKind.u8.wrap (r2.fdiv (2^(min (16:Int).toNat IntKind.i64.bits))))],[V.int .u8 (IntKind.u8.wrap (r2.fdiv (2^(min (24:Int).toNat IntKind.i64.bits))))]])
 gd (Nat.beq (0+qb) (qc.length))<|
 gM (qb+4) 1<|
 gd (Nat.ble (0+(qb+4)) (qa.length))<|
 gd ((bytesOf (qa.take (qb+4))).isSome)<|
 some (yHk (qa.take (qb+4)),0,())
theorem xDa(f1 f2):yDV.Eq [yDK.s f1,yKe.s f2] .no (yRR f1 f2):=fun _=>by kernel_rfl
def yHE(L:Nat):yDV.T:=yRR (yCX L) (yRM L)
theorem yRQ(L:Nat):yDV.C (yHE L):=yDV.c (xDa (yCX L) (yRM L)) (tC (yPZ L).ent (tC (xFA L).ent tN)) Tryz.func101 (by kernel_rfl) (lN _)
abbrev yJq:=Int×ByteArray×(List (List V))×(List (List V))×(List (List V))×Int×Unit
abbrev yNZ:=Int×ByteArray×(List (List V))×Unit
abbrev yNa:=ByteArray×Int×Unit
abbrev yEE{α:Type}(f1:yDK.T)(s:yJq)(kn:yJq->Option α)(k0:yNZ->Option α)(k1:yNa->Option α):Option α:=
 letI qa:=s.2.2.2.2.2.1
 bif decide (qa<(s.2.2.2.1.length:Int)) then
 gI s.2.2.1 kI qa<|
 gI s.2.2.2.1 kI qa<|
 yAA (f1 s.2.2.2.2.1 (aI s.2.2.1 qa.toNat 0) ([[V.int .i64 (aI s.2.2.2.1 qa.toNat 0)]])) fun r1=>
 bif r1.2.1 !=0 then
 k1 (noS,2,())
 else
 bif decide (505<(r1.1.length:Int)) then
 k1 (noS,2,())
 else
 gF r1.1 (0+r1.1.length)<|
 kn (s.1,s.2.1,s.2.2.1,s.2.2.2.1,r1.1.take r1.1.length,w64 (qa+1),())
 else
 k0 (s.1,s.2.1,s.2.2.2.2.1,())
abbrev yJr:LW2 yJq yNZ yNa:=⟨(lvC 0 (mP (cdI .i8)) (lvC 1 (mP cdS) (lvC 2 (mP cdR) (lvC 3 (mP cdR) (lvC 10 (mP cdR) (lvC 11 (mP cI) lvN)))))),(.exit 0),(lvC 0 (mP (cdI .i8)) (lvC 1 (mP cdS) (lvC 10 (mP cdR) lvN))),.ret,(lvC 8 (mP cdS) (lvC 9 (mP cI) lvN))⟩
theorem yYL{α:Type}(f1):yJr.Eq (α:=α) [yDK.s f1] Tryz.f135 [1,1,1,0,1,0] .no (yEE f1):=fun _ _ _=>by kernel_rfl
abbrev yFP:=fw4 135 (caC (cdI .i8) (caC cdS (caC cdR (caC cdR caN)))) (cdT (caC cdS (caC cI caN)))
abbrev yRO(f1:yDV.T)(F0:LF2 yJq yNZ yNa (ByteArray×Int×Unit))(x0:Int)(x1:ByteArray)(x2:List (List V))(x3:List (List V)):Option (ByteArray×Int×Unit):=
 bif(x2.length:Int) !=(x3.length:Int) then
 some (noS,2,())
 else
 F0 (x0,x1,x2,x3,[],0,()) (fun q1=>
 gd ((bytesOf q1.2.2.1).isSome)<|
 gd (decide (((yHk q1.2.2.1).size)+q1.2.1.size<=9223372036854775807))<|
 yAA (f1 q1.1 ((yHk q1.2.2.1)++q1.2.1)) fun r2=>
 some (r2.1,r2.2.1,())) (fun q3=>
 some (q3.1,q3.2.1,()))
theorem xDX(f1 F0):yFP.Eq [yDV.s f1] (.two .no (.two .no (.two .no (.two (.two .no (.one (.lp (yJr.s F0)))) .no)))) (yRO f1 F0):=fun _=>by kernel_rfl
def yKh(L:Nat):yFP.T:=yRO (yHE L) (yAQ (yEE (yCX L)) L)
theorem yWj{α:Type}(L:Nat):LO Tryz.f135 [1,1,1,0,1,0] (yJr.s (α:=α) (yAQ (yEE (yCX L)) L)):=yJr.k (yYL (yCX L)) (tC (yPZ L).ent tN) (lN _) (by kernel_rfl) L
theorem yWB(L:Nat):yFP.C (yKh L):=yFP.c (xDX (yHE L) (yAQ (yEE (yCX L)) L)) (tC (yRQ L).ent tN) Tryz.func135 (by kernel_rfl) (lS (lN _) (lS (lN _) (lS (lN _) (lS (lS (lN _) (lB (lL (yWj L)))) (lN _)))))
abbrev yHH:=fw1 121 (caC yCI caN) (cdT (caC cdS (caC cI caN)))
abbrev yPe(f1:yBk.T)(f2:yFP.T)(x0:yAR):Option (ByteArray×Int×Unit):=
 letI qa:= [V.int .i64 2]
 yAA (f1 x0) fun r1=>
 bif !r1 then
 some (noS,40,())
 else
 yAA (f2 1 noS ([qa,qa,qa,qa,qa,qa,[V.int .i64 4],[V.int .i64 4]]) ([[V.int .i64 x0.Nodes],[V.int .i64 x0.Slots],[V.int .i64 x0.Blocks],[V.int .i64 x0.Per],[V.int .i64 x0.Journal],[V.int .i64 x0.Log],[V.int .i64 x0.Lease],[V.int .i64 x0.Wait]])) fun r2=>
 some (r2.1,r2.2.1,())
theorem xBM(f1 f2):yHH.Eq [yBk.s f1,yFP.s f2] .no (yPe f1 f2):=fun _=>by kernel_rfl
def yNb(L:Nat):yHH.T:=yPe (yCc L) (yKh L)
theorem xBL(L:Nat):yHH.C (yNb L):=yHH.c (xBM (yCc L) (yKh L)) (tC (yGn L).ent (tC (yWB L).ent tN)) Tryz.func121 (by kernel_rfl) (lN _)
set_option maxRecDepth 100000
set_option maxHeartbeats 16000000
abbrev yJC:=fw1 122 (caC cI caN) (cdT (caC cdS (caC cI caN)))
abbrev yRU(f1:yFP.T)(x0:Int):Option (ByteArray×Int×Unit):=
 yAA (f1 2 noS ([[V.int .i64 6]]) ([[V.int .i64 x0]])) fun r1=>
 some (r1.1,r1.2.1,())
theorem xDg(f1):yJC.Eq [yFP.s f1] .no (yRU f1):=fun _=>by kernel_rfl
def yO2(L:Nat):yJC.T:=yRU (yKh L)
theorem xDf(L:Nat):yJC.C (yO2 L):=yJC.c (xDg (yKh L)) (tC (yWB L).ent tN) Tryz.func122 (by kernel_rfl) (lN _)
abbrev yHI:=yAR×ByteArray×(List (List V))×Int×Unit
abbrev yKi:=(List (List V))×Unit
abbrev yDh{α:Type}(f1:yJA.T)(s:yHI)(kn:yHI->Option α)(k0:yKi->Option α):Option α:=
 letI qc:=s.2.2.1
 bif decide (s.2.2.2.1<s.1.Slots) then
 yAA (f1 s.1 s.2.2.2.1) fun r1=>
 letI qd:=0+r1.toNat
 letI qa:=qc.getD qd []
 letI qb:=qa.take 0++([V.str s.2.1]++qa.drop 1)
 gB r1 qc.length<|
 gd (decide (0+r1.toNat<qc.length))<|
 gd (Nat.ble 0 qd)<|
 gd (Nat.ble 1 qa.length)<|
 gW (qc.set qd qb) qc.length<|
 kn (s.1,s.2.1,qc.set qd qb,w64 (s.2.2.2.1+1),())
 else
 gW qc qc.length<|
 k0 (qc,())
abbrev yHJ:LW1 yHI yKi:=⟨(lvC 1 yQR (lvC 6 (mP cdS) (lvC 8 (mW 1) (lvC 9 (mP cI) lvN)))),(.exit 0),(lvC 8 (mW 1) lvN)⟩
theorem yVN{α:Type}(f1):yHJ.Eq (α:=α) [yJA.s f1] Tryz.f54 [1,1,1,1,1,1,0,1,0] .no (yDh f1):=fun _ _ _=>by kernel_rfl
abbrev yFy:=fw1 54 (caC yCI caN) (cdT (caC cdR (caC cI caN)))
abbrev yOV(f1:yHH.T)(f2:yJC.T)(f3:yC3.T)(F0:LF1 yHI yKi ((List (List V))×Int×Unit))(x0:yAR):Option ((List (List V))×Int×Unit):=
 yAA (f1 x0) fun r1=>
 bif r1.2.1 !=0 then
 some ([],r1.2.1,())
 else
 yAA (f2 0) fun r2=>
 yAA (f3 x0) fun r3=>
 letI qa:=List.replicate r3.toNat [V.str noS]
 letI qb:=(qa.getD 0 []).take 0++([V.str r1.1]++(qa.getD 0 []).drop 1)
 gd (decide (0<=r3))<|
 gd (decide (r3<=r3))<|
 gd (decide (16*r3.toNat<=281474976710656))<|
 gd (decide (r3<=9223372036854775807))<|
 gd (decide (0<(r3.toNat:Int)))<|
 gd (decide (0<qa.length))<|
 gd (Nat.ble 1 (qa.getD 0 []).length)<|
 gW (qa.set 0 qb) r3.toNat<|
 F0 (x0,r2.1,qa.set 0 qb,0,()) (fun q4=>
 gF q4.1 (0+q4.1.length)<|
 some (q4.1.take q4.1.length,0,()))
theorem yZV(f1 f2 f3 F0):yFy.Eq [yHH.s f1,yJC.s f2,yC3.s f3] (.two .no (.two .no (.two .no (.two .no (.two .no (.two .no (.two (.two .no (.one (.lp (yHJ.s F0)))) .no))))))) (yOV f1 f2 f3 F0):=fun _=>by kernel_rfl
def yJB(L:Nat):yFy.T:=yOV (yNb L) (yO2 L) (yCt L) (yBV (yDh (yHF L)) L)
theorem yUL{α:Type}(L:Nat):LO Tryz.f54 [1,1,1,1,1,1,0,1,0] (yHJ.s (α:=α) (yBV (yDh (yHF L)) L)):=yHJ.k (yVN (yHF L)) (tC (xDd L).ent tN) (lN _) (by kernel_rfl) L
theorem yZU(L:Nat):yFy.C (yJB L):=yFy.c (yZV (yNb L) (yO2 L) (yCt L) (yBV (yDh (yHF L)) L)) (tC (xBL L).ent (tC (xDf L).ent (tC (yPc L).ent tN))) Tryz.func54 (by kernel_rfl) (lS (lN _) (lS (lN _) (lS (lN _) (lS (lN _) (lS (lN _) (lS (lN _) (lS (lS (lN _) (lB (lL (yUL L)))) (lN _))))))))
abbrev yC5:=fw2 85 (caC yHy (caC cI caN)) cdB
abbrev yP6(x0:yAC)(x1:Int):Option Bool:=
 bif decide (16<=x1) then
 bif decide (w64 (x1.tdiv 16)<x0.Next) then
 some (decide (x1.tmod 16<(x0.Keys.length:Int)))
 else
 some false
 else
 some false
theorem xBa:yC5.Eq [] .no (yP6):=fun _=>by kernel_rfl
def yBl(L:Nat):yC5.T:=yP6
theorem yP5(L:Nat):yC5.C (yBl L):=yC5.c (xBa) tN Tryz.func85 (by kernel_rfl) (lN _)
abbrev yHQ:=(List (List V))×Int×Int×Int×Unit
abbrev yKt:=(List (List V))×Int×Int×Unit
abbrev yKu:=Bool×Unit
abbrev yEx{α:Type}(s:yHQ)(kn:yHQ->Option α)(k0:yKt->Option α)(k1:yKu->Option α):Option α:=
 bif decide (s.2.2.2.1<s.2.2.1) then
 gI s.1 yFh.ks s.2.2.2.1<|
 gI s.1 yFh.ks s.2.2.1<|
 bif(aI s.1 s.2.2.2.1.toNat 0)==(aI s.1 s.2.2.1.toNat 0) then
 k1 (false,())
 else
 kn (s.1,s.2.1,s.2.2.1,w64 (s.2.2.2.1+1),())
 else
 k0 (s.1,s.2.1,s.2.2.1,())
abbrev yHR:LW2 yHQ yKt yKu:=⟨(lvC 0 (mP cdR) (lvC 1 (mP cI) (lvC 5 (mP cI) (lvC 6 (mP cI) lvN)))),(.exit 2),(lvC 0 (mP cdR) (lvC 1 (mP cI) (lvC 5 (mP cI) lvN))),.ret,(lvC 4 (mP cdB) lvN)⟩
theorem yVU{α:Type}:yHR.Eq (α:=α) [] Tryz.f145 [1,0,1,0,0,1,0,0,1,1,0] .no (yEx):=fun _ _ _=>by kernel_rfl
abbrev yHO:=(List (List V))×Int×Int×Unit
abbrev yKr:=Unit
abbrev yKs:=Bool×Unit
abbrev yJs{α:Type}(F1:LF2 yHQ yKt yKu α)(s:yHO)(kn:yHO->Option α)(k0:yKr->Option α)(k1:yKs->Option α):Option α:=
 letI qa:=s.2.2.1
 bif decide (qa<(s.1.length:Int)) then
 gI s.1 yFh.ks qa<|
 bif decide (aI s.1 qa.toNat 0<0) then
 k1 (false,())
 else
 gI s.1 yFh.ks qa<|
 bif decide (s.2.1<=aI s.1 qa.toNat 0) then
 k1 (false,())
 else
 gI s.1 yFh.ks qa<|
 bif decide (512<((aS s.1 qa.toNat 1).size:Int)) then
 k1 (false,())
 else
 F1 (s.1,s.2.1,qa,0,()) (fun q1=>
 kn (q1.1,q1.2.1,w64 (q1.2.2.1+1),())) (fun q2=>
 k1 (q2.1,()))
 else
 k0 (())
abbrev yHP:LW2 yHO yKr yKs:=⟨(lvC 0 (mP cdR) (lvC 1 (mP cI) (lvC 5 (mP cI) lvN))),(.exit 0),lvN,.ret,(lvC 4 (mP cdB) lvN)⟩
theorem yVT{α:Type}(F1):yHP.Eq (α:=α) [] Tryz.f145 [1,0,1,0] (.two .no (.two (.one (.two .no (.two .no (.one (.lp (yHR.s F1)))))) .no)) (yJs F1):=fun _ _ _=>by kernel_rfl
abbrev yF0:=fw2 145 (caC cdR (caC cI caN)) cdB
abbrev ySa(F0:LF2 yHO yKr yKs (Bool))(x0:List (List V))(x1:Int):Option Bool:=
 F0 (x0,x1,0,()) (fun q1=>
 some true) (fun q2=>
 some q2.1)
theorem yZj(F0):yF0.Eq [] (.two .no (.two (.two .no (.one (.lp (yHP.s F0)))) .no)) (ySa F0):=fun _=>by kernel_rfl
def yGp(L:Nat):yF0.T:=ySa (yAQ (yJs (yAQ (yEx) L)) L)
theorem yUP{α:Type}(L:Nat):LO Tryz.f145 [1,0,1,0,0,1,0,0,1,1,0] (yHR.s (α:=α) (yAQ (yEx) L)):=yHR.k (yVU) tN (lN _) (by kernel_rfl) L
theorem yUO{α:Type}(L:Nat):LO Tryz.f145 [1,0,1,0] (yHP.s (α:=α) (yAQ (yJs (yAQ (yEx) L)) L)):=yHP.k (yVT (yAQ (yEx) L)) tN (lS (lN _) (lS (lB (lS (lN _) (lS (lN _) (lB (lL (yUP L)))))) (lN _))) (by kernel_rfl) L
theorem yZi(L:Nat):yF0.C (yGp L):=yF0.c (yZj (yAQ (yJs (yAQ (yEx) L)) L)) tN Tryz.func145 (by kernel_rfl) (lS (lN _) (lS (lS (lN _) (lB (lL (yUO L)))) (lN _)))
set_option maxRecDepth 100000
set_option maxHeartbeats 16000000
abbrev yIN:=yAC×Int×Unit
abbrev yMT:=Unit
abbrev yMU:=Int×Unit
abbrev yH4{α:Type}(f1:yC5.T)(s:yIN)(kn:yIN->Option α)(k0:yMT->Option α)(k1:yMU->Option α):Option α:=
 letI qa:=s.2.1
 bif decide (qa<(s.1.Fenced.length:Int)) then
 gI s.1.Fenced kI qa<|
 yAA (f1 s.1 (aI s.1.Fenced qa.toNat 0)) fun r1=>
 bif !r1 then
 k1 (2,())
 else
 bif decide (0<qa) then
 gI s.1.Fenced kI qa<|
 gI s.1.Fenced kI (w64 (qa-1))<|
 bif decide (aI s.1.Fenced qa.toNat 0<=aI s.1.Fenced ((w64 (qa-1)).toNat) 0) then
 k1 (2,())
 else
 kn (s.1,w64 (qa+1),())
 else
 kn (s.1,w64 (qa+1),())
 else
 k0 (())
abbrev yIO:LW2 yIN yMT yMU:=⟨(lvC 1 yAM (lvC 5 (mP cI) lvN)),(.exit 4),lvN,.ret,(lvC 2 (mP cI) lvN)⟩
theorem yWm{α:Type}(f1):yIO.Eq (α:=α) [yC5.s f1] Tryz.f84 [1,1,1,1,0,1,0] .no (yH4 f1):=fun _ _ _=>by kernel_rfl
abbrev yIL:=yAC×Int×Unit
abbrev yMR:=yAC×Unit
abbrev yMS:=Int×Unit
abbrev yEa{α:Type}(f1:yF0.T)(f2:yC5.T)(s:yIL)(kn:yIL->Option α)(k0:yMR->Option α)(k1:yMS->Option α):Option α:=
 letI qb:=s.2.1
 letI qa:=aI s.1.Keys qb.toNat 0
 bif decide (qb<(s.1.Keys.length:Int)) then
 gI s.1.Cache kL qb<|
 yAA (f1 (aR s.1.Cache qb.toNat 0) (s.1.S.length:Int)) fun r1=>
 bif !r1 then
 k1 (2,())
 else
 gI s.1.Keys kI qb<|
 bif qa !=0 then
 gI s.1.Keys kI qb<|
 yAA (f2 s.1 qa) fun r2=>
 bif !r2 then
 k1 (2,())
 else
 gI s.1.Keys kI qb<|
 bif(qa.tmod 16) !=qb then
 k1 (2,())
 else
 kn (s.1,w64 (qb+1),())
 else
 kn (s.1,w64 (qb+1),())
 else
 k0 (s.1,())
abbrev yIM:LW2 yIL yMR yMS:=⟨(lvC 1 yAM (lvC 4 (mP cI) lvN)),(.exit 2),(lvC 1 yAM lvN),.ret,(lvC 2 (mP cI) lvN)⟩
theorem yWl{α:Type}(f1 f2):yIM.Eq (α:=α) [yF0.s f1,yC5.s f2] Tryz.f84 [1,1,1,0,1,0] .no (yEa f1 f2):=fun _ _ _=>by kernel_rfl
abbrev yIJ:=yAC×Int×Unit
abbrev yMP:=yAC×Unit
abbrev yMQ:=Int×Unit
abbrev yEZ{α:Type}(s:yIJ)(kn:yIJ->Option α)(k0:yMP->Option α)(k1:yMQ->Option α):Option α:=
 bif decide (s.2.1<(s.1.S.length:Int)) then
 gI s.1.S kS s.2.1<|
 bif decide (512<((aS s.1.S s.2.1.toNat 0).size:Int)) then
 k1 (2,())
 else
 kn (s.1,w64 (s.2.1+1),())
 else
 k0 (s.1,())
abbrev yIK:LW2 yIJ yMP yMQ:=⟨(lvC 1 yAM (lvC 3 (mP cI) lvN)),(.exit 0),(lvC 1 yAM lvN),.ret,(lvC 2 (mP cI) lvN)⟩
theorem yWk{α:Type}:yIK.Eq (α:=α) [] Tryz.f84 [1,1,0,1,0] .no (yEZ):=fun _ _ _=>by kernel_rfl
abbrev yC4:=fw1 84 (caC yHy caN) cI
abbrev yPg(F0:LF2 yIJ yMP yMQ (Int))(F1:LF2 yIL yMR yMS (Int))(F2:LF2 yIN yMT yMU (Int))(x0:yAC):Option Int:=
 bif decide ((x0.S.length:Int)<1) then
 some 2
 else
 bif decide ((x0.Keys.length:Int)<1) then
 some 2
 else
 bif decide (16<(x0.Keys.length:Int)) then
 some 2
 else
 bif(x0.Cache.length:Int) !=(x0.Keys.length:Int) then
 some 2
 else
 bif decide (x0.Next<1) then
 some 2
 else
 bif decide (68719476736<x0.Next) then
 some 2
 else
 F0 (x0,0,()) (fun q1=>
 F1 (q1.1,0,()) (fun q2=>
 F2 (q2.1,0,()) (fun q3=>
 some 0) (fun q4=>
 some q4.1)) (fun q5=>
 some q5.1)) (fun q6=>
 some q6.1)
theorem xBN(F0 F1 F2):yC4.Eq [] (.two .no (.two .no (.two (.two .no (.one (.lp (yIK.s F0)))) (.two (.two .no (.one (.lp (yIM.s F1)))) (.two (.two .no (.one (.lp (yIO.s F2)))) .no))))) (yPg F0 F1 F2):=fun _=>by kernel_rfl
def yCd(L:Nat):yC4.T:=yPg (yAQ (yEZ) L) (yAQ (yEa (yGp L) (yBl L)) L) (yAQ (yH4 (yBl L)) L)
theorem yVQ{α:Type}(L:Nat):LO Tryz.f84 [1,1,1,1,0,1,0] (yIO.s (α:=α) (yAQ (yH4 (yBl L)) L)):=yIO.k (yWm (yBl L)) (tC (yP5 L).ent tN) (lN _) (by kernel_rfl) L
theorem yVP{α:Type}(L:Nat):LO Tryz.f84 [1,1,1,0,1,0] (yIM.s (α:=α) (yAQ (yEa (yGp L) (yBl L)) L)):=yIM.k (yWl (yGp L) (yBl L)) (tC (yZi L).ent (tC (yP5 L).ent tN)) (lN _) (by kernel_rfl) L
theorem yVO{α:Type}(L:Nat):LO Tryz.f84 [1,1,0,1,0] (yIK.s (α:=α) (yAQ (yEZ) L)):=yIK.k (yWk) tN (lN _) (by kernel_rfl) L
theorem yPf(L:Nat):yC4.C (yCd L):=yC4.c (xBN (yAQ (yEZ) L) (yAQ (yEa (yGp L) (yBl L)) L) (yAQ (yH4 (yBl L)) L)) tN Tryz.func84 (by kernel_rfl) (lS (lN _) (lS (lN _) (lS (lS (lN _) (lB (lL (yVO L)))) (lS (lS (lN _) (lB (lL (yVP L)))) (lS (lS (lN _) (lB (lL (yVQ L)))) (lN _))))))
abbrev yKq:=rw2 55 (.ta 5) (caC cI (caC cdR caN)) (zW 1 (zW 1 (zW 1 (zP cI (zW 1 (zP cI zN))))))
abbrev yS6(f1:yC4.T)(x0:Int)(x1:List (List V)):Option ((List (List V))×(List (List V))×(List (List V))×Int×(List (List V))×Int×Unit):=
 letI qd:=decide (x0<=9223372036854775807)
 letI qc:=0+x1.length
 letI qb:=List.replicate x0.toNat [V.int .i64 0]
 letI qa:=List.replicate x0.toNat [V.sl ([]) true]
 bif decide (x0<1) then
 some ([],[],[],0,[],2,())
 else
 bif decide (16<x0) then
 some ([],[],[],0,[],2,())
 else
 gd (x1.all fun r=>Nat.beq r.length 1)<|
 gM qc 16<|
 gd (decide (0<=x0))<|
 gd (decide (x0<=x0))<|
 gd (decide (24*x0.toNat<=281474976710656))<|
 gd qd<|
 gd (decide (0<=x0))<|
 gd (decide (x0<=x0))<|
 gd (decide (8*x0.toNat<=281474976710656))<|
 gd qd<|
 gF x1 (0+qc)<|
 gF qa (0+x0.toNat)<|
 gF qb (0+x0.toNat)<|
 yAA (f1 (⟨x1.take qc,qa.take x0.toNat,qb.take x0.toNat,1,[]⟩:yAC)) fun r1=>
 bif r1 !=0 then
 some ([],[],[],0,[],2,())
 else
 gW x1 qc<|
 gW qa x0.toNat<|
 gW qb x0.toNat<|
 some (x1,List.replicate x0.toNat [V.sl ([]) true],List.replicate x0.toNat [V.int .i64 0],1,[],0,())
theorem xFF(f1):yKq.Eq [yC4.s f1] .no (yS6 f1):=fun _=>by kernel_rfl
def yRV(L:Nat):yKq.T:=yS6 (yCd L)
theorem xFE(L:Nat):yKq.C (yRV L):=yKq.c (xFF (yCd L)) (tC (yPf L).ent tN) Tryz.func55 (by kernel_rfl) (lN _)
abbrev yFJ:=rw1 12 (.ta 5) (caC yCI caN) (zW 1 (zW 1 (zW 1 (zP cI (zW 1 (zP cdB zN))))))
abbrev yQ9(f1:yFy.T)(f2:yKq.T)(x0:yAR):Option ((List (List V))×(List (List V))×(List (List V))×Int×(List (List V))×Bool×Unit):=
 yAA (f1 x0) fun r1=>
 yAA (f2 x0.Nodes r1.1) fun r2=>
 letI qb:=r2.2.2.1
 letI qa:=r2.2.2.2.2.1
 bif r1.2.1==0 then
 gW r2.1 r2.1.length<|
 gW r2.2.1 r2.2.1.length<|
 gW qb qb.length<|
 gW qa qa.length<|
 some (r2.1,r2.2.1,qb,r2.2.2.2.1,qa,r2.2.2.2.2.2.1==0,())
 else
 gW r2.1 r2.1.length<|
 gW r2.2.1 r2.2.1.length<|
 gW qb qb.length<|
 gW qa qa.length<|
 some (r2.1,r2.2.1,qb,r2.2.2.2.1,qa,false,())
theorem xCz(f1 f2):yFJ.Eq [yFy.s f1,yKq.s f2] .no (yQ9 f1 f2):=fun _=>by kernel_rfl
def yG6(L:Nat):yFJ.T:=yQ9 (yJB L) (yRV L)
theorem yV0(L:Nat):yFJ.C (yG6 L):=yFJ.c (xCz (yJB L) (yRV L)) (tC (yZU L).ent (tC (xFE L).ent tN)) Tryz.func12 (by kernel_rfl) (lN _)
abbrev yJb:=(List (List V))×Int×Unit
abbrev yNO:=Unit
abbrev yNP:=Bool×Unit
abbrev yD6{α:Type}(s:yJb)(kn:yJb->Option α)(k0:yNO->Option α)(k1:yNP->Option α):Option α:=
 bif decide (s.2.1<(s.1.length:Int)) then
 gI s.1 kI (w64 (s.2.1-1))<|
 gI s.1 kI s.2.1<|
 bif decide (aI s.1 s.2.1.toNat 0<aI s.1 ((w64 (s.2.1-1)).toNat) 0) then
 k1 (false,())
 else
 kn (s.1,w64 (s.2.1+1),())
 else
 k0 (())
abbrev yJc:LW2 yJb yNO yNP:=⟨(lvC 0 (mP cdR) (lvC 3 (mP cI) lvN)),(.exit 0),lvN,.ret,(lvC 2 (mP cdB) lvN)⟩
theorem yXs{α:Type}:yJc.Eq (α:=α) [] Tryz.f123 [1,0,1,0] .no (yD6):=fun _ _ _=>by kernel_rfl
abbrev yIv:=fw1 123 (caC cdR caN) cdB
abbrev yQ3(F0:LF2 yJb yNO yNP (Bool))(x0:List (List V)):Option Bool:=
 F0 (x0,1,()) (fun q1=>
 some true) (fun q2=>
 some q2.1)
theorem xCq(F0):yIv.Eq [] (.two .no (.two (.two .no (.one (.lp (yJc.s F0)))) .no)) (yQ3 F0):=fun _=>by kernel_rfl
def yIu(L:Nat):yIv.T:=yQ3 (yAQ (yD6) L)
theorem yWQ{α:Type}(L:Nat):LO Tryz.f123 [1,0,1,0] (yJc.s (α:=α) (yAQ (yD6) L)):=yJc.k (yXs) tN (lN _) (by kernel_rfl) L
theorem xCp(L:Nat):yIv.C (yIu L):=yIv.c (xCq (yAQ (yD6) L)) tN Tryz.func123 (by kernel_rfl) (lS (lN _) (lS (lS (lN _) (lB (lL (yWQ L)))) (lN _)))
abbrev yCo:=fw1 56 (caC yCI caN) cdB
abbrev yXq(f1:yIv.T)(x0:yAR):Option Bool:=
 yAA (f1 ([[V.int .i64 1],[V.int .i64 x0.Slots],[V.int .i64 x0.Nodes],[V.int .i64 16]])) fun r1=>
 bif r1 then
 yAA (f1 ([[V.int .i64 1],[V.int .i64 x0.Blocks],[V.int .i64 64]])) fun r2=>
 bif r2 then
 yAA (f1 ([[V.int .i64 1],[V.int .i64 x0.Per],[V.int .i64 8]])) fun r3=>
 bif r3 then
 yAA (f1 ([[V.int .i64 (w64 (x0.Per+2))],[V.int .i64 x0.Journal],[V.int .i64 64]])) fun r4=>
 bif r4 then
 yAA (f1 ([[V.int .i64 (w64 (8*x0.Slots))],[V.int .i64 x0.Log],[V.int .i64 512]])) fun r5=>
 bif r5 then
 yAA (f1 ([[V.int .i64 1],[V.int .i64 x0.Lease],[V.int .i64 (w64 (x0.Wait-1))],[V.int .i64 1048575]])) fun r6=>
 some r6
 else
 some false
 else
 some false
 else
 some false
 else
 some false
 else
 some false
theorem xIi(f1):yCo.Eq [yIv.s f1] .no (yXq f1):=fun _=>by kernel_rfl
def yF8(L:Nat):yCo.T:=yXq (yIu L)
theorem yNM(L:Nat):yCo.C (yF8 L):=yCo.c (xIi (yIu L)) (tC (xCp L).ent tN) Tryz.func56 (by kernel_rfl) (lN _)
end Go.Proofs.YtakljpcmbpaeaaaGreat
