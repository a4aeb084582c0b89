/- slices.Grow of nil: a new row without elements. -/
import Derived.Test.YtakljpcmbpaeaaaGreatPaxosEndsM33
import Derived.Test.YtakljpcmbpaeaaaGreatPaxosEndsM01
import Derived.Laws.NewBlocks
import Derived.Test.YtakljpcmbpaeaaaGreatPaxosEndsM34
import Derived.Test.YtakljpcmbpaeaaaGreatPaxosEndsM35
set_option linter.unusedSimpArgs false
set_option linter.unusedVariables false
namespace Go.Proofs.YtakljpcmbpaeaaaGreat
open Go.RowKit
def grI{α:Type}(sz:Nat):ICf α:=fun args G c K=>match args with
 | [.sl es fl,.int .i64 n]=>yUH [fl,Nat.beq es.length 0,decide (0<=n),decide (n<=1000000)] (xJX G c sz [] K) none
 | _=>none
abbrev sGr{α:Type}(i sz:Nat):Nat×Ent α:=(i,spI (grI sz))
theorem xLm{α:Type}{P:Program}{g:FuncId}{sz:Nat}(h:∀n:Int,0<=n->n<=1000000->yZq P g [.sl [] true,.int .i64 n] [] sz):xJn P g (grI sz:ICf α):=by
 have key:∀args (G:Tr Blk') c K r,(grI sz:ICf α) args G c K=some r->∃n G',args= [.sl [] true,.int .i64 n]/\0<=n/\n<=1000000/\G'.get=(St.new ⟨G.get,c⟩ ⟨[],sz,0⟩).get/\∀K':V->Tr Blk'->Nat->Option α,grI sz args G c K'=K' (.bs c 0 0 0) G' (c+1):=by
  intro args G c K r q
  unfold grI at q
  split at q
  ·rename_i es fl n
   obtain⟨h1,h2,h3⟩:=yCP q
   have e1:=h1 fl (by simp)
   have e2:=List.eq_nil_of_length_eq_zero (Nat.eq_of_beq_eq_true (h1 (Nat.beq es.length 0) (by simp)))
   have e3:=of_decide_eq_true (h1 (decide (0<=n)) (by simp))
   have e4:=of_decide_eq_true (h1 (decide (n<=1000000)) (by simp))
   subst e1 e2
   obtain⟨G',m1,m2,m3⟩:=ySh h2
   refine⟨n,G',rfl,e3,e4,m1,fun K'=>?_⟩
   show yUH _ _ _=_
   rw[h3,m3];rfl
  ·cases q
 refine⟨fun args G c K r k1 k2 q Kp hk=>?_,fun args G c K r q=>?_⟩
 ·obtain⟨n,G',rfl,h0,h1,m1,m2⟩:=key args G c K r q
  have hN:=h n h0 h1
  refine .inr (.inr (.inr (.inr ⟨_,yT4 (f:=mny) (.inl ⟨fun x hx=>?_,rfl⟩) hN,?_⟩)))
  ·rcases List.mem_cons.1 hx with rfl | hx
   ·exact .sl _ _ (by simp)
   ·obtain rfl:x=_:=by simpa using hx
    exact .int _ _
  ·rintro v st' ⟨rfl,rfl⟩
   rw[m2] at q
   have:=hk _ G' (c+1) (.bs _ _ _ _) (by rw[m1];exact PSg.new (st:=⟨G.get,c⟩) k2 hN.plain) q
   rw[m1] at this
   exact this
 ·obtain⟨n,G',rfl,h0,h1,m1,m2⟩:=key args G c K r q
  exact⟨_,G',c+1,m2,fun _ k2=>⟨.bs _ _ _ _,by rw[m1];exact PSg.new (st:=⟨G.get,c⟩) k2 fun r hr=>absurd hr (by simp)⟩⟩
theorem xKK(n:Int)(h0:0<=n)(h1:n<=1000000):yZq Tryz.prog 373 [.sl [] true,.int .i64 n] [] 4:=by
 refine⟨⟨_,Tryz.func373,rfl,rfl⟩,fun i hi=>absurd hi (by simp),by simp,fun w S vargs hS hv=>?_⟩
 match vargs,hv with
 | [v0,v1],hv=>
   have p0:=hv.2 0 (by simp) (by simp)
   have p1:=hv.2 1 (by simp) (by simp)
   dsimp only[List.getElem_cons_zero,List.getElem_cons_succ] at p0 p1
   obtain⟨A,c,rfl,-,hf⟩:=p0.sl_inv
   have hf:=hf rfl
   subst hf
   cases p1
   obtain⟨m,rfl⟩:=Int.eq_ofNat_of_zero_le h0
   rcases Nat.eq_zero_or_pos m with rfl | hm
   ·refine(xGf A w).mono ?_
    rintro e w' ⟨rfl,rfl⟩
    exact⟨A,0,S,rfl,Nat.zero_le _,Below.refl _ _,fun _ _ h=>h,fun _ _ h=> .inl h,hS,.inl ⟨rfl,rfl⟩⟩
   ·refine(xGe A m hm (by omega) w).mono ?_
    rintro e w' ⟨rfl,z,hz,rfl⟩
    have hge:=grownCap_ge w m 0 244
    generalize grownCap w m 0 244=G at hge ⊢
    have hlen:(Builtin.zeroCells z m++Builtin.zeroCells z (G-m)).size=G*4:=by
     rw[Array.size_append,yFz,yFz,hz];omega
    generalize Builtin.zeroCells z m++Builtin.zeroCells z (G-m)=cs at hlen ⊢
    refine⟨some ⟨w.heap.size,0,none⟩,G,S,rfl,Nat.zero_le _,(Below.refl _ _).drew.alloc (Nat.le_refl _) _,fun _ _ h=>h,fun _ _ h=> .inl h,fun g i h=>by have:=hS g i h;simp;omega,.inr ⟨w.heap.size,0,rfl,Nat.le_refl _,by simp,fun i _ _ h=>by have:=hS _ _ h;omega,fun i _ hi=>?_,fun i hi=>absurd hi (by simp)⟩⟩
    have hi':i<cs.size:=by omega
    exact⟨⟨cs[i],(World.cell?_alloc_at (w:=w.drew) cs _ w.heap.size i rfl).trans (Array.getElem?_eq_getElem hi')⟩,World.frozen?_alloc_at (w:=w.drew) cs _ w.heap.size i rfl⟩
theorem ySF{α:Type}:yPW Tryz.prog 373 (sGr (α:=α) 373 4).2:=xEM (xLm xKK)
def yRf(L:Nat)(b:List (List V)):Option Int:=bif b.all byRB&&Nat.ble b.length 1000000000 then some (yI6 (b.map xF7):Int) else none
theorem xAE(L:Nat):Ctr Tryz.prog 240 false (caC cdR caN) (cdI .i64) (fun a=>yRf L a.1):=by
 rintro⟨b,_⟩ r hp h
 obtain⟨h1,h2⟩:=yAL h
 cases h2
 obtain⟨h1,h3⟩:=yBA h1
 have e1:(b.map xF7).map byV=b:=xHL (fun r hr=>xJG hr) h1
 refine⟨?_,.int _ _,nofun⟩
 show Con Tryz.prog 240 [.sl b false] _
 rw[←e1,xEE xF8]
 refine xAD Tryz.func240 (by decide) rfl (.int _ _) fun w S vargs hS hv=>?_
 obtain⟨u1,us,rfl,q1,hv⟩:=yVI hv
 obtain rfl:=xHo hv
 obtain⟨A,c,rfl,hr⟩:=xMQ hS q1
 refine(xJq A c _ w (by rw[List.length_map];exact Nat.le_of_ble_eq_true h3) hr).mono ?_
 rintro e w' ⟨rfl,hB⟩
 exact⟨_,rfl,.int _ _,hB⟩
theorem xId{P:Program}{i:FuncId}{args:List V}{es:List (List V)}{y:V}{e:TypeId}(hc:yI1 P i)(hy:Plain y)(hes:∀r∈es,∀x∈r,Plain x)(hrow:∀r∈es,r.length=1)
  (h:∀(w:World) (S:yEZ) (vargs:List Value),(∀g i,S g i->g<w.heap.size)->VRs yMH S w args vargs->Calls P i vargs.toArray w fun en w'=>∃v u xs,en= .returned (.tuple #[v,u])/\w'.ownsRow w.heap.size e 1 v es.length xs/\
    (∀i (hi:i<es.length) j (hj:j<es[i].length),∃q,xs[i*1+j]?=some q/\q.oneCell'=true/\VR yMH S w' es[i][j] q)/\VR yMH S w' y u/\Below w.heap.size w w'):xJE P .t i args [.w es 1,.p y]:=by
 refine⟨hc,?_,by show(1:Nat)<=1000;omega,fun w S vargs hS hv=>(h w S vargs hS hv).mono ?_⟩
 ·intro x hx
  rcases List.mem_cons.1 hx with rfl | hx
  ·exact hes
  ·rcases List.mem_cons.1 hx with rfl | hx
   ·exact hy
   ·cases hx
 ·rintro en w' ⟨v,u,xs,rfl,⟨hlen,hown⟩,hx,hu,hB⟩
  have hget:∀b k,(nG [.w es 1,.p y]).get b=some k->b=1/\k=⟨es,1,0⟩:=fun b k hk=>by
   rw[xJV (by show(1:Nat)<=1000;omega)] at hk
   split at hk
   ·rename_i hb
    have:rN [AV0.w es 1,.p y]=2:=rfl
    obtain rfl:b=1:=by omega
    injection hk with hk
    exact⟨rfl,hk.symm⟩
   ·cases hk
  have fin:∀L:Loc,L.sz=1->L.mp=false->BR (fun x=>if x=1 then some L else none) S w' ⟨es,1,0⟩ L->(0<L.lim->w.heap.size<=L.g/\L.g<w'.heap.size)→
    VR (fun x=>if x=1 then some L else none) S w' (.bs 1 0 es.length es.length) v→
    ∃v' mu' S',Ending.returned (.tuple #[v,u])= .returned v'/\VR mu' S' w' (rkV .t (av0s [.w es 1,.p y] 1).1) v'/\SR mu' S' (fun g=>w.heap.size<=g) ⟨(nG [.w es 1,.p y]).get,rN [.w es 1,.p y]⟩ w'/\(∀g i,S g i->S' g i)/\(∀g i,S' g i->S g i\/w.heap.size<=g)/\Below w.heap.size w w':=fun L h1 h2 h3 h4 h5=>by
   refine⟨_,fun x=>if x=1 then some L else none,S,rfl,?_,⟨fun b k hk=>?_,fun b b' k k' L1 L2 hne hk hk'=>absurd ((hget b k hk).1.trans (hget b' k' hk').1.symm) hne,fun b k L1 hk hL g i he hs=>?_,fun g i hs=>Nat.lt_of_lt_of_le (hS g i hs) hB.size⟩,fun _ _ h=>h,fun _ _ h=> .inl h,hB⟩
   ·refine VR.tup [_,_] [v,u] rfl fun j hj hj'=>?_
    match j,hj with
    | 0,_=>exact h5
    | 1,_=>exact hu.mono (fun b L h=>by cases h) (fun _ _ h=>h) (fun _ _ _=>rfl)
   ·obtain⟨rfl,rfl⟩:=hget b k hk
    exact⟨L,if_pos rfl,h3,fun hp=>h4 (hp.elim id fun h=>by rw[h2] at h;cases h)⟩
   ·obtain⟨rfl,rfl⟩:=hget b k hk
    rw[if_pos rfl] at hL
    injection hL with hL
    subst hL
    have hp:0<L.lim:=he.rg.pos
    have:=(h4 hp).1
    have:=hS g i hs
    have:=he.1
    omega
  rcases hown with ⟨rfl,h0⟩ | ⟨g,cap,cur,rfl,hb,hh,hnc,hcap,hsz,htk⟩
  ·have:es= []:=List.length_eq_zero_iff.1 h0
   subst this
   refine fin ⟨0,0,1,0,false⟩ rfl rfl ⟨rfl,fun _=>Nat.le_refl _,Nat.le_refl _,fun i hi=>absurd hi (by simp),fun i h1 h2=>?_,fun _ i hi=>absurd hi (by simp),fun h=>by cases h⟩ (fun h=>absurd h (by simp)) (.bs 1 0 0 0 ⟨0,0,1,0,false⟩ none 0 (if_pos rfl) (Nat.le_refl _) (Nat.le_refl _) (.inl rfl) rfl)
   dsimp only at h1 h2
   omega
  ·have hg:g<w'.heap.size:=by
     rcases Nat.lt_or_ge g w'.heap.size with h | h
     ·exact h
     ·rw[Array.getElem?_eq_none h] at hh;cases hh
   have hcell:∀k,w'.cell? ⟨g,k,none⟩=cur[k]?:=fun k=>by
    unfold World.cell?
    simp[hh]
   have hfz:∀k,w'.frozen? ⟨g,k,none⟩=false:=fun k=>by
    unfold World.frozen?
    simp[hh]
   refine fin ⟨g,0,1,cap,false⟩ rfl rfl ⟨rfl,fun _=>hnc,Nat.zero_le _,fun i hi=>hrow _ (List.getElem_mem hi),fun i h1 h2=>?_,fun _ i hi j hj=>?_,fun h=>by cases h⟩ (fun _=>⟨hb,hg⟩) (.bs 1 0 _ _ ⟨g,0,1,cap,false⟩ _ cap (if_pos rfl) (Nat.le_refl _) hnc (.inr ⟨rfl,by show 0+cap<=cap;omega⟩) rfl)
   ·dsimp only at h1 h2
    refine⟨?_,hfz i⟩
    rw[hcell]
    exact⟨_,Array.getElem?_eq_getElem (by omega)⟩
   ·obtain⟨q,e1,e2,e3⟩:=hx i hi j hj
    refine⟨q,?_,e2,e3.mono (fun b L h=>by cases h) (fun _ _ h=>h) (fun _ _ _=>rfl)⟩
    show w'.cell? ⟨g,0+i*1+j,none⟩=_
    rw[hcell,Nat.zero_add,←Array.getElem?_toList]
    rw[←htk] at e1
    have hlt:i*1+j<es.length*1:=by
     rcases Nat.lt_or_ge (i*1+j) (es.length*1) with h | h
     ·exact h
     ·rw[List.getElem?_take,if_neg (by omega)] at e1;cases e1
    rwa [List.getElem?_take,if_pos hlt] at e1
def yIE(L:Nat)(b:List (List V))(n:Int)(l:List (List V)):Option (List (List V)×Int×Unit):=
 bif b.all byRB&&(l.all inRB&&Nat.ble (b.length+6*l.length) 1000000000) then some ((yTH (b.map xF7) n (l.map xHr)).1.map byV,(yTH (b.map xF7) n (l.map xHr)).2,()) else none
theorem yVw(L:Nat):xLC Tryz.prog .t 177 (caC cdR (caC cI (caC cdR caN))) (zW 1 (zP cI zN)).cz (fun a=>yIE L a.1 a.2.1 a.2.2.1):=by
 rintro⟨b,n,l,_⟩ r hp h
 obtain⟨h1,h2⟩:=yAL h
 cases h2
 obtain⟨h1,h3⟩:=yBA h1
 obtain⟨h3,h4⟩:=yBA h3
 have e1:(b.map xF7).map byV=b:=xHL (fun r hr=>xJG hr) h1
 have e2:(l.map xHr).map inV=l:=xHL (fun r hr=>xLp hr) h3
 show xJE Tryz.prog .t 177 [.sl b false,.int .i64 n,.sl l false] [.w ((yTH (b.map xF7) n (l.map xHr)).1.map byV) 1,.p (.int .i64 (yTH (b.map xF7) n (l.map xHr)).2)]
 have hbd:(b.map xF7).length+6*(l.map xHr).length<=1000000000:=by rw[List.length_map,List.length_map];exact Nat.le_of_ble_eq_true h4
 generalize b.map xF7=b' at*
 generalize l.map xHr=l' at*
 rw[←e1,←e2]
 refine xId (e:=5) ⟨_,Tryz.func177,by decide,rfl⟩ (.int _ _) (fun r hr=>by obtain⟨c,_,rfl⟩:=List.mem_map.1 hr;exact xLR c) (fun r hr=>by obtain⟨p,_,rfl⟩:=List.mem_map.1 hr;rfl) fun w S vargs hS hv=>?_
 obtain⟨u1,us,rfl,e1,hv⟩:=yVI hv
 obtain⟨u2,us,rfl,e2,hv⟩:=yVI hv
 obtain⟨u3,us,rfl,e3,hv⟩:=yVI hv
 obtain rfl:=xHo hv
 obtain rfl:=xMR e2
 obtain⟨A1,c1,rfl,r1⟩:=xMQ hS e1
 obtain⟨A3,c3,rfl,r3⟩:=xM8 hS e3
 refine(xJp A1 A3 c1 c3 n b' l' w hbd r1 r3).mono ?_
 rintro en w' h
 unfold yTH
 cases hq:xD6 b' n l' with
 | none=>
   rw[hq] at h
   obtain⟨rfl,hB⟩:=h
   exact⟨_,_,[],rfl,⟨rfl,.inl ⟨rfl,rfl⟩⟩,fun i hi=>absurd hi (by simp),.int _ _,hB⟩
 | some x=>
   rw[hq] at h
   obtain⟨v,rfl,hrow,hB⟩:=h
   dsimp only
   refine⟨v,_,yFs x,rfl,by rw[List.length_map];exact hrow,fun i hi j hj=>?_,.int _ _,hB⟩
   have hi':i<x.length:=by simpa using hi
   have hj0:j=0:=by simpa[byV] using hj
   subst hj0
   refine⟨.int .u8 (x[i].toNat:Int),?_,rfl,?_⟩
   ·rw[Nat.mul_one,Nat.add_zero]
    simp[yFs,hi']
   ·simp only[List.getElem_map,byV,List.getElem_cons_zero]
    exact .int _ _
abbrev ySW:=fw1 240 (caC cdR caN) cI
abbrev yMu:=nw1 356 2 (caC cdR caN)
abbrev yMt:=nw1 357 4 (caC cdR caN)
abbrev yN6:=rw3 177 .t (caC cdR (caC cI (caC cdR caN))) (zW 1 (zP cI zN))
abbrev yMs:=nw1 223 2 (caC cdR caN)
abbrev yND:=nw1 226 1 (caC cdR caN)
abbrev yLw:=nw1 227 1 (caC cdR caN)
abbrev yNC:=nw1 231 1 (caC cdR caN)
set_option maxRecDepth 100000
set_option maxHeartbeats 16000000
abbrev yD3:=fw3 52 (caC cI (caC cI (caC cI caN))) cdB
abbrev yTd(x0:Int)(x1:Int)(x2:Int):Option Bool:=
 bif decide (x1<=x0) then
 some (decide (x0<=x2))
 else
 some false
theorem xFN:yD3.Eq [] .no (yTd):=fun _=>by kernel_rfl
def yJS(L:Nat):yD3.T:=yTd
theorem yQx(L:Nat):yD3.C (yJS L):=yD3.c (xFN) tN Tryz.func52 (by kernel_rfl) (lN _)
abbrev yB4:=fw1 10 (caC yDX caN) cdB
abbrev yRy(f1:yD3.T)(x0:yAQ):Option Bool:=
 yAB (f1 x0.Nodes 1 16) fun r1=>
 bif r1 then
 yAB (f1 x0.Slots 1 x0.Nodes) fun r2=>
 bif r2 then
 yAB (f1 x0.Blocks 1 64) fun r3=>
 bif r3 then
 yAB (f1 x0.Per 1 8) fun r4=>
 bif r4 then
 yAB (f1 x0.Journal (w64 (x0.Per+2)) 64) fun r5=>
 bif r5 then
 yAB (f1 x0.Log (w64 (8*x0.Slots)) 512) fun r6=>
 bif r6 then
 bif decide (1<=x0.Lease) then
 bif decide (x0.Lease<x0.Wait) then
 some (decide (x0.Wait<=1048576))
 else
 some false
 else
 some false
 else
 some false
 else
 some false
 else
 some false
 else
 some false
 else
 some false
 else
 some false
theorem xCt(f1):yB4.Eq [yD3.s f1] .no (yRy f1):=fun _=>by kernel_rfl
def yCk(L:Nat):yB4.T:=yRy (yJS L)
theorem yIH(L:Nat):yB4.C (yCk L):=yB4.c (xCt (yJS L)) (tC (yQx L).ent tN) Tryz.func10 (by kernel_rfl) (lN _)
abbrev yIn:=fw3 105 (caC yDX (caC cI (caC cI caN))) cI
abbrev yQN(f1:yB4.T)(f2:yD3.T)(x0:yAQ)(x1:Int)(x2:Int):Option Int:=
 yAB (f1 x0) fun r1=>
 bif !r1 then
 some (-1)
 else
 yAB (f2 x1 0 (w64 (x0.Blocks-1))) fun r2=>
 bif !r2 then
 some (-1)
 else
 yAB (f2 x2 0 (w64 (x0.Per-1))) fun r3=>
 bif !r3 then
 some (-1)
 else
 some (w64 ((w64 ((w64 ((w64 ((w64 (1+(w64 (2*x0.Nodes))))+x0.Log))+(w64 (x0.Slots*(w64 (1+x0.Journal))))))+(w64 (x1*x0.Per))))+x2))
theorem xBD(f1 f2):yIn.Eq [yB4.s f1,yD3.s f2] .no (yQN f1 f2):=fun _=>by kernel_rfl
def yQw(L:Nat):yIn.T:=yQN (yCk L) (yJS L)
theorem xBC(L:Nat):yIn.C (yQw L):=yIn.c (xBD (yCk L) (yJS L)) (tC (yIH L).ent (tC (yQx L).ent tN)) Tryz.func105 (by kernel_rfl) (lN _)
abbrev yC7:=fw1 49 (caC yDX caN) cI
abbrev yOq(f1:yB4.T)(f2:yIn.T)(x0:yAQ):Option Int:=
 yAB (f1 x0) fun r1=>
 bif !r1 then
 some 0
 else
 yAB (f2 x0 (w64 (x0.Blocks-1)) (w64 (x0.Per-1))) fun r2=>
 some (w64 (r2+1))
theorem yY7(f1 f2):yC7.Eq [yB4.s f1,yIn.s f2] .no (yOq f1 f2):=fun _=>by kernel_rfl
def yDg(L:Nat):yC7.T:=yOq (yCk L) (yQw L)
theorem yOp(L:Nat):yC7.C (yDg L):=yC7.c (yY7 (yCk L) (yQw L)) (tC (yIH L).ent (tC (xBC L).ent tN)) Tryz.func49 (by kernel_rfl) (lN _)
abbrev yJ4:=fw1 36 (caC yDX caN) cdB
abbrev yOj(f1:yB4.T)(f2:yC7.T)(x0:yAQ):Option Bool:=
 yAB (f1 x0) fun r1=>
 bif r1 then
 bif decide (x0.Nodes<=4) then
 bif decide (x0.Log<=60) then
 yAB (f2 x0) fun r2=>
 some (decide (r2<=400))
 else
 some false
 else
 some false
 else
 some false
theorem xCT(f1 f2):yJ4.Eq [yB4.s f1,yC7.s f2] .no (yOj f1 f2):=fun _=>by kernel_rfl
def yMZ(L:Nat):yJ4.T:=yOj (yCk L) (yDg L)
theorem xCS(L:Nat):yJ4.C (yMZ L):=yJ4.c (xCT (yCk L) (yDg L)) (tC (yIH L).ent (tC (yOp L).ent tN)) Tryz.func36 (by kernel_rfl) (lN _)
abbrev yC9:=fw2 85 (caC yCY (caC cI caN)) cdB
abbrev yPK(x0:yAA)(x1:Int):Option Bool:=
 bif decide (16<=x1) then
 bif decide (w64 (x1.tdiv 16)<x0.Next) then
 some (decide (x1.tmod 16<(x0.Keys.length:Int)))
 else
 some false
 else
 some false
theorem yZN:yC9.Eq [] .no (yPK):=fun _=>by kernel_rfl
def yBm(L:Nat):yC9.T:=yPK
theorem yPJ(L:Nat):yC9.C (yBm L):=yC9.c (yZN) tN Tryz.func85 (by kernel_rfl) (lN _)
abbrev yHK:=(List (List V))×Int×Int×Int×Unit
abbrev yKP:=(List (List V))×Int×Int×Unit
abbrev yKQ:=Bool×Unit
abbrev yE7{α:Type}(s:yHK)(kn:yHK->Option α)(k0:yKP->Option α)(k1:yKQ->Option α):Option α:=
 bif decide (s.2.2.2.1<s.2.2.1) then
 gI s.1 yEs.ks s.2.2.2.1<|
 gI s.1 yEs.ks s.2.2.1<|
 bif(aI s.1 s.2.2.2.1.toNat 0)==(aI s.1 s.2.2.1.toNat 0) then
 k1 (false,())
 else
 kn (s.1,s.2.1,s.2.2.1,w64 (s.2.2.2.1+1),())
 else
 k0 (s.1,s.2.1,s.2.2.1,())
abbrev yHL:LW2 yHK yKP yKQ:=⟨(lvC 0 (mP cdR) (lvC 1 (mP cI) (lvC 5 (mP cI) (lvC 6 (mP cI) lvN)))),(.exit 2),(lvC 0 (mP cdR) (lvC 1 (mP cI) (lvC 5 (mP cI) lvN))),.ret,(lvC 4 (mP cdB) lvN)⟩
theorem yTl{α:Type}:yHL.Eq (α:=α) [] Tryz.f145 [1,0,1,0,0,1,0,0,1,1,0] .no (yE7):=fun _ _ _=>by kernel_rfl
abbrev yHI:=(List (List V))×Int×Int×Unit
abbrev yKN:=Unit
abbrev yKO:=Bool×Unit
abbrev yJY{α:Type}(F1:LF2 yHK yKP yKQ α)(s:yHI)(kn:yHI->Option α)(k0:yKN->Option α)(k1:yKO->Option α):Option α:=
 letI qa:=s.2.2.1
 bif decide (qa<(s.1.length:Int)) then
 gI s.1 yEs.ks qa<|
 bif decide (aI s.1 qa.toNat 0<0) then
 k1 (false,())
 else
 gI s.1 yEs.ks qa<|
 bif decide (s.2.1<=aI s.1 qa.toNat 0) then
 k1 (false,())
 else
 gI s.1 yEs.ks qa<|
 bif decide (512<((aS s.1 qa.toNat 1).size:Int)) then
 k1 (false,())
 else
 F1 (s.1,s.2.1,qa,0,()) (fun q1=>
 kn (q1.1,q1.2.1,w64 (q1.2.2.1+1),())) (fun q2=>
 k1 (q2.1,()))
 else
 k0 (())
abbrev yHJ:LW2 yHI yKN yKO:=⟨(lvC 0 (mP cdR) (lvC 1 (mP cI) (lvC 5 (mP cI) lvN))),(.exit 0),lvN,.ret,(lvC 4 (mP cdB) lvN)⟩
theorem yTk{α:Type}(F1):yHJ.Eq (α:=α) [] Tryz.f145 [1,0,1,0] (.two .no (.two (.one (.two .no (.two .no (.one (.lp (yHL.s F1)))))) .no)) (yJY F1):=fun _ _ _=>by kernel_rfl
abbrev yF9:=fw2 145 (caC cdR (caC cI caN)) cdB
abbrev yRV(F0:LF2 yHI yKN yKO (Bool))(x0:List (List V))(x1:Int):Option Bool:=
 F0 (x0,x1,0,()) (fun q1=>
 some true) (fun q2=>
 some q2.1)
theorem yXb(F0):yF9.Eq [] (.two .no (.two (.two .no (.one (.lp (yHJ.s F0)))) .no)) (yRV F0):=fun _=>by kernel_rfl
def yGs(L:Nat):yF9.T:=yRV (yAe (yJY (yAe (yE7) L)) L)
theorem ySx{α:Type}(L:Nat):LO Tryz.f145 [1,0,1,0,0,1,0,0,1,1,0] (yHL.s (α:=α) (yAe (yE7) L)):=yHL.k (yTl) tN (lN _) (by kernel_rfl) L
theorem ySw{α:Type}(L:Nat):LO Tryz.f145 [1,0,1,0] (yHJ.s (α:=α) (yAe (yJY (yAe (yE7) L)) L)):=yHJ.k (yTk (yAe (yE7) L)) tN (lS (lN _) (lS (lB (lS (lN _) (lS (lN _) (lB (lL (ySx L)))))) (lN _))) (by kernel_rfl) L
theorem yXa(L:Nat):yF9.C (yGs L):=yF9.c (yXb (yAe (yJY (yAe (yE7) L)) L)) tN Tryz.func145 (by kernel_rfl) (lS (lN _) (lS (lS (lN _) (lB (lL (ySw L)))) (lN _)))
set_option maxRecDepth 100000
set_option maxHeartbeats 16000000
abbrev yH0:=yAA×Int×Unit
abbrev yLh:=Unit
abbrev yLi:=Int×Unit
abbrev yHn{α:Type}(f1:yC9.T)(s:yH0)(kn:yH0->Option α)(k0:yLh->Option α)(k1:yLi->Option α):Option α:=
 letI qa:=s.2.1
 bif decide (qa<(s.1.Fenced.length:Int)) then
 gI s.1.Fenced kI qa<|
 yAB (f1 s.1 (aI s.1.Fenced qa.toNat 0)) fun r1=>
 bif !r1 then
 k1 (2,())
 else
 bif decide (0<qa) then
 gI s.1.Fenced kI qa<|
 gI s.1.Fenced kI (w64 (qa-1))<|
 bif decide (aI s.1.Fenced qa.toNat 0<=aI s.1.Fenced ((w64 (qa-1)).toNat) 0) then
 k1 (2,())
 else
 kn (s.1,w64 (qa+1),())
 else
 kn (s.1,w64 (qa+1),())
 else
 k0 (())
abbrev yH1:LW2 yH0 yLh yLi:=⟨(lvC 1 yAI (lvC 5 (mP cI) lvN)),(.exit 4),lvN,.ret,(lvC 2 (mP cI) lvN)⟩
theorem yUj{α:Type}(f1):yH1.Eq (α:=α) [yC9.s f1] Tryz.f84 [1,1,1,1,0,1,0] .no (yHn f1):=fun _ _ _=>by kernel_rfl
abbrev yHy:=yAA×Int×Unit
abbrev yLf:=yAA×Unit
abbrev yLg:=Int×Unit
abbrev yEf{α:Type}(f1:yF9.T)(f2:yC9.T)(s:yHy)(kn:yHy->Option α)(k0:yLf->Option α)(k1:yLg->Option α):Option α:=
 letI qb:=s.2.1
 letI qa:=aI s.1.Keys qb.toNat 0
 bif decide (qb<(s.1.Keys.length:Int)) then
 gI s.1.Cache kL qb<|
 yAB (f1 (aR s.1.Cache qb.toNat 0) (s.1.S.length:Int)) fun r1=>
 bif !r1 then
 k1 (2,())
 else
 gI s.1.Keys kI qb<|
 bif qa !=0 then
 gI s.1.Keys kI qb<|
 yAB (f2 s.1 qa) fun r2=>
 bif !r2 then
 k1 (2,())
 else
 gI s.1.Keys kI qb<|
 bif(qa.tmod 16) !=qb then
 k1 (2,())
 else
 kn (s.1,w64 (qb+1),())
 else
 kn (s.1,w64 (qb+1),())
 else
 k0 (s.1,())
abbrev yHz:LW2 yHy yLf yLg:=⟨(lvC 1 yAI (lvC 4 (mP cI) lvN)),(.exit 2),(lvC 1 yAI lvN),.ret,(lvC 2 (mP cI) lvN)⟩
theorem yUi{α:Type}(f1 f2):yHz.Eq (α:=α) [yF9.s f1,yC9.s f2] Tryz.f84 [1,1,1,0,1,0] .no (yEf f1 f2):=fun _ _ _=>by kernel_rfl
abbrev yHw:=yAA×Int×Unit
abbrev yLd:=yAA×Unit
abbrev yLe:=Int×Unit
abbrev yEe{α:Type}(s:yHw)(kn:yHw->Option α)(k0:yLd->Option α)(k1:yLe->Option α):Option α:=
 bif decide (s.2.1<(s.1.S.length:Int)) then
 gI s.1.S kS s.2.1<|
 bif decide (512<((aS s.1.S s.2.1.toNat 0).size:Int)) then
 k1 (2,())
 else
 kn (s.1,w64 (s.2.1+1),())
 else
 k0 (s.1,())
abbrev yHx:LW2 yHw yLd yLe:=⟨(lvC 1 yAI (lvC 3 (mP cI) lvN)),(.exit 0),(lvC 1 yAI lvN),.ret,(lvC 2 (mP cI) lvN)⟩
theorem yUh{α:Type}:yHx.Eq (α:=α) [] Tryz.f84 [1,1,0,1,0] .no (yEe):=fun _ _ _=>by kernel_rfl
abbrev yC8:=fw1 84 (caC yCY caN) cI
abbrev yOt(F0:LF2 yHw yLd yLe (Int))(F1:LF2 yHy yLf yLg (Int))(F2:LF2 yH0 yLh yLi (Int))(x0:yAA):Option Int:=
 bif decide ((x0.S.length:Int)<1) then
 some 2
 else
 bif decide ((x0.Keys.length:Int)<1) then
 some 2
 else
 bif decide (16<(x0.Keys.length:Int)) then
 some 2
 else
 bif(x0.Cache.length:Int) !=(x0.Keys.length:Int) then
 some 2
 else
 bif decide (x0.Next<1) then
 some 2
 else
 bif decide (68719476736<x0.Next) then
 some 2
 else
 F0 (x0,0,()) (fun q1=>
 F1 (q1.1,0,()) (fun q2=>
 F2 (q2.1,0,()) (fun q3=>
 some 0) (fun q4=>
 some q4.1)) (fun q5=>
 some q5.1)) (fun q6=>
 some q6.1)
theorem yZA(F0 F1 F2):yC8.Eq [] (.two .no (.two .no (.two (.two .no (.one (.lp (yHx.s F0)))) (.two (.two .no (.one (.lp (yHz.s F1)))) (.two (.two .no (.one (.lp (yH1.s F2)))) .no))))) (yOt F0 F1 F2):=fun _=>by kernel_rfl
def yCl(L:Nat):yC8.T:=yOt (yAe (yEe) L) (yAe (yEf (yGs L) (yBm L)) L) (yAe (yHn (yBm L)) L)
theorem yTh{α:Type}(L:Nat):LO Tryz.f84 [1,1,1,1,0,1,0] (yH1.s (α:=α) (yAe (yHn (yBm L)) L)):=yH1.k (yUj (yBm L)) (tC (yPJ L).ent tN) (lN _) (by kernel_rfl) L
theorem yTg{α:Type}(L:Nat):LO Tryz.f84 [1,1,1,0,1,0] (yHz.s (α:=α) (yAe (yEf (yGs L) (yBm L)) L)):=yHz.k (yUi (yGs L) (yBm L)) (tC (yXa L).ent (tC (yPJ L).ent tN)) (lN _) (by kernel_rfl) L
theorem yTf{α:Type}(L:Nat):LO Tryz.f84 [1,1,0,1,0] (yHx.s (α:=α) (yAe (yEe) L)):=yHx.k (yUh) tN (lN _) (by kernel_rfl) L
theorem yOs(L:Nat):yC8.C (yCl L):=yC8.c (yZA (yAe (yEe) L) (yAe (yEf (yGs L) (yBm L)) L) (yAe (yHn (yBm L)) L)) tN Tryz.func84 (by kernel_rfl) (lS (lN _) (lS (lN _) (lS (lS (lN _) (lB (lL (yTf L)))) (lS (lS (lN _) (lB (lL (yTg L)))) (lS (lS (lN _) (lB (lL (yTh L)))) (lN _))))))
abbrev yHG:=(List (List V))×yAA×Int×Int×Unit
abbrev yKK:=(List (List V))×yAA×Int×Unit
abbrev yKL:=Bool×Unit
abbrev yDE{α:Type}(s:yHG)(kn:yHG->Option α)(k0:yKK->Option α)(k1:yKL->Option α):Option α:=
 bif decide (s.2.2.2.1<(s.2.1.Fenced.length:Int)) then
 gI s.2.1.Fenced kI s.2.2.2.1<|
 gI s.1 kI s.2.2.1<|
 bif(aI s.2.1.Fenced s.2.2.2.1.toNat 0)==(aI s.1 s.2.2.1.toNat 0) then
 k1 (true,())
 else
 kn (s.1,s.2.1,s.2.2.1,w64 (s.2.2.2.1+1),())
 else
 k0 (s.1,s.2.1,s.2.2.1,())
abbrev yHH:LW2 yHG yKK yKL:=⟨(lvC 1 (mP cdR) (lvC 2 yAI (lvC 5 (mP cI) (lvC 6 (mP cI) lvN)))),(.exit 2),(lvC 1 (mP cdR) (lvC 2 yAI (lvC 5 (mP cI) lvN))),.ret,(lvC 4 (mP cdB) lvN)⟩
theorem yTj{α:Type}:yHH.Eq (α:=α) [] Tryz.f86 [1,0,1,0,0,1,0,0,1,1,0] .no (yDE):=fun _ _ _=>by kernel_rfl
abbrev yHE:=(List (List V))×yAA×Int×Unit
abbrev yKI:=Unit
abbrev yKJ:=Bool×Unit
abbrev yE5{α:Type}(F1:LF2 yHG yKK yKL α)(s:yHE)(kn:yHE->Option α)(k0:yKI->Option α)(k1:yKJ->Option α):Option α:=
 bif decide (s.2.2.1<(s.1.length:Int)) then
 gI s.1 kI s.2.2.1<|
 bif decide (aI s.1 s.2.2.1.toNat 0<1) then
 k1 (true,())
 else
 F1 (s.1,s.2.1,s.2.2.1,0,()) (fun q1=>
 kn (q1.1,q1.2.1,w64 (q1.2.2.1+1),())) (fun q2=>
 k1 (q2.1,()))
 else
 k0 (())
abbrev yHF:LW2 yHE yKI yKJ:=⟨(lvC 1 (mP cdR) (lvC 2 yAI (lvC 5 (mP cI) lvN))),(.exit 0),lvN,.ret,(lvC 4 (mP cdB) lvN)⟩
theorem yTi{α:Type}(F1):yHF.Eq (α:=α) [] Tryz.f86 [1,0,1,0] (.two .no (.two (.one (.two .no (.two .no (.one (.lp (yHH.s F1)))))) .no)) (yE5 F1):=fun _ _ _=>by kernel_rfl
abbrev yF8:=fw2 86 (caC yCY (caC cdR caN)) cdB
abbrev yRU(F0:LF2 yHE yKI yKJ (Bool))(x0:yAA)(x1:List (List V)):Option Bool:=
 F0 (x1,x0,0,()) (fun q1=>
 some false) (fun q2=>
 some q2.1)
theorem yXZ(F0):yF8.Eq [] (.two .no (.two (.two .no (.one (.lp (yHF.s F0)))) .no)) (yRU F0):=fun _=>by kernel_rfl
def yGr(L:Nat):yF8.T:=yRU (yAe (yE5 (yAe (yDE) L)) L)
theorem ySv{α:Type}(L:Nat):LO Tryz.f86 [1,0,1,0,0,1,0,0,1,1,0] (yHH.s (α:=α) (yAe (yDE) L)):=yHH.k (yTj) tN (lN _) (by kernel_rfl) L
theorem ySu{α:Type}(L:Nat):LO Tryz.f86 [1,0,1,0] (yHF.s (α:=α) (yAe (yE5 (yAe (yDE) L)) L)):=yHF.k (yTi (yAe (yDE) L)) tN (lS (lN _) (lS (lB (lS (lN _) (lS (lN _) (lB (lL (ySv L)))))) (lN _))) (by kernel_rfl) L
theorem yXY(L:Nat):yF8.C (yGr L):=yF8.c (yXZ (yAe (yE5 (yAe (yDE) L)) L)) tN Tryz.func86 (by kernel_rfl) (lS (lN _) (lS (lS (lN _) (lB (lL (ySu L)))) (lN _)))
set_option maxRecDepth 100000
set_option maxHeartbeats 16000000
abbrev yHM:=yAA×yAA×((List (List V))×(List (List V))×(List (List V))×Int×(List (List V))×Unit)×Int×Unit
abbrev yKR:=yAA×((List (List V))×(List (List V))×(List (List V))×Int×(List (List V))×Unit)×Unit
abbrev yDi{α:Type}(s:yHM)(kn:yHM->Option α)(k0:yKR->Option α):Option α:=
 letI qg:=s.2.2.1.1
 letI qf:=s.2.2.2.1
 letI qd:=s.2.2.1.2.2.1
 letI qc:=s.2.2.1.2.2.2.2.1
 letI qb:=s.2.2.1.2.1
 letI qa:=0+((aR s.1.Cache qf.toNat 0).length)
 letI qe:=qb++([[V.bs 16 0 qa qa]])
 bif decide (qf<(s.1.Cache.length:Int)) then
 gI s.1.Cache kL qf<|
 gd ((aR s.1.Cache qf.toNat 0).all fun r=>Nat.beq r.length 2)<|
 gM qa 24<|
 gd (Nat.beq (0+qb.length) qb.length)<|
 gM (qb.length+1) 24<|
 gW qg qg.length<|
 gd (Nat.beq (qb.length+1) (qe.length))<|
 gd (xEz [(16,aR s.1.Cache qf.toNat 0)] qe)<|
 gW qd qd.length<|
 gW qc qc.length<|
 kn (s.1,s.2.1,(qg,xFo [(16,aR s.1.Cache qf.toNat 0)] qe,qd,s.2.2.1.2.2.2.1,qc,()),w64 (qf+1),())
 else
 gW qg qg.length<|
 gW qb qb.length<|
 gW qd qd.length<|
 gW qc qc.length<|
 k0 (s.2.1,(qg,qb,qd,s.2.2.1.2.2.2.1,qc,()),())
abbrev yHN:LW1 yHM yKR:=⟨(lvC 1 yAI (lvC 2 yAI (lvC 3 (mO (zW 1 (zF 1 [16] (zW 1 (zP cI (zW 1 zN))))) 5) (lvC 4 (mP cI) lvN)))),(.exit 0),(lvC 2 yAI (lvC 3 (mO (zW 1 (zW 1 (zW 1 (zP cI (zW 1 zN))))) 5) lvN))⟩
theorem yTm{α:Type}:yHN.Eq (α:=α) [] Tryz.f87 [1,1,0,1,0] .no (yDi):=fun _ _ _=>by kernel_rfl
abbrev yGA:=rw1 87 .a (caC yCY caN) (zW 1 (zW 1 (zW 1 (zP cI (zW 1 zN)))))
abbrev yNa(F0:LF1 yHM yKR ((List (List V))×(List (List V))×(List (List V))×Int×(List (List V))×Unit))(x0:yAA):Option ((List (List V))×(List (List V))×(List (List V))×Int×(List (List V))×Unit):=
 gd (x0.S.all fun r=>Nat.beq r.length 1)<|
 gM (0+x0.S.length) 16<|
 gd (x0.Keys.all fun r=>Nat.beq r.length 1)<|
 gM (0+x0.Keys.length) 8<|
 gd (x0.Fenced.all fun r=>Nat.beq r.length 1)<|
 gM (0+x0.Fenced.length) 8<|
 gW x0.S (0+x0.S.length)<|
 gW x0.Keys (0+x0.Keys.length)<|
 gW x0.Fenced (0+x0.Fenced.length)<|
 F0 (x0,yAA.z,(x0.S,[],x0.Keys,x0.Next,x0.Fenced,()),0,()) (fun q1=>
 letI qa:=q1.2.1.2.2.2.2.1
 gW q1.2.1.1 q1.2.1.1.length<|
 gW q1.2.1.2.1 q1.2.1.2.1.length<|
 gW q1.2.1.2.2.1 q1.2.1.2.2.1.length<|
 gW qa qa.length<|
 some (q1.2.1.1,q1.2.1.2.1,q1.2.1.2.2.1,q1.2.1.2.2.2.1,qa,()))
theorem yXd(F0):yGA.Eq [] (.two .no (.two .no (.two (.two .no (.one (.lp (yHN.s F0)))) .no))) (yNa F0):=fun _=>by kernel_rfl
def yFa(L:Nat):yGA.T:=yNa (yBL (yDi) L)
theorem ySy{α:Type}(L:Nat):LO Tryz.f87 [1,1,0,1,0] (yHN.s (α:=α) (yBL (yDi) L)):=yHN.k (yTm) tN (lN _) (by kernel_rfl) L
theorem yXc(L:Nat):yGA.C (yFa L):=yGA.c (yXd (yBL (yDi) L)) tN Tryz.func87 (by kernel_rfl) (lS (lN _) (lS (lN _) (lS (lS (lN _) (lB (lL (ySy L)))) (lN _))))
abbrev yH4:=(List (List V))×Int×Int×Unit
abbrev yLk:=Unit
abbrev yLl:=Int×Unit
abbrev yLA{α:Type}(s:yH4)(kn:yH4->Option α)(k0:yLk->Option α)(k1:yLl->Option α):Option α:=
 bif decide (s.2.2.1<(s.1.length:Int)) then
 gI s.1 yEs.ks s.2.2.1<|
 bif(aI s.1 s.2.2.1.toNat 0)==s.2.1 then
 k1 (s.2.2.1,())
 else
 kn (s.1,s.2.1,w64 (s.2.2.1+1),())
 else
 k0 (())
abbrev yH5:LW2 yH4 yLk yLl:=⟨(lvC 0 (mP cdR) (lvC 1 (mP cI) (lvC 5 (mP cI) lvN))),(.exit 0),lvN,.ret,(lvC 4 (mP cI) lvN)⟩
theorem yUn{α:Type}:yH5.Eq (α:=α) [] Tryz.f88 [1,0,1,0] .no (yLA):=fun _ _ _=>by kernel_rfl
abbrev yHP:=fw2 88 (caC cdR (caC cI caN)) cI
abbrev yS0(F0:LF2 yH4 yLk yLl (Int))(x0:List (List V))(x1:Int):Option Int:=
 F0 (x0,x1,0,()) (fun q1=>
 some (-1)) (fun q2=>
 some q2.1)
theorem yZP(F0):yHP.Eq [] (.two .no (.two (.two .no (.one (.lp (yH5.s F0)))) .no)) (yS0 F0):=fun _=>by kernel_rfl
def yIO(L:Nat):yHP.T:=yS0 (yAe (yLA) L)
theorem yTo{α:Type}(L:Nat):LO Tryz.f88 [1,0,1,0] (yH5.s (α:=α) (yAe (yLA) L)):=yH5.k (yUn) tN (lN _) (by kernel_rfl) L
theorem yZO(L:Nat):yHP.C (yIO L):=yHP.c (yZP (yAe (yLA) L)) tN Tryz.func88 (by kernel_rfl) (lS (lN _) (lS (lS (lN _) (lB (lL (yTo L)))) (lN _)))
abbrev yE8:=fw2 89 (caC cdR (caC cI caN)) cdR
abbrev yQS(x0:List (List V))(x1:Int):Option (List (List V)):=
 letI qb:=x0.take x1.toNat
 letI qd:=0+(qb.length)
 letI qa:=(x0.drop ((w64 (x1+1)).toNat)).take (x0.length-((w64 (x1+1)).toNat))
 letI qc:=qd+(qa.length)
 gd (decide (0<=x1))<|
 gd (decide (x1<=(x0.length:Int)))<|
 gd (x0.all fun r=>Nat.beq r.length 2)<|
 gd (qb.all fun r=>Nat.beq r.length 2)<|
 gM qd 24<|
 gd (decide (0<=w64 (x1+1)))<|
 gd (decide (w64 (x1+1)<=(x0.length:Int)))<|
 gd (x0.all fun r=>Nat.beq r.length 2)<|
 gd (qa.all fun r=>Nat.beq r.length 2)<|
 gd (Nat.beq (0+qd) (qb.length))<|
 gM qc 24<|
 gF (qb++qa) (0+qc)<|
 some ((qb++qa).take qc)
theorem yWP:yE8.Eq [] .no (yQS):=fun _=>by kernel_rfl
def yPL(L:Nat):yE8.T:=yQS
theorem yWO(L:Nat):yE8.C (yPL L):=yE8.c (yWP) tN Tryz.func89 (by kernel_rfl) (lN _)
abbrev yH2:=(List (List V))×Int×(List (List V))×Bool×Int×Unit
abbrev yLj:=Int×(List (List V))×Bool×Unit
abbrev yK9{α:Type}(s:yH2)(kn:yH2->Option α)(k0:yLj->Option α):Option α:=
 letI qg:=s.2.1
 letI qe:=s.2.2.1
 letI qf:=qe++([[V.int .i64 qg]])
 letI qd:=s.2.2.2.2.1
 letI qc:=Nat.beq (0+qe.length) qe.length
 letI qb:=qe.length+1
 letI qa:= [[V.int .i64 (aI s.1 qd.toNat 0)]]
 bif decide (qd<(s.1.length:Int)) then
 gI s.1 kI qd<|
 bif(aI s.1 qd.toNat 0)==qg then
 gI s.1 kI qd<|
 bif decide (qg<aI s.1 qd.toNat 0) then
 gI s.1 kI qd<|
 gd qc<|
 gM qb 8<|
 gA (qe++qa) qb<|
 kn (s.1,qg,qe++qa,true,w64 (qd+1),())
 else
 gI s.1 kI qd<|
 gd qc<|
 gM qb 8<|
 gA (qe++qa) qb<|
 kn (s.1,qg,qe++qa,true,w64 (qd+1),())
 else
 gI s.1 kI qd<|
 bif decide (qg<aI s.1 qd.toNat 0) then
 bif !s.2.2.2.1 then
 gd qc<|
 gM qb 8<|
 gI s.1 kI qd<|
 gd (Nat.beq (0+qb) (qf.length))<|
 gM (qb+1) 8<|
 gA (qf++qa) (qb+1)<|
 kn (s.1,qg,qf++qa,true,w64 (qd+1),())
 else
 gI s.1 kI qd<|
 gd qc<|
 gM qb 8<|
 gA (qe++qa) qb<|
 kn (s.1,qg,qe++qa,s.2.2.2.1,w64 (qd+1),())
 else
 gI s.1 kI qd<|
 gd qc<|
 gM qb 8<|
 gA (qe++qa) qb<|
 kn (s.1,qg,qe++qa,s.2.2.2.1,w64 (qd+1),())
 else
 gA qe qe.length<|
 k0 (qg,qe,s.2.2.2.1,())
abbrev yH3:LW1 yH2 yLj:=⟨(lvC 0 (mP cdR) (lvC 1 (mP cI) (lvC 5 (mA 1) (lvC 6 (mP cdB) (lvC 7 (mP cI) lvN))))),(.exit 0),(lvC 1 (mP cI) (lvC 5 (mA 1) (lvC 6 (mP cdB) lvN)))⟩
theorem yUm{α:Type}:yH3.Eq (α:=α) [] Tryz.f90 [1,1,1,0,1,0] .no (yK9):=fun _ _ _=>by kernel_rfl
abbrev yHO:=fw2 90 (caC cdR (caC cI caN)) cdR
abbrev ySz(F0:LF1 yH2 yLj (List (List V)))(x0:List (List V))(x1:Int):Option (List (List V)):=
 F0 (x0,x1,[],false,0,()) (fun q1=>
 bif !q1.2.2.1 then
 gd (Nat.beq (0+q1.2.1.length) q1.2.1.length)<|
 gM (q1.2.1.length+1) 8<|
 gF (q1.2.1++([[V.int .i64 q1.1]])) (0+(q1.2.1.length+1))<|
 some ((q1.2.1++([[V.int .i64 q1.1]])).take (q1.2.1.length+1))
 else
 gF q1.2.1 (0+q1.2.1.length)<|
 some (q1.2.1.take q1.2.1.length))
theorem yZM(F0):yHO.Eq [] (.two .no (.two .no (.two .no (.two (.two .no (.one (.lp (yH3.s F0)))) .no)))) (ySz F0):=fun _=>by kernel_rfl
def yR2(L:Nat):yHO.T:=ySz (yBL (yK9) L)
theorem yTn{α:Type}(L:Nat):LO Tryz.f90 [1,1,1,0,1,0] (yH3.s (α:=α) (yBL (yK9) L)):=yH3.k (yUm) tN (lN _) (by kernel_rfl) L
theorem yZL(L:Nat):yHO.C (yR2 L):=yHO.c (yZM (yBL (yK9) L)) tN Tryz.func90 (by kernel_rfl) (lS (lN _) (lS (lN _) (lS (lN _) (lS (lS (lN _) (lB (lL (yTn L)))) (lN _)))))
set_option maxRecDepth 100000
set_option maxHeartbeats 16000000
abbrev yJK:=Int×Int×Int×Unit
abbrev yMh:=Int×Unit
abbrev yFi{α:Type}(s:yJK)(kn:yJK->Option α)(k0:yMh->Option α):Option α:=
 bif decide (s.2.2.1<s.1) then
 kn (s.1,w64 (s.2.1*256),w64 (s.2.2.1+1),())
 else
 k0 (s.2.1,())
abbrev yJL:LW1 yJK yMh:=⟨(lvC 0 (mP cI) (lvC 3 (mP cI) (lvC 4 (mP cI) lvN))),(.exit 0),(lvC 3 (mP cI) lvN)⟩
theorem yWH{α:Type}:yJL.Eq (α:=α) [] Tryz.f146 [1,1,1,0,1,0] .no (yFi):=fun _ _ _=>by kernel_rfl
abbrev yCw:=fw1 146 (caC cI caN) cI
abbrev yQG(F0:LF1 yJK yMh (Int))(x0:Int):Option Int:=
 bif decide (x0<1) then
 some (-1)
 else
 bif decide (6<x0) then
 some (-1)
 else
 F0 (x0,1,0,()) (fun q1=>
 some (yDK false (w64 (q1.1-1)) 1099511627776))
theorem xA3(F0):yCw.Eq [] (.two .no (.two .no (.two .no (.two (.two .no (.one (.lp (yJL.s F0)))) .no)))) (yQG F0):=fun _=>by kernel_rfl
def yE4(L:Nat):yCw.T:=yQG (yBL (yFi) L)
theorem yUd{α:Type}(L:Nat):LO Tryz.f146 [1,1,1,0,1,0] (yJL.s (α:=α) (yBL (yFi) L)):=yJL.k (yWH) tN (lN _) (by kernel_rfl) L
theorem yM9(L:Nat):yCw.C (yE4 L):=yCw.c (xA3 (yBL (yFi) L)) tN Tryz.func146 (by kernel_rfl) (lS (lN _) (lS (lN _) (lS (lN _) (lS (lS (lN _) (lB (lL (yUd L)))) (lN _)))))
abbrev yIh:=fw2 147 (caC cI (caC cI caN)) cdB
abbrev yQE(f1:yCw.T)(x0:Int)(x1:Int):Option Bool:=
 bif decide (0<=x0) then
 yAB (f1 x1) fun r1=>
 some (decide (x0<=r1))
 else
 some false
theorem xA0(f1):yIh.Eq [yCw.s f1] .no (yQE f1):=fun _=>by kernel_rfl
def yIg(L:Nat):yIh.T:=yQE (yE4 L)
theorem xAz(L:Nat):yIh.C (yIg L):=yIh.c (xA0 (yE4 L)) (tC (yM9 L).ent tN) Tryz.func147 (by kernel_rfl) (lN _)
abbrev yK3:=Int×(List (List V))×(List (List V))×Int×Int×Int×Unit
abbrev yK2:=Int×(List (List V))×(List (List V))×Int×Unit
abbrev yDD{α:Type}(s:yK3)(kn:yK3->Option α)(k0:yK2->Option α):Option α:=
 letI qb:=s.2.2.1
 letI qa:= [[V.int .u8 (IntKind.u8.wrap (s.2.2.2.2.1.tmod 256))]]
 bif decide (s.2.2.2.2.2.1<s.1) then
 gd (Nat.beq (0+qb.length) qb.length)<|
 gM (qb.length+1) 1<|
 gW (qb++qa) (qb.length+1)<|
 kn (s.1,s.2.1,qb++qa,s.2.2.2.1,w64 (s.2.2.2.2.1.tdiv 256),w64 (s.2.2.2.2.2.1+1),())
 else
 gW qb qb.length<|
 k0 (s.1,s.2.1,qb,s.2.2.2.1,())
abbrev yK4:LW1 yK3 yK2:=⟨(lvC 1 (mP cI) (lvC 2 (mP cdR) (lvC 8 (mW 1) (lvC 9 (mP cI) (lvC 10 (mP cI) (lvC 11 (mP cI) lvN)))))),(.exit 2),(lvC 1 (mP cI) (lvC 2 (mP cdR) (lvC 8 (mW 1) (lvC 9 (mP cI) lvN))))⟩
theorem yXJ{α:Type}:yK4.Eq (α:=α) [] Tryz.f91 [1,1,1,1,0,1,0,0,1,0,0,1,1,1,0] .no (yDD):=fun _ _ _=>by kernel_rfl
abbrev yK0:=Int×(List (List V))×(List (List V))×Int×Unit
abbrev yNU:=(List (List V))×Unit
abbrev yNV:=(List (List V))×Int×Unit
abbrev yFX{α:Type}(f1:yIh.T)(F1:LF1 yK3 yK2 α)(s:yK0)(kn:yK0->Option α)(k0:yNU->Option α)(k1:yNV->Option α):Option α:=
 letI qa:=s.2.2.2.1
 bif decide (qa<(s.2.1.length:Int)) then
 gI s.2.1 kI qa<|
 yAB (f1 (aI s.2.1 qa.toNat 0) s.1) fun r1=>
 bif !r1 then
 k1 ([],2,())
 else
 gI s.2.1 kI qa<|
 gW s.2.2.1 s.2.2.1.length<|
 F1 (s.1,s.2.1,s.2.2.1,qa,aI s.2.1 qa.toNat 0,0,()) (fun q2=>
 gW q2.2.2.1 q2.2.2.1.length<|
 kn (q2.1,q2.2.1,q2.2.2.1,w64 (q2.2.2.2.1+1),()))
 else
 gW s.2.2.1 s.2.2.1.length<|
 k0 (s.2.2.1,())
abbrev yK1:LW2 yK0 yNU yNV:=⟨(lvC 1 (mP cI) (lvC 2 (mP cdR) (lvC 8 (mW 1) (lvC 9 (mP cI) lvN)))),(.exit 0),(lvC 8 (mW 1) lvN),.ret,(lvC 6 (mW 1) (lvC 7 (mP cI) lvN))⟩
theorem yXI{α:Type}(f1 F1):yK1.Eq (α:=α) [yIh.s f1] Tryz.f91 [1,1,1,1,0,1,0] (.two .no (.two (.one (.two .no (.two .no (.two .no (.one (.lp (yK4.s F1))))))) .no)) (yFX f1 F1):=fun _ _ _=>by kernel_rfl
abbrev yDL:=rw3 91 .t (caC cdR (caC cI (caC cdR caN))) (zW 1 (zP cI zN))
abbrev yRu(f1:yCw.T)(F0:LF2 yK0 yNU yNV ((List (List V))×Int×Unit))(x0:List (List V))(x1:Int)(x2:List (List V)):Option ((List (List V))×Int×Unit):=
 yAB (f1 x1) fun r1=>
 bif decide (r1<0) then
 some ([],2,())
 else
 gd (x0.all fun r=>Nat.beq r.length 1)<|
 gM (0+x0.length) 1<|
 gW x0 (0+x0.length)<|
 F0 (x1,x2,x0,0,()) (fun q2=>
 gW q2.1 q2.1.length<|
 some (q2.1,0,())) (fun q3=>
 gW q3.1 q3.1.length<|
 some (q3.1,q3.2.1,()))
theorem xCk(f1 F0):yDL.Eq [yCw.s f1] (.two .no (.two .no (.two .no (.two .no (.two (.two .no (.one (.lp (yK1.s F0)))) .no))))) (yRu f1 F0):=fun _=>by kernel_rfl
def yCa(L:Nat):yDL.T:=yRu (yE4 L) (yAe (yFX (yIg L) (yBL (yDD) L)) L)
theorem yWD{α:Type}(L:Nat):LO Tryz.f91 [1,1,1,1,0,1,0,0,1,0,0,1,1,1,0] (yK4.s (α:=α) (yBL (yDD) L)):=yK4.k (yXJ) tN (lN _) (by kernel_rfl) L
theorem yWC{α:Type}(L:Nat):LO Tryz.f91 [1,1,1,1,0,1,0] (yK1.s (α:=α) (yAe (yFX (yIg L) (yBL (yDD) L)) L)):=yK1.k (yXI (yIg L) (yBL (yDD) L)) (tC (xAz L).ent tN) (lS (lN _) (lS (lB (lS (lN _) (lS (lN _) (lS (lN _) (lB (lL (yWD L))))))) (lN _))) (by kernel_rfl) L
theorem yOo(L:Nat):yDL.C (yCa L):=yDL.c (xCk (yE4 L) (yAe (yFX (yIg L) (yBL (yDD) L)) L)) (tC (yM9 L).ent tN) Tryz.func91 (by kernel_rfl) (lS (lN _) (lS (lN _) (lS (lN _) (lS (lN _) (lS (lS (lN _) (lB (lL (yWC L)))) (lN _))))))
end Go.Proofs.YtakljpcmbpaeaaaGreat
