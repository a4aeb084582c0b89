/- slices.Grow of nil: a new row without elements. -/
import Derived.Test.YtakljpcmbpaeaaaGreatMountPlaysM32
import Derived.Test.YtakljpcmbpaeaaaGreatMountPlaysM01
import Derived.Laws.NewBlocks
import Derived.Test.YtakljpcmbpaeaaaGreatMountPlaysM33
import Derived.Test.YtakljpcmbpaeaaaGreatMountPlaysM34
set_option linter.unusedSimpArgs false
set_option linter.unusedVariables false
namespace Go.Proofs.YtakljpcmbpaeaaaGreat
open Go.RowKit
def grI{α:Type}(sz:Nat):ICf α:=fun args G c K=>match args with
 | [.sl es fl,.int .i64 n]=>yXO [fl,Nat.beq es.length 0,decide (0<=n),decide (n<=1000000)] (xQR G c sz [] K) none
 | _=>none
abbrev sGr{α:Type}(i sz:Nat):Nat×Ent α:=(i,spI (grI sz))
theorem xSP{α:Type}{P:Program}{g:FuncId}{sz:Nat}(h:∀n:Int,0<=n->n<=1000000->xF0 P g [.sl [] true,.int .i64 n] [] sz):xRv P g (grI sz:ICf α):=by
 have key:∀args (G:Tr Blk') c K r,(grI sz:ICf α) args G c K=some r->∃n G',args= [.sl [] true,.int .i64 n]/\0<=n/\n<=1000000/\G'.get=(St.new ⟨G.get,c⟩ ⟨[],sz,0⟩).get/\∀K':V->Tr Blk'->Nat->Option α,grI sz args G c K'=K' (.bs c 0 0 0) G' (c+1):=by
  intro args G c K r q
  unfold grI at q
  split at q
  ·rename_i es fl n
   obtain⟨h1,h2,h3⟩:=yCR q
   have e1:=h1 fl (by simp)
   have e2:=List.eq_nil_of_length_eq_zero (Nat.eq_of_beq_eq_true (h1 (Nat.beq es.length 0) (by simp)))
   have e3:=of_decide_eq_true (h1 (decide (0<=n)) (by simp))
   have e4:=of_decide_eq_true (h1 (decide (n<=1000000)) (by simp))
   subst e1 e2
   obtain⟨G',m1,m2,m3⟩:=yWU h2
   refine⟨n,G',rfl,e3,e4,m1,fun K'=>?_⟩
   show yXO _ _ _=_
   rw[h3,m3];rfl
  ·cases q
 refine⟨fun args G c K r k1 k2 q Kp hk=>?_,fun args G c K r q=>?_⟩
 ·obtain⟨n,G',rfl,h0,h1,m1,m2⟩:=key args G c K r q
  have hN:=h n h0 h1
  refine .inr (.inr (.inr (.inr ⟨_,yYZ (f:=mny) (.inl ⟨fun x hx=>?_,rfl⟩) hN,?_⟩)))
  ·rcases List.mem_cons.1 hx with rfl | hx
   ·exact .sl _ _ (by simp)
   ·obtain rfl:x=_:=by simpa using hx
    exact .int _ _
  ·rintro v st' ⟨rfl,rfl⟩
   rw[m2] at q
   have:=hk _ G' (c+1) (.bs _ _ _ _) (by rw[m1];exact PSg.new (st:=⟨G.get,c⟩) k2 hN.plain) q
   rw[m1] at this
   exact this
 ·obtain⟨n,G',rfl,h0,h1,m1,m2⟩:=key args G c K r q
  exact⟨_,G',c+1,m2,fun _ k2=>⟨.bs _ _ _ _,by rw[m1];exact PSg.new (st:=⟨G.get,c⟩) k2 fun r hr=>absurd hr (by simp)⟩⟩
theorem xRA(n:Int)(h0:0<=n)(h1:n<=1000000):xF0 Tryz.prog 373 [.sl [] true,.int .i64 n] [] 4:=by
 refine⟨⟨_,Tryz.func373,rfl,rfl⟩,fun i hi=>absurd hi (by simp),by simp,fun w S vargs hS hv=>?_⟩
 match vargs,hv with
 | [v0,v1],hv=>
   have p0:=hv.2 0 (by simp) (by simp)
   have p1:=hv.2 1 (by simp) (by simp)
   dsimp only[List.getElem_cons_zero,List.getElem_cons_succ] at p0 p1
   obtain⟨A,c,rfl,-,hf⟩:=p0.sl_inv
   have hf:=hf rfl
   subst hf
   cases p1
   obtain⟨m,rfl⟩:=Int.eq_ofNat_of_zero_le h0
   rcases Nat.eq_zero_or_pos m with rfl | hm
   ·refine(xM3 A w).mono ?_
    rintro e w' ⟨rfl,rfl⟩
    exact⟨A,0,S,rfl,Nat.zero_le _,Below.refl _ _,fun _ _ h=>h,fun _ _ h=> .inl h,hS,.inl ⟨rfl,rfl⟩⟩
   ·refine(xM2 A m hm (by omega) w).mono ?_
    rintro e w' ⟨rfl,z,hz,rfl⟩
    have hge:=grownCap_ge w m 0 244
    generalize grownCap w m 0 244=G at hge ⊢
    have hlen:(Builtin.zeroCells z m++Builtin.zeroCells z (G-m)).size=G*4:=by
     rw[Array.size_append,yGR,yGR,hz];omega
    generalize Builtin.zeroCells z m++Builtin.zeroCells z (G-m)=cs at hlen ⊢
    refine⟨some ⟨w.heap.size,0,none⟩,G,S,rfl,Nat.zero_le _,(Below.refl _ _).drew.alloc (Nat.le_refl _) _,fun _ _ h=>h,fun _ _ h=> .inl h,fun g i h=>by have:=hS g i h;simp;omega,.inr ⟨w.heap.size,0,rfl,Nat.le_refl _,by simp,fun i _ _ h=>by have:=hS _ _ h;omega,fun i _ hi=>?_,fun i hi=>absurd hi (by simp)⟩⟩
    have hi':i<cs.size:=by omega
    exact⟨⟨cs[i],(World.cell?_alloc_at (w:=w.drew) cs _ w.heap.size i rfl).trans (Array.getElem?_eq_getElem hi')⟩,World.frozen?_alloc_at (w:=w.drew) cs _ w.heap.size i rfl⟩
theorem yVw{α:Type}:yS5 Tryz.prog 373 (sGr (α:=α) 373 4).2:=xKp (xSP xRA)
def yVK(L:Nat)(b:List (List V)):Option Int:=bif b.all byRB&&Nat.ble b.length 1000000000 then some (yKu (b.map xMZ):Int) else none
theorem xGO(L:Nat):Ctr Tryz.prog 240 false (caC cdR caN) (cdI .i64) (fun a=>yVK L a.1):=by
 rintro⟨b,_⟩ r hp h
 obtain⟨h1,h2⟩:=yAN h
 cases h2
 obtain⟨h1,h3⟩:=yBE h1
 have e1:(b.map xMZ).map byV=b:=xNv (fun r hr=>xP9 hr) h1
 refine⟨?_,.int _ _,nofun⟩
 show Con Tryz.prog 240 [.sl b false] _
 rw[←e1,xKi xMa]
 refine xGN Tryz.func240 (by decide) rfl (.int _ _) fun w S vargs hS hv=>?_
 obtain⟨u1,us,rfl,q1,hv⟩:=xAH hv
 obtain rfl:=xOX hv
 obtain⟨A,c,rfl,hr⟩:=xS9 hS q1
 refine(xQl A c _ w (by rw[List.length_map];exact Nat.le_of_ble_eq_true h3) hr).mono ?_
 rintro e w' ⟨rfl,hB⟩
 exact⟨_,rfl,.int _ _,hB⟩
theorem xPX{P:Program}{i:FuncId}{args:List V}{es:List (List V)}{y:V}{e:TypeId}(hc:yKl P i)(hy:Plain y)(hes:∀r∈es,∀x∈r,Plain x)(hrow:∀r∈es,r.length=1)
  (h:∀(w:World) (S:yEn) (vargs:List Value),(∀g i,S g i->g<w.heap.size)->VRs yOr S w args vargs->Calls P i vargs.toArray w fun en w'=>∃v u xs,en= .returned (.tuple #[v,u])/\w'.ownsRow w.heap.size e 1 v es.length xs/\
    (∀i (hi:i<es.length) j (hj:j<es[i].length),∃q,xs[i*1+j]?=some q/\q.oneCell'=true/\VR yOr S w' es[i][j] q)/\VR yOr S w' y u/\Below w.heap.size w w'):xP7 P .t i args [.w es 1,.p y]:=by
 refine⟨hc,?_,by show(1:Nat)<=1000;omega,fun w S vargs hS hv=>(h w S vargs hS hv).mono ?_⟩
 ·intro x hx
  rcases List.mem_cons.1 hx with rfl | hx
  ·exact hes
  ·rcases List.mem_cons.1 hx with rfl | hx
   ·exact hy
   ·cases hx
 ·rintro en w' ⟨v,u,xs,rfl,⟨hlen,hown⟩,hx,hu,hB⟩
  have hget:∀b k,(nG [.w es 1,.p y]).get b=some k->b=1/\k=⟨es,1,0⟩:=fun b k hk=>by
   rw[xQP (by show(1:Nat)<=1000;omega)] at hk
   split at hk
   ·rename_i hb
    have:rN [AV0.w es 1,.p y]=2:=rfl
    obtain rfl:b=1:=by omega
    injection hk with hk
    exact⟨rfl,hk.symm⟩
   ·cases hk
  have fin:∀L:Loc,L.sz=1->L.mp=false->BR (fun x=>if x=1 then some L else none) S w' ⟨es,1,0⟩ L->(0<L.lim->w.heap.size<=L.g/\L.g<w'.heap.size)→
    VR (fun x=>if x=1 then some L else none) S w' (.bs 1 0 es.length es.length) v→
    ∃v' mu' S',Ending.returned (.tuple #[v,u])= .returned v'/\VR mu' S' w' (rkV .t (av0s [.w es 1,.p y] 1).1) v'/\SR mu' S' (fun g=>w.heap.size<=g) ⟨(nG [.w es 1,.p y]).get,rN [.w es 1,.p y]⟩ w'/\(∀g i,S g i->S' g i)/\(∀g i,S' g i->S g i\/w.heap.size<=g)/\Below w.heap.size w w':=fun L h1 h2 h3 h4 h5=>by
   refine⟨_,fun x=>if x=1 then some L else none,S,rfl,?_,⟨fun b k hk=>?_,fun b b' k k' L1 L2 hne hk hk'=>absurd ((hget b k hk).1.trans (hget b' k' hk').1.symm) hne,fun b k L1 hk hL g i he hs=>?_,fun g i hs=>Nat.lt_of_lt_of_le (hS g i hs) hB.size⟩,fun _ _ h=>h,fun _ _ h=> .inl h,hB⟩
   ·refine VR.tup [_,_] [v,u] rfl fun j hj hj'=>?_
    match j,hj with
    | 0,_=>exact h5
    | 1,_=>exact hu.mono (fun b L h=>by cases h) (fun _ _ h=>h) (fun _ _ _=>rfl)
   ·obtain⟨rfl,rfl⟩:=hget b k hk
    exact⟨L,if_pos rfl,h3,fun hp=>h4 (hp.elim id fun h=>by rw[h2] at h;cases h)⟩
   ·obtain⟨rfl,rfl⟩:=hget b k hk
    rw[if_pos rfl] at hL
    injection hL with hL
    subst hL
    have hp:0<L.lim:=he.rg.pos
    have:=(h4 hp).1
    have:=hS g i hs
    have:=he.1
    omega
  rcases hown with ⟨rfl,h0⟩ | ⟨g,cap,cur,rfl,hb,hh,hnc,hcap,hsz,htk⟩
  ·have:es= []:=List.length_eq_zero_iff.1 h0
   subst this
   refine fin ⟨0,0,1,0,false⟩ rfl rfl ⟨rfl,fun _=>Nat.le_refl _,Nat.le_refl _,fun i hi=>absurd hi (by simp),fun i h1 h2=>?_,fun _ i hi=>absurd hi (by simp),fun h=>by cases h⟩ (fun h=>absurd h (by simp)) (.bs 1 0 0 0 ⟨0,0,1,0,false⟩ none 0 (if_pos rfl) (Nat.le_refl _) (Nat.le_refl _) (.inl rfl) rfl)
   dsimp only at h1 h2
   omega
  ·have hg:g<w'.heap.size:=by
     rcases Nat.lt_or_ge g w'.heap.size with h | h
     ·exact h
     ·rw[Array.getElem?_eq_none h] at hh;cases hh
   have hcell:∀k,w'.cell? ⟨g,k,none⟩=cur[k]?:=fun k=>by
    unfold World.cell?
    simp[hh]
   have hfz:∀k,w'.frozen? ⟨g,k,none⟩=false:=fun k=>by
    unfold World.frozen?
    simp[hh]
   refine fin ⟨g,0,1,cap,false⟩ rfl rfl ⟨rfl,fun _=>hnc,Nat.zero_le _,fun i hi=>hrow _ (List.getElem_mem hi),fun i h1 h2=>?_,fun _ i hi j hj=>?_,fun h=>by cases h⟩ (fun _=>⟨hb,hg⟩) (.bs 1 0 _ _ ⟨g,0,1,cap,false⟩ _ cap (if_pos rfl) (Nat.le_refl _) hnc (.inr ⟨rfl,by show 0+cap<=cap;omega⟩) rfl)
   ·dsimp only at h1 h2
    refine⟨?_,hfz i⟩
    rw[hcell]
    exact⟨_,Array.getElem?_eq_getElem (by omega)⟩
   ·obtain⟨q,e1,e2,e3⟩:=hx i hi j hj
    refine⟨q,?_,e2,e3.mono (fun b L h=>by cases h) (fun _ _ h=>h) (fun _ _ _=>rfl)⟩
    show w'.cell? ⟨g,0+i*1+j,none⟩=_
    rw[hcell,Nat.zero_add,←Array.getElem?_toList]
    rw[←htk] at e1
    have hlt:i*1+j<es.length*1:=by
     rcases Nat.lt_or_ge (i*1+j) (es.length*1) with h | h
     ·exact h
     ·rw[List.getElem?_take,if_neg (by omega)] at e1;cases e1
    rwa [List.getElem?_take,if_pos hlt] at e1
def yHY(L:Nat)(b:List (List V))(n:Int)(l:List (List V)):Option (List (List V)×Int×Unit):=
 bif b.all byRB&&(l.all inRB&&Nat.ble (b.length+6*l.length) 1000000000) then some ((yZO (b.map xMZ) n (l.map xOd)).1.map byV,(yZO (b.map xMZ) n (l.map xOd)).2,()) else none
theorem xAw(L:Nat):xRu Tryz.prog .t 177 (caC cdR (caC cI (caC cdR caN))) (zW 1 (zP cI zN)).cz (fun a=>yHY L a.1 a.2.1 a.2.2.1):=by
 rintro⟨b,n,l,_⟩ r hp h
 obtain⟨h1,h2⟩:=yAN h
 cases h2
 obtain⟨h1,h3⟩:=yBE h1
 obtain⟨h3,h4⟩:=yBE h3
 have e1:(b.map xMZ).map byV=b:=xNv (fun r hr=>xP9 hr) h1
 have e2:(l.map xOd).map inV=l:=xNv (fun r hr=>xSR hr) h3
 show xP7 Tryz.prog .t 177 [.sl b false,.int .i64 n,.sl l false] [.w ((yZO (b.map xMZ) n (l.map xOd)).1.map byV) 1,.p (.int .i64 (yZO (b.map xMZ) n (l.map xOd)).2)]
 have hbd:(b.map xMZ).length+6*(l.map xOd).length<=1000000000:=by rw[List.length_map,List.length_map];exact Nat.le_of_ble_eq_true h4
 generalize b.map xMZ=b' at*
 generalize l.map xOd=l' at*
 rw[←e1,←e2]
 refine xPX (e:=5) ⟨_,Tryz.func177,by decide,rfl⟩ (.int _ _) (fun r hr=>by obtain⟨c,_,rfl⟩:=List.mem_map.1 hr;exact xSA c) (fun r hr=>by obtain⟨p,_,rfl⟩:=List.mem_map.1 hr;rfl) fun w S vargs hS hv=>?_
 obtain⟨u1,us,rfl,e1,hv⟩:=xAH hv
 obtain⟨u2,us,rfl,e2,hv⟩:=xAH hv
 obtain⟨u3,us,rfl,e3,hv⟩:=xAH hv
 obtain rfl:=xOX hv
 obtain rfl:=xTA e2
 obtain⟨A1,c1,rfl,r1⟩:=xS9 hS e1
 obtain⟨A3,c3,rfl,r3⟩:=xT1 hS e3
 refine(xQk A1 A3 c1 c3 n b' l' w hbd r1 r3).mono ?_
 rintro en w' h
 unfold yZO
 cases hq:xKb b' n l' with
 | none=>
   rw[hq] at h
   obtain⟨rfl,hB⟩:=h
   exact⟨_,_,[],rfl,⟨rfl,.inl ⟨rfl,rfl⟩⟩,fun i hi=>absurd hi (by simp),.int _ _,hB⟩
 | some x=>
   rw[hq] at h
   obtain⟨v,rfl,hrow,hB⟩:=h
   dsimp only
   refine⟨v,_,yGL x,rfl,by rw[List.length_map];exact hrow,fun i hi j hj=>?_,.int _ _,hB⟩
   have hi':i<x.length:=by simpa using hi
   have hj0:j=0:=by simpa[byV] using hj
   subst hj0
   refine⟨.int .u8 (x[i].toNat:Int),?_,rfl,?_⟩
   ·rw[Nat.mul_one,Nat.add_zero]
    simp[yGL,hi']
   ·simp only[List.getElem_map,byV,List.getElem_cons_zero]
    exact .int _ _
abbrev yQ3:=rw3 177 .t (caC cdR (caC cI (caC cdR caN))) (zW 1 (zP cI zN))
abbrev yWE:=fw1 240 (caC cdR caN) cI
abbrev yPm:=nw1 356 2 (caC cdR caN)
abbrev yPl:=nw1 357 4 (caC cdR caN)
set_option maxRecDepth 100000
set_option maxHeartbeats 16000000
abbrev yCn:=fw3 52 (caC cI (caC cI (caC cI caN))) cdB
abbrev yXq(x0:Int)(x1:Int)(x2:Int):Option Bool:=
 bif decide (x1<=x0) then
 some (decide (x0<=x2))
 else
 some false
theorem xLm:yCn.Eq [] .no (yXq):=fun _=>by kernel_rfl
def yGE(L:Nat):yCn.T:=yXq
theorem yOs(L:Nat):yCn.C (yGE L):=yCn.c (xLm) tN Tryz.func52 (by kernel_rfl) (lN _)
abbrev yAn:=fw1 10 (caC yBQ caN) cdB
abbrev yVc(f1:yCn.T)(x0:yAJ):Option Bool:=
 yAB (f1 x0.Nodes 1 16) fun r1=>
 bif r1 then
 yAB (f1 x0.Slots 1 x0.Nodes) fun r2=>
 bif r2 then
 yAB (f1 x0.Blocks 1 64) fun r3=>
 bif r3 then
 yAB (f1 x0.Per 1 8) fun r4=>
 bif r4 then
 yAB (f1 x0.Journal (w64 (x0.Per+2)) 64) fun r5=>
 bif r5 then
 yAB (f1 x0.Log (w64 (8*x0.Slots)) 512) fun r6=>
 bif r6 then
 bif decide (1<=x0.Lease) then
 bif decide (x0.Lease<x0.Wait) then
 some (decide (x0.Wait<=1048576))
 else
 some false
 else
 some false
 else
 some false
 else
 some false
 else
 some false
 else
 some false
 else
 some false
 else
 some false
theorem xJY(f1):yAn.Eq [yCn.s f1] .no (yVc f1):=fun _=>by kernel_rfl
def yBV(L:Nat):yAn.T:=yVc (yGE L)
theorem yCi(L:Nat):yAn.C (yBV L):=yAn.c (xJY (yGE L)) (tC (yOs L).ent tN) Tryz.func10 (by kernel_rfl) (lN _)
abbrev yFv:=fw3 105 (caC yBQ (caC cI (caC cI caN))) cI
abbrev yTk(f1:yAn.T)(f2:yCn.T)(x0:yAJ)(x1:Int)(x2:Int):Option Int:=
 yAB (f1 x0) fun r1=>
 bif !r1 then
 some (-1)
 else
 yAB (f2 x1 0 (w64 (x0.Blocks-1))) fun r2=>
 bif !r2 then
 some (-1)
 else
 yAB (f2 x2 0 (w64 (x0.Per-1))) fun r3=>
 bif !r3 then
 some (-1)
 else
 some (w64 ((w64 ((w64 ((w64 ((w64 (1+(w64 (2*x0.Nodes))))+x0.Log))+(w64 (x0.Slots*(w64 (1+x0.Journal))))))+(w64 (x1*x0.Per))))+x2))
theorem xHH(f1 f2):yFv.Eq [yAn.s f1,yCn.s f2] .no (yTk f1 f2):=fun _=>by kernel_rfl
def yGc(L:Nat):yFv.T:=yTk (yBV L) (yGE L)
theorem yYn(L:Nat):yFv.C (yGc L):=yFv.c (xHH (yBV L) (yGE L)) (tC (yCi L).ent (tC (yOs L).ent tN)) Tryz.func105 (by kernel_rfl) (lN _)
abbrev yET:=fw1 49 (caC yBQ caN) cI
abbrev yRv(f1:yAn.T)(f2:yFv.T)(x0:yAJ):Option Int:=
 yAB (f1 x0) fun r1=>
 bif !r1 then
 some 0
 else
 yAB (f2 x0 (w64 (x0.Blocks-1)) (w64 (x0.Per-1))) fun r2=>
 some (w64 (r2+1))
theorem xEg(f1 f2):yET.Eq [yAn.s f1,yFv.s f2] .no (yRv f1 f2):=fun _=>by kernel_rfl
def yEu(L:Nat):yET.T:=yRv (yBV L) (yGc L)
theorem yWg(L:Nat):yET.C (yEu L):=yET.c (xEg (yBV L) (yGc L)) (tC (yCi L).ent (tC (yYn L).ent tN)) Tryz.func49 (by kernel_rfl) (lN _)
abbrev yDb:=fw2 75 (caC yBQ (caC cI caN)) cI
abbrev yTm(f1:yAn.T)(f2:yCn.T)(x0:yAJ)(x1:Int):Option Int:=
 yAB (f1 x0) fun r1=>
 bif !r1 then
 some (-1)
 else
 yAB (f2 x1 0 (w64 (x0.Slots-1))) fun r2=>
 bif !r2 then
 some (-1)
 else
 some (w64 ((w64 ((w64 (1+(w64 (2*x0.Nodes))))+x0.Log))+(w64 (x1*(w64 (1+x0.Journal))))))
theorem xHI(f1 f2):yDb.Eq [yAn.s f1,yCn.s f2] .no (yTm f1 f2):=fun _=>by kernel_rfl
def yDI(L:Nat):yDb.T:=yTm (yBV L) (yGE L)
theorem yTl(L:Nat):yDb.C (yDI L):=yDb.c (xHI (yBV L) (yGE L)) (tC (yCi L).ent (tC (yOs L).ent tN)) Tryz.func75 (by kernel_rfl) (lN _)
abbrev yK2:=Int×Int×Int×Unit
abbrev yPG:=Int×Unit
abbrev yGD{α:Type}(s:yK2)(kn:yK2->Option α)(k0:yPG->Option α):Option α:=
 bif decide (s.2.2.1<s.1) then
 kn (s.1,w64 (s.2.1*256),w64 (s.2.2.1+1),())
 else
 k0 (s.2.1,())
abbrev yK3:LW1 yK2 yPG:=⟨(lvC 0 (mP cI) (lvC 3 (mP cI) (lvC 4 (mP cI) lvN))),(.exit 0),(lvC 3 (mP cI) lvN)⟩
theorem xBE{α:Type}:yK3.Eq (α:=α) [] Tryz.f146 [1,1,1,0,1,0] .no (yGD):=fun _ _ _=>by kernel_rfl
abbrev yCs:=fw1 146 (caC cI caN) cI
abbrev yTc(F0:LF1 yK2 yPG (Int))(x0:Int):Option Int:=
 bif decide (x0<1) then
 some (-1)
 else
 bif decide (6<x0) then
 some (-1)
 else
 F0 (x0,1,0,()) (fun q1=>
 some (yEr false (w64 (q1.1-1)) 1099511627776))
theorem xG8(F0):yCs.Eq [] (.two .no (.two .no (.two .no (.two (.two .no (.one (.lp (yK3.s F0)))) .no)))) (yTc F0):=fun _=>by kernel_rfl
def yFH(L:Nat):yCs.T:=yTc (yAb (yGD) L)
theorem yZP{α:Type}(L:Nat):LO Tryz.f146 [1,1,1,0,1,0] (yK3.s (α:=α) (yAb (yGD) L)):=yK3.k (xBE) tN (lN _) (by kernel_rfl) L
theorem yP3(L:Nat):yCs.C (yFH L):=yCs.c (xG8 (yAb (yGD) L)) tN Tryz.func146 (by kernel_rfl) (lS (lN _) (lS (lN _) (lS (lN _) (lS (lS (lN _) (lB (lL (yZP L)))) (lN _)))))
abbrev yKF:=fw2 147 (caC cI (caC cI caN)) cdB
abbrev yTa(f1:yCs.T)(x0:Int)(x1:Int):Option Bool:=
 bif decide (0<=x0) then
 yAB (f1 x1) fun r1=>
 some (decide (x0<=r1))
 else
 some false
theorem xG7(f1):yKF.Eq [yCs.s f1] .no (yTa f1):=fun _=>by kernel_rfl
def yKE(L:Nat):yKF.T:=yTa (yFH L)
theorem xG6(L:Nat):yKF.C (yKE L):=yKF.c (xG7 (yFH L)) (tC (yP3 L).ent tN) Tryz.func147 (by kernel_rfl) (lN _)
abbrev yMp:=Int×(List (List V))×(List (List V))×Int×Int×Int×Unit
abbrev yMo:=Int×(List (List V))×(List (List V))×Int×Unit
abbrev yDD{α:Type}(s:yMp)(kn:yMp->Option α)(k0:yMo->Option α):Option α:=
 letI qb:=s.2.2.1
 letI qa:= [[V.int .u8 (IntKind.u8.wrap (s.2.2.2.2.1.tmod 256))]]
 bif decide (s.2.2.2.2.2.1<s.1) then
 gd (Nat.beq (0+qb.length) qb.length)<|
 gM (qb.length+1) 1<|
 gW (qb++qa) (qb.length+1)<|
 kn (s.1,s.2.1,qb++qa,s.2.2.2.1,w64 (s.2.2.2.2.1.tdiv 256),w64 (s.2.2.2.2.2.1+1),())
 else
 gW qb qb.length<|
 k0 (s.1,s.2.1,qb,s.2.2.2.1,())
abbrev yMq:LW1 yMp yMo:=⟨(lvC 1 (mP cI) (lvC 2 (mP cdR) (lvC 8 (mW 1) (lvC 9 (mP cI) (lvC 10 (mP cI) (lvC 11 (mP cI) lvN)))))),(.exit 2),(lvC 1 (mP cI) (lvC 2 (mP cdR) (lvC 8 (mW 1) (lvC 9 (mP cI) lvN))))⟩
theorem xCT{α:Type}:yMq.Eq (α:=α) [] Tryz.f91 [1,1,1,1,0,1,0,0,1,0,0,1,1,1,0] .no (yDD):=fun _ _ _=>by kernel_rfl
abbrev yMm:=Int×(List (List V))×(List (List V))×Int×Unit
abbrev yQU:=(List (List V))×Unit
abbrev yQV:=(List (List V))×Int×Unit
abbrev yFu{α:Type}(f1:yKF.T)(F1:LF1 yMp yMo α)(s:yMm)(kn:yMm->Option α)(k0:yQU->Option α)(k1:yQV->Option α):Option α:=
 letI qa:=s.2.2.2.1
 bif decide (qa<(s.2.1.length:Int)) then
 gI s.2.1 kI qa<|
 yAB (f1 (aI s.2.1 qa.toNat 0) s.1) fun r1=>
 bif !r1 then
 k1 ([],2,())
 else
 gI s.2.1 kI qa<|
 gW s.2.2.1 s.2.2.1.length<|
 F1 (s.1,s.2.1,s.2.2.1,qa,aI s.2.1 qa.toNat 0,0,()) (fun q2=>
 gW q2.2.2.1 q2.2.2.1.length<|
 kn (q2.1,q2.2.1,q2.2.2.1,w64 (q2.2.2.2.1+1),()))
 else
 gW s.2.2.1 s.2.2.1.length<|
 k0 (s.2.2.1,())
abbrev yMn:LW2 yMm yQU yQV:=⟨(lvC 1 (mP cI) (lvC 2 (mP cdR) (lvC 8 (mW 1) (lvC 9 (mP cI) lvN)))),(.exit 0),(lvC 8 (mW 1) lvN),.ret,(lvC 6 (mW 1) (lvC 7 (mP cI) lvN))⟩
theorem xCS{α:Type}(f1 F1):yMn.Eq (α:=α) [yKF.s f1] Tryz.f91 [1,1,1,1,0,1,0] (.two .no (.two (.one (.two .no (.two .no (.two .no (.one (.lp (yMq.s F1))))))) .no)) (yFu f1 F1):=fun _ _ _=>by kernel_rfl
abbrev yDP:=rw3 91 .t (caC cdR (caC cI (caC cdR caN))) (zW 1 (zP cI zN))
abbrev yVW(f1:yCs.T)(F0:LF2 yMm yQU yQV ((List (List V))×Int×Unit))(x0:List (List V))(x1:Int)(x2:List (List V)):Option ((List (List V))×Int×Unit):=
 yAB (f1 x1) fun r1=>
 bif decide (r1<0) then
 some ([],2,())
 else
 gd (x0.all fun r=>Nat.beq r.length 1)<|
 gM (0+x0.length) 1<|
 gW x0 (0+x0.length)<|
 F0 (x1,x2,x0,0,()) (fun q2=>
 gW q2.1 q2.1.length<|
 some (q2.1,0,())) (fun q3=>
 gW q3.1 q3.1.length<|
 some (q3.1,q3.2.1,()))
theorem xJQ(f1 F0):yDP.Eq [yCs.s f1] (.two .no (.two .no (.two .no (.two .no (.two (.two .no (.one (.lp (yMn.s F0)))) .no))))) (yVW f1 F0):=fun _=>by kernel_rfl
def yCh(L:Nat):yDP.T:=yVW (yFH L) (yAf (yFu (yKE L) (yAb (yDD) L)) L)
theorem xBC{α:Type}(L:Nat):LO Tryz.f91 [1,1,1,1,0,1,0,0,1,0,0,1,1,1,0] (yMq.s (α:=α) (yAb (yDD) L)):=yMq.k (xCT) tN (lN _) (by kernel_rfl) L
theorem xBB{α:Type}(L:Nat):LO Tryz.f91 [1,1,1,1,0,1,0] (yMn.s (α:=α) (yAf (yFu (yKE L) (yAb (yDD) L)) L)):=yMn.k (xCS (yKE L) (yAb (yDD) L)) (tC (xG6 L).ent tN) (lS (lN _) (lS (lB (lS (lN _) (lS (lN _) (lS (lN _) (lB (lL (xBC L))))))) (lN _))) (by kernel_rfl) L
theorem yRs(L:Nat):yDP.C (yCh L):=yDP.c (xJQ (yFH L) (yAf (yFu (yKE L) (yAb (yDD) L)) L)) (tC (yP3 L).ent tN) Tryz.func91 (by kernel_rfl) (lS (lN _) (lS (lN _) (lS (lN _) (lS (lN _) (lS (lS (lN _) (lB (lL (xBB L)))) (lN _))))))
abbrev yKI:=fw1 304 (caC cI caN) cI
abbrev yTf(x0:Int):Option Int:=
 bif(IntKind.i64.wrap ((BitVec.ofInt IntKind.i64.bits x0 &&& BitVec.ofInt IntKind.i64.bits 1).toNat:Int))==1 then
 some (IntKind.i64.wrap ((BitVec.ofInt IntKind.i64.bits (x0.fdiv (2^(min (1:Int).toNat IntKind.i64.bits))) ^^^ BitVec.ofInt IntKind.i64.bits 2197175160).toNat:Int))
 else
 some (x0.fdiv (2^(min (1:Int).toNat IntKind.i64.bits)))
theorem xHC:yKI.Eq [] .no (yTf):=fun _=>by kernel_rfl
def yDh(L:Nat):yKI.T:=yTf
theorem xHB(L:Nat):yKI.C (yDh L):=yKI.c (xHC) tN Tryz.func304 (by kernel_rfl) (lN _)
set_option maxRecDepth 100000
set_option maxHeartbeats 16000000
abbrev yK6:=Int×Int×Int×Int×Unit
abbrev yPH:=Int×Int×Int×Unit
abbrev yCU{α:Type}(f1:yKI.T)(s:yK6)(kn:yK6->Option α)(k0:yPH->Option α):Option α:=
 bif decide (s.2.2.2.1<8) then
 yAB (f1 s.1) fun r1=>
 kn (r1,s.2.1,s.2.2.1,w64 (s.2.2.2.1+1),())
 else
 k0 (s.1,s.2.1,s.2.2.1,())
abbrev yK7:LW1 yK6 yPH:=⟨(lvC 0 (mP cI) (lvC 1 (mP cI) (lvC 5 (mP cI) (lvC 6 (mP cI) lvN)))),(.exit 2),(lvC 0 (mP cI) (lvC 1 (mP cI) (lvC 5 (mP cI) lvN)))⟩
theorem xBH{α:Type}(f1):yK7.Eq (α:=α) [yKI.s f1] Tryz.f270 [1,1,0,1,0,0,1,0,0,1,0] .no (yCU f1):=fun _ _ _=>by kernel_rfl
abbrev yHb:=Int×Int×Int×Unit
abbrev yK4:=Int×Unit
abbrev yDU{α:Type}(F1:LF1 yK6 yPH α)(s:yHb)(kn:yHb->Option α)(k0:yK4->Option α):Option α:=
 bif decide (s.2.2.1<s.2.1) then
 F1 (s.1,s.2.1,s.2.2.1,0,()) (fun q1=>
 kn (q1.1,q1.2.1,w64 (q1.2.2.1+1),()))
 else
 k0 (s.1,())
abbrev yK5:LW1 yHb yK4:=⟨(lvC 0 (mP cI) (lvC 1 (mP cI) (lvC 5 (mP cI) lvN))),(.exit 0),(lvC 0 (mP cI) lvN)⟩
theorem xBG{α:Type}(F1):yK5.Eq (α:=α) [] Tryz.f270 [1,1,0,1,0] (.two .no (.two (.one (.two .no (.one (.lp (yK7.s F1))))) .no)) (yDU F1):=fun _ _ _=>by kernel_rfl
abbrev yKH:=fw2 270 (caC cI (caC cI caN)) cI
abbrev yTd(F0:LF1 yHb yK4 (Int))(x0:Int)(x1:Int):Option Int:=
 F0 (IntKind.i64.wrap ((BitVec.ofInt IntKind.i64.bits x0 &&& BitVec.ofInt IntKind.i64.bits 4294967295).toNat:Int),x1,0,()) (fun q1=>
 some q1.1)
theorem xHA(F0):yKH.Eq [] (.two .no (.two .no (.two (.two .no (.one (.lp (yK5.s F0)))) .no))) (yTd F0):=fun _=>by kernel_rfl
def yKG(L:Nat):yKH.T:=yTd (yAb (yDU (yAb (yCU (yDh L)) L)) L)
theorem yZR{α:Type}(L:Nat):LO Tryz.f270 [1,1,0,1,0,0,1,0,0,1,0] (yK7.s (α:=α) (yAb (yCU (yDh L)) L)):=yK7.k (xBH (yDh L)) (tC (xHB L).ent tN) (lN _) (by kernel_rfl) L
theorem yZQ{α:Type}(L:Nat):LO Tryz.f270 [1,1,0,1,0] (yK5.s (α:=α) (yAb (yDU (yAb (yCU (yDh L)) L)) L)):=yK5.k (xBG (yAb (yCU (yDh L)) L)) tN (lS (lN _) (lS (lB (lS (lN _) (lB (lL (yZR L))))) (lN _))) (by kernel_rfl) L
theorem xG9(L:Nat):yKH.C (yKG L):=yKH.c (xHA (yAb (yDU (yAb (yCU (yDh L)) L)) L)) tN Tryz.func270 (by kernel_rfl) (lS (lN _) (lS (lN _) (lS (lS (lN _) (lB (lL (yZQ L)))) (lN _))))
abbrev yMt:=(List (List V))×Int×Int×Unit
abbrev yQX:=Int×Unit
abbrev yHa{α:Type}(f1:yKH.T)(s:yMt)(kn:yMt->Option α)(k0:yQX->Option α):Option α:=
 bif decide (s.2.2.1<(s.1.length:Int)) then
 gI s.1 kU s.2.2.1<|
 yAB (f1 (IntKind.i64.wrap ((BitVec.ofInt IntKind.i64.bits s.2.1 ^^^ BitVec.ofInt IntKind.i64.bits (w64 (aI s.1 s.2.2.1.toNat 0))).toNat:Int)) 1) fun r1=>
 kn (s.1,r1,w64 (s.2.2.1+1),())
 else
 k0 (s.2.1,())
abbrev yMu:LW1 yMt yQX:=⟨(lvC 1 (mP cdR) (lvC 5 (mP cI) (lvC 6 (mP cI) lvN))),(.exit 0),(lvC 5 (mP cI) lvN)⟩
theorem xCV{α:Type}(f1):yMu.Eq (α:=α) [yKH.s f1] Tryz.f207 [1,1,0,1,0] .no (yHa f1):=fun _ _ _=>by kernel_rfl
abbrev yLs:=fw2 207 (caC cI (caC cdR caN)) cI
abbrev yVY(F0:LF1 yMt yQX (Int))(x0:Int)(x1:List (List V)):Option Int:=
 F0 (x1,IntKind.i64.wrap ((BitVec.ofInt IntKind.i64.bits (IntKind.i64.wrap ((BitVec.ofInt IntKind.i64.bits x0 &&& BitVec.ofInt IntKind.i64.bits 4294967295).toNat:Int)) ^^^ BitVec.ofInt IntKind.i64.bits 4294967295).toNat:Int),0,()) (fun q1=>
 some (IntKind.i64.wrap ((BitVec.ofInt IntKind.i64.bits q1.1 ^^^ BitVec.ofInt IntKind.i64.bits 4294967295).toNat:Int)))
theorem xJU(F0):yLs.Eq [] (.two .no (.two .no (.two (.two .no (.one (.lp (yMu.s F0)))) .no))) (yVY F0):=fun _=>by kernel_rfl
def yWe(L:Nat):yLs.T:=yVY (yAb (yHa (yKG L)) L)
theorem xBF{α:Type}(L:Nat):LO Tryz.f207 [1,1,0,1,0] (yMu.s (α:=α) (yAb (yHa (yKG L)) L)):=yMu.k (xCV (yKG L)) (tC (xG9 L).ent tN) (lN _) (by kernel_rfl) L
theorem xJT(L:Nat):yLs.C (yWe L):=yLs.c (xJU (yAb (yHa (yKG L)) L)) tN Tryz.func207 (by kernel_rfl) (lS (lN _) (lS (lN _) (lS (lS (lN _) (lB (lL (xBF L)))) (lN _))))
abbrev yLt:=fw1 161 (caC cdR caN) cI
abbrev yVZ(f1:yLs.T)(x0:List (List V)):Option Int:=
 yAB (f1 0 x0) fun r1=>
 some r1
theorem xJW(f1):yLt.Eq [yLs.s f1] .no (yVZ f1):=fun _=>by kernel_rfl
def yTe(L:Nat):yLt.T:=yVZ (yWe L)
theorem xJV(L:Nat):yLt.C (yTe L):=yLt.c (xJW (yWe L)) (tC (xJT L).ent tN) Tryz.func161 (by kernel_rfl) (lN _)
abbrev yDa:=fw2 101 (caC (cdI .i8) (caC cdS caN)) (cdT (caC cdS (caC cI caN)))
abbrev yTj(f1:yDP.T)(f2:yLt.T)(x0:Int)(x1:ByteArray):Option (ByteArray×Int×Unit):=
 bif decide (x0<1) then
 some (noS,2,())
 else
 bif decide (505<(x1.size:Int)) then
 some (noS,2,())
 else
 yAB (f1 ([[V.int .u8 (IntKind.u8.wrap x0)]]) 2 ([[V.int .i64 (x1.size:Int)]])) fun r1=>
 letI qc:=r1.1++(yCj x1)
 letI qb:=r1.1.length+((yCj x1).length)
 gd (Nat.beq (0+r1.1.length) r1.1.length)<|
 gM qb 1<|
 gF qc (0+qb)<|
 yAB (f2 (qc.take qb)) fun r2=>
 letI qa:=qc++([[V.int .u8 (IntKind.u8.wrap r2)],[V.int .u8 (IntKind.u8.wrap (r2.fdiv (2^(min (8:Int).toNat IntKind.i64.bits))))],[V.int .u8 (IntKind.u8.wrap (r2.fdiv (2^(min (16:Int).toNat IntKind.i64.bits))))],[V.int .u8 (IntKind.u8.wrap (r2.fdiv (2^(min (24:Int).toNat IntKind.i64.bits))))]])
 gd (Nat.beq (0+qb) (qc.length))<|
 gM (qb+4) 1<|
 gd (Nat.ble (0+(qb+4)) (qa.length))<|
 gd ((bytesOf (qa.take (qb+4))).isSome)<|
 some (yPv (qa.take (qb+4)),0,())
theorem xHG(f1 f2):yDa.Eq [yDP.s f1,yLt.s f2] .no (yTj f1 f2):=fun _=>by kernel_rfl
def yH9(L:Nat):yDa.T:=yTj (yCh L) (yTe L)
theorem yTi(L:Nat):yDa.C (yH9 L):=yDa.c (xHG (yCh L) (yTe L)) (tC (yRs L).ent (tC (xJV L).ent tN)) Tryz.func101 (by kernel_rfl) (lN _)
abbrev yK8:=Int×ByteArray×(List (List V))×(List (List V))×(List (List V))×Int×Unit
abbrev yPI:=Int×ByteArray×(List (List V))×Unit
abbrev yPJ:=ByteArray×Int×Unit
abbrev yER{α:Type}(f1:yDP.T)(s:yK8)(kn:yK8->Option α)(k0:yPI->Option α)(k1:yPJ->Option α):Option α:=
 letI qa:=s.2.2.2.2.2.1
 bif decide (qa<(s.2.2.2.1.length:Int)) then
 gI s.2.2.1 kI qa<|
 gI s.2.2.2.1 kI qa<|
 yAB (f1 s.2.2.2.2.1 (aI s.2.2.1 qa.toNat 0) ([[V.int .i64 (aI s.2.2.2.1 qa.toNat 0)]])) fun r1=>
 bif r1.2.1 !=0 then
 k1 (noS,2,())
 else
 bif decide (505<(r1.1.length:Int)) then
 k1 (noS,2,())
 else
 gF r1.1 (0+r1.1.length)<|
 kn (s.1,s.2.1,s.2.2.1,s.2.2.2.1,r1.1.take r1.1.length,w64 (qa+1),())
 else
 k0 (s.1,s.2.1,s.2.2.2.2.1,())
abbrev yK9:LW2 yK8 yPI yPJ:=⟨(lvC 0 (mP (cdI .i8)) (lvC 1 (mP cdS) (lvC 2 (mP cdR) (lvC 3 (mP cdR) (lvC 10 (mP cdR) (lvC 11 (mP cI) lvN)))))),(.exit 0),(lvC 0 (mP (cdI .i8)) (lvC 1 (mP cdS) (lvC 10 (mP cdR) lvN))),.ret,(lvC 8 (mP cdS) (lvC 9 (mP cI) lvN))⟩
theorem xBI{α:Type}(f1):yK9.Eq (α:=α) [yDP.s f1] Tryz.f135 [1,1,1,0,1,0] .no (yER f1):=fun _ _ _=>by kernel_rfl
abbrev yCu:=fw4 135 (caC (cdI .i8) (caC cdS (caC cdR (caC cdR caN)))) (cdT (caC cdS (caC cI caN)))
abbrev yTg(f1:yDa.T)(F0:LF2 yK8 yPI yPJ (ByteArray×Int×Unit))(x0:Int)(x1:ByteArray)(x2:List (List V))(x3:List (List V)):Option (ByteArray×Int×Unit):=
 bif(x2.length:Int) !=(x3.length:Int) then
 some (noS,2,())
 else
 F0 (x0,x1,x2,x3,[],0,()) (fun q1=>
 gd ((bytesOf q1.2.2.1).isSome)<|
 gd (decide (((yPv q1.2.2.1).size)+q1.2.1.size<=9223372036854775807))<|
 yAB (f1 q1.1 ((yPv q1.2.2.1)++q1.2.1)) fun r2=>
 some (r2.1,r2.2.1,())) (fun q3=>
 some (q3.1,q3.2.1,()))
theorem xHD(f1 F0):yCu.Eq [yDa.s f1] (.two .no (.two .no (.two .no (.two (.two .no (.one (.lp (yK9.s F0)))) .no)))) (yTg f1 F0):=fun _=>by kernel_rfl
def yD8(L:Nat):yCu.T:=yTg (yH9 L) (yAf (yER (yCh L)) L)
theorem yZS{α:Type}(L:Nat):LO Tryz.f135 [1,1,1,0,1,0] (yK9.s (α:=α) (yAf (yER (yCh L)) L)):=yK9.k (xBI (yCh L)) (tC (yRs L).ent tN) (lN _) (by kernel_rfl) L
theorem yP4(L:Nat):yCu.C (yD8 L):=yCu.c (xHD (yH9 L) (yAf (yER (yCh L)) L)) (tC (yTi L).ent tN) Tryz.func135 (by kernel_rfl) (lS (lN _) (lS (lN _) (lS (lN _) (lS (lS (lN _) (lB (lL (yZS L)))) (lN _)))))
abbrev yIC:=fw1 121 (caC yBQ caN) (cdT (caC cdS (caC cI caN)))
abbrev yRw(f1:yAn.T)(f2:yCu.T)(x0:yAJ):Option (ByteArray×Int×Unit):=
 letI qa:= [V.int .i64 2]
 yAB (f1 x0) fun r1=>
 bif !r1 then
 some (noS,40,())
 else
 yAB (f2 1 noS ([qa,qa,qa,qa,qa,qa,[V.int .i64 4],[V.int .i64 4]]) ([[V.int .i64 x0.Nodes],[V.int .i64 x0.Slots],[V.int .i64 x0.Blocks],[V.int .i64 x0.Per],[V.int .i64 x0.Journal],[V.int .i64 x0.Log],[V.int .i64 x0.Lease],[V.int .i64 x0.Wait]])) fun r2=>
 some (r2.1,r2.2.1,())
theorem xEi(f1 f2):yIC.Eq [yAn.s f1,yCu.s f2] .no (yRw f1 f2):=fun _=>by kernel_rfl
def yPL(L:Nat):yIC.T:=yRw (yBV L) (yD8 L)
theorem xEh(L:Nat):yIC.C (yPL L):=yIC.c (xEi (yBV L) (yD8 L)) (tC (yCi L).ent (tC (yP4 L).ent tN)) Tryz.func121 (by kernel_rfl) (lN _)
set_option maxRecDepth 100000
set_option maxHeartbeats 16000000
abbrev yFw:=fw1 122 (caC cI caN) (cdT (caC cdS (caC cI caN)))
abbrev yTo(f1:yCu.T)(x0:Int):Option (ByteArray×Int×Unit):=
 yAB (f1 2 noS ([[V.int .i64 6]]) ([[V.int .i64 x0]])) fun r1=>
 some (r1.1,r1.2.1,())
theorem xHL(f1):yFw.Eq [yCu.s f1] .no (yTo f1):=fun _=>by kernel_rfl
def yLx(L:Nat):yFw.T:=yTo (yD8 L)
theorem yYo(L:Nat):yFw.C (yLx L):=yFw.c (xHL (yD8 L)) (tC (yP4 L).ent tN) Tryz.func122 (by kernel_rfl) (lN _)
abbrev yID:=yAJ×ByteArray×(List (List V))×Int×Unit
abbrev yLw:=(List (List V))×Unit
abbrev yDq{α:Type}(f1:yDb.T)(s:yID)(kn:yID->Option α)(k0:yLw->Option α):Option α:=
 letI qc:=s.2.2.1
 bif decide (s.2.2.2.1<s.1.Slots) then
 yAB (f1 s.1 s.2.2.2.1) fun r1=>
 letI qd:=0+r1.toNat
 letI qa:=qc.getD qd []
 letI qb:=qa.take 0++([V.str s.2.1]++qa.drop 1)
 gB r1 qc.length<|
 gd (decide (0+r1.toNat<qc.length))<|
 gd (Nat.ble 0 qd)<|
 gd (Nat.ble 1 qa.length)<|
 gW (qc.set qd qb) qc.length<|
 kn (s.1,s.2.1,qc.set qd qb,w64 (s.2.2.2.1+1),())
 else
 gW qc qc.length<|
 k0 (qc,())
abbrev yIE:LW1 yID yLw:=⟨(lvC 1 yOI (lvC 6 (mP cdS) (lvC 8 (mW 1) (lvC 9 (mP cI) lvN)))),(.exit 0),(lvC 8 (mW 1) lvN)⟩
theorem yXr{α:Type}(f1):yIE.Eq (α:=α) [yDb.s f1] Tryz.f54 [1,1,1,1,1,1,0,1,0] .no (yDq f1):=fun _ _ _=>by kernel_rfl
abbrev yGd:=fw1 54 (caC yBQ caN) (cdT (caC cdR (caC cI caN)))
abbrev yQa(f1:yIC.T)(f2:yFw.T)(f3:yET.T)(F0:LF1 yID yLw ((List (List V))×Int×Unit))(x0:yAJ):Option ((List (List V))×Int×Unit):=
 yAB (f1 x0) fun r1=>
 bif r1.2.1 !=0 then
 some ([],r1.2.1,())
 else
 yAB (f2 0) fun r2=>
 yAB (f3 x0) fun r3=>
 letI qa:=List.replicate r3.toNat [V.str noS]
 letI qb:=(qa.getD 0 []).take 0++([V.str r1.1]++(qa.getD 0 []).drop 1)
 gd (decide (0<=r3))<|
 gd (decide (r3<=r3))<|
 gd (decide (16*r3.toNat<=281474976710656))<|
 gd (decide (r3<=9223372036854775807))<|
 gd (decide (0<(r3.toNat:Int)))<|
 gd (decide (0<qa.length))<|
 gd (Nat.ble 1 (qa.getD 0 []).length)<|
 gW (qa.set 0 qb) r3.toNat<|
 F0 (x0,r2.1,qa.set 0 qb,0,()) (fun q4=>
 gF q4.1 (0+q4.1.length)<|
 some (q4.1.take q4.1.length,0,()))
theorem xCY(f1 f2 f3 F0):yGd.Eq [yIC.s f1,yFw.s f2,yET.s f3] (.two .no (.two .no (.two .no (.two .no (.two .no (.two .no (.two (.two .no (.one (.lp (yIE.s F0)))) .no))))))) (yQa f1 f2 f3 F0):=fun _=>by kernel_rfl
def yNL(L:Nat):yGd.T:=yQa (yPL L) (yLx L) (yEu L) (yAb (yDq (yDI L)) L)
theorem yWh{α:Type}(L:Nat):LO Tryz.f54 [1,1,1,1,1,1,0,1,0] (yIE.s (α:=α) (yAb (yDq (yDI L)) L)):=yIE.k (yXr (yDI L)) (tC (yTl L).ent tN) (lN _) (by kernel_rfl) L
theorem xCX(L:Nat):yGd.C (yNL L):=yGd.c (xCY (yPL L) (yLx L) (yEu L) (yAb (yDq (yDI L)) L)) (tC (xEh L).ent (tC (yYo L).ent (tC (yWg L).ent tN))) Tryz.func54 (by kernel_rfl) (lS (lN _) (lS (lN _) (lS (lN _) (lS (lN _) (lS (lN _) (lS (lN _) (lS (lS (lN _) (lB (lL (yWh L)))) (lN _))))))))
abbrev yC9:=fw2 85 (caC yNE (caC cI caN)) cdB
abbrev ySN(x0:yAD)(x1:Int):Option Bool:=
 bif decide (16<=x1) then
 bif decide (w64 (x1.tdiv 16)<x0.Next) then
 some (decide (x1.tmod 16<(x0.Keys.length:Int)))
 else
 some false
 else
 some false
theorem xEw:yC9.Eq [] .no (ySN):=fun _=>by kernel_rfl
def yBk(L:Nat):yC9.T:=ySN
theorem ySM(L:Nat):yC9.C (yBk L):=yC9.c (xEw) tN Tryz.func85 (by kernel_rfl) (lN _)
abbrev yIL:=(List (List V))×Int×Int×Int×Unit
abbrev yL8:=(List (List V))×Int×Int×Unit
abbrev yL9:=Bool×Unit
abbrev yFJ{α:Type}(s:yIL)(kn:yIL->Option α)(k0:yL8->Option α)(k1:yL9->Option α):Option α:=
 bif decide (s.2.2.2.1<s.2.2.1) then
 gI s.1 yCw.ks s.2.2.2.1<|
 gI s.1 yCw.ks s.2.2.1<|
 bif(aI s.1 s.2.2.2.1.toNat 0)==(aI s.1 s.2.2.1.toNat 0) then
 k1 (false,())
 else
 kn (s.1,s.2.1,s.2.2.1,w64 (s.2.2.2.1+1),())
 else
 k0 (s.1,s.2.1,s.2.2.1,())
abbrev yIM:LW2 yIL yL8 yL9:=⟨(lvC 0 (mP cdR) (lvC 1 (mP cI) (lvC 5 (mP cI) (lvC 6 (mP cI) lvN)))),(.exit 2),(lvC 0 (mP cdR) (lvC 1 (mP cI) (lvC 5 (mP cI) lvN))),.ret,(lvC 4 (mP cdB) lvN)⟩
theorem yXy{α:Type}:yIM.Eq (α:=α) [] Tryz.f145 [1,0,1,0,0,1,0,0,1,1,0] .no (yFJ):=fun _ _ _=>by kernel_rfl
abbrev yIJ:=(List (List V))×Int×Int×Unit
abbrev yL6:=Unit
abbrev yL7:=Bool×Unit
abbrev yLA{α:Type}(F1:LF2 yIL yL8 yL9 α)(s:yIJ)(kn:yIJ->Option α)(k0:yL6->Option α)(k1:yL7->Option α):Option α:=
 letI qa:=s.2.2.1
 bif decide (qa<(s.1.length:Int)) then
 gI s.1 yCw.ks qa<|
 bif decide (aI s.1 qa.toNat 0<0) then
 k1 (false,())
 else
 gI s.1 yCw.ks qa<|
 bif decide (s.2.1<=aI s.1 qa.toNat 0) then
 k1 (false,())
 else
 gI s.1 yCw.ks qa<|
 bif decide (512<((aS s.1 qa.toNat 1).size:Int)) then
 k1 (false,())
 else
 F1 (s.1,s.2.1,qa,0,()) (fun q1=>
 kn (q1.1,q1.2.1,w64 (q1.2.2.1+1),())) (fun q2=>
 k1 (q2.1,()))
 else
 k0 (())
abbrev yIK:LW2 yIJ yL6 yL7:=⟨(lvC 0 (mP cdR) (lvC 1 (mP cI) (lvC 5 (mP cI) lvN))),(.exit 0),lvN,.ret,(lvC 4 (mP cdB) lvN)⟩
theorem yXx{α:Type}(F1):yIK.Eq (α:=α) [] Tryz.f145 [1,0,1,0] (.two .no (.two (.one (.two .no (.two .no (.one (.lp (yIM.s F1)))))) .no)) (yLA F1):=fun _ _ _=>by kernel_rfl
abbrev yGf:=fw2 145 (caC cdR (caC cI caN)) cdB
abbrev yU5(F0:LF2 yIJ yL6 yL7 (Bool))(x0:List (List V))(x1:Int):Option Bool:=
 F0 (x0,x1,0,()) (fun q1=>
 some true) (fun q2=>
 some q2.1)
theorem xCm(F0):yGf.Eq [] (.two .no (.two (.two .no (.one (.lp (yIK.s F0)))) .no)) (yU5 F0):=fun _=>by kernel_rfl
def yHe(L:Nat):yGf.T:=yU5 (yAf (yLA (yAf (yFJ) L)) L)
theorem yWm{α:Type}(L:Nat):LO Tryz.f145 [1,0,1,0,0,1,0,0,1,1,0] (yIM.s (α:=α) (yAf (yFJ) L)):=yIM.k (yXy) tN (lN _) (by kernel_rfl) L
theorem yWl{α:Type}(L:Nat):LO Tryz.f145 [1,0,1,0] (yIK.s (α:=α) (yAf (yLA (yAf (yFJ) L)) L)):=yIK.k (yXx (yAf (yFJ) L)) tN (lS (lN _) (lS (lB (lS (lN _) (lS (lN _) (lB (lL (yWm L)))))) (lN _))) (by kernel_rfl) L
theorem xCl(L:Nat):yGf.C (yHe L):=yGf.c (xCm (yAf (yLA (yAf (yFJ) L)) L)) tN Tryz.func145 (by kernel_rfl) (lS (lN _) (lS (lS (lN _) (lB (lL (yWl L)))) (lN _)))
set_option maxRecDepth 100000
set_option maxHeartbeats 16000000
abbrev yJP:=yAD×Int×Unit
abbrev yNy:=Unit
abbrev yNz:=Int×Unit
abbrev yI4{α:Type}(f1:yC9.T)(s:yJP)(kn:yJP->Option α)(k0:yNy->Option α)(k1:yNz->Option α):Option α:=
 letI qa:=s.2.1
 bif decide (qa<(s.1.Fenced.length:Int)) then
 gI s.1.Fenced kI qa<|
 yAB (f1 s.1 (aI s.1.Fenced qa.toNat 0)) fun r1=>
 bif !r1 then
 k1 (2,())
 else
 bif decide (0<qa) then
 gI s.1.Fenced kI qa<|
 gI s.1.Fenced kI (w64 (qa-1))<|
 bif decide (aI s.1.Fenced qa.toNat 0<=aI s.1.Fenced ((w64 (qa-1)).toNat) 0) then
 k1 (2,())
 else
 kn (s.1,w64 (qa+1),())
 else
 kn (s.1,w64 (qa+1),())
 else
 k0 (())
abbrev yJQ:LW2 yJP yNy yNz:=⟨(lvC 1 yAM (lvC 5 (mP cI) lvN)),(.exit 4),lvN,.ret,(lvC 2 (mP cI) lvN)⟩
theorem yZV{α:Type}(f1):yJQ.Eq (α:=α) [yC9.s f1] Tryz.f84 [1,1,1,1,0,1,0] .no (yI4 f1):=fun _ _ _=>by kernel_rfl
abbrev yJN:=yAD×Int×Unit
abbrev yNw:=yAD×Unit
abbrev yNx:=Int×Unit
abbrev yEw{α:Type}(f1:yGf.T)(f2:yC9.T)(s:yJN)(kn:yJN->Option α)(k0:yNw->Option α)(k1:yNx->Option α):Option α:=
 letI qb:=s.2.1
 letI qa:=aI s.1.Keys qb.toNat 0
 bif decide (qb<(s.1.Keys.length:Int)) then
 gI s.1.Cache kL qb<|
 yAB (f1 (aR s.1.Cache qb.toNat 0) (s.1.S.length:Int)) fun r1=>
 bif !r1 then
 k1 (2,())
 else
 gI s.1.Keys kI qb<|
 bif qa !=0 then
 gI s.1.Keys kI qb<|
 yAB (f2 s.1 qa) fun r2=>
 bif !r2 then
 k1 (2,())
 else
 gI s.1.Keys kI qb<|
 bif(qa.tmod 16) !=qb then
 k1 (2,())
 else
 kn (s.1,w64 (qb+1),())
 else
 kn (s.1,w64 (qb+1),())
 else
 k0 (s.1,())
abbrev yJO:LW2 yJN yNw yNx:=⟨(lvC 1 yAM (lvC 4 (mP cI) lvN)),(.exit 2),(lvC 1 yAM lvN),.ret,(lvC 2 (mP cI) lvN)⟩
theorem yZU{α:Type}(f1 f2):yJO.Eq (α:=α) [yGf.s f1,yC9.s f2] Tryz.f84 [1,1,1,0,1,0] .no (yEw f1 f2):=fun _ _ _=>by kernel_rfl
abbrev yJL:=yAD×Int×Unit
abbrev yNu:=yAD×Unit
abbrev yNv:=Int×Unit
abbrev yEv{α:Type}(s:yJL)(kn:yJL->Option α)(k0:yNu->Option α)(k1:yNv->Option α):Option α:=
 bif decide (s.2.1<(s.1.S.length:Int)) then
 gI s.1.S kS s.2.1<|
 bif decide (512<((aS s.1.S s.2.1.toNat 0).size:Int)) then
 k1 (2,())
 else
 kn (s.1,w64 (s.2.1+1),())
 else
 k0 (s.1,())
abbrev yJM:LW2 yJL yNu yNv:=⟨(lvC 1 yAM (lvC 3 (mP cI) lvN)),(.exit 0),(lvC 1 yAM lvN),.ret,(lvC 2 (mP cI) lvN)⟩
theorem yZT{α:Type}:yJM.Eq (α:=α) [] Tryz.f84 [1,1,0,1,0] .no (yEv):=fun _ _ _=>by kernel_rfl
abbrev yEU:=fw1 84 (caC yNE caN) cI
abbrev yRx(F0:LF2 yJL yNu yNv (Int))(F1:LF2 yJN yNw yNx (Int))(F2:LF2 yJP yNy yNz (Int))(x0:yAD):Option Int:=
 bif decide ((x0.S.length:Int)<1) then
 some 2
 else
 bif decide ((x0.Keys.length:Int)<1) then
 some 2
 else
 bif decide (16<(x0.Keys.length:Int)) then
 some 2
 else
 bif(x0.Cache.length:Int) !=(x0.Keys.length:Int) then
 some 2
 else
 bif decide (x0.Next<1) then
 some 2
 else
 bif decide (68719476736<x0.Next) then
 some 2
 else
 F0 (x0,0,()) (fun q1=>
 F1 (q1.1,0,()) (fun q2=>
 F2 (q2.1,0,()) (fun q3=>
 some 0) (fun q4=>
 some q4.1)) (fun q5=>
 some q5.1)) (fun q6=>
 some q6.1)
theorem xEj(F0 F1 F2):yEU.Eq [] (.two .no (.two .no (.two (.two .no (.one (.lp (yJM.s F0)))) (.two (.two .no (.one (.lp (yJO.s F1)))) (.two (.two .no (.one (.lp (yJQ.s F2)))) .no))))) (yRx F0 F1 F2):=fun _=>by kernel_rfl
def yDr(L:Nat):yEU.T:=yRx (yAf (yEv) L) (yAf (yEw (yHe L) (yBk L)) L) (yAf (yI4 (yBk L)) L)
theorem yXu{α:Type}(L:Nat):LO Tryz.f84 [1,1,1,1,0,1,0] (yJQ.s (α:=α) (yAf (yI4 (yBk L)) L)):=yJQ.k (yZV (yBk L)) (tC (ySM L).ent tN) (lN _) (by kernel_rfl) L
theorem yXt{α:Type}(L:Nat):LO Tryz.f84 [1,1,1,0,1,0] (yJO.s (α:=α) (yAf (yEw (yHe L) (yBk L)) L)):=yJO.k (yZU (yHe L) (yBk L)) (tC (xCl L).ent (tC (ySM L).ent tN)) (lN _) (by kernel_rfl) L
theorem yXs{α:Type}(L:Nat):LO Tryz.f84 [1,1,0,1,0] (yJM.s (α:=α) (yAf (yEv) L)):=yJM.k (yZT) tN (lN _) (by kernel_rfl) L
theorem yWi(L:Nat):yEU.C (yDr L):=yEU.c (xEj (yAf (yEv) L) (yAf (yEw (yHe L) (yBk L)) L) (yAf (yI4 (yBk L)) L)) tN Tryz.func84 (by kernel_rfl) (lS (lN _) (lS (lN _) (lS (lS (lN _) (lB (lL (yXs L)))) (lS (lS (lN _) (lB (lL (yXt L)))) (lS (lS (lN _) (lB (lL (yXu L)))) (lN _))))))
abbrev yL5:=rw2 55 (.ta 5) (caC cI (caC cdR caN)) (zW 1 (zW 1 (zW 1 (zP cI (zW 1 (zP cI zN))))))
abbrev yVd(f1:yEU.T)(x0:Int)(x1:List (List V)):Option ((List (List V))×(List (List V))×(List (List V))×Int×(List (List V))×Int×Unit):=
 letI qd:=decide (x0<=9223372036854775807)
 letI qc:=0+x1.length
 letI qb:=List.replicate x0.toNat [V.int .i64 0]
 letI qa:=List.replicate x0.toNat [V.sl ([]) true]
 bif decide (x0<1) then
 some ([],[],[],0,[],2,())
 else
 bif decide (16<x0) then
 some ([],[],[],0,[],2,())
 else
 gd (x1.all fun r=>Nat.beq r.length 1)<|
 gM qc 16<|
 gd (decide (0<=x0))<|
 gd (decide (x0<=x0))<|
 gd (decide (24*x0.toNat<=281474976710656))<|
 gd qd<|
 gd (decide (0<=x0))<|
 gd (decide (x0<=x0))<|
 gd (decide (8*x0.toNat<=281474976710656))<|
 gd qd<|
 gF x1 (0+qc)<|
 gF qa (0+x0.toNat)<|
 gF qb (0+x0.toNat)<|
 yAB (f1 (⟨x1.take qc,qa.take x0.toNat,qb.take x0.toNat,1,[]⟩:yAD)) fun r1=>
 bif r1 !=0 then
 some ([],[],[],0,[],2,())
 else
 gW x1 qc<|
 gW qa x0.toNat<|
 gW qb x0.toNat<|
 some (x1,List.replicate x0.toNat [V.sl ([]) true],List.replicate x0.toNat [V.int .i64 0],1,[],0,())
theorem xJa(f1):yL5.Eq [yEU.s f1] .no (yVd f1):=fun _=>by kernel_rfl
def yTr(L:Nat):yL5.T:=yVd (yDr L)
theorem xJZ(L:Nat):yL5.C (yTr L):=yL5.c (xJa (yDr L)) (tC (yWi L).ent tN) Tryz.func55 (by kernel_rfl) (lN _)
abbrev yFl:=rw1 12 (.ta 5) (caC yBQ caN) (zW 1 (zW 1 (zW 1 (zP cI (zW 1 (zP cdB zN))))))
abbrev yTS(f1:yGd.T)(f2:yL5.T)(x0:yAJ):Option ((List (List V))×(List (List V))×(List (List V))×Int×(List (List V))×Bool×Unit):=
 yAB (f1 x0) fun r1=>
 yAB (f2 x0.Nodes r1.1) fun r2=>
 letI qb:=r2.2.2.1
 letI qa:=r2.2.2.2.2.1
 bif r1.2.1==0 then
 gW r2.1 r2.1.length<|
 gW r2.2.1 r2.2.1.length<|
 gW qb qb.length<|
 gW qa qa.length<|
 some (r2.1,r2.2.1,qb,r2.2.2.2.1,qa,r2.2.2.2.2.2.1==0,())
 else
 gW r2.1 r2.1.length<|
 gW r2.2.1 r2.2.1.length<|
 gW qb qb.length<|
 gW qa qa.length<|
 some (r2.1,r2.2.1,qb,r2.2.2.2.1,qa,false,())
theorem xGi(f1 f2):yFl.Eq [yGd.s f1,yL5.s f2] .no (yTS f1 f2):=fun _=>by kernel_rfl
def yH0(L:Nat):yFl.T:=yTS (yNL L) (yTr L)
theorem yYa(L:Nat):yFl.C (yH0 L):=yFl.c (xGi (yNL L) (yTr L)) (tC (xCX L).ent (tC (xJZ L).ent tN)) Tryz.func12 (by kernel_rfl) (lN _)
abbrev yKw:=(List (List V))×Int×Unit
abbrev yO9:=Unit
abbrev yPA:=Bool×Unit
abbrev yEI{α:Type}(s:yKw)(kn:yKw->Option α)(k0:yO9->Option α)(k1:yPA->Option α):Option α:=
 bif decide (s.2.1<(s.1.length:Int)) then
 gI s.1 kI (w64 (s.2.1-1))<|
 gI s.1 kI s.2.1<|
 bif decide (aI s.1 s.2.1.toNat 0<aI s.1 ((w64 (s.2.1-1)).toNat) 0) then
 k1 (false,())
 else
 kn (s.1,w64 (s.2.1+1),())
 else
 k0 (())
abbrev yKx:LW2 yKw yO9 yPA:=⟨(lvC 0 (mP cdR) (lvC 3 (mP cI) lvN)),(.exit 0),lvN,.ret,(lvC 2 (mP cdB) lvN)⟩
theorem xAm{α:Type}:yKx.Eq (α:=α) [] Tryz.f123 [1,0,1,0] .no (yEI):=fun _ _ _=>by kernel_rfl
abbrev yKA:=fw1 123 (caC cdR caN) cdB
abbrev yTN(F0:LF2 yKw yO9 yPA (Bool))(x0:List (List V)):Option Bool:=
 F0 (x0,1,()) (fun q1=>
 some true) (fun q2=>
 some q2.1)
theorem xGb(F0):yKA.Eq [] (.two .no (.two (.two .no (.one (.lp (yKx.s F0)))) .no)) (yTN F0):=fun _=>by kernel_rfl
def yJ9(L:Nat):yKA.T:=yTN (yAf (yEI) L)
theorem yY8{α:Type}(L:Nat):LO Tryz.f123 [1,0,1,0] (yKx.s (α:=α) (yAf (yEI) L)):=yKx.k (xAm) tN (lN _) (by kernel_rfl) L
theorem xGa(L:Nat):yKA.C (yJ9 L):=yKA.c (xGb (yAf (yEI) L)) tN Tryz.func123 (by kernel_rfl) (lS (lN _) (lS (lS (lN _) (lB (lL (yY8 L)))) (lN _)))
abbrev yCy:=fw1 56 (caC yBQ caN) cdB
abbrev xAl(f1:yKA.T)(x0:yAJ):Option Bool:=
 yAB (f1 ([[V.int .i64 1],[V.int .i64 x0.Slots],[V.int .i64 x0.Nodes],[V.int .i64 16]])) fun r1=>
 bif r1 then
 yAB (f1 ([[V.int .i64 1],[V.int .i64 x0.Blocks],[V.int .i64 64]])) fun r2=>
 bif r2 then
 yAB (f1 ([[V.int .i64 1],[V.int .i64 x0.Per],[V.int .i64 8]])) fun r3=>
 bif r3 then
 yAB (f1 ([[V.int .i64 (w64 (x0.Per+2))],[V.int .i64 x0.Journal],[V.int .i64 64]])) fun r4=>
 bif r4 then
 yAB (f1 ([[V.int .i64 (w64 (8*x0.Slots))],[V.int .i64 x0.Log],[V.int .i64 512]])) fun r5=>
 bif r5 then
 yAB (f1 ([[V.int .i64 1],[V.int .i64 x0.Lease],[V.int .i64 (w64 (x0.Wait-1))],[V.int .i64 1048575]])) fun r6=>
 some r6
 else
 some false
 else
 some false
 else
 some false
 else
 some false
 else
 some false
theorem xM0(f1):yCy.Eq [yKA.s f1] .no (xAl f1):=fun _=>by kernel_rfl
def yFD(L:Nat):yCy.T:=xAl (yJ9 L)
theorem yO8(L:Nat):yCy.C (yFD L):=yCy.c (xM0 (yJ9 L)) (tC (xGa L).ent tN) Tryz.func56 (by kernel_rfl) (lN _)
end Go.Proofs.YtakljpcmbpaeaaaGreat
