/- slices.Grow of nil: a new row without elements. -/
import Derived.Test.YtakljpcmbpaeaaaGreatPaxosOneM33
import Derived.Test.YtakljpcmbpaeaaaGreatPaxosOneM01
import Derived.Laws.NewBlocks
import Derived.Test.YtakljpcmbpaeaaaGreatPaxosOneM34
import Derived.Test.YtakljpcmbpaeaaaGreatPaxosOneM35
set_option linter.unusedSimpArgs false
set_option linter.unusedVariables false
namespace Go.Proofs.YtakljpcmbpaeaaaGreat
open Go.RowKit
def grI{α:Type}(sz:Nat):ICf α:=fun args G c K=>match args with
 | [.sl es fl,.int .i64 n]=>allB [fl,Nat.beq es.length 0,decide (0≤n),decide (n≤1000000)] (newK G c sz [] K) none
 | _=>none
abbrev sGr{α:Type}(i sz:Nat):Nat×Ent α:=(i,spI (grI sz))
theorem grI_ok{α:Type}{P:Program}{g:FuncId}{sz:Nat}(h:∀n:Int,0≤n→n≤1000000→NCon P g [.sl [] true,.int .i64 n] [] sz):IfOk P g (grI sz:ICf α):=by
 have key:∀args (G:Tr Blk') c K r,(grI sz:ICf α) args G c K=some r→∃n G',args= [.sl [] true,.int .i64 n]∧0≤n∧n≤1000000∧G'.get=(St.new ⟨G.get,c⟩ ⟨[],sz,0⟩).get∧∀K':V→Tr Blk'→Nat→Option α,grI sz args G c K'=K' (.bs c 0 0 0) G' (c+1):=by
  intro args G c K r q
  unfold grI at q
  split at q
  ·rename_i es fl n
   obtain⟨h1,h2,h3⟩:=allB_some q
   have e1:=h1 fl (by simp)
   have e2:=List.eq_nil_of_length_eq_zero (Nat.eq_of_beq_eq_true (h1 (Nat.beq es.length 0) (by simp)))
   have e3:=of_decide_eq_true (h1 (decide (0≤n)) (by simp))
   have e4:=of_decide_eq_true (h1 (decide (n≤1000000)) (by simp))
   subst e1 e2
   obtain⟨G',m1,m2,m3⟩:=newK_some h2
   refine⟨n,G',rfl,e3,e4,m1,fun K'=>?_⟩
   show allB _ _ _=_
   rw [h3,m3];rfl
  ·cases q
 refine⟨fun args G c K r k1 k2 q Kp hk=>?_,fun args G c K r q=>?_⟩
 ·obtain⟨n,G',rfl,h0,h1,m1,m2⟩:=key args G c K r q
  have hN:=h n h0 h1
  refine .inr (.inr (.inr (.inr ⟨_,icon_of_ncon (f:=mny) (.inl ⟨fun x hx=>?_,rfl⟩) hN,?_⟩)))
  ·rcases List.mem_cons.1 hx with rfl | hx
   ·exact .sl _ _ (by simp)
   ·obtain rfl:x=_:=by simpa using hx
    exact .int _ _
  ·rintro v st' ⟨rfl,rfl⟩
   rw [m2] at q
   have:=hk _ G' (c+1) (.bs _ _ _ _) (by rw [m1];exact PSg.new (st:=⟨G.get,c⟩) k2 hN.plain) q
   rw [m1] at this
   exact this
 ·obtain⟨n,G',rfl,h0,h1,m1,m2⟩:=key args G c K r q
  exact⟨_,G',c+1,m2,fun _ k2=>⟨.bs _ _ _ _,by rw [m1];exact PSg.new (st:=⟨G.get,c⟩) k2 fun r hr=>absurd hr (by simp)⟩⟩
theorem grow_nc(n:Int)(h0:0≤n)(h1:n≤1000000):NCon Tryz.prog 373 [.sl [] true,.int .i64 n] [] 4:=by
 refine⟨⟨_,Tryz.func373,rfl,rfl⟩,fun i hi=>absurd hi (by simp),by simp,fun w S vargs hS hv=>?_⟩
 match vargs,hv with
 | [v0,v1],hv=>
   have p0:=hv.2 0 (by simp) (by simp)
   have p1:=hv.2 1 (by simp) (by simp)
   dsimp only [List.getElem_cons_zero,List.getElem_cons_succ] at p0 p1
   obtain⟨A,c,rfl,-,hf⟩:=p0.sl_inv
   have hf:=hf rfl
   subst hf
   cases p1
   obtain⟨m,rfl⟩:=Int.eq_ofNat_of_zero_le h0
   rcases Nat.eq_zero_or_pos m with rfl | hm
   ·refine(grow_zero A w).mono ?_
    rintro e w' ⟨rfl,rfl⟩
    exact⟨A,0,S,rfl,Nat.zero_le _,Below.refl _ _,fun _ _ h=>h,fun _ _ h=> .inl h,hS,.inl ⟨rfl,rfl⟩⟩
   ·refine(grow_more A m hm (by omega) w).mono ?_
    rintro e w' ⟨rfl,z,hz,rfl⟩
    have hge:=grownCap_ge w m 0 244
    generalize grownCap w m 0 244=G at hge ⊢
    have hlen:(Builtin.zeroCells z m++Builtin.zeroCells z (G-m)).size=G*4:=by
     rw [Array.size_append,zeroCells_length,zeroCells_length,hz];omega
    generalize Builtin.zeroCells z m++Builtin.zeroCells z (G-m)=cs at hlen ⊢
    refine⟨some ⟨w.heap.size,0,none⟩,G,S,rfl,Nat.zero_le _,(Below.refl _ _).drew.alloc (Nat.le_refl _) _,fun _ _ h=>h,fun _ _ h=> .inl h,fun g i h=>by have:=hS g i h;simp;omega,.inr ⟨w.heap.size,0,rfl,Nat.le_refl _,by simp,fun i _ _ h=>by have:=hS _ _ h;omega,fun i _ hi=>?_,fun i hi=>absurd hi (by simp)⟩⟩
    have hi':i<cs.size:=by omega
    exact⟨⟨cs[i],(World.cell?_alloc_at (w:=w.drew) cs _ w.heap.size i rfl).trans (Array.getElem?_eq_getElem hi')⟩,World.frozen?_alloc_at (w:=w.drew) cs _ w.heap.size i rfl⟩
theorem slices_Grow_Hold_ok{α:Type}:EntOk Tryz.prog 373 (sGr (α:=α) 373 4).2:=spI_ok (grI_ok grow_nc)
end Go.Proofs.YtakljpcmbpaeaaaGreat

namespace Go.Proofs.YtakljpcmbpaeaaaGreat
open Go.RowKit
def crc_Sum(L:Nat)(b:List (List V)):Option Int:=bif b.all byRB&&Nat.ble b.length 1000000000 then some (crcSum (b.map byRD):Int) else none
theorem crc_Sum_c(L:Nat):Ctr Tryz.prog 240 false (caC cdR caN) (cdI .i64) (fun a=>crc_Sum L a.1):=by
 rintro⟨b,_⟩ r hp h
 obtain⟨h1,h2⟩:=bif_some h
 cases h2
 obtain⟨h1,h3⟩:=and_tt' h1
 have e1:(b.map byRD).map byV=b:=rows_h (fun r hr=>byRB_h hr) h1
 refine⟨?_,.int _ _,nofun⟩
 show Con Tryz.prog 240 [.sl b false] _
 rw [←e1,rows_d byRD_v]
 refine con_of_calls Tryz.func240 (by decide) rfl (.int _ _) fun w S vargs hS hv=>?_
 obtain⟨u1,us,rfl,q1,hv⟩:=vrs_cons hv
 obtain rfl:=vrs_nil hv
 obtain⟨A,c,rfl,hr⟩:=vr_by hS q1
 refine(Sum_any A c _ w (by rw [List.length_map];exact Nat.le_of_ble_eq_true h3) hr).mono ?_
 rintro e w' ⟨rfl,hB⟩
 exact⟨_,rfl,.int _ _,hB⟩
theorem rcon_own{P:Program}{i:FuncId}{args:List V}{es:List (List V)}{y:V}{e:TypeId}(hc:Callable P i)(hy:Plain y)(hes:∀r∈es,∀x∈r,Plain x)(hrow:∀r∈es,r.length=1)
  (h:∀(w:World) (S:Stab) (vargs:List Value),(∀g i,S g i→g<w.heap.size)→VRs noMu S w args vargs→Calls P i vargs.toArray w fun en w'=>∃v u xs,en= .returned (.tuple #[v,u])∧w'.ownsRow w.heap.size e 1 v es.length xs∧
    (∀i (hi:i<es.length) j (hj:j<es[i].length),∃q,xs[i*1+j]?=some q∧q.oneCell'=true∧VR noMu S w' es[i][j] q)∧VR noMu S w' y u∧Below w.heap.size w w'):RCon P .t i args [.w es 1,.p y]:=by
 refine⟨hc,?_,by show(1:Nat)≤1000;omega,fun w S vargs hS hv=>(h w S vargs hS hv).mono ?_⟩
 ·intro x hx
  rcases List.mem_cons.1 hx with rfl | hx
  ·exact hes
  ·rcases List.mem_cons.1 hx with rfl | hx
   ·exact hy
   ·cases hx
 ·rintro en w' ⟨v,u,xs,rfl,⟨hlen,hown⟩,hx,hu,hB⟩
  have hget:∀b k,(nG [.w es 1,.p y]).get b=some k→b=1∧k=⟨es,1,0⟩:=fun b k hk=>by
   rw [nG_get (by show(1:Nat)≤1000;omega)] at hk
   split at hk
   ·rename_i hb
    have:rN [AV0.w es 1,.p y]=2:=rfl
    obtain rfl:b=1:=by omega
    injection hk with hk
    exact⟨rfl,hk.symm⟩
   ·cases hk
  have fin:∀L:Loc,L.sz=1→L.mp=false→BR (fun x=>if x=1 then some L else none) S w' ⟨es,1,0⟩ L→(0<L.lim→w.heap.size≤L.g∧L.g<w'.heap.size)→
    VR (fun x=>if x=1 then some L else none) S w' (.bs 1 0 es.length es.length) v→
    ∃v' mu' S',Ending.returned (.tuple #[v,u])= .returned v'∧VR mu' S' w' (rkV .t (av0s [.w es 1,.p y] 1).1) v'∧SR mu' S' (fun g=>w.heap.size≤g) ⟨(nG [.w es 1,.p y]).get,rN [.w es 1,.p y]⟩ w'∧(∀g i,S g i→S' g i)∧(∀g i,S' g i→S g i∨w.heap.size≤g)∧Below w.heap.size w w':=fun L h1 h2 h3 h4 h5=>by
   refine⟨_,fun x=>if x=1 then some L else none,S,rfl,?_,⟨fun b k hk=>?_,fun b b' k k' L1 L2 hne hk hk'=>absurd ((hget b k hk).1.trans (hget b' k' hk').1.symm) hne,fun b k L1 hk hL g i he hs=>?_,fun g i hs=>Nat.lt_of_lt_of_le (hS g i hs) hB.size⟩,fun _ _ h=>h,fun _ _ h=> .inl h,hB⟩
   ·refine VR.tup [_,_] [v,u] rfl fun j hj hj'=>?_
    match j,hj with
    | 0,_=>exact h5
    | 1,_=>exact hu.mono (fun b L h=>by cases h) (fun _ _ h=>h) (fun _ _ _=>rfl)
   ·obtain⟨rfl,rfl⟩:=hget b k hk
    exact⟨L,if_pos rfl,h3,fun hp=>h4 (hp.elim id fun h=>by rw [h2] at h;cases h)⟩
   ·obtain⟨rfl,rfl⟩:=hget b k hk
    rw [if_pos rfl] at hL
    injection hL with hL
    subst hL
    have hp:0<L.lim:=he.rg.pos
    have:=(h4 hp).1
    have:=hS g i hs
    have:=he.1
    omega
  rcases hown with ⟨rfl,h0⟩ | ⟨g,cap,cur,rfl,hb,hh,hnc,hcap,hsz,htk⟩
  ·have:es= []:=List.length_eq_zero_iff.1 h0
   subst this
   refine fin ⟨0,0,1,0,false⟩ rfl rfl ⟨rfl,fun _=>Nat.le_refl _,Nat.le_refl _,fun i hi=>absurd hi (by simp),fun i h1 h2=>?_,fun _ i hi=>absurd hi (by simp),fun h=>by cases h⟩ (fun h=>absurd h (by simp)) (.bs 1 0 0 0 ⟨0,0,1,0,false⟩ none 0 (if_pos rfl) (Nat.le_refl _) (Nat.le_refl _) (.inl rfl) rfl)
   dsimp only at h1 h2
   omega
  ·have hg:g<w'.heap.size:=by
     rcases Nat.lt_or_ge g w'.heap.size with h | h
     ·exact h
     ·rw [Array.getElem?_eq_none h] at hh;cases hh
   have hcell:∀k,w'.cell? ⟨g,k,none⟩=cur[k]?:=fun k=>by
    unfold World.cell?
    simp [hh]
   have hfz:∀k,w'.frozen? ⟨g,k,none⟩=false:=fun k=>by
    unfold World.frozen?
    simp [hh]
   refine fin ⟨g,0,1,cap,false⟩ rfl rfl ⟨rfl,fun _=>hnc,Nat.zero_le _,fun i hi=>hrow _ (List.getElem_mem hi),fun i h1 h2=>?_,fun _ i hi j hj=>?_,fun h=>by cases h⟩ (fun _=>⟨hb,hg⟩) (.bs 1 0 _ _ ⟨g,0,1,cap,false⟩ _ cap (if_pos rfl) (Nat.le_refl _) hnc (.inr ⟨rfl,by show 0+cap≤cap;omega⟩) rfl)
   ·dsimp only at h1 h2
    refine⟨?_,hfz i⟩
    rw [hcell]
    exact⟨_,Array.getElem?_eq_getElem (by omega)⟩
   ·obtain⟨q,e1,e2,e3⟩:=hx i hi j hj
    refine⟨q,?_,e2,e3.mono (fun b L h=>by cases h) (fun _ _ h=>h) (fun _ _ _=>rfl)⟩
    show w'.cell? ⟨g,0+i*1+j,none⟩=_
    rw [hcell,Nat.zero_add,←Array.getElem?_toList]
    rw [←htk] at e1
    have hlt:i*1+j<es.length*1:=by
     rcases Nat.lt_or_ge (i*1+j) (es.length*1) with h | h
     ·exact h
     ·rw [List.getElem?_take,if_neg (by omega)] at e1;cases e1
    rwa [List.getElem?_take,if_pos hlt] at e1
def num_Put(L:Nat)(b:List (List V))(n:Int)(l:List (List V)):Option (List (List V)×Int×Unit):=
 bif b.all byRB&&(l.all inRB&&Nat.ble (b.length+6*l.length) 1000000000) then some ((putR (b.map byRD) n (l.map inRD)).1.map byV,(putR (b.map byRD) n (l.map inRD)).2,()) else none
theorem num_Put_c(L:Nat):CtrR Tryz.prog .t 177 (caC cdR (caC cI (caC cdR caN))) (zW 1 (zP cI zN)).cz (fun a=>num_Put L a.1 a.2.1 a.2.2.1):=by
 rintro⟨b,n,l,_⟩ r hp h
 obtain⟨h1,h2⟩:=bif_some h
 cases h2
 obtain⟨h1,h3⟩:=and_tt' h1
 obtain⟨h3,h4⟩:=and_tt' h3
 have e1:(b.map byRD).map byV=b:=rows_h (fun r hr=>byRB_h hr) h1
 have e2:(l.map inRD).map inV=l:=rows_h (fun r hr=>inRB_h hr) h3
 show RCon Tryz.prog .t 177 [.sl b false,.int .i64 n,.sl l false] [.w ((putR (b.map byRD) n (l.map inRD)).1.map byV) 1,.p (.int .i64 (putR (b.map byRD) n (l.map inRD)).2)]
 have hbd:(b.map byRD).length+6*(l.map inRD).length≤1000000000:=by rw [List.length_map,List.length_map];exact Nat.le_of_ble_eq_true h4
 generalize b.map byRD=b' at*
 generalize l.map inRD=l' at*
 rw [←e1,←e2]
 refine rcon_own (e:=5) ⟨_,Tryz.func177,by decide,rfl⟩ (.int _ _) (fun r hr=>by obtain⟨c,_,rfl⟩:=List.mem_map.1 hr;exact byV_pl c) (fun r hr=>by obtain⟨p,_,rfl⟩:=List.mem_map.1 hr;rfl) fun w S vargs hS hv=>?_
 obtain⟨u1,us,rfl,e1,hv⟩:=vrs_cons hv
 obtain⟨u2,us,rfl,e2,hv⟩:=vrs_cons hv
 obtain⟨u3,us,rfl,e3,hv⟩:=vrs_cons hv
 obtain rfl:=vrs_nil hv
 obtain rfl:=vr_int e2
 obtain⟨A1,c1,rfl,r1⟩:=vr_by hS e1
 obtain⟨A3,c3,rfl,r3⟩:=vr_in hS e3
 refine(Put_any A1 A3 c1 c3 n b' l' w hbd r1 r3).mono ?_
 rintro en w' h
 unfold putR
 cases hq:putS b' n l' with
 | none=>
   rw [hq] at h
   obtain⟨rfl,hB⟩:=h
   exact⟨_,_,[],rfl,⟨rfl,.inl ⟨rfl,rfl⟩⟩,fun i hi=>absurd hi (by simp),.int _ _,hB⟩
 | some x=>
   rw [hq] at h
   obtain⟨v,rfl,hrow,hB⟩:=h
   dsimp only
   refine⟨v,_,bcells x,rfl,by rw [List.length_map];exact hrow,fun i hi j hj=>?_,.int _ _,hB⟩
   have hi':i<x.length:=by simpa using hi
   have hj0:j=0:=by simpa [byV] using hj
   subst hj0
   refine⟨.int .u8 (x[i].toNat:Int),?_,rfl,?_⟩
   ·rw [Nat.mul_one,Nat.add_zero]
    simp [bcells,hi']
   ·simp only [List.getElem_map,byV,List.getElem_cons_zero]
    exact .int _ _
end Go.Proofs.YtakljpcmbpaeaaaGreat

namespace Go.Proofs.YtakljpcmbpaeaaaGreat
open Go.RowKit
abbrev yQ8:=fw1 240 (caC cdR caN) cI
abbrev yMl:=nw1 356 2 (caC cdR caN)
abbrev yMk:=nw1 357 4 (caC cdR caN)
abbrev yNe:=rw3 177 .t (caC cdR (caC cI (caC cdR caN))) (zW 1 (zP cI zN))
abbrev yMj:=nw1 223 2 (caC cdR caN)
abbrev yM3:=nw1 226 1 (caC cdR caN)
abbrev yLo:=nw1 227 1 (caC cdR caN)
abbrev yM2:=nw1 231 1 (caC cdR caN)
end Go.Proofs.YtakljpcmbpaeaaaGreat

namespace Go.Proofs.YtakljpcmbpaeaaaGreat
open Go.RowKit
set_option maxRecDepth 100000
set_option maxHeartbeats 16000000
abbrev yDe:=fw3 52 (caC cI (caC cI (caC cI caN))) cdB
abbrev yRk(x0:Int)(x1:Int)(x2:Int):Option Bool:=
 bif decide (x1≤x0) then
 some (decide (x0≤x2))
 else
 some false
theorem yXa:yDe.Eq [] .no (yRk):=fun _=>by kernel_rfl
def yI5(L:Nat):yDe.T:=yRk
theorem yPy(L:Nat):yDe.C (yI5 L):=yDe.c (yXa) tN Tryz.func52 (by kernel_rfl) (lN _)
abbrev yBl:=fw1 10 (caC yCS caN) cdB
abbrev yQh(f1:yDe.T)(x0:yAN):Option Bool:=
 bindO (f1 x0.Nodes 1 16) fun r1=>
 bif r1 then
 bindO (f1 x0.Slots 1 x0.Nodes) fun r2=>
 bif r2 then
 bindO (f1 x0.Blocks 1 64) fun r3=>
 bif r3 then
 bindO (f1 x0.Per 1 8) fun r4=>
 bif r4 then
 bindO (f1 x0.Journal (w64 (x0.Per+2)) 64) fun r5=>
 bif r5 then
 bindO (f1 x0.Log (w64 (8*x0.Slots)) 512) fun r6=>
 bif r6 then
 bif decide (1≤x0.Lease) then
 bif decide (x0.Lease<x0.Wait) then
 some (decide (x0.Wait≤1048576))
 else
 some false
 else
 some false
 else
 some false
 else
 some false
 else
 some false
 else
 some false
 else
 some false
 else
 some false
theorem yW3(f1):yBl.Eq [yDe.s f1] .no (yQh f1):=fun _=>by kernel_rfl
def yCT(L:Nat):yBl.T:=yQh (yI5 L)
theorem yHx(L:Nat):yBl.C (yCT L):=yBl.c (yW3 (yI5 L)) (tC (yPy L).ent tN) Tryz.func10 (by kernel_rfl) (lN _)
abbrev yIQ:=fw3 105 (caC yCS (caC cI (caC cI caN))) cI
abbrev yPW(f1:yBl.T)(f2:yDe.T)(x0:yAN)(x1:Int)(x2:Int):Option Int:=
 bindO (f1 x0) fun r1=>
 bif !r1 then
 some (-1)
 else
 bindO (f2 x1 0 (w64 (x0.Blocks-1))) fun r2=>
 bif !r2 then
 some (-1)
 else
 bindO (f2 x2 0 (w64 (x0.Per-1))) fun r3=>
 bif !r3 then
 some (-1)
 else
 some (w64 ((w64 ((w64 ((w64 ((w64 (1+(w64 (2*x0.Nodes))))+x0.Log))+(w64 (x0.Slots*(w64 (1+x0.Journal))))))+(w64 (x1*x0.Per))))+x2))
theorem yWG(f1 f2):yIQ.Eq [yBl.s f1,yDe.s f2] .no (yPW f1 f2):=fun _=>by kernel_rfl
def yPx(L:Nat):yIQ.T:=yPW (yCT L) (yI5 L)
theorem yWF(L:Nat):yIQ.C (yPx L):=yIQ.c (yWG (yCT L) (yI5 L)) (tC (yHx L).ent (tC (yPy L).ent tN)) Tryz.func105 (by kernel_rfl) (lN _)
abbrev yCe:=fw1 49 (caC yCS caN) cI
abbrev yN9(f1:yBl.T)(f2:yIQ.T)(x0:yAN):Option Int:=
 bindO (f1 x0) fun r1=>
 bif !r1 then
 some 0
 else
 bindO (f2 x0 (w64 (x0.Blocks-1)) (w64 (x0.Per-1))) fun r2=>
 some (w64 (r2+1))
theorem yVK(f1 f2):yCe.Eq [yBl.s f1,yIQ.s f2] .no (yN9 f1 f2):=fun _=>by kernel_rfl
def yDI(L:Nat):yCe.T:=yN9 (yCT L) (yPx L)
theorem yN8(L:Nat):yCe.C (yDI L):=yCe.c (yVK (yCT L) (yPx L)) (tC (yHx L).ent (tC (yWF L).ent tN)) Tryz.func49 (by kernel_rfl) (lN _)
abbrev yJk:=fw1 36 (caC yCS caN) cdB
abbrev yQa(f1:yBl.T)(f2:yCe.T)(x0:yAN):Option Bool:=
 bindO (f1 x0) fun r1=>
 bif r1 then
 bif decide (x0.Nodes≤4) then
 bif decide (x0.Log≤60) then
 bindO (f2 x0) fun r2=>
 some (decide (r2≤400))
 else
 some false
 else
 some false
 else
 some false
theorem yWq(f1 f2):yJk.Eq [yBl.s f1,yCe.s f2] .no (yQa f1 f2):=fun _=>by kernel_rfl
def yPH(L:Nat):yJk.T:=yQa (yCT L) (yDI L)
theorem yWp(L:Nat):yJk.C (yPH L):=yJk.c (yWq (yCT L) (yDI L)) (tC (yHx L).ent (tC (yN8 L).ent tN)) Tryz.func36 (by kernel_rfl) (lN _)
abbrev yCg:=fw2 85 (caC yBx (caC cI caN)) cdB
abbrev yOd(x0:yAA)(x1:Int):Option Bool:=
 bif decide (16≤x1) then
 bif decide (w64 (x1.tdiv 16)<x0.Next) then
 some (decide (x1.tmod 16<(x0.Keys.length:Int)))
 else
 some false
 else
 some false
theorem yVa:yCg.Eq [] .no (yOd):=fun _=>by kernel_rfl
def yBU(L:Nat):yCg.T:=yOd
theorem yOc(L:Nat):yCg.C (yBU L):=yCg.c (yVa) tN Tryz.func85 (by kernel_rfl) (lN _)
abbrev yGs:=(List (List V))×Int×Int×Int×Unit
abbrev yJ6:=(List (List V))×Int×Int×Unit
abbrev yJ7:=Bool×Unit
abbrev yEd{α:Type}(s:yGs)(kn:yGs→Option α)(k0:yJ6→Option α)(k1:yJ7→Option α):Option α:=
 bif decide (s.2.2.2.1<s.2.2.1) then
 gI s.1 yES.ks s.2.2.2.1<|
 gI s.1 yES.ks s.2.2.1<|
 bif(aI s.1 s.2.2.2.1.toNat 0)==(aI s.1 s.2.2.1.toNat 0) then
 k1 (false,())
 else
 kn (s.1,s.2.1,s.2.2.1,w64 (s.2.2.2.1+1),())
 else
 k0 (s.1,s.2.1,s.2.2.1,())
abbrev yGt:LW2 yGs yJ6 yJ7:=⟨(lvC 0 (mP cdR) (lvC 1 (mP cI) (lvC 5 (mP cI) (lvC 6 (mP cI) lvN)))),(.exit 2),(lvC 0 (mP cdR) (lvC 1 (mP cI) (lvC 5 (mP cI) lvN))),.ret,(lvC 4 (mP cdB) lvN)⟩
theorem yRs{α:Type}:yGt.Eq (α:=α) [] Tryz.f145 [1,0,1,0,0,1,0,0,1,1,0] .no (yEd):=fun _ _ _=>by kernel_rfl
abbrev yGq:=(List (List V))×Int×Int×Unit
abbrev yJ4:=Unit
abbrev yJ5:=Bool×Unit
abbrev yJB{α:Type}(F1:LF2 yGs yJ6 yJ7 α)(s:yGq)(kn:yGq→Option α)(k0:yJ4→Option α)(k1:yJ5→Option α):Option α:=
 letI qa:=s.2.2.1
 bif decide (qa<(s.1.length:Int)) then
 gI s.1 yES.ks qa<|
 bif decide (aI s.1 qa.toNat 0<0) then
 k1 (false,())
 else
 gI s.1 yES.ks qa<|
 bif decide (s.2.1≤aI s.1 qa.toNat 0) then
 k1 (false,())
 else
 gI s.1 yES.ks qa<|
 bif decide (512<((aS s.1 qa.toNat 1).size:Int)) then
 k1 (false,())
 else
 F1 (s.1,s.2.1,qa,0,()) (fun q1=>
 kn (q1.1,q1.2.1,w64 (q1.2.2.1+1),())) (fun q2=>
 k1 (q2.1,()))
 else
 k0 (())
abbrev yGr:LW2 yGq yJ4 yJ5:=⟨(lvC 0 (mP cdR) (lvC 1 (mP cI) (lvC 5 (mP cI) lvN))),(.exit 0),lvN,.ret,(lvC 4 (mP cdB) lvN)⟩
theorem yRr{α:Type}(F1):yGr.Eq (α:=α) [] Tryz.f145 [1,0,1,0] (.two .no (.two (.one (.two .no (.two .no (.one (.lp (yGt.s F1)))))) .no)) (yJB F1):=fun _ _ _=>by kernel_rfl
abbrev yFi:=fw2 145 (caC cdR (caC cI caN)) cdB
abbrev yQN(F0:LF2 yGq yJ4 yJ5 (Bool))(x0:List (List V))(x1:Int):Option Bool:=
 F0 (x0,x1,0,()) (fun q1=>
 some true) (fun q2=>
 some q2.1)
theorem yUg(F0):yFi.Eq [] (.two .no (.two (.two .no (.one (.lp (yGr.s F0)))) .no)) (yQN F0):=fun _=>by kernel_rfl
def yGP(L:Nat):yFi.T:=yQN (loop2 (yJB (loop2 (yEd) L)) L)
theorem yRM{α:Type}(L:Nat):LO Tryz.f145 [1,0,1,0,0,1,0,0,1,1,0] (yGt.s (α:=α) (loop2 (yEd) L)):=yGt.k (yRs) tN (lN _) (by kernel_rfl) L
theorem yRL{α:Type}(L:Nat):LO Tryz.f145 [1,0,1,0] (yGr.s (α:=α) (loop2 (yJB (loop2 (yEd) L)) L)):=yGr.k (yRr (loop2 (yEd) L)) tN (lS (lN _) (lS (lB (lS (lN _) (lS (lN _) (lB (lL (yRM L)))))) (lN _))) (by kernel_rfl) L
theorem yUf(L:Nat):yFi.C (yGP L):=yFi.c (yUg (loop2 (yJB (loop2 (yEd) L)) L)) tN Tryz.func145 (by kernel_rfl) (lS (lN _) (lS (lS (lN _) (lB (lL (yRL L)))) (lN _)))
end Go.Proofs.YtakljpcmbpaeaaaGreat

namespace Go.Proofs.YtakljpcmbpaeaaaGreat
open Go.RowKit
set_option maxRecDepth 100000
set_option maxHeartbeats 16000000
abbrev yHc:=yAA×Int×Unit
abbrev yLX:=Unit
abbrev yLY:=Int×Unit
abbrev yHK{α:Type}(f1:yCg.T)(s:yHc)(kn:yHc→Option α)(k0:yLX→Option α)(k1:yLY→Option α):Option α:=
 letI qa:=s.2.1
 bif decide (qa<(s.1.Fenced.length:Int)) then
 gI s.1.Fenced kI qa<|
 bindO (f1 s.1 (aI s.1.Fenced qa.toNat 0)) fun r1=>
 bif !r1 then
 k1 (2,())
 else
 bif decide (0<qa) then
 gI s.1.Fenced kI qa<|
 gI s.1.Fenced kI (w64 (qa-1))<|
 bif decide (aI s.1.Fenced qa.toNat 0≤aI s.1.Fenced ((w64 (qa-1)).toNat) 0) then
 k1 (2,())
 else
 kn (s.1,w64 (qa+1),())
 else
 kn (s.1,w64 (qa+1),())
 else
 k0 (())
abbrev yHd:LW2 yHc yLX yLY:=⟨(lvC 1 yAF (lvC 5 (mP cI) lvN)),(.exit 4),lvN,.ret,(lvC 2 (mP cI) lvN)⟩
theorem ySl{α:Type}(f1):yHd.Eq (α:=α) [yCg.s f1] Tryz.f84 [1,1,1,1,0,1,0] .no (yHK f1):=fun _ _ _=>by kernel_rfl
abbrev yHa:=yAA×Int×Unit
abbrev yLV:=yAA×Unit
abbrev yLW:=Int×Unit
abbrev yEI{α:Type}(f1:yFi.T)(f2:yCg.T)(s:yHa)(kn:yHa→Option α)(k0:yLV→Option α)(k1:yLW→Option α):Option α:=
 letI qb:=s.2.1
 letI qa:=aI s.1.Keys qb.toNat 0
 bif decide (qb<(s.1.Keys.length:Int)) then
 gI s.1.Cache kL qb<|
 bindO (f1 (aR s.1.Cache qb.toNat 0) (s.1.S.length:Int)) fun r1=>
 bif !r1 then
 k1 (2,())
 else
 gI s.1.Keys kI qb<|
 bif qa !=0 then
 gI s.1.Keys kI qb<|
 bindO (f2 s.1 qa) fun r2=>
 bif !r2 then
 k1 (2,())
 else
 gI s.1.Keys kI qb<|
 bif(qa.tmod 16) !=qb then
 k1 (2,())
 else
 kn (s.1,w64 (qb+1),())
 else
 kn (s.1,w64 (qb+1),())
 else
 k0 (s.1,())
abbrev yHb:LW2 yHa yLV yLW:=⟨(lvC 1 yAF (lvC 4 (mP cI) lvN)),(.exit 2),(lvC 1 yAF lvN),.ret,(lvC 2 (mP cI) lvN)⟩
theorem ySk{α:Type}(f1 f2):yHb.Eq (α:=α) [yFi.s f1,yCg.s f2] Tryz.f84 [1,1,1,0,1,0] .no (yEI f1 f2):=fun _ _ _=>by kernel_rfl
abbrev yHY:=yAA×Int×Unit
abbrev yLT:=yAA×Unit
abbrev yLU:=Int×Unit
abbrev yEH{α:Type}(s:yHY)(kn:yHY→Option α)(k0:yLT→Option α)(k1:yLU→Option α):Option α:=
 bif decide (s.2.1<(s.1.S.length:Int)) then
 gI s.1.S kS s.2.1<|
 bif decide (512<((aS s.1.S s.2.1.toNat 0).size:Int)) then
 k1 (2,())
 else
 kn (s.1,w64 (s.2.1+1),())
 else
 k0 (s.1,())
abbrev yHZ:LW2 yHY yLT yLU:=⟨(lvC 1 yAF (lvC 3 (mP cI) lvN)),(.exit 0),(lvC 1 yAF lvN),.ret,(lvC 2 (mP cI) lvN)⟩
theorem ySj{α:Type}:yHZ.Eq (α:=α) [] Tryz.f84 [1,1,0,1,0] .no (yEH):=fun _ _ _=>by kernel_rfl
abbrev yCf:=fw1 84 (caC yBx caN) cI
abbrev yOC(F0:LF2 yHY yLT yLU (Int))(F1:LF2 yHa yLV yLW (Int))(F2:LF2 yHc yLX yLY (Int))(x0:yAA):Option Int:=
 bif decide ((x0.S.length:Int)<1) then
 some 2
 else
 bif decide ((x0.Keys.length:Int)<1) then
 some 2
 else
 bif decide (16<(x0.Keys.length:Int)) then
 some 2
 else
 bif(x0.Cache.length:Int) !=(x0.Keys.length:Int) then
 some 2
 else
 bif decide (x0.Next<1) then
 some 2
 else
 bif decide (68719476736<x0.Next) then
 some 2
 else
 F0 (x0,0,()) (fun q1=>
 F1 (q1.1,0,()) (fun q2=>
 F2 (q2.1,0,()) (fun q3=>
 some 0) (fun q4=>
 some q4.1)) (fun q5=>
 some q5.1)) (fun q6=>
 some q6.1)
theorem yVN(F0 F1 F2):yCf.Eq [] (.two .no (.two .no (.two (.two .no (.one (.lp (yHZ.s F0)))) (.two (.two .no (.one (.lp (yHb.s F1)))) (.two (.two .no (.one (.lp (yHd.s F2)))) .no))))) (yOC F0 F1 F2):=fun _=>by kernel_rfl
def yCF(L:Nat):yCf.T:=yOC (loop2 (yEH) L) (loop2 (yEI (yGP L) (yBU L)) L) (loop2 (yHK (yBU L)) L)
theorem yRo{α:Type}(L:Nat):LO Tryz.f84 [1,1,1,1,0,1,0] (yHd.s (α:=α) (loop2 (yHK (yBU L)) L)):=yHd.k (ySl (yBU L)) (tC (yOc L).ent tN) (lN _) (by kernel_rfl) L
theorem yRn{α:Type}(L:Nat):LO Tryz.f84 [1,1,1,0,1,0] (yHb.s (α:=α) (loop2 (yEI (yGP L) (yBU L)) L)):=yHb.k (ySk (yGP L) (yBU L)) (tC (yUf L).ent (tC (yOc L).ent tN)) (lN _) (by kernel_rfl) L
theorem yRm{α:Type}(L:Nat):LO Tryz.f84 [1,1,0,1,0] (yHZ.s (α:=α) (loop2 (yEH) L)):=yHZ.k (ySj) tN (lN _) (by kernel_rfl) L
theorem yOB(L:Nat):yCf.C (yCF L):=yCf.c (yVN (loop2 (yEH) L) (loop2 (yEI (yGP L) (yBU L)) L) (loop2 (yHK (yBU L)) L)) tN Tryz.func84 (by kernel_rfl) (lS (lN _) (lS (lN _) (lS (lS (lN _) (lB (lL (yRm L)))) (lS (lS (lN _) (lB (lL (yRn L)))) (lS (lS (lN _) (lB (lL (yRo L)))) (lN _))))))
abbrev yGo:=(List (List V))×yAA×Int×Int×Unit
abbrev yJ1:=(List (List V))×yAA×Int×Unit
abbrev yJ2:=Bool×Unit
abbrev yCn{α:Type}(s:yGo)(kn:yGo→Option α)(k0:yJ1→Option α)(k1:yJ2→Option α):Option α:=
 bif decide (s.2.2.2.1<(s.2.1.Fenced.length:Int)) then
 gI s.2.1.Fenced kI s.2.2.2.1<|
 gI s.1 kI s.2.2.1<|
 bif(aI s.2.1.Fenced s.2.2.2.1.toNat 0)==(aI s.1 s.2.2.1.toNat 0) then
 k1 (true,())
 else
 kn (s.1,s.2.1,s.2.2.1,w64 (s.2.2.2.1+1),())
 else
 k0 (s.1,s.2.1,s.2.2.1,())
abbrev yGp:LW2 yGo yJ1 yJ2:=⟨(lvC 1 (mP cdR) (lvC 2 yAF (lvC 5 (mP cI) (lvC 6 (mP cI) lvN)))),(.exit 2),(lvC 1 (mP cdR) (lvC 2 yAF (lvC 5 (mP cI) lvN))),.ret,(lvC 4 (mP cdB) lvN)⟩
theorem yRq{α:Type}:yGp.Eq (α:=α) [] Tryz.f86 [1,0,1,0,0,1,0,0,1,1,0] .no (yCn):=fun _ _ _=>by kernel_rfl
abbrev yGm:=(List (List V))×yAA×Int×Unit
abbrev yJz:=Unit
abbrev yJ0:=Bool×Unit
abbrev yEb{α:Type}(F1:LF2 yGo yJ1 yJ2 α)(s:yGm)(kn:yGm→Option α)(k0:yJz→Option α)(k1:yJ0→Option α):Option α:=
 bif decide (s.2.2.1<(s.1.length:Int)) then
 gI s.1 kI s.2.2.1<|
 bif decide (aI s.1 s.2.2.1.toNat 0<1) then
 k1 (true,())
 else
 F1 (s.1,s.2.1,s.2.2.1,0,()) (fun q1=>
 kn (q1.1,q1.2.1,w64 (q1.2.2.1+1),())) (fun q2=>
 k1 (q2.1,()))
 else
 k0 (())
abbrev yGn:LW2 yGm yJz yJ0:=⟨(lvC 1 (mP cdR) (lvC 2 yAF (lvC 5 (mP cI) lvN))),(.exit 0),lvN,.ret,(lvC 4 (mP cdB) lvN)⟩
theorem yRp{α:Type}(F1):yGn.Eq (α:=α) [] Tryz.f86 [1,0,1,0] (.two .no (.two (.one (.two .no (.two .no (.one (.lp (yGp.s F1)))))) .no)) (yEb F1):=fun _ _ _=>by kernel_rfl
abbrev yFh:=fw2 86 (caC yBx (caC cdR caN)) cdB
abbrev yQM(F0:LF2 yGm yJz yJ0 (Bool))(x0:yAA)(x1:List (List V)):Option Bool:=
 F0 (x1,x0,0,()) (fun q1=>
 some false) (fun q2=>
 some q2.1)
theorem yUe(F0):yFh.Eq [] (.two .no (.two (.two .no (.one (.lp (yGn.s F0)))) .no)) (yQM F0):=fun _=>by kernel_rfl
def yGO(L:Nat):yFh.T:=yQM (loop2 (yEb (loop2 (yCn) L)) L)
theorem yRK{α:Type}(L:Nat):LO Tryz.f86 [1,0,1,0,0,1,0,0,1,1,0] (yGp.s (α:=α) (loop2 (yCn) L)):=yGp.k (yRq) tN (lN _) (by kernel_rfl) L
theorem yRJ{α:Type}(L:Nat):LO Tryz.f86 [1,0,1,0] (yGn.s (α:=α) (loop2 (yEb (loop2 (yCn) L)) L)):=yGn.k (yRp (loop2 (yCn) L)) tN (lS (lN _) (lS (lB (lS (lN _) (lS (lN _) (lB (lL (yRK L)))))) (lN _))) (by kernel_rfl) L
theorem yUd(L:Nat):yFh.C (yGO L):=yFh.c (yUe (loop2 (yEb (loop2 (yCn) L)) L)) tN Tryz.func86 (by kernel_rfl) (lS (lN _) (lS (lS (lN _) (lB (lL (yRJ L)))) (lN _)))
end Go.Proofs.YtakljpcmbpaeaaaGreat

namespace Go.Proofs.YtakljpcmbpaeaaaGreat
open Go.RowKit
set_option maxRecDepth 100000
set_option maxHeartbeats 16000000
abbrev yGu:=yAA×yAA×((List (List V))×(List (List V))×(List (List V))×Int×(List (List V))×Unit)×Int×Unit
abbrev yJ8:=yAA×((List (List V))×(List (List V))×(List (List V))×Int×(List (List V))×Unit)×Unit
abbrev yDK{α:Type}(s:yGu)(kn:yGu→Option α)(k0:yJ8→Option α):Option α:=
 letI qg:=s.2.2.1.1
 letI qf:=s.2.2.2.1
 letI qd:=s.2.2.1.2.2.1
 letI qc:=s.2.2.1.2.2.2.2.1
 letI qb:=s.2.2.1.2.1
 letI qa:=0+((aR s.1.Cache qf.toNat 0).length)
 letI qe:=qb++([[V.bs 16 0 qa qa]])
 bif decide (qf<(s.1.Cache.length:Int)) then
 gI s.1.Cache kL qf<|
 gd ((aR s.1.Cache qf.toNat 0).all fun r=>Nat.beq r.length 2)<|
 gM qa 24<|
 gd (Nat.beq (0+qb.length) qb.length)<|
 gM (qb.length+1) 24<|
 gW qg qg.length<|
 gd (Nat.beq (qb.length+1) (qe.length))<|
 gd (frzOk [(16,aR s.1.Cache qf.toNat 0)] qe)<|
 gW qd qd.length<|
 gW qc qc.length<|
 kn (s.1,s.2.1,(qg,frzR [(16,aR s.1.Cache qf.toNat 0)] qe,qd,s.2.2.1.2.2.2.1,qc,()),w64 (qf+1),())
 else
 gW qg qg.length<|
 gW qb qb.length<|
 gW qd qd.length<|
 gW qc qc.length<|
 k0 (s.2.1,(qg,qb,qd,s.2.2.1.2.2.2.1,qc,()),())
abbrev yGv:LW1 yGu yJ8:=⟨(lvC 1 yAF (lvC 2 yAF (lvC 3 (mO (zW 1 (zF 1 [16] (zW 1 (zP cI (zW 1 zN))))) 5) (lvC 4 (mP cI) lvN)))),(.exit 0),(lvC 2 yAF (lvC 3 (mO (zW 1 (zW 1 (zW 1 (zP cI (zW 1 zN))))) 5) lvN))⟩
theorem yRt{α:Type}:yGv.Eq (α:=α) [] Tryz.f87 [1,1,0,1,0] .no (yDK):=fun _ _ _=>by kernel_rfl
abbrev yFj:=rw1 87 .a (caC yBx caN) (zW 1 (zW 1 (zW 1 (zP cI (zW 1 zN)))))
abbrev yNM(F0:LF1 yGu yJ8 ((List (List V))×(List (List V))×(List (List V))×Int×(List (List V))×Unit))(x0:yAA):Option ((List (List V))×(List (List V))×(List (List V))×Int×(List (List V))×Unit):=
 gd (x0.S.all fun r=>Nat.beq r.length 1)<|
 gM (0+x0.S.length) 16<|
 gd (x0.Keys.all fun r=>Nat.beq r.length 1)<|
 gM (0+x0.Keys.length) 8<|
 gd (x0.Fenced.all fun r=>Nat.beq r.length 1)<|
 gM (0+x0.Fenced.length) 8<|
 gW x0.S (0+x0.S.length)<|
 gW x0.Keys (0+x0.Keys.length)<|
 gW x0.Fenced (0+x0.Fenced.length)<|
 F0 (x0,yAA.z,(x0.S,[],x0.Keys,x0.Next,x0.Fenced,()),0,()) (fun q1=>
 letI qa:=q1.2.1.2.2.2.2.1
 gW q1.2.1.1 q1.2.1.1.length<|
 gW q1.2.1.2.1 q1.2.1.2.1.length<|
 gW q1.2.1.2.2.1 q1.2.1.2.2.1.length<|
 gW qa qa.length<|
 some (q1.2.1.1,q1.2.1.2.1,q1.2.1.2.2.1,q1.2.1.2.2.2.1,qa,()))
theorem yUi(F0):yFj.Eq [] (.two .no (.two .no (.two (.two .no (.one (.lp (yGv.s F0)))) .no))) (yNM F0):=fun _=>by kernel_rfl
def yE6(L:Nat):yFj.T:=yNM (loop1 (yDK) L)
theorem yRN{α:Type}(L:Nat):LO Tryz.f87 [1,1,0,1,0] (yGv.s (α:=α) (loop1 (yDK) L)):=yGv.k (yRt) tN (lN _) (by kernel_rfl) L
theorem yUh(L:Nat):yFj.C (yE6 L):=yFj.c (yUi (loop1 (yDK) L)) tN Tryz.func87 (by kernel_rfl) (lS (lN _) (lS (lN _) (lS (lS (lN _) (lB (lL (yRN L)))) (lN _))))
abbrev yHg:=(List (List V))×Int×Int×Unit
abbrev yLa:=Unit
abbrev yLb:=Int×Unit
abbrev yKq{α:Type}(s:yHg)(kn:yHg→Option α)(k0:yLa→Option α)(k1:yLb→Option α):Option α:=
 bif decide (s.2.2.1<(s.1.length:Int)) then
 gI s.1 yES.ks s.2.2.1<|
 bif(aI s.1 s.2.2.1.toNat 0)==s.2.1 then
 k1 (s.2.2.1,())
 else
 kn (s.1,s.2.1,w64 (s.2.2.1+1),())
 else
 k0 (())
abbrev yHh:LW2 yHg yLa yLb:=⟨(lvC 0 (mP cdR) (lvC 1 (mP cI) (lvC 5 (mP cI) lvN))),(.exit 0),lvN,.ret,(lvC 4 (mP cI) lvN)⟩
theorem ySp{α:Type}:yHh.Eq (α:=α) [] Tryz.f88 [1,0,1,0] .no (yKq):=fun _ _ _=>by kernel_rfl
abbrev yGx:=fw2 88 (caC cdR (caC cI caN)) cI
abbrev yRP(F0:LF2 yHg yLa yLb (Int))(x0:List (List V))(x1:Int):Option Int:=
 F0 (x0,x1,0,()) (fun q1=>
 some (-1)) (fun q2=>
 some q2.1)
theorem yVc(F0):yGx.Eq [] (.two .no (.two (.two .no (.one (.lp (yHh.s F0)))) .no)) (yRP F0):=fun _=>by kernel_rfl
def yH4(L:Nat):yGx.T:=yRP (loop2 (yKq) L)
theorem yRv{α:Type}(L:Nat):LO Tryz.f88 [1,0,1,0] (yHh.s (α:=α) (loop2 (yKq) L)):=yHh.k (ySp) tN (lN _) (by kernel_rfl) L
theorem yVb(L:Nat):yGx.C (yH4 L):=yGx.c (yVc (loop2 (yKq) L)) tN Tryz.func88 (by kernel_rfl) (lS (lN _) (lS (lS (lN _) (lB (lL (yRv L)))) (lN _)))
abbrev yEe:=fw2 89 (caC cdR (caC cI caN)) cdR
abbrev yPb(x0:List (List V))(x1:Int):Option (List (List V)):=
 letI qb:=x0.take x1.toNat
 letI qd:=0+(qb.length)
 letI qa:=(x0.drop ((w64 (x1+1)).toNat)).take (x0.length-((w64 (x1+1)).toNat))
 letI qc:=qd+(qa.length)
 gd (decide (0≤x1))<|
 gd (decide (x1≤(x0.length:Int)))<|
 gd (x0.all fun r=>Nat.beq r.length 2)<|
 gd (qb.all fun r=>Nat.beq r.length 2)<|
 gM qd 24<|
 gd (decide (0≤w64 (x1+1)))<|
 gd (decide (w64 (x1+1)≤(x0.length:Int)))<|
 gd (x0.all fun r=>Nat.beq r.length 2)<|
 gd (qa.all fun r=>Nat.beq r.length 2)<|
 gd (Nat.beq (0+qd) (qb.length))<|
 gM qc 24<|
 gF (qb++qa) (0+qc)<|
 some ((qb++qa).take qc)
theorem yTn:yEe.Eq [] .no (yPb):=fun _=>by kernel_rfl
def yOe(L:Nat):yEe.T:=yPb
theorem yTm(L:Nat):yEe.C (yOe L):=yEe.c (yTn) tN Tryz.func89 (by kernel_rfl) (lN _)
abbrev yHe:=(List (List V))×Int×(List (List V))×Bool×Int×Unit
abbrev yLZ:=Int×(List (List V))×Bool×Unit
abbrev yKp{α:Type}(s:yHe)(kn:yHe→Option α)(k0:yLZ→Option α):Option α:=
 letI qg:=s.2.1
 letI qe:=s.2.2.1
 letI qf:=qe++([[V.int .i64 qg]])
 letI qd:=s.2.2.2.2.1
 letI qc:=Nat.beq (0+qe.length) qe.length
 letI qb:=qe.length+1
 letI qa:= [[V.int .i64 (aI s.1 qd.toNat 0)]]
 bif decide (qd<(s.1.length:Int)) then
 gI s.1 kI qd<|
 bif(aI s.1 qd.toNat 0)==qg then
 gI s.1 kI qd<|
 bif decide (qg<aI s.1 qd.toNat 0) then
 gI s.1 kI qd<|
 gd qc<|
 gM qb 8<|
 gA (qe++qa) qb<|
 kn (s.1,qg,qe++qa,true,w64 (qd+1),())
 else
 gI s.1 kI qd<|
 gd qc<|
 gM qb 8<|
 gA (qe++qa) qb<|
 kn (s.1,qg,qe++qa,true,w64 (qd+1),())
 else
 gI s.1 kI qd<|
 bif decide (qg<aI s.1 qd.toNat 0) then
 bif !s.2.2.2.1 then
 gd qc<|
 gM qb 8<|
 gI s.1 kI qd<|
 gd (Nat.beq (0+qb) (qf.length))<|
 gM (qb+1) 8<|
 gA (qf++qa) (qb+1)<|
 kn (s.1,qg,qf++qa,true,w64 (qd+1),())
 else
 gI s.1 kI qd<|
 gd qc<|
 gM qb 8<|
 gA (qe++qa) qb<|
 kn (s.1,qg,qe++qa,s.2.2.2.1,w64 (qd+1),())
 else
 gI s.1 kI qd<|
 gd qc<|
 gM qb 8<|
 gA (qe++qa) qb<|
 kn (s.1,qg,qe++qa,s.2.2.2.1,w64 (qd+1),())
 else
 gA qe qe.length<|
 k0 (qg,qe,s.2.2.2.1,())
abbrev yHf:LW1 yHe yLZ:=⟨(lvC 0 (mP cdR) (lvC 1 (mP cI) (lvC 5 (mA 1) (lvC 6 (mP cdB) (lvC 7 (mP cI) lvN))))),(.exit 0),(lvC 1 (mP cI) (lvC 5 (mA 1) (lvC 6 (mP cdB) lvN)))⟩
theorem ySo{α:Type}:yHf.Eq (α:=α) [] Tryz.f90 [1,1,1,0,1,0] .no (yKp):=fun _ _ _=>by kernel_rfl
abbrev yGw:=fw2 90 (caC cdR (caC cI caN)) cdR
abbrev yRO(F0:LF1 yHe yLZ (List (List V)))(x0:List (List V))(x1:Int):Option (List (List V)):=
 F0 (x0,x1,[],false,0,()) (fun q1=>
 bif !q1.2.2.1 then
 gd (Nat.beq (0+q1.2.1.length) q1.2.1.length)<|
 gM (q1.2.1.length+1) 8<|
 gF (q1.2.1++([[V.int .i64 q1.1]])) (0+(q1.2.1.length+1))<|
 some ((q1.2.1++([[V.int .i64 q1.1]])).take (q1.2.1.length+1))
 else
 gF q1.2.1 (0+q1.2.1.length)<|
 some (q1.2.1.take q1.2.1.length))
theorem yVZ(F0):yGw.Eq [] (.two .no (.two .no (.two .no (.two (.two .no (.one (.lp (yHf.s F0)))) .no)))) (yRO F0):=fun _=>by kernel_rfl
def yQl(L:Nat):yGw.T:=yRO (loop1 (yKp) L)
theorem yRu{α:Type}(L:Nat):LO Tryz.f90 [1,1,1,0,1,0] (yHf.s (α:=α) (loop1 (yKp) L)):=yHf.k (ySo) tN (lN _) (by kernel_rfl) L
theorem yVY(L:Nat):yGw.C (yQl L):=yGw.c (yVZ (loop1 (yKp) L)) tN Tryz.func90 (by kernel_rfl) (lS (lN _) (lS (lN _) (lS (lN _) (lS (lS (lN _) (lB (lL (yRu L)))) (lN _)))))
end Go.Proofs.YtakljpcmbpaeaaaGreat

namespace Go.Proofs.YtakljpcmbpaeaaaGreat
open Go.RowKit
set_option maxRecDepth 100000
set_option maxHeartbeats 16000000
abbrev yIx:=Int×Int×Int×Unit
abbrev yMQ:=Int×Unit
abbrev yFK{α:Type}(s:yIx)(kn:yIx→Option α)(k0:yMQ→Option α):Option α:=
 bif decide (s.2.2.1<s.1) then
 kn (s.1,w64 (s.2.1*256),w64 (s.2.2.1+1),())
 else
 k0 (s.2.1,())
abbrev yIy:LW1 yIx yMQ:=⟨(lvC 0 (mP cI) (lvC 3 (mP cI) (lvC 4 (mP cI) lvN))),(.exit 0),(lvC 3 (mP cI) lvN)⟩
theorem yTe{α:Type}:yIy.Eq (α:=α) [] Tryz.f146 [1,1,1,0,1,0] .no (yFK):=fun _ _ _=>by kernel_rfl
abbrev yCQ:=fw1 146 (caC cI caN) cI
abbrev yPP(F0:LF1 yIx yMQ (Int))(x0:Int):Option Int:=
 bif decide (x0<1) then
 some (-1)
 else
 bif decide (6<x0) then
 some (-1)
 else
 F0 (x0,1,0,()) (fun q1=>
 some (minI false (w64 (q1.1-1)) 1099511627776))
theorem yV6(F0):yCQ.Eq [] (.two .no (.two .no (.two .no (.two (.two .no (.one (.lp (yIy.s F0)))) .no)))) (yPP F0):=fun _=>by kernel_rfl
def yEa(L:Nat):yCQ.T:=yPP (loop1 (yFK) L)
theorem ySf{α:Type}(L:Nat):LO Tryz.f146 [1,1,1,0,1,0] (yIy.s (α:=α) (loop1 (yFK) L)):=yIy.k (yTe) tN (lN _) (by kernel_rfl) L
theorem yMz(L:Nat):yCQ.C (yEa L):=yCQ.c (yV6 (loop1 (yFK) L)) tN Tryz.func146 (by kernel_rfl) (lS (lN _) (lS (lN _) (lS (lN _) (lS (lS (lN _) (lB (lL (ySf L)))) (lN _)))))
abbrev yIK:=fw2 147 (caC cI (caC cI caN)) cdB
abbrev yPN(f1:yCQ.T)(x0:Int)(x1:Int):Option Bool:=
 bif decide (0≤x0) then
 bindO (f1 x1) fun r1=>
 some (decide (x0≤r1))
 else
 some false
theorem yV3(f1):yIK.Eq [yCQ.s f1] .no (yPN f1):=fun _=>by kernel_rfl
def yIJ(L:Nat):yIK.T:=yPN (yEa L)
theorem yV2(L:Nat):yIK.C (yIJ L):=yIK.c (yV3 (yEa L)) (tC (yMz L).ent tN) Tryz.func147 (by kernel_rfl) (lN _)
abbrev yKj:=Int×(List (List V))×(List (List V))×Int×Int×Int×Unit
abbrev yKi:=Int×(List (List V))×(List (List V))×Int×Unit
abbrev yCm{α:Type}(s:yKj)(kn:yKj→Option α)(k0:yKi→Option α):Option α:=
 letI qb:=s.2.2.1
 letI qa:= [[V.int .u8 (IntKind.u8.wrap (s.2.2.2.2.1.tmod 256))]]
 bif decide (s.2.2.2.2.2.1<s.1) then
 gd (Nat.beq (0+qb.length) qb.length)<|
 gM (qb.length+1) 1<|
 gW (qb++qa) (qb.length+1)<|
 kn (s.1,s.2.1,qb++qa,s.2.2.2.1,w64 (s.2.2.2.2.1.tdiv 256),w64 (s.2.2.2.2.2.1+1),())
 else
 gW qb qb.length<|
 k0 (s.1,s.2.1,qb,s.2.2.2.1,())
abbrev yKk:LW1 yKj yKi:=⟨(lvC 1 (mP cI) (lvC 2 (mP cdR) (lvC 8 (mW 1) (lvC 9 (mP cI) (lvC 10 (mP cI) (lvC 11 (mP cI) lvN)))))),(.exit 2),(lvC 1 (mP cI) (lvC 2 (mP cdR) (lvC 8 (mW 1) (lvC 9 (mP cI) lvN))))⟩
theorem yUO{α:Type}:yKk.Eq (α:=α) [] Tryz.f91 [1,1,1,1,0,1,0,0,1,0,0,1,1,1,0] .no (yCm):=fun _ _ _=>by kernel_rfl
abbrev yKg:=Int×(List (List V))×(List (List V))×Int×Unit
abbrev yNG:=(List (List V))×Unit
abbrev yNH:=(List (List V))×Int×Unit
abbrev yE3{α:Type}(f1:yIK.T)(F1:LF1 yKj yKi α)(s:yKg)(kn:yKg→Option α)(k0:yNG→Option α)(k1:yNH→Option α):Option α:=
 letI qa:=s.2.2.2.1
 bif decide (qa<(s.2.1.length:Int)) then
 gI s.2.1 kI qa<|
 bindO (f1 (aI s.2.1 qa.toNat 0) s.1) fun r1=>
 bif !r1 then
 k1 ([],2,())
 else
 gI s.2.1 kI qa<|
 gW s.2.2.1 s.2.2.1.length<|
 F1 (s.1,s.2.1,s.2.2.1,qa,aI s.2.1 qa.toNat 0,0,()) (fun q2=>
 gW q2.2.2.1 q2.2.2.1.length<|
 kn (q2.1,q2.2.1,q2.2.2.1,w64 (q2.2.2.2.1+1),()))
 else
 gW s.2.2.1 s.2.2.1.length<|
 k0 (s.2.2.1,())
abbrev yKh:LW2 yKg yNG yNH:=⟨(lvC 1 (mP cI) (lvC 2 (mP cdR) (lvC 8 (mW 1) (lvC 9 (mP cI) lvN)))),(.exit 0),(lvC 8 (mW 1) lvN),.ret,(lvC 6 (mW 1) (lvC 7 (mP cI) lvN))⟩
theorem yUN{α:Type}(f1 F1):yKh.Eq (α:=α) [yIK.s f1] Tryz.f91 [1,1,1,1,0,1,0] (.two .no (.two (.one (.two .no (.two .no (.two .no (.one (.lp (yKk.s F1))))))) .no)) (yE3 f1 F1):=fun _ _ _=>by kernel_rfl
abbrev yCt:=rw3 91 .t (caC cdR (caC cI (caC cdR caN))) (zW 1 (zP cI zN))
abbrev yQd(f1:yCQ.T)(F0:LF2 yKg yNG yNH ((List (List V))×Int×Unit))(x0:List (List V))(x1:Int)(x2:List (List V)):Option ((List (List V))×Int×Unit):=
 bindO (f1 x1) fun r1=>
 bif decide (r1<0) then
 some ([],2,())
 else
 gd (x0.all fun r=>Nat.beq r.length 1)<|
 gM (0+x0.length) 1<|
 gW x0 (0+x0.length)<|
 F0 (x1,x2,x0,0,()) (fun q2=>
 gW q2.1 q2.1.length<|
 some (q2.1,0,())) (fun q3=>
 gW q3.1 q3.1.length<|
 some (q3.1,q3.2.1,()))
theorem yWv(f1 F0):yCt.Eq [yCQ.s f1] (.two .no (.two .no (.two .no (.two .no (.two (.two .no (.one (.lp (yKh.s F0)))) .no))))) (yQd f1 F0):=fun _=>by kernel_rfl
def yCA(L:Nat):yCt.T:=yQd (yEa L) (loop2 (yE3 (yIJ L) (loop1 (yCm) L)) L)
theorem yTa{α:Type}(L:Nat):LO Tryz.f91 [1,1,1,1,0,1,0,0,1,0,0,1,1,1,0] (yKk.s (α:=α) (loop1 (yCm) L)):=yKk.k (yUO) tN (lN _) (by kernel_rfl) L
theorem yTZ{α:Type}(L:Nat):LO Tryz.f91 [1,1,1,1,0,1,0] (yKh.s (α:=α) (loop2 (yE3 (yIJ L) (loop1 (yCm) L)) L)):=yKh.k (yUN (yIJ L) (loop1 (yCm) L)) (tC (yV2 L).ent tN) (lS (lN _) (lS (lB (lS (lN _) (lS (lN _) (lS (lN _) (lB (lL (yTa L))))))) (lN _))) (by kernel_rfl) L
theorem yN7(L:Nat):yCt.C (yCA L):=yCt.c (yWv (yEa L) (loop2 (yE3 (yIJ L) (loop1 (yCm) L)) L)) (tC (yMz L).ent tN) Tryz.func91 (by kernel_rfl) (lS (lN _) (lS (lN _) (lS (lN _) (lS (lN _) (lS (lS (lN _) (lB (lL (yTZ L)))) (lN _))))))
end Go.Proofs.YtakljpcmbpaeaaaGreat
