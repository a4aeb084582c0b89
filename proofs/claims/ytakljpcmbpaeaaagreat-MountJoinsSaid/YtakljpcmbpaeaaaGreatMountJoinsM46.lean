/- Devices of any nodes' keys, whose caches are empty: breakwaterref06.Do: a registering. -/
import Derived.Test.YtakljpcmbpaeaaaGreatMountJoinsM45
import Derived.Test.YtakljpcmbpaeaaaGreatMountJoinsM43
import Derived.Test.YtakljpcmbpaeaaaGreatMountJoinsM44
import Derived.Test.YtakljpcmbpaeaaaGreatMountJoinsM42
import Derived.Test.YtakljpcmbpaeaaaGreatMountJoinsM23
import Derived.Test.YtakljpcmbpaeaaaGreatMountJoinsM02
set_option linter.unusedSimpArgs false
set_option linter.unusedVariables false
namespace Go.Proofs.YtakljpcmbpaeaaaGreat
open Go.RowKit
section
variable {s:List ByteArray} {c:List (List V)} {ks:List Int} {nx:Int} {N L:Nat}
theorem xMc(hs:SecOk s)(hc:CE c N)(hk:KeysOk ks N nx)(h1:1<=N)(h2:N<=16)(hL:200000<L){j:Nat}(hj:j<N)(hx:nx<68719476736):yFZ L (dvK s c ks nx) j ⟨6,0,noS,0⟩=some (dvK s ((cE N).set j [V.sl [] true]) (ks.set j (16*nx+j)) (nx+1),mkS (leBytes 6 (16*nx+j).toNat),0,()):=by
 have hm:=hs.m
 have hcl:=(yL9 N).1
 have hj16:j<16:=by omega
 have hn0:=hk.n0
 have hjl:j<ks.length:=by rw[hk.len];exact hj
 unfold yFZ yO3
 rw[xOE hs hc hk h1 h2 hL (by omega) (by omega) (by dsimp only;omega) (by dsimp only;omega)]
 rw[show ∀(α:Type) x ka kb,yIh (α:=α) ((j:Int),x,(⟨6,0,noS,0⟩:yAp),yAC.z,false,()) ka kb=ka ((j:Int),x,⟨6,0,noS,0⟩,yAC.z,()) from fun _ _ _ _=>rfl]
 rw[show ∀(α:Type) x ka,yIi (α:=α) ((j:Int),x,(⟨6,0,noS,0⟩:yAp),yAC.z,()) ka=ka ((j:Int),x,⟨6,0,noS,0⟩,yAC.z,false,()) from fun _ _ _=>rfl]
 have p3:∀(α:Type) (ka:_->Option α),yFa (yBl L) ((j:Int),dvK s c ks nx,(⟨6,0,noS,0⟩:yAp),yAC.z,false,()) ka=ka ((j:Int),dvK s c ks nx,⟨6,0,noS,0⟩,yAC.z,false,false,()):=fun α ka=>by
  unfold yFa
  dsimp only
  rw[cond_false,yAJ (by rfl),yAT (by rfl),show(dvK s c ks nx).Next=nx from rfl,decide_eq_false (by omega:¬68719476736<=nx)]
 rw[p3]
 rw[show ∀(α:Type) x ka kb,yIj (α:=α) ((j:Int),x,(⟨6,0,noS,0⟩:yAp),yAC.z,false,false,()) ka kb=ka ((j:Int),x,⟨6,0,noS,0⟩,yAC.z,false,()) from fun _ _ _ _=>rfl]
 rw[show ∀(α:Type) f x ka kb,yIk (α:=α) f ((j:Int),x,(⟨6,0,noS,0⟩:yAp),yAC.z,false,()) ka kb=ka ((j:Int),x,⟨6,0,noS,0⟩,yAC.z,false,()) from fun _ _ _ _ _=>rfl]
 rw[show ∀(α:Type) x ka,yFb (α:=α) ((j:Int),x,(⟨6,0,noS,0⟩:yAp),yAC.z,false,()) ka=ka ((j:Int),x,⟨6,0,noS,0⟩,yAC.z,false,()) from fun _ _ _=>rfl]
 rw[show ∀(α:Type) x ka kb,yIl (α:=α) ((j:Int),x,(⟨6,0,noS,0⟩:yAp),yAC.z,false,()) ka kb=ka ((j:Int),x,⟨6,0,noS,0⟩,yAC.z,()) from fun _ _ _ _=>rfl]
 rw[xOF hs hc hk h1 h2 hL]
 dsimp only
 have hgk:(ks.map inV).getD j []=inV ks[j]:=yDN (yGO hjl)
 have hgc:(cE N).getD j []= [V.sl [] false]:=yDN (by unfold cE;rw[List.getElem?_replicate,if_pos hj])
 have ek:(ks.map inV).set j (((ks.map inV).getD j []).take 0++([V.int .i64 (16*nx+j)]++((ks.map inV).getD j []).drop 1))=(ks.set j (16*nx+j)).map inV:=by
  rw[hgk,List.map_set];rfl
 have ec:(cE N).set j (((cE N).getD j []).take 0++([V.sl [] true]++((cE N).getD j []).drop 1))=(cE N).set j [V.sl [] true]:=by rw[hgc];rfl
 have ew:w64 (w64 (16*nx)+(j:Int))=16*nx+j:=by
  rw[yAY (n:=16*nx) (by omega) (by omega),yAY (by omega) (by omega)]
 have hce:=xNF N j
 have hP:=yRI (L:=L) (by omega) (w:=6) (wi:=6) (n:=16*nx+j) (b:= []) rfl (by omega) (by omega) (by omega) (by rw[yPU];omega) (by simp)
 have hP:yCX L [] 6 [[V.int .i64 (16*nx+j)]]=some ((leBytes 6 (16*nx+j).toNat).map byV,0,()):=hP
 have hkl2:((ks.set j (16*nx+j)).map inV).length=N:=by rw[List.length_map,List.length_set];exact hk.len
 rw[hcl,yW9 (by omega) (by omega),Nat.zero_add,Int.toNat_natCast,yYv (by rw[hcl];exact hj) (by obtain⟨b,hb⟩:=(yL9 N).at_ hj;rw[yIa hb];rfl),yHo rfl (yNw _),yHo hcl.symm (yL9 N).nm,yHo rfl (yKI _),(yL9 N).aR hj,xOG hs hc hk h1 h2 hL]
 dsimp only
 rw[yAJ (by rfl),yAJ (by rfl),yAJ (by rfl),yAJ (by rfl),yAJ (by rfl),yAT (by rfl),hk.lenV,yW9 (by omega) (by omega),Nat.zero_add,Int.toNat_natCast,yCM (decide_eq_true hj),yCM (by rfl),yCM (by rw[hgk];rfl),hcl,yW9 (by omega) (by omega),yCM (decide_eq_true hj),yCM (by rfl),yCM (by rw[hgc];rfl),yW9 (by omega) (by omega),ew,ek,ec,
  yYv (by rw[hkl2];exact hj) (by rw[yIa (yGO (by rw[List.length_set];exact hjl))];rfl),yUr (by rw[List.length_set];exact hjl),List.getElem_set_self,hP,yAB]
 dsimp only
 rw[yCM (Nat.ble_eq_true_of_le (by omega)),List.take_length,yCM (yOl _),yHx,Nat.zero_add,ySB (by omega) (by rw[List.length_map];omega) (yNw _),Nat.zero_add,ySB (by rw[hce.1];omega) (by omega) hce.nm,ySB (by rw[hkl2];omega) (by omega) (yKI _)]
 rw[List.take_length,List.take_of_length_le (by rw[hce.1];omega),List.take_of_length_le (by rw[hkl2];omega),yAY (by omega) (by omega)]
 rfl
end
theorem xMr{L:Nat}{x:yAR}(h0:0<=x.Slots)(h16:x.Slots<=16):yRt L x=some (bh6 x []).t:=by
 have e:yL4 false (yL4 true x.Slots 0) 16=x.Slots:=by rw[xA4,xGG];omega
 have nm:yCF (List.replicate x.Slots.toNat [V.int .i64 0,V.int .i64 0])=true:=by
  have:=yUZ (List.replicate x.Slots.toNat (0,0))
  rwa [List.map_replicate] at this
 unfold yRt yTY
 rw[e,yB9 h0,yB9 (Int.le_refl _),yB9 (by omega),yB9 (by omega),ySB (by rw[List.length_replicate];omega) (by omega) nm,List.take_of_length_le (by rw[List.length_replicate];exact Nat.le_refl _)]
 unfold bh6 Tb.t tbl
 dsimp only[List.foldl]
 rw[List.map_replicate]
 rfl
theorem KeysOk.set{ks:List Int}{N:Nat}{nx:Int}(h:KeysOk ks N nx){n:Nat}(hn:n<N)(h16:N<=16)(hx:nx<68719476736):KeysOk (ks.set n (16*nx+n)) N (nx+1):=
 ⟨by rw[List.length_set];exact h.len,by have:=h.n0;omega,by omega,fun i hi=>by
  have h0:=h.n0
  rw[List.getElem_set]
  by_cases e:n=i
  ·rw[if_pos e]
   exact .inr ⟨by omega,by omega,by omega⟩
  ·rw[if_neg e]
   have hi':i<ks.length:=by simpa using hi
   rcases h.ok i hi' with q | ⟨a,b,c⟩
   ·exact .inl q
   ·exact .inr ⟨a,b,by omega⟩⟩
theorem xIu{N:Nat}:KeysOk (List.replicate N 0) N 1:=⟨List.length_replicate,by omega,by omega,fun i hi=> .inl (List.getElem_replicate ..)⟩
theorem xOX{L N:Nat}{s:List ByteArray}(hs:SecOk s)(h1:1<=N)(h2:N<=16)(hL:200000<L):yRV L N (s.map txV)=some (s.map txV,List.replicate N [V.sl [] true],(List.replicate N (0:Int)).map inV,1,[],0,()):=by
 have hm:=hs.m
 have hc:CE (List.replicate N [V.sl [] true]) N:=⟨List.length_replicate ..,fun r hr=>⟨true,List.eq_of_mem_replicate hr⟩⟩
 have ek:List.replicate N [V.int .i64 0]=(List.replicate N (0:Int)).map inV:=by rw[List.map_replicate];rfl
 have hkl:((List.replicate N (0:Int)).map inV).length=N:=by simp
 have hck:=xMb hs hc (xIu (N:=N)) h1 h2 hL
 unfold yRV yS6
 rw[yAJ (decide_eq_false (by omega)),yAJ (decide_eq_false (by omega)),yCM (yYd 1 fun _=>rfl),xCG (by rw[List.length_map];omega) (by rw[List.length_map];omega),Int.toNat_natCast,
  yB9 (by omega),yB9 (by omega),yB9 (by omega),yB9 (by omega),yB9 (by omega),yB9 (by omega),yB9 (by omega),yB9 (by omega),
  ySB (by rw[List.length_map];omega) (by rw[List.length_map];omega) (yNw _),ySB (by rw[hc.1];omega) (by omega) hc.nm,ek,ySB (by rw[hkl];omega) (by omega) (yKI _),
  List.take_of_length_le (by rw[List.length_map];omega),List.take_of_length_le (by rw[hc.1];omega),List.take_of_length_le (by rw[hkl];omega)]
 show(yAA (yCd L (dvK s (List.replicate N [V.sl [] true]) (List.replicate N 0) 1)) _)=_
 rw[hck,yAB,yAJ (by rfl),yHo (by rw[List.length_map];omega) (yNw _),yHo hc.1.symm hc.nm,yHo hkl.symm (yKI _)]
theorem yXt{g:Geo}(h:g.OK)(top hd:ByteArray){k:Nat}(k1:1<=k)(k2:(k:Int)<g.atJ):∀j:Nat,(heads g top hd j).getD k noS=noS
 | 0=>by
   unfold heads
   rw[List.getD_eq_getElem?_getD,List.getElem?_set_ne (by omega),List.getElem?_replicate]
   split <;> rfl
 | j+1=>by
   unfold heads
   have hne:(g.headS j).toNat≠k:=by
    unfold Geo.headS
    split
    ·have:0<=(j:Int)*(1+g.journal):=Int.mul_nonneg (by omega) (by have:=h.j1;have:=h.p1;omega)
     unfold Geo.atJ at*
     omega
    ·omega
   rw[List.getD_eq_getElem?_getD,List.getElem?_set_ne hne,←List.getD_eq_getElem?_getD]
   exact yXt h top hd k1 k2 j
structure First (g:Geo) (s:List ByteArray):Prop where
 ok:SecOk s
 len:(s.length:Int)=g.total
 no:∀k:Nat,1<=k->(k:Int)<g.atJ->s.getD k noS=noS
theorem xCs{g:Geo}(hm:g.may=true)(top hd:ByteArray):∀j:Nat,(j:Int)<=g.slots->(heads g top hd j).getD 0 noS=top
 | 0,_=>by
   have h:=Geo.may_ok hm
   unfold heads
   have hA:0<g.atD:=by unfold Geo.atD;have:=h.n1;have:=h.l1;have:=h.s1;have:=h.sj;omega
   have:=yUq h
   rw[List.getD_eq_getElem?_getD,List.getElem?_set_self (by rw[List.length_replicate];omega)];rfl
 | j+1,hj=>by
   have h:=Geo.may_ok hm
   unfold heads
   have hne:(g.headS j).toNat≠0:=by
    have n1:=h.n1
    have l1:=h.l1
    have s1:=h.s1
    unfold Geo.headS
    rw[if_pos ⟨hm,by omega,by omega⟩]
    have:0<=(j:Int)*(1+g.journal):=Int.mul_nonneg (by omega) (by have:=h.j1;have:=h.p1;omega)
    omega
   rw[List.getD_eq_getElem?_getD,List.getElem?_set_ne hne,←List.getD_eq_getElem?_getD]
   exact xCs hm top hd j (by omega)
theorem xNX{L:Nat}{x:yAR}(hm:(yB2 x).may=true)(hL:200000<L){N:Nat}(hN:x.Nodes=N):∃xb xh:Bs,∃s,yNv 1 [] xIg (xJz (yB2 x))=(xb,0)/\xb.length<=512/\s.getD 0 noS=mkS xb/\First (yB2 x) s/\yJB L x=some (s.map txV,0,())/\
  yG6 L x=some (s.map txV,List.replicate N [V.sl [] true],(List.replicate N (0:Int)).map inV,1,[],true,()):=by
 have hok:=Geo.may_ok hm
 obtain⟨xb,xh,hxb,hxh,h1,h2,hF⟩:=xGg (L:=L) hm hL
 have hbd:=yUq hok
 have hat:=hok.sj
 have hlen:=yOr (yB2 x) (mkS xb) (mkS xh) x.Slots.toNat
 have hA:0<(yB2 x).atD:=by unfold Geo.atD;have:=hok.n1;have:=hok.l1;have:=hok.s1;omega
 have n1:1<=x.Nodes:=hok.n1
 have n2:x.Nodes<=16:=hok.n2
 refine⟨xb,xh,heads (yB2 x) (mkS xb) (mkS xh) x.Slots.toNat,hxb,h1,xCs hm _ _ _ (by show(x.Slots.toNat:Int)<=(yB2 x).slots;show(x.Slots.toNat:Int)<=x.Slots;have:=hok.s1;have:1<=x.Slots:=this;omega),?_⟩
 generalize hs:heads (yB2 x) (mkS xb) (mkS xh) x.Slots.toNat=s at*
 have hS:SecOk s:=⟨by omega,by omega,by rw[←hs];exact xHD (by rw[yOK];exact h1) (by rw[yOK];exact h2) _⟩
 refine⟨⟨hS,by omega,fun k k1 k2=>by rw[←hs];exact yXt hok (mkS xb) (mkS xh) k1 k2 _⟩,hF,?_⟩
 have hc:CE (List.replicate N [V.sl [] true]) N:=⟨List.length_replicate ..,fun r hr=>⟨true,List.eq_of_mem_replicate hr⟩⟩
 unfold yG6 yQ9
 rw[hF,yAB,hN,xOX hS (by omega) (by omega) hL,yAB]
 dsimp only
 rw[yAT (by rfl),yHo rfl (yNw _),yHo rfl hc.nm,yHo rfl (yKI _),yHo rfl (by rfl)]
 rfl
theorem xMW{L:Nat}(hL:1000<L){c:yAI}(h:yQX c):yEc L (mkS (yGL c))=some (yXG c,0,()):=by
 obtain⟨y,h1,h2,h3⟩:=xGU c
 unfold yEc yM3
 rw[xDO (by omega) h,yAB]
 dsimp only
 rw[show((0:Int) !=0)=false from rfl,cond_false,xBH hL (by omega),yAB,yWW,h2]
 unfold yXG
 rw[h2]
theorem xMX{L:Nat}:yEc L noS=some (noS,2,()):=by
 unfold yEc yM3 yCL yFR
 rfl
def lgS(s:List ByteArray)(b:Nat)(cs:List yAI):Nat->List ByteArray
 | 0=>s
 | k+1=>(lgS s b cs k).set (b+k) (yXG (cs.getD k yAI.z))
section
variable {s:List ByteArray} {b:Nat} {cs:List yAI}
theorem yPS:∀k:Nat,(lgS s b cs k).length=s.length
 | 0=>rfl
 | k+1=>by unfold lgS;rw[List.length_set];exact yPS k
theorem xLP(h:SecOk s):∀k:Nat,SecOk (lgS s b cs k)
 | 0=>h
 | k+1=>(xLP h k).set _ (by have:=xBv (cs.getD k yAI.z);omega)
theorem xEt{i:Nat}:∀k:Nat,(i<b\/b+k<=i)->(lgS s b cs k).getD i noS=s.getD i noS
 | 0,_=>rfl
 | k+1,h=>by
   unfold lgS
   rw[List.getD_eq_getElem?_getD,List.getElem?_set_ne (by omega),←List.getD_eq_getElem?_getD]
   exact xEt k (by omega)
theorem xLO{i:Nat}:∀k:Nat,i<k->k<=cs.length->b+k<=s.length->(lgS s b cs k).getD (b+i) noS=yXG (cs.getD i yAI.z)
 | 0,h,_,_=>absurd h (Nat.not_lt_zero _)
 | k+1,h,h1,h2=>by
   unfold lgS
   by_cases e:i=k
   ·subst e
    rw[List.getD_eq_getElem?_getD,List.getElem?_set_self (by rw[yPS];omega)];rfl
   ·rw[List.getD_eq_getElem?_getD,List.getElem?_set_ne (by omega),←List.getD_eq_getElem?_getD]
    exact xLO k (by omega) (by omega) (by omega)
end
section
variable {L N:Nat} [yOD L] {x:yAR} {s:List ByteArray} {cs:List yAI} {C K:List (List V)} {y z:Int}
abbrev mJ(L:Nat){α:Type}:=yDg (α:=α) (yCE L) (yEc L) (yDJ L) (yFk L)
open Classical in
theorem xGL(hm:(yB2 x).may=true)(hN:x.Nodes=N)(hl:cs.length<=40)(hlog:(cs.length:Int)<=x.Log)(hsl:1+2*N+cs.length<=s.length)(hs5:s.length<=100000):∀(f k:Nat),k+f=cs.length->∀(M:Nat),f<M->∀{α:Type} (ka:_->Option α) kb,
  yAQ (mJ L) M (cs.map cW,y,z,x,((lgS s (1+2*N) cs k).map txV,C,K,(1:Int),[],()),true,(k:Int),()) ka kb=
   if ∀j,k<=j->j<cs.length->yQX (cs.getD j yAI.z) then ka (cs.map cW,y,z,x,⟨(lgS s (1+2*N) cs cs.length).map txV,C,K,1,[]⟩,true,()) else yAA (yDJ L) fun r=>kb (r,())
 | f,k,hk,0,hM,α,ka,kb=>absurd hM (Nat.not_lt_zero _)
 | 0,k,hk,M+1,hM,α,ka,kb=>by
   obtain rfl:k=cs.length:=by omega
   rw[if_pos fun j h1 h2=>by omega]
   show(bif decide ((cs.length:Int)<((cs.map cW).length:Int)) then _ else _)=_
   dsimp only
   rw[List.length_map,yAJ (decide_eq_false (by omega)),ySB (by omega) (by rw[List.length_map,yPS];omega) (yNw _),List.take_length]
 | f+1,k,hk,M+1,hM,α,ka,kb=>by
   have hL:200000<L:=yOD.h
   have hkl:k<cs.length:=by omega
   have hg:cs.getD k yAI.z=cs[k]:=by rw[List.getD_eq_getElem?_getD,List.getElem?_eq_getElem hkl];rfl
   show(bif decide ((k:Int)<((cs.map cW).length:Int)) then _ else _)=_
   dsimp only
   rw[List.length_map,yAT (decide_eq_true (by omega)),yTv xLJ hkl]
   simp only[Int.toNat_natCast]
   rw[cWt hkl]
   by_cases hc:yQX cs[k]
   ·have hG:yFk L x (k:Int)=some (1+2*(N:Int)+k):=by
      rw[xJK]
      unfold Geo.logS
      rw[if_pos ⟨hm,by omega,by show(k:Int)<x.Log;omega⟩]
      show some (1+2*x.Nodes+(k:Int))=_
      rw[hN]
    have hi:1+2*N+k<(lgS s (1+2*N) cs k).length:=by rw[yPS];omega
    have eT:(1+2*(N:Int)+k).toNat=1+2*N+k:=by omega
    have eS:((lgS s (1+2*N) cs k).map txV).set (1+2*N+k) ((((lgS s (1+2*N) cs k).map txV).getD (1+2*N+k) []).take 0++([V.str (yXG cs[k])]++(((lgS s (1+2*N) cs k).map txV).getD (1+2*N+k) []).drop 1))=(lgS s (1+2*N) cs (k+1)).map txV:=by
     rw[yDN (yGO hi)]
     show((lgS s (1+2*N) cs k).map txV).set (1+2*N+k) (txV (yXG cs[k]))=_
     rw[←List.map_set]
     unfold lgS
     rw[hg]
     cases k <;> rfl
    rw[xAM (by omega) hc,yAB]
    dsimp only
    rw[xMW (by omega) hc,yAB]
    dsimp only
    rw[show((0:Int) !=0)=false from rfl,cond_false,cond_false,Bool.not_true,cond_false,hG,yAB,eT,Nat.zero_add,yW9 (by omega) (by rw[List.length_map];omega),yB9 (by rw[List.length_map];exact hi),yDf (Nat.zero_le _),yDf (by rw[yDN (yGO hi)];exact Nat.le_refl 1),eS,yHo (by rw[List.length_map,List.length_map,yPS,yPS]) (yNw _),yAY (by omega) (by omega)]
    refine(xGL hm hN hl hlog hsl hs5 f (k+1) (by omega) M (by omega) ka kb).trans ?_
    by_cases hall:∀j,k+1<=j->j<cs.length->yQX (cs.getD j yAI.z)
    ·rw[if_pos hall,if_pos fun j h1 h2=>by
      by_cases e:j=k
      ·subst e;rw[hg];exact hc
      ·exact hall j (by omega) h2]
    ·rw[if_neg hall,if_neg fun h=>hall fun j h1 h2=>h j (by omega) h2]
   ·rw[xJH hc,yAB]
    dsimp only
    rw[xMX,yAB]
    dsimp only
    rw[show((2:Int) !=0)=true from rfl,cond_true,if_neg fun h=>hc (by rw[←hg];exact h k (Nat.le_refl _) hkl)]
end
theorem xEC{L:Nat}{x:yAR}(hL:200000<L){xb:Bs}(h:yNv 1 [] xIg (xJz (yB2 x))=(xb,0))(hl:xb.length<=512):
  yEd L 1 (mkS xb) [[V.int .i64 2],[V.int .i64 2],[V.int .i64 2],[V.int .i64 2],[V.int .i64 2],[V.int .i64 2],[V.int .i64 4],[V.int .i64 4]]=
   some ([[V.int .i64 x.Nodes],[V.int .i64 x.Slots],[V.int .i64 x.Blocks],[V.int .i64 x.Per],[V.int .i64 x.Journal],[V.int .i64 x.Log],[V.int .i64 x.Lease],[V.int .i64 x.Wait]],noS,0,()):=by
 have hf:fieldsR 1 xb xIg=(xJz (yB2 x),[],0):=by
  rcases yXx 1 [] xIg (xJz (yB2 x)) with e | ⟨b,y,e,h1,h2⟩
  ·rw[h] at e
   injection e with _ e
   cases e
  ·rw[h] at e
   injection e with e _
   subst e
   exact yVx (by omega) h1 h2
 have:=xIZ (L:=L) (s:=mkS xb) (ws:=xIg) (by omega) (by rw[yOK];omega) (by show(8:Nat)<L;omega) (by show(8:Nat)<=_;omega) 1
 rw[yWW,hf] at this
 exact this
theorem xJf{L:Nat}{x:yAR}(hL:10<L)(hm:(yB2 x).may=true):yGt L ⟨x⟩=some true:=by
 unfold yGt yLG
 dsimp only
 rw[xEl hL (yU5 hm),hm]
 rfl
section
variable {L:Nat} {x:yAR} {n:yBO}
theorem xHq(hL:200000<L)(hm:(yB2 x).may=true){xb:Bs}(h:yNv 1 [] xIg (xJz (yB2 x))=(xb,0))(hl:xb.length<=512)(hn:n.At=1):yCJ L x n (mkS xb)=some ({n with At:=2 },yAE.z,false,()):=by
 have hf:=xEC hL h hl
 have hs:=xJf (L:=L) (x:=x) (by omega) hm
 have e:∀(a b c d e f g h:Int),(⟨aI [[V.int .i64 a],[V.int .i64 b],[V.int .i64 c],[V.int .i64 d],[V.int .i64 e],[V.int .i64 f],[V.int .i64 g],[V.int .i64 h]] 0 0,aI [[V.int .i64 a],[V.int .i64 b],[V.int .i64 c],[V.int .i64 d],[V.int .i64 e],[V.int .i64 f],[V.int .i64 g],[V.int .i64 h]] 1 0,aI [[V.int .i64 a],[V.int .i64 b],[V.int .i64 c],[V.int .i64 d],[V.int .i64 e],[V.int .i64 f],[V.int .i64 g],[V.int .i64 h]] 2 0,aI [[V.int .i64 a],[V.int .i64 b],[V.int .i64 c],[V.int .i64 d],[V.int .i64 e],[V.int .i64 f],[V.int .i64 g],[V.int .i64 h]] 3 0,aI [[V.int .i64 a],[V.int .i64 b],[V.int .i64 c],[V.int .i64 d],[V.int .i64 e],[V.int .i64 f],[V.int .i64 g],[V.int .i64 h]] 4 0,aI [[V.int .i64 a],[V.int .i64 b],[V.int .i64 c],[V.int .i64 d],[V.int .i64 e],[V.int .i64 f],[V.int .i64 g],[V.int .i64 h]] 5 0,aI [[V.int .i64 a],[V.int .i64 b],[V.int .i64 c],[V.int .i64 d],[V.int .i64 e],[V.int .i64 f],[V.int .i64 g],[V.int .i64 h]] 6 0,aI [[V.int .i64 a],[V.int .i64 b],[V.int .i64 c],[V.int .i64 d],[V.int .i64 e],[V.int .i64 f],[V.int .i64 g],[V.int .i64 h]] 7 0⟩:yAR)=⟨a,b,c,d,e,f,g,h⟩:=fun _ _ _ _ _ _ _ _=>rfl
 unfold yCJ yGh
 rw[hn,yAJ (by rfl),yAJ (by rfl),yAJ (by rfl),yAT (by rfl),hf,yAB]
 dsimp only
 rw[yAT (by rfl),yCM (by rfl),yYv (by simp) (by rfl),yCM (by rfl),yYv (by simp) (by rfl),yCM (by rfl),yYv (by simp) (by rfl),yCM (by rfl),yYv (by simp) (by rfl),yCM (by rfl),yYv (by simp) (by rfl),yCM (by rfl),yYv (by simp) (by rfl),yCM (by rfl),yYv (by simp) (by rfl),yCM (by rfl),yYv (by simp) (by rfl),yAJ (by rfl),beq_self_eq_true,Bool.not_true,cond_false,e]
 rw[show(⟨x.Nodes,x.Slots,x.Blocks,x.Per,x.Journal,x.Log,x.Lease,x.Wait⟩:yAR)=x from rfl,hs,yAB,Bool.not_true,cond_false]
 rw[yAJ (by
  show(!((x.Nodes==x.Nodes)&&((x.Slots==x.Slots)&&((x.Blocks==x.Blocks)&&((x.Per==x.Per)&&((x.Journal==x.Journal)&&((x.Log==x.Log)&&((x.Lease==x.Lease)&&((x.Wait==x.Wait)&&true)))))))))=false
  simp only[beq_self_eq_true,Bool.and_self,Bool.not_true])]
theorem xHp(hn:n.At=2)(got:ByteArray):yCJ L x n got=some ({n with Asked:=n.Clock,Count:=1,At:=3 },yAE.z,false,()):=by
 unfold yCJ yGh
 rw[hn]
 rfl
theorem xK9(hn:n.At=0):yCK L x n=some ⟨6,0,noS,0⟩:=by
 unfold yCK yGi
 rw[hn]
 rfl
theorem xH3(hn:n.At=1):yCK L x n=some ⟨1,0,noS,0⟩:=by
 unfold yCK yGi
 rw[hn]
 rfl
end
theorem xKZ{L:Nat}(hL:10<L){d:Int}(d0:0<=d)(d1:d<=1099511627776):yX2 L (mkS (leBytes 6 d.toNat)) 6=some ([[V.int .i64 d]],0,()):=by
 have hsz:((mkS (leBytes 6 d.toNat)).size:Int)=6:=by rw[yOK,yAD];rfl
 have G1:yBX L (mkS (leBytes 6 d.toNat)) 0 6=some (d,0,()):=by
  have:=yXz (L:=L) (w:=6) hL (n:=d) (t:= []) (by omega) (by omega) d0 (by rw[yPU];omega) (by simp)
  rw[List.append_nil] at this
  exact this
 obtain⟨m,hm⟩:∃m,L=m+1+1:=⟨L-2,by omega⟩
 have e1:∀(ka:yLu->Option (List (List V)×Int×Unit)) kb,yAQ (yCs (yBX L)) (m+1+1) (mkS (leBytes 6 d.toNat),6,[],0,()) ka kb=yAQ (yCs (yBX L)) (m+1) (mkS (leBytes 6 d.toNat),6,[d].map inV,6,()) ka kb:=fun ka kb=>by
  show yCs (yBX L) (mkS (leBytes 6 d.toNat),6,[],0,()) (fun s'=>yAQ (yCs (yBX L)) (m+1) s' ka kb) ka kb=_
  unfold yCs
  dsimp only
  rw[yAT (decide_eq_true (by omega)),G1,yAB,show((0:Int) !=0)=false from rfl,cond_false,yCM (by rfl),xCG (by decide) (by decide),xM4 (by rfl) (by decide) (by rfl),yAY (by omega) (by omega)]
  rfl
 have e2:∀(ka:yLu->Option (List (List V)×Int×Unit)) kb,yAQ (yCs (yBX L)) (m+1) (mkS (leBytes 6 d.toNat),6,[d].map inV,6,()) ka kb=ka ([d].map inV,()):=fun ka kb=>by
  show yCs (yBX L) (mkS (leBytes 6 d.toNat),6,[d].map inV,6,()) (fun s'=>yAQ (yCs (yBX L)) m s' ka kb) ka kb=_
  unfold yCs
  dsimp only
  rw[yAJ (decide_eq_false (by omega)),xM4 rfl (by simp) (yKI _)]
 unfold yX2 yX3
 rw[show yEC L 6=some true from rfl,yAB,Bool.not_true,cond_false,yCM (by rfl),hsz,yAJ (by rfl)]
 rw[show yAQ (α:=List (List V)×Int×Unit) (yCs (yBX L)) L=yAQ (yCs (yBX L)) (m+1+1) by rw[←hm]]
 refine(e1 _ _).trans ((e2 _ _).trans ?_)
 dsimp only
 rw[ySB (by simp) (by simp) (yKI _),List.take_length]
 rfl
section
variable {L:Nat} {x:yAR} {n:yBO}
theorem xK0(hL:10<L)(h0:0<=x.Slots)(h16:x.Slots<=16)(hn:n.At=0)(hu:0<=n.Num/\n.Num<=15):yCJ L x n (mkS (leBytes 6 (16+n.Num).toNat))=some ({n with Key:=16+n.Num,Count:=0,Table:=(bh6 x []).t,Done:=0,Serial:=0,At:=1 },yAE.z,false,()):=by
 have hO:yKR L (16+n.Num)=some n.Num:=by
  unfold yKR yQy
  rw[xII,decide_eq_true (show xCy (16+n.Num) from⟨by omega,by omega⟩),yAB,cond_true]
  show some ((16+n.Num).tmod 16)=_
  rw[Int.tmod_eq_emod_of_nonneg (by omega)]
  congr 1
  omega
 unfold yCJ yGh
 rw[hn,yAJ (by rfl),yAJ (by rfl),yAT (by rfl),xKZ hL (by omega) (by omega),yAB]
 dsimp only
 rw[yAJ (by rfl),yAJ (by rfl),yCM (by rfl),yCM (by rfl),show aI [[V.int .i64 (16+n.Num)]] 0 0=16+n.Num from rfl,hO,yAB,yAJ (by rw[bne_self_eq_false]),yCM (by rfl),yCM (by rfl),xMr h0 h16,yAB]
end
section
variable {L:Nat} {x:yAR} {n:yBO} {c:yAI} {t':yAF}
theorem xIz(hm:(yB2 x).may=true)(hL:10<L)(h0:0<=n.Done)(h1:n.Done<x.Log):yJZ L x n.Done=some (1+2*x.Nodes+n.Done):=by
 rw[xEk hL (yU5 hm)]
 unfold Geo.logS
 rw[if_pos ⟨hm,h0,h1⟩]
 rfl
theorem xHo[yOD L](hL:200000<L)(hm:(yB2 x).may=true)(hn:n.At=3)(h0:0<=n.Done)(h1:n.Done<x.Log)(hc:yQX c)(hT:yC0 L x n.Table c=some t'):yCJ L x n (yXG c)=some ({n with Table:=t',Done:=n.Done+1 },yAE.z,false,()):=by
 have hok:=Geo.may_ok hm
 have l2:x.Log<=512:=hok.l2
 have n1:1<=x.Nodes:=hok.n1
 have hl:yG7 L x n.Table n.Done (yXG c)=some (t',n.Done+1,c,true,0,()):=by
  unfold yG7 yN1
  rw[xEf hc,yAB]
  dsimp only
  rw[show((0:Int)==0)=true from rfl,cond_true,cond_true,hT,yAB,yAY (by omega) (by omega)]
 unfold yCJ yGh
 rw[hn,yAJ (by rfl),yAJ (by rfl),yAJ (by rfl),yAJ (by rfl),yAJ (by rfl),yAT (by rfl),xIz hm (by omega) h0 h1,yAB,yAT (decide_eq_true (by omega)),hl,yAB]
 rfl
theorem xKz[yOD L](hL:200000<L)(hm:(yB2 x).may=true)(hn:n.At=3)(hk:n.Op.Kind≠0)(h0:0<=n.Done)(h1:n.Done<=x.Log):yCJ L x n noS=some ({n with At:=0,P:=yAP.z,St:=yAG.z },yAE.z,true,()):=by
 have hkb:(n.Op.Kind==0)=false:=beq_eq_false_iff_ne.2 hk
 have hok:=Geo.may_ok hm
 have n1:1<=x.Nodes:=hok.n1
 unfold yCJ yGh
 rw[hn,yAJ (by rfl),yAJ (by rfl),yAJ (by rfl),yAJ (by rfl),yAJ (by rfl),yAT (by rfl)]
 by_cases hlt:n.Done<x.Log
 ·have hl:yG7 L x n.Table n.Done noS=some (n.Table,n.Done,yAI.z,false,0,()):=by
    unfold yG7 yN1
    rw[xGx,yAB]
    rfl
  rw[xIz hm (by omega) h0 hlt,yAB,yAT (decide_eq_true (by omega)),hl,yAB]
  dsimp only
  rw[yAJ (by rfl),cond_false,hkb]
  rfl
 ·have hg:yJZ L x n.Done=some (-1):=by
    rw[xEk (by omega) (yU5 hm)]
    unfold Geo.logS
    rw[if_neg (fun q=>hlt q.2.2)]
  rw[hg,yAB,yAJ (by rfl),hkb]
  rfl
end
def lsB(key:Int):Bs:=(yNv 3 [] [6,6] [key,1]).1
theorem xA2{key:Int}(h0:1<=key)(h1:key<=1099511627776):yNv 3 [] [6,6] [key,1]=(lsB key,0)/\(lsB key).length<=512:=by
 obtain⟨y,h,hl⟩:=xA3 (k:=3) (ws:= [6,6]) (l:= [key,1]) (by omega) rfl (fun i hi hi'=>by
  match i,hi with
  | 0,_=>exact yNL (w:=6) (by omega) (by omega) (by simp;omega) (by simp;omega) (by simp;omega)
  | 1,_=>exact yNL (w:=6) (by omega) (by omega) (by simp) (by simp) (by simp)) (by decide)
 unfold lsB
 rw[h]
 exact⟨rfl,hl⟩
section
variable {L:Nat} {x:yAR} {n:yBO} {key:Int}
theorem xLw(hL:200000<L)(h0:1<=key)(h1:key<=1099511627776):yOi L key 1=some (mkS (lsB key),0,()):=by
 have:=xMP (L:=L) (k:=3) (rest:=noS) (ws:= [6,6]) (l:= [key,1]) (by omega) (by show(2:Nat)<L;omega) (by simp) (by show(0:Nat)<=_;omega)
 rw[show noS.data.toList= [] from rfl,(xA2 h0 h1).1] at this
 unfold yOi yQj
 rw[yAJ (decide_eq_false (by rw[xA4];omega))]
 exact(congrArg (fun o=>yAA o fun r1=>some (r1.1,r1.2.1,())) this).trans rfl
theorem xIf{L:Nat}(hL:10<L){x:yAR}(hw:xJ0 x.Wait=true)(i:Int):yOp L x i=some ((yB2 x).leaseS i):=by
 unfold yOp ySr Geo.leaseS
 cases hm:(yB2 x).may with
 | false=>rw[xNc hL hw hm,yAB,if_neg (by simp)]
 | true=>
   have h:=Geo.may_ok hm
   have n1:1<=x.Nodes:=h.n1
   have n2:x.Nodes<=16:=h.n2
   rw[xLa hL hw hm (a:=1) (m:=x.Nodes) rfl (by omega) (by omega) (by omega) (by omega),yAB]
   by_cases hi:0<=i/\i<x.Nodes
   ·rw[if_pos hi,if_pos ⟨rfl,hi⟩]
   ·rw[if_neg hi,if_neg fun q=>hi q.2]
theorem xH2(hL:200000<L)(hm:(yB2 x).may=true)(hn:n.At=2)(h0:1<=n.Key)(h1:n.Key<=1099511627776)(hu:0<=n.Num)(hu2:n.Num<x.Nodes):yCK L x n=some ⟨2,1+n.Num,mkS (lsB n.Key),0⟩:=by
 have hg:yOp L x n.Num=some (1+n.Num):=by
  rw[xIf (by omega) (yU5 hm)]
  unfold Geo.leaseS
  rw[if_pos ⟨hm,hu,hu2⟩]
 unfold yCK yGi
 rw[hn,yAJ (by rfl),yAJ (by rfl),yAT (by rfl),xLw hL h0 h1,yAB,hg,yAB,yAT (by rfl),yAT (decide_eq_true (by omega))]
theorem xMj(hL:200000<L)(h0:1<=key)(h1:key<=1099511627776):yO4 L (mkS (lsB key))=some (key,1,()):=by
 obtain⟨hm,hl⟩:=xA2 h0 h1
 have hf:fieldsR 3 (lsB key) [6,6]=([key,1],[],0):=by
  rcases yXx 3 [] [6,6] [key,1] with e | ⟨b,y,e,h1,h2⟩
  ·rw[hm] at e
   injection e with _ e
   cases e
  ·rw[hm] at e
   injection e with e _
   rw[e]
   exact yVx (by omega) h1 h2
 have hF:=xHT (L:=L) (s:=mkS (lsB key)) (ws:= [6,6]) (by omega) (by rw[yOK];omega) (by show(2:Nat)<L;omega) (by simp) 3
 rw[yWW,hf] at hF
 have hF:yI6 L 3 (mkS (lsB key)) [[V.int .i64 6],[V.int .i64 6]]=some ([[V.int .i64 key],[V.int .i64 1]],noS,0,()):=hF
 unfold yO4 yRX
 rw[hF,yAB]
 dsimp only
 rw[yAJ (by rfl),beq_self_eq_true,Bool.not_true,cond_false,yCM (by rfl),yYv (by simp) (by rfl),show aI [[V.int .i64 key],[V.int .i64 1]] 0 0=key from rfl,yAJ (decide_eq_false (by omega)),yCM (by rfl),yYv (by simp) (by rfl),yAJ (by rfl),yCM (by rfl),yYv (by simp) (by rfl),yCM (by rfl),yYv (by simp) (by rfl)]
 rfl
end
theorem xI2{L:Nat}(hL:10<L):yR4 L [[V.int .i8 13]]=some true:=by
 obtain⟨m,rfl⟩:∃m,L=m+2:=⟨L-2,by omega⟩
 rfl
theorem xGm{L:Nat}{x:yAR}{n:yBO}(hL:10<L)(hm:(yB2 x).may=true)(h0:0<=n.Num)(h1:n.Num<x.Nodes)(ho:n.Op.Kind=13)(hk:n.Key=0):yNR L x n=some ({n with At:=0 },yAE.z,false,()):=by
 have hM:yF8 L x=some true:=by rw[xEl hL (yU5 hm),hm]
 unfold yNR yPV
 rw[hM,yAB,Bool.not_true,cond_false,yAJ (decide_eq_false (by omega)),yAJ (decide_eq_false (by omega)),ho,xI2 hL,yAB,hk]
 rfl
section
variable {L:Nat} {x:yAR} {n n' nn z2:yBO} {d d' z1:yAC} {b b' z3:yAE} {a:yAp} {got:ByteArray} {o:Bool} {most acts:Int} {α:Type}
abbrev rnF(L:Nat){α:Type}:=yFK (α:=α) (yCK L) (yFZ L) (yCJ L)
theorem yRn{m:Nat}(hw:yCK L x n=some a)(hk:(a.Kind !=0)=true)(hd:yFZ L d nn.Num a=some (d',got,0,()))(ht:yCJ L x n got=some (n',b',o,()))(hlt:acts<most)(h0:0<=acts)(h1:acts<=1000000)(ka:yDT->Option α)(kb):
  yAQ (rnF L) (m+1) (most,x,d,nn,z1,z2,z3,n,b,false,acts,()) ka kb=yAQ (rnF L) m (most,x,d',nn,z1,z2,z3,n',b',o,acts+1,()) ka kb:=by
 show rnF L (most,x,d,nn,z1,z2,z3,n,b,false,acts,()) (fun s'=>yAQ (rnF L) m s' ka kb) ka kb=_
 unfold rnF yFK
 dsimp only
 rw[Bool.not_false,cond_true,yAT (decide_eq_true hlt),hw,yAB,yAT hk,hd,yAB]
 dsimp only
 rw[yAJ (by rfl),ht,yAB,yAY (by omega) (by omega)]
theorem xKo{m:Nat}(hw:yCK L x n=some a)(hk:(a.Kind !=0)=false)(ht:yCJ L x n noS=some (n',b',o,()))(hlt:acts<most)(h0:0<=acts)(h1:acts<=1000000)(ka:yDT->Option α)(kb):
  yAQ (rnF L) (m+1) (most,x,d,nn,z1,z2,z3,n,b,false,acts,()) ka kb=yAQ (rnF L) m (most,x,d,nn,z1,z2,z3,n',b',o,acts+1,()) ka kb:=by
 show rnF L (most,x,d,nn,z1,z2,z3,n,b,false,acts,()) (fun s'=>yAQ (rnF L) m s' ka kb) ka kb=_
 unfold rnF yFK
 dsimp only
 rw[Bool.not_false,cond_true,yAT (decide_eq_true hlt),hw,yAB,yAJ hk,ht,yAB,yAY (by omega) (by omega)]
theorem xJW{m:Nat}(ka:yDT->Option α)(kb):yAQ (rnF L) (m+1) (most,x,d,nn,z1,z2,z3,n,b,true,acts,()) ka kb=ka (d,z1,z2,z3,n,b,true,acts,()):=rfl
end
section
variable {L N u:Nat} [yOD L] {x:yAR} {nn z2:yBO} {z1:yAC} {z3:yAE} {most:Int} {s:List ByteArray} {ks:List Int} {nx:Int} {cs:List yAI} {α:Type}
theorem xAV{n:yBO}(hm:(yB2 x).may=true)(hL:10<L)(hn:n.At=3)(h0:0<=n.Done)(h1:n.Done<x.Log):yCK L x n=some ⟨1,1+2*x.Nodes+n.Done,noS,0⟩:=by
 have _:=(inferInstance:yOD L)
 have hok:=Geo.may_ok hm
 have n1:1<=x.Nodes:=hok.n1
 have hl:yG8 L x n.Done=some ⟨1,1+2*x.Nodes+n.Done,noS,0⟩:=by
  unfold yG8 yN2
  rw[xIz hm hL h0 h1,yAB,yAT (decide_eq_true (by omega))]
  try rfl
 unfold yCK yGi
 rw[hn,yAJ (by rfl),yAJ (by rfl),yAJ (by rfl),yAT (by rfl),hl,yAB]
theorem xJx{n:yBO}(hm:(yB2 x).may=true)(hL:10<L)(hn:n.At=3)(h1:¬n.Done<x.Log):yCK L x n=some yAp.z:=by
 have _:=(inferInstance:yOD L)
 have hg:yJZ L x n.Done=some (-1):=by
  rw[xEk hL (yU5 hm)]
  unfold Geo.logS
  rw[if_neg (fun q=>h1 q.2.2)]
 have hl:yG8 L x n.Done=some yAp.z:=by
  unfold yG8 yN2
  rw[hg,yAB,yAJ (by rfl)]
 unfold yCK yGi
 rw[hn,yAJ (by rfl),yAJ (by rfl),yAJ (by rfl),yAT (by rfl),hl,yAB]
theorem xC5(hm:(yB2 x).may=true)(hN:x.Nodes=N)(hs:SecOk s)(hk:KeysOk ks N nx)(hnum:nn.Num=u)(hu:u<N)(hq:∀h:u<ks.length,1<=ks[u])(hsl:1+2*(N:Int)+x.Log<=s.length)(hlen:(cs.length:Int)<=x.Log)(hc40:cs.length<=40)(hmay:∀c∈cs,yQX c)
  (hat:∀i (h:i<cs.length),s.getD (1+2*N+i) noS=yXG cs[i]) (hend:(cs.length:Int)<x.Log->s.getD (1+2*N+cs.length) noS=noS):∀(f k:Nat) (c:List (List V)) (n:yBO) (b:yAE) (acts:Int),k+f=cs.length->CE c N->n.At=3->n.Op.Kind≠0->n.Done=k->n.Table=(bh6 x (cs.take k)).t->0<=acts->acts+f<=1000->acts+f+1<=most→
    ∃c',CE c' N/\∀(m:Nat) (ka:yDT->Option α) kb,f+2<=m->yAQ (rnF L) m (most,x,dvK s c ks nx,nn,z1,z2,z3,n,b,false,acts,()) ka kb=
     ka (dvK s c' ks nx,z1,z2,z3,{n with Table:=(bh6 x cs).t,Done:=cs.length,At:=0,P:=yAP.z,St:=yAG.z },yAE.z,true,acts+f+1,())
 | 0,k,c,n,b,acts,hk0,hc,hn,hop,hd,ht,a0,a1,a2=>by
   obtain rfl:k=cs.length:=by omega
   have hL:200000<L:=yOD.h
   have hok:=Geo.may_ok hm
   have n1:1<=x.Nodes:=hok.n1
   have n2:x.Nodes<=16:=hok.n2
   rw[List.take_length] at ht
   have hte:=xKz (L:=L) hL hm hn hop (by omega) (by omega)
   have hfin:({n with At:=0,P:=yAP.z,St:=yAG.z }:yBO)={n with Table:=(bh6 x cs).t,Done:=cs.length,At:=0,P:=yAP.z,St:=yAG.z }:=by rw[←ht,←hd]
   by_cases hlt:n.Done<x.Log
   ·have hdo:=xBI (L:=L) hs hc hk (by omega) (by omega) hL (n:=(u:Int)) (by omega) (by omega) (fun h=>hq h) (k:=1+2*x.Nodes+n.Done) (by omega) (by omega)
    rw[show(1+2*x.Nodes+n.Done).toNat=1+2*N+cs.length by omega,hend (by omega)] at hdo
    refine⟨_,yL9 N,fun m ka kb hm2=>?_⟩
    obtain⟨m',rfl⟩:∃m',m=m'+1+1:=⟨m-2,by omega⟩
    rw[yRn (xAV hm (by omega) hn (by omega) hlt) (by rfl) (by rw[hnum];exact hdo) hte (by omega) a0 (by omega),xJW,hfin,show acts+((0:Nat):Int)+1=acts+1 by omega]
   ·refine⟨c,hc,fun m ka kb hm2=>?_⟩
    obtain⟨m',rfl⟩:∃m',m=m'+1+1:=⟨m-2,by omega⟩
    rw[xKo (xJx hm (by omega) hn hlt) (by rfl) hte (by omega) a0 (by omega),xJW,hfin,show acts+((0:Nat):Int)+1=acts+1 by omega]
 | f+1,k,c,n,b,acts,hk0,hc,hn,hop,hd,ht,a0,a1,a2=>by
   have hL:200000<L:=yOD.h
   have hok:=Geo.may_ok hm
   have n1:1<=x.Nodes:=hok.n1
   have n2:x.Nodes<=16:=hok.n2
   have s16:x.Slots<=16:=by have:=hok.s2;have:x.Slots<=x.Nodes:=this;omega
   have hkl:k<cs.length:=by omega
   have hdo:=xBI (L:=L) hs hc hk (by omega) (by omega) hL (n:=(u:Int)) (by omega) (by omega) (fun h=>hq h) (k:=1+2*x.Nodes+n.Done) (by omega) (by omega)
   rw[show(1+2*x.Nodes+n.Done).toNat=1+2*N+k by omega,hat k hkl] at hdo
   have hmc:=hmay _ (List.getElem_mem hkl)
   have hT:=xIB (L:=L) (x:=x) (cs:=cs.take k) s16 (by rw[List.length_take];omega) hmc
   rw[←ht,←xF2 hkl] at hT
   have htk:=xHo hL hm hn (by omega) (by omega) hmc hT
   obtain⟨c',h1,h2⟩:=xC5 hm hN hs hk hnum hu hq hsl hlen hc40 hmay hat hend f (k+1) (cE N) {n with Table:=(bh6 x (cs.take (k+1))).t,Done:=n.Done+1 } yAE.z (acts+1) (by omega) (yL9 N) hn hop (by show n.Done+1=_;omega) rfl (by omega) (by omega) (by omega)
   refine⟨c',h1,fun m ka kb hm2=>?_⟩
   obtain⟨m',rfl⟩:∃m',m=m'+1:=⟨m-1,by omega⟩
   rw[yRn (xAV hm (by omega) hn (by omega) (by omega)) (by rfl) (by rw[hnum];exact hdo) htk (by omega) a0 (by omega),h2 m' ka kb (by omega)]
   rw[show acts+1+(f:Int)+1=acts+((f+1:Nat):Int)+1 by omega]
end
theorem xMU{L N:Nat}[yOD L]{x:yAR}{s:List ByteArray}{ca:List (List V)}{ks:List Int}{nx:Int}{cs:List yAI}(hca:CE ca N)(hk:KeysOk ks N nx)(hL:200000<L)(h:PGeo x N s)(hc:(cs.length:Int)<=x.Log)(hat:∀i (h:i<cs.length),s.getD (1+2*N+i) noS=yXG cs[i])(hend:(cs.length:Int)<x.Log->s.getD (1+2*N+cs.length) noS=noS)
  (hR:∀c∈cs,yQX c):yRk L x (dvK s ca ks nx)=some (cs.map yAI.cs,0,()):=by
 obtain⟨n1,n2,l8,l512,s1,s16,sl,hl⟩:=h.bd
 have hC:yCd L (dvK s ca ks nx)=some 0:=xMb h.ok hca hk n1 n2 yOD.h
 have hT:yCt L x=some (yB2 x).total:=by rw[xDP];unfold Geo.totalS;rw[if_pos h.may]
 have hG:yFk L x 0=some (1+2*(N:Int)):=by
  rw[xJK]
  unfold Geo.logS
  rw[if_pos ⟨h.may,by omega,by show(0:Int)<x.Log;omega⟩]
  show some (1+2*x.Nodes+0)=_
  rw[h.n,Int.add_zero]
 have hS:(dvK s ca ks nx).S=s.map txV:=rfl
 obtain⟨lg,hlg⟩:=Int.eq_ofNat_of_zero_le (show 0<=x.Log by omega)
 unfold yRk yTF
 rw[yRH,h.may,yAB,Bool.not_true,cond_false,hC,yAB,show((0:Int) !=0)=false from rfl,cond_false,hT,yAB,hS,List.length_map,h.len,yAJ (show((yB2 x).total !=(yB2 x).total)=false from bne_self_eq_false _),hG,yAB,←h.len,hlg,yAY (by omega) (by omega),yCM (decide_eq_true (by omega)),yCM (decide_eq_true (by omega)),yCM (decide_eq_true (by omega)),yCM (decide_eq_true (by omega)),yCM (yYd 1 fun _=>rfl)]
 rw[show(1+2*(N:Int)).toNat=1+2*N by omega,show(1+2*(N:Int)+(lg:Int)).toNat-(1+2*N)=lg by omega,←List.map_drop,←List.map_take]
 have hlen:((s.drop (1+2*N)).take lg).length=lg:=by rw[List.length_take,List.length_drop];omega
 have hget:∀i (h:i<((s.drop (1+2*N)).take lg).length),((s.drop (1+2*N)).take lg)[i]=s.getD (1+2*N+i) noS:=fun i h=>by
  rw[hlen] at h
  rw[List.getElem_take,List.getElem_drop,List.getD_eq_getElem?_getD,List.getElem?_eq_getElem (by omega)];rfl
 rw[xNo hL (by omega) (by omega) (fun i h1 h2=>by rw[hget i h2];exact hat i h1) (fun h1=>by rw[hget _ h1];exact hend (by omega)) (fun c hc=>xDO xOJ (hR c hc))]
 rfl
theorem all_eq{L N:Nat}[yOD L]{x:yAR}{s:List ByteArray}{ca:List (List V)}{ks:List Int}{nx:Int}{cs:List yAI}(hca:CE ca N)(hk:KeysOk ks N nx)(hL:200000<L)(h:PGeo x N s)(hc:(cs.length:Int)<=x.Log)(hc40:cs.length<=40)(hat:∀i (h:i<cs.length),s.getD (1+2*N+i) noS=yXG cs[i])(hend:(cs.length:Int)<x.Log->s.getD (1+2*N+cs.length) noS=noS)
  (hR:∀c∈cs,yQX c):yRm L x (dvK s ca ks nx)=some ((bh6 x cs).t,(cs.length:Int),0,()):=by
 obtain⟨n1,n2,l8,l512,s1,s16,sl,hl⟩:=h.bd
 unfold yRm yTH
 rw[xMU hca hk hL h hc hat hend hR,yAB,yAJ (by rfl)]
 dsimp only
 rw[xGn (by omega) s16 (by omega) hR,yAB,List.length_map]
section
variable {L N u:Nat} [yOD L] {x:yAR} {s:List ByteArray} {c:List (List V)} {cs:List yAI}
theorem xHI{nn z2 n:yBO}{z1:yAC}{z3 b:yAE}{most:Int}{α:Type}(h:PGeo x N s)(hc:CE c N)(hu:u<N)(hnn:nn.Num=u)(hnu:n.Num=u){xb:Bs}(hx:yNv 1 [] xIg (xJz (yB2 x))=(xb,0))(hxl:xb.length<=512)(hs0:s.getD 0 noS=mkS xb)(hn:n.At=0)(hm:3<most):
  ∃c' b',CE c' N/\∀(m:Nat) (ka:yDT->Option α) kb,yAQ (rnF L) (m+1+1+1) (most,x,dvK s c (List.replicate N 0) 1,nn,z1,z2,z3,n,b,false,0,()) ka kb=
   yAQ (rnF L) m (most,x,dvK (s.set (1+u) (mkS (lsB (16+(u:Int))))) c' ((List.replicate N 0).set u (16*1+(u:Int))) (1+1),nn,z1,z2,z3,{n with Key:=16+(u:Int),Count:=1,Table:=(bh6 x []).t,Done:=0,Serial:=0,Asked:=n.Clock,At:=3 },b',false,3,()) ka kb:=by
 have hL:200000<L:=yOD.h
 obtain⟨n1,n2,l8,l512,s1,s16,sl,hl⟩:=h.bd
 have hg:=h.n
 have hk:=(xIu (N:=N)).set hu n2 (by omega)
 have hq:∀q:u<((List.replicate N 0).set u (16*1+(u:Int))).length,1<=((List.replicate N 0).set u (16*1+(u:Int)))[u]:=fun q=>by
  rw[List.getElem_set_self];omega
 have r0:=xMc (L:=L) h.ok hc (xIu (N:=N)) n1 n2 hL hu (by omega)
 rw[show(16*1+(u:Int)).toNat=(16+n.Num).toNat by omega] at r0
 have t0:=xK0 (L:=L) (x:=x) (n:=n) (by omega) (by omega) s16 hn (by omega)
 have r1:=xBI (L:=L) h.ok (xNF N u) hk n1 n2 hL (n:=(u:Int)) (by omega) (by omega) (fun q=>hq q) (k:=0) (by omega) (by omega)
 rw[show(0:Int).toNat=0 from rfl,hs0] at r1
 have hls:=xA2 (key:=16+(u:Int)) (by omega) (by omega)
 have r2:=xJM (L:=L) h.ok (yL9 N) hk n1 n2 hL (n:=(u:Int)) (by omega) (by omega) (fun q=>hq q) (k:=1+(u:Int)) (by omega) (by omega) (b:=mkS (lsB (16+(u:Int)))) (by rw[yOK];exact hls.2)
 rw[show(1+(u:Int)).toNat=1+u by omega] at r2
 refine⟨cE N,yAE.z,yL9 N,fun m ka kb=>?_⟩
 rw[yRn (xK9 hn) (by rfl) (by rw[hnn];exact r0) t0 (by omega) (by omega) (by omega)]
 rw[yRn (xH3 rfl) (by rfl) (by rw[hnn];exact r1) (xHq hL h.may hx hxl rfl) (by omega) (by omega) (by omega)]
 rw[yRn (xH2 hL h.may rfl (by show 1<=16+n.Num;omega) (by show 16+n.Num<=_;omega) (by show 0<=n.Num;omega) (by show n.Num<_;omega)) (by rfl) (by
  rw[hnn]
  show yFZ L _ (u:Int) ⟨2,1+n.Num,mkS (lsB (16+n.Num)),0⟩=_
  rw[hnu];exact r2) (xHp rfl _) (by omega) (by omega) (by omega)]
 rw[hnu]
 rfl
end
section
variable {L N u:Nat} [yOD L] {x:yAR} {s:List ByteArray} {c:List (List V)} {cs:List yAI}
theorem xKn{n:yBO}{most:Int}(hLL:1000000<L)(h:PGeo x N s)(hc:CE c N)(hu:u<N)(hnu:n.Num=u)(hk0:n.Key=0){xb:Bs}(hx:yNv 1 [] xIg (xJz (yB2 x))=(xb,0))(hxl:xb.length<=512)(hs0:s.getD 0 noS=mkS xb)
  (hlen:(cs.length:Int)<=x.Log) (hc40:cs.length<=40) (hmay:∀c∈cs,yQX c) (hat:∀i (h:i<cs.length),s.getD (1+2*N+i) noS=yXG cs[i]) (hend:(cs.length:Int)<x.Log->s.getD (1+2*N+cs.length) noS=noS) (hm:(cs.length:Int)+4<=most):
  ∃c',CE c' N/\yEr L x (dvK s c (List.replicate N 0) 1) n 13 most=some (dvK (s.set (1+u) (mkS (lsB (16+(u:Int))))) c' ((List.replicate N 0).set u (16*1+(u:Int))) (1+1),
   {n with Busy:=true,Op:=⟨13,yAK.z,0,0,noS,0,0⟩,Key:=16+(u:Int),Count:=1,Serial:=0,Asked:=n.Clock,Table:=(bh6 x cs).t,Done:=cs.length,At:=0,P:=yAP.z,St:=yAG.z },yAE.z,3+(cs.length:Int)+1,true,()):=by
 have hL:200000<L:=yOD.h
 obtain⟨n1,n2,l8,l512,s1,s16,sl,hl⟩:=h.bd
 have hb:=xGm (L:=L) (x:=x) (n:={n with Busy:=true,Op:=⟨13,yAK.z,0,0,noS,0,0⟩}) (by omega) h.may (by show 0<=n.Num;omega) (by show n.Num<_;have:=h.n;omega) rfl hk0
 have hls:=xA2 (key:=16+(u:Int)) (by omega) (by omega)
 have hk:=(xIu (N:=N)).set hu n2 (by omega)
 obtain⟨c1,b1,k1,e1⟩:=xHI (L:=L) (α:=yAC×yBO×yAE×Int×Bool×Unit) (nn:={n with Busy:=true,Op:=⟨13,yAK.z,0,0,noS,0,0⟩}) (z1:=yAC.z) (z2:=yBO.z) (z3:=yAE.z) (b:=yAE.z) (n:={n with Busy:=true,Op:=⟨13,yAK.z,0,0,noS,0,0⟩,At:=0 }) (most:=most) h hc hu hnu hnu hx hxl hs0 rfl (by omega)
 have hq:∀q:u<((List.replicate N 0).set u (16*1+(u:Int))).length,1<=((List.replicate N 0).set u (16*1+(u:Int)))[u]:=fun q=>by
  rw[List.getElem_set_self];omega
 have hne:∀i,(s.set (1+u) (mkS (lsB (16+(u:Int))))).getD (1+2*N+i) noS=s.getD (1+2*N+i) noS:=fun i=>by
  rw[List.getD_eq_getElem?_getD,List.getElem?_set_ne (by omega),←List.getD_eq_getElem?_getD]
 obtain⟨c2,k2,e2⟩:=xC5 (L:=L) (α:=yAC×yBO×yAE×Int×Bool×Unit) (u:=u) (nn:={n with Busy:=true,Op:=⟨13,yAK.z,0,0,noS,0,0⟩}) (z1:=yAC.z) (z2:=yBO.z) (z3:=yAE.z) (most:=most) (cs:=cs) h.may h.n (h.ok.set (1+u) (by rw[yOK];exact hls.2)) hk hnu hu hq (by rw[List.length_set];exact hl) hlen hc40 hmay (fun i hi=>by rw[hne];exact hat i hi) (fun q=>by rw[hne];exact hend q)
  cs.length 0 c1 {n with Busy:=true,Op:=⟨13,yAK.z,0,0,noS,0,0⟩,Key:=16+(u:Int),Count:=1,Table:=(bh6 x []).t,Done:=0,Serial:=0,Asked:=n.Clock,At:=3 } b1 3 (by omega) k1 rfl (by show(13:Int)≠0;decide) rfl (by rw[List.take_zero]) (by omega) (by omega) (by omega)
 refine⟨c2,k2,?_⟩
 obtain⟨m,hm3⟩:∃m,L=m+1+1+1:=⟨L-3,by omega⟩
 unfold yEr ySv
 rw[hb,yAB]
 dsimp only
 rw[show yAQ (α:=yAC×yBO×yAE×Int×Bool×Unit) (yFK (yCK L) (yFZ L) (yCJ L)) L=yAQ (rnF L) (m+1+1+1) by rw[←hm3]]
 refine(e1 m _ _).trans ((e2 m _ _ (by omega)).trans ?_)
 rfl
end
section
variable {L:Nat} [yOD L] {x:yAR} {N:Nat} {s:List ByteArray} {c:List (List V)}
theorem xCt{l:List yAL}(hl:l.length<=100000):yGq L (l.map hV) (l.map hV)=some true:=by
 have hL:200000<L:=yOD.h
 unfold yGq yK0
 rw[yAJ (bne_self_eq_false _)]
 exact yJh (F:=yEH) (fun k=>(l.map hV,l.map hV,(k:Int),())) l.length () (fun k hk kn ka kb=>by
  show(bif decide ((k:Int)<((l.map hV).length:Int)) then _ else _)=_
  dsimp only
  rw[List.length_map,yAT (decide_eq_true (by omega)),yTv yJe hk,yTv yJe hk]
  simp only[beq_self_eq_true,Bool.true_and,Bool.not_true,cond_false]
  rw[yAY (by omega) (by omega)]
  rfl) (fun kn ka kb=>by
  show(bif decide ((l.length:Int)<((l.map hV).length:Int)) then _ else _)=_
  rw[List.length_map,yAJ (decide_eq_false (by omega))]) l.length 0 L (by omega) (by omega) _ _
theorem xKy{a:Tb}(hs:a.s.length<=1000)(hl:a.H.length+a.Q.length<=10000):yO6 L a.t a.t=some true:=by
 have hL:200000<L:=yOD.h
 unfold yO6 yRg
 rw[yAJ (bne_self_eq_false _),show a.t.Holds=a.H.map hV from rfl,show a.t.Queue=a.Q.map hV from rfl,xCt (by omega),yAB,Bool.not_true,cond_false,xCt (by omega),yAB,Bool.not_true,cond_false]
 exact yJh (F:=yJy) (fun k=>(a.t,a.t,(k:Int),())) a.s.length () (fun k hk kn ka kb=>by
  show(bif decide ((k:Int)<((a.s.map slV).length:Int)) then _ else _)=_
  dsimp only
  rw[show a.t.Slots=a.s.map slV from rfl,List.length_map,yAT (decide_eq_true (by omega)),yTv yRr hk,yTv yRr hk]
  simp only[beq_self_eq_true,Bool.true_and,Bool.not_true,cond_false]
  rw[yAY (by omega) (by omega)]
  rfl) (fun kn ka kb=>by
  show(bif decide ((a.s.length:Int)<((a.s.map slV).length:Int)) then _ else _)=_
  rw[List.length_map,yAJ (decide_eq_false (by omega))]) a.s.length 0 L (by omega) (by omega) _ _
end
theorem xJJ{L:Nat}{x:yAR}{i:Int}(hm:(yB2 x).may=true)(h0:0<=i)(h1:i<x.Nodes):yDL L x i=some (1+i):=by
 have n2:x.Nodes<=16:=(Geo.may_ok hm).n2
 unfold yDL yPb
 rw[yRH,yAB,hm,Bool.not_true,cond_false,yAY (n:=x.Nodes-1) (by omega) (by omega),yXu,yAB,decide_eq_true (by omega),Bool.not_true,cond_false,yAY (by omega) (by omega)]
section
variable {L N u:Nat} [yOD L] {x:yAR} {s:List ByteArray} {b:ByteArray}
theorem xL9(hl:yDL L x u=some (1+(u:Int)))(hs5:s.length<=100000){c c':List (List V)}{ks ks':List Int}{nx nx':Int}(n:yBO)(t:yAF)(w d1 d2 d3:Int)(ka:_->Option Bool) kb:
  yAQ (yCr (α:=Bool) (yDL L)) L ((u:Int),w,x,dvK (s.set (1+u) b) c' ks' nx',dvK s c ks nx,n,t,d1,d2,d3,0,()) ka kb=ka ((u:Int),w,dvK s c ks nx,n,t,d1,d2,d3,()):=by
 have hL:200000<L:=yOD.h
 refine(yJh (F:=yCr (α:=Bool) (yDL L)) (fun k=>((u:Int),w,x,dvK (s.set (1+u) b) c' ks' nx',dvK s c ks nx,n,t,d1,d2,d3,(k:Int),())) s.length ((u:Int),w,dvK s c ks nx,n,t,d1,d2,d3,()) (fun k hk kn ka kb=>?_) (fun kn ka kb=>?_) s.length 0 L (by omega) (by omega) ka kb)
 ·show(bif decide ((k:Int)<(((s.set (1+u) b).map txV).length:Int)) then _ else _)=_
  dsimp only
  rw[List.length_map,List.length_set,yAT (decide_eq_true (by omega)),hl,yAB]
  by_cases e:k=1+u
  ·rw[yAJ (show((k:Int) !=1+(u:Int))=false by rw[bne_eq_false_iff_eq];omega),yAY (by omega) (by omega)]
   rfl
  ·rw[yAT (bne_iff_ne.2 (by omega)),show(dvK (s.set (1+u) b) c' ks' nx').S=(s.set (1+u) b).map txV from rfl,show(dvK s c ks nx).S=s.map txV from rfl,xG5 (by omega) (by rw[List.length_set];omega),xG5 (by omega) (by omega),Int.toNat_natCast,xER (by rw[List.length_set];exact hk),xER hk,List.getElem_set_ne (by omega),beq_self_eq_true,Bool.not_true,cond_false,yAY (by omega) (by omega)]
   rfl
 ·show(bif decide ((s.length:Int)<(((s.set (1+u) b).map txV).length:Int)) then _ else _)=_
  rw[List.length_map,List.length_set,yAJ (decide_eq_false (by omega))]
theorem xKS(hm:(yB2 x).may=true):∃m:Int,w64 ((w64 ((w64 (x.Log+(w64 (2*(w64 ((w64 (4*x.Nodes))+10))))))+(w64 ((w64 (2*x.Blocks))*x.Per))))+8)=m/\x.Log+2*(4*x.Nodes+10)+8<=m:=by
 have h:=Geo.may_ok hm
 have n1:1<=x.Nodes:=h.n1
 have n2:x.Nodes<=16:=h.n2
 have l2:x.Log<=512:=h.l2
 have l1:8*x.Slots<=x.Log:=h.l1
 have s1:1<=x.Slots:=h.s1
 have b1:1<=x.Blocks:=h.b1
 have b2:x.Blocks<=64:=h.b2
 have p1:1<=x.Per:=h.p1
 have p2:x.Per<=8:=h.p2
 have hb:=xDD (a:=2*x.Blocks) (b:=x.Per) (A:=128) (B:=8) (by omega) (by omega) (by omega) p2
 refine⟨_,rfl,?_⟩
 rw[yAY (n:=4*x.Nodes) (by omega) (by omega),yAY (n:=4*x.Nodes+10) (by omega) (by omega),yAY (n:=2*(4*x.Nodes+10)) (by omega) (by omega),yAY (n:=x.Log+_) (by omega) (by omega),yAY (n:=2*x.Blocks) (by omega) (by omega),yAY (n:=2*x.Blocks*x.Per) (by omega) (by omega),yAY (n:=_+2*x.Blocks*x.Per) (by omega) (by omega),yAY (by omega) (by omega)]
 omega
theorem xNW(hL:1000000<L)(hw:yDJ L=some true)(x:yAR)(cs:List yAI)(node clock:Int):yMC L x (cs.map cW) node clock=some true:=by
 have wk:(yAA (yDJ L) fun r=>some r)=some true:=by rw[hw];rfl
 have hL2:200000<L:=yOD.h
 unfold yMC yJf
 rw[yRH,yAB]
 cases hm:(yB2 x).may with
 | false=>rw[Bool.not_false,cond_true,wk]
 | true=>
 rw[Bool.not_true,cond_false,List.length_map]
 by_cases h1:8<x.Blocks
 ·rw[yAT (decide_eq_true h1),wk]
 rw[yAJ (decide_eq_false h1)]
 by_cases h2:40<(cs.length:Int)
 ·rw[yAT (decide_eq_true h2),wk]
 rw[yAJ (decide_eq_false h2)]
 by_cases h3:x.Log<(cs.length:Int)
 ·rw[yAT (decide_eq_true h3),wk]
 rw[yAJ (decide_eq_false h3)]
 by_cases h4:node<0
 ·rw[yAT (decide_eq_true h4),wk]
 rw[yAJ (decide_eq_false h4)]
 by_cases h5:x.Nodes<=node
 ·rw[yAT (decide_eq_true h5),wk]
 rw[yAJ (decide_eq_false h5)]
 obtain⟨u,rfl⟩:=Int.eq_ofNat_of_zero_le (show 0<=node by omega)
 have hok:=Geo.may_ok hm
 have n1:1<=x.Nodes:=hok.n1
 have n2:x.Nodes<=16:=hok.n2
 obtain⟨N,hN⟩:∃N:Nat,x.Nodes=N:=⟨x.Nodes.toNat,by omega⟩
 obtain⟨xb,xh,s,hxb,hxl,hs0,F,-,hmade⟩:=xNX (L:=L) hm hL2 hN
 have G0:PGeo x N s:=⟨hm,hN,F.ok,F.len⟩
 obtain⟨-,-,l8,l512,s1,s16,sl,hsl⟩:=G0.bd
 have hs5:s.length<=100000:=by have:=(yUq hok).2;have:=F.len;omega
 have hC:CE (List.replicate N [V.sl [] true]) N:=⟨List.length_replicate ..,fun r hr=>⟨true,List.eq_of_mem_replicate hr⟩⟩
 rw[hmade,yAB]
 dsimp only
 rw[yHo rfl (yNw _),ySB (by omega) (by rw[hC.1];omega) hC.nm,ySB (by omega) (by rw[List.length_map,List.length_replicate];omega) (yKI _),ySB (by simp) (by simp) (by rfl)]
 rw[List.take_length,List.take_length,List.take_length]
 refine(xGL (L:=L) (cs:=cs) (s:=s) (C:=List.replicate N [V.sl [] true]) (K:=(List.replicate N (0:Int)).map inV) (y:=(u:Int)) (z:=clock) hm hN (by omega) (by omega) (by omega) hs5 cs.length 0 (Nat.zero_add _) L (by omega) _ _).trans ?_
 by_cases hall:∀j,0<=j->j<cs.length->yQX (cs.getD j yAI.z)
 ·rw[if_pos hall]
  have hmay:∀c∈cs,yQX c:=fun c hc=>by
   obtain⟨i,hi,rfl⟩:=List.getElem_of_mem hc
   have:=hall i (Nat.zero_le _) hi
   rw[List.getD_eq_getElem?_getD,List.getElem?_eq_getElem hi] at this
   exact this
  have hS5:(lgS s (1+2*N) cs cs.length).length<=100000:=by rw[yPS];exact hs5
  have G:PGeo x N (lgS s (1+2*N) cs cs.length):=⟨hm,hN,xLP F.ok _,by rw[yPS];exact F.len⟩
  have hS0:(lgS s (1+2*N) cs cs.length).getD 0 noS=mkS xb:=by rw[xEt _ (.inl (by omega))];exact hs0
  have hat:∀i (h:i<cs.length),(lgS s (1+2*N) cs cs.length).getD (1+2*N+i) noS=yXG cs[i]:=fun i hi=>by
   rw[xLO _ hi (Nat.le_refl _) (by omega),List.getD_eq_getElem?_getD,List.getElem?_eq_getElem hi];rfl
  have hend:(cs.length:Int)<x.Log->(lgS s (1+2*N) cs cs.length).getD (1+2*N+cs.length) noS=noS:=fun h=>by
   rw[xEt _ (.inr (Nat.le_refl _))]
   exact F.no _ (by omega) (by show((1+2*N+cs.length:Nat):Int)<1+2*x.Nodes+x.Log;omega)
  have hSl:1+2*N<=(lgS s (1+2*N) cs cs.length).length:=by rw[yPS];omega
  generalize lgS s (1+2*N) cs cs.length=S at*
  obtain⟨most,hme,hmost⟩:=xKS hm
  have hu:u<N:=by omega
  obtain⟨c',hc',hrun⟩:=xKn (L:=L) (u:=u) (n:=(⟨u,clock,true,0,0,0,0,false,0,0,0,yAF.z,0,0,ySe.z,[],[],[],false,false,xCH.z,0,yAP.z,yDe.z,yAG.z,yCV.z,yCp.z⟩:yBO)) (most:=most) hL G hC hu rfl rfl hxb hxl hS0 (by omega) (by omega) hmay hat hend (by omega)
  have hAll:=all_eq (L:=L) (nx:=1) hC xIu hL2 G (by omega) (by omega) hat hend hmay
  have hle:=xJJ (L:=L) (x:=x) (i:=(u:Int)) hm (by omega) (by omega)
  have hsee:=xMj (L:=L) (key:=16+(u:Int)) hL2 (by omega) (by omega)
  have hsame:=xKy (L:=L) (a:=bh6 x cs) (by rw[(xGo x cs).1];omega) (by have:=(xGo x cs).2;omega)
  dsimp only
  rw[hme,show(⟨S.map txV,List.replicate N [V.sl [] true],(List.replicate N (0:Int)).map inV,1,[]⟩:yAC)=dvK S (List.replicate N [V.sl [] true]) (List.replicate N 0) 1 from rfl,hrun,yAB,hAll,yAB]
  dsimp only
  rw[Bool.not_true,cond_false,cond_false,yAJ (by rfl),yAJ (by rfl),yAY (n:=(List.length (cs.map cW):Int)+4) (by rw[List.length_map];omega) (by rw[List.length_map];omega),List.length_map,yAJ (decide_eq_false (by omega)),
   show(dvK (S.set (1+u) (mkS (lsB (16+(u:Int))))) c' ((List.replicate N 0).set u (16*1+(u:Int))) (1+1)).S=(S.set (1+u) (mkS (lsB (16+(u:Int))))).map txV from rfl,List.length_map,List.length_map,List.length_set,yAJ (bne_self_eq_false _),hle,yAB,xG5 (by omega) (by rw[List.length_set];omega),show(1+(u:Int)).toNat=1+u by omega,xER (by rw[List.length_set];omega),List.getElem_set_self,hsee,yAB]
  dsimp only
  refine(xL9 hle hS5 _ _ _ _ _ _ _ _).trans ?_
  dsimp only
  rw[show(dvK S (List.replicate N [V.sl [] true]) (List.replicate N 0) 1).Next=1 from rfl,yAY (n:=16*1) (by omega) (by omega),yAY (by omega) (by omega),yAT (beq_iff_eq.2 (by omega)),yAT (beq_self_eq_true _),yAT (by rfl),yAT (by rfl),yAT (beq_self_eq_true _),yAT (beq_self_eq_true _),hsame,yAB]
  exact wk
 ·rw[if_neg hall]
  exact wk
end
set_option maxRecDepth 100000 in
set_option maxHeartbeats 16000000 in
theorem xMw:yDJ 2000000=some true:=by kernel_rfl
end Go.Proofs.YtakljpcmbpaeaaaGreat

namespace Go.Proofs.YtakljpcmbpaeaaaGreat
end Go.Proofs.YtakljpcmbpaeaaaGreat

namespace Go.Proofs.YtakljpcmbpaeaaaGreat
open Go.RowKit
def xJ6(w:World):yEW:=fun g _=>g<w.heap.size
end Go.Proofs.YtakljpcmbpaeaaaGreat
