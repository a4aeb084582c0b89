/- Devices of nodes that have registered, whose caches are empty: breakwaterref06.Do: a read, a force, a registering. -/
import Derived.Test.YtakljpcmbpaeaaaGreatPaxosEndsM41
import Derived.Test.YtakljpcmbpaeaaaGreatPaxosEndsM01
import Derived.Test.YtakljpcmbpaeaaaGreatPaxosEndsM34
set_option linter.unusedSimpArgs false
set_option linter.unusedVariables false
namespace Go.Proofs.YtakljpcmbpaeaaaGreat
open Go.RowKit
theorem xJz(N j:Nat):CE ((cE N).set j [V.sl [] true]) N:=⟨by rw[List.length_set];exact(yGY N).1,fun r hr=>by
 rcases List.mem_or_eq_of_mem_set hr with q | rfl
 ·exact(yGY N).2 r q
 ·exact⟨true,rfl⟩⟩
section
variable {s:List ByteArray} {c:List (List V)} {N j L:Nat}
theorem xKB(hs:SecOk s)(hc:CE c N)(h1:1<=N)(h2:N<=16)(hL:200000<L)(hj:j<=N){n:Int}(n0:0<=n)(nN:n<N){a:yBN}(k1:1<=a.Kind)(k2:a.Kind<=6){z:yAA}{α:Type}(k0:_->Option α):
  yKF (yCl L) (n,dvN s c N j,a,z,()) k0=k0 (n,dvN s c N j,a,z,false,()):=by
 unfold yKF
 dsimp only
 rw[xCg hs hc h1 h2 hL hj,yAC,yAJ (by rfl),yAJ (decide_eq_false (by omega)),show(dvN s c N j).Keys=((List.range N).map (yJm j)).map inV from rfl,yCy,yAJ (decide_eq_false (by omega)),yAJ (decide_eq_false (by omega)),decide_eq_false (by omega:¬6<a.Kind)]
theorem xLb(hs:SecOk s)(hc:CE c N)(h1:1<=N)(h2:N<=16)(hL:200000<L){n:Int}(n0:0<=n)(nN:n<N){a:yBN}(hk:(a.Kind !=6)=true){z:yAA}{w:Bool}{α:Type}(k0:_->Option α)(ka):
  yIL (yGr L) (n,dvN s c N N,a,z,w,()) k0 ka=k0 (n,dvN s c N N,a,z,w,()):=by
 unfold yIL
 dsimp only
 obtain⟨i,rfl⟩:=Int.eq_ofNat_of_zero_le n0
 rw[yAb hk,show(dvN s c N N).Keys=((List.range N).map (yJm N)).map inV from rfl,yP2 (by omega) (by omega),Int.toNat_natCast,yRn (by omega),xKn hs hc h1 h2 hL (by omega) (by omega),yAC,yAJ (by rfl)]
theorem xKC(hs:SecOk s)(hc:CE c N)(h1:1<=N)(h2:N<=16)(hL:200000<L){n:Int}{a:yBN}{z:yAA}{α:Type}(k0:_->Option α):
  yKG (yFa L) (n,dvN s c N j,a,z,()) k0=k0 (n,a,z,(s.map txV,cE N,((List.range N).map (yJm j)).map inV,(j:Int)+1,[],()),()):=by
 unfold yKG
 dsimp only
 rw[xGE hs hc h1 h2 hL,yAC,yIx rfl (yMc _),yIx rfl (yGY N).nm,yIx rfl (yPe _),yRQ (by simp) (by simp) (by rfl)]
 rfl
theorem xKD(hs:SecOk s)(hc:CE c N)(h1:1<=N)(h2:N<=16)(hL:200000<L){n:Int}{a:yBN}{z:yAA}{α:Type}(k0:_->Option α):
  yKH (yIO L) (n,a,z,(s.map txV,cE N,((List.range N).map (yJm j)).map inV,(j:Int)+1,[],()),[],()) k0=k0 (n,a,z,(s.map txV,cE N,((List.range N).map (yJm j)).map inV,(j:Int)+1,[],()),[],-1,()):=by
 unfold yKH
 dsimp only
 rw[xG9 (by omega),yAC,yIx rfl (yMc _),yIx rfl (yGY N).nm,yIx rfl (yPe _)]
theorem yQu(hs:SecOk s)(hc:CE c N)(h1:1<=N)(h2:N<=16)(hL:200000<L){n:Int}(n0:0<=n)(nN:n<N){k:Int}(k0:0<=k)(kl:k<s.length):yEM L (dvN s c N N) n ⟨1,k,noS,0⟩=some (dvN s (cE N) N N,s.getD k.toNat noS,0,()):=by
 have hm:=hs.m
 have hcl:=(yGY N).1
 unfold yEM yOE
 rw[xKB hs hc h1 h2 hL (Nat.le_refl _) n0 nN (by dsimp only;omega) (by dsimp only;omega)]
 rw[show ∀(α:Type) x ka kb,yII (α:=α) (n,x,(⟨1,k,noS,0⟩:yBN),yAA.z,false,()) ka kb=ka (n,x,⟨1,k,noS,0⟩,yAA.z,()) from fun _ _ _ _=>rfl]
 rw[show ∀(α:Type) x ka,yIJ (α:=α) (n,x,(⟨1,k,noS,0⟩:yBN),yAA.z,()) ka=ka (n,x,⟨1,k,noS,0⟩,yAA.z,false,()) from fun _ _ _=>rfl]
 rw[show ∀(α:Type) x ka,yFj (α:=α) (yBm L) (n,x,(⟨1,k,noS,0⟩:yBN),yAA.z,false,()) ka=ka (n,x,⟨1,k,noS,0⟩,yAA.z,false,false,()) from fun _ _ _=>rfl]
 rw[show ∀(α:Type) x ka kb,yIK (α:=α) (n,x,(⟨1,k,noS,0⟩:yBN),yAA.z,false,false,()) ka kb=ka (n,x,⟨1,k,noS,0⟩,yAA.z,false,()) from fun _ _ _ _=>rfl]
 rw[xLb hs hc h1 h2 hL n0 nN (by rfl)]
 have p6:∀(α:Type) (ka:_->Option α),yFk (n,dvN s c N N,(⟨1,k,noS,0⟩:yBN),yAA.z,false,()) ka=ka (n,dvN s c N N,⟨1,k,noS,0⟩,yAA.z,false,()):=fun α ka=>by
  unfold yFk
  dsimp only
  rw[cond_false,yAb (by rfl),yAJ (decide_eq_false (by omega)),show(dvN s c N N).S=s.map txV from rfl,List.length_map,decide_eq_false (by omega:¬(s.length:Int)<=k)]
 rw[p6]
 rw[show ∀(α:Type) x ka kb,yIM (α:=α) (n,x,(⟨1,k,noS,0⟩:yBN),yAA.z,false,()) ka kb=ka (n,x,⟨1,k,noS,0⟩,yAA.z,()) from fun _ _ _ _=>rfl]
 rw[xKC hs hc h1 h2 hL]
 dsimp only
 obtain⟨i,rfl⟩:=Int.eq_ofNat_of_zero_le n0
 obtain⟨v,rfl⟩:=Int.eq_ofNat_of_zero_le k0
 have hi:i<N:=by omega
 have hv:v<s.length:=by omega
 rw[hcl,yW8 (by omega) (by omega),Nat.zero_add,Int.toNat_natCast,xFq (by rw[hcl];exact hi) (by obtain⟨b,hb⟩:=(yGY N).at_ hi;rw[yJb hb];rfl),yIx rfl (yMc _),yIx hcl.symm (yGY N).nm,yIx rfl (yPe _),(yGY N).aR hi,xKD hs hc h1 h2 hL]
 dsimp only
 rw[yAb (by rfl),yAJ (by rfl),List.length_map,yW8 (by omega) (by omega),Nat.zero_add,Int.toNat_natCast,xFq (by rw[List.length_map];exact hv) (by rw[yJb (yIe hv)];rfl),yRQ (by rw[List.length_map];omega) (by omega) (yMc _),Nat.zero_add,hcl,yRQ (by rw[hcl];omega) (by omega) (yGY N).nm,Nat.zero_add,yCy,yRQ (by rw[yCy];omega) (by omega) (yPe _),xEZ hv]
 rw[List.take_of_length_le (by rw[List.length_map];omega),List.take_of_length_le (by omega),List.take_of_length_le (by rw[yCy];omega),List.getD_eq_getElem?_getD,List.getElem?_eq_getElem hv]
 rfl
theorem ySr(hs:SecOk s)(hc:CE c N)(h1:1<=N)(h2:N<=16)(hL:200000<L){n:Int}(n0:0<=n)(nN:n<N){k:Int}(k0:0<=k)(kl:k<s.length){b:ByteArray}(hb:b.size<=512):yEM L (dvN s c N N) n ⟨2,k,b,0⟩=some (dvN (s.set k.toNat b) (cE N) N N,noS,0,()):=by
 have hm:=hs.m
 have hcl:=(yGY N).1
 unfold yEM yOE
 rw[xKB hs hc h1 h2 hL (Nat.le_refl _) n0 nN (by dsimp only;omega) (by dsimp only;omega)]
 rw[show ∀(α:Type) x ka kb,yII (α:=α) (n,x,(⟨2,k,b,0⟩:yBN),yAA.z,false,()) ka kb=ka (n,x,⟨2,k,b,0⟩,yAA.z,()) from fun _ _ _ _=>rfl]
 rw[show ∀(α:Type) x ka,yIJ (α:=α) (n,x,(⟨2,k,b,0⟩:yBN),yAA.z,()) ka=ka (n,x,⟨2,k,b,0⟩,yAA.z,true,()) from fun _ _ _=>rfl]
 have p3:∀(α:Type) x (ka:_->Option α),yFj (yBm L) (n,x,(⟨2,k,b,0⟩:yBN),yAA.z,true,()) ka=ka (n,x,⟨2,k,b,0⟩,yAA.z,true,false,()):=fun α x ka=>by
  unfold yFj
  dsimp only
  rw[cond_true,yAJ (decide_eq_false (by omega))]
  rfl
 rw[p3]
 rw[show ∀(α:Type) x ka kb,yIK (α:=α) (n,x,(⟨2,k,b,0⟩:yBN),yAA.z,true,false,()) ka kb=ka (n,x,⟨2,k,b,0⟩,yAA.z,true,()) from fun _ _ _ _=>rfl]
 rw[xLb hs hc h1 h2 hL n0 nN (by rfl)]
 have p6:∀(α:Type) (ka:_->Option α),yFk (n,dvN s c N N,(⟨2,k,b,0⟩:yBN),yAA.z,true,()) ka=ka (n,dvN s c N N,⟨2,k,b,0⟩,yAA.z,false,()):=fun α ka=>by
  unfold yFk
  dsimp only
  rw[cond_true,yAJ (decide_eq_false (by omega)),show(dvN s c N N).S=s.map txV from rfl,List.length_map,decide_eq_false (by omega:¬(s.length:Int)<=k)]
 rw[p6]
 rw[show ∀(α:Type) x ka kb,yIM (α:=α) (n,x,(⟨2,k,b,0⟩:yBN),yAA.z,false,()) ka kb=ka (n,x,⟨2,k,b,0⟩,yAA.z,()) from fun _ _ _ _=>rfl]
 rw[xKC hs hc h1 h2 hL]
 dsimp only
 obtain⟨i,rfl⟩:=Int.eq_ofNat_of_zero_le n0
 obtain⟨v,rfl⟩:=Int.eq_ofNat_of_zero_le k0
 have hi:i<N:=by omega
 have hv:v<s.length:=by omega
 have es:(s.map txV).set v (((s.map txV).getD v []).take 0++([V.str b]++((s.map txV).getD v []).drop 1))=(s.set v b).map txV:=by
  rw[List.map_set,yDo (yIe hv)];rfl
 rw[hcl,yW8 (by omega) (by omega),Nat.zero_add,Int.toNat_natCast,xFq (by rw[hcl];exact hi) (by obtain⟨b,hb⟩:=(yGY N).at_ hi;rw[yJb hb];rfl),yIx rfl (yMc _),yIx hcl.symm (yGY N).nm,yIx rfl (yPe _),(yGY N).aR hi,xKD hs hc h1 h2 hL]
 dsimp only
 rw[yAJ (by rfl),yAb (by rfl),List.length_map,yW8 (by omega) (by omega),Nat.zero_add,Int.toNat_natCast,yCf (decide_eq_true hv),yCf (by rfl),yCf (by rw[yDo (yIe hv)];rfl),yAJ (by rfl),es,Nat.zero_add,
  yRQ (by rw[List.length_map,List.length_set];omega) (by omega) (yMc _),hcl,Nat.zero_add,yRQ (by rw[hcl];omega) (by omega) (yGY N).nm,yCy,Nat.zero_add,yRQ (by rw[yCy];omega) (by omega) (yPe _)]
 rw[List.take_of_length_le (by rw[List.length_map,List.length_set];omega),List.take_of_length_le (by omega),List.take_of_length_le (by rw[yCy];omega)]
 rfl
theorem xKm(hs:SecOk s)(hc:CE c N)(h1:1<=N)(h2:N<=16)(hL:200000<L)(hj:j<N):∃b,yEM L (dvN s c N j) j ⟨6,0,noS,0⟩=some (dvN s ((cE N).set j [V.sl [] true]) N (j+1),b,0,()):=by
 have hm:=hs.m
 have hcl:=(yGY N).1
 have hj16:j<16:=by omega
 refine⟨yI2 ((yTH [] 6 [17*(j:Int)+16]).1.map byV),?_⟩
 unfold yEM yOE
 rw[xKB hs hc h1 h2 hL (by omega) (by omega) (by omega) (by dsimp only;omega) (by dsimp only;omega)]
 rw[show ∀(α:Type) x ka kb,yII (α:=α) ((j:Int),x,(⟨6,0,noS,0⟩:yBN),yAA.z,false,()) ka kb=ka ((j:Int),x,⟨6,0,noS,0⟩,yAA.z,()) from fun _ _ _ _=>rfl]
 rw[show ∀(α:Type) x ka,yIJ (α:=α) ((j:Int),x,(⟨6,0,noS,0⟩:yBN),yAA.z,()) ka=ka ((j:Int),x,⟨6,0,noS,0⟩,yAA.z,false,()) from fun _ _ _=>rfl]
 have p3:∀(α:Type) (ka:_->Option α),yFj (yBm L) ((j:Int),dvN s c N j,(⟨6,0,noS,0⟩:yBN),yAA.z,false,()) ka=ka ((j:Int),dvN s c N j,⟨6,0,noS,0⟩,yAA.z,false,false,()):=fun α ka=>by
  unfold yFj
  dsimp only
  rw[cond_false,yAJ (by rfl),yAb (by rfl),show(dvN s c N j).Next=(j:Int)+1 from rfl,decide_eq_false (by omega:¬68719476736<=(j:Int)+1)]
 rw[p3]
 rw[show ∀(α:Type) x ka kb,yIK (α:=α) ((j:Int),x,(⟨6,0,noS,0⟩:yBN),yAA.z,false,false,()) ka kb=ka ((j:Int),x,⟨6,0,noS,0⟩,yAA.z,false,()) from fun _ _ _ _=>rfl]
 rw[show ∀(α:Type) f x ka kb,yIL (α:=α) f ((j:Int),x,(⟨6,0,noS,0⟩:yBN),yAA.z,false,()) ka kb=ka ((j:Int),x,⟨6,0,noS,0⟩,yAA.z,false,()) from fun _ _ _ _ _=>rfl]
 rw[show ∀(α:Type) x ka,yFk (α:=α) ((j:Int),x,(⟨6,0,noS,0⟩:yBN),yAA.z,false,()) ka=ka ((j:Int),x,⟨6,0,noS,0⟩,yAA.z,false,()) from fun _ _ _=>rfl]
 rw[show ∀(α:Type) x ka kb,yIM (α:=α) ((j:Int),x,(⟨6,0,noS,0⟩:yBN),yAA.z,false,()) ka kb=ka ((j:Int),x,⟨6,0,noS,0⟩,yAA.z,()) from fun _ _ _ _=>rfl]
 rw[xKC hs hc h1 h2 hL]
 dsimp only
 have hk:j<((List.range N).map (yJm j)).length:=by rw[List.length_map,List.length_range];exact hj
 have hgk:(((List.range N).map (yJm j)).map inV).getD j []=inV (yJm j j):=by
  rw[yDo (yIe hk),List.getElem_map,List.getElem_range]
 have hgc:(cE N).getD j []= [V.sl [] false]:=yDo (by unfold cE;rw[List.getElem?_replicate,if_pos hj])
 have ek:(((List.range N).map (yJm j)).map inV).set j (((((List.range N).map (yJm j)).map inV).getD j []).take 0++([V.int .i64 (17*(j:Int)+16)]++((((List.range N).map (yJm j)).map inV).getD j []).drop 1))=((List.range N).map (yJm (j+1))).map inV:=by
  rw[hgk]
  show(((List.range N).map (yJm j)).map inV).set j (inV (17*(j:Int)+16))=_
  rw[←List.map_set]
  congr 1
  refine List.ext_getElem (by rw[List.length_set,List.length_map,List.length_map]) fun i q1 q2=>?_
  rw[List.getElem_set,List.getElem_map,List.getElem_map,List.getElem_range]
  unfold yJm
  by_cases e:j=i
  ·rw[if_pos e,if_pos (by omega),e]
  ·rw[if_neg e]
   by_cases e2:i<j
   ·rw[if_pos e2,if_pos (by omega)]
   ·rw[if_neg e2,if_neg (by omega)]
 have ec:(cE N).set j (((cE N).getD j []).take 0++([V.sl [] true]++((cE N).getD j []).drop 1))=(cE N).set j [V.sl [] true]:=by rw[hgc];rfl
 have ew:w64 (w64 (16*((j:Int)+1))+(j:Int))=17*(j:Int)+16:=by
  rw[yAa (n:=16*((j:Int)+1)) (by omega) (by omega),yAa (by omega) (by omega)];omega
 have hce:=xJz N j
 have hP:=yV6 (L:=L) (by omega) (b:= []) (l:= [17*(j:Int)+16]) 6 (by simp) (by simp;omega)
 have hP:yCa L [] 6 [[V.int .i64 (17*(j:Int)+16)]]=some ((yTH [] 6 [17*(j:Int)+16]).1.map byV,(yTH [] 6 [17*(j:Int)+16]).2,()):=hP
 rw[hcl,yW8 (by omega) (by omega),Nat.zero_add,Int.toNat_natCast,xFq (by rw[hcl];exact hj) (by obtain⟨b,hb⟩:=(yGY N).at_ hj;rw[yJb hb];rfl),yIx rfl (yMc _),yIx hcl.symm (yGY N).nm,yIx rfl (yPe _),(yGY N).aR hj,xKD hs hc h1 h2 hL]
 dsimp only
 rw[yAJ (by rfl),yAJ (by rfl),yAJ (by rfl),yAJ (by rfl),yAJ (by rfl),yAb (by rfl),yCy,yW8 (by omega) (by omega),Nat.zero_add,Int.toNat_natCast,yCf (decide_eq_true hj),yCf (by rfl),yCf (by rw[hgk];rfl),hcl,yW8 (by omega) (by omega),yCf (decide_eq_true hj),yCf (by rfl),yCf (by rw[hgc];rfl),yW8 (by omega) (by omega),ew,ek,ec,
  xFq (by rw[yCy];exact hj) (by rw[yJb (yIe (by rw[List.length_map,List.length_range];exact hj))];rfl),yRn hj,show yJm (j+1) j=17*(j:Int)+16 by unfold yJm;rw[if_pos (by omega)],hP,yAC]
 dsimp only
 rw[yCf (Nat.ble_eq_true_of_le (by omega)),List.take_length,yCf (yNp _),Nat.zero_add,yRQ (by omega) (by rw[List.length_map];omega) (yMc _),Nat.zero_add,yRQ (by rw[hce.1];omega) (by omega) hce.nm,yRQ (by rw[yCy];omega) (by omega) (yPe _)]
 rw[List.take_length,List.take_of_length_le (by rw[hce.1];omega),List.take_of_length_le (by rw[yCy];omega),yAa (by omega) (by omega)]
 rfl
end
def xMW(N:Nat):List (List V):=(cE N).set (N-1) [V.sl [] true]
theorem xJx(N:Nat):CE (xMW N) N:=xJz N (N-1)
abbrev dvF(s:List ByteArray)(N:Nat):yAA:=dvN s (xMW N) N N
theorem xKo{L N:Nat}{s:List ByteArray}(hs:SecOk s)(h1:1<=N)(h2:N<=16)(hL:200000<L):∃c,CE c N/\yQQ L N (s.map txV)=some (dvN s c N 0,0,()):=by
 have hm:=hs.m
 have hc:CE (List.replicate N [V.sl [] true]) N:=⟨List.length_replicate ..,fun r hr=>⟨true,List.eq_of_mem_replicate hr⟩⟩
 refine⟨_,hc,?_⟩
 have ek:List.replicate N [V.int .i64 0]=((List.range N).map (yJm 0)).map inV:=by
  refine List.ext_getElem (by simp) fun i h3 h4=>?_
  simp[yJm,inV]
 have hck:=xCg (j:=0) hs hc h1 h2 hL (Nat.zero_le _)
 unfold yQQ yRz
 rw[yAJ (decide_eq_false (by omega)),yAJ (decide_eq_false (by omega)),yCf (yR8 1 fun _=>rfl),xCK (by rw[List.length_map];omega) (by rw[List.length_map];omega),Int.toNat_natCast,
  yCf (decide_eq_true (by omega)),yCf (decide_eq_true (by omega)),yCf (decide_eq_true (by omega)),yCf (decide_eq_true (by omega)),yCf (decide_eq_true (by omega)),yCf (decide_eq_true (by omega)),yCf (decide_eq_true (by omega)),yCf (decide_eq_true (by omega)),
  yRQ (by rw[List.length_map];omega) (by rw[List.length_map];omega) (yMc _),yRQ (by rw[hc.1];omega) (by omega) hc.nm,ek,yRQ (by rw[yCy];omega) (by omega) (yPe _),
  List.take_of_length_le (by rw[List.length_map];omega),List.take_of_length_le (by rw[hc.1];omega),List.take_of_length_le (by rw[yCy];omega)]
 show(yAB (yCl L (dvN s (List.replicate N [V.sl [] true]) N 0)) _)=_
 rw[hck,yAC,yAJ (by rfl),yRQ (by rw[List.length_map];omega) (by rw[List.length_map];omega) (yMc _),yRQ (by rw[hc.1];omega) (by omega) hc.nm,yRQ (by rw[yCy];omega) (by omega) (yPe _)]
 rfl
section
variable {s:List ByteArray} {c:List (List V)} {N j L:Nat}
theorem xGJ(h2:N<=16)(hj:j<=N){i:Nat}(hi:i<j):yAv L ⟨dvN s c N j⟩ (17*(i:Int)+16)=some true:=xDs (L:=L) h2 hj hi
theorem xEq(hL:0<L)(w:yAH):yCh L w []=some true:=by
 obtain⟨m,rfl⟩:∃m,L=m+1:=⟨L-1,by omega⟩
 rfl
theorem xDu(hL:0<L)(k:Int):yAj L [] ((k,()),())=some (-1):=by
 obtain⟨m,rfl⟩:∃m,L=m+1:=⟨L-1,by omega⟩
 rfl
theorem xEL{l:List ByteArray}(hl:l.length<L)(hl2:l.length<=1000000)(hz:∀x∈l,x.size<=512):yFQ L (l.map txV)=some true:=by
 have l0:=fun ka kb=>yE0 (α:=Int) (F:=yAc) (fun k=>(l.map txV,(),(l.length:Int),(k:Int),())) l.length () (fun k hk kn ka kb=>by
  unfold yAc
  dsimp only
  have hz:=hz l[k] (List.getElem_mem hk)
  rw[yAb (decide_eq_true (by omega)),xCI (by omega) (by omega),Int.toNat_natCast,xEZ hk,yAJ (decide_eq_false (by omega)),yAa (by omega) (by omega)]
  rfl) (fun kn ka kb=>by
  unfold yAc
  dsimp only
  rw[yAJ (decide_eq_false (by omega))]) l.length 0 L (Nat.zero_add _) hl ka kb
 have e:yBS L (l.map txV) ()=some (-1):=by
  unfold yBS yCJ
  rw[List.length_map]
  exact l0 _ _
 unfold yFQ yNQ yBi yB8
 rw[e];rfl
theorem xCD(hs:SecOk s)(hc:CE c N)(h1:1<=N)(h2:N<=16)(hL:200000<L)(hj:j<=N):yDI L ⟨dvN s c N j⟩=some true:=by
 have hm:=hs.m
 have hn:=hs.n
 have hcl:=hc.1
 have l0:=fun ka kb=>yE0 (α:=Bool) (F:=yCV (yCh L) (yAv L)) (fun k=>((⟨dvN s c N j⟩:yAH),((List.range N).map (yJm j)).map inV,(N:Int),(k:Int),())) N ((⟨dvN s c N j⟩:yAH),()) (fun k hk kn ka kb=>by
  have hg:=fun(h:k<j)=>xGJ (s:=s) (c:=c) (L:=L) h2 hj h
  unfold yCV
  dsimp only
  rw[show(dvN s c N j).Cache=c from rfl,yAb (decide_eq_true (by omega)),yP2 (by omega) (by omega),hc.gI (by omega) (by omega),Int.toNat_natCast,hc.aR hk,xEq (by omega),yAC,yAJ (by rfl),yRn hk]
  by_cases hkj:k<j
  ·rw[show yJm j k=17*(k:Int)+16 from if_pos hkj,yAb (by rw[bne_iff_ne];omega),hg hkj,yAC,yAJ (by rfl),
     show(17*(k:Int)+16).tmod 16=(k:Int) by rw[Int.tmod_eq_emod_of_nonneg (by omega)];omega,yAJ (by simp),yAa (by omega) (by omega)]
   rfl
  ·rw[show yJm j k=0 from if_neg hkj,yAJ (by rfl),yAa (by omega) (by omega)]
   rfl) (fun kn ka kb=>by
  unfold yCV
  dsimp only
  rw[yAJ (decide_eq_false (by omega))]) N 0 L (Nat.zero_add _) (by omega) ka kb
 have l1:=fun ka kb=>yE0 (α:=Bool) (F:=yDf (yAv L)) (fun k=>((⟨dvN s c N j⟩:yAH),(0:Int),([]:List (List V)),(0:Int),(k:Int),())) 0 () (fun k hk=>absurd hk (Nat.not_lt_zero _)) (fun kn ka kb=>rfl) 0 0 L rfl (by omega) ka kb
 unfold yDI yI8
 dsimp only
 rw[show(dvN s c N j).Keys=((List.range N).map (yJm j)).map inV from rfl,show(dvN s c N j).Cache=c from rfl,show(dvN s c N j).S=s.map txV from rfl,show(dvN s c N j).Next=(j:Int)+1 from rfl,yCy,List.length_map,hcl,
  yAJ (by rw[beq_eq_false_iff_ne];omega),xEL (by omega) (by omega) hs.z,yAC,yAJ (by rfl),yAJ (by rw[beq_eq_false_iff_ne];omega),yAJ (decide_eq_false (by omega)),yAJ (by simp),yAJ (decide_eq_false (by omega)),yAJ (decide_eq_false (by omega))]
 refine(l0 _ _).trans ?_
 dsimp only
 exact l1 _ _
theorem xKA(hs:SecOk s)(hc:CE c N)(h1:1<=N)(h2:N<=16)(hL:200000<L)(hj:j<=N):yIY L (dvN s c N j)=some 0:=by
 unfold yIY yNO
 rw[xCD hs hc h1 h2 hL hj];rfl
theorem xGI(hs:SecOk s)(hc:CE c N)(h1:1<=N)(h2:N<=16)(hL:200000<L)(hn:0<N){n:Int}(n0:0<=n)(nN:n<N):yDe L ⟨dvN s c N N⟩ n=some false:=by
 obtain⟨i,rfl⟩:=Int.eq_ofNat_of_zero_le n0
 have hi:i<N:=by omega
 have hC:∀x,yBx L [] x=some false:=fun x=>by
  obtain⟨m,rfl⟩:∃m,L=m+1:=⟨L-1,by omega⟩
  rfl
 have l0:=fun ka kb=>yE0 (α:=Int) (F:=yBJ (yBx L)) (fun k=>([[V.int .i64 (yJm N i)]],(dvN s c N N,()),(1:Int),(k:Int),())) 1 () (fun k hk kn ka kb=>by
  obtain rfl:k=0:=by omega
  unfold yBJ
  dsimp only
  rw[yAb (by rfl),xIK (by omega) (by simp) (by rfl),show aI [[V.int .i64 (yJm N i)]] ((0:Nat):Int).toNat 0=yJm N i from rfl,yAJ (decide_eq_false (by unfold yJm;rw[if_pos hi];omega)),show(dvN s c N N).Fenced= [] from rfl,hC,yAC,yAJ (by rfl)]
  rfl) (fun kn ka kb=>rfl) 1 0 L rfl (by omega) ka kb
 have e:yCU L [[V.int .i64 (yJm N i)]] (dvN s c N N,())=some (-1):=l0 _ _
 unfold yDe yGe yLy yMS yCC yCc
 dsimp only
 rw[show(dvN s c N N).Keys=((List.range N).map (yJm N)).map inV from rfl,yP2 (by omega) (by omega),Int.toNat_natCast,yRn hi,e];rfl
theorem xDj(hs:SecOk s)(hc:CE c N)(h1:1<=N)(h2:N<=16)(hL:200000<L){n:Int}(n0:0<=n)(nN:n<N):yEx L ⟨dvN s c N N⟩ n=some true:=by
 unfold yEx yIC
 dsimp only
 rw[yAb (decide_eq_true n0),show(dvN s c N N).Keys=((List.range N).map (yJm N)).map inV from rfl,yCy,decide_eq_true nN]
theorem xLc(hs:SecOk s)(hc:CE c N)(h1:1<=N)(h2:N<=16)(hL:200000<L){n:Int}(n0:0<=n)(nN:n<N){k:Int}(k0:0<=k)(kl:k<s.length):yCI L ⟨dvN s c N N⟩ n ⟨1,k,noS,0⟩=some 0:=by
 unfold yCI yDn
 dsimp only
 rw[xCD hs hc h1 h2 hL (Nat.le_refl _),yAC,yAJ (by rfl),xDj hs hc h1 h2 hL n0 nN,yAC,yAJ (by rfl),xGI hs hc h1 h2 hL (by omega) n0 nN]
 show(bif decide (k<0) then some (60:Int) else bif decide (((s.map txV).length:Int)<=k) then some 60 else some 0)=some 0
 rw[yAJ (decide_eq_false (by omega)),List.length_map,yAJ (decide_eq_false (by omega))]
theorem xLd(hs:SecOk s)(hc:CE c N)(h1:1<=N)(h2:N<=16)(hL:200000<L){n:Int}(n0:0<=n)(nN:n<N){k:Int}(k0:0<=k)(kl:k<s.length){b:ByteArray}(hb:b.size<=512):yCI L ⟨dvN s c N N⟩ n ⟨2,k,b,0⟩=some 0:=by
 have hb':=xEL (l:= [b]) (L:=L) (by simp;omega) (by simp) (fun x hx=>by rw[List.mem_singleton.1 hx];exact hb)
 have hb':yFQ L [[V.str b]]=some true:=hb'
 unfold yCI yDn
 dsimp only
 rw[xCD hs hc h1 h2 hL (Nat.le_refl _),yAC,yAJ (by rfl),xDj hs hc h1 h2 hL n0 nN,yAC,yAJ (by rfl),xGI hs hc h1 h2 hL (by omega) n0 nN,hb']
 show(bif decide (k<0) then some (60:Int) else bif decide (((s.map txV).length:Int)<=k) then some 60 else some 0)=some 0
 rw[yAJ (decide_eq_false (by omega)),List.length_map,yAJ (decide_eq_false (by omega))]
theorem xGM(hs:SecOk s)(hc:CE c N)(h1:1<=N)(h2:N<=16)(hL:200000<L){k:Int}(k0:0<=k)(kl:k<s.length){b:ByteArray}:yEC L ⟨dvN s c N N⟩ [[V.int .i64 k,V.str b]]=some ((),⟨dvN (s.set k.toNat b) c N N⟩):=by
 have hm:=hs.m
 obtain⟨v,rfl⟩:=Int.eq_ofNat_of_zero_le k0
 have hv:v<s.length:=by omega
 have es:(s.map txV).set v (((s.map txV).getD v []).take 0++([V.str b]++((s.map txV).getD v []).drop 1))=(s.set v b).map txV:=by
  rw[List.map_set,yDo (yIe hv)];rfl
 have eC:yFx L (s.map txV)=some (s.map txV):=by
  unfold yFx clR
  rw[yR8 1 (fun _=>rfl),List.length_map,Nat.ble_eq_true_of_le (by omega),yMc]
  rfl
 have l0:=fun ka=>ySg (α:=Unit×yAH) (F:=yCE) (fun q=>(((if q=0 then s else s.set v b).map txV,c,((List.range N).map (yJm N)).map inV,(N:Int)+1,[],()),[[V.int .i64 (v:Int),V.str b]],(1:Int),(q:Int),())) 1
  (((s.set v b).map txV,c,((List.range N).map (yJm N)).map inV,(N:Int)+1,[],()),()) (fun q hq kn ka=>by
    obtain rfl:q=0:=by omega
    unfold yCE
    dsimp only
    rw[if_pos rfl,yAb (by rfl),xIK (by omega) (by simp) (by rfl),show aI [[V.int .i64 (v:Int),V.str b]] ((0:Nat):Int).toNat 0=(v:Int) from rfl,show aS [[V.int .i64 (v:Int),V.str b]] ((0:Nat):Int).toNat 1=b from rfl,List.length_map,yW8 (by omega) (by omega),Nat.zero_add,Int.toNat_natCast,yCf (decide_eq_true hv),yCf (by rfl),yCf (by rw[yDo (yIe hv)];rfl),es,yIx (by rw[List.length_map,List.length_set]) (yMc _)]
    rfl) (fun kn ka=>by
    unfold yCE
    dsimp only
    rw[yAJ (by rfl),if_neg (by omega),yIx rfl (yMc _)]) 1 0 L rfl (by omega) ka
 unfold yEC yHW
 dsimp only
 rw[show(dvN s c N N).S=s.map txV from rfl,eC,yAC,yIx rfl (yMc _)]
 refine(l0 _).trans ?_
 dsimp only
 rw[Nat.zero_add,yRQ (Nat.le_refl _) (by rw[List.length_map,List.length_set];omega) (yMc _),List.take_length]
 rfl
theorem xGH(hs:SecOk s)(hc:CE c N)(h1:1<=N)(h2:N<=16)(hL:200000<L){n:Int}(n0:0<=n)(nN:n<N):yHR L (aR c n.toNat 0)=some []:=by
 rw[hc.aR (by omega)];rfl
theorem yYh(hs:SecOk s)(hc:CE c N)(h1:1<=N)(h2:N<=16)(hL:200000<L){n:Int}(n0:0<=n)(nN:n<N){k:Int}(k0:0<=k)(kl:k<s.length):yFt L (dvN s c N N) n ⟨1,k,noS,0⟩=some (dvN s c N N,s.getD k.toNat noS,0,()):=by
 unfold yFt yOW
 dsimp only
 rw[xLc hs hc h1 h2 hL n0 nN k0 kl,yAC,yAJ (by rfl),show(dvN s c N N).Cache=c from rfl,hc.gI n0 nN,xGH hs hc h1 h2 hL n0 nN,yAC,yRQ (by simp) (by simp) (by rfl)]
 show(yAB (yAj L [] ((k,()),())) _)=_
 rw[xDu (by omega),yAC,yAb (by rfl),show(dvN s c N N).S=s.map txV from rfl,xCI k0 kl,yAJ (by rfl),xEZ (by omega:k.toNat<s.length),List.getD_eq_getElem?_getD,List.getElem?_eq_getElem (by omega)]
 rfl
theorem xAG(hs:SecOk s)(hc:CE c N)(h1:1<=N)(h2:N<=16)(hL:200000<L){n:Int}(n0:0<=n)(nN:n<N){k:Int}(k0:0<=k)(kl:k<s.length){b:ByteArray}(hb:b.size<=512):yFt L (dvN s c N N) n ⟨2,k,b,0⟩=some (dvN (s.set k.toNat b) c N N,noS,0,()):=by
 unfold yFt yOW
 dsimp only
 rw[xLd hs hc h1 h2 hL n0 nN k0 kl hb,yAC,yAJ (by rfl),show(dvN s c N N).Cache=c from rfl,hc.gI n0 nN,xGH hs hc h1 h2 hL n0 nN,yAC,yRQ (by simp) (by simp) (by rfl)]
 show(yAB (yAj L [] ((k,()),())) _)=_
 rw[xDu (by omega),yAC,yAJ (by rfl),yAb (by rfl),xGM hs hc h1 h2 hL k0 kl,yAC,yAJ (by rfl)]
end
abbrev yFr(L:Nat):Prop:=NeZero (L/200001)
theorem yFr.h{L:Nat}[k:yFr L]:200000<L:=by
 have:=k.out
 rcases Nat.lt_or_ge 200000 L with h | h
 ·exact h
 ·exact absurd (Nat.div_eq_of_lt (by omega)) this
theorem yTV{L:Nat}[yFr L]:10<L:=Nat.lt_of_le_of_lt (by decide) yFr.h
theorem hL3{L:Nat}[yFr L]:1000<L:=Nat.lt_of_le_of_lt (by decide) yFr.h
theorem xKI{α:Type}{x:Option α}{b:Bs}(h:b.length<=2000000):gF (b.map byV) (b.map byV).length x=x:=yRQ (Nat.le_refl _) (by rw[List.length_map];omega) (yOl b)
theorem ySO(n:Nat):Nat.ble n n=true:=Nat.ble_eq_true_of_le (Nat.le_refl n)
section
variable {α A B σ β γ:Type}
theorem yPO{F:σ->(σ->Option α)->(A->Option α)->(B->Option α)->Option α}(l:List β)(p:β->Bool)(st:Nat->σ)(a:A)(b:Nat->B)
  (hF:∀(i:Nat) (h:i<l.length) kn ka kb,F (st i) kn ka kb=bif p l[i] then kb (b i) else kn (st (i+1))) (hE:∀kn ka kb,F (st l.length) kn ka kb=ka a):
  ∀(L k:Nat),k<=l.length->l.length-k<L->(∀j (h:j<l.length),j<k->p l[j]=false)->∀ka kb,yAe F L (st k) ka kb=match l.findIdx? p with | none=>ka a | some i=>kb (b i)
 | 0,k,h,hL,_,_,_=>absurd hL (Nat.not_lt_zero _)
 | L+1,k,h,hL,hp,ka,kb=>by
   show F (st k) (fun s'=>yAe F L s' ka kb) ka kb=_
   by_cases hk:k<l.length
   ·rw[hF k hk]
    cases hq:p l[k] with
    | true=>
      have:l.findIdx? p=some k:=List.findIdx?_eq_some_iff_getElem.2 ⟨hk,hq,fun j hj=>by rw[hp j (by omega) hj];simp⟩
      rw[this];rfl
    | false=>
      exact yPO l p st a b hF hE L (k+1) hk (by omega) (fun j hj hjk=>by
       rcases Nat.lt_or_ge j k with h1 | h1
       ·exact hp j hj h1
       ·obtain rfl:j=k:=by omega
        exact hq) ka kb
   ·obtain rfl:k=l.length:=by omega
    rw[hE]
    have:l.findIdx? p=none:=List.findIdx?_eq_none_iff.2 fun x hx=>by
     obtain⟨j,hj,rfl⟩:=List.getElem_of_mem hx
     exact hp j hj hj
    rw[this]
theorem yU2{F:σ->(σ->Option α)->(A->Option α)->Option α}(l:List β)(f:γ->β->γ)(P:Nat->γ->Prop)(st:Nat->γ->σ)(fin:γ->A)
  (hF:∀(i:Nat) (h:i<l.length) (g:γ),P i g->P (i+1) (f g l[i])/\∀kn ka,F (st i g) kn ka=kn (st (i+1) (f g l[i]))) (hE:∀g,P l.length g->∀kn ka,F (st l.length g) kn ka=ka (fin g)):
  ∀(L k:Nat),k<=l.length->l.length-k<L->∀g,P k g->P l.length ((l.drop k).foldl f g)/\∀ka,yBL F L (st k g) ka=ka (fin ((l.drop k).foldl f g))
 | 0,k,h,hL,_,_=>absurd hL (Nat.not_lt_zero _)
 | L+1,k,h,hL,g,hp=>by
   by_cases hk:k<l.length
   ·obtain⟨h1,h2⟩:=hF k hk g hp
    obtain⟨k1,k2⟩:=yU2 l f P st fin hF hE L (k+1) hk (by omega) _ h1
    rw[List.drop_eq_getElem_cons hk,List.foldl_cons]
    refine⟨k1,fun ka=>?_⟩
    show F (st k g) (fun s'=>yBL F L s' ka) ka=_
    rw[h2];exact k2 ka
   ·obtain rfl:k=l.length:=by omega
    rw[List.drop_length]
    exact⟨hp,fun ka=>hE g hp _ ka⟩
theorem xIJ{l:List β}{e:β->List V}{ks:List Kc}(hk:∀b,rowIs ks [e b] 0=true){i:Nat}(h:i<l.length){x:Option α}:gI (l.map e) ks (i:Int) x=x:=xIK (by omega) (by rw[List.length_map];omega) (by
 rw[show(i:Int).toNat=i from rfl,yZR ks (show(l.map e)[i]?=some (e l[i]) by rw[List.getElem?_map,List.getElem?_eq_getElem h];rfl)];exact hk _)
theorem yNs{l:List β}{e:β->List V}{i j:Nat}(h:i<l.length):cell (l.map e) i j=cell [e l[i]] 0 j:=yYb (by rw[List.getElem?_map,List.getElem?_eq_getElem h];rfl)
theorem xG1{l:List β}{e:β->List V}(h:∀b,(e b).all (nmB 20)=true):yCR (l.map e)=true:=List.all_eq_true.2 fun r hr=>by
 obtain⟨a,_,rfl⟩:=List.mem_map.1 hr
 exact h a
theorem xMi{l:List β}{e:β->List V}{n:Nat}(h:∀b,(e b).length=n):((l.map e).all fun r=>Nat.beq r.length n)=true:=List.all_eq_true.2 fun r hr=>by
 obtain⟨a,_,rfl⟩:=List.mem_map.1 hr
 rw[h a];exact Nat.beq_refl n
theorem xFp{l:List β}{e:β->List V}{n:Nat}(h:∀b,(e b).all (nmB 20)=true)(hn:n<=l.length)(hl:l.length<=100000){x:Option α}:gF (l.map e) n x=x:=yRQ (by rw[List.length_map];exact hn) (by omega) (xG1 h)
theorem yPv{l:List β}{e:β->List V}{n:Nat}(h:∀b,(e b).all (nmB 20)=true)(hn:n=l.length){x:Option α}:gW (l.map e) n x=x:=yIx (by rw[List.length_map];exact hn) (xG1 h)
theorem xLH{m b:Nat}(h:m<=100000)(hb:b<=1000){x:Option α}:gM m b x=x:=by
 have:m*b<=100000*1000:=Nat.mul_le_mul h hb
 show(bif _ then(bif _ then x else none) else none)=_
 rw[decide_eq_true (show m*b<=140737488355328 by omega),decide_eq_true (show m<=9223372036854775807 by omega)];rfl
theorem yPx{n m:Nat}(h:n=m){x:Option α}:gd (Nat.beq n m) x=x:=by subst h;rw[Nat.beq_refl];rfl
theorem yMT{n m:Nat}(h:n<=m){x:Option α}:gd (Nat.ble n m) x=x:=by rw[Nat.ble_eq_true_of_le h];rfl
theorem yMU{p:Prop}[Decidable p](h:p){x:Option α}:gd (decide p) x=x:=by rw[decide_eq_true h];rfl
theorem take_len{l:List β}{n:Nat}(h:n=l.length):l.take n=l:=by subst h;exact List.take_length
end
end Go.Proofs.YtakljpcmbpaeaaaGreat

namespace Go.Proofs.YtakljpcmbpaeaaaGreat
set_option maxHeartbeats 4000000
open Go.RowKit
abbrev xE8(k:Int):Prop:=16<=k/\k<=1099511627776
def yUy(c:yAG):Prop:=xE8 c.By/\1<=c.Serial/\c.Serial<=2147483648/\
 (((c.Kind=0\/c.Kind=1)/\c.Span.Lo=0/\c.Span.Hi=0/\c.Mode=0/\c.Dead=0/\c.Was=0)\/
  (c.Kind=2/\0<=c.Span.Lo/\c.Span.Lo<=c.Span.Hi/\c.Span.Hi<64/\(c.Mode=1\/c.Mode=2)/\c.Dead=0/\c.Was=0)\/
  (c.Kind=3/\0<=c.Span.Lo/\c.Span.Lo<=c.Span.Hi/\c.Span.Hi<64/\c.Mode=0/\c.Dead=0/\c.Was=0)\/
  (c.Kind=4/\c.Span.Lo=0/\c.Span.Hi=0/\c.Mode=0/\xE8 c.Dead/\(c.Was=0\/xE8 c.Was))\/
  (c.Kind=5/\c.Span.Lo=0/\c.Span.Hi=0/\c.Mode=0/\xE8 c.Dead/\c.Was=0))
instance (c:yAG):Decidable (yUy c):=by unfold yUy;exact inferInstance
theorem xH6{α:Type}{o:Option α}:(yAB o fun r=>some r)=o:=by cases o <;> rfl
theorem xDk{α:Type}{c:Bool}{x y z:α}(h1:c=true->x=z)(h2:c=false->y=z):(bif c then x else y)=z:=by
 cases c with
 | true=>exact h1 rfl
 | false=>exact h2 rfl
theorem yVB{p:Prop}{inst:Decidable p}{b:Bool}(h:b=true↔p):some b=some (decide p):=by
 congr 1
 cases b with
 | true=>exact(decide_eq_true (h.1 rfl)).symm
 | false=>exact(decide_eq_false fun q=>by have:=h.2 q;cases this).symm
theorem xF9{L:Nat}(k:Int):yIA L k=some (decide (xE8 k)):=by
 unfold yIA yOU
 repeat' (refine xDk (fun _=>?_) (fun _=>?_))
 all_goals (refine yVB ?_;simp only[decide_eq_true_eq,decide_eq_false_iff_not] at *;(try simp only[Bool.false_eq_true,false_iff]);unfold xE8;omega)
theorem xKi{L:Nat}(k:Int):yQT L k=some (decide (xE8 k)):=by
 unfold yQT yR3
 repeat' (refine xDk (fun _=>?_) (fun _=>?_))
 all_goals (refine yVB ?_;simp only[decide_eq_true_eq,decide_eq_false_iff_not] at *;(try simp only[Bool.false_eq_true,false_iff]);unfold xE8;omega)
theorem xJy{L:Nat}(c:yAG):yMQ L c=some (decide (yUy c)):=by
 unfold yMQ yOV yG4 yIB
 obtain⟨kd,by_,ser,dd,ws,⟨lo,hi⟩,md⟩:=c
 simp only[xF9,yAC,xH6]
 unfold yUy xE8
 dsimp only
 repeat' (refine xDk (fun _=>?_) (fun _=>?_))
 all_goals (refine yVB ?_;simp only[decide_eq_true_eq,beq_iff_eq,Bool.and_eq_true,Bool.not_eq_true',decide_eq_false_iff_not,Bool.and_true,beq_eq_false_iff_ne,ne_eq,Bool.not_eq_false',Bool.and_eq_false_imp] at *;(try simp only[Bool.false_eq_true,false_iff,true_iff]);omega)
theorem xAy{L:Nat}(c:yAG):yQU L c=some (decide (yUy c)):=by
 unfold yQU yR4
 obtain⟨kd,by_,ser,dd,ws,⟨lo,hi⟩,md⟩:=c
 simp only[xKi,yAC]
 unfold yUy xE8
 dsimp only
 repeat' (refine xDk (fun _=>?_) (fun _=>?_))
 all_goals (refine yVB ?_;simp only[decide_eq_true_eq,beq_iff_eq,Bool.and_eq_true,Bool.not_eq_true',decide_eq_false_iff_not,Bool.and_true,beq_eq_false_iff_ne,ne_eq,Bool.not_eq_false',Bool.and_eq_false_imp,beq_self_eq_true,Bool.true_and,not_and] at *;(try simp only[Bool.false_eq_true,false_iff,true_iff]);omega)
theorem yXD(l:Bs):(mkS l).data.toList=l:=by simp[mkS]
theorem yUT(l:Bs):(mkS l).size=l.length:=by simp[mkS,ByteArray.size]
theorem xKV{L:Nat}(hL:10<L){l:Bs}{a w:Int}(h:l.length<=1000000):yCQ L (mkS l) a w=some ((yQ9 l a w).1,(yQ9 l a w).2,()):=by
 rw[yQt hL (by rw[yUT];omega),yXD]
theorem yY5{L:Nat}(hL:10<L){l:Bs}{a w:Int}(h:l.length<=1000000):yEK L (mkS l) a w=some ((yQ9 l a w).1,(yQ9 l a w).2,()):=by
 rw[xKh hL (by rw[yUT];omega),yXD]
theorem ySZ{n:Int}{w:Nat}(h1:1<=w)(h6:w<=6)(h0:0<=n)(hn:n<=yN5 w):yGj n w=true:=by
 unfold yGj
 exact decide_eq_true ⟨by omega,by omega,h0,by rw[Int.toNat_natCast];exact hn⟩
theorem yYx{L w:Nat}(hL:10<L){n:Int}{t:Bs}(h1:1<=w)(h6:w<=6)(h0:0<=n)(hn:n<=yN5 w)(ht:t.length<=1000):yCQ L (mkS (leBytes w n.toNat++t)) 0 w=some (n,0,()):=by
 rw[xKV hL (by rw[List.length_append,yAE];omega)]
 have:=xDq n w t (ySZ h1 h6 h0 hn)
 rw[Int.toNat_natCast] at this
 rw[this]
theorem xDm{w n:Nat}{t:Bs}:(mkS (leBytes w n++t)).extract w (mkS (leBytes w n++t)).size=mkS t:=by
 rw[yOa,yXD,List.drop_left' (yAE w n)]
theorem size_le{w n:Nat}{t:Bs}:((mkS (leBytes w n++t)).size:Int)=w+(t.length:Int):=by
 rw[yUT,List.length_append,yAE];omega
theorem xFA:yN5 1=255:=by decide
theorem xGy:yN5 4=4294967295:=by decide
theorem yVt:yN5 6=1099511627776:=by decide
def yNm(c:yAG):Bs:=
 if c.Kind=2 then leBytes 1 c.Span.Lo.toNat++(leBytes 1 c.Span.Hi.toNat++(leBytes 1 c.Mode.toNat++ []))
 else if c.Kind=3 then leBytes 1 c.Span.Lo.toNat++(leBytes 1 c.Span.Hi.toNat++ [])
 else if c.Kind=4 then leBytes 6 c.Dead.toNat++(leBytes 6 c.Was.toNat++ [])
 else if c.Kind=5 then leBytes 6 c.Dead.toNat++ []
 else []
def yFM(c:yAG):Bs:=leBytes 1 c.Kind.toNat++(leBytes 6 c.By.toNat++(leBytes 4 c.Serial.toNat++yNm c))
theorem yOT(c:yAG):(yNm c).length<=12:=by
 unfold yNm
 repeat' split
 all_goals simp[yAE]
theorem yM0(c:yAG):(yFM c).length=11+(yNm c).length:=by
 unfold yFM
 simp only[List.length_append,yAE];omega
theorem yI3{L:Nat}(hL:10<L){c:yAG}(h:yUy c):yBB L (mkS (yFM c))=some (c,0,()):=by
 have hm:=xJy (L:=L) c
 rw[decide_eq_true h] at hm
 have ht:=yOT c
 obtain⟨⟨h1,h2⟩,h3,h4,h5⟩:=h
 have hk:0<=c.Kind/\c.Kind<=5:=by omega
 have g1:yCQ L (mkS (yFM c)) 0 1=some (c.Kind,0,()):=yYx hL (w:=1) (by omega) (by omega) hk.1 (by rw[xFA];omega) (by simp only[List.length_append,yAE];omega)
 have e1:(mkS (yFM c)).extract 1 (mkS (yFM c)).size=mkS (leBytes 6 c.By.toNat++(leBytes 4 c.Serial.toNat++yNm c)):=xDm
 have z1:decide ((1:Int)<=((mkS (yFM c)).size:Int))=true:=decide_eq_true (by rw[yUT,yM0];omega)
 have g2:yCQ L (mkS (leBytes 6 c.By.toNat++(leBytes 4 c.Serial.toNat++yNm c))) 0 6=some (c.By,0,()):=yYx hL (w:=6) (by omega) (by omega) (by omega) (by rw[yVt];omega) (by simp only[List.length_append,yAE];omega)
 have e2:(mkS (leBytes 6 c.By.toNat++(leBytes 4 c.Serial.toNat++yNm c))).extract 6 (mkS (leBytes 6 c.By.toNat++(leBytes 4 c.Serial.toNat++yNm c))).size=mkS (leBytes 4 c.Serial.toNat++yNm c):=xDm
 have z2:decide ((6:Int)<=((mkS (leBytes 6 c.By.toNat++(leBytes 4 c.Serial.toNat++yNm c))).size:Int))=true:=decide_eq_true (by rw[size_le];omega)
 have g3:yCQ L (mkS (leBytes 4 c.Serial.toNat++yNm c)) 0 4=some (c.Serial,0,()):=yYx hL (w:=4) (by omega) (by omega) (by omega) (by rw[xGy];omega) (by omega)
 have e3:(mkS (leBytes 4 c.Serial.toNat++yNm c)).extract 4 (mkS (leBytes 4 c.Serial.toNat++yNm c)).size=mkS (yNm c):=xDm
 have z3:decide ((4:Int)<=((mkS (leBytes 4 c.Serial.toNat++yNm c)).size:Int))=true:=decide_eq_true (by rw[size_le];omega)
 have hw:IntKind.i8.wrap (yDK false c.Kind 127)=c.Kind:=by
  obtain⟨q1,q2⟩:=hk
  generalize c.Kind=k at*
  obtain⟨n,rfl⟩:=Int.eq_ofNat_of_zero_le q1
  have:n=0\/n=1\/n=2\/n=3\/n=4\/n=5:=by omega
  rcases this with rfl | rfl | rfl | rfl | rfl | rfl <;> rfl
 have z0:((0:Int) !=0)=false:=rfl
 unfold yBB yNN
 simp only[gd,gI,gB,gL,gF,gW,gA,gM,w64,yGb,g1,yAC,z0,cond_false,cond_true,z1,e1,yGc,g2,z2,e2,g3,z3,e3,hw]
 have z00:((0:Int)==0)=true:=rfl
 have nn:((mkS []).toList==noS.toList)=true:=beq_self_eq_true (noS.toList)
 obtain⟨kd,by_,ser,dd,ws,⟨lo,hi⟩,md⟩:=c
 dsimp only at*
 have G:∀(wi:Int) (w:Nat) (n:Int) (t:Bs),wi=w->1<=w->w<=6->0<=n->n<=yN5 w->t.length<=1000->yCQ L (mkS (leBytes w n.toNat++t)) 0 wi=some (n,0,()):=fun wi w n t hw a b c d e=>by subst hw;exact yYx hL a b c d e
 have E:∀{w n:Nat} {t:Bs},(mkS (leBytes w n++t)).extract w (mkS (leBytes w n++t)).size=mkS t:=xDm
 have Z:∀(wi:Int) (w n:Nat) (t:Bs),wi=w->decide (wi<=((mkS (leBytes w n++t)).size:Int))=true:=fun wi w n t hw=>decide_eq_true (by rw[size_le];omega)
 have W:∀{n:Int},0<=n->n<=2->IntKind.i8.wrap (yDK false n 127)=n:=fun {n} q1 q2=>by
  obtain⟨n,rfl⟩:=Int.eq_ofNat_of_zero_le q1
  have:n=0\/n=1\/n=2:=by omega
  rcases this with rfl | rfl | rfl <;> rfl
 rcases h5 with ⟨q0,rfl,rfl,rfl,rfl,rfl⟩ | ⟨rfl,q1,q2,q3,q4,rfl,rfl⟩ | ⟨rfl,q1,q2,q3,rfl,rfl,rfl⟩ | ⟨rfl,rfl,rfl,rfl,q4,q5⟩ | ⟨rfl,rfl,rfl,rfl,q4,rfl⟩
 ·have e:yNm ⟨kd,by_,ser,0,0,⟨0,0⟩,0⟩= []:=by rcases q0 with rfl | rfl <;> rfl
  rw[e]
  rcases q0 with rfl | rfl
  all_goals
   simp only[gd,gI,gB,gL,gF,gW,gA,gM,w64,yCg,show((0:Int)==2)=false from rfl,show((0:Int)==3)=false from rfl,show((1:Int)==2)=false from rfl,show((1:Int)==3)=false from rfl,cond_false,cond_true,show((0:Int)==4)=false from rfl,show((0:Int)==5)=false from rfl,show((1:Int)==4)=false from rfl,show((1:Int)==5)=false from rfl,nn,Bool.not_true,Bool.not_false,yAN.z,hm,yAC]
 ·have e:yNm ⟨2,by_,ser,0,0,⟨lo,hi⟩,md⟩=leBytes 1 lo.toNat++(leBytes 1 hi.toNat++(leBytes 1 md.toNat++ [])):=rfl
  rw[e]
  have a1:=G 1 1 lo (leBytes 1 hi.toNat++(leBytes 1 md.toNat++ [])) rfl (by omega) (by omega) q1 (by rw[xFA];omega) (by simp[yAE])
  have a2:=G 1 1 hi (leBytes 1 md.toNat++ []) rfl (by omega) (by omega) (by omega) (by rw[xFA];omega) (by simp[yAE])
  have a3:=G 1 1 md [] rfl (by omega) (by omega) (by omega) (by rw[xFA];omega) (by simp)
  have b1:=@E 1 lo.toNat (leBytes 1 hi.toNat++(leBytes 1 md.toNat++ []))
  have b2:=@E 1 hi.toNat (leBytes 1 md.toNat++ [])
  have b3:=@E 1 md.toNat []
  have c1:=Z 1 1 lo.toNat (leBytes 1 hi.toNat++(leBytes 1 md.toNat++ [])) rfl
  have c2:=Z 1 1 hi.toNat (leBytes 1 md.toNat++ []) rfl
  have c3:=Z 1 1 md.toNat [] rfl
  have hwm:=W (n:=md) (by omega) (by omega)
  generalize mkS (leBytes 1 lo.toNat++(leBytes 1 hi.toNat++(leBytes 1 md.toNat++ [])))=s1 at*
  generalize mkS (leBytes 1 hi.toNat++(leBytes 1 md.toNat++ []))=s2 at*
  generalize mkS (leBytes 1 md.toNat++ [])=s3 at*
  simp only[gd,gI,gB,gL,gF,gW,gA,gM,w64,yCg,show((2:Int)==2)=true from rfl,cond_true,cond_false,a1,a2,a3,b1,b2,b3,c1,c2,c3,yAC,z0,nn,Bool.not_true,Bool.not_false,hm,hwm]
 ·have e:yNm ⟨3,by_,ser,0,0,⟨lo,hi⟩,0⟩=leBytes 1 lo.toNat++(leBytes 1 hi.toNat++ []):=rfl
  rw[e]
  have a1:=G 1 1 lo (leBytes 1 hi.toNat++ []) rfl (by omega) (by omega) q1 (by rw[xFA];omega) (by simp[yAE])
  have a2:=G 1 1 hi [] rfl (by omega) (by omega) (by omega) (by rw[xFA];omega) (by simp)
  have b1:=@E 1 lo.toNat (leBytes 1 hi.toNat++ [])
  have b2:=@E 1 hi.toNat []
  have c1:=Z 1 1 lo.toNat (leBytes 1 hi.toNat++ []) rfl
  have c2:=Z 1 1 hi.toNat [] rfl
  generalize mkS (leBytes 1 lo.toNat++(leBytes 1 hi.toNat++ []))=s1 at*
  generalize mkS (leBytes 1 hi.toNat++ [])=s2 at*
  simp only[gd,gI,gB,gL,gF,gW,gA,gM,w64,yCg,show((3:Int)==2)=false from rfl,show((3:Int)==3)=true from rfl,cond_true,cond_false,a1,a2,b1,b2,c1,c2,yAC,z0,nn,Bool.not_true,Bool.not_false,hm]
 ·have e:yNm ⟨4,by_,ser,dd,ws,⟨0,0⟩,0⟩=leBytes 6 dd.toNat++(leBytes 6 ws.toNat++ []):=rfl
  rw[e]
  have a1:=G 6 6 dd (leBytes 6 ws.toNat++ []) rfl (by omega) (by omega) (by omega) (by rw[yVt];omega) (by simp[yAE])
  have a2:=G 6 6 ws [] rfl (by omega) (by omega) (by omega) (by rw[yVt];omega) (by simp)
  have b1:=@E 6 dd.toNat (leBytes 6 ws.toNat++ [])
  have b2:=@E 6 ws.toNat []
  have c1:=Z 6 6 dd.toNat (leBytes 6 ws.toNat++ []) rfl
  have c2:=Z 6 6 ws.toNat [] rfl
  generalize mkS (leBytes 6 dd.toNat++(leBytes 6 ws.toNat++ []))=s1 at*
  generalize mkS (leBytes 6 ws.toNat++ [])=s2 at*
  simp only[gd,gI,gB,gL,gF,gW,gA,gM,w64,yCg,show((4:Int)==2)=false from rfl,show((4:Int)==3)=false from rfl,show((4:Int)==4)=true from rfl,cond_true,cond_false,a1,a2,b1,b2,c1,c2,yAC,z0,nn,Bool.not_true,Bool.not_false,hm,yAN.z]
 ·have e:yNm ⟨5,by_,ser,dd,0,⟨0,0⟩,0⟩=leBytes 6 dd.toNat++ []:=rfl
  rw[e]
  have a1:=G 6 6 dd [] rfl (by omega) (by omega) (by omega) (by rw[yVt];omega) (by simp)
  have b1:=@E 6 dd.toNat []
  have c1:=Z 6 6 dd.toNat [] rfl
  generalize mkS (leBytes 6 dd.toNat++ [])=s1 at*
  simp only[gd,gI,gB,gL,gF,gW,gA,gM,w64,yCg,show((5:Int)==2)=false from rfl,show((5:Int)==3)=false from rfl,show((5:Int)==4)=false from rfl,show((5:Int)==5)=true from rfl,cond_true,cond_false,a1,b1,c1,yAC,z0,nn,Bool.not_true,Bool.not_false,hm,yAN.z]
theorem yV7{L w:Nat}(hL:10<L){n wi:Int}{b:Bs}(hw:wi=w)(h1:1<=w)(h6:w<=6)(h0:0<=n)(hn:n<=yN5 w)(hb:b.length<=1000):yCa L (b.map byV) wi [[V.int .i64 n]]=some ((b++leBytes w n.toNat).map byV,0,()):=by
 subst hw
 have hp:yTH b w [n]=(b++leBytes w n.toNat,0):=by
  unfold yTH
  rw[yTZ h1 h6 (fun t ht=>by obtain rfl:t=0:=by simpa using ht
                             exact ySZ h1 h6 h0 hn)]
  simp[yHm]
 have e: [[V.int .i64 n]]= [n].map inV:=rfl
 rw[e,yV6 hL _ (by simp only[List.length_cons,List.length_nil];omega) (by simp only[List.length_cons,List.length_nil];omega),hp]
theorem xDv{k:Int}(h0:0<=k)(h:k<=5): [[V.int .u8 (IntKind.u8.wrap k)]]=(leBytes 1 k.toNat).map byV:=by
 obtain⟨n,rfl⟩:=Int.eq_ofNat_of_zero_le h0
 have:n=0\/n=1\/n=2\/n=3\/n=4\/n=5:=by omega
 rcases this with rfl | rfl | rfl | rfl | rfl | rfl <;> rfl
theorem yX9{L:Nat}(hL:10<L){c:yAG}(h:yUy c)(h2:c.Kind≠2)(h3:c.Kind≠3):yCW L c=some (mkS (yFM c),0,()):=by
 have hm:=xAy (L:=L) c
 rw[decide_eq_true h] at hm
 have hT:yNm c=(if c.Kind=4 then leBytes 6 c.Dead.toNat++(leBytes 6 c.Was.toNat++ []) else if c.Kind=5 then leBytes 6 c.Dead.toNat++ [] else []):=by
  unfold yNm;rw[if_neg h2,if_neg h3]
 have hlen:=yM0 c
 have htl:=yOT c
 obtain⟨⟨g1,g2⟩,g3,g4,h5⟩:=h
 have hk:0<=c.Kind/\c.Kind<=5:=by omega
 have p1:=yV7 hL (w:=6) (wi:=6) (n:=c.By) (b:=leBytes 1 c.Kind.toNat) rfl (by omega) (by omega) (by omega) (by rw[yVt];omega) (by rw[yAE];omega)
 have p2:=yV7 hL (w:=4) (wi:=4) (n:=c.Serial) (b:=leBytes 1 c.Kind.toNat++leBytes 6 c.By.toNat) rfl (by omega) (by omega) (by omega) (by rw[xGy];omega) (by simp only[List.length_append,yAE];omega)
 have z2:(c.Kind==2)=false:=by simpa using h2
 have z3:(c.Kind==3)=false:=by simpa using h3
 have fin:∀b:Bs,(bytesOf (b.map byV)).isSome=true:=fun b=>by rw[yQk];rfl
 have f1:∀{α:Type} (x:Option α),gF ((leBytes 1 c.Kind.toNat++leBytes 6 c.By.toNat).map byV) (((leBytes 1 c.Kind.toNat++leBytes 6 c.By.toNat).map byV).length) x=x:=fun x=>xKI (by simp only[List.length_append,yAE];omega)
 have f2:∀{α:Type} (x:Option α),gF ((leBytes 1 c.Kind.toNat++leBytes 6 c.By.toNat++leBytes 4 c.Serial.toNat).map byV) (((leBytes 1 c.Kind.toNat++leBytes 6 c.By.toNat++leBytes 4 c.Serial.toNat).map byV).length) x=x:=fun x=>xKI (by simp only[List.length_append,yAE];omega)
 unfold yCW yMC
 simp only[f1,f2,gd,Nat.zero_add,ySO,List.take_length,hm,yAC,Bool.not_true,cond_false,xDv hk.1 hk.2,p1,p2,z2,z3]
 by_cases h4:c.Kind=4
 ·have hp:yTH ((leBytes 1 c.Kind.toNat++leBytes 6 c.By.toNat)++leBytes 4 c.Serial.toNat) (6:Int) [c.Dead,c.Was]=((leBytes 1 c.Kind.toNat++leBytes 6 c.By.toNat)++leBytes 4 c.Serial.toNat++(leBytes 6 c.Dead.toNat++leBytes 6 c.Was.toNat),0):=by
    unfold yTH
    rw[show(6:Int)=((6:Nat):Int) from rfl,yTZ (by omega) (by omega) (fun t ht=>by
     match t,ht with
     | 0,_=>exact ySZ (by omega) (by omega) (show 0<=c.Dead by omega) (by rw[yVt];show c.Dead<=_;omega)
     | 1,_=>exact ySZ (by omega) (by omega) (show 0<=c.Was by omega) (by rw[yVt];show c.Was<=_;omega))]
    simp[yHm]
  have p3:yCa L (((leBytes 1 c.Kind.toNat++leBytes 6 c.By.toNat)++leBytes 4 c.Serial.toNat).map byV) 6 [[V.int .i64 c.Dead],[V.int .i64 c.Was]]=some (((leBytes 1 c.Kind.toNat++leBytes 6 c.By.toNat)++leBytes 4 c.Serial.toNat++(leBytes 6 c.Dead.toNat++leBytes 6 c.Was.toNat)).map byV,0,()):=by
   have e: [[V.int .i64 c.Dead],[V.int .i64 c.Was]]= [c.Dead,c.Was].map inV:=rfl
   rw[e,yV6 hL _ (by simp only[List.length_cons,List.length_nil,List.length_append,yAE];omega) (by simp only[List.length_cons,List.length_nil];omega),hp]
  have z4:(c.Kind==4)=true:=by simpa using h4
  simp only[z4,cond_true,p3,yAC,fin,yLK,f2,gd,Nat.zero_add,ySO,List.take_length]
  unfold yFM
  rw[hT,if_pos h4,List.append_nil,List.append_assoc,List.append_assoc]
 ·by_cases h5':c.Kind=5
  ·have p3:=yV7 hL (w:=6) (wi:=6) (n:=c.Dead) (b:=(leBytes 1 c.Kind.toNat++leBytes 6 c.By.toNat)++leBytes 4 c.Serial.toNat) rfl (by omega) (by omega) (by omega) (by rw[yVt];omega) (by simp only[List.length_append,yAE];omega)
   have z4:(c.Kind==4)=false:=by simpa using h4
   have z5:(c.Kind==5)=true:=by simpa using h5'
   simp only[z4,z5,cond_false,cond_true,p3,yAC,fin,yLK,f2,gd,Nat.zero_add,ySO,List.take_length]
   rw[show yFM c=_ from rfl]
   unfold yFM
   rw[hT,if_neg h4,if_pos h5',List.append_nil,List.append_assoc,List.append_assoc]
  ·have z4:(c.Kind==4)=false:=by simpa using h4
   have z5:(c.Kind==5)=false:=by simpa using h5'
   simp only[z4,z5,cond_false,cond_true,fin,yLK,gd,Nat.zero_add,ySO,List.take_length]
   unfold yFM
   rw[hT,if_neg h4,if_neg h5',List.append_nil,List.append_assoc]
theorem yU4(p t:Bs){w:Nat}{n a wi:Int}(ha:a=p.length)(hw:wi=w)(h1:1<=w)(h6:w<=6)(h0:0<=n)(hn:n<=yN5 w):yQ9 (p++(leBytes w n.toNat++t)) a wi=(n,0):=by
 subst ha hw
 have hf:=ySZ h1 h6 h0 hn
 have hl:n.toNat<256^w:=(yVi (n:=n.toNat) (w:=w) (by rw[Int.toNat_of_nonneg h0];exact hf)).1
 have h2:n.toNat<=1099511627776:=(yVi (n:=n.toNat) (w:=w) (by rw[Int.toNat_of_nonneg h0];exact hf)).2.1
 have e:((p++(leBytes w n.toNat++t)).drop p.length).take w=leBytes w n.toNat:=by
  rw[List.drop_left' rfl,List.take_left' (yAE w _)]
 have el:le (leBytes w n.toNat)=n.toNat:=by rw[yQp,Nat.mod_eq_of_lt hl]
 rw[yTU ⟨h1,h6⟩ (by simp only[List.length_append,yAE];omega) (by rw[e,el];exact h2),e,el,Int.toNat_of_nonneg h0]
theorem xAX{k:Int}{t:Bs}(h0:0<=k)(h:k<=5):((((mkS (leBytes 1 k.toNat++t))[0]?).getD 0).toNat:Int)=k:=by
 obtain⟨n,rfl⟩:=Int.eq_ofNat_of_zero_le h0
 have:n=0\/n=1\/n=2\/n=3\/n=4\/n=5:=by omega
 rcases this with rfl | rfl | rfl | rfl | rfl | rfl <;> rfl
theorem xFK{L:Nat}(hL:10<L){c:yAG}(h:yUy c)(hk2:c.Kind=0\/c.Kind=1):yDG L (mkS (yFM c))=some (c,0,()):=by
 have hb:=yX9 hL h (by omega) (by omega)
 have hlen:=yM0 c
 have htl:=yOT c
 have hT:yNm c= []:=by
  unfold yNm;rw[if_neg (by omega),if_neg (by omega),if_neg (by omega),if_neg (by omega)]
 obtain⟨⟨h1,h2⟩,h3,h4,h5⟩:=h
 have g1:yEK L (mkS (yFM c)) 1 6=some (c.By,0,()):=by
  rw[yY5 hL (by omega)]
  unfold yFM
  rw[yU4 (leBytes 1 c.Kind.toNat) (leBytes 4 c.Serial.toNat++yNm c) (w:=6) (n:=c.By) (a:=1) (wi:=6) (by rw[yAE];rfl) rfl (by omega) (by omega) (by omega) (by rw[yVt];omega)]
 have g2:yEK L (mkS (yFM c)) 7 4=some (c.Serial,0,()):=by
  rw[yY5 hL (by omega)]
  unfold yFM
  rw[←List.append_assoc,yU4 (leBytes 1 c.Kind.toNat++leBytes 6 c.By.toNat) (yNm c) (w:=4) (n:=c.Serial) (a:=7) (wi:=4) (by simp[yAE]) rfl (by omega) (by omega) (by omega) (by rw[xGy];omega)]
 have hh:((((mkS (yFM c))[0]?).getD 0).toNat:Int)=c.Kind:=xAX (by omega) (by omega)
 have hw:IntKind.i8.wrap c.Kind=c.Kind:=by rcases hk2 with e | e <;> rw[e] <;> rfl
 have he:(mkS (yFM c)).extract 11 (mkS (yFM c)).size=mkS []:=by
  rw[yOa,yXD]
  refine congrArg mkS (List.drop_eq_nil_of_le ?_)
  rw[hlen,hT]
  exact Nat.le_of_eq rfl
 have s0:((mkS (yFM c)).size:Int)=11:=by rw[yUT,hlen,hT];rfl
 have z0:((0:Int) !=0)=false:=rfl
 have k2:(c.Kind==2)=false:=by simp;omega
 have k3:(c.Kind==3)=false:=by simp;omega
 have k4:(c.Kind==4)=false:=by simp;omega
 have k5:(c.Kind==5)=false:=by simp;omega
 have k127:decide (127<c.Kind)=false:=decide_eq_false (by omega)
 have se:((mkS []).size:Int)=0:=rfl
 obtain⟨kd,by_,ser,dd,ws,⟨lo,hi⟩,md⟩:=c
 dsimp only at*
 have:lo=0/\hi=0/\md=0/\dd=0/\ws=0:=by omega
 obtain⟨rfl,rfl,rfl,rfl,rfl⟩:=this
 unfold yDG yNA
 simp only[gd,gI,gB,gL,gF,gW,gA,gM,w64,s0,show decide ((11:Int)<11)=false from rfl,show decide ((0:Int)<11)=true from rfl,show decide ((11:Int)<=11)=true from rfl,cond_false,cond_true,g1,g2,yAC,z0,hh,hw,k2,k3,k4,k5,k127,he,yAN.z,hb]
 rw[beq_self_eq_true]
 rfl
end Go.Proofs.YtakljpcmbpaeaaaGreat

namespace Go.Proofs.YtakljpcmbpaeaaaGreat
open Go.RowKit
theorem xJg{l:List ByteArray}{i:Nat}{b:ByteArray}(hi:i<l.length):(l.map txV).set (0+i) (((l.map txV).getD (0+i) []).take 0++([V.str b]++((l.map txV).getD (0+i) []).drop 1))=(l.set i b).map txV:=by
 rw[Nat.zero_add,List.getD_eq_getElem?_getD,List.getElem?_map,List.getElem?_eq_getElem hi,List.map_set]
 rfl
theorem yNR{x:yAQ}(h:(yB3 x).may=true):xFr x.Wait=true:=by
 have:=(Geo.may_ok h).e3
 have h2:=(Geo.may_ok h).e2
 have h1:=(Geo.may_ok h).e1
 have this:x.Wait<=1048576:=this
 have h2:x.Lease<x.Wait:=h2
 have h1:1<=x.Lease:=h1
 unfold xFr
 rw[decide_eq_true (by omega),decide_eq_true (by omega)];rfl
set_option maxHeartbeats 1000000 in
theorem xFu{L:Nat}{x:yAQ}(hm:(yB3 x).may=true)(hL:200000<L):∃top hd:ByteArray,top.size<=512/\hd.size<=512/\yLN L x=some ((heads (yB3 x) top hd x.Slots.toNat).map txV,0,()):=by
 have hok:=Geo.may_ok hm
 obtain⟨xb,hxb,hxl⟩:=xHO hok
 obtain⟨xh,hxh,hhl⟩:=xGi (n:=0) (by omega) (by omega)
 refine⟨mkS xb,mkS xh,by rw[yUT];exact hxl,by rw[yUT];exact hhl,?_⟩
 have hB:yMl L x=some (mkS xb,0,()):=by
  unfold yMl yOr
  rw[yQD,hm,yAC,yAJ (by rfl)]
  have:=xEA (L:=L) (k:=1) (rest:=noS) (ws:=xNE) (l:=xND (yB3 x)) (by omega) (by show(8:Nat)<L;omega) (by omega) (by show(8:Nat)<=_;omega) (by show(0:Nat)<=_;omega)
  rw[show noS.data.toList= [] from rfl,hxb] at this
  exact(congrArg (fun o=>yAB o fun r2=>some (r2.1,r2.2.1,())) this).trans rfl
 have hH:yOD L 0=some (mkS xh,0,()):=by
  unfold yOD yQP
  have:=xEA (L:=L) (k:=2) (rest:=noS) (ws:= [6]) (l:= [0]) (by omega) (by show(1:Nat)<L;omega) (by omega) (by show(1:Nat)<=_;omega) (by show(0:Nat)<=_;omega)
  rw[show noS.data.toList= [] from rfl,hxh] at this
  exact(congrArg (fun o=>yAB o fun r1=>some (r1.1,r1.2.1,())) this).trans rfl
 have hbd:=yTG hok
 have hat:=hok.sj
 have hT:yDg L x=some (yB3 x).total:=by
  rw[yV8]
  unfold Geo.totalS
  rw[if_pos hm]
 have hD0:0<(yB3 x).atD:=by unfold Geo.atD;have:=hok.n1;have:=hok.l1;have:=hok.s1;omega
 generalize hn:(yB3 x).total=t at*
 obtain⟨n,rfl⟩:=Int.eq_ofNat_of_zero_le (show 0<=t by omega)
 have h0n:0<n:=by omega
 unfold yLN yNZ
 rw[hB,hH]
 simp only[yAC,hT,show((0:Int) !=0)=false from rfl,cond_false]
 rw[yCf (decide_eq_true (by omega)),yCf (decide_eq_true (by omega)),yCf (decide_eq_true (by omega)),yCf (decide_eq_true (by omega)),yCf (decide_eq_true (by omega))]
 have hr:List.replicate (n:Int).toNat [V.str noS]=(List.replicate n (⟨#[]⟩:ByteArray)).map txV:=by rw[Int.toNat_natCast,List.map_replicate];rfl
 rw[hr]
 have h1:(((List.replicate n (⟨#[]⟩:ByteArray)).map txV).set 0 ((((List.replicate n (⟨#[]⟩:ByteArray)).map txV).getD 0 []).take 0++([V.str (mkS xb)]++(((List.replicate n (⟨#[]⟩:ByteArray)).map txV).getD 0 []).drop 1)))=(heads (yB3 x) (mkS xb) (mkS xh) 0).map txV:=by
  have:=xJg (l:=List.replicate n (⟨#[]⟩:ByteArray)) (i:=0) (b:=mkS xb) (by rw[List.length_replicate];exact h0n)
  rw[this]
  unfold heads
  rw[hn,Int.toNat_natCast]
 rw[h1]
 have hrow:Nat.ble 1 (((List.replicate n (⟨#[]⟩:ByteArray)).map txV).getD 0 []).length=true:=by
  rw[List.getD_eq_getElem?_getD,List.getElem?_map,List.getElem?_replicate,if_pos h0n];rfl
 rw[yCf (decide_eq_true (by rw[List.length_map,List.length_replicate];exact h0n)),yCf hrow,yIx (by rw[List.length_map,yN1,hn]) (yMc _)]
 generalize mkS xb=top
 generalize mkS xh=hd
 obtain⟨s,hs⟩:=Int.eq_ofNat_of_zero_le (show 0<=x.Slots by have:=hok.s1;exact Int.le_trans (by omega) this)
 have hs16:s<=16:=by have h1:=hok.s2;have h2:=hok.n2;have h1:x.Slots<=x.Nodes:=h1;have h2:x.Nodes<=16:=h2;omega
 obtain⟨a,ha,hrun⟩:=yFv (α:=List (List V)×Int×Unit) (F:=yDh (yHA L)) (fun q=>x=q.1/\hd=q.2.1/\∃j:Nat,j<=s/\(j:Int)=q.2.2.2.1/\(heads (yB3 x) top hd j).map txV=q.2.2.1) (fun q=>s-q.2.2.2.1.toNat)
  (fun a=>a.1=(heads (yB3 x) top hd s).map txV) (fun q hq=>by
    obtain⟨q1,q2,q3,q4,q5⟩:=q
    dsimp only at hq
    obtain⟨rfl,rfl,j,hj,rfl,rfl⟩:=hq
    by_cases hlt:j<s
    ·have hh:(yB3 x).headS j=1+2*x.Nodes+x.Log+j*(1+x.Journal):=by
       unfold Geo.headS
       rw[if_pos ⟨hm,by omega,by show(j:Int)<x.Slots;omega⟩]
       rfl
     have hle:(yB3 x).headS j<n:=by
      rw[hh,←hn]
      have hb1:=hok.b1;have hp1:=hok.p1;have hj1:=hok.j1
      have e1:((j:Int)+1)*(1+x.Journal)<=x.Slots*(1+x.Journal):=Int.mul_le_mul_of_nonneg_right (by omega) (by have hj1:x.Per+2<=x.Journal:=hj1;have hp1:1<=x.Per:=hp1;omega)
      rw[Int.add_mul] at e1
      have e2:0<=x.Blocks*x.Per:=Int.mul_nonneg (by have hb1:1<=x.Blocks:=hb1;omega) (by have hp1:1<=x.Per:=hp1;omega)
      show _<1+2*x.Nodes+x.Log+x.Slots*(1+x.Journal)+x.Blocks*x.Per
      have hj1:x.Per+2<=x.Journal:=hj1
      have hp1:1<=x.Per:=hp1
      omega
     have hh0:0<=(yB3 x).headS j:=by
      rw[hh]
      have:0<=(j:Int)*(1+x.Journal):=Int.mul_nonneg (by omega) (by have hj1:=hok.j1;have hp1:=hok.p1;have hj1:x.Per+2<=x.Journal:=hj1;have hp1:1<=x.Per:=hp1;omega)
      have h1:=hok.n1;have h2:=hok.l1;have h3:=hok.s1
      have h1:1<=x.Nodes:=h1
      have h2:8*x.Slots<=x.Log:=h2
      have h3:1<=x.Slots:=h3
      omega
     refine .inl ⟨(x,hd,(heads (yB3 x) top hd (j+1)).map txV,((j+1:Nat):Int),()),⟨rfl,rfl,j+1,hlt,rfl,rfl⟩,by dsimp only;omega,fun kn ka=>?_⟩
     have hlen:((heads (yB3 x) top hd j).map txV).length=n:=by rw[List.length_map,yN1,hn,Int.toNat_natCast]
     have hset:=xJg (l:=heads (yB3 x) top hd j) (i:=((yB3 x).headS j).toNat) (b:=hd) (by rw[yN1,hn];omega)
     have hHd:yHA L x j=some ((yB3 x).headS j):=xIb x j
     unfold yDh
     dsimp only
     rw[yAb (decide_eq_true (by omega)),hHd,yAC,yW8 hh0 (by rw[hlen];exact hle)]
     rw[hset,yCf (decide_eq_true (by rw[hlen];omega)),yCf (Nat.ble_eq_true_of_le (Nat.zero_le _)),yCf (by
      rw[List.getD_eq_getElem?_getD,List.getElem?_map,List.getElem?_eq_getElem (by rw[yN1,hn];omega)];rfl),yIx (by rw[List.length_map,List.length_map,List.length_set]) (yMc _)]
     rw[yAa (by omega) (by omega)]
     rfl
    ·obtain rfl:j=s:=by omega
     refine .inr ⟨((heads (yB3 x) top hd j).map txV,()),rfl,fun kn ka=>?_⟩
     unfold yDh
     dsimp only
     rw[yAJ (decide_eq_false (by omega)),yIx rfl (yMc _)])
  L (x,hd,(heads (yB3 x) top hd 0).map txV,0,()) ⟨rfl,rfl,0,Nat.zero_le _,rfl,rfl⟩ (by dsimp only;omega)
 rw[hrun]
 obtain⟨a1,a2⟩:=a
 dsimp only at ha ⊢
 subst ha
 rw[yRQ (by omega) (by rw[List.length_map,yN1,hn];omega) (yMc _),List.take_length]
 rw[show x.Slots.toNat=s by omega]
theorem yVo{g:Geo}(h:g.OK)(top hd:ByteArray){k:Nat}(k1:1<=k)(k2:(k:Int)<g.atJ):∀j:Nat,(heads g top hd j).getD k noS=noS
 | 0=>by
   unfold heads
   rw[List.getD_eq_getElem?_getD,List.getElem?_set_ne (by omega),List.getElem?_replicate]
   split <;> rfl
 | j+1=>by
   unfold heads
   have hne:(g.headS j).toNat≠k:=by
    unfold Geo.headS
    split
    ·have:0<=(j:Int)*(1+g.journal):=Int.mul_nonneg (by omega) (by have:=h.j1;have:=h.p1;omega)
     unfold Geo.atJ at*
     omega
    ·omega
   rw[List.getD_eq_getElem?_getD,List.getElem?_set_ne hne,←List.getD_eq_getElem?_getD]
   exact yVo h top hd k1 k2 j
structure First (g:Geo) (s:List ByteArray):Prop where
 ok:SecOk s
 len:(s.length:Int)=g.total
 no:∀k:Nat,1<=k->(k:Int)<g.atJ->s.getD k noS=noS
set_option maxHeartbeats 1000000 in
theorem xKQ{L:Nat}{x:yAQ}(hm:(yB3 x).may=true)(hL:200000<L):∃s,First (yB3 x) s/\yJ5 L x=some (dvF s x.Nodes.toNat,true,()):=by
 have hok:=Geo.may_ok hm
 obtain⟨top,hd,h1,h2,hF⟩:=xFu (L:=L) hm hL
 have hbd:=yTG hok
 have hat:=hok.sj
 have hlen:=yN1 (yB3 x) top hd x.Slots.toNat
 have hA:0<(yB3 x).atD:=by unfold Geo.atD;have:=hok.n1;have:=hok.l1;have:=hok.s1;omega
 have n1:=hok.n1
 have n2:=hok.n2
 have n1:1<=x.Nodes:=n1
 have n2:x.Nodes<=16:=n2
 generalize hs:heads (yB3 x) top hd x.Slots.toNat=s at*
 have hS:SecOk s:=⟨by omega,by omega,by rw[←hs];exact xE3 h1 h2 _⟩
 refine⟨s,⟨hS,by omega,fun k k1 k2=>by rw[←hs];exact yVo hok top hd k1 k2 _⟩,?_⟩
 obtain⟨N,hN⟩:=Int.eq_ofNat_of_zero_le (show 0<=x.Nodes by omega)
 have hNn:x.Nodes.toNat=N:=by omega
 rw[hNn]
 unfold yJ5 yP5
 rw[hF,yAC]
 obtain⟨c0,hc0,hnew⟩:=xKo (L:=L) hS (N:=N) (by omega) (by omega) hL
 rw[hN,hnew,yAJ (by rfl),yAC]
 obtain⟨a,ha,hrun⟩:=yFv (α:=yAA×Bool×Unit) (F:=yEG (yEM L)) (fun q=>x=q.1/\q.2.2.1=0/\∃j:Nat,j<=N/\(j:Int)=q.2.2.2.2.1/\∃c,CE c N/\(j=N->c=xMW N)/\dvN s c N j=q.2.2.2.1) (fun q=>N-q.2.2.2.2.1.toNat)
  (fun a=>a.2.1=0/\a.2.2.1=dvF s N) (fun q hq=>by
    obtain⟨q1,q2,q3,q4,q5,q6⟩:=q
    dsimp only at hq
    obtain⟨rfl,rfl,j,hj,rfl,c,hc,hcN,rfl⟩:=hq
    by_cases hlt:j<N
    ·obtain⟨b,hb⟩:=xKm hS hc (by omega) (by omega) hL hlt
     refine .inl ⟨(x,q2,0,dvN s ((cE N).set j [V.sl [] true]) N (j+1),((j+1:Nat):Int),()),⟨rfl,rfl,j+1,hlt,rfl,_,xJz N j,fun e=>by rw[←e];rfl,rfl⟩,by dsimp only;omega,fun kn ka=>?_⟩
     unfold yEG
     dsimp only
     rw[yAb (decide_eq_true (by omega)),yAb (by rfl),hb,yAC]
     dsimp only
     rw[yAa (by omega) (by omega)]
     rfl
    ·obtain rfl:j=N:=by omega
     refine .inr ⟨(q2,0,dvF s j,()),⟨rfl,rfl⟩,fun kn ka=>?_⟩
     unfold yEG
     dsimp only
     rw[yAJ (decide_eq_false (by omega)),hcN rfl])
  L (x,yAA.z,0,dvN s c0 N 0,0,()) ⟨rfl,rfl,0,Nat.zero_le _,rfl,c0,hc0,fun e=>by omega,rfl⟩ (by dsimp only;omega)
 show yBL (yEG (yEM L)) L (x,yAA.z,0,dvN s c0 N 0,0,()) _=_
 rw[hrun]
 obtain⟨a1,a2,a3,a4⟩:=a
 obtain⟨rfl,rfl⟩:=ha
 rfl
def recAt(r:yBI)(k:Int):yBI:=if r.Inst=k then r else⟨k,r.Mbal,0,noS⟩
def yYF(o:yBI)(seen:Int):yAm:=⟨o.Inst,o.Mbal,o.Bal,o.Val,max seen o.Mbal,false,false⟩
def yCx(t:yAm)(r:yBI):yAm:=
 ⟨t.Inst,t.Mbal,if r.Inst=t.Inst/\t.Best<r.Bal then r.Bal else t.Best,if r.Inst=t.Inst/\t.Best<r.Bal then r.Val else t.Val,max t.Seen r.Mbal,t.Ahead || decide (t.Inst<r.Inst),t.Lost || (decide (r.Inst=t.Inst)&&decide (t.Mbal<r.Mbal))⟩
def others(node k:Int):Int:=if k=node then k+1 else k
def xFF(p:yAO):yAO:=⟨p.Node,p.Cmd,0,0,yBI.z,⟨0,0,0,noS,p.T.Seen,false,false⟩⟩
def yDO(t:yAm):Bool:=t.Ahead || t.Lost
def yHa(N:Int)(p:yAO)(k:Int):yAO:=
 if others p.Node k<N then⟨p.Node,p.Cmd,p.At,others p.Node k,p.Own,p.T⟩
 else if yDO p.T then xFF p
 else if p.At=5 then⟨p.Node,p.Cmd,6,others p.Node k,p.Own,p.T⟩
 else⟨p.Node,p.Cmd,4,others p.Node k,⟨p.Own.Inst,p.Own.Mbal,p.Own.Mbal,if 0<p.T.Best then p.T.Val else p.Cmd⟩,p.T⟩
def yN9(N:Int)(p:yAO):yAO:=yHa N ⟨p.Node,p.Cmd,p.At+1,p.I,p.Own,yYF p.Own p.T.Seen⟩ 0
def yIF(N:Int)(p:yAO)(r:yBI):yAO:=yHa N ⟨p.Node,p.Cmd,p.At,p.I,p.Own,yCx p.T r⟩ (p.I+1)
structure PX where
 p:yAO
 done:Int
 ser:Int
 on:Bool
structure PW where
 rc:Int->yBI
 log:Int->Option ByteArray
 x:Int->PX
 vt:Int->Int->Option (ByteArray×Int)
 ch:Int->Int->Prop
variable (N:Int) (idn ids:ByteArray->Int)
def upd{α:Type}(f:Int->α)(n:Int)(a:α):Int->α:=fun m=>if m=n then a else f m
theorem yB7{α:Type}(f:Int->α)(n:Int)(a:α):upd f n a n=a:=if_pos rfl
theorem yCS{α:Type}(f:Int->α){n m:Int}(a:α)(h:m≠n):upd f n a m=f m:=if_neg h
structure KK (W:PW) (k b m:Int):Prop where
 v:∀b' v c,b'%16=m->b<b'->W.vt k b'=some (v,c)->b<=c
 s:(W.x m).on=true->(W.x m).done=k->(W.x m).p.At=4->b<(W.x m).p.Own.Mbal->b<=(W.x m).p.T.Best
 r:(W.x m).on=true->(W.x m).done=k->(W.x m).p.At=3->b<(W.x m).p.Own.Mbal->yDO (W.x m).p.T=false->b%16<(W.x m).p.I->b<=(W.x m).p.T.Best
structure Nd1 (W:PW) (n:Int):Prop where
 rb:0<=(W.rc n).Bal/\(W.rc n).Bal<=(W.rc n).Mbal
 rm:(W.rc n).Mbal=0\/(W.rc n).Mbal%16=n
 rl:∀j,0<=j->j<(W.rc n).Inst->W.log j≠none
 ri:0<=(W.rc n).Inst
 rv:0<(W.rc n).Bal->∃c,W.vt (W.rc n).Inst (W.rc n).Bal=some ((W.rc n).Val,c)
 d0:0<=(W.x n).done
 dl:∀j,0<=j->j<(W.x n).done->W.log j≠none
structure Nd2 (W:PW) (n:Int):Prop where
 node:(W.x n).p.Node=n
 at_:0<=(W.x n).p.At/\(W.x n).p.At<=6
 le:1<=(W.x n).p.At->(W.rc n).Inst<=(W.x n).done
 cmd:idn (W.x n).p.Cmd=n/\ids (W.x n).p.Cmd=(W.x n).ser
 a2:(W.x n).p.At=2->(W.rc n).Mbal<(W.x n).p.Own.Mbal/\(W.x n).p.Own.Mbal%16=n/\(W.x n).p.Own=⟨(W.x n).done,(W.x n).p.Own.Mbal,(recAt (W.rc n) (W.x n).done).Bal,(recAt (W.rc n) (W.x n).done).Val⟩
 a3:3<=(W.x n).p.At->(W.rc n).Inst=(W.x n).done/\(W.x n).p.Own.Inst=(W.x n).done/\(W.x n).p.Own.Mbal=(W.rc n).Mbal/\(W.x n).p.T.Inst=(W.x n).done/\(W.x n).p.T.Mbal=(W.rc n).Mbal/\(W.rc n).Mbal%16=n/\0<(W.rc n).Mbal
 a34:3<=(W.x n).p.At->(W.x n).p.At<=4->(W.rc n).Bal<(W.rc n).Mbal/\(W.rc n).Bal<=(W.x n).p.T.Best/\(yDO (W.x n).p.T=false->(W.x n).p.T.Best<(W.rc n).Mbal)/\(0<(W.x n).p.T.Best->∃c,W.vt (W.x n).done (W.x n).p.T.Best=some ((W.x n).p.T.Val,c))
 a4:(W.x n).p.At=4->yDO (W.x n).p.T=false/\(W.x n).p.Own.Bal=(W.rc n).Mbal/\(W.x n).p.Own.Val=(if 0<(W.x n).p.T.Best then(W.x n).p.T.Val else(W.x n).p.Cmd)
 a56:5<=(W.x n).p.At->W.rc n=(W.x n).p.Own/\(W.rc n).Bal=(W.rc n).Mbal
 a3o:(W.x n).p.At=3->W.rc n=(W.x n).p.Own
 rd:(W.x n).p.At=3\/(W.x n).p.At=5->0<=(W.x n).p.I/\(W.x n).p.I<N/\(W.x n).p.I≠n
 a5:(W.x n).p.At=5->yDO (W.x n).p.T=false->∀m,0<=m->m<N->m≠n->m<(W.x n).p.I->KK W (W.x n).done (W.rc n).Mbal m
 a6:(W.x n).p.At=6->W.ch (W.x n).done (W.rc n).Mbal
structure Vt1 (W:PW) (k b:Int) (v:ByteArray) (c:Int):Prop where
 b0:0<b
 n:b%16<N
 k0:0<=k
 ri:k<=(W.rc (b%16)).Inst
 rb:b<=(W.rc (b%16)).Mbal
 re:k=(W.rc (b%16)).Inst->b<=(W.rc (b%16)).Bal
 ba:c=0\/0<c/\c<b/\∃c',W.vt k c=some (v,c')
 same:∀b' v' c',W.vt k b'=some (v',c')->b'%16=b%16->b'<b->b'<=c
 id0:0<=idn v/\idn v<N/\ids v<=(W.x (idn v)).ser
 idd:(W.x (idn v)).on=true->ids v=(W.x (idn v)).ser->k<=(W.x (idn v)).done/\(k<(W.x (idn v)).done->∃w,W.log k=some w/\¬(idn w=idn v/\ids w=ids v))
 idu:∀i b' v' c',W.vt i b'=some (v',c')->idn v'=idn v->ids v'=ids v->i<k->∃w,W.log i=some w/\¬(idn w=idn v/\ids w=ids v)
structure PInv (W:PW):Prop where
 nd:∀n,0<=n->n<N->Nd1 W n
 on:∀n,0<=n->n<N->(W.x n).on=true->Nd2 N idn ids W n
 vo:∀k b v c,W.vt k b=some (v,c)->Vt1 N idn ids W k b v c
 cv:∀k b,W.ch k b->∃v c,W.vt k b=some (v,c)
 ck:∀k b m,W.ch k b->0<=m->m<N->m≠b%16->KK W k b m
 lg:∀k v,W.log k=some v->∃b c,W.ch k b/\W.vt k b=some (v,c)
variable {N idn ids}
theorem PInv.agree{W:PW}(h:PInv N idn ids W){k b:Int}{v:ByteArray}{c:Int}(hc:W.ch k b)(hv:W.vt k b=some (v,c)):
  ∀(g:Nat) (b':Int) (v':ByteArray) (c':Int),b'.toNat<=g->b<=b'->W.vt k b'=some (v',c')->v'=v
 | 0,b',v',c',hg,hb,hv'=>by
   have:=(h.vo k b' v' c' hv').b0
   omega
 | g+1,b',v',c',hg,hb,hv'=>by
   by_cases he:b=b'
   ·subst he
    rw[hv] at hv'
    injection hv' with hv'
    injection hv' with h1 h2
    exact h1.symm
   have V:=h.vo k b' v' c' hv'
   have V0:=h.vo k b v c hv
   have hle:b<=c':=by
    by_cases hs:b%16=b'%16
    ·exact V.same b v c hv hs (by omega)
    ·exact(h.ck k b (b'%16) hc (by omega) V.n (by omega)).v b' v' c' rfl (by omega) hv'
   rcases V.ba with h0 | ⟨h1,h2,c2,h3⟩
   ·have:=V0.b0
    omega
   ·exact PInv.agree h hc hv g c' v' c2 (by omega) hle h3
theorem PInv.one{W:PW}(h:PInv N idn ids W){k b b':Int}{v v':ByteArray}{c c':Int}(hc:W.ch k b)(hc':W.ch k b')(hv:W.vt k b=some (v,c))(hv':W.vt k b'=some (v',c')):v=v':=by
 rcases Int.le_total b b' with hb | hb
 ·exact(h.agree hc hv b'.toNat b' v' c' (Nat.le_refl _) hb hv').symm
 ·exact h.agree hc' hv' b.toNat b v c (Nat.le_refl _) hb hv
theorem KK.other{W W':PW}{k b m n:Int}(h:KK W k b m)(hm:m≠n)(hx:W'.x m=W.x m)(hv:∀k b p,W'.vt k b=some p->W.vt k b=some p\/b%16=n):KK W' k b m:=
 ⟨fun b' v c h1 h2 h3=>(hv _ _ _ h3).elim (fun q=>h.v b' v c h1 h2 q) fun q=>absurd (h1.symm.trans q) hm,by rw[hx];exact h.s,by rw[hx];exact h.r⟩
theorem Nd1.mono{W W':PW}{m:Int}(h:Nd1 W m)(hr:W'.rc m=W.rc m)(hx:W'.x m=W.x m)(hl:∀k v,W.log k=some v->W'.log k=some v)(hv:∀k b p,W.vt k b=some p->W'.vt k b=some p):Nd1 W' m:=by
 have hl':∀j,W.log j≠none->W'.log j≠none:=fun j hj=>by
  cases h1:W.log j with
  | none=>exact absurd h1 hj
  | some v=>rw[hl j v h1];simp
 refine⟨by rw[hr];exact h.rb,by rw[hr];exact h.rm,fun j h1 h2=>hl' j (h.rl j h1 (by rw[hr] at h2;exact h2)),by rw[hr];exact h.ri,fun h1=>?_,by rw[hx];exact h.d0,fun j h1 h2=>hl' j (h.dl j h1 (by rw[hx] at h2;exact h2))⟩
 rw[hr] at h1 ⊢
 obtain⟨c,hc⟩:=h.rv h1
 exact⟨c,hv _ _ _ hc⟩
theorem Nd2.mono{W W':PW}{m:Int}(h:Nd2 N idn ids W m)(hr:W'.rc m=W.rc m)(hx:W'.x m=W.x m)(hv:∀k b p,W.vt k b=some p->W'.vt k b=some p)(hc:∀k b,W.ch k b->W'.ch k b)
  (hk:∀m',0<=m'->m'<N->m'≠m->(W.x m).p.At=5->KK W (W.x m).done (W.rc m).Mbal m'->KK W' (W.x m).done (W.rc m).Mbal m'):Nd2 N idn ids W' m:=by
 refine⟨?_,?_,?_,?_,?_,?_,?_,?_,?_,?_,?_,?_,?_⟩ <;> rw[hx] <;> try rw[hr]
 ·exact h.node
 ·exact h.at_
 ·exact h.le
 ·exact h.cmd
 ·exact h.a2
 ·exact h.a3
 ·intro h1 h2
  obtain⟨k1,k2,k3,k4⟩:=h.a34 h1 h2
  refine⟨k1,k2,k3,fun h3=>?_⟩
  obtain⟨c,q⟩:=k4 h3
  exact⟨c,hv _ _ _ q⟩
 ·exact h.a4
 ·exact h.a56
 ·exact h.a3o
 ·exact h.rd
 ·intro h1 h2 m' h3 h4 h5 h6
  exact hk m' h3 h4 h5 h1 (h.a5 h1 h2 m' h3 h4 h5 h6)
 ·exact fun h1=>hc _ _ (h.a6 h1)
theorem PInv.step{W W':PW}(h:PInv N idn ids W)(n:Int)(hn0:0<=n)(hnN:n<N)(hN:N<=16)(hx:∀m,m≠n->W'.x m=W.x m)(hr:∀m,m≠n->W'.rc m=W.rc m)
  (hl:∀k v,W.log k=some v->W'.log k=some v) (hv:∀k b p,W.vt k b=some p->W'.vt k b=some p) (hv':∀k b p,W'.vt k b=some p->W.vt k b=some p\/b%16=n)
  (hc:∀k b,W.ch k b->W'.ch k b) (h1:Nd1 W' n) (h2:(W'.x n).on=true->Nd2 N idn ids W' n) (h3:∀k b v c,W'.vt k b=some (v,c)->Vt1 N idn ids W' k b v c)
  (h4:∀k b,0<=b%16->b%16<N->b%16≠n->k<=(W.rc (b%16)).Inst->(k=(W.rc (b%16)).Inst->b<=(W.rc (b%16)).Bal)->KK W k b n->KK W' k b n)
  (h5:∀k b,W'.ch k b->W.ch k b\/((∃v c,W'.vt k b=some (v,c))/\∀m,0<=m->m<N->m≠b%16->KK W' k b m)) (h6:∀k v,W'.log k=some v->W.log k=some v\/∃b c,W'.ch k b/\W'.vt k b=some (v,c)):PInv N idn ids W':=by
 have hk:∀k b m,0<=b%16->b%16<N->m≠b%16->k<=(W.rc (b%16)).Inst->(k=(W.rc (b%16)).Inst->b<=(W.rc (b%16)).Bal)->KK W k b m->KK W' k b m:=fun k b m q1 q2 q3 q4 q5 K=>by
  by_cases hm:m=n
  ·subst hm
   exact h4 k b q1 q2 (fun e=>q3 e.symm) q4 q5 K
  ·exact K.other hm (hx m hm) hv'
 refine⟨fun m hm0 hmN=>?_,fun m hm0 hmN hon=>?_,h3,fun k b hcb=>?_,fun k b m hcb hm0 hmN hne=>?_,fun k v hkv=>?_⟩
 ·by_cases hm:m=n
  ·subst hm;exact h1
  ·exact(h.nd m hm0 hmN).mono (hr m hm) (hx m hm) hl hv
 ·by_cases hm:m=n
  ·subst hm;exact h2 hon
  ·rw[hx m hm] at hon
   have H2:=h.on m hm0 hmN hon
   have H1:=h.nd m hm0 hmN
   refine H2.mono (hr m hm) (hx m hm) hv hc fun m' k0 kN kne h5' K=>?_
   obtain⟨a1,a2,a3,a4,a5,a6,a7⟩:=H2.a3 (by omega)
   have a8:=H2.a56 (by omega)
   exact hk _ _ m' (by omega) (by omega) (by omega) (by rw[a6];omega) (fun _=>by rw[a6,a8.2];exact Int.le_refl _) K
 ·rcases h5 k b hcb with q | ⟨q,-⟩
  ·obtain⟨v,c,q⟩:=h.cv k b q
   exact⟨v,c,hv _ _ _ q⟩
  ·exact q
 ·rcases h5 k b hcb with q | ⟨-,q⟩
  ·obtain⟨v,c,hq⟩:=h.cv k b q
   have V:=h.vo k b v c hq
   exact hk k b m (by have:=V.b0;omega) V.n hne V.ri V.re (h.ck k b m q hm0 hmN hne)
  ·exact q m hm0 hmN hne
 ·rcases h6 k v hkv with q | q
  ·obtain⟨b,c,q1,q2⟩:=h.lg k v q
   exact⟨b,c,hc _ _ q1,hv _ _ _ q2⟩
  ·exact q
theorem Vt1.stay{W W':PW}{k b:Int}{v:ByteArray}{c:Int}(h:Vt1 N idn ids W k b v c)(n:Int)(hx:∀m,m≠n->W'.x m=W.x m)(hr:∀m,m≠n->W'.rc m=W.rc m)
  (hl:∀k v,W.log k=some v->W'.log k=some v) (hv:W'.vt=W.vt) (hri:(W.rc n).Inst<=(W'.rc n).Inst) (hrm:(W.rc n).Mbal<=(W'.rc n).Mbal) (hrb:(W.rc n).Inst=(W'.rc n).Inst->(W.rc n).Bal<=(W'.rc n).Bal)
  (hs:(W.x n).ser<=(W'.x n).ser) (hd:(W'.x n).on=true->ids v=(W'.x n).ser->idn v=n->k<=(W'.x n).done/\(k<(W'.x n).done->∃w,W'.log k=some w/\¬(idn w=idn v/\ids w=ids v))):Vt1 N idn ids W' k b v c:=by
 have hR:(W.rc (b%16)).Inst<=(W'.rc (b%16)).Inst/\(W.rc (b%16)).Mbal<=(W'.rc (b%16)).Mbal/\((W.rc (b%16)).Inst=(W'.rc (b%16)).Inst->(W.rc (b%16)).Bal<=(W'.rc (b%16)).Bal):=by
  by_cases hm:b%16=n
  ·rw[hm];exact⟨hri,hrm,hrb⟩
  ·rw[hr _ hm];exact⟨Int.le_refl _,Int.le_refl _,fun _=>Int.le_refl _⟩
 have h1:=h.ri;have h2:=h.rb;have h3:=h.re
 refine⟨h.b0,h.n,h.k0,by omega,by omega,fun e=>?_,by rw[hv];exact h.ba,by rw[hv];exact h.same,?_,?_,?_⟩
 ·have:=h3 (by omega)
  have:=hR.2.2 (by omega)
  omega
 ·refine⟨h.id0.1,h.id0.2.1,?_⟩
  by_cases hm:idn v=n
  ·rw[hm];have:=h.id0.2.2;rw[hm] at this;omega
  ·rw[hx _ hm];exact h.id0.2.2
 ·by_cases hm:idn v=n
  ·intro q1 q2
   rw[hm] at q1 q2 ⊢
   have:=hd q1 q2 hm
   rw[hm] at this
   exact this
  ·rw[hx _ hm]
   intro q1 q2
   obtain⟨q3,q4⟩:=h.idd q1 q2
   refine⟨q3,fun q5=>?_⟩
   obtain⟨w,q6,q7⟩:=q4 q5
   exact⟨w,hl _ _ q6,q7⟩
 ·rw[hv]
  intro i b' v' c' q1 q2 q3 q4
  obtain⟨w,q6,q7⟩:=h.idu i b' v' c' q1 q2 q3 q4
  exact⟨w,hl _ _ q6,q7⟩
def stX(W:PW)(n:Int)(X:PX):PW:=⟨W.rc,W.log,upd W.x n X,W.vt,W.ch⟩
theorem KK.quiet{W W':PW}{k b n:Int}(h:KK W k b n)(hv:W'.vt=W.vt)(hq:(W'.x n).on=true->(W'.x n).p.At≠3/\(W'.x n).p.At≠4):KK W' k b n:=
 ⟨by rw[hv];exact h.v,fun h1 _ h3 _=>absurd h3 (hq h1).2,fun h1 _ h3 _ _ _=>absurd h3 (hq h1).1⟩
theorem PInv.stx{W:PW}(h:PInv N idn ids W)(n:Int)(hn0:0<=n)(hnN:n<N)(hN:N<=16)(X:PX)(hs:(W.x n).ser<=X.ser)(hd0:0<=X.done)(hdl:∀j,0<=j->j<X.done->W.log j≠none)
  (h2:X.on=true->Nd2 N idn ids (stX W n X) n)
  (hi:∀k b v c,W.vt k b=some (v,c)->X.on=true->ids v=X.ser->idn v=n->k<=X.done/\(k<X.done->∃w,W.log k=some w/\¬(idn w=idn v/\ids w=ids v)))
  (h4:∀k b,0<=b%16->b%16<N->b%16≠n->k<=(W.rc (b%16)).Inst->(k=(W.rc (b%16)).Inst->b<=(W.rc (b%16)).Bal)->KK W k b n->KK (stX W n X) k b n):PInv N idn ids (stX W n X):=by
 have e:(stX W n X).x n=X:=yB7 _ _ _
 have o:∀m,m≠n->(stX W n X).x m=W.x m:=fun m hm=>yCS _ _ hm
 have H:=h.nd n hn0 hnN
 refine h.step (W':=stX W n X) n hn0 hnN hN o (fun _ _=>rfl) (fun _ _ q=>q) (fun _ _ _ q=>q) (fun _ _ _ q=> .inl q) (fun _ _ q=>q) ⟨H.rb,H.rm,H.rl,H.ri,H.rv,by rw[e];exact hd0,by rw[e];exact hdl⟩ (fun q=>h2 (by rw[e] at q;exact q))
  (fun k b v c q=>(h.vo k b v c q).stay n o (fun _ _=>rfl) (fun _ _ q=>q) rfl (Int.le_refl _) (Int.le_refl _) (fun _=>Int.le_refl _) (by rw[e];exact hs) (by rw[e];exact hi k b v c q)) h4 (fun k b q=> .inl q) (fun k v q=> .inl q)
theorem PInv.off{W:PW}(h:PInv N idn ids W)(n:Int)(hn0:0<=n)(hnN:n<N)(hN:N<=16)(X:PX)(hs:(W.x n).ser<=X.ser)(hd:X.done=(W.x n).done)(ho:X.on=false):PInv N idn ids (stX W n X):=by
 have H:=h.nd n hn0 hnN
 exact h.stx n hn0 hnN hN X hs (by rw[hd];exact H.d0) (by rw[hd];exact H.dl) (fun q=>by rw[ho] at q;cases q) (fun k b v c _ q=>by rw[ho] at q;cases q) fun k b _ _ _ _ _ K=>K.quiet rfl fun q=>by
  rw[show(stX W n X).x n=X from yB7 _ _ _,ho] at q;cases q
theorem Nd2.z{W:PW}{n:Int}(hp:(W.x n).p.Node=n)(ha:(W.x n).p.At=0)(hc:idn (W.x n).p.Cmd=n/\ids (W.x n).p.Cmd=(W.x n).ser):Nd2 N idn ids W n:=
 ⟨hp,by omega,fun q=>by omega,hc,fun q=>by omega,fun q=>by omega,fun q=>by omega,fun q=>by omega,fun q=>by omega,fun q=>by omega,fun q=>by omega,fun q=>by omega,fun q=>by omega⟩
theorem PInv.begin{W:PW}(h:PInv N idn ids W)(n:Int)(hn0:0<=n)(hnN:n<N)(hN:N<=16)(X:PX)(hs:(W.x n).ser<X.ser)(hd:X.done=(W.x n).done)(hp:X.p.Node=n)(ha:X.p.At=0)(hc:idn X.p.Cmd=n/\ids X.p.Cmd=X.ser):PInv N idn ids (stX W n X):=by
 have H:=h.nd n hn0 hnN
 have e:(stX W n X).x n=X:=yB7 _ _ _
 refine h.stx n hn0 hnN hN X (by omega) (by rw[hd];exact H.d0) (by rw[hd];exact H.dl) (fun q=> .z (by rw[e];exact hp) (by rw[e];exact ha) (by rw[e];exact hc)) (fun k b v c q1 _ q2 q3=>?_) fun k b _ _ _ _ _ K=>K.quiet rfl fun q=>by
  rw[e,ha];omega
 have:=(h.vo k b v c q1).id0.2.2
 rw[q3] at this
 omega
theorem PInv.logged{W:PW}(h:PInv N idn ids W)(n:Int)(hn0:0<=n)(hnN:n<N)(hN:N<=16)(ho:(W.x n).on=true)(u:ByteArray)(hu:W.log (W.x n).done=some u)(X:PX)(hs:X.ser=(W.x n).ser)(hd:X.done=(W.x n).done+1)
  (hp:X.p.Node=n) (ha:X.p.At=0) (hc:X.p.Cmd=(W.x n).p.Cmd) (hon:X.on=true->¬(idn u=n/\ids u=(W.x n).ser)):PInv N idn ids (stX W n X):=by
 have H:=h.nd n hn0 hnN
 have H2:=h.on n hn0 hnN ho
 have e:(stX W n X).x n=X:=yB7 _ _ _
 have d0:=H.d0
 refine h.stx n hn0 hnN hN X (by omega) (by omega) (fun j h1 h2=>?_) (fun q=> .z (by rw[e];exact hp) (by rw[e];exact ha) (by rw[e,hc,hs];exact H2.cmd)) (fun k b v c q1 q q2 q3=>?_) fun k b _ _ _ _ _ K=>K.quiet rfl fun q=>by
  rw[e,ha];omega
 ·by_cases hj:j=(W.x n).done
  ·rw[hj,hu];simp
  ·exact H.dl j h1 (by omega)
 ·have V:=(h.vo k b v c q1).idd (by rw[q3];exact ho) (by rw[q3,q2,hs])
  rw[q3] at V
  refine⟨by omega,fun q4=>?_⟩
  by_cases hk:k=(W.x n).done
  ·refine⟨u,by rw[hk];exact hu,fun q5=>hon q ⟨by rw[q5.1,q3],by rw[q5.2,q2,hs]⟩⟩
  ·obtain⟨w,r1,r2⟩:=V.2 (by omega)
   exact⟨w,r1,by rw[q3];exact r2⟩
theorem PInv.free{W:PW}(h:PInv N idn ids W)(n:Int)(hn0:0<=n)(hnN:n<N)(hN:N<=16)(ho:(W.x n).on=true)(hu:W.log (W.x n).done=none)(X:PX)(hs:X.ser=(W.x n).ser)(hd:X.done=(W.x n).done)
  (hp:X.p.Node=n) (ha:X.p.At=1) (hc:X.p.Cmd=(W.x n).p.Cmd):PInv N idn ids (stX W n X):=by
 have H:=h.nd n hn0 hnN
 have H2:=h.on n hn0 hnN ho
 have e:(stX W n X).x n=X:=yB7 _ _ _
 refine h.stx n hn0 hnN hN X (by omega) (by rw[hd];exact H.d0) (by rw[hd];exact H.dl) (fun q=>?_) (fun k b v c q1 q q2 q3=>?_) fun k b _ _ _ _ _ K=>K.quiet rfl fun q=>by
  rw[e,ha];omega
 ·refine⟨by rw[e];exact hp,by rw[e];omega,fun _=>?_,by rw[e,hc,hs];exact H2.cmd,fun q=>?_,fun q=>?_,fun q=>?_,fun q=>?_,fun q=>?_,fun q=>?_,fun q=>?_,fun q=>?_,fun q=>?_⟩ <;> rw[e] at* <;> try omega
  rw[hd]
  show(W.rc n).Inst<=_
  by_cases hle:(W.rc n).Inst<=(W.x n).done
  ·exact hle
  ·exact absurd hu (H.rl _ H.d0 (by omega))
 ·have V:=(h.vo k b v c q1).idd (by rw[q3];exact ho) (by rw[q3,q2,hs])
  rw[q3] at V ⊢
  rw[hd];exact V
theorem PInv.own{W:PW}(h:PInv N idn ids W)(n:Int)(hn0:0<=n)(hnN:n<N)(hN:N<=16)(ho:(W.x n).on=true)(hat:(W.x n).p.At=1)(X:PX)(hs:X.ser=(W.x n).ser)(hd:X.done=(W.x n).done)
  (hp:X.p.Node=n) (ha:X.p.At=2) (hc:X.p.Cmd=(W.x n).p.Cmd) (hm:(W.rc n).Mbal<X.p.Own.Mbal) (hmn:X.p.Own.Mbal%16=n)
  (hown:X.p.Own=⟨(W.x n).done,X.p.Own.Mbal,(recAt (W.rc n) (W.x n).done).Bal,(recAt (W.rc n) (W.x n).done).Val⟩):PInv N idn ids (stX W n X):=by
 have H:=h.nd n hn0 hnN
 have H2:=h.on n hn0 hnN ho
 have e:(stX W n X).x n=X:=yB7 _ _ _
 refine h.stx n hn0 hnN hN X (by omega) (by rw[hd];exact H.d0) (by rw[hd];exact H.dl) (fun q=>?_) (fun k b v c q1 q q2 q3=>?_) fun k b _ _ _ _ _ K=>K.quiet rfl fun q=>by
  rw[e,ha];omega
 ·refine⟨by rw[e];exact hp,by rw[e];omega,fun _=>?_,by rw[e,hc,hs];exact H2.cmd,fun q=>?_,fun q=>?_,fun q=>?_,fun q=>?_,fun q=>?_,fun q=>?_,fun q=>?_,fun q=>?_,fun q=>?_⟩ <;> rw[e] at* <;> try omega
  ·rw[hd];exact H2.le (by omega)
  ·exact⟨hm,hmn,by rw[hd];exact hown⟩
 ·have V:=(h.vo k b v c q1).idd (by rw[q3];exact ho) (by rw[q3,q2,hs])
  rw[q3] at V ⊢
  rw[hd];exact V
theorem xAr{n k:Int}:k<=others n k/\others n k<=k+1/\others n k≠n:=by
 unfold others
 split <;> omega
theorem Nd2.next3{W:PW}{n k:Int}(H:Nd1 W n){p:yAO}(he:(W.x n).p=yHa N p k)(hk:0<=k)(hat:p.At=3)(hnode:p.Node=n)(hcmd:idn p.Cmd=n/\ids p.Cmd=(W.x n).ser)(hown:W.rc n=p.Own)
  (hinst:(W.rc n).Inst=(W.x n).done) (ti:p.T.Inst=(W.x n).done) (tm:p.T.Mbal=(W.rc n).Mbal) (hm:(W.rc n).Mbal%16=n) (hm0:0<(W.rc n).Mbal) (hb:(W.rc n).Bal<(W.rc n).Mbal) (hbb:(W.rc n).Bal<=p.T.Best)
  (hs:yDO p.T=false->p.T.Best<(W.rc n).Mbal) (hv:0<p.T.Best->∃c,W.vt (W.x n).done p.T.Best=some (p.T.Val,c)):Nd2 N idn ids W n:=by
 obtain⟨o1,o2,o3⟩:=@xAr p.Node k
 unfold yHa at he
 by_cases h1:others p.Node k<N
 ·rw[if_pos h1] at he
  constructor <;> rw[he] <;> try (intro q;first | (exact absurd q (by dsimp only;omega)) | skip)
  ·exact hnode
  ·dsimp only;omega
  ·omega
  ·exact hcmd
  ·dsimp only;rw[←hown];exact⟨hinst,hinst,rfl,ti,tm,hm,hm0⟩
  ·exact fun _=>⟨hb,hbb,hs,hv⟩
  ·exact hown
  ·dsimp only;rw[hnode] at *;omega
 ·rw[if_neg h1] at he
  by_cases h2:yDO p.T=true
  ·rw[if_pos h2] at he
   exact .z (by rw[he];exact hnode) (by rw[he];rfl) (by rw[he];exact hcmd)
  ·have h2':yDO p.T=false:=by simpa using h2
   rw[if_neg h2,if_neg (by omega)] at he
   constructor <;> rw[he] <;> try (intro q;first | (exact absurd q (by dsimp only;omega)) | skip)
   ·exact hnode
   ·dsimp only;omega
   ·omega
   ·exact hcmd
   ·dsimp only;rw[←hown];exact⟨hinst,hinst,rfl,ti,tm,hm,hm0⟩
   ·exact fun _=>⟨hb,hbb,hs,hv⟩
   ·exact⟨h2',by dsimp only;rw[hown],rfl⟩
theorem Nd2.next5{W:PW}{n k:Int}(H:Nd1 W n){p:yAO}(he:(W.x n).p=yHa N p k)(hk:0<=k)(hat:p.At=5)(hnode:p.Node=n)(hcmd:idn p.Cmd=n/\ids p.Cmd=(W.x n).ser)(hown:W.rc n=p.Own)
  (hinst:(W.rc n).Inst=(W.x n).done) (ti:p.T.Inst=(W.x n).done) (tm:p.T.Mbal=(W.rc n).Mbal) (hm:(W.rc n).Mbal%16=n) (hm0:0<(W.rc n).Mbal) (hb:(W.rc n).Bal=(W.rc n).Mbal)
  (hK:yDO p.T=false->∀m,0<=m->m<N->m≠n->m<others n k->KK W (W.x n).done (W.rc n).Mbal m) (hch:(W.x n).p.At=6->W.ch (W.x n).done (W.rc n).Mbal):Nd2 N idn ids W n:=by
 obtain⟨o1,o2,o3⟩:=@xAr p.Node k
 unfold yHa at he
 by_cases h1:others p.Node k<N
 ·rw[if_pos h1] at he
  constructor <;> rw[he] <;> try (intro q;first | (exact absurd q (by dsimp only;omega)) | skip)
  ·exact hnode
  ·dsimp only;omega
  ·omega
  ·exact hcmd
  ·dsimp only;rw[←hown];exact⟨hinst,hinst,rfl,ti,tm,hm,hm0⟩
  ·exact fun q2=>absurd q2 (by dsimp only;omega)
  ·exact⟨hown,hb⟩
  ·dsimp only;rw[hnode] at *;omega
  ·dsimp only;rw[hnode];exact hK
 ·rw[if_neg h1] at he
  by_cases h2:yDO p.T=true
  ·rw[if_pos h2] at he
   exact .z (by rw[he];exact hnode) (by rw[he];rfl) (by rw[he];exact hcmd)
  ·rw[if_neg h2,if_pos hat] at he
   have hch:=hch (by rw[he])
   constructor <;> rw[he] <;> try (intro q;first | (exact absurd q (by dsimp only;omega)) | skip)
   ·exact hnode
   ·dsimp only;omega
   ·omega
   ·exact hcmd
   ·dsimp only;rw[←hown];exact⟨hinst,hinst,rfl,ti,tm,hm,hm0⟩
   ·exact fun q2=>absurd q2 (by dsimp only;omega)
   ·exact⟨hown,hb⟩
   ·exact hch
theorem xNG{n m N:Int}(h0:0<=n)(hm0:0<=m)(hmN:m<N)(hne:m≠n):¬m<others n 0/\others n 0<N:=by
 unfold others
 split <;> omega
theorem xNH{n m k:Int}(hne:m≠n)(h:m<others n (k+1))(hk:k≠n):m<k\/m=k:=by
 unfold others at h
 split at h <;> omega
theorem yHu{N:Int}{p:yAO}{k:Int}:(yHa N p k).At=(if others p.Node k<N then p.At else if yDO p.T then 0 else if p.At=5 then 6 else 4):=by
 unfold yHa xFF
 split
 ·rfl
 split
 ·rfl
 split <;> rfl
theorem xKc{N:Int}{p:yAO}{k:Int}(h:(yHa N p k).At≠0):(yHa N p k).T=p.T:=by
 rw[yHu] at h
 unfold yHa
 split
 ·rfl
 rename_i h1
 rw[if_neg h1] at h
 split
 ·rename_i h2
  rw[if_pos h2] at h
  exact absurd rfl h
 ·split <;> rfl
theorem xG8{N:Int}{p:yAO}{k:Int}(h:(yHa N p k).At≠0):(yHa N p k).I=others p.Node k:=by
 rw[yHu] at h
 unfold yHa
 split
 ·rfl
 rename_i h1
 rw[if_neg h1] at h
 split
 ·rename_i h2
  rw[if_pos h2] at h
  exact absurd rfl h
 ·split <;> rfl
theorem xKb{N:Int}{p:yAO}{k:Int}(h:(yHa N p k).At≠0):(yHa N p k).Own.Mbal=p.Own.Mbal:=by
 rw[yHu] at h
 unfold yHa
 split
 ·rfl
 rename_i h1
 rw[if_neg h1] at h
 split
 ·rename_i h2
  rw[if_pos h2] at h
  exact absurd rfl h
 ·split <;> rfl
theorem yWg{t:yAm}{r:yBI}:t.Best<=(yCx t r).Best:=by
 unfold yCx
 dsimp only
 split <;> omega
theorem yNF{t:yAm}{r:yBI}(h:yDO (yCx t r)=false):yDO t=false/\r.Inst<=t.Inst/\(r.Inst=t.Inst->r.Mbal<=t.Mbal):=by
 unfold yDO yCx at h
 simp only[Bool.or_eq_false_iff,Bool.and_eq_false_iff,decide_eq_false_iff_not] at h
 obtain⟨⟨h1,h2⟩,h3,h4⟩:=h
 refine⟨by unfold yDO;rw[h1,h3];rfl,by omega,fun e=>?_⟩
 rcases h4 with h4 | h4
 ·exact absurd e h4
 ·omega
theorem PInv.wrote1{W:PW}(h:PInv N idn ids W)(n:Int)(hn0:0<=n)(hnN:n<N)(hN:N<=16)(ho:(W.x n).on=true)(hat:(W.x n).p.At=2)(X:PX)(hs:X.ser=(W.x n).ser)(hd:X.done=(W.x n).done)(hp:X.p=yN9 N (W.x n).p):
  PInv N idn ids ⟨upd W.rc n (W.x n).p.Own,W.log,upd W.x n X,W.vt,W.ch⟩:=by
 have H:=h.nd n hn0 hnN
 have H2:=h.on n hn0 hnN ho
 obtain⟨m1,m2,m3⟩:=H2.a2 hat
 have hle:=H2.le (by omega)
 generalize hW:(⟨upd W.rc n (W.x n).p.Own,W.log,upd W.x n X,W.vt,W.ch⟩:PW)=W'
 have e:W'.x n=X:=by rw[←hW];exact yB7 _ _ _
 have er:W'.rc n=(W.x n).p.Own:=by rw[←hW];exact yB7 _ _ _
 have o:∀m,m≠n->W'.x m=W.x m:=fun m hm=>by rw[←hW];exact yCS _ _ hm
 have or':∀m,m≠n->W'.rc m=W.rc m:=fun m hm=>by rw[←hW];exact yCS _ _ hm
 have el:W'.log=W.log:=by rw[←hW]
 have ev:W'.vt=W.vt:=by rw[←hW]
 have ec:W'.ch=W.ch:=by rw[←hW]
 clear hW
 have rb:=H.rb
 have oi:(W.x n).p.Own.Inst=(W.x n).done:=by rw[m3]
 have ob:(W.x n).p.Own.Bal=(recAt (W.rc n) (W.x n).done).Bal:=by rw[m3]
 have oval:(W.x n).p.Own.Val=(recAt (W.rc n) (W.x n).done).Val:=by rw[m3]
 have hb:0<=(W.x n).p.Own.Bal/\(W.x n).p.Own.Bal<=(W.rc n).Mbal:=by
  rw[ob];unfold recAt;split
  ·exact rb
  ·dsimp only;omega
 have hv:0<(W.x n).p.Own.Bal->∃c,W.vt (W.x n).done (W.x n).p.Own.Bal=some ((W.x n).p.Own.Val,c):=by
  rw[ob,oval];unfold recAt;split
  ·rename_i hi
   rw[←hi];exact H.rv
  ·dsimp only;omega
 have hN1:Nd1 W' n:=by
  refine⟨?_,?_,?_,?_,?_,?_,?_⟩ <;> (try rw[er]) <;> (try rw[e]) <;> (try rw[el]) <;> (try rw[ev])
  ·omega
  ·exact .inr m2
  ·rw[oi];exact H.dl
  ·rw[oi];exact H.d0
  ·rw[oi];exact hv
  ·rw[hd];exact H.d0
  ·rw[hd];exact H.dl
 refine h.step n hn0 hnN hN o or' (fun k v q=>by rw[el];exact q) (fun _ _ _ q=>by rw[ev];exact q) (fun _ _ _ q=> .inl (by rw[ev] at q;exact q)) (fun _ _ q=>by rw[ec];exact q) hN1 (fun _=>?_) (fun k b v c q=>?_) (fun k b b0 bN bn b1 b2 K=>?_) (fun k b q=> .inl (by rw[ec] at q;exact q)) (fun k v q=> .inl (by rw[el] at q;exact q))
 ·refine Nd2.next3 hN1 (p:=⟨(W.x n).p.Node,(W.x n).p.Cmd,(W.x n).p.At+1,(W.x n).p.I,(W.x n).p.Own,yYF (W.x n).p.Own (W.x n).p.T.Seen⟩) (by rw[e,hp];rfl) (Int.le_refl _) (by dsimp only;omega) H2.node (by rw[e,hs];exact H2.cmd) er (by rw[er,e,hd];exact oi) (by rw[e,hd];exact oi) (by rw[er];rfl) (by rw[er];exact m2) (by rw[er];omega) (by rw[er];omega) (by rw[er];exact Int.le_refl _) (fun _=>by rw[er];show(W.x n).p.Own.Bal<_;omega) (by rw[e,ev,hd];exact hv)
 ·rw[ev] at q
  have V:=h.vo k b v c q
  refine V.stay n o or' (fun k v q=>by rw[el];exact q) ev (by rw[er,oi];exact hle) (by rw[er];omega) (fun q=>?_) (by rw[e,hs];exact Int.le_refl _) (fun q1 q2 q3=>?_)
  ·rw[er,oi] at q
   rw[er,ob];unfold recAt;rw[if_pos q];exact Int.le_refl _
  ·rw[e,hs] at q2
   have:=V.idd (by rw[q3];exact ho) (by rw[q3];exact q2)
   rw[e,hd,el]
   rw[q3] at this ⊢
   exact this
 ·obtain⟨z1,z2⟩:=xNG hn0 b0 bN bn
  have hn:X.p.At=3:=by
   rw[hp];unfold yN9;rw[yHu];dsimp only;rw[H2.node,if_pos z2];omega
  refine⟨by rw[ev];exact K.v,fun _ _ q=>?_,fun _ _ _ _ _ q=>?_⟩
  ·rw[e] at q;omega
  ·rw[e] at q
   have hI:X.p.I=others n 0:=by
    rw[hp] at hn ⊢;unfold yN9 at hn ⊢;rw[xG8 (by omega)];dsimp only;rw[H2.node]
   rw[hI] at q
   exact absurd q z1
theorem PInv.read1{W:PW}(h:PInv N idn ids W)(n:Int)(hn0:0<=n)(hnN:n<N)(hN:N<=16)(ho:(W.x n).on=true)(hat:(W.x n).p.At=3)(X:PX)(hs:X.ser=(W.x n).ser)(hd:X.done=(W.x n).done)(hp:X.p=yIF N (W.x n).p (W.rc (W.x n).p.I)):
  PInv N idn ids (stX W n X):=by
 have H:=h.nd n hn0 hnN
 have H2:=h.on n hn0 hnN ho
 obtain⟨i0,iN,ine⟩:=H2.rd (.inl hat)
 have HI:=h.nd _ i0 iN
 obtain⟨a1,a2,a3,a4,a5,a6,a7⟩:=H2.a3 (by omega)
 obtain⟨c1,c2,c3,c4⟩:=H2.a34 (by omega) (by omega)
 have a3o:=H2.a3o hat
 have e:(stX W n X).x n=X:=yB7 _ _ _
 have hle:=H2.le (by omega)
 have rb:=H.rb
 have rbI:=HI.rb
 generalize hr:W.rc (W.x n).p.I=r at*
 have tb:(yCx (W.x n).p.T r).Best=(W.x n).p.T.Best/\(yCx (W.x n).p.T r).Val=(W.x n).p.T.Val\/((r.Inst=(W.x n).done/\(W.x n).p.T.Best<r.Bal)/\(yCx (W.x n).p.T r).Best=r.Bal/\(yCx (W.x n).p.T r).Val=r.Val):=by
  unfold yCx
  dsimp only
  rw[a4]
  by_cases hc:r.Inst=(W.x n).done/\(W.x n).p.T.Best<r.Bal
  ·rw[if_pos hc,if_pos hc];exact .inr ⟨hc,rfl,rfl⟩
  ·rw[if_neg hc,if_neg hc];exact .inl ⟨rfl,rfl⟩
 refine h.stx n hn0 hnN hN X (by omega) (by rw[hd];exact H.d0) (by rw[hd];exact H.dl) (fun _=>?_) (fun k b v c q1 q q2 q3=>?_) fun k b b0 bN bn b1 b2 K=>?_
 ·refine Nd2.next3 (W:=stX W n X) (n:=n) (N:=N) (k:=(W.x n).p.I+1) (p:=⟨(W.x n).p.Node,(W.x n).p.Cmd,(W.x n).p.At,(W.x n).p.I,(W.x n).p.Own,yCx (W.x n).p.T r⟩) ⟨H.rb,H.rm,H.rl,H.ri,H.rv,by rw[e,hd];exact H.d0,by rw[e,hd];exact H.dl⟩ (by rw[e,hp];rfl) (by omega) hat H2.node (by rw[e,hs];exact H2.cmd) a3o (by rw[e,hd];exact a1) (by rw[e,hd];exact a4) a5 a6 a7 c1 (Int.le_trans c2 yWg) (fun q=>?_) (fun q=>?_)
  ·obtain⟨s1,s2,s3⟩:=yNF q
   have:=c3 s1
   show(yCx (W.x n).p.T r).Best<(W.rc n).Mbal
   rcases tb with ⟨t1,-⟩ | ⟨⟨t1,t2⟩,t3,-⟩
   ·rw[t1];exact this
   ·rw[t3]
    have:=s3 (by rw[a4];exact t1)
    rw[a5] at this
    rcases HI.rm with hz | hz
    ·rw[hr] at hz;omega
    ·rw[hr] at hz
     have:r.Mbal≠(W.rc n).Mbal:=fun q=>by rw[q] at hz;omega
     omega
  ·rw[e,hd]
   show ∃c,W.vt (W.x n).done (yCx (W.x n).p.T r).Best=some ((yCx (W.x n).p.T r).Val,c)
   have q:0<(yCx (W.x n).p.T r).Best:=q
   rcases tb with ⟨t1,t2⟩ | ⟨⟨t1,t2⟩,t3,t4⟩
   ·rw[t1,t2];rw[t1] at q;exact c4 q
   ·rw[t3,t4,←t1]
    have:=HI.rv
    rw[hr] at this
    exact this (by omega)
 ·have V:=(h.vo k b v c q1).idd (by rw[q3];exact ho) (by rw[q3,q2,hs])
  rw[q3] at V ⊢
  rw[hd];exact V
 ·-- whoever is read later has been seen
  have seen:k=(W.x n).done->b<(W.x n).p.Own.Mbal->yDO (yCx (W.x n).p.T r)=false->b%16<others n ((W.x n).p.I+1)->b<=(yCx (W.x n).p.T r).Best:=fun k1 k2 k3 k4=>by
   obtain⟨s1,s2,s3⟩:=yNF k3
   rcases xNH bn k4 ine with k5 | k5
   ·exact Int.le_trans (K.r ho k1.symm hat k2 s1 k5) yWg
   ·rw[k5,hr] at b1 b2
    rw[a4] at s2
    have:=b2 (by omega)
    rcases tb with ⟨t1,t2⟩ | ⟨⟨t1,t2⟩,t3,t4⟩
    ·rw[t1]
     have h5:¬(r.Inst=(W.x n).done/\(W.x n).p.T.Best<r.Bal):=fun q=>by
      unfold yCx at t1
      dsimp only at t1
      rw[a4,if_pos q] at t1
      omega
     have:¬(W.x n).p.T.Best<r.Bal:=fun q=>h5 ⟨by omega,q⟩
     omega
    ·omega
  have hI:X.p.At≠0->X.p.I=others n ((W.x n).p.I+1)/\X.p.T=yCx (W.x n).p.T r/\X.p.Own.Mbal=(W.x n).p.Own.Mbal:=fun q=>by
   rw[hp] at q ⊢
   unfold yIF at q ⊢
   rw[xG8 q,xKc q,xKb q]
   dsimp only
   rw[H2.node]
   exact⟨rfl,rfl,rfl⟩
  refine⟨K.v,fun _ q2 q3 q4=>?_,fun _ q2 q3 q4 q5 q6=>?_⟩ <;> rw[e] at*
  ·obtain⟨r1,r2,r3⟩:=hI (by omega)
   rw[r2]
   rw[r3] at q4
   rw[hp] at q3
   unfold yIF at q3
   rw[yHu] at q3
   dsimp only at q3
   rw[H2.node] at q3
   by_cases h1:others n ((W.x n).p.I+1)<N
   ·rw[if_pos h1] at q3;omega
   rw[if_neg h1] at q3
   by_cases h2:yDO (yCx (W.x n).p.T r)=true
   ·rw[if_pos h2] at q3;omega
   exact seen (by rw[←hd];exact q2.symm) q4 (by simpa using h2) (by omega)
  ·obtain⟨r1,r2,r3⟩:=hI (by omega)
   rw[r2] at q5 ⊢
   rw[r3] at q4
   rw[r1] at q6
   exact seen (by rw[←hd];exact q2.symm) q4 q5 q6
theorem PInv.wrote2{W:PW}(h:PInv N idn ids W)(n:Int)(hn0:0<=n)(hnN:n<N)(hN:N<=16)(ho:(W.x n).on=true)(hat:(W.x n).p.At=4)(X:PX)(hs:X.ser=(W.x n).ser)(hd:X.done=(W.x n).done)(hp:X.p=yN9 N (W.x n).p):
  PInv N idn ids ⟨upd W.rc n (W.x n).p.Own,W.log,upd W.x n X,upd W.vt (W.x n).done (upd (W.vt (W.x n).done) (W.x n).p.Own.Mbal (some ((W.x n).p.Own.Val,(W.x n).p.T.Best))),fun k b=>W.ch k b\/(X.p.At=6/\k=(W.x n).done/\b=(W.x n).p.Own.Mbal)⟩:=by
 have H:=h.nd n hn0 hnN
 have H2:=h.on n hn0 hnN ho
 obtain⟨a1,a2,a3,a4,a5,a6,a7⟩:=H2.a3 (by omega)
 obtain⟨c1,c2,c3,c4⟩:=H2.a34 (by omega) (by omega)
 obtain⟨d1,d2,d3⟩:=H2.a4 hat
 have c3:=c3 d1
 have hle:=H2.le (by omega)
 have rb:=H.rb
 -- nothing was voted with this ballot
 have fresh:∀b p,W.vt (W.x n).done b=some p->b%16=n->b<(W.rc n).Mbal/\b<=(W.rc n).Bal:=fun b p q q2=>by
  have V:=h.vo _ b p.1 p.2 q
  have:=V.re (by rw[q2];exact a1.symm)
  rw[q2] at this
  omega
 generalize hM:(W.x n).p.Own.Mbal=M at*
 generalize hD:(W.x n).done=D at*
 generalize hW:(⟨upd W.rc n (W.x n).p.Own,W.log,upd W.x n X,upd W.vt D (upd (W.vt D) M (some ((W.x n).p.Own.Val,(W.x n).p.T.Best))),fun k b=>W.ch k b\/(X.p.At=6/\k=D/\b=M)⟩:PW)=W'
 have e:W'.x n=X:=by rw[←hW];exact yB7 _ _ _
 have er:W'.rc n=(W.x n).p.Own:=by rw[←hW];exact yB7 _ _ _
 have o:∀m,m≠n->W'.x m=W.x m:=fun m hm=>by rw[←hW];exact yCS _ _ hm
 have or':∀m,m≠n->W'.rc m=W.rc m:=fun m hm=>by rw[←hW];exact yCS _ _ hm
 have el:W'.log=W.log:=by rw[←hW]
 have ev0:W'.vt D M=some ((W.x n).p.Own.Val,(W.x n).p.T.Best):=by
  rw[←hW];show upd W.vt D _ D M=_
  rw[yB7,yB7]
 have ev1:∀k b,¬(k=D/\b=M)->W'.vt k b=W.vt k b:=fun k b hne=>by
  rw[←hW];show upd W.vt D _ k b=_
  by_cases hk:k=D
  ·subst hk
   rw[yB7,yCS _ _ (fun q=>hne ⟨rfl,q⟩)]
  ·rw[yCS _ _ hk]
 have ec:∀k b,W'.ch k b↔W.ch k b\/(X.p.At=6/\k=D/\b=M):=fun k b=>by rw[←hW]
 clear hW
 have evc:∀k b,(k=D/\b=M)\/W'.vt k b=W.vt k b:=fun k b=>by
  by_cases hq:k=D/\b=M
  ·exact .inl hq
  ·exact .inr (ev1 k b hq)
 have hnone:W.vt D M=none:=by
  cases hq:W.vt D M with
  | none=>rfl
  | some p=>have:=fresh M p hq (by omega);omega
 have ext:∀k b p,W.vt k b=some p->W'.vt k b=some p:=fun k b p q=>by
  rcases evc k b with ⟨rfl,rfl⟩ | q2
  ·rw[hnone] at q;cases q
  ·rw[q2];exact q
 have back:∀k b p,W'.vt k b=some p->W.vt k b=some p\/(k=D/\b=M/\p=((W.x n).p.Own.Val,(W.x n).p.T.Best)):=fun k b p q=>by
  rcases evc k b with ⟨rfl,rfl⟩ | q2
  ·rw[ev0] at q;injection q with q;exact .inr ⟨rfl,rfl,q.symm⟩
  ·exact .inl (by rw[←q2];exact q)
 have hN1:Nd1 W' n:=by
  refine⟨?_,?_,?_,?_,?_,?_,?_⟩ <;> (try rw[er]) <;> (try rw[e]) <;> (try rw[el])
  ·omega
  ·rw[hM,a3];exact .inr a6
  ·rw[a2,←hD];exact H.dl
  ·rw[a2,←hD];exact H.d0
  ·rw[a2,d2,←a3];exact fun _=>⟨_,ev0⟩
  ·rw[hd,←hD];exact H.d0
  ·rw[hd,←hD];exact H.dl
 have quiet:X.p.At≠3/\X.p.At≠4:=by
  rw[hp];unfold yN9;rw[yHu];dsimp only
  split
  ·omega
  split
  ·omega
  split <;> omega
 have six:X.p.At=6->N=1:=fun q=>by
  rw[hp] at q;unfold yN9 at q;rw[yHu] at q;dsimp only at q
  rw[H2.node] at q
  by_cases h1:others n 0<N
  ·rw[if_pos h1] at q;omega
  ·unfold others at h1;split at h1 <;> omega
 have kkn:∀k b,b%16≠n->KK W k b n->KK W' k b n:=fun k b bn K=>by
  refine⟨fun b' v c q1 q2 q3=>?_,fun _ _ q=>absurd q (by rw[e];exact quiet.2),fun _ _ q=>absurd q (by rw[e];exact quiet.1)⟩
  rcases back k b' (v,c) q3 with q | ⟨rfl,rfl,q⟩
  ·exact K.v b' v c q1 q2 q
  ·injection q with q4 q5
   rw[q5]
   exact K.s ho hD hat (by omega)
 refine h.step n hn0 hnN hN o or' (fun k v q=>by rw[el];exact q) ext (fun k b p q=>(back k b p q).imp id fun q=>by rw[q.2.1,a3];exact a6) (fun k b q=>(ec k b).2 (.inl q)) hN1 (fun _=>?_) (fun k b v c q=>?_) (fun k b b0 bN bn b1 b2 K=>kkn k b bn K) (fun k b q=>?_) (fun k v q=> .inl (by rw[el] at q;exact q))
 ·refine Nd2.next5 hN1 (p:=⟨(W.x n).p.Node,(W.x n).p.Cmd,(W.x n).p.At+1,(W.x n).p.I,(W.x n).p.Own,yYF (W.x n).p.Own (W.x n).p.T.Seen⟩) (by rw[e,hp];rfl) (Int.le_refl _) (by dsimp only;omega) H2.node (by rw[e,hs];exact H2.cmd) er (by rw[er,e,hd];exact a2) (by rw[e,hd];exact a2) (by rw[er];rfl) (by rw[er,hM,a3];exact a6) (by rw[er,hM,a3];exact a7) (by rw[er,hM,a3];exact d2) (fun _ m m0 mN mn q=>absurd q (xNG hn0 m0 mN mn).1) (fun q=>?_)
  rw[e] at q
  rw[e,hd,er,hM]
  exact(ec _ _).2 (.inr ⟨q,rfl,rfl⟩)
 ·-- how votes stand on the new records
  have base:∀k b v c,W.vt k b=some (v,c)->Vt1 N idn ids W' k b v c:=fun k b v c q=>by
   have V:=h.vo k b v c q
   have h1:=V.ri;have h2:=V.rb;have h3:=V.re
   have hR:(W.rc (b%16)).Inst<=(W'.rc (b%16)).Inst/\(W.rc (b%16)).Mbal<=(W'.rc (b%16)).Mbal/\((W.rc (b%16)).Inst=(W'.rc (b%16)).Inst->(W.rc (b%16)).Bal<=(W'.rc (b%16)).Bal):=by
    by_cases hm:b%16=n
    ·rw[hm,er];omega
    ·rw[or' _ hm];exact⟨Int.le_refl _,Int.le_refl _,fun _=>Int.le_refl _⟩
   refine⟨V.b0,V.n,V.k0,by omega,by omega,fun q2=>?_,?_,?_,?_,?_,?_⟩
   ·have:=h3 (by omega)
    have:=hR.2.2 (by omega)
    omega
   ·rcases V.ba with q2 | ⟨q2,q3,c',q4⟩
    ·exact .inl q2
    ·exact .inr ⟨q2,q3,c',ext _ _ _ q4⟩
   ·intro b' v' c' q2 q3 q4
    rcases back k b' (v',c') q2 with q5 | ⟨rfl,rfl,q5⟩
    ·exact V.same b' v' c' q5 q3 q4
    ·have:=fresh b (v,c) q (by omega)
     omega
   ·refine⟨V.id0.1,V.id0.2.1,?_⟩
    by_cases hm:idn v=n
    ·rw[hm,e,hs];have:=V.id0.2.2;rw[hm] at this;exact this
    ·rw[o _ hm];exact V.id0.2.2
   ·by_cases hm:idn v=n
    ·rw[hm,e]
     intro _ q2
     have:=V.idd (by rw[hm];exact ho) (by rw[hm,q2,hs])
     rw[hm] at this
     rw[hd,el,←hD]
     exact this
    ·rw[o _ hm,el];exact V.idd
   ·intro i b' v' c' q2 q3 q4 q5
    rw[el]
    rcases back i b' (v',c') q2 with q6 | ⟨rfl,rfl,q6⟩
    ·exact V.idu i b' v' c' q6 q3 q4 q5
    ·injection q6 with q7 q8
     by_cases hb:0<(W.x n).p.T.Best
     ·obtain⟨c2,q9⟩:=c4 hb
      rw[d3,if_pos hb] at q7
      exact V.idu _ _ _ _ q9 (by rw[←q7];exact q3) (by rw[←q7];exact q4) q5
     ·rw[d3,if_neg hb] at q7
      have:=H2.cmd
      rw[q7] at q3 q4
      have:=V.idd (by rw[←q3,this.1];exact ho) (by rw[←q3,←q4,this.1];exact this.2)
      rw[←q3,H2.cmd.1,hD] at this
      omega
  rcases back k b (v,c) q with q | ⟨rfl,rfl,q⟩
  ·exact base k b v c q
  ·injection q with q1 q2
   subst q2
   have hb16:b%16=n:=by rw[a3];exact a6
   refine⟨by omega,by omega,by rw[←hD];exact H.d0,by rw[hb16,er];omega,by rw[hb16,er];omega,fun _=>by rw[hb16,er];omega,?_,?_,?_,?_,?_⟩
   ·by_cases hb:0<(W.x n).p.T.Best
    ·obtain⟨c2,q9⟩:=c4 hb
     refine .inr ⟨hb,by omega,c2,ext _ _ _ ?_⟩
     rw[q1,d3,if_pos hb];exact q9
    ·exact .inl (by omega)
   ·intro b' v' c' q3 q4 q5
    rcases back k b' (v',c') q3 with q6 | ⟨_,rfl,_⟩
    ·have:=fresh b' _ q6 (by omega)
     omega
    ·omega
   ·by_cases hb:0<(W.x n).p.T.Best
    ·obtain⟨c2,q9⟩:=c4 hb
     rw[d3,if_pos hb] at q1
     rw[q1];exact(base _ _ _ _ q9).id0
    ·rw[d3,if_neg hb] at q1
     rw[q1,H2.cmd.1,e,hs,H2.cmd.2]
     exact⟨hn0,hnN,Int.le_refl _⟩
   ·by_cases hb:0<(W.x n).p.T.Best
    ·obtain⟨c2,q9⟩:=c4 hb
     rw[d3,if_pos hb] at q1
     rw[q1];exact(base _ _ _ _ q9).idd
    ·rw[d3,if_neg hb] at q1
     rw[q1,H2.cmd.1,e,hd]
     exact fun _ _=>⟨Int.le_refl _,fun q=>absurd q (Int.lt_irrefl _)⟩
   ·intro i b' v' c' q3 q4 q5 q6
    rcases back i b' (v',c') q3 with q7 | ⟨q7,_,_⟩
    ·by_cases hb:0<(W.x n).p.T.Best
     ·obtain⟨c2,q9⟩:=c4 hb
      rw[d3,if_pos hb] at q1
      rw[q1];exact(base _ _ _ _ q9).idu i b' v' c' q3 (by rw[←q1];exact q4) (by rw[←q1];exact q5) q6
     ·rw[d3,if_neg hb] at q1
      rw[el]
      have V:=h.vo i b' v' c' q7
      have k1:idn v'=n:=by rw[q4,q1,H2.cmd.1]
      have k2:ids v'=(W.x n).ser:=by rw[q5,q1,H2.cmd.2]
      have:=(V.idd (by rw[k1];exact ho) (by rw[k1];exact k2)).2 (by rw[k1,hD];exact q6)
      obtain⟨w,r1,r2⟩:=this
      exact⟨w,r1,by rw[←q4,←q5];exact r2⟩
    ·omega
 ·rcases(ec k b).1 q with q | ⟨q1,rfl,rfl⟩
  ·exact .inl q
  ·refine .inr ⟨⟨_,_,ev0⟩,fun m m0 mN mn=>?_⟩
   have:=six q1
   have hb16:b%16=n:=by rw[a3];exact a6
   omega
theorem PInv.read2{W:PW}(h:PInv N idn ids W)(n:Int)(hn0:0<=n)(hnN:n<N)(hN:N<=16)(ho:(W.x n).on=true)(hat:(W.x n).p.At=5)(X:PX)(hs:X.ser=(W.x n).ser)(hd:X.done=(W.x n).done)(hp:X.p=yIF N (W.x n).p (W.rc (W.x n).p.I))
  (hns:yDO (W.x n).p.T=false):
  PInv N idn ids ⟨W.rc,W.log,upd W.x n X,W.vt,fun k b=>W.ch k b\/(X.p.At=6/\k=(W.x n).done/\b=(W.rc n).Mbal)⟩:=by
 have H:=h.nd n hn0 hnN
 have H2:=h.on n hn0 hnN ho
 obtain⟨i0,iN,ine⟩:=H2.rd (.inr hat)
 have HI:=h.nd _ i0 iN
 obtain⟨a1,a2,a3,a4,a5,a6,a7⟩:=H2.a3 (by omega)
 obtain⟨b1,b2⟩:=H2.a56 (by omega)
 have a5k:=H2.a5 hat hns
 generalize hW:(⟨W.rc,W.log,upd W.x n X,W.vt,fun k b=>W.ch k b\/(X.p.At=6/\k=(W.x n).done/\b=(W.rc n).Mbal)⟩:PW)=W'
 have e:W'.x n=X:=by rw[←hW];exact yB7 _ _ _
 have o:∀m,m≠n->W'.x m=W.x m:=fun m hm=>by rw[←hW];exact yCS _ _ hm
 have er:W'.rc=W.rc:=by rw[←hW]
 have el:W'.log=W.log:=by rw[←hW]
 have ev:W'.vt=W.vt:=by rw[←hW]
 have ec:∀k b,W'.ch k b↔W.ch k b\/(X.p.At=6/\k=(W.x n).done/\b=(W.rc n).Mbal):=fun k b=>by rw[←hW]
 clear hW
 have hN1:Nd1 W' n:=by
  refine⟨?_,?_,?_,?_,?_,?_,?_⟩ <;> (try rw[er]) <;> (try rw[e]) <;> (try rw[el]) <;> (try rw[ev])
  ·exact H.rb
  ·exact H.rm
  ·exact H.rl
  ·exact H.ri
  ·exact H.rv
  ·rw[hd];exact H.d0
  ·rw[hd];exact H.dl
 have quiet:X.p.At≠3/\X.p.At≠4:=by
  rw[hp];unfold yIF;rw[yHu];dsimp only
  rw[if_pos hat,hat]
  split
  ·omega
  split <;> omega
 have hKK:yDO (yCx (W.x n).p.T (W.rc (W.x n).p.I))=false->∀m,0<=m->m<N->m≠n->m<others n ((W.x n).p.I+1)->KK W' (W.x n).done (W.rc n).Mbal m:=fun hns' m m0 mN mn hlt=>by
  obtain⟨s1,s2,s3⟩:=yNF hns'
  rw[a4] at s2 s3
  rw[a5] at s3
  rcases xNH mn hlt ine with h1 | rfl
  ·exact(a5k m m0 mN mn h1).other mn (o m mn) fun k b p q=> .inl (by rw[ev] at q;exact q)
  ·refine⟨fun b' v c q1 q2 q3=>?_,fun q1 q2 q3 q4=>?_,fun q1 q2 q3 q4 _ _=>?_⟩
   ·rw[ev] at q3
    have V:=h.vo _ _ _ _ q3
    have v1:=V.ri;have v2:=V.rb
    rw[q1] at v1 v2
    have:=s3 (by omega)
    omega
   ·rw[o _ mn] at q1 q2 q3 q4
    obtain⟨g1,g2,g3,g4,g5,g6,g7⟩:=(h.on _ m0 mN q1).a3 (by omega)
    have:=s3 (by omega)
    omega
   ·rw[o _ mn] at q1 q2 q3 q4
    obtain⟨g1,g2,g3,g4,g5,g6,g7⟩:=(h.on _ m0 mN q1).a3 (by omega)
    have:=s3 (by omega)
    omega
 have six:X.p.At=6->yDO (yCx (W.x n).p.T (W.rc (W.x n).p.I))=false/\¬others n ((W.x n).p.I+1)<N:=fun q=>by
  rw[hp] at q;unfold yIF at q;rw[yHu] at q;dsimp only at q
  rw[H2.node] at q
  by_cases h1:others n ((W.x n).p.I+1)<N
  ·rw[if_pos h1] at q;omega
  rw[if_neg h1] at q
  by_cases h2:yDO (yCx (W.x n).p.T (W.rc (W.x n).p.I))=true
  ·rw[if_pos h2] at q;omega
  exact⟨by simpa using h2,h1⟩
 refine h.step n hn0 hnN hN o (fun _ _=>by rw[er]) (fun k v q=>by rw[el];exact q) (fun _ _ _ q=>by rw[ev];exact q) (fun k b p q=> .inl (by rw[ev] at q;exact q)) (fun k b q=>(ec k b).2 (.inl q)) hN1 (fun _=>?_) (fun k b v c q=>?_) (fun k b b0 bN bn b1 b2 K=>K.quiet ev fun _=>by rw[e];exact quiet) (fun k b q=>?_) (fun k v q=> .inl (by rw[el] at q;exact q))
 ·refine Nd2.next5 hN1 (p:=⟨(W.x n).p.Node,(W.x n).p.Cmd,(W.x n).p.At,(W.x n).p.I,(W.x n).p.Own,yCx (W.x n).p.T (W.rc (W.x n).p.I)⟩) (k:=(W.x n).p.I+1) (by rw[e,hp];rfl) (by omega) hat H2.node (by rw[e,hs];exact H2.cmd) (by rw[er];exact b1) (by rw[er,e,hd];exact a1) (by rw[e,hd];exact a4) (by rw[er];exact a5) (by rw[er];exact a6) (by rw[er];exact a7) (by rw[er];exact b2) (by rw[e,hd,er];exact hKK) (fun q=>?_)
  rw[e] at q
  rw[e,hd,er]
  exact(ec _ _).2 (.inr ⟨q,rfl,rfl⟩)
 ·rw[ev] at q
  have V:=h.vo k b v c q
  refine V.stay n o (fun _ _=>by rw[er]) (fun k v q=>by rw[el];exact q) ev (by rw[er];exact Int.le_refl _) (by rw[er];exact Int.le_refl _) (fun _=>by rw[er];exact Int.le_refl _) (by rw[e,hs];exact Int.le_refl _) (fun q1 q2 q3=>?_)
  rw[e,hs] at q2
  have:=V.idd (by rw[q3];exact ho) (by rw[q3];exact q2)
  rw[e,hd,el]
  rw[q3] at this ⊢
  exact this
 ·rcases(ec k b).1 q with q | ⟨q1,rfl,rfl⟩
  ·exact .inl q
  ·obtain⟨s1,s2⟩:=six q1
   refine .inr ⟨?_,fun m m0 mN mn=>hKK s1 m m0 mN (by omega) (by omega)⟩
   obtain⟨c,hc⟩:=H.rv (by omega)
   rw[a1,b2] at hc
   exact⟨_,c,by rw[ev];exact hc⟩
theorem PInv.read2'{W:PW}(h:PInv N idn ids W)(n:Int)(hn0:0<=n)(hnN:n<N)(hN:N<=16)(ho:(W.x n).on=true)(hat:(W.x n).p.At=5)(X:PX)(hs:X.ser=(W.x n).ser)(hd:X.done=(W.x n).done)(hp:X.p=yIF N (W.x n).p (W.rc (W.x n).p.I))
  (hns:yDO (W.x n).p.T=true):PInv N idn ids (stX W n X):=by
 have H:=h.nd n hn0 hnN
 have H2:=h.on n hn0 hnN ho
 obtain⟨i0,iN,ine⟩:=H2.rd (.inr hat)
 obtain⟨a1,a2,a3,a4,a5,a6,a7⟩:=H2.a3 (by omega)
 obtain⟨b1,b2⟩:=H2.a56 (by omega)
 have e:(stX W n X).x n=X:=yB7 _ _ _
 have hst:yDO (yCx (W.x n).p.T (W.rc (W.x n).p.I))=true:=by
  cases hq:yDO (yCx (W.x n).p.T (W.rc (W.x n).p.I)) with
  | true=>rfl
  | false=>have:=(yNF hq).1;rw[hns] at this;cases this
 have quiet:X.p.At≠3/\X.p.At≠4/\X.p.At≠6:=by
  rw[hp];unfold yIF;rw[yHu];dsimp only
  rw[hst,hat]
  split
  ·omega
  ·rw[if_pos rfl];omega
 refine h.stx n hn0 hnN hN X (by omega) (by rw[hd];exact H.d0) (by rw[hd];exact H.dl) (fun _=>?_) (fun k b v c q1 q q2 q3=>?_) fun k b _ _ _ _ _ K=>K.quiet rfl fun q=>by
  rw[e];exact⟨quiet.1,quiet.2.1⟩
 ·refine Nd2.next5 (W:=stX W n X) (n:=n) (N:=N) ⟨H.rb,H.rm,H.rl,H.ri,H.rv,by rw[e,hd];exact H.d0,by rw[e,hd];exact H.dl⟩ (p:=⟨(W.x n).p.Node,(W.x n).p.Cmd,(W.x n).p.At,(W.x n).p.I,(W.x n).p.Own,yCx (W.x n).p.T (W.rc (W.x n).p.I)⟩) (k:=(W.x n).p.I+1) (by rw[e,hp];rfl) (by omega) hat H2.node (by rw[e,hs];exact H2.cmd) b1 (by rw[e,hd];exact a1) (by rw[e,hd];exact a4) a5 a6 a7 b2 (fun q=>?_) (fun q=>?_)
  ·have q:yDO (yCx (W.x n).p.T (W.rc (W.x n).p.I))=false:=q
   rw[hst] at q;cases q
  ·rw[e] at q;exact absurd q quiet.2.2
 ·have V:=(h.vo k b v c q1).idd (by rw[q3];exact ho) (by rw[q3,q2,hs])
  rw[q3] at V ⊢
  rw[hd];exact V
theorem PInv.decides{W:PW}(h:PInv N idn ids W)(n:Int)(hn0:0<=n)(hnN:n<N)(hN:N<=16)(ho:(W.x n).on=true)(hat:(W.x n).p.At=6)(X:PX)(hs:X.ser=(W.x n).ser)(hd:X.done=(W.x n).done+1)
  (hp:X.p.Node=n) (ha:X.p.At=0) (hc:X.p.Cmd=(W.x n).p.Cmd) (hon:X.on=true->¬(idn (W.x n).p.Own.Val=n/\ids (W.x n).p.Own.Val=(W.x n).ser)):
  PInv N idn ids ⟨W.rc,upd W.log (W.x n).done (some (W.x n).p.Own.Val),upd W.x n X,W.vt,W.ch⟩/\(∀u,W.log (W.x n).done=some u->u=(W.x n).p.Own.Val):=by
 have H:=h.nd n hn0 hnN
 have H2:=h.on n hn0 hnN ho
 obtain⟨a1,a2,a3,a4,a5,a6,a7⟩:=H2.a3 (by omega)
 obtain⟨b1,b2⟩:=H2.a56 (by omega)
 have hch:=H2.a6 hat
 obtain⟨c,hv⟩:=H.rv (by omega)
 rw[b2,a1,show(W.rc n).Val=(W.x n).p.Own.Val by rw[b1]] at hv
 have same:∀u,W.log (W.x n).done=some u->u=(W.x n).p.Own.Val:=fun u q=>by
  obtain⟨b,c',q1,q2⟩:=h.lg _ _ q
  exact h.one q1 hch q2 hv
 refine⟨?_,same⟩
 generalize hW:(⟨W.rc,upd W.log (W.x n).done (some (W.x n).p.Own.Val),upd W.x n X,W.vt,W.ch⟩:PW)=W'
 have e:W'.x n=X:=by rw[←hW];exact yB7 _ _ _
 have o:∀m,m≠n->W'.x m=W.x m:=fun m hm=>by rw[←hW];exact yCS _ _ hm
 have er:W'.rc=W.rc:=by rw[←hW]
 have ev:W'.vt=W.vt:=by rw[←hW]
 have ec:W'.ch=W.ch:=by rw[←hW]
 have el0:W'.log (W.x n).done=some (W.x n).p.Own.Val:=by rw[←hW];exact yB7 _ _ _
 have el1:∀k,k≠(W.x n).done->W'.log k=W.log k:=fun k hk=>by rw[←hW];exact yCS _ _ hk
 clear hW
 have ext:∀k v,W.log k=some v->W'.log k=some v:=fun k v q=>by
  by_cases hk:k=(W.x n).done
  ·subst hk;rw[el0,same v q]
  ·rw[el1 k hk];exact q
 have ext':∀j,W.log j≠none->W'.log j≠none:=fun j hj=>by
  cases h1:W.log j with
  | none=>exact absurd h1 hj
  | some v=>rw[ext j v h1];simp
 have d0:=H.d0
 have hN1:Nd1 W' n:=by
  refine⟨?_,?_,?_,?_,?_,?_,?_⟩ <;> (try rw[er]) <;> (try rw[e]) <;> (try rw[ev])
  ·exact H.rb
  ·exact H.rm
  ·exact fun j h1 h2=>ext' j (H.rl j h1 h2)
  ·exact H.ri
  ·exact H.rv
  ·omega
  ·intro j h1 h2
   by_cases hj:j=(W.x n).done
   ·rw[hj,el0];simp
   ·exact ext' j (H.dl j h1 (by omega))
 refine h.step n hn0 hnN hN o (fun _ _=>by rw[er]) ext (fun _ _ _ q=>by rw[ev];exact q) (fun k b p q=> .inl (by rw[ev] at q;exact q)) (fun k b q=>by rw[ec];exact q) hN1 (fun _=> .z (by rw[e];exact hp) (by rw[e];exact ha) (by rw[e,hc,hs];exact H2.cmd)) (fun k b v c q=>?_) (fun k b b0 bN bn b1 b2 K=>K.quiet ev fun _=>by rw[e,ha];omega) (fun k b q=> .inl (by rw[ec] at q;exact q)) (fun k v q=>?_)
 ·rw[ev] at q
  have V:=h.vo k b v c q
  refine V.stay n o (fun _ _=>by rw[er]) ext ev (by rw[er];exact Int.le_refl _) (by rw[er];exact Int.le_refl _) (fun _=>by rw[er];exact Int.le_refl _) (by rw[e,hs];exact Int.le_refl _) (fun q1 q2 q3=>?_)
  rw[e] at q1 q2 ⊢
  rw[hs] at q2
  have:=V.idd (by rw[q3];exact ho) (by rw[q3];exact q2)
  rw[q3] at this
  refine⟨by omega,fun q4=>?_⟩
  by_cases hk:k=(W.x n).done
  ·rw[hk]
   exact⟨_,el0,fun q5=>hon q1 ⟨by rw[q5.1,q3],by rw[q5.2,q2]⟩⟩
  ·obtain⟨w,r1,r2⟩:=this.2 (by omega)
   exact⟨w,ext _ _ r1,by rw[q3];exact r2⟩
 ·by_cases hk:k=(W.x n).done
  ·subst hk
   rw[el0] at q
   injection q with q
   subst q
   exact .inr ⟨_,c,by rw[ec];exact hch,by rw[ev];exact hv⟩
  ·rw[el1 k hk] at q;exact .inl q
theorem PInv.init(x:Int->PX)(hx:∀n,0<=n->n<N->(x n).on=false/\(x n).done=0):PInv N idn ids ⟨fun _=>yBI.z,fun _=>none,x,fun _ _=>none,fun _ _=>False⟩:=
 ⟨fun n h0 hN=>⟨⟨Int.le_refl _,Int.le_refl _⟩,.inl rfl,fun j h1 h2=>absurd h2 (by show ¬j<0;omega),Int.le_refl _,fun q=>absurd q (by show ¬(0:Int)<0;omega),by rw[(hx n h0 hN).2];exact Int.le_refl _,fun j h1 h2=>by
  rw[(hx n h0 hN).2] at h2;omega⟩,fun n h0 hN q=>(by
  have q:(x n).on=true:=q
  rw[(hx n h0 hN).1] at q;cases q),fun k b v c q=>(by cases q),fun k b q=>q.elim,fun k b m q=>q.elim,fun k v q=>(by cases q)⟩
end Go.Proofs.YtakljpcmbpaeaaaGreat
