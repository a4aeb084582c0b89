/- All printed texts. -/
import Derived.Test.YtakljpcmbpaeaaaGreatMountPlaysM35
import Derived.Test.YtakljpcmbpaeaaaGreatMountPlaysM36
import Derived.Test.YtakljpcmbpaeaaaGreatMountPlaysM37
import Derived.Test.YtakljpcmbpaeaaaGreatMountPlaysM38
import Derived.Test.YtakljpcmbpaeaaaGreatMountPlaysM39
import Derived.Test.YtakljpcmbpaeaaaGreatMountPlaysM33
import Derived.Test.YtakljpcmbpaeaaaGreatMountPlaysM01
set_option linter.unusedSimpArgs false
set_option linter.unusedVariables false


namespace Go.Proofs.YtakljpcmbpaeaaaGreat
open Go.RowKit
theorem xSY{L:Nat}(n:Int):yEO L n=some (decide (1<=n/\n<=6)):=by
 unfold yEO yPE
 by_cases h1:1<=n
 ·rw[yAO (decide_eq_true h1)]
  congr 1
  exact decide_eq_decide.2 ⟨fun h=>⟨h1,h⟩,fun h=>h.2⟩
 ·rw[yAF (decide_eq_false h1),decide_eq_false fun h=>h1 h.1]
theorem yUW{L:Nat}(hL:10<L){s:ByteArray}(hs:s.size<=1000000000)(a n:Int):yCC L s a n=some ((yQN s.data.toList a n).1,(yQN s.data.toList a n).2,()):=by
 unfold yCC xAv
 rw[xSY,yAA]
 by_cases hn:1<=n/\n<=6
 ·rw[decide_eq_true hn,Bool.not_true,cond_false]
  by_cases h0:a<0
  ·rw[yAO (decide_eq_true h0),yRk hn (by omega)]
  rw[yAF (decide_eq_false h0)]
  by_cases h1:(s.size:Int)<a
  ·rw[yAO (decide_eq_true h1),yRk hn (by rw[yAy];omega)]
  rw[yAF (decide_eq_false h1),yAh (by omega) (by omega)]
  by_cases h2:(s.size:Int)-a<n
  ·rw[yAO (decide_eq_true h2),yRk hn (by rw[yAy];omega)]
  rw[yAF (decide_eq_false h2)]
  obtain⟨b,rfl⟩:=Int.eq_ofNat_of_zero_le (show 0<=a by omega)
  obtain⟨v,rfl⟩:=Int.eq_ofNat_of_zero_le (show 0<=n by omega)
  obtain⟨q,hq,hrun⟩:=yHW (α:=Int×Int×Unit) (F:=yLp) (fun q=>∃k:Nat,k<=v/\q=(s,(b:Int),((le ((s.data.toList.drop b).take k):Nat):Int),(v:Int),(k:Int),())) (fun q=>v-q.2.2.2.2.1.toNat) (fun q=>q=(((le ((s.data.toList.drop b).take v):Nat):Int),()))
   (fun q hq=>by
     obtain⟨k,hk,rfl⟩:=hq
     by_cases hlt:k<v
     ·have hb:b+k<s.size:=by omega
      refine .inl ⟨_,⟨k+1,hlt,rfl⟩,by dsimp only;omega,fun kn ka=>?_⟩
      unfold yLp
      dsimp only
      rw[yAO (decide_eq_true (by omega)),yAh (by omega) (by omega),xDN (by omega) (by omega),yAh (n:=8*(k:Int)) (by omega) (by omega),yCJ (by rw[decide_eq_false (by omega)];rfl),show((b:Int)+k).toNat=b+k by omega,yAh (n:=(k:Int)+1) (by omega) (by omega)]
      have e:=xPL s b k hb (by omega)
      have e2:(((s[b+k]?).getD 0).toNat:Int)=((s[b+k].toNat:Nat):Int):=by simp[hb]
      have ew:∀n,RowKit.wrap64 n=IntKind.i64.wrap n:=fun n=>by rw[IntKind.wrap_i64];unfold RowKit.wrap64;omega
      rw[ew,ew] at e
      rw[e2,←e,show min (8*(k:Int)).toNat IntKind.i64.bits=8*k from by show min _ 64=_;omega]
      rfl
     ·obtain rfl:k=v:=by omega
      refine .inr ⟨_,rfl,fun kn ka=>?_⟩
      unfold yLp
      dsimp only
      rw[yAF (decide_eq_false (by omega))])
   L (s,(b:Int),0,(v:Int),0,()) ⟨0,Nat.zero_le _,by simp[le]⟩ (by dsimp only;omega)
  subst hq
  rw[hrun]
  dsimp only
  have h3:b+v<=s.data.toList.length:=by rw[yAy];omega
  by_cases hbig:le ((s.data.toList.drop b).take v)<=1099511627776
  ·rw[yAF (decide_eq_false (by omega)),yXc (by omega) h3 hbig]
  ·rw[yAO (decide_eq_true (by omega)),xKU (by omega) h3 hbig]
 ·rw[decide_eq_false hn,xKT hn];rfl
theorem xEI{a b:Int}:yEr false a b=min a b:=by
 unfold yEr
 simp only[Bool.false_eq_true,if_false]
 split <;> omega
theorem xEJ{L:Nat}(hL:10<L)(n:Int):yFH L n=some (if 1<=n/\n<=6 then((yQR n.toNat:Nat):Int) else -1):=by
 unfold yFH yTc
 by_cases h1:n<1
 ·rw[yAO (decide_eq_true h1),if_neg (by omega)]
 rw[yAF (decide_eq_false h1)]
 by_cases h2:6<n
 ·rw[yAO (decide_eq_true h2),if_neg (by omega)]
 rw[yAF (decide_eq_false h2),if_pos (by omega)]
 obtain⟨v,rfl⟩:=Int.eq_ofNat_of_zero_le (show 0<=n by omega)
 obtain⟨q,hq,hrun⟩:=yHW (α:=Int) (F:=yGD) (fun q=>∃k:Nat,k<=v/\q=((v:Int),((256^k:Nat):Int),(k:Int),())) (fun q=>v-q.2.2.1.toNat) (fun q=>q=(((256^v:Nat):Int),()))
  (fun q hq=>by
    obtain⟨k,hk,rfl⟩:=hq
    by_cases hlt:k<v
    ·have hp:=xG2 k (by omega)
     refine .inl ⟨_,⟨k+1,hlt,rfl⟩,by dsimp only;omega,fun kn ka=>?_⟩
     unfold yGD
     dsimp only
     have e:((256^(k+1):Nat):Int)=((256^k:Nat):Int)*256:=by rw[Nat.pow_succ];rfl
     rw[yAO (decide_eq_true (by omega)),e]
     generalize 256^k=p at*
     rw[yAh (by omega) (by omega),yAh (n:=(k:Int)+1) (by omega) (by omega)]
     rfl
    ·obtain rfl:k=v:=by omega
     refine .inr ⟨_,rfl,fun kn ka=>?_⟩
     unfold yGD
     dsimp only
     rw[yAF (decide_eq_false (by omega))])
  L ((v:Int),1,0,()) ⟨0,Nat.zero_le _,rfl⟩ (by dsimp only;omega)
 subst hq
 rw[hrun]
 have hp:=xG2 v (by omega)
 have hp0:0<256^v:=Nat.pow_pos (by omega)
 dsimp only
 rw[xEI,yAh (by omega) (by omega),Int.toNat_natCast]
 congr 1
 unfold yQR
 omega
theorem xMt{L:Nat}(hL:10<L)(a n:Int):yKE L a n=some (yHP a n):=by
 unfold yKE yTa yHP
 rw[xEJ hL]
 by_cases h0:0<=a
 ·rw[yAO (decide_eq_true h0),yAA]
  congr 1
  refine decide_eq_decide.2 ?_
  by_cases hn:1<=n/\n<=6
  ·rw[if_pos hn]
   exact⟨fun h=>⟨hn.1,hn.2,h0,h⟩,fun h=>h.2.2.2⟩
  ·rw[if_neg hn]
   exact⟨fun h=>by omega,fun h=>absurd ⟨h.1,h.2.1⟩ hn⟩
 ·rw[yAF (decide_eq_false h0),decide_eq_false fun h=>h0 h.2.2.1]
theorem xGj(l:Bs)(a v j:Nat)(hj:j<v)(h:a+v<=l.length):le ((l.drop (a+j)).take (v-j))=(l[a+j]'(by omega)).toNat+256*le ((l.drop (a+(j+1))).take (v-(j+1))):=by
 rw[List.drop_eq_getElem_cons (by omega),show v-j=v-(j+1)+1 by omega,List.take_succ_cons]
 rfl
theorem xNj{L:Nat}(hL:10<L){s:ByteArray}(hs:s.size<=1000000000)(a n:Int):yBj L s a n=some ((yQN s.data.toList a n).1,(yQN s.data.toList a n).2,()):=by
 unfold yBj yVV
 rw[xEJ hL,yAA]
 by_cases hn:1<=n/\n<=6
 ·rw[if_pos hn,yAF (decide_eq_false (by omega))]
  by_cases h0:a<0
  ·rw[yAO (decide_eq_true h0),yRk hn (by omega)]
  rw[yAF (decide_eq_false h0)]
  by_cases h1:(s.size:Int)<a
  ·rw[yAO (decide_eq_true h1),yRk hn (by rw[yAy];omega)]
  rw[yAF (decide_eq_false h1),yAh (by omega) (by omega)]
  by_cases h2:(s.size:Int)-a<n
  ·rw[yAO (decide_eq_true h2),yRk hn (by rw[yAy];omega)]
  rw[yAF (decide_eq_false h2),yAh (by omega) (by omega)]
  obtain⟨b,rfl⟩:=Int.eq_ofNat_of_zero_le (show 0<=a by omega)
  obtain⟨v,rfl⟩:=Int.eq_ofNat_of_zero_le (show 0<=n by omega)
  have h3:b+v<=s.data.toList.length:=by rw[yAy];omega
  obtain⟨q,hq,hrun⟩:=yHW (α:=Int×Int×Unit) (F:=yHZ) (fun q=>∃k:Nat,k<=v/\q=(s,(b:Int),((le ((s.data.toList.drop (b+k)).take (v-k)):Nat):Int),(k:Int)-1,())) (fun q=>(q.2.2.2.1+1).toNat) (fun q=>q=(((le ((s.data.toList.drop b).take v):Nat):Int),()))
   (fun q hq=>by
     obtain⟨k,hk,rfl⟩:=hq
     cases k with
     | succ k=>
       have hb:b+k<s.size:=by omega
       refine .inl ⟨_,⟨k,by omega,rfl⟩,by dsimp only;omega,fun kn ka=>?_⟩
       have h4:=yUV s.data.toList (b+(k+1)) (v-(k+1))
       have h5:=Nat.pow_le_pow_right (n:=256) (by omega) (show v-(k+1)<=5 by omega)
       have h6:=(s.data.toList[b+k]'(by rw[yAy];omega)).toNat_lt
       unfold yHZ
       dsimp only
       rw[show((k+1:Nat):Int)-1=k by omega,yAO (decide_eq_true (by omega)),yAh (n:=(b:Int)+k) (by omega) (by omega),xDN (by omega) (by omega),show((b:Int)+k).toNat=b+k by omega,xIf hb,yAh (n:=(k:Int)-1) (by omega) (by omega),
        yAh (n:=((le ((s.data.toList.drop (b+(k+1))).take (v-(k+1))):Nat):Int)*256) (by omega) (by omega),yAh (n:=((s.data.toList[b+k]'(by rw[yAy];omega)).toNat:Int)) (by omega) (by omega),yAh (by omega) (by omega),xGj _ _ _ k (by omega) h3]
       rw[show((((s.data.toList[b+k]'(by rw[yAy];omega)).toNat+256*le ((s.data.toList.drop (b+(k+1))).take (v-(k+1))):Nat)):Int)=((le ((s.data.toList.drop (b+(k+1))).take (v-(k+1))):Nat):Int)*256+((s.data.toList[b+k]'(by rw[yAy];omega)).toNat:Int) by omega]
     | zero=>
       refine .inr ⟨_,rfl,fun kn ka=>?_⟩
       unfold yHZ
       dsimp only
       rw[yAF (decide_eq_false (by omega))]
       rfl)
   L (s,(b:Int),0,(v:Int)-1,()) ⟨v,Nat.le_refl _,by rw[Nat.sub_self];rfl⟩ (by dsimp only;omega)
  subst hq
  rw[hrun]
  dsimp only
  by_cases hbig:le ((s.data.toList.drop b).take v)<=1099511627776
  ·rw[yAF (decide_eq_false (by omega)),yXc (by omega) h3 hbig]
  ·rw[yAO (decide_eq_true (by omega)),xKU (by omega) h3 hbig]
 ·rw[if_neg hn,xKT hn];rfl
theorem xS7(n:Nat): [[V.int .u8 (IntKind.u8.wrap ((n:Int).tmod 256))]]= [UInt8.ofNat (n%256)].map byV:=by
 have h:(UInt8.ofNat (n%256)).toNat=n%256:=by simp
 have e:IntKind.u8.wrap ((n:Int).tmod 256)=((UInt8.ofNat (n%256)).toNat:Int):=by
  rw[h,IntKind.wrap_u8,Int.tmod_eq_emod_of_nonneg (by omega)];omega
 rw[e];rfl
theorem xPA{α β:Type}(f:α->β)(l:List α)(a:α):l.map f++ [a].map f=(l++ [a]).map f:=by simp
set_option maxHeartbeats 1000000 in
theorem xJM{L:Nat}(hL:10<L){b:Bs}{l:List Int}(n:Int)(hb:b.length+6*l.length<=1000000)(hl:l.length<L):yCh L (b.map byV) n (l.map inV)=some ((yZO b n l).1.map byV,(yZO b n l).2,()):=by
 unfold yCh yVW
 rw[xEJ hL,yAA]
 by_cases hn:¬(1<=n/\n<=6)
 ·rw[if_neg hn,yAO (decide_eq_true (by omega))]
  unfold yZO xKb
  rw[if_neg fun h=>hn h.1]
  rfl
 replace hn:1<=n/\n<=6:=Decidable.not_not.1 hn
 rw[if_pos hn,yAF (decide_eq_false (by omega)),yCJ (xBh 1 fun _=>rfl),xIZ (by rw[List.length_map];omega) (by rw[List.length_map];omega),yHo (Nat.zero_add _) (yRp _)]
 obtain⟨v,rfl⟩:=Int.eq_ofNat_of_zero_le (show 0<=n by omega)
 have inner:∀(pre:Bs) (x:Nat) (i:Int) (ka:yMo->Option (List (List V)×Int×Unit)),pre.length+6<=1000000->x<=1099511627776->yAb yDD L ((v:Int),l.map inV,pre.map byV,i,(x:Int),0,()) ka=ka ((v:Int),l.map inV,(pre++leBytes v x).map byV,i,()):=fun pre x i ka hp hxb=>by
  obtain⟨q,hq,hrun⟩:=yHW (α:=List (List V)×Int×Unit) (F:=yDD) (fun q=>∃k:Nat,k<=v/\q=((v:Int),l.map inV,(pre++leBytes k x).map byV,i,((x/256^k:Nat):Int),(k:Int),())) (fun q=>v-q.2.2.2.2.2.1.toNat) (fun q=>q=((v:Int),l.map inV,(pre++leBytes v x).map byV,i,()))
   (fun q hq=>by
     obtain⟨k,hk,rfl⟩:=hq
     have hlen:(pre++leBytes k x).length=pre.length+k:=by rw[List.length_append,yAI]
     by_cases hlt:k<v
     ·refine .inl ⟨_,⟨k+1,hlt,rfl⟩,by dsimp only;omega,fun kn ka=>?_⟩
      unfold yDD
      dsimp only
      rw[yAO (decide_eq_true (by omega)),yCJ (by rw[Nat.zero_add];exact Nat.beq_refl _),xIZ (by rw[List.length_map];omega) (by rw[List.length_map];omega),xS7,xPA,yHo (by simp[Nat.add_assoc]) (yRp _),yAh (n:=(k:Int)+1) (by omega) (by omega),List.append_assoc,←yYb]
      have hd:((x/256^k:Nat):Int).tdiv 256=((x/256^(k+1):Nat):Int):=by
       rw[Int.tdiv_eq_ediv_of_nonneg (Int.natCast_nonneg _),Nat.pow_succ,←Nat.div_div_eq_div_mul]
       rfl
      rw[hd]
      have hx:x/256^(k+1)<=x:=Nat.div_le_self _ _
      generalize x/256^(k+1)=z at*
      rw[yAh (by omega) (by omega)]
      rfl
     ·obtain rfl:k=v:=by omega
      refine .inr ⟨_,rfl,fun kn ka=>?_⟩
      unfold yDD
      dsimp only
      rw[yAF (decide_eq_false (by omega)),yHo rfl (yRp _)])
   L ((v:Int),l.map inV,pre.map byV,i,(x:Int),0,()) ⟨0,Nat.zero_le _,by simp[leBytes]⟩ (by dsimp only;omega)
  subst hq
  exact hrun ka
 have hr:=yQz (α:=List (List V)×Int×Unit) (F:=yFu (yKE L) (yAb yDD L)) (fun q=>∃k:Nat,k<=l.length/\(∀j (h:j<l.length),j<k->yHP l[j] v=true)/\q=((v:Int),l.map inV,(b++yI2 v (l.take k)).map byV,(k:Int),())) (fun q=>l.length-q.2.2.2.1.toNat)
  (fun q=>(∀j (h:j<l.length),yHP l[j] v=true)/\q=((b++yI2 v l).map byV,())) (fun q=>(∃j,∃h:j<l.length,yHP l[j] v=false)/\q=([],2,()))
  (fun q hq=>by
    obtain⟨k,hk,hf,rfl⟩:=hq
    have hpl:(b++yI2 v (l.take k)).length=b.length+v*k:=by rw[List.length_append,yWc,List.length_take,Nat.min_eq_left hk]
    by_cases hlt:k<l.length
    ·by_cases hfit:yHP l[k] v=true
     ·refine .inl ⟨_,⟨k+1,hlt,fun j h hj=>?_,rfl⟩,by dsimp only;omega,fun kn ka kb=>?_⟩
      ·rcases Nat.lt_or_ge j k with h' | h'
       ·exact hf j h h'
       ·obtain rfl:j=k:=by omega
        exact hfit
      ·have hfl:=of_decide_eq_true hfit
       obtain⟨x,hx⟩:=Int.eq_ofNat_of_zero_le hfl.2.2.1
       have hxl:=xAh (n:=x) (w:=v) (by rw[←hx];exact hfit)
       have hvk:v*k+6<=6*l.length:=by
        have:v*k<=6*k:=Nat.mul_le_mul_right _ (by omega)
        omega
       unfold yFu
       dsimp only
       rw[yAO (decide_eq_true (by rw[List.length_map];omega)),yS0 (by omega) (by omega),Int.toNat_natCast,yV3 hlt,xMt hL,yAA,hfit,Bool.not_true,cond_false]
       rw[yS0 (by omega) (by omega),yHo rfl (yRp _),hx,inner _ x _ _ (by rw[hpl];omega) hxl.2.1]
       dsimp only
       rw[yHo rfl (yRp _),yAh (by omega) (by omega),List.append_assoc,List.take_succ_eq_append_getElem hlt,xA5,hx]
       rfl
     ·refine .inr (.inr ⟨_,⟨⟨k,hlt,by simpa using hfit⟩,rfl⟩,fun kn ka kb=>?_⟩)
      unfold yFu
      dsimp only
      rw[yAO (decide_eq_true (by rw[List.length_map];omega)),yS0 (by omega) (by omega),Int.toNat_natCast,yV3 hlt,xMt hL,yAA,show yHP l[k] v=false by simpa using hfit]
      rfl
    ·obtain rfl:k=l.length:=by omega
     refine .inr (.inl ⟨_,⟨fun j h=>hf j h h,rfl⟩,fun kn ka kb=>?_⟩)
     unfold yFu
     dsimp only
     rw[yAF (decide_eq_false (by rw[List.length_map];omega)),yHo rfl (yRp _),List.take_length])
  L ((v:Int),l.map inV,b.map byV,0,()) ⟨0,Nat.zero_le _,fun j _ h=>absurd h (Nat.not_lt_zero _),by simp[yI2]⟩ (by dsimp only;omega)
 unfold yZO
 rcases hr with ⟨q,⟨h1,rfl⟩,hrun⟩ | ⟨q,⟨⟨j,hj,h1⟩,rfl⟩,hrun⟩
 ·rw[hrun,yXk (by omega) (by omega) h1]
  dsimp only
  rw[yHo rfl (yRp _)]
 ·rw[hrun,xKc hj h1]
  dsimp only
  rw[yHo rfl rfl]
  rfl
theorem xUH(x:Nat)(h:x<4294967296):IntKind.i64.wrap ((BitVec.ofInt IntKind.i64.bits (x:Int) &&& BitVec.ofInt IntKind.i64.bits 1).toNat:Int)=((x%2:Nat):Int):=by
 have:=yVO x 1 (by omega) (by omega)
 rw[Nat.and_one_is_mod] at this
 exact this
theorem xTR(x:Nat)(h:x<4294967296):IntKind.i64.wrap ((BitVec.ofInt IntKind.i64.bits (x:Int) &&& BitVec.ofInt IntKind.i64.bits 4294967295).toNat:Int)=(x:Int):=by
 have:=yVO x 4294967295 (by omega) (by omega)
 rw[show(4294967295:Nat)=2^32-1 from rfl,Nat.and_two_pow_sub_one_eq_mod,Nat.mod_eq_of_lt (by omega)] at this
 exact this
theorem xRt(x y:Nat)(h:x<4294967296)(h':y<4294967296):IntKind.i64.wrap ((BitVec.ofInt IntKind.i64.bits (x:Int) ^^^ BitVec.ofInt IntKind.i64.bits (y:Int)).toNat:Int)=((x ^^^ y:Nat):Int):=xI1 x y (by omega) (by omega)
theorem xUK(x:Nat):(x:Int).fdiv (2^(min (1:Int).toNat IntKind.i64.bits))=((x/2:Nat):Int):=by
 show(x:Int).fdiv ((2:Int)^(min 1 64))=_
 rw[show((2:Int)^(min 1 64))=2 from rfl,Int.fdiv_eq_ediv_of_nonneg _ (by omega)]
 omega
theorem xPe{L x:Nat}(h:x<4294967296):yDh L (x:Int)=some ((step x:Nat):Int):=by
 unfold yDh yTf
 rw[xUH x h,xUK]
 unfold step
 rcases Nat.mod_two_eq_zero_or_one x with hm | hm
 ·rw[hm,if_neg (by omega)];rfl
 ·rw[hm,if_pos rfl]
  have:=xRt (x/2) 2197175160 (by omega) (by omega)
  exact congrArg some this
theorem xPb{L x:Nat}(hL:10<L)(h:x<4294967296):yKG L (x:Int) 1=some ((steps 8 x:Nat):Int):=by
 unfold yKG yTd
 rw[xTR x h]
 obtain⟨M,rfl⟩:∃M,L=M+2:=⟨L-2,by omega⟩
 have F:∀(m:Nat) (s:yHb) (ka:yK4->Option Int),yAb (yDU (yAb (yCU (yDh (M+2))) (M+2))) (m+1) s ka=yDU (yAb (yCU (yDh (M+2))) (M+2)) s (fun s'=>yAb (yDU (yAb (yCU (yDh (M+2))) (M+2))) m s' ka) ka:=fun _ _ _=>rfl
 rw[F]
 unfold yDU
 dsimp only
 rw[yAO (decide_eq_true (by omega))]
 obtain⟨q,hq,hrun⟩:=yHW (α:=Int) (F:=yCU (yDh (M+2))) (fun q=>∃k:Nat,k<=8/\q=(((steps k x:Nat):Int),1,0,(k:Int),())) (fun q=>8-q.2.2.2.1.toNat) (fun q=>q=(((steps 8 x:Nat):Int),1,0,()))
  (fun q hq=>by
    obtain⟨k,hk,rfl⟩:=hq
    by_cases hlt:k<8
    ·refine .inl ⟨_,⟨k+1,hlt,rfl⟩,by dsimp only;omega,fun kn ka=>?_⟩
     unfold yCU
     dsimp only
     rw[yAO (decide_eq_true (by omega)),xPe (yXE k h),yAA,yAh (by omega) (by omega)]
     rfl
    ·obtain rfl:k=8:=by omega
     refine .inr ⟨_,rfl,fun kn ka=>?_⟩
     unfold yCU
     dsimp only
     rw[yAF (decide_eq_false (by omega))])
  (M+2) ((x:Int),1,0,0,()) ⟨0,Nat.zero_le _,rfl⟩ (by dsimp only;omega)
 subst hq
 rw[hrun]
 dsimp only
 rw[yAh (by omega) (by omega)]
 show yAb _ (M+1) _ _=_
 rw[F]
 unfold yDU
 dsimp only
 rw[yAF (decide_eq_false (by omega))]
theorem xRW{L:Nat}{b:Bs}(hL:10<L)(hb:b.length<L)(hl:b.length<=1000000000):yTe L (b.map byV)=some (yKu b:Int):=by
 unfold yTe yVZ yWe yVY
 obtain⟨q,hq,hrun⟩:=yHW (α:=Int) (F:=yHa (yKG L)) (fun q=>∃k:Nat,k<=b.length/\q=(b.map byV,((yOH 4294967295 (b.take k):Nat):Int),(k:Int),())) (fun q=>b.length-q.2.2.1.toNat) (fun q=>q=(((yOH 4294967295 b:Nat):Int),()))
  (fun q hq=>by
    obtain⟨k,hk,rfl⟩:=hq
    have hx:=yTJ (x:=4294967295) (by omega) (b.take k)
    by_cases hlt:k<b.length
    ·refine .inl ⟨_,⟨k+1,hlt,rfl⟩,by dsimp only;omega,fun kn ka=>?_⟩
     have hc:=b[k].toNat_lt
     have hxx:yOH 4294967295 (b.take k) ^^^ b[k].toNat<4294967296:=Nat.xor_lt_two_pow (n:=32) (by omega) (by omega)
     unfold yHa
     dsimp only
     rw[yAO (decide_eq_true (by rw[List.length_map];omega)),xTV (by omega) (by omega),Int.toNat_natCast,xTQ hlt,yAh (n:=(b[k].toNat:Int)) (by omega) (by omega),xRt _ _ hx (by omega),xPb hL hxx,yAA,yAh (by omega) (by omega),List.take_succ_eq_append_getElem hlt,xAW]
     rfl
    ·obtain rfl:k=b.length:=by omega
     refine .inr ⟨_,rfl,fun kn ka=>?_⟩
     unfold yHa
     dsimp only
     rw[yAF (decide_eq_false (by rw[List.length_map];omega)),List.take_length])
  L (b.map byV,4294967295,0,()) ⟨0,Nat.zero_le _,rfl⟩ (by dsimp only;omega)
 subst hq
 have h0:IntKind.i64.wrap ((BitVec.ofInt IntKind.i64.bits (IntKind.i64.wrap ((BitVec.ofInt IntKind.i64.bits 0 &&& BitVec.ofInt IntKind.i64.bits 4294967295).toNat:Int)) ^^^ BitVec.ofInt IntKind.i64.bits 4294967295).toNat:Int)=4294967295:=by decide +kernel
 rw[h0,hrun]
 dsimp only
 have:=xRt (yOH 4294967295 b) 4294967295 (yTJ (by omega) _) (by omega)
 exact congrArg some this
theorem xEO{L:Nat}{b:Bs}{l:List Int}(n:Int)(hb:b.length+6*l.length<=1000000):yHY L (b.map byV) n (l.map inV)=some ((yZO b n l).1.map byV,(yZO b n l).2,()):=by
 unfold yHY
 rw[xFa xQA,xFa xSS,xKi xMa,xKi xST,List.length_map,List.length_map,Nat.ble_eq_true_of_le (by omega)]
 rfl
theorem xQD{L:Nat}{b:Bs}(hb:b.length<=1000000000):yVK L (b.map byV)=some (yKu b:Int):=by
 unfold yVK
 rw[xFa xQA,xKi xMa,List.length_map,Nat.ble_eq_true_of_le hb]
 rfl
theorem data_extract(s:ByteArray)(a b:Nat):(s.extract a b).data.toList=(s.data.toList.drop a).take (b-a):=by
 rw[ByteArray.data_extract,Array.toList_extract]
theorem extract_mk(s:ByteArray)(a b:Nat):s.extract a b=mkS ((s.data.toList.drop a).take (b-a)):=by
 rw[←data_extract,xPD]
theorem toList_mk(b:Bs):(mkS b).toList=b:=by rw[ByteArray.toList_eq];simp[mkS]
theorem yUe(s:ByteArray):s.toList=s.data.toList:=by rw[ByteArray.toList_eq]
theorem xND{k:Int}(h1:1<=k)(h2:k<=127): [[V.int .u8 (IntKind.u8.wrap k)]]= [UInt8.ofNat k.toNat].map byV:=by
 have e:IntKind.u8.wrap k=((UInt8.ofNat k.toNat).toNat:Int):=by
  rw[IntKind.wrap_u8,UInt8.toNat_ofNat']
  omega
 rw[e];rfl
theorem xSn{k:Int}{n:Nat}(hn:n<=505):yZO [UInt8.ofNat k.toNat] 2 [(n:Int)]=([UInt8.ofNat k.toNat]++leBytes 2 n,0):=by
 unfold yZO
 rw[show(2:Int)=((2:Nat):Int) from rfl,yXk (by omega) (by omega) fun j h=>by
  have:j=0:=by simpa using h
  subst this
  exact decide_eq_true (by simp[yQR];omega)]
 simp[yI2]
theorem xTh{b:Bs}{n:Nat}(hn:n<4294967296):yZO b 4 [(n:Int)]=(b++leBytes 4 n,0):=by
 unfold yZO
 rw[show(4:Int)=((4:Nat):Int) from rfl,yXk (by omega) (by omega) fun j h=>by
  have:j=0:=by simpa using h
  subst this
  exact decide_eq_true (by simp[yQR];omega)]
 simp[yI2]
theorem xKL(a:Bs)(s:ByteArray):a.map byV++yCj s=(a++s.data.toList).map byV:=by rw[xAC,List.map_append]
theorem yOl{α:Type}(l:List α){n:Nat}(h:n=l.length):l.take n=l:=by rw[h,List.take_length]
theorem xIH{L:Nat}{k:Int}{rows:List (List V)}{s:ByteArray}(hk:k<=127)(hr:yCL rows=true):∃y,yCk L (rows,0,k,()) s=some ((mkS (yRJ k s.data.toList).1,(yRJ k s.data.toList).2,()),y):=by
 unfold yCk yIx
 dsimp only
 by_cases h1:k<1
 ·rw[yAO (decide_eq_true h1),yHo rfl hr,yW6 (by omega)]
  exact⟨_,rfl⟩
 rw[yAF (decide_eq_false h1)]
 by_cases h2:505<(s.size:Int)
 ·rw[yAO (decide_eq_true h2),yHo rfl hr,yW6 (by rw[yAy];omega)]
  exact⟨_,rfl⟩
 rw[yAF (decide_eq_false h2),xND (by omega) hk]
 have hl:s.data.toList.length=s.size:=yAy s
 have hin: [[V.int .i64 (s.size:Int)]]= [(s.size:Int)].map inV:=rfl
 rw[hin,xEO 2 (by simp),xSn (by omega),yAA]
 dsimp only
 have hh: [UInt8.ofNat k.toNat]++leBytes 2 s.size++s.data.toList=yB7 k s.data.toList:=by simp[yB7,hl]
 have hlen:=yFS k s.data.toList
 have e1:(([UInt8.ofNat k.toNat]++leBytes 2 s.size).map byV).length+(yCj s).length=(yB7 k s.data.toList).length:=by
  rw[xAC,List.length_map,List.length_map,←List.length_append,hh]
 rw[show((0:Int) !=0)=false from rfl,cond_false,xKL,hh,e1,yCJ (by rw[Nat.zero_add];exact Nat.beq_refl _),xIZ (by omega) (by omega),yU0 (by simp) (by omega) (yRp _),yOl _ (by simp),xQD (by omega),yAA,yU0 (by simp) (by omega) (yRp _)]
 have hin2: [[V.int .i64 (yKu (yB7 k s.data.toList):Int)]]= [(yKu (yB7 k s.data.toList):Int)].map inV:=rfl
 rw[hin2,xEO 4 (by simp;omega),xTh (xAX _),yAA]
 dsimp only
 rw[show((0:Int) !=0)=false from rfl,cond_false,yCJ (by rw[Nat.zero_add];exact Nat.ble_eq_true_of_le (Nat.le_refl _)),yOl _ rfl,yCJ (yQr _),yHo rfl (yRp _),yO0,yW7 (by omega) (by omega)]
 exact⟨_,rfl⟩
theorem xRe{L:Nat}{k:Int}{s:ByteArray}(hk:k<=127):yRK L k s=some (mkS (yRJ k s.data.toList).1,(yRJ k s.data.toList).2,()):=by
 unfold yRK yVq
 obtain⟨y,h⟩:=xIH (L:=L) (s:=s) (rows:= []) hk rfl
 rw[h,yAA]
theorem xNA{n:Nat}(h:n<=127):IntKind.i8.wrap (n:Int)=n:=by
 simp[IntKind.wrap,IntKind.bits,IntKind.signed]
 split <;> omega
theorem xRO{L:Nat}(hL:10<L){s:ByteArray}(hs:s.size<=1000000000):yUF L s=some ((yFF s.data.toList).1,mkS (yFF s.data.toList).2.1,(yFF s.data.toList).2.2,()):=by
 have hl:s.data.toList.length=s.size:=yAy s
 have hno:∀h:yFF s.data.toList=(0,[],30),some ((0:Int),noS,(30:Int),())=some ((yFF s.data.toList).1,mkS (yFF s.data.toList).2.1,(yFF s.data.toList).2.2,()):=fun h=>by rw[h];rfl
 unfold yUF yVp
 rw[yUW hL hs,yAA]
 by_cases h3:s.size<3
 ·rw[yRk (by omega) (by omega)]
  exact hno (yVR (by omega))
 have hg:=yUV s.data.toList 1 2
 have hget:yQN s.data.toList 1 2=(((le ((s.data.toList.drop 1).take 2):Nat):Int),0):=yXc (a:=1) (w:=2) (by omega) (by omega) (by omega)
 rw[hget]
 dsimp only
 generalize hn:le ((s.data.toList.drop 1).take 2)=n at*
 rw[show((0:Int) !=0)=false from rfl,cond_false,yAh (n:=3+(n:Int)) (by omega) (by omega),yAh (by omega) (by omega)]
 by_cases h4:¬(s.size:Int)=3+n+4
 ·rw[yAO (bne_iff_ne.2 h4)]
  by_cases h7:s.size<7
  ·exact hno (yVR (by omega))
  ·exact hno (xNZ (by omega) (by rw[hn];omega))
 replace h4:(s.size:Int)=3+n+4:=Decidable.not_not.1 h4
 rw[yAF (by rw[h4];exact bne_self_eq_false _)]
 by_cases h5:505<(n:Int)
 ·rw[yAO (decide_eq_true h5)]
  exact hno (xDW (by omega))
 have hb:(((s[0]?).getD 0).toNat:Int)=((s.data.toList.getD 0 0).toNat:Int):=by
  rw[xIf (by omega),List.getD_eq_getElem?_getD,List.getElem?_eq_getElem (by omega)];rfl
 rw[yAF (decide_eq_false h5),yCJ (decide_eq_true (by omega)),hb]
 by_cases h6:(s.data.toList.getD 0 0).toNat=0
 ·rw[yAO (by rw[h6];rfl)]
  exact hno (xDX h6)
 rw[yAF (beq_eq_false_iff_ne.2 (by omega)),yCJ (decide_eq_true (by omega))]
 by_cases h7:127<(s.data.toList.getD 0 0).toNat
 ·rw[yAO (decide_eq_true (by omega))]
  exact hno (xGv h7)
 have hg4:=yUV s.data.toList (3+n) 4
 have hget4:yQN s.data.toList (3+(n:Int)) 4=(((le ((s.data.toList.drop (3+n)).take 4):Nat):Int),0):=yXc (a:=3+n) (w:=4) (by omega) (by omega) (by omega)
 have hd4:(s.data.toList.drop (3+n)).take 4=s.data.toList.drop (s.data.toList.length-4):=by
  rw[show s.data.toList.length-4=3+n by omega]
  exact List.take_of_length_le (by rw[List.length_drop];omega)
 have hex:yCj (s.extract 0 (3+n))=(s.data.toList.take (s.data.toList.length-4)).map byV:=by
  rw[xAC,data_extract,List.drop_zero,show 3+n-0=s.data.toList.length-4 by omega]
 have hes:(s.extract 0 (3+n)).size=3+n:=by rw[ByteArray.size_extract];omega
 have htl:(s.data.toList.take (s.data.toList.length-4)).length=3+n:=by rw[List.length_take];omega
 rw[yAF (decide_eq_false (by omega)),yUW hL hs,hget4,yAA,yCJ (decide_eq_true (by omega)),yCJ (decide_eq_true (by omega)),show(3+(n:Int)).toNat=3+n by omega,hes,hex,yU0 (by rw[List.length_map];omega) (by omega) (yRp _),yOl _ (by rw[List.length_map];omega),xQD (by omega),yAA,hd4]
 dsimp only
 by_cases h8:le (s.data.toList.drop (s.data.toList.length-4))=yKu (s.data.toList.take (s.data.toList.length-4))
 ·rw[yAF (by rw[h8];exact bne_self_eq_false _),yCJ (decide_eq_true (by omega)),yCJ (decide_eq_true (by omega)),yCJ (decide_eq_true (by omega)),yCJ (decide_eq_true (by omega)),xNA (by omega),xPK (by omega) (by omega) (by omega) (by omega) (by rw[hn];omega) h8,extract_mk,show 3+n-3=s.data.toList.length-7 by omega]
 ·rw[yAO (bne_iff_ne.2 (by omega))]
  exact hno (xNa (by omega) h8)
theorem of_eq{L:Nat}(hL:10<L){s:ByteArray}(hs:s.size<=1000000000)(k:Int):yUE L k s=some (mkS (ofR k s.data.toList).1,(ofR k s.data.toList).2,()):=by
 unfold yUE xBo ofR
 rw[xRO hL hs,yAA]
 dsimp only
 by_cases h1:(yFF s.data.toList).2.2=0
 ·rw[yAF (by rw[h1];rfl)]
  by_cases h2:(yFF s.data.toList).1=k
  ·rw[yAF (by rw[h2];exact bne_self_eq_false _),if_pos ⟨h1,h2⟩]
  ·rw[yAO (bne_iff_ne.2 h2),if_neg fun h=>h2 h.2];rfl
 ·rw[yAO (bne_iff_ne.2 h1),if_neg fun h=>h1 h.1];rfl
theorem yZz{r j:Nat}(hr:r<4294967296)(hj:j<=3): [V.int .u8 (IntKind.u8.wrap ((r:Int).fdiv (2^(min ((8*j:Nat):Int).toNat IntKind.i64.bits))))]=byV (UInt8.ofNat (r/256^j%256)):=by
 have h:(UInt8.ofNat (r/256^j%256)).toNat=r/256^j%256:=by simp
 have e:IntKind.u8.wrap ((r:Int).fdiv (2^(min ((8*j:Nat):Int).toNat IntKind.i64.bits)))=((UInt8.ofNat (r/256^j%256)).toNat:Int):=by
  rw[h,IntKind.wrap_u8,Int.toNat_natCast,show min (8*j) IntKind.i64.bits=8*j from by show min _ 64=_;omega]
  have:(2:Int)^(8*j)=((256^j:Nat):Int):=by
   rw[Int.pow_mul];norm_cast
  rw[this,Int.fdiv_eq_ediv_of_nonneg _ (Int.natCast_nonneg _)]
  omega
 rw[e];rfl
theorem xQ5{r:Nat}(hr:r<4294967296): [[V.int .u8 (IntKind.u8.wrap (r:Int))],[V.int .u8 (IntKind.u8.wrap ((r:Int).fdiv (2^(min (8:Int).toNat IntKind.i64.bits))))],[V.int .u8 (IntKind.u8.wrap ((r:Int).fdiv (2^(min (16:Int).toNat IntKind.i64.bits))))],[V.int .u8 (IntKind.u8.wrap ((r:Int).fdiv (2^(min (24:Int).toNat IntKind.i64.bits))))]]=(leBytes 4 r).map byV:=by
 have h0:=yZz (j:=0) hr (by omega)
 have h1:=yZz (j:=1) hr (by omega)
 have h2:=yZz (j:=2) hr (by omega)
 have h3:=yZz (j:=3) hr (by omega)
 have e0:(r:Int).fdiv (2^(min ((8*0:Nat):Int).toNat IntKind.i64.bits))=r:=by
  show(r:Int).fdiv 1=r
  simp
 rw[e0] at h0
 rw[show(8:Int)=((8*1:Nat):Int) from rfl,show(16:Int)=((8*2:Nat):Int) from rfl,show(24:Int)=((8*3:Nat):Int) from rfl,h0,h1,h2,h3]
 simp[leBytes,Nat.div_div_eq_div_mul]
theorem xEb{L:Nat}(hL:1000<L){k:Int}{s:ByteArray}(hk:k<=127):yH9 L k s=some (mkS (yRJ k s.data.toList).1,(yRJ k s.data.toList).2,()):=by
 unfold yH9 yTj
 by_cases h1:k<1
 ·rw[yAO (decide_eq_true h1),yW6 (by omega)];rfl
 rw[yAF (decide_eq_false h1)]
 by_cases h2:505<(s.size:Int)
 ·rw[yAO (decide_eq_true h2),yW6 (by rw[yAy];omega)];rfl
 rw[yAF (decide_eq_false h2),xND (by omega) hk]
 have hl:s.data.toList.length=s.size:=yAy s
 have hin: [[V.int .i64 (s.size:Int)]]= [(s.size:Int)].map inV:=rfl
 rw[hin,xJM (by omega) 2 (by simp) (by simp;omega),xSn (by omega),yAA]
 dsimp only
 have hh: [UInt8.ofNat k.toNat]++leBytes 2 s.size++s.data.toList=yB7 k s.data.toList:=by simp[yB7,hl]
 have hlen:=yFS k s.data.toList
 have e1:(([UInt8.ofNat k.toNat]++leBytes 2 s.size).map byV).length+(yCj s).length=(yB7 k s.data.toList).length:=by
  rw[xAC,List.length_map,List.length_map,←List.length_append,hh]
 rw[xKL,hh,e1,yCJ (by rw[Nat.zero_add];exact Nat.beq_refl _),xIZ (by omega) (by omega),yU0 (by simp) (by omega) (yRp _),yOl _ (by simp),xRW (by omega) (by omega) (by omega),yAA,xQ5 (xAX _),←List.map_append,yCJ (by rw[Nat.zero_add,List.length_map];exact Nat.beq_refl _),xIZ (by omega) (by omega)]
 have e2:(yB7 k s.data.toList).length+4=((yB7 k s.data.toList++leBytes 4 (yKu (yB7 k s.data.toList))).map byV).length:=by simp[yAI]
 rw[yOl _ e2,yCJ (by rw[Nat.zero_add,←e2];exact Nat.ble_eq_true_of_le (Nat.le_refl _)),yCJ (yQr _),yO0,yW7 (by omega) (by omega)]
theorem xPU{L:Nat}(hL:1000<L)(s:ByteArray):yQ8 L s=some ((yFF s.data.toList).1,mkS (yFF s.data.toList).2.1,(yFF s.data.toList).2.2,()):=by
 have hl:s.data.toList.length=s.size:=yAy s
 have hno:∀h:yFF s.data.toList=(0,[],30),some ((0:Int),noS,(30:Int),())=some ((yFF s.data.toList).1,mkS (yFF s.data.toList).2.1,(yFF s.data.toList).2.2,()):=fun h=>by rw[h];rfl
 unfold yQ8 yTh
 by_cases h1:(s.size:Int)<7
 ·rw[yAO (decide_eq_true h1)]
  exact hno (yVR (by omega))
 rw[yAF (decide_eq_false h1)]
 by_cases h2:512<(s.size:Int)
 ·rw[yAO (decide_eq_true h2)]
  exact hno (xDW (by omega))
 have hb:(((s[0]?).getD 0).toNat:Int)=((s.data.toList.getD 0 0).toNat:Int):=by
  rw[xIf (by omega),List.getD_eq_getElem?_getD,List.getElem?_eq_getElem (by omega)];rfl
 rw[yAF (decide_eq_false h2),yCJ (decide_eq_true (by omega)),hb]
 by_cases h6:(s.data.toList.getD 0 0).toNat=0
 ·rw[yAO (decide_eq_true (by omega))]
  exact hno (xDX h6)
 rw[yAF (decide_eq_false (by omega)),yCJ (decide_eq_true (by omega))]
 by_cases h7:127<(s.data.toList.getD 0 0).toNat
 ·rw[yAO (decide_eq_true (by omega))]
  exact hno (xGv h7)
 rw[yAF (decide_eq_false (by omega)),yCJ (decide_eq_true (by omega)),yAh (by omega) (by omega),yCJ (decide_eq_true (by omega)),yCJ (decide_eq_true (by omega)),yCJ (decide_eq_true (by omega)),xNA (by omega),show((s.size:Int)-4).toNat=s.size-4 by omega,xEb hL (by omega),yAA,data_extract,show s.size-4-3=s.data.toList.length-7 by omega,extract_mk]
 rw[show s.size-4-3=s.data.toList.length-7 by omega]
 generalize hm:(s.data.toList.drop 3).take (s.data.toList.length-7)=m
 have hml:m.length<=505:=by rw[←hm,List.length_take];omega
 rw[yW7 (by omega) hml,toList_mk,yUe]
 dsimp only
 rw[show((0:Int) !=0)=false from rfl,cond_false]
 have hop:yFF s.data.toList=if yPj (s.data.toList.getD 0 0).toNat m=some s.data.toList then(((s.data.toList.getD 0 0).toNat:Int),m,0) else(0,[],30):=by
  unfold yFF
  rw[hm]
  by_cases h:yPj (s.data.toList.getD 0 0).toNat m=some s.data.toList
  ·rw[if_pos h,if_pos ⟨by omega,by omega,by omega,by omega,h⟩]
  ·rw[if_neg h,if_neg fun q=>h q.2.2.2.2]
 rw[hop,yMK (by omega) hml]
 by_cases h8:yB7 ((s.data.toList.getD 0 0).toNat:Int) m++leBytes 4 (yKu (yB7 ((s.data.toList.getD 0 0).toNat:Int) m))=s.data.toList
 ·rw[yAF (by rw[h8,beq_self_eq_true];rfl),if_pos (by rw[h8])]
 ·rw[yAO (by rw[beq_eq_false_iff_ne.2 h8];rfl),if_neg fun h=>h8 (by injection h)]
  rfl
theorem xQY{L:Nat}(hL:1000<L)(s:ByteArray)(k:Int):yP5 L k s=some (mkS (ofR k s.data.toList).1,(ofR k s.data.toList).2,()):=by
 unfold yP5 yXp ofR
 rw[xPU hL,yAA]
 dsimp only
 by_cases h1:(yFF s.data.toList).2.2=0
 ·rw[yAF (by rw[h1];rfl)]
  by_cases h2:(yFF s.data.toList).1=k
  ·rw[yAF (by rw[h2];exact bne_self_eq_false _),if_pos ⟨h1,h2⟩]
  ·rw[yAO (bne_iff_ne.2 h2),if_neg fun h=>h2 h.2];rfl
 ·rw[yAO (bne_iff_ne.2 h1),if_neg fun h=>h1 h.1];rfl
theorem xSm(b:Bs)(w n:Int):yZO b w [n]=if yHP n w=true then(b++leBytes w.toNat n.toNat,0) else([],2):=by
 unfold yZO xKb
 by_cases h:yHP n w=true
 ·have hf:=of_decide_eq_true h
  rw[if_pos h,if_pos ⟨⟨hf.1,hf.2.1⟩,by simpa using h⟩]
  simp[yI2]
 ·rw[if_neg h,if_neg fun q=>h (by simpa using q.2)]
theorem xKK(a b:ByteArray):(a++b).data.toList=a.data.toList++b.data.toList:=by simp
theorem mk_data(b:Bs):(mkS b).data.toList=b:=rfl
theorem yXj(b:Bs):(mkS b).size=b.length:=by rw[←yAy,mk_data]
theorem xDM{ws l:List Int}{i:Nat}{b:Bs}(hw:i<ws.length)(hl:i<l.length)(h:fieldsB [] (ws.take i) (l.take i)=some b):
  fieldsB [] (ws.take (i+1)) (l.take (i+1))=if yHP l[i] ws[i]=true/\(b++leBytes ws[i].toNat l[i].toNat).length<=505 then some (b++leBytes ws[i].toNat l[i].toNat) else none:=by
 rw[List.take_succ_eq_append_getElem hw,List.take_succ_eq_append_getElem hl,xGV _ _ _ _ _ (by simp;omega),h]
 rfl
theorem yRe{ws l:List Int}{i:Nat}(hlen:ws.length=l.length)(h:fieldsB [] (ws.take i) (l.take i)=none):fieldsB [] ws l=none:=by
 have:=xGU [] (ws.take i) (l.take i) (ws.drop i) (l.drop i) (by simp[hlen]) h
 rwa [List.take_append_drop,List.take_append_drop] at this
theorem xNK{L:Nat}{k:Int}{rest:ByteArray}{ws l:List Int}(hk:k<=127)(hL:l.length<L)(hl:l.length<=1000000)(hr:rest.size<=1000000):
  yNU L k rest (ws.map inV) (l.map inV)=some (mkS (yH3 k rest.data.toList ws l).1,(yH3 k rest.data.toList ws l).2,()):=by
 unfold yNU yVo yH3
 rw[List.length_map,List.length_map]
 by_cases hlen:¬ws.length=l.length
 ·rw[yAO (bne_iff_ne.2 (by omega)),xAe _ _ _ hlen];rfl
 replace hlen:ws.length=l.length:=Decidable.not_not.1 hlen
 rw[yAF (by rw[hlen];exact bne_self_eq_false _)]
 have hrun:=yQz (α:=ByteArray×Int×Unit) (F:=yF6 (yHY L)) (fun q=>∃(i:Nat) (b:Bs),i<=l.length/\fieldsB [] (ws.take i) (l.take i)=some b/\q=(rest,ws.map inV,(b.map byV,0,k,()),l.map inV,(l.length:Int),(i:Int),())) (fun q=>l.length-q.2.2.2.2.2.1.toNat)
  (fun a=>∃b,fieldsB [] ws l=some b/\a=(rest,(b.map byV,0,k,()),())) (fun a=>fieldsB [] ws l=none/\a=(noS,2,()))
  (fun q hq=>by
    obtain⟨i,b,hi,hf,rfl⟩:=hq
    have hbl:=yMX _ _ _ _ hf (by simp)
    by_cases hlt:i<l.length
    ·have hstep:=xDM (by omega) hlt hf
     have hp:yHY L (b.map byV) ws[i] ([[V.int .i64 l[i]]])=some ((yZO b ws[i] [l[i]]).1.map byV,(yZO b ws[i] [l[i]]).2,()):=xEO (l:= [l[i]]) _ (by simp;omega)
     rw[xSm] at hp
     have pre:∀kn ka kb,yF6 (yHY L) (rest,ws.map inV,(b.map byV,0,k,()),l.map inV,(l.length:Int),(i:Int),()) kn ka kb=(yAB (yHY L (b.map byV) ws[i] ([[V.int .i64 l[i]]])) fun r1=>
       bif r1.2.1 !=0 then kb (noS,2,()) else bif(0:Int) !=0 then kb (noS,2,()) else bif decide (505<(r1.1.length:Int)) then kb (noS,2,()) else
       gW r1.1 r1.1.length<|kn (rest,ws.map inV,(r1.1,0,k,()),l.map inV,(l.length:Int),w64 ((i:Int)+1),()):Option (ByteArray×Int×Unit)):=fun kn ka kb=>by
      unfold yF6
      dsimp only
      rw[yAO (decide_eq_true (by omega)),yS0 (by omega) (by omega),yS0 (by omega) (by omega),yU0 (by rw[List.length_map];omega) (by rw[List.length_map];omega) (yRp _),yOl _ rfl,Int.toNat_natCast,yV3 hlt,yV3 (by omega)]
     by_cases hfit:yHP l[i] ws[i]=true
     ·rw[if_pos hfit] at hp
      by_cases h5:(b++leBytes ws[i].toNat l[i].toNat).length<=505
      ·rw[if_pos ⟨hfit,h5⟩] at hstep
       refine .inl ⟨_,⟨i+1,_,hlt,hstep,rfl⟩,by dsimp only;omega,fun kn ka kb=>?_⟩
       rw[pre,hp,yAA]
       dsimp only
       rw[show((0:Int) !=0)=false from rfl,cond_false,cond_false,yAF (decide_eq_false (by rw[List.length_map];omega)),yHo rfl (yRp _),yAh (by omega) (by omega)]
       rfl
      ·rw[if_neg fun h=>h5 h.2] at hstep
       refine .inr (.inr ⟨_,⟨yRe hlen hstep,rfl⟩,fun kn ka kb=>?_⟩)
       rw[pre,hp,yAA]
       dsimp only
       rw[show((0:Int) !=0)=false from rfl,cond_false,cond_false,yAO (decide_eq_true (by rw[List.length_map];omega))]
     ·rw[if_neg hfit] at hp
      rw[if_neg fun h=>hfit h.1] at hstep
      refine .inr (.inr ⟨_,⟨yRe hlen hstep,rfl⟩,fun kn ka kb=>?_⟩)
      rw[pre,hp,yAA]
      rfl
    ·obtain rfl:i=l.length:=by omega
     refine .inr (.inl ⟨_,⟨b,by rw[List.take_length,←hlen,List.take_length] at hf;exact hf,rfl⟩,fun kn ka kb=>?_⟩)
     unfold yF6
     dsimp only
     rw[yAF (decide_eq_false (by omega)),yHo rfl (yRp _)])
  L (rest,ws.map inV,([],0,k,()),l.map inV,(l.length:Int),0,()) ⟨0,[],Nat.zero_le _,rfl,rfl⟩ (by dsimp only;omega)
 rcases hrun with ⟨a,⟨b,hb,rfl⟩,hrun⟩ | ⟨a,⟨hb,rfl⟩,hrun⟩
 ·have hbl:=yMX _ _ _ _ hb (by simp)
  rw[hrun,hb]
  dsimp only
  rw[yCJ (by rw[Nat.zero_add];exact Nat.ble_eq_true_of_le (Nat.le_refl _)),yOl _ rfl,yCJ (yQr _),yO0,yXj,yCJ (decide_eq_true (by omega)),yHo rfl (yRp _)]
  obtain⟨y,hy⟩:=xIH (L:=L) (k:=k) (rows:=b.map byV) (s:=mkS b++rest) hk (yRp _)
  rw[hy,yAA,xKK,mk_data]
 ·rw[hrun,hb];rfl
theorem yZ7{L:Nat}{k:Int}{rest:ByteArray}{ws l:List Int}(hk:k<=127)(hL:l.length<L)(hL2:1000<L)(hl:l.length<=1000000)(hr:rest.size<=1000000):
  yD8 L k rest (ws.map inV) (l.map inV)=some (mkS (yH3 k rest.data.toList ws l).1,(yH3 k rest.data.toList ws l).2,()):=by
 unfold yD8 yTg yH3
 rw[List.length_map,List.length_map]
 by_cases hlen:¬ws.length=l.length
 ·rw[yAO (bne_iff_ne.2 (by omega)),xAe _ _ _ hlen];rfl
 replace hlen:ws.length=l.length:=Decidable.not_not.1 hlen
 rw[yAF (by rw[hlen];exact bne_self_eq_false _)]
 have hrun:=yQz (α:=ByteArray×Int×Unit) (F:=yER (yCh L)) (fun q=>∃(i:Nat) (b:Bs),i<=l.length/\fieldsB [] (ws.take i) (l.take i)=some b/\q=(k,rest,ws.map inV,l.map inV,b.map byV,(i:Int),())) (fun q=>l.length-q.2.2.2.2.2.1.toNat)
  (fun a=>∃b,fieldsB [] ws l=some b/\a=(k,rest,b.map byV,())) (fun a=>fieldsB [] ws l=none/\a=(noS,2,()))
  (fun q hq=>by
    obtain⟨i,b,hi,hf,rfl⟩:=hq
    have hbl:=yMX _ _ _ _ hf (by simp)
    by_cases hlt:i<l.length
    ·have hstep:=xDM (by omega) hlt hf
     have hp:yCh L (b.map byV) ws[i] ([[V.int .i64 l[i]]])=some ((yZO b ws[i] [l[i]]).1.map byV,(yZO b ws[i] [l[i]]).2,()):=xJM (l:= [l[i]]) (by omega) _ (by simp;omega) (by simp;omega)
     rw[xSm] at hp
     have pre:∀kn ka kb,yER (yCh L) (k,rest,ws.map inV,l.map inV,b.map byV,(i:Int),()) kn ka kb=(yAB (yCh L (b.map byV) ws[i] ([[V.int .i64 l[i]]])) fun r1=>
       bif r1.2.1 !=0 then kb (noS,2,()) else bif decide (505<(r1.1.length:Int)) then kb (noS,2,()) else
       gF r1.1 (0+r1.1.length)<|kn (k,rest,ws.map inV,l.map inV,r1.1.take r1.1.length,w64 ((i:Int)+1),()):Option (ByteArray×Int×Unit)):=fun kn ka kb=>by
      unfold yER
      dsimp only
      rw[yAO (decide_eq_true (by rw[List.length_map];omega)),yS0 (by omega) (by omega),yS0 (by omega) (by omega),Int.toNat_natCast,yV3 hlt,yV3 (by omega)]
     by_cases hfit:yHP l[i] ws[i]=true
     ·rw[if_pos hfit] at hp
      by_cases h5:(b++leBytes ws[i].toNat l[i].toNat).length<=505
      ·rw[if_pos ⟨hfit,h5⟩] at hstep
       refine .inl ⟨_,⟨i+1,_,hlt,hstep,rfl⟩,by dsimp only;omega,fun kn ka kb=>?_⟩
       rw[pre,hp,yAA]
       dsimp only
       rw[show((0:Int) !=0)=false from rfl,cond_false,yAF (decide_eq_false (by rw[List.length_map];omega)),yU0 (by omega) (by rw[List.length_map];omega) (yRp _),yOl _ rfl,yAh (by omega) (by omega)]
       rfl
      ·rw[if_neg fun h=>h5 h.2] at hstep
       refine .inr (.inr ⟨_,⟨yRe hlen hstep,rfl⟩,fun kn ka kb=>?_⟩)
       rw[pre,hp,yAA]
       dsimp only
       rw[show((0:Int) !=0)=false from rfl,cond_false,yAO (decide_eq_true (by rw[List.length_map];omega))]
     ·rw[if_neg hfit] at hp
      rw[if_neg fun h=>hfit h.1] at hstep
      refine .inr (.inr ⟨_,⟨yRe hlen hstep,rfl⟩,fun kn ka kb=>?_⟩)
      rw[pre,hp,yAA]
      rfl
    ·obtain rfl:i=l.length:=by omega
     refine .inr (.inl ⟨_,⟨b,by rw[List.take_length,←hlen,List.take_length] at hf;exact hf,rfl⟩,fun kn ka kb=>?_⟩)
     unfold yER
     dsimp only
     rw[yAF (decide_eq_false (by rw[List.length_map];omega))])
  L (k,rest,ws.map inV,l.map inV,[],0,()) ⟨0,[],Nat.zero_le _,rfl,rfl⟩ (by dsimp only;omega)
 rcases hrun with ⟨a,⟨b,hb,rfl⟩,hrun⟩ | ⟨a,⟨hb,rfl⟩,hrun⟩
 ·have hbl:=yMX _ _ _ _ hb (by simp)
  rw[hrun,hb]
  dsimp only
  rw[yCJ (yQr _),yO0,yXj,yCJ (decide_eq_true (by omega)),xEb hL2 hk,yAA,xKK,mk_data]
 ·rw[hrun,hb];rfl
theorem xKs{s:Bs}{ws:List Int}{i:Nat}{r:List Int×Bs}(hw:i<ws.length)(h:takeF s (ws.take i)=some r):
  takeF s (ws.take (i+1))=if(yQN r.2 0 ws[i]).2=0 then some (r.1++ [(yQN r.2 0 ws[i]).1],r.2.drop ws[i].toNat) else none:=by
 rw[List.take_succ_eq_append_getElem hw,xL7,h]
 rfl
theorem xIQ{s:Bs}{ws:List Int}{i:Nat}(h:takeF s (ws.take i)=none):takeF s ws=none:=by
 have:=xL6 s (ws.take i) (ws.drop i) h
 rwa [List.take_append_drop] at this
theorem yRd(s:ByteArray)(k:Nat):s.extract k s.size=mkS (s.data.toList.drop k):=by
 rw[extract_mk]
 congr 1
 exact List.take_of_length_le (by rw[List.length_drop,yAy];omega)
theorem xJD(k:Int)(s:Bs):(ofR k s).2=0\/ofR k s=([],30):=by
 unfold ofR
 split
 ·exact .inl rfl
 ·exact .inr rfl
theorem xPJ(s:Bs):(yFF s).2.1.length<=s.length:=by
 unfold yFF
 split
 ·simp only[List.length_take,List.length_drop];omega
 ·exact Nat.zero_le _
theorem xQT(k:Int)(s:Bs):(ofR k s).1.length<=s.length:=by
 unfold ofR
 split
 ·exact xPJ s
 ·exact Nat.zero_le _
theorem xAf{L:Nat}(hL:10<L){s:ByteArray}{ws:List Int}(hs:s.size<=1000000000)(hw:ws.length<L)(hw2:ws.length<=1000000)(k:Int):
  yDQ L k s (ws.map inV)=some ((fieldsR k s.data.toList ws).1.map inV,mkS (fieldsR k s.data.toList ws).2.1,(fieldsR k s.data.toList ws).2.2,()):=by
 have hol:=xQT k s.data.toList
 rw[yAy] at hol
 unfold yDQ ySh fieldsR
 rw[of_eq hL hs,yAA,List.length_map]
 rcases xJD k s.data.toList with h0 | h0
 ·rw[if_pos h0,h0]
  generalize (ofR k s.data.toList).1=load at*
  have hrun:=yQz (α:=List (List V)×ByteArray×Int×Unit) (F:=yCI (yCC L)) (fun q=>∃(i:Nat) (r:List Int×Bs),i<=ws.length/\takeF load (ws.take i)=some r/\q=(r.1.map inV,mkS r.2,0,ws.map inV,(ws.length:Int),(i:Int),())) (fun q=>ws.length-q.2.2.2.2.2.1.toNat)
   (fun a=>∃r,takeF load ws=some r/\a=(r.1.map inV,mkS r.2,0,())) (fun a=>takeF load ws=none/\a=([],noS,30,()))
   (fun q hq=>by
     obtain⟨i,r,hi,hf,rfl⟩:=hq
     have hrl:=xFp _ _ _ hf
     rw[List.length_take,Nat.min_eq_left hi] at hrl
     by_cases hlt:i<ws.length
     ·have hstep:=xKs hlt hf
      have pre:∀kn ka kb,yCI (yCC L) (r.1.map inV,mkS r.2,0,ws.map inV,(ws.length:Int),(i:Int),()) kn ka kb=(bif(yQN r.2 0 ws[i]).2 !=0 then kb ([],noS,30,()) else
        gd (decide (0<=ws[i]))<|gd (decide (ws[i]<=(r.2.length:Int)))<|kn ((r.1++ [(yQN r.2 0 ws[i]).1]).map inV,mkS (r.2.drop ws[i].toNat),0,ws.map inV,(ws.length:Int),((i+1:Nat):Int),()):Option (List (List V)×ByteArray×Int×Unit)):=fun kn ka kb=>by
       have e:r.1.map inV++([[V.int .i64 (yQN r.2 0 ws[i]).1]])=(r.1++ [(yQN r.2 0 ws[i]).1]).map inV:=by rw[List.map_append];rfl
       unfold yCI
       dsimp only
       rw[yAO (decide_eq_true (by omega)),yS0 (by omega) (by omega),show((0:Int) !=0)=false from rfl,cond_false,Int.toNat_natCast,yV3 hlt,yUW hL (by rw[yXj];omega),yAA,mk_data,e,yCJ (by rw[Nat.zero_add];exact Nat.beq_refl _),xIZ (by rw[List.length_map];omega) (by rw[List.length_map];omega),yHo (by simp) (yLd _),yRd,mk_data,yXj,yAh (by omega) (by omega)]
       rfl
      by_cases hg:(yQN r.2 0 ws[i]).2=0
      ·rw[if_pos hg] at hstep
       have hz:=xGc hg
       refine .inl ⟨_,⟨i+1,_,hlt,hstep,rfl⟩,by dsimp only;omega,fun kn ka kb=>?_⟩
       rw[pre,yAF (by rw[hg];rfl),yCJ (decide_eq_true (by omega)),yCJ (decide_eq_true (by omega))]
      ·rw[if_neg hg] at hstep
       refine .inr (.inr ⟨_,⟨xIQ hstep,rfl⟩,fun kn ka kb=>?_⟩)
       rw[pre,yAO (bne_iff_ne.2 hg)]
     ·obtain rfl:i=ws.length:=by omega
      refine .inr (.inl ⟨_,⟨r,by rwa [List.take_length] at hf,rfl⟩,fun kn ka kb=>?_⟩)
      unfold yCI
      dsimp only
      rw[yAF (decide_eq_false (by omega)),yHo rfl (yLd _)])
   L ([],mkS load,0,ws.map inV,(ws.length:Int),0,()) ⟨0,([],load),Nat.zero_le _,rfl,rfl⟩ (by dsimp only;omega)
  rcases hrun with ⟨a,⟨r,hr,rfl⟩,hrun⟩ | ⟨a,⟨hr,rfl⟩,hrun⟩
  ·rw[hrun,hr]
   dsimp only
   rw[show((0:Int) !=0)=false from rfl,cond_false,yHo rfl (yLd _)]
  ·rw[hrun,hr]
   dsimp only
   rw[yHo rfl rfl]
   rfl
 ·rw[h0,if_neg (by simp)]
  obtain⟨M,rfl⟩:∃M,L=M+1:=⟨L-1,by omega⟩
  have F:∀(s:yGO) (ka:yJm->Option (List (List V)×ByteArray×Int×Unit)) kb,yAf (yCI (yCC (M+1))) (M+1) s ka kb=yCI (yCC (M+1)) s (fun s'=>yAf (yCI (yCC (M+1))) M s' ka kb) ka kb:=fun _ _ _=>rfl
  rw[F]
  unfold yCI
  dsimp only
  by_cases h:(0:Int)<(ws.length:Int)
  ·rw[yAO (decide_eq_true h),yS0 (by omega) (by omega),show((30:Int) !=0)=true from rfl,cond_true,yHo rfl rfl];rfl
  ·rw[yAF (decide_eq_false h),yHo rfl rfl];rfl
theorem xQ8{l:Bs}{a w:Int}(h0:0<=a)(h1:a<=l.length):yQN l a w=yQN (l.drop a.toNat) 0 w:=by
 unfold yQN
 rw[List.length_drop]
 by_cases hw:1<=w/\w<=6
 ·rw[if_pos hw,if_pos hw]
  by_cases h:a+w<=l.length
  ·rw[if_pos (show 0<=a/\a+w<=(l.length:Int) from⟨h0,h⟩),if_pos (show(0:Int)<=0/\0+w<=((l.length-a.toNat:Nat):Int) from⟨by omega,by omega⟩)];rfl
  ·rw[if_neg (show ¬(0<=a/\a+w<=(l.length:Int)) from fun q=>h q.2),if_neg (show ¬((0:Int)<=0/\0+w<=((l.length-a.toNat:Nat):Int)) from fun q=>h (by omega))]
 ·rw[if_neg hw,if_neg hw]
theorem yXl{L:Nat}(hL:1000<L){s:ByteArray}{ws:List Int}(hs:s.size<=1000000000)(hw:ws.length<L)(hw2:ws.length<=1000000)(k:Int):
  yCt L k s (ws.map inV)=some ((fieldsR k s.data.toList ws).1.map inV,mkS (fieldsR k s.data.toList ws).2.1,(fieldsR k s.data.toList ws).2.2,()):=by
 have hol:=xQT k s.data.toList
 rw[yAy] at hol
 unfold yCt yQZ fieldsR
 rw[xQY hL,yAA]
 dsimp only
 rcases xJD k s.data.toList with h0 | h0
 ·rw[if_pos h0,h0,show((0:Int) !=0)=false from rfl,cond_false]
  generalize (ofR k s.data.toList).1=load at*
  have hrun:=yQz (α:=List (List V)×ByteArray×Int×Unit) (F:=yDE (yBj L)) (fun q=>∃(i a:Nat) (r:List Int×Bs),i<=ws.length/\a<=load.length/\r.2=load.drop a/\takeF load (ws.take i)=some r/\q=(ws.map inV,mkS load,r.1.map inV,(a:Int),(i:Int),())) (fun q=>ws.length-q.2.2.2.2.1.toNat)
   (fun z=>∃(a:Nat) (r:List Int×Bs),a<=load.length/\r.2=load.drop a/\takeF load ws=some r/\z=(mkS load,r.1.map inV,(a:Int),())) (fun a=>takeF load ws=none/\a=([],noS,30,()))
   (fun q hq=>by
     obtain⟨i,a,r,hi,ha,hra,hf,rfl⟩:=hq
     have hrl:=xFp _ _ _ hf
     rw[List.length_take,Nat.min_eq_left hi] at hrl
     by_cases hlt:i<ws.length
     ·have hstep:=xKs hlt hf
      have pre:∀kn ka kb,yDE (yBj L) (ws.map inV,mkS load,r.1.map inV,(a:Int),(i:Int),()) kn ka kb=(bif(yQN r.2 0 ws[i]).2 !=0 then kb ([],noS,30,()) else
        kn (ws.map inV,mkS load,(r.1++ [(yQN r.2 0 ws[i]).1]).map inV,w64 ((a:Int)+ws[i]),((i+1:Nat):Int),()):Option (List (List V)×ByteArray×Int×Unit)):=fun kn ka kb=>by
       have e:r.1.map inV++([[V.int .i64 (yQN r.2 0 ws[i]).1]])=(r.1++ [(yQN r.2 0 ws[i]).1]).map inV:=by rw[List.map_append];rfl
       have eg:yQN load (a:Int) ws[i]=yQN r.2 0 ws[i]:=by rw[xQ8 (by omega) (by omega),Int.toNat_natCast,hra]
       unfold yDE
       dsimp only
       rw[yAO (decide_eq_true (by rw[List.length_map];omega)),yS0 (by omega) (by omega),Int.toNat_natCast,yV3 hlt,xNj (by omega) (by rw[yXj];omega),yAA,mk_data,eg,e,yCJ (by rw[Nat.zero_add];exact Nat.beq_refl _),xIZ (by rw[List.length_map];omega) (by rw[List.length_map];omega),yS0 (by omega) (by omega),yHo (by simp) (yLd _),yAh (n:=(i:Int)+1) (by omega) (by omega)]
       rfl
      by_cases hg:(yQN r.2 0 ws[i]).2=0
      ·rw[if_pos hg] at hstep
       have hz:=xGc hg
       obtain⟨v,hv⟩:=Int.eq_ofNat_of_zero_le (show 0<=ws[i] by omega)
       have hdl:r.2.length=load.length-a:=by rw[hra,List.length_drop]
       refine .inl ⟨_,⟨i+1,a+v,_,hlt,by omega,by dsimp only;rw[hra,List.drop_drop,hv];rfl,hstep,rfl⟩,by dsimp only;omega,fun kn ka kb=>?_⟩
       rw[pre,yAF (by rw[hg];rfl),hv,yAh (by omega) (by omega)]
       rfl
      ·rw[if_neg hg] at hstep
       refine .inr (.inr ⟨_,⟨xIQ hstep,rfl⟩,fun kn ka kb=>?_⟩)
       rw[pre,yAO (bne_iff_ne.2 hg)]
     ·obtain rfl:i=ws.length:=by omega
      refine .inr (.inl ⟨_,⟨a,r,ha,hra,by rwa [List.take_length] at hf,rfl⟩,fun kn ka kb=>?_⟩)
      unfold yDE
      dsimp only
      rw[yAF (decide_eq_false (by rw[List.length_map];omega)),yHo rfl (yLd _)])
   L (ws.map inV,mkS load,[],0,0,()) ⟨0,0,([],load),Nat.zero_le _,Nat.zero_le _,rfl,rfl,rfl⟩ (by dsimp only;omega)
  rcases hrun with ⟨z,⟨a,r,ha,hra,hr,rfl⟩,hrun⟩ | ⟨z,⟨hr,rfl⟩,hrun⟩
  ·rw[hrun,hr]
   dsimp only
   rw[yCJ (decide_eq_true (by omega)),yCJ (decide_eq_true (by rw[yXj];omega)),yHo rfl (yLd _),yRd,mk_data,Int.toNat_natCast,hra]
  ·rw[hrun,hr]
   dsimp only
   rw[yHo rfl rfl]
   rfl
 ·rw[h0,if_neg (by simp)];rfl
def srt:List Int->Bool
 | a::b::l=>decide (a<=b)&&srt (b::l)
 | _=>true
theorem xIW{α:Type}{l:List Int}(hl:l.length<=1000){ka:Unit->Option α}{kb:Bool×Unit->Option α}:∀(m i:Nat),i+1<=l.length->l.length<m+i+1->yAf yEI m (l.map inV,((i+1:Nat):Int),()) ka kb=if srt (l.drop i)=true then ka () else kb (false,())
 | 0,i,h1,h2=>by omega
 | m+1,i,h1,h2=>by
   show yEI (l.map inV,((i+1:Nat):Int),()) (fun s'=>yAf yEI m s' ka kb) ka kb=_
   unfold yEI
   dsimp only
   by_cases hlt:i+1<l.length
   ·rw[yAO (decide_eq_true (by rw[List.length_map];omega)),show((i+1:Nat):Int)-1=i by omega,yAh (n:=(i:Int)) (by omega) (by omega),yS0 (by omega) (by omega),yS0 (by omega) (by omega),Int.toNat_natCast,Int.toNat_natCast,yV3 hlt,yV3 (by omega),yAh (by omega) (by omega)]
    have e:l.drop i=l[i]::l[i+1]::l.drop (i+2):=by rw[List.drop_eq_getElem_cons (by omega),List.drop_eq_getElem_cons hlt]
    by_cases hc:l[i+1]<l[i]
    ·rw[yAO (decide_eq_true hc),e,if_neg]
     show ¬(decide (l[i]<=l[i+1])&&_)=true
     rw[decide_eq_false (by omega)]
     simp
    ·rw[yAF (decide_eq_false hc),show((i+1:Nat):Int)+1=((i+1+1:Nat):Int) by omega,xIW hl m (i+1) (by omega) (by omega),e]
     have:srt (l[i]::l[i+1]::l.drop (i+2))=srt (l.drop (i+1)):=by
      rw[List.drop_eq_getElem_cons hlt]
      show(decide (l[i]<=l[i+1])&&_)=_
      rw[decide_eq_true (by omega),Bool.true_and]
     rw[this]
   ·have e:l.drop i= [l[i]]:=by rw[List.drop_eq_getElem_cons (by omega),List.drop_eq_nil_of_le (by omega)]
    rw[yAF (decide_eq_false (by rw[List.length_map];omega)),e]
    rfl
theorem xOc{L:Nat}{l:List Int}(h0:1<=l.length)(hl:l.length<=1000)(hL:l.length<L):yJ9 L (l.map inV)=some (srt l):=by
 unfold yJ9 yTN
 have:=xIW (α:=Bool) hl (ka:=fun q1=>some true) (kb:=fun q2=>some q2.1) L 0 (by omega) (by omega)
 refine this.trans ?_
 rw[List.drop_zero]
 cases srt l <;> rfl
theorem yXY{L:Nat}(hL:10<L){x:yAJ}(hw:xLS x.Wait=true):yFD L x=some (yAq x).may:=by
 obtain⟨w1,w2⟩:=xSQ hw
 have W:∀l:List Int,1<=l.length->l.length<=10->yJ9 L (l.map inV)=some (srt l):=fun l h1 h2=>xOc h1 (by omega) (by omega)
 have W3:∀a b c:Int,yJ9 L ([[V.int .i64 a],[V.int .i64 b],[V.int .i64 c]])=some (decide (a<=b/\b<=c)):=fun a b c=>(W [a,b,c] (by simp) (by simp)).trans (by simp[srt])
 have W4:∀a b c d:Int,yJ9 L ([[V.int .i64 a],[V.int .i64 b],[V.int .i64 c],[V.int .i64 d]])=some (decide (a<=b/\b<=c/\c<=d)):=fun a b c d=>(W [a,b,c,d] (by simp) (by simp)).trans (by simp[srt])
 have no:∀{p:Prop},((yAq x).OK->p)->¬p->(yAq x).may=false:=fun h hp=>by
  cases hm:(yAq x).may with
  | false=>rfl
  | true=>exact absurd (h (Geo.may_ok hm)) hp
 unfold yFD xAl
 rw[W4,yAA]
 by_cases h1:¬(1<=x.Slots/\x.Slots<=x.Nodes/\x.Nodes<=16)
 ·rw[decide_eq_false h1,no (fun h=>⟨h.s1,h.s2,h.n2⟩) h1];rfl
 replace h1:=Decidable.not_not.1 h1
 rw[decide_eq_true h1,cond_true,W3,yAA]
 by_cases h2:¬(1<=x.Blocks/\x.Blocks<=64)
 ·rw[decide_eq_false h2,no (fun h=>⟨h.b1,h.b2⟩) h2];rfl
 replace h2:=Decidable.not_not.1 h2
 rw[decide_eq_true h2,cond_true,W3,yAA]
 by_cases h3:¬(1<=x.Per/\x.Per<=8)
 ·rw[decide_eq_false h3,no (fun h=>⟨h.p1,h.p2⟩) h3];rfl
 replace h3:=Decidable.not_not.1 h3
 rw[decide_eq_true h3,cond_true,yAh (n:=x.Per+2) (by omega) (by omega),W3,yAA]
 by_cases h4:¬(x.Per+2<=x.Journal/\x.Journal<=64)
 ·rw[decide_eq_false h4,no (fun h=>⟨h.j1,h.j2⟩) h4];rfl
 replace h4:=Decidable.not_not.1 h4
 rw[decide_eq_true h4,cond_true,yAh (n:=8*x.Slots) (by omega) (by omega),W3,yAA]
 by_cases h5:¬(8*x.Slots<=x.Log/\x.Log<=512)
 ·rw[decide_eq_false h5,no (fun h=>⟨h.l1,h.l2⟩) h5];rfl
 replace h5:=Decidable.not_not.1 h5
 rw[decide_eq_true h5,cond_true,W4,yAA]
 congr 1
 by_cases hmin:x.Wait= -9223372036854775808
 ·rw[no (p:=1<=x.Wait) (fun h=>by have h1:1<=x.Lease:=h.e1;have h2:x.Lease<x.Wait:=h.e2;omega) (by omega),hmin]
  exact decide_eq_false fun q=>by
   have:w64 (-9223372036854775808-1)=9223372036854775807:=by decide
   omega
 ·rw[yAh (n:=x.Wait-1) (by omega) (by omega)]
  show decide _=decide _
  refine decide_eq_decide.2 ⟨fun h=>?_,fun h=>?_⟩
  ·show 1<=x.Nodes/\x.Nodes<=16/\1<=x.Slots/\x.Slots<=x.Nodes/\1<=x.Blocks/\x.Blocks<=64/\1<=x.Per/\x.Per<=8/\x.Per+2<=x.Journal/\x.Journal<=64/\8*x.Slots<=x.Log/\x.Log<=512/\1<=x.Lease/\x.Lease<x.Wait/\x.Wait<=1048576
   omega
  ·obtain⟨_,_,_,_,_,_,_,_,_,_,_,_,q1,q2,q3⟩:=h
   replace q1:1<=x.Lease:=q1
   replace q2:x.Lease<x.Wait:=q2
   replace q3:x.Wait<=1048576:=q3
   omega
theorem yY9{L:Nat}(n a b:Int):yGE L n a b=some (decide (a<=n/\n<=b)):=by
 unfold yGE yXq
 by_cases h1:a<=n
 ·rw[yAO (decide_eq_true h1)]
  congr 1
  exact decide_eq_decide.2 ⟨fun h=>⟨h1,h⟩,fun h=>h.2⟩
 ·rw[yAF (decide_eq_false h1),decide_eq_false fun h=>h1 h.1]
theorem yLq{L:Nat}(x:yAJ):yBV L x=some (yAq x).may:=by
 have no:∀{p:Prop},((yAq x).OK->p)->¬p->(yAq x).may=false:=fun h hp=>by
  cases hm:(yAq x).may with
  | false=>rfl
  | true=>exact absurd (h (Geo.may_ok hm)) hp
 unfold yBV yVc
 rw[yY9,yAA]
 by_cases h1:¬(1<=x.Nodes/\x.Nodes<=16)
 ·rw[decide_eq_false h1,no (fun h=>⟨h.n1,h.n2⟩) h1];rfl
 replace h1:=Decidable.not_not.1 h1
 rw[decide_eq_true h1,cond_true,yY9,yAA]
 by_cases h0:¬(1<=x.Slots/\x.Slots<=x.Nodes)
 ·rw[decide_eq_false h0,no (fun h=>⟨h.s1,h.s2⟩) h0];rfl
 replace h0:=Decidable.not_not.1 h0
 rw[decide_eq_true h0,cond_true,yY9,yAA]
 by_cases h2:¬(1<=x.Blocks/\x.Blocks<=64)
 ·rw[decide_eq_false h2,no (fun h=>⟨h.b1,h.b2⟩) h2];rfl
 replace h2:=Decidable.not_not.1 h2
 rw[decide_eq_true h2,cond_true,yY9,yAA]
 by_cases h3:¬(1<=x.Per/\x.Per<=8)
 ·rw[decide_eq_false h3,no (fun h=>⟨h.p1,h.p2⟩) h3];rfl
 replace h3:=Decidable.not_not.1 h3
 rw[decide_eq_true h3,cond_true,yAh (n:=x.Per+2) (by omega) (by omega),yY9,yAA]
 by_cases h4:¬(x.Per+2<=x.Journal/\x.Journal<=64)
 ·rw[decide_eq_false h4,no (fun h=>⟨h.j1,h.j2⟩) h4];rfl
 replace h4:=Decidable.not_not.1 h4
 rw[decide_eq_true h4,cond_true,yAh (n:=8*x.Slots) (by omega) (by omega),yY9,yAA]
 by_cases h5:¬(8*x.Slots<=x.Log/\x.Log<=512)
 ·rw[decide_eq_false h5,no (fun h=>⟨h.l1,h.l2⟩) h5];rfl
 replace h5:=Decidable.not_not.1 h5
 rw[decide_eq_true h5,cond_true]
 by_cases h6:1<=x.Lease
 ·rw[yAO (decide_eq_true h6)]
  by_cases h7:x.Lease<x.Wait
  ·rw[yAO (decide_eq_true h7)]
   congr 1
   show decide _=decide _
   refine decide_eq_decide.2 ⟨fun h=>?_,fun h=>h.2.2.2.2.2.2.2.2.2.2.2.2.2.2⟩
   show 1<=x.Nodes/\x.Nodes<=16/\1<=x.Slots/\x.Slots<=x.Nodes/\1<=x.Blocks/\x.Blocks<=64/\1<=x.Per/\x.Per<=8/\x.Per+2<=x.Journal/\x.Journal<=64/\8*x.Slots<=x.Log/\x.Log<=512/\1<=x.Lease/\x.Lease<x.Wait/\x.Wait<=1048576
   omega
  ·rw[yAF (decide_eq_false h7),no (fun h=>h.e2) h7]
 ·rw[yAF (decide_eq_false h6),no (fun h=>h.e1) h6]
theorem find_go{α:Type}{k:Int}{z:yAK}{rs:List yAK}(hl:rs.length<=1000){ka:yAK×Unit->Option α}{kb:yAK×Unit->Option α}:∀(m i:Nat),i<=rs.length->rs.length<m+i->yAf yHQ m (k,z,rs.map yAK.cs,(rs.length:Int),(i:Int),()) ka kb=match (rs.drop i).find? (fun r=>r.kind_==k) with
  | some r=>kb (r,())
  | none=>ka (z,())
 | 0,i,h1,h2=>by omega
 | m+1,i,h1,h2=>by
   show yHQ (k,z,rs.map yAK.cs,(rs.length:Int),(i:Int),()) (fun s'=>yAf yHQ m s' ka kb) ka kb=_
   unfold yHQ
   dsimp only
   by_cases hlt:i<rs.length
   ·have hc:∀j,cell (rs.map yAK.cs) i j=cell [yAK.cs rs[i]] 0 j:=fun j=>yW2 hlt
    rw[yAO (decide_eq_true (by omega)),xQ7 (by omega) (by rw[List.length_map];omega) (xFb _ (fun _=>rfl) (by omega)),Int.toNat_natCast,List.drop_eq_getElem_cons hlt]
    simp only[aI,hc,List.find?_cons]
    show(bif rs[i].kind_==k then kb (rs[i],()) else _)=_
    cases hk:rs[i].kind_==k with
    | true=>rfl
    | false=>
      rw[cond_false,yAh (by omega) (by omega)]
      exact find_go hl m (i+1) (by omega) (by omega)
   ·rw[yAF (decide_eq_false (by omega)),List.drop_eq_nil_of_le (by omega)]
    rfl
theorem find_eq{L:Nat}(hL:10<L){x:yAJ}{k:Int}{rs:List yAK}(hl:rs.length<=6)(h:yLn L x=some (rs.map yAK.cs)):yWL L x k=some ((rs.find? fun r=>r.kind_==k).getD ⟨yAs.z,0,1⟩):=by
 unfold yWL yXb
 rw[h,yAA,List.length_map]
 have:=find_go (α:=yAK) (k:=k) (z:=yAK.z) (rs:=rs) (by omega) (ka:=fun q2=>some ⟨yAs.z,0,1⟩) (kb:=fun q3=>some q3.1) L 0 (Nat.zero_le _) (by omega)
 rw[List.drop_zero] at this
 refine this.trans ?_
 cases rs.find? fun r=>r.kind_==k <;> rfl
def xS1(x:yAJ):List yAK:= [⟨⟨0,1⟩,1,1⟩,⟨⟨1,x.Nodes⟩,2,1⟩,⟨⟨1+x.Nodes,x.Nodes⟩,3,1⟩,⟨⟨1+2*x.Nodes,x.Log⟩,4,1⟩,⟨⟨1+2*x.Nodes+x.Log,x.Slots*(1+x.Journal)⟩,6,1+x.Journal⟩,⟨⟨1+2*x.Nodes+x.Log+x.Slots*(1+x.Journal),x.Blocks*x.Per⟩,7,x.Per⟩]
theorem yYF{L:Nat}(hL:10<L){x:yAJ}(hw:xLS x.Wait=true):yLn L x=some ((if(yAq x).may=true then xS1 x else []).map yAK.cs):=by
 unfold yLn yRj
 rw[yXY hL hw,yAA]
 cases hm:(yAq x).may with
 | false=>rfl
 | true=>
   have h:=Geo.may_ok hm
   have n1:1<=x.Nodes:=h.n1
   have n2:x.Nodes<=16:=h.n2
   have l1:8*x.Slots<=x.Log:=h.l1
   have l2:x.Log<=512:=h.l2
   have s1:1<=x.Slots:=h.s1
   have sj:0<=x.Slots*(1+x.Journal)/\x.Slots*(1+x.Journal)<=1040:=h.sj
   have bp:0<=x.Blocks*x.Per/\x.Blocks*x.Per<=512:=h.bp
   have j1:x.Per+2<=x.Journal:=h.j1
   have j2:x.Journal<=64:=h.j2
   have p1:1<=x.Per:=h.p1
   have e1:w64 (x.Nodes*1)=x.Nodes:=by rw[yAh (by omega) (by omega)];omega
   have e2:w64 (1+x.Nodes)=1+x.Nodes:=yAh (by omega) (by omega)
   have e3:w64 (1+x.Nodes+x.Nodes)=1+2*x.Nodes:=by rw[yAh (by omega) (by omega)];omega
   have e4:w64 (x.Log*1)=x.Log:=by rw[yAh (by omega) (by omega)];omega
   have e5:w64 (1+2*x.Nodes+x.Log)=1+2*x.Nodes+x.Log:=yAh (by omega) (by omega)
   have e6:w64 (1+x.Journal)=1+x.Journal:=yAh (by omega) (by omega)
   have e7:w64 (x.Slots*(1+x.Journal))=x.Slots*(1+x.Journal):=yAh (by omega) (by omega)
   have e8:w64 (1+2*x.Nodes+x.Log+x.Slots*(1+x.Journal))=1+2*x.Nodes+x.Log+x.Slots*(1+x.Journal):=yAh (by omega) (by omega)
   have e9:w64 (x.Blocks*x.Per)=x.Blocks*x.Per:=yAh (by omega) (by omega)
   rw[Bool.not_true,cond_false,if_pos rfl]
   simp only[e1,e2,e3,e4,e5,e6,e7,e8,e9]
   rfl
theorem xRM{L:Nat}(hL:10<L){x:yAJ}(hw:xLS x.Wait=true)(hm:(yAq x).may=false)(k i j:Int):yNH L x k i j=some (-1):=by
 unfold yNH yWN
 rw[find_eq hL (rs:= []) (Nat.zero_le _) (by rw[yYF hL hw,hm];rfl),yAA]
 show(bif decide (i<0) then some (-1) else gd (!(decide ((1:Int)=0)))<|bif decide (w64 ((0:Int).tdiv 1)<=i) then some (-1) else _)=_
 by_cases h:i<0
 ·rw[yAO (decide_eq_true h)]
 ·rw[yAF (decide_eq_false h),yCJ (show(!(decide ((1:Int)=0)))=true from rfl),yAO (decide_eq_true (by show w64 0<=i;rw[yAh (by omega) (by omega)];omega))]
theorem xNV{L:Nat}(hL:10<L){x:yAJ}(hw:xLS x.Wait=true)(hm:(yAq x).may=true){k a m:Int}(hf:((xS1 x).find? fun r=>r.kind_==k)=some ⟨⟨a,m⟩,k,1⟩)(ha:0<=a)(ha2:a<=10000)(h0:0<=m)(h2:m<=10000)(i:Int):
  yNH L x k i 0=some (if 0<=i/\i<m then a+i else -1):=by
 unfold yNH yWN
 rw[find_eq hL (rs:=xS1 x) (Nat.le_refl _) (by rw[yYF hL hw,if_pos hm]),hf,yAA]
 show(bif decide (i<0) then some (-1) else gd (!(decide ((1:Int)=0)))<|bif decide (w64 (m.tdiv 1)<=i) then some (-1) else bif decide ((0:Int)<0) then some (-1) else bif decide ((1:Int)<=0) then some (-1) else yAB (yGZ L ⟨a,m⟩ (w64 (w64 (i*1)+0))) fun r2=>some r2)=_
 by_cases h:i<0
 ·rw[yAO (decide_eq_true h),if_neg (by omega)]
 rw[yAF (decide_eq_false h),yCJ (show(!(decide ((1:Int)=0)))=true from rfl),Int.tdiv_one,yAh (by omega) (by omega)]
 by_cases h1:m<=i
 ·rw[yAO (decide_eq_true h1),if_neg (by omega)]
 rw[yAF (decide_eq_false h1),if_pos (by omega),yAF (show decide ((0:Int)<0)=false from rfl),yAF (show decide ((1:Int)<=0)=false from rfl),yAh (n:=i*1) (by omega) (by omega),yAh (by omega) (by omega),show i*1+0=i by omega]
 unfold yGZ yJE
 dsimp only
 rw[yAF (decide_eq_false h),yAF (decide_eq_false h1),yAh (by omega) (by omega)]
 rfl
theorem yTL{L:Nat}(hL:10<L){x:yAJ}(hw:xLS x.Wait=true)(i:Int):yGA L x i=some ((yAq x).logS i):=by
 unfold yGA xAk Geo.logS
 cases hm:(yAq x).may with
 | false=>rw[xRM hL hw hm,yAA,if_neg (by simp)]
 | true=>
   have h:=Geo.may_ok hm
   have n1:1<=x.Nodes:=h.n1
   have n2:x.Nodes<=16:=h.n2
   have l1:8*x.Slots<=x.Log:=h.l1
   have l2:x.Log<=512:=h.l2
   have s1:1<=x.Slots:=h.s1
   rw[xNV hL hw hm (a:=1+2*x.Nodes) (m:=x.Log) rfl (by omega) (by omega) (by omega) (by omega),yAA]
   by_cases hi:0<=i/\i<x.Log
   ·rw[if_pos hi,if_pos ⟨rfl,hi⟩];rfl
   ·rw[if_neg hi,if_neg fun q=>hi q.2]
theorem xAi{L:Nat}(hL:10<L){x:yAJ}(hw:xLS x.Wait=true)(i:Int):yEH L x i=some ((yAq x).paxosS i):=by
 unfold yEH yVN Geo.paxosS
 cases hm:(yAq x).may with
 | false=>rw[xRM hL hw hm,yAA,if_neg (by simp)]
 | true=>
   have h:=Geo.may_ok hm
   have n1:1<=x.Nodes:=h.n1
   have n2:x.Nodes<=16:=h.n2
   rw[xNV hL hw hm (a:=1+x.Nodes) (m:=x.Nodes) rfl (by omega) (by omega) (by omega) (by omega),yAA]
   by_cases hi:0<=i/\i<x.Nodes
   ·rw[if_pos hi,if_pos ⟨rfl,hi⟩];rfl
   ·rw[if_neg hi,if_neg fun q=>hi q.2]
theorem xO3{L:Nat}(hL:10<L){x:yAJ}(hw:xLS x.Wait=true):yUS L x=some (if(yAq x).may=true then 4*x.Slots else 0):=by
 unfold yUS yXa
 rw[yXY hL hw,yAA]
 cases hm:(yAq x).may with
 | false=>rfl
 | true=>
   have h:=Geo.may_ok hm
   have s1:1<=x.Slots:=h.s1
   have s2:x.Slots<=x.Nodes:=h.s2
   have n2:x.Nodes<=16:=h.n2
   rw[Bool.not_true,cond_false,if_pos rfl,yAh (by omega) (by omega)]
theorem yVT{L:Nat}(x:yAJ)(i:Int):yES L x i=some ((yAq x).logS i):=by
 unfold yES yVb Geo.logS
 rw[yLq,yAA]
 cases hm:(yAq x).may with
 | false=>rw[if_neg (by simp)];rfl
 | true=>
   have h:=Geo.may_ok hm
   have n1:1<=x.Nodes:=h.n1
   have n2:x.Nodes<=16:=h.n2
   have l1:8*x.Slots<=x.Log:=h.l1
   have l2:x.Log<=512:=h.l2
   have s1:1<=x.Slots:=h.s1
   rw[Bool.not_true,cond_false,yAh (n:=x.Log-1) (by omega) (by omega),yY9,yAA]
   by_cases hi:0<=i/\i<x.Log
   ·rw[decide_eq_true (by omega),Bool.not_true,cond_false,yAh (n:=2*x.Nodes) (by omega) (by omega),yAh (n:=1+2*x.Nodes) (by omega) (by omega),yAh (by omega) (by omega),if_pos ⟨rfl,hi⟩]
    rfl
   ·rw[decide_eq_false (by omega),if_neg fun q=>hi q.2];rfl
theorem xA9{L:Nat}(x:yAJ)(i:Int):yHc L x i=some ((yAq x).paxosS i):=by
 unfold yHc yRu Geo.paxosS
 rw[yLq,yAA]
 cases hm:(yAq x).may with
 | false=>rw[if_neg (by simp)];rfl
 | true=>
   have h:=Geo.may_ok hm
   have n1:1<=x.Nodes:=h.n1
   have n2:x.Nodes<=16:=h.n2
   rw[Bool.not_true,cond_false,yAh (n:=x.Nodes-1) (by omega) (by omega),yY9,yAA]
   by_cases hi:0<=i/\i<x.Nodes
   ·rw[decide_eq_true (by omega),Bool.not_true,cond_false,yAh (n:=1+x.Nodes) (by omega) (by omega),yAh (by omega) (by omega),if_pos ⟨rfl,hi⟩]
    rfl
   ·rw[decide_eq_false (by omega),if_neg fun q=>hi q.2];rfl
theorem xKf{L:Nat}(x:yAJ)(i:Int):yDI L x i=some ((yAq x).headS i):=by
 unfold yDI yTm Geo.headS
 rw[yLq,yAA]
 cases hm:(yAq x).may with
 | false=>rw[if_neg (by simp)];rfl
 | true=>
   have h:=Geo.may_ok hm
   have n1:1<=x.Nodes:=h.n1
   have n2:x.Nodes<=16:=h.n2
   have l1:8*x.Slots<=x.Log:=h.l1
   have l2:x.Log<=512:=h.l2
   have s1:1<=x.Slots:=h.s1
   have s2:x.Slots<=x.Nodes:=h.s2
   have j1:x.Per+2<=x.Journal:=h.j1
   have j2:x.Journal<=64:=h.j2
   have p1:1<=x.Per:=h.p1
   rw[Bool.not_true,cond_false,yAh (n:=x.Slots-1) (by omega) (by omega),yY9,yAA]
   by_cases hi:0<=i/\i<x.Slots
   ·have hb:=xKY (a:=i) (b:=1+x.Journal) (A:=16) (B:=65) (by omega) (by omega) (by omega) (by omega)
    rw[decide_eq_true (by omega),Bool.not_true,cond_false,yAh (n:=2*x.Nodes) (by omega) (by omega),yAh (n:=1+2*x.Nodes) (by omega) (by omega),yAh (n:=1+x.Journal) (by omega) (by omega),yAh (n:=i*(1+x.Journal)) (by omega) (by omega),yAh (n:=1+2*x.Nodes+x.Log) (by omega) (by omega),yAh (by omega) (by omega),if_pos ⟨rfl,hi⟩]
    rfl
   ·rw[decide_eq_false (by omega),if_neg fun q=>hi q.2];rfl
theorem xNl{L:Nat}(x:yAJ):yEu L x=some (yAq x).totalS:=by
 unfold yEu yRv Geo.totalS
 rw[yLq,yAA]
 cases hm:(yAq x).may with
 | false=>rw[if_neg (by simp)];rfl
 | true=>
   have h:=Geo.may_ok hm
   have n1:1<=x.Nodes:=h.n1
   have n2:x.Nodes<=16:=h.n2
   have l1:8*x.Slots<=x.Log:=h.l1
   have l2:x.Log<=512:=h.l2
   have s1:1<=x.Slots:=h.s1
   have sj:0<=x.Slots*(1+x.Journal)/\x.Slots*(1+x.Journal)<=1040:=h.sj
   have bp:0<=x.Blocks*x.Per/\x.Blocks*x.Per<=512:=h.bp
   have b1:1<=x.Blocks:=h.b1
   have b2:x.Blocks<=64:=h.b2
   have p1:1<=x.Per:=h.p1
   have p2:x.Per<=8:=h.p2
   have j1:x.Per+2<=x.Journal:=h.j1
   have j2:x.Journal<=64:=h.j2
   have hb:(x.Blocks-1)*x.Per=x.Blocks*x.Per-x.Per:=by rw[Int.sub_mul];omega
   rw[Bool.not_true,cond_false,yAh (n:=x.Blocks-1) (by omega) (by omega),yAh (n:=x.Per-1) (by omega) (by omega)]
   unfold yGc yTk
   rw[yLq,hm,yAA,Bool.not_true,cond_false,yAh (n:=x.Blocks-1) (by omega) (by omega),yY9,yAA,decide_eq_true (by omega),Bool.not_true,cond_false,yAh (n:=x.Per-1) (by omega) (by omega),yY9,yAA,decide_eq_true (by omega),Bool.not_true,cond_false,hb,
    yAh (n:=2*x.Nodes) (by omega) (by omega),yAh (n:=1+2*x.Nodes) (by omega) (by omega),yAh (n:=1+x.Journal) (by omega) (by omega),yAh (n:=x.Slots*(1+x.Journal)) (by omega) (by omega),yAh (n:=1+2*x.Nodes+x.Log) (by omega) (by omega),yAh (n:=1+2*x.Nodes+x.Log+x.Slots*(1+x.Journal)) (by omega) (by omega),
    yAh (n:=x.Blocks*x.Per-x.Per) (by omega) (by omega),yAh (n:=1+2*x.Nodes+x.Log+x.Slots*(1+x.Journal)+(x.Blocks*x.Per-x.Per)) (by omega) (by omega),yAh (n:=_+(x.Per-1)) (by omega) (by omega),yAA,yAh (by omega) (by omega),if_pos rfl]
   congr 1
   show _=1+2*x.Nodes+x.Log+x.Slots*(1+x.Journal)+x.Blocks*x.Per
   omega
def xIY(n a b:Int):Bool:=decide (a<=n/\n<=b)
def yYf(i m b:Int)(v:Bs):Bool:=xIY i 0 512&&(xIY m 0 1099511627776&&(xIY b 0 m&&(decide (v.length<=64)&&((b==0)==v.isEmpty))))
def yWA(i m b:Int)(v:Bs):Bs×Int:=if yYf i m b v=true then yH3 4 v [2,6,6] [i,m,b] else([],2)
def readR(s:Bs):(Int×Int×Int×Bs)×Int:=
 if s= [] then((0,0,0,[]),0) else
 match fieldsR 4 s [2,6,6] with
 | ([i,m,b],v,0)=>if yYf i m b v=true then((i,m,b,v),0) else((0,0,0,[]),50)
 | _=>((0,0,0,[]),50)
theorem xKM{L:Nat}(n a b:Int):yEq L n a b=some (xIY n a b):=by
 unfold yEq yNa xIY
 by_cases h1:a<=n
 ·rw[yAO (decide_eq_true h1)]
  congr 1
  exact decide_eq_decide.2 ⟨fun h=>⟨h1,h⟩,fun h=>h.2⟩
 ·rw[yAF (decide_eq_false h1),decide_eq_false fun h=>h1 h.1]
theorem yZ5:noS.toList= []:=by rw[yUe];rfl
theorem xDw(l:Bs):(l== [])=l.isEmpty:=by cases l <;> rfl
theorem xNr{L:Nat}(x:yAp):yCW L ⟨x⟩=some (yYf x.Inst x.Mbal x.Bal x.Val.data.toList):=by
 unfold yCW yJp yYf
 rw[xKM,yAA]
 cases xIY x.Inst 0 512 with
 | false=>rfl
 | true=>
 rw[cond_true,xKM,yAA,Bool.true_and]
 cases xIY x.Mbal 0 1099511627776 with
 | false=>rfl
 | true=>
 rw[cond_true,xKM,yAA,Bool.true_and]
 cases xIY x.Bal 0 x.Mbal with
 | false=>rfl
 | true=>
 rw[cond_true,Bool.true_and,yAy]
 dsimp only
 by_cases h:x.Val.size<=64
 ·rw[yAO (decide_eq_true (by omega)),decide_eq_true h,Bool.true_and,yZ5,yUe,xDw]
 ·rw[yAF (decide_eq_false (by omega)),decide_eq_false h];rfl
theorem xDC{L:Nat}(hL:10<L)(x:yAp):yJ1 L x=some (mkS (yWA x.Inst x.Mbal x.Bal x.Val.data.toList).1,(yWA x.Inst x.Mbal x.Bal x.Val.data.toList).2,()):=by
 unfold yJ1 yQG yUN yS8 yWA
 rw[xNr,yAA,yAA]
 by_cases h:yYf x.Inst x.Mbal x.Bal x.Val.data.toList=true
 ·have hv:x.Val.size<=64:=by
    unfold yYf at h
    simp only[Bool.and_eq_true,decide_eq_true_eq,yAy] at h
    exact h.2.2.2.1
  have hm:=xNK (L:=L) (k:=4) (rest:=x.Val) (ws:= [2,6,6]) (l:= [x.Inst,x.Mbal,x.Bal]) (by omega) (by simp;omega) (by simp) (by omega)
  rw[h,if_pos rfl]
  unfold yG6 yIt yE0 yGu
  rw[Bool.not_true,cond_false,yAA]
  show yAB (yAB (yNU L 4 x.Val ([2,6,6].map inV) ([x.Inst,x.Mbal,x.Bal].map inV)) _) _=_
  rw[hm];rfl
 ·rw[if_neg h,show yYf x.Inst x.Mbal x.Bal x.Val.data.toList=false by simpa using h];rfl
theorem yWG(k:Int)(s:Bs)(ws:List Int):((fieldsR k s ws).2.2=0/\(fieldsR k s ws).1.length=ws.length)\/fieldsR k s ws=([],[],30):=by
 unfold fieldsR
 rcases xJD k s with h | h
 ·rw[if_pos h]
  cases ht:takeF (ofR k s).1 ws with
  | none=>exact .inr rfl
  | some r=>exact .inl ⟨rfl,(xFp _ _ _ ht).2⟩
 ·rw[h]
  exact .inr (if_neg (by simp))
theorem three{l:List Int}(h:l.length=3):∃a b c,l= [a,b,c]:=by
 match l,h with
 | [a,b,c],_=>exact⟨a,b,c,rfl⟩
theorem xAJ{L:Nat}(hL:10<L){s:ByteArray}(hs:s.size<=1000000000):yEp L s=some (⟨(readR s.data.toList).1.1,(readR s.data.toList).1.2.1,(readR s.data.toList).1.2.2.1,mkS (readR s.data.toList).1.2.2.2⟩,(readR s.data.toList).2,()):=by
 unfold yEp yRX readR
 rw[yZ5,yUe,xDw]
 by_cases h0:s.data.toList= []
 ·rw[if_pos h0,h0];rfl
 rw[if_neg h0,yAF (by cases h:s.data.toList with
  | nil=>exact absurd h h0
  | cons _ _=>rfl)]
 have hf:=xAf (ws:= [2,6,6]) hL hs (by simp;omega) (by simp) 4
 show yAB (yDQ L 4 s ([2,6,6].map inV)) _=_
 rw[hf,yAA]
 rcases yWG 4 s.data.toList [2,6,6] with ⟨h1,h2⟩ | h1
 ·obtain⟨i,m,b,h3⟩:=three h2
  generalize hR:fieldsR 4 s.data.toList [2,6,6]=R at*
  obtain⟨R1,R2,R3⟩:=R
  dsimp only at h1 h3 ⊢
  subst h1 h3
  rw[show((0:Int) !=0)=false from rfl,cond_false,yCJ (decide_eq_true (by simp)),yU1 (by simp) rfl,yCJ (decide_eq_true (by simp)),yU1 (by simp) rfl,yCJ (decide_eq_true (by simp)),yU1 (by simp) rfl]
  show yAB (yCW L ⟨⟨i,m,b,mkS R2⟩⟩) _=_
  rw[xNr,yAA,mk_data]
  dsimp only
  cases hb:yYf i m b R2 <;> simp only[hb] <;> rfl
 ·rw[h1];rfl
def xKW(x:Int)(l:List Int):Int:=l.foldl max x
theorem xNL(x:Int)(l:List Int)(y:Int):xKW x (l++ [y])=max (xKW x l) y:=by simp[xKW]
theorem xRH(x:Int)(l:List Int):x<=xKW x l:=by
 induction l generalizing x with
 | nil=>simp[xKW]
 | cons a l ih=>
   have h:=ih (max x a)
   have e:xKW x (a::l)=xKW (max x a) l:=rfl
   omega
def yWV(node most:Int):Int:=
 if 0<=node/\node<=15/\most<=1099511627776 then
  (if most/16*16+node<=most\/most/16*16+node<16 then(if most/16*16+node+16<=1099511627776 then most/16*16+node+16 else 0)
    else if most/16*16+node<=1099511627776 then most/16*16+node else 0)
 else 0
theorem xRL{node most r:Int}(h0:0<=node)(h1:node<=15)(hm:0<=most)(hm2:most<=1099511627776)(hr:1<=r)(hr2:r=1\/(r-1)*16+node<=most)(hgt:most<r*16+node):
  yWV node most=if r*16+node<=1099511627776 then r*16+node else 0:=by
 rw[yWV,if_pos ⟨h0,h1,hm2⟩]
 by_cases h:most/16*16+node<=most\/most/16*16+node<16
 ·rw[if_pos h]
  have:most/16*16+node+16=r*16+node:=by omega
  rw[this]
 ·rw[if_neg h]
  have:most/16*16+node=r*16+node:=by omega
  rw[this]
theorem xKX{a b:Int}:yEr true a b=max a b:=by
 unfold yEr
 simp only[if_true]
 split <;> omega
theorem max_eq{L:Nat}{x:Int}{l:List Int}(hl:l.length<=1000000)(hL:l.length+1<L):yEh L ((x::l).map inV)=some (xKW x l):=by
 unfold yEh yIz
 rw[yAF (decide_eq_false (by rw[List.length_map,List.length_cons];omega)),yCJ (decide_eq_true (by rw[List.length_map,List.length_cons];omega)),yCJ (show rowIs kI ((x::l).map inV) 0=true from rfl)]
 obtain⟨q,hq,hrun⟩:=yHW (α:=Int) (F:=yCF) (fun q=>∃k:Nat,k<=l.length/\q=((x::l).map inV,xKW x (l.take k),((k+1:Nat):Int),())) (fun q=>l.length+1-q.2.2.1.toNat) (fun q=>q=(xKW x l,()))
  (fun q hq=>by
    obtain⟨k,hk,rfl⟩:=hq
    have hxl:(x::l).length=l.length+1:=rfl
    by_cases hlt:k<l.length
    ·refine .inl ⟨_,⟨k+1,hlt,rfl⟩,by dsimp only;omega,fun kn ka=>?_⟩
     unfold yCF
     dsimp only
     rw[yAO (decide_eq_true (by rw[List.length_map];omega)),yS0 (by omega) (by omega),Int.toNat_natCast,yV3 (by omega),xKX,yAh (by omega) (by omega),List.take_succ_eq_append_getElem hlt,xNL]
     rfl
    ·obtain rfl:k=l.length:=by omega
     refine .inr ⟨_,rfl,fun kn ka=>?_⟩
     unfold yCF
     dsimp only
     rw[yAF (decide_eq_false (by rw[List.length_map];omega)),List.take_length])
  L ((x::l).map inV,aI ((x::l).map inV) 0 0,1,()) ⟨0,Nat.zero_le _,rfl⟩ (by dsimp only;omega)
 subst hq
 rw[hrun]
theorem xRK{L:Nat}{l:List Int}(hl:l.length<=100000)(hL:l.length+50<L)(n:Int):yLg L n (l.map inV)=some (yWV n (xKW 0 l)):=by
 have hno:¬(0<=n/\n<=15/\xKW 0 l<=1099511627776)->some 0=some (yWV n (xKW 0 l)):=fun h=>by rw[yWV,if_neg h]
 have hg:=xRH 0 l
 unfold yLg yRW
 rw[show([[V.int .i64 0]])++l.map inV=((0:Int)::l).map inV from rfl,List.length_map,yCJ (xBh 1 fun _=>rfl),xIZ (by omega) (by omega),yU0 (by simp;omega) (by omega) (yLd _),yOl _ (by simp;omega),max_eq (by omega) (by omega),yAA,xKM,yAA]
 by_cases h1:¬(0<=n/\n<=15)
 ·rw[show xIY n 0 15=false from decide_eq_false h1]
  exact hno fun h=>h1 ⟨h.1,h.2.1⟩
 replace h1:=Decidable.not_not.1 h1
 rw[show xIY n 0 15=true from decide_eq_true h1,Bool.not_true,cond_false]
 generalize xKW 0 l=m at*
 by_cases h2:1099511627776<m
 ·rw[yAO (decide_eq_true h2)]
  exact hno fun h=>by omega
 rw[yAF (decide_eq_false h2),yAh (n:=m-n) (by omega) (by omega)]
 have ht:(m-n).tdiv 16<=m/\ -1<=(m-n).tdiv 16/\((m-n).tdiv 16=0\/(m-n).tdiv 16*16<=m-n)/\m-n<(m-n).tdiv 16*16+16:=by
  by_cases hs:0<=m-n
  ·rw[Int.tdiv_eq_ediv_of_nonneg hs];omega
  ·have:(m-n).tdiv 16=0:=by
     rw[show m-n= -(n-m) by omega,Int.neg_tdiv,Int.tdiv_eq_ediv_of_nonneg (by omega)]
     omega
   omega
 rw[yAh (by omega) (by omega),xKX]
 generalize (m-n).tdiv 16=t at*
 obtain⟨q,hq,hrun⟩:=yHW (α:=Int) (F:=yEo) (fun q=>∃r:Int,1<=r/\r<=1099511627777/\(r=1\/(r-1)*16+n<=m)/\q=(n,m,r,())) (fun q=>(m+16-(q.2.2.1*16+n)).toNat) (fun q=>∃r:Int,1<=r/\r<=1099511627777/\(r=1\/(r-1)*16+n<=m)/\m<r*16+n/\q=(n,r,()))
  (fun q hq=>by
    obtain⟨r,hr,hr3,hr2,rfl⟩:=hq
    by_cases hlt:r*16+n<=m
    ·refine .inl ⟨(n,m,r+1,()),⟨r+1,by omega,by omega,.inr (by omega),rfl⟩,by dsimp only;omega,fun kn ka=>?_⟩
     unfold yEo
     dsimp only
     rw[yAh (n:=r*16) (by omega) (by omega),yAh (n:=r*16+n) (by omega) (by omega),yAO (decide_eq_true hlt),yAh (by omega) (by omega)]
    ·refine .inr ⟨_,⟨r,hr,hr3,hr2,by omega,rfl⟩,fun kn ka=>?_⟩
     unfold yEo
     dsimp only
     rw[yAh (n:=r*16) (by omega) (by omega),yAh (n:=r*16+n) (by omega) (by omega),yAF (decide_eq_false hlt)])
  L (n,m,max 1 t,()) ⟨max 1 t,by omega,by omega,by omega,rfl⟩ (by dsimp only;omega)
 obtain⟨r,hr,hr3,hr2,hgt,rfl⟩:=hq
 rw[hrun]
 dsimp only
 rw[yAh (n:=r*16) (by omega) (by omega),yAh (n:=r*16+n) (by omega) (by omega),xRL h1.1 h1.2 hg (by omega) hr hr2 hgt]
 by_cases h:r*16+n<=1099511627776
 ·rw[yAO (decide_eq_true h),if_pos h]
 ·rw[yAF (decide_eq_false h),if_neg h]
theorem xSL{n:Int}(h1:0<=n)(h2:n<=1099511627776):yHP n 6=true:=decide_eq_true ⟨by omega,by omega,h1,by simp[yQR];omega⟩
theorem xPY{s v:Bs}{i m b:Int}(hne:s≠ [])(h:fieldsR 4 s [2,6,6]=([i,m,b],v,0)):readR s=if yYf i m b v=true then((i,m,b,v),0) else((0,0,0,[]),50):=by
 rw[readR,if_neg hne,h];rfl
theorem yQ0{i m b:Int}{v:Bs}(h:yYf i m b v=true):0<=i/\i<=512/\0<=m/\m<=1099511627776/\0<=b/\b<=m/\v.length<=64:=by
 unfold yYf xIY at h
 simp only[Bool.and_eq_true,decide_eq_true_eq] at h
 omega
theorem xAN{i m b:Int}{v:Bs}(h:yYf i m b v=true):∃l x,yWA i m b v=(x,0)/\yPj 4 l=some x/\readR x=((i,m,b,v),0)/\x.length=21+v.length:=by
 obtain⟨h1,h2,h3,h4,h5,h6,h7⟩:=yQ0 h
 have hf2:yHP i 2=true:=decide_eq_true ⟨by omega,by omega,h1,by simp[yQR];omega⟩
 have hf:fieldsB [] [2,6,6] [i,m,b]=some (leBytes 2 i.toNat++leBytes 6 m.toNat++leBytes 6 b.toNat):=by
  simp only[fieldsB,List.nil_append]
  rw[if_pos ⟨hf2,by rw[yAI];decide⟩,if_pos ⟨xSL h3 h4,by simp[yAI]⟩,if_pos ⟨xSL h5 (by omega),by simp[yAI]⟩]
  rfl
 have hl:(leBytes 2 i.toNat++leBytes 6 m.toNat++leBytes 6 b.toNat++v).length=14+v.length:=by simp[yAI];omega
 have hs:yPj 4 (leBytes 2 i.toNat++leBytes 6 m.toNat++leBytes 6 b.toNat++v)=some _:=yMK (by omega) (by omega)
 have hlen:=(xIF hs).2.2
 have hfr:=yNG (by omega) hf hs
 refine⟨_,_,?_,hs,?_,by rw[hlen,hl];omega⟩
 ·rw[yWA,if_pos h,yH3,hf]
  show yRJ 4 _=_
  rw[yRJ,hs]
 ·rw[xPY (fun e=>by rw[e] at hlen;simp at hlen) hfr,if_pos h]
section
variable {α σ A B:Type}
theorem yWR{F:σ->(σ->Option α)->(A->Option α)->Option α}(st:Nat->σ)(n:Nat)(a:A)(h:∀k,k<n->∀kn ka,F (st k) kn ka=kn (st (k+1)))(he:∀kn ka,F (st n) kn ka=ka a):
  ∀(m k L:Nat),k+m=n->m<L->∀ka,yAb F L (st k) ka=ka a
 | m,k,0,_,hm,_=>absurd hm (Nat.not_lt_zero _)
 | 0,k,L+1,hk,_,ka=>by
   have:k=n:=by omega
   subst this
   exact he _ _
 | m+1,k,L+1,hk,hm,ka=>(h k (by omega) _ _).trans (yWR st n a h he m (k+1) L (by omega) (by omega) ka)
theorem yQy{F:σ->(σ->Option α)->(A->Option α)->(B->Option α)->Option α}(st:Nat->σ)(n:Nat)(a:A)(h:∀k,k<n->∀kn ka kb,F (st k) kn ka kb=kn (st (k+1)))(he:∀kn ka kb,F (st n) kn ka kb=ka a):
  ∀(m k L:Nat),k+m=n->m<L->∀ka kb,yAf F L (st k) ka kb=ka a
 | m,k,0,_,hm,_,_=>absurd hm (Nat.not_lt_zero _)
 | 0,k,L+1,hk,_,ka,kb=>by
   have:k=n:=by omega
   subst this
   exact he _ _ _
 | m+1,k,L+1,hk,hm,ka,kb=>(h k (by omega) _ _ _).trans (yQy st n a h he m (k+1) L (by omega) (by omega) ka kb)
end
def CE(c:List (List V))(N:Nat):Prop:=c.length=N/\∀r∈c,∃b,r= [V.sl [] b]
def cE(N:Nat):List (List V):=List.replicate N [V.sl [] false]
theorem yND(N:Nat):CE (cE N) N:=⟨List.length_replicate ..,fun r hr=>⟨false,List.eq_of_mem_replicate hr⟩⟩
structure SecOk (s:List ByteArray):Prop where
 n:1<=s.length
 m:s.length<=100000
 z:∀x∈s,x.size<=512
theorem SecOk.set{s:List ByteArray}(h:SecOk s)(k:Nat){b:ByteArray}(hb:b.size<=512):SecOk (s.set k b):=
 ⟨by rw[List.length_set];exact h.n,by rw[List.length_set];exact h.m,fun x hx=>by
  rcases List.mem_or_eq_of_mem_set hx with q | rfl
  ·exact h.z x q
  ·exact hb⟩
section
variable {s:List ByteArray} {c:List (List V)} {N j L:Nat}
theorem CE.at_(hc:CE c N){i:Nat}(hi:i<N):∃b,c[i]?=some [V.sl [] b]:=by
 have hl:i<c.length:=by rw[hc.1];exact hi
 obtain⟨b,hb⟩:=hc.2 c[i] (List.getElem_mem hl)
 exact⟨b,by rw[List.getElem?_eq_getElem hl,hb]⟩
theorem CE.gI(hc:CE c N){α:Type}{x:Option α}{n:Int}(h0:0<=n)(h1:n<N):gI c kL n x=x:=by
 obtain⟨b,hb⟩:=hc.at_ (i:=n.toNat) (by omega)
 exact xQ7 h0 (by rw[hc.1];exact h1) (by rw[xFX kL hb];rfl)
theorem CE.aR(hc:CE c N){i:Nat}(hi:i<N):aR c i 0= []:=by
 obtain⟨b,hb⟩:=hc.at_ hi
 unfold Proofs.YtakljpcmbpaeaaaGreat.aR
 rw[xD2 hb];rfl
theorem CE.nm(hc:CE c N):yCL c=true:=List.all_eq_true.2 fun r hr=>by
 obtain⟨b,rfl⟩:=hc.2 r hr
 cases b <;> rfl
theorem xK5(hL:0<L)(n:Int):yHe L [] n=some true:=by
 obtain⟨m,rfl⟩:∃m,L=m+1:=⟨L-1,by omega⟩
 rfl
theorem xNc(hL:0<L)(n:Int):yJy L [] n=some (-1):=by
 obtain⟨m,rfl⟩:∃m,L=m+1:=⟨L-1,by omega⟩
 rfl
end
theorem xSB(N j:Nat):CE ((cE N).set j [V.sl [] true]) N:=⟨by rw[List.length_set];exact(yND N).1,fun r hr=>by
 rcases List.mem_or_eq_of_mem_set hr with q | rfl
 ·exact(yND N).2 r q
 ·exact⟨true,rfl⟩⟩
section
variable {s:List ByteArray} {c:List (List V)} {N j L:Nat}
end
section
variable {s:List ByteArray} {c:List (List V)} {N j L:Nat}
end
abbrev yFf(L:Nat):Prop:=NeZero (L/200001)
theorem yFf.h{L:Nat}[k:yFf L]:200000<L:=by
 have:=k.out
 rcases Nat.lt_or_ge 200000 L with h | h
 ·exact h
 ·exact absurd (Nat.div_eq_of_lt (by omega)) this
theorem yQO{L:Nat}[yFf L]:10<L:=Nat.lt_of_le_of_lt (by decide) yFf.h
theorem hL3{L:Nat}[yFf L]:1000<L:=Nat.lt_of_le_of_lt (by decide) yFf.h
theorem xO1{α:Type}{x:Option α}{b:Bs}(h:b.length<=2000000):gF (b.map byV) (b.map byV).length x=x:=yU0 (Nat.le_refl _) (by rw[List.length_map];omega) (yRp b)
theorem xDx(n:Nat):Nat.ble n n=true:=Nat.ble_eq_true_of_le (Nat.le_refl n)
end Go.Proofs.YtakljpcmbpaeaaaGreat

namespace Go.Proofs.YtakljpcmbpaeaaaGreat
set_option maxHeartbeats 4000000
open Go.RowKit
abbrev xO7(k:Int):Prop:=16<=k/\k<=1099511627776
def yRU(c:yAc):Prop:=xO7 c.By/\1<=c.Serial/\c.Serial<=2147483648/\
 (((c.Kind=0\/c.Kind=1)/\c.Span.Lo=0/\c.Span.Hi=0/\c.Mode=0/\c.Dead=0/\c.Was=0)\/(0:Int)=1)
theorem xOo{α:Type}{o:Option α}:(yAB o fun r=>some r)=o:=by cases o <;> rfl
theorem xQH{α:Type}{c:Bool}{x y z:α}(h1:c=true->x=z)(h2:c=false->y=z):(bif c then x else y)=z:=by
 cases c with
 | true=>exact h1 rfl
 | false=>exact h2 rfl
theorem xKo{p:Prop}{inst:Decidable p}{b:Bool}(h:b=true↔p):some b=some (decide p):=by
 congr 1
 cases b with
 | true=>exact(decide_eq_true (h.1 rfl)).symm
 | false=>exact(decide_eq_false fun q=>by have:=h.2 q;cases this).symm
theorem xIl{L:Nat}(k:Int):yJr L k=some (decide (xO7 k)):=by
 unfold yJr yRb
 repeat' (refine xQH (fun _=>?_) (fun _=>?_))
 all_goals (refine xKo ?_;simp only[decide_eq_true_eq,decide_eq_false_iff_not] at *;(try simp only[Bool.false_eq_true,false_iff]);unfold xO7;omega)
theorem xJL{L:Nat}(k:Int):yPQ L k=some (decide (xO7 k)):=by
 unfold yPQ yVg
 repeat' (refine xQH (fun _=>?_) (fun _=>?_))
 all_goals (refine xKo ?_;simp only[decide_eq_true_eq,decide_eq_false_iff_not] at *;(try simp only[Bool.false_eq_true,false_iff]);unfold xO7;omega)
theorem xQB{L:Nat}{c:yAc}(h:yRU c):yLk L c=some true:=by
 obtain⟨kd,by_,ser,dd,ws,⟨lo,hi⟩,md⟩:=c
 obtain⟨h1,h2,h3,⟨hk,q1,q2,q3,q4,q5⟩ | h5⟩:=h
 ·dsimp only at*
  subst q1 q2 q3 q4 q5
  unfold yLk yON yC2 yJs
  dsimp only
  rw[xIl,decide_eq_true h1,yAA,Bool.not_true,cond_false,yAF (decide_eq_false (by omega)),yAF (decide_eq_false (by omega))]
  rcases hk with rfl | rfl <;> rfl
 ·exact absurd h5 (by decide)
theorem xPP{L:Nat}{c:yAc}(h:yRU c):yTw L c=some true:=by
 obtain⟨kd,by_,ser,dd,ws,⟨lo,hi⟩,md⟩:=c
 obtain⟨h1,h2,h3,⟨hk,q1,q2,q3,q4,q5⟩ | h5⟩:=h
 ·dsimp only at*
  subst q1 q2 q3 q4 q5
  unfold yTw yVh
  dsimp only
  rw[xJL,decide_eq_true h1,yAA,Bool.not_true,cond_false,yAF (decide_eq_false (by omega)),yAF (decide_eq_false (by omega)),yAO (by rfl),yAO (by rfl)]
  rcases hk with rfl | rfl <;> simp only[beq_self_eq_true] <;> rfl
 ·exact absurd h5 (by decide)
theorem yWS(l:Bs):(mkS l).data.toList=l:=by simp[mkS]
theorem yS3(l:Bs):(mkS l).size=l.length:=by simp[mkS,ByteArray.size]
theorem xRJ{L:Nat}(hL:10<L){l:Bs}{a w:Int}(h:l.length<=1000000):yCC L (mkS l) a w=some ((yQN l a w).1,(yQN l a w).2,()):=by
 rw[yUW hL (by rw[yS3];omega),yWS]
theorem xJK{L:Nat}(hL:10<L){l:Bs}{a w:Int}(h:l.length<=1000000):yBj L (mkS l) a w=some ((yQN l a w).1,(yQN l a w).2,()):=by
 rw[xNj hL (by rw[yS3];omega),yWS]
theorem yZ1{n:Int}{w:Nat}(h1:1<=w)(h6:w<=6)(h0:0<=n)(hn:n<=yQR w):yHP n w=true:=by
 unfold yHP
 exact decide_eq_true ⟨by omega,by omega,h0,by rw[Int.toNat_natCast];exact hn⟩
theorem xEN{L w:Nat}(hL:10<L){n:Int}{t:Bs}(h1:1<=w)(h6:w<=6)(h0:0<=n)(hn:n<=yQR w)(ht:t.length<=1000):yCC L (mkS (leBytes w n.toNat++t)) 0 w=some (n,0,()):=by
 rw[xRJ hL (by rw[List.length_append,yAI];omega)]
 have:=xKV n w t (yZ1 h1 h6 h0 hn)
 rw[Int.toNat_natCast] at this
 rw[this]
theorem xMq{w n:Nat}{t:Bs}:(mkS (leBytes w n++t)).extract w (mkS (leBytes w n++t)).size=mkS t:=by
 rw[yRd,yWS,List.drop_left' (yAI w n)]
theorem size_le{w n:Nat}{t:Bs}:((mkS (leBytes w n++t)).size:Int)=w+(t.length:Int):=by
 rw[yS3,List.length_append,yAI];omega
theorem xTb:yQR 1=255:=by decide
theorem xPG:yQR 4=4294967295:=by decide
theorem xJA:yQR 6=1099511627776:=by decide
def xDI(c:yAc):Bs:= []
def yKk(c:yAc):Bs:=leBytes 1 c.Kind.toNat++(leBytes 6 c.By.toNat++(leBytes 4 c.Serial.toNat++xDI c))
theorem yRa(c:yAc):(xDI c).length<=12:=Nat.zero_le _
theorem yRZ(c:yAc):(yKk c).length=11+(xDI c).length:=by
 unfold yKk
 simp only[List.length_append,yAI];omega
theorem yTE{L:Nat}(hL:10<L){c:yAc}(h:yRU c):yBi L (mkS (yKk c))=some (c,0,()):=by
 have hm:=xQB (L:=L) h
 have ht:=yRa c
 obtain⟨⟨h1,h2⟩,h3,h4,h5⟩:=h
 have hk:0<=c.Kind/\c.Kind<=5:=by omega
 have g1:yCC L (mkS (yKk c)) 0 1=some (c.Kind,0,()):=xEN hL (w:=1) (by omega) (by omega) hk.1 (by rw[xTb];omega) (by simp only[List.length_append,yAI];omega)
 have e1:(mkS (yKk c)).extract 1 (mkS (yKk c)).size=mkS (leBytes 6 c.By.toNat++(leBytes 4 c.Serial.toNat++xDI c)):=xMq
 have z1:decide ((1:Int)<=((mkS (yKk c)).size:Int))=true:=decide_eq_true (by rw[yS3,yRZ];omega)
 have g2:yCC L (mkS (leBytes 6 c.By.toNat++(leBytes 4 c.Serial.toNat++xDI c))) 0 6=some (c.By,0,()):=xEN hL (w:=6) (by omega) (by omega) (by omega) (by rw[xJA];omega) (by simp only[List.length_append,yAI];omega)
 have e2:(mkS (leBytes 6 c.By.toNat++(leBytes 4 c.Serial.toNat++xDI c))).extract 6 (mkS (leBytes 6 c.By.toNat++(leBytes 4 c.Serial.toNat++xDI c))).size=mkS (leBytes 4 c.Serial.toNat++xDI c):=xMq
 have z2:decide ((6:Int)<=((mkS (leBytes 6 c.By.toNat++(leBytes 4 c.Serial.toNat++xDI c))).size:Int))=true:=decide_eq_true (by rw[size_le];omega)
 have g3:yCC L (mkS (leBytes 4 c.Serial.toNat++xDI c)) 0 4=some (c.Serial,0,()):=xEN hL (w:=4) (by omega) (by omega) (by omega) (by rw[xPG];omega) (by omega)
 have e3:(mkS (leBytes 4 c.Serial.toNat++xDI c)).extract 4 (mkS (leBytes 4 c.Serial.toNat++xDI c)).size=mkS (xDI c):=xMq
 have z3:decide ((4:Int)<=((mkS (leBytes 4 c.Serial.toNat++xDI c)).size:Int))=true:=decide_eq_true (by rw[size_le];omega)
 have hw:IntKind.i8.wrap (yEr false c.Kind 127)=c.Kind:=by
  obtain⟨q1,q2⟩:=hk
  generalize c.Kind=k at*
  obtain⟨n,rfl⟩:=Int.eq_ofNat_of_zero_le q1
  have:n=0\/n=1\/n=2\/n=3\/n=4\/n=5:=by omega
  rcases this with rfl | rfl | rfl | rfl | rfl | rfl <;> rfl
 have z0:((0:Int) !=0)=false:=rfl
 have z00:((0:Int)==0)=true:=rfl
 have nn:((mkS []).toList==noS.toList)=true:=beq_self_eq_true (noS.toList)
 rcases h5 with ⟨q0,q1,q2,q3,q4,q5⟩ | h5
 rotate_left
 ·exact absurd h5 (by decide)
 have hc:(⟨c.Kind,c.By,c.Serial,0,0,yAr.z,0⟩:yAc)=c:=by
  obtain⟨kd,by_,ser,dd,ws,⟨lo,hi⟩,md⟩:=c
  dsimp only at q1 q2 q3 q4 q5
  subst q1 q2 q3 q4 q5
  rfl
 have k2:(c.Kind==2)=false:=beq_eq_false_iff_ne.2 (by omega)
 have k3:(c.Kind==3)=false:=beq_eq_false_iff_ne.2 (by omega)
 have k4:(c.Kind==4)=false:=beq_eq_false_iff_ne.2 (by omega)
 have k5:(c.Kind==5)=false:=beq_eq_false_iff_ne.2 (by omega)
 unfold yBi yQM
 rw[g1,yAA]
 dsimp only
 rw[z0,cond_false,z1,yCJ rfl,e1,g2,yAA]
 dsimp only
 rw[z0,cond_false,z2,yCJ rfl,e2,g3,yAA]
 dsimp only
 rw[z0,cond_false,z3,yCJ rfl,e3,hw,k2,cond_false,k3,cond_false,k4,cond_false,k5,cond_false,show xDI c= [] from rfl,nn,Bool.not_true,cond_false,hc,hm,yAA]
 rfl
theorem xJN{L w:Nat}(hL:10<L){n wi:Int}{b:Bs}(hw:wi=w)(h1:1<=w)(h6:w<=6)(h0:0<=n)(hn:n<=yQR w)(hb:b.length<=1000):yCh L (b.map byV) wi [[V.int .i64 n]]=some ((b++leBytes w n.toNat).map byV,0,()):=by
 subst hw
 have hp:yZO b w [n]=(b++leBytes w n.toNat,0):=by
  unfold yZO
  rw[yXk h1 h6 (fun t ht=>by obtain rfl:t=0:=by simpa using ht
                             exact yZ1 h1 h6 h0 hn)]
  simp[yI2]
 have e: [[V.int .i64 n]]= [n].map inV:=rfl
 rw[e,xJM hL _ (by simp only[List.length_cons,List.length_nil];omega) (by simp only[List.length_cons,List.length_nil];omega),hp]
theorem xO8{k:Int}(h0:0<=k)(h:k<=5): [[V.int .u8 (IntKind.u8.wrap k)]]=(leBytes 1 k.toNat).map byV:=by
 obtain⟨n,rfl⟩:=Int.eq_ofNat_of_zero_le h0
 have:n=0\/n=1\/n=2\/n=3\/n=4\/n=5:=by omega
 rcases this with rfl | rfl | rfl | rfl | rfl | rfl <;> rfl
theorem xDa{L:Nat}(hL:10<L){c:yAc}(h:yRU c)(h2:c.Kind≠2)(h3:c.Kind≠3):yHg L c=some (mkS (yKk c),0,()):=by
 have hm:=xPP (L:=L) h
 have hlen:=yRZ c
 have htl:=yRa c
 obtain⟨⟨g1,g2⟩,g3,g4,h5⟩:=h
 have hk:0<=c.Kind/\c.Kind<=5:=by omega
 have p1:=xJN hL (w:=6) (wi:=6) (n:=c.By) (b:=leBytes 1 c.Kind.toNat) rfl (by omega) (by omega) (by omega) (by rw[xJA];omega) (by rw[yAI];omega)
 have p2:=xJN hL (w:=4) (wi:=4) (n:=c.Serial) (b:=leBytes 1 c.Kind.toNat++leBytes 6 c.By.toNat) rfl (by omega) (by omega) (by omega) (by rw[xPG];omega) (by simp only[List.length_append,yAI];omega)
 have z2:(c.Kind==2)=false:=by simpa using h2
 have z3:(c.Kind==3)=false:=by simpa using h3
 have fin:∀b:Bs,(bytesOf (b.map byV)).isSome=true:=fun b=>by rw[yUQ];rfl
 have f1:∀{α:Type} (x:Option α),gF ((leBytes 1 c.Kind.toNat++leBytes 6 c.By.toNat).map byV) (((leBytes 1 c.Kind.toNat++leBytes 6 c.By.toNat).map byV).length) x=x:=fun x=>xO1 (by simp only[List.length_append,yAI];omega)
 have f2:∀{α:Type} (x:Option α),gF ((leBytes 1 c.Kind.toNat++leBytes 6 c.By.toNat++leBytes 4 c.Serial.toNat).map byV) (((leBytes 1 c.Kind.toNat++leBytes 6 c.By.toNat++leBytes 4 c.Serial.toNat).map byV).length) x=x:=fun x=>xO1 (by simp only[List.length_append,yAI];omega)
 unfold yHg ySS
 simp only[f1,f2,gd,Nat.zero_add,xDx,List.take_length,hm,yAA,Bool.not_true,cond_false,xO8 hk.1 hk.2,p1,p2,z2,z3]
 have z4:(c.Kind==4)=false:=beq_eq_false_iff_ne.2 (by omega)
 have z5:(c.Kind==5)=false:=beq_eq_false_iff_ne.2 (by omega)
 simp only[z4,z5,cond_false,cond_true,fin,yO0,gd,Nat.zero_add,xDx,List.take_length]
 unfold yKk xDI
 rw[List.append_nil,List.append_assoc]
theorem xEC(p t:Bs){w:Nat}{n a wi:Int}(ha:a=p.length)(hw:wi=w)(h1:1<=w)(h6:w<=6)(h0:0<=n)(hn:n<=yQR w):yQN (p++(leBytes w n.toNat++t)) a wi=(n,0):=by
 subst ha hw
 have hf:=yZ1 h1 h6 h0 hn
 have hl:n.toNat<256^w:=(xAh (n:=n.toNat) (w:=w) (by rw[Int.toNat_of_nonneg h0];exact hf)).1
 have h2:n.toNat<=1099511627776:=(xAh (n:=n.toNat) (w:=w) (by rw[Int.toNat_of_nonneg h0];exact hf)).2.1
 have e:((p++(leBytes w n.toNat++t)).drop p.length).take w=leBytes w n.toNat:=by
  rw[List.drop_left' rfl,List.take_left' (yAI w _)]
 have el:le (leBytes w n.toNat)=n.toNat:=by rw[yUU,Nat.mod_eq_of_lt hl]
 rw[yXc ⟨h1,h6⟩ (by simp only[List.length_append,yAI];omega) (by rw[e,el];exact h2),e,el,Int.toNat_of_nonneg h0]
theorem xM5{k:Int}{t:Bs}(h0:0<=k)(h:k<=5):((((mkS (leBytes 1 k.toNat++t))[0]?).getD 0).toNat:Int)=k:=by
 obtain⟨n,rfl⟩:=Int.eq_ofNat_of_zero_le h0
 have:n=0\/n=1\/n=2\/n=3\/n=4\/n=5:=by omega
 rcases this with rfl | rfl | rfl | rfl | rfl | rfl <;> rfl
theorem xLk{L:Nat}(hL:10<L){c:yAc}(h:yRU c)(hk2:c.Kind=0\/c.Kind=1):yCQ L (mkS (yKk c))=some (c,0,()):=by
 have hb:=xDa hL h (by omega) (by omega)
 have hlen:=yRZ c
 have htl:=yRa c
 have hT:xDI c= []:=rfl
 obtain⟨⟨h1,h2⟩,h3,h4,h5⟩:=h
 have g1:yBj L (mkS (yKk c)) 1 6=some (c.By,0,()):=by
  rw[xJK hL (by omega)]
  unfold yKk
  rw[xEC (leBytes 1 c.Kind.toNat) (leBytes 4 c.Serial.toNat++xDI c) (w:=6) (n:=c.By) (a:=1) (wi:=6) (by rw[yAI];rfl) rfl (by omega) (by omega) (by omega) (by rw[xJA];omega)]
 have g2:yBj L (mkS (yKk c)) 7 4=some (c.Serial,0,()):=by
  rw[xJK hL (by omega)]
  unfold yKk
  rw[←List.append_assoc,xEC (leBytes 1 c.Kind.toNat++leBytes 6 c.By.toNat) (xDI c) (w:=4) (n:=c.Serial) (a:=7) (wi:=4) (by simp[yAI]) rfl (by omega) (by omega) (by omega) (by rw[xPG];omega)]
 have hh:((((mkS (yKk c))[0]?).getD 0).toNat:Int)=c.Kind:=xM5 (by omega) (by omega)
 have hw:IntKind.i8.wrap c.Kind=c.Kind:=by rcases hk2 with e | e <;> rw[e] <;> rfl
 have he:(mkS (yKk c)).extract 11 (mkS (yKk c)).size=mkS []:=by
  rw[yRd,yWS]
  refine congrArg mkS (List.drop_eq_nil_of_le ?_)
  rw[hlen,hT]
  exact Nat.le_of_eq rfl
 have s0:((mkS (yKk c)).size:Int)=11:=by rw[yS3,hlen,hT];rfl
 have z0:((0:Int) !=0)=false:=rfl
 have k2:(c.Kind==2)=false:=by simp;omega
 have k3:(c.Kind==3)=false:=by simp;omega
 have k4:(c.Kind==4)=false:=by simp;omega
 have k5:(c.Kind==5)=false:=by simp;omega
 have k127:decide (127<c.Kind)=false:=decide_eq_false (by omega)
 have se:((mkS []).size:Int)=0:=rfl
 obtain⟨kd,by_,ser,dd,ws,⟨lo,hi⟩,md⟩:=c
 dsimp only at*
 have:lo=0/\hi=0/\md=0/\dd=0/\ws=0:=by omega
 obtain⟨rfl,rfl,rfl,rfl,rfl⟩:=this
 unfold yCQ yTy
 simp only[gd,gI,gB,gL,gF,gW,gA,gM,w64,s0,show decide ((11:Int)<11)=false from rfl,show decide ((0:Int)<11)=true from rfl,show decide ((11:Int)<=11)=true from rfl,cond_false,cond_true,g1,g2,yAA,z0,hh,hw,k2,k3,k4,k5,k127,he,yAr.z,hb]
 rw[beq_self_eq_true]
 rfl
end Go.Proofs.YtakljpcmbpaeaaaGreat

namespace Go.Proofs.YtakljpcmbpaeaaaGreat
open Go.RowKit
theorem xQd{l:List ByteArray}{i:Nat}{b:ByteArray}(hi:i<l.length):(l.map txV).set (0+i) (((l.map txV).getD (0+i) []).take 0++([V.str b]++((l.map txV).getD (0+i) []).drop 1))=(l.set i b).map txV:=by
 rw[Nat.zero_add,List.getD_eq_getElem?_getD,List.getElem?_map,List.getElem?_eq_getElem hi,List.map_set]
 rfl
theorem yGx{x:yAJ}(h:(yAq x).may=true):xLS x.Wait=true:=by
 have:=(Geo.may_ok h).e3
 have h2:=(Geo.may_ok h).e2
 have h1:=(Geo.may_ok h).e1
 have this:x.Wait<=1048576:=this
 have h2:x.Lease<x.Wait:=h2
 have h1:1<=x.Lease:=h1
 unfold xLS
 rw[decide_eq_true (by omega),decide_eq_true (by omega)];rfl
set_option maxHeartbeats 1000000 in
theorem xKx{L:Nat}{x:yAJ}(hm:(yAq x).may=true)(hL:200000<L):∃xb xh:Bs,yH3 1 [] xGZ (xIv (yAq x))=(xb,0)/\yH3 2 [] [6] [0]=(xh,0)/\xb.length<=512/\xh.length<=512/\yNL L x=some ((heads (yAq x) (mkS xb) (mkS xh) x.Slots.toNat).map txV,0,()):=by
 have hok:=Geo.may_ok hm
 obtain⟨xb,hxb,hxl⟩:=xN4 hok
 obtain⟨xh,hxh,hhl⟩:=xM6 (n:=0) (by omega) (by omega)
 refine⟨xb,xh,hxb,hxh,hxl,hhl,?_⟩
 have hB:yPL L x=some (mkS xb,0,()):=by
  unfold yPL yRw
  rw[yLq,hm,yAA,yAF (by rfl)]
  have:=yZ7 (L:=L) (k:=1) (rest:=noS) (ws:=xGZ) (l:=xIv (yAq x)) (by omega) (by show(8:Nat)<L;omega) (by omega) (by show(8:Nat)<=_;omega) (by show(0:Nat)<=_;omega)
  rw[show noS.data.toList= [] from rfl,hxb] at this
  exact(congrArg (fun o=>yAB o fun r2=>some (r2.1,r2.2.1,())) this).trans rfl
 have hH:yLx L 0=some (mkS xh,0,()):=by
  unfold yLx yTo
  have:=yZ7 (L:=L) (k:=2) (rest:=noS) (ws:= [6]) (l:= [0]) (by omega) (by show(1:Nat)<L;omega) (by omega) (by show(1:Nat)<=_;omega) (by show(0:Nat)<=_;omega)
  rw[show noS.data.toList= [] from rfl,hxh] at this
  exact(congrArg (fun o=>yAB o fun r1=>some (r1.1,r1.2.1,())) this).trans rfl
 have hbd:=yUf hok
 have hat:=hok.sj
 have hT:yEu L x=some (yAq x).total:=by
  rw[xNl]
  unfold Geo.totalS
  rw[if_pos hm]
 have hD0:0<(yAq x).atD:=by unfold Geo.atD;have:=hok.n1;have:=hok.l1;have:=hok.s1;omega
 generalize hn:(yAq x).total=t at*
 obtain⟨n,rfl⟩:=Int.eq_ofNat_of_zero_le (show 0<=t by omega)
 have h0n:0<n:=by omega
 unfold yNL yQa
 rw[hB,hH]
 simp only[yAA,hT,show((0:Int) !=0)=false from rfl,cond_false]
 rw[yCJ (decide_eq_true (by omega)),yCJ (decide_eq_true (by omega)),yCJ (decide_eq_true (by omega)),yCJ (decide_eq_true (by omega)),yCJ (decide_eq_true (by omega))]
 have hr:List.replicate (n:Int).toNat [V.str noS]=(List.replicate n (⟨#[]⟩:ByteArray)).map txV:=by rw[Int.toNat_natCast,List.map_replicate];rfl
 rw[hr]
 have h1:(((List.replicate n (⟨#[]⟩:ByteArray)).map txV).set 0 ((((List.replicate n (⟨#[]⟩:ByteArray)).map txV).getD 0 []).take 0++([V.str (mkS xb)]++(((List.replicate n (⟨#[]⟩:ByteArray)).map txV).getD 0 []).drop 1)))=(heads (yAq x) (mkS xb) (mkS xh) 0).map txV:=by
  have:=xQd (l:=List.replicate n (⟨#[]⟩:ByteArray)) (i:=0) (b:=mkS xb) (by rw[List.length_replicate];exact h0n)
  rw[this]
  unfold heads
  rw[hn,Int.toNat_natCast]
 rw[h1]
 have hrow:Nat.ble 1 (((List.replicate n (⟨#[]⟩:ByteArray)).map txV).getD 0 []).length=true:=by
  rw[List.getD_eq_getElem?_getD,List.getElem?_map,List.getElem?_replicate,if_pos h0n];rfl
 rw[yCJ (decide_eq_true (by rw[List.length_map,List.length_replicate];exact h0n)),yCJ hrow,yHo (by rw[List.length_map,yPB,hn]) (yQ2 _)]
 generalize mkS xb=top
 generalize mkS xh=hd
 obtain⟨s,hs⟩:=Int.eq_ofNat_of_zero_le (show 0<=x.Slots by have:=hok.s1;exact Int.le_trans (by omega) this)
 have hs16:s<=16:=by have h1:=hok.s2;have h2:=hok.n2;have h1:x.Slots<=x.Nodes:=h1;have h2:x.Nodes<=16:=h2;omega
 obtain⟨a,ha,hrun⟩:=yHW (α:=List (List V)×Int×Unit) (F:=yDq (yDI L)) (fun q=>x=q.1/\hd=q.2.1/\∃j:Nat,j<=s/\(j:Int)=q.2.2.2.1/\(heads (yAq x) top hd j).map txV=q.2.2.1) (fun q=>s-q.2.2.2.1.toNat)
  (fun a=>a.1=(heads (yAq x) top hd s).map txV) (fun q hq=>by
    obtain⟨q1,q2,q3,q4,q5⟩:=q
    dsimp only at hq
    obtain⟨rfl,rfl,j,hj,rfl,rfl⟩:=hq
    by_cases hlt:j<s
    ·have hh:(yAq x).headS j=1+2*x.Nodes+x.Log+j*(1+x.Journal):=by
       unfold Geo.headS
       rw[if_pos ⟨hm,by omega,by show(j:Int)<x.Slots;omega⟩]
       rfl
     have hle:(yAq x).headS j<n:=by
      rw[hh,←hn]
      have hb1:=hok.b1;have hp1:=hok.p1;have hj1:=hok.j1
      have e1:((j:Int)+1)*(1+x.Journal)<=x.Slots*(1+x.Journal):=Int.mul_le_mul_of_nonneg_right (by omega) (by have hj1:x.Per+2<=x.Journal:=hj1;have hp1:1<=x.Per:=hp1;omega)
      rw[Int.add_mul] at e1
      have e2:0<=x.Blocks*x.Per:=Int.mul_nonneg (by have hb1:1<=x.Blocks:=hb1;omega) (by have hp1:1<=x.Per:=hp1;omega)
      show _<1+2*x.Nodes+x.Log+x.Slots*(1+x.Journal)+x.Blocks*x.Per
      have hj1:x.Per+2<=x.Journal:=hj1
      have hp1:1<=x.Per:=hp1
      omega
     have hh0:0<=(yAq x).headS j:=by
      rw[hh]
      have:0<=(j:Int)*(1+x.Journal):=Int.mul_nonneg (by omega) (by have hj1:=hok.j1;have hp1:=hok.p1;have hj1:x.Per+2<=x.Journal:=hj1;have hp1:1<=x.Per:=hp1;omega)
      have h1:=hok.n1;have h2:=hok.l1;have h3:=hok.s1
      have h1:1<=x.Nodes:=h1
      have h2:8*x.Slots<=x.Log:=h2
      have h3:1<=x.Slots:=h3
      omega
     refine .inl ⟨(x,hd,(heads (yAq x) top hd (j+1)).map txV,((j+1:Nat):Int),()),⟨rfl,rfl,j+1,hlt,rfl,rfl⟩,by dsimp only;omega,fun kn ka=>?_⟩
     have hlen:((heads (yAq x) top hd j).map txV).length=n:=by rw[List.length_map,yPB,hn,Int.toNat_natCast]
     have hset:=xQd (l:=heads (yAq x) top hd j) (i:=((yAq x).headS j).toNat) (b:=hd) (by rw[yPB,hn];omega)
     have hHd:yDI L x j=some ((yAq x).headS j):=xKf x j
     unfold yDq
     dsimp only
     rw[yAO (decide_eq_true (by omega)),hHd,yAA,xDN hh0 (by rw[hlen];exact hle)]
     rw[hset,yCJ (decide_eq_true (by rw[hlen];omega)),yCJ (Nat.ble_eq_true_of_le (Nat.zero_le _)),yCJ (by
      rw[List.getD_eq_getElem?_getD,List.getElem?_map,List.getElem?_eq_getElem (by rw[yPB,hn];omega)];rfl),yHo (by rw[List.length_map,List.length_map,List.length_set]) (yQ2 _)]
     rw[yAh (by omega) (by omega)]
     rfl
    ·obtain rfl:j=s:=by omega
     refine .inr ⟨((heads (yAq x) top hd j).map txV,()),rfl,fun kn ka=>?_⟩
     unfold yDq
     dsimp only
     rw[yAF (decide_eq_false (by omega)),yHo rfl (yQ2 _)])
  L (x,hd,(heads (yAq x) top hd 0).map txV,0,()) ⟨rfl,rfl,0,Nat.zero_le _,rfl,rfl⟩ (by dsimp only;omega)
 rw[hrun]
 obtain⟨a1,a2⟩:=a
 dsimp only at ha ⊢
 subst ha
 rw[yU0 (by omega) (by rw[List.length_map,yPB,hn];omega) (yQ2 _),List.take_length]
 rw[show x.Slots.toNat=s by omega]
def recAt(r:yAp)(k:Int):yAp:=if r.Inst=k then r else⟨k,r.Mbal,0,noS⟩
def xIN(o:yAp)(seen:Int):yAP:=⟨o.Inst,o.Mbal,o.Bal,o.Val,max seen o.Mbal,false,false⟩
def yQB(t:yAP)(r:yAp):yAP:=
 ⟨t.Inst,t.Mbal,if r.Inst=t.Inst/\t.Best<r.Bal then r.Bal else t.Best,if r.Inst=t.Inst/\t.Best<r.Bal then r.Val else t.Val,max t.Seen r.Mbal,t.Ahead || decide (t.Inst<r.Inst),t.Lost || (decide (r.Inst=t.Inst)&&decide (t.Mbal<r.Mbal))⟩
def others(node k:Int):Int:=if k=node then k+1 else k
def xGw(p:yAH):yAH:=⟨p.Node,p.Cmd,0,0,yAp.z,⟨0,0,0,noS,p.T.Seen,false,false⟩⟩
def yUJ(t:yAP):Bool:=t.Ahead || t.Lost
def yZF(N:Int)(p:yAH)(k:Int):yAH:=
 if others p.Node k<N then⟨p.Node,p.Cmd,p.At,others p.Node k,p.Own,p.T⟩
 else if yUJ p.T then xGw p
 else if p.At=5 then⟨p.Node,p.Cmd,6,others p.Node k,p.Own,p.T⟩
 else⟨p.Node,p.Cmd,4,others p.Node k,⟨p.Own.Inst,p.Own.Mbal,p.Own.Mbal,if 0<p.T.Best then p.T.Val else p.Cmd⟩,p.T⟩
def xGx(N:Int)(p:yAH):yAH:=yZF N ⟨p.Node,p.Cmd,p.At+1,p.I,p.Own,xIN p.Own p.T.Seen⟩ 0
def yVS(N:Int)(p:yAH)(r:yAp):yAH:=yZF N ⟨p.Node,p.Cmd,p.At,p.I,p.Own,yQB p.T r⟩ (p.I+1)
structure PX where
 p:yAH
 done:Int
 ser:Int
 on:Bool
structure PW where
 rc:Int->yAp
 log:Int->Option ByteArray
 x:Int->PX
 vt:Int->Int->Option (ByteArray×Int)
 ch:Int->Int->Prop
variable (N:Int) (idn ids:ByteArray->Int)
def upd{α:Type}(f:Int->α)(n:Int)(a:α):Int->α:=fun m=>if m=n then a else f m
structure KK (W:PW) (k b m:Int):Prop where
 v:∀b' v c,b'%16=m->b<b'->W.vt k b'=some (v,c)->b<=c
 s:(W.x m).on=true->(W.x m).done=k->(W.x m).p.At=4->b<(W.x m).p.Own.Mbal->b<=(W.x m).p.T.Best
 r:(W.x m).on=true->(W.x m).done=k->(W.x m).p.At=3->b<(W.x m).p.Own.Mbal->yUJ (W.x m).p.T=false->b%16<(W.x m).p.I->b<=(W.x m).p.T.Best
structure Nd1 (W:PW) (n:Int):Prop where
 rb:0<=(W.rc n).Bal/\(W.rc n).Bal<=(W.rc n).Mbal
 rm:(W.rc n).Mbal=0\/(W.rc n).Mbal%16=n
 rl:∀j,0<=j->j<(W.rc n).Inst->W.log j≠none
 ri:0<=(W.rc n).Inst
 rv:0<(W.rc n).Bal->∃c,W.vt (W.rc n).Inst (W.rc n).Bal=some ((W.rc n).Val,c)
 d0:0<=(W.x n).done
 dl:∀j,0<=j->j<(W.x n).done->W.log j≠none
structure Nd2 (W:PW) (n:Int):Prop where
 node:(W.x n).p.Node=n
 at_:0<=(W.x n).p.At/\(W.x n).p.At<=6
 le:1<=(W.x n).p.At->(W.rc n).Inst<=(W.x n).done
 cmd:idn (W.x n).p.Cmd=n/\ids (W.x n).p.Cmd=(W.x n).ser
 a2:(W.x n).p.At=2->(W.rc n).Mbal<(W.x n).p.Own.Mbal/\(W.x n).p.Own.Mbal%16=n/\(W.x n).p.Own=⟨(W.x n).done,(W.x n).p.Own.Mbal,(recAt (W.rc n) (W.x n).done).Bal,(recAt (W.rc n) (W.x n).done).Val⟩
 a3:3<=(W.x n).p.At->(W.rc n).Inst=(W.x n).done/\(W.x n).p.Own.Inst=(W.x n).done/\(W.x n).p.Own.Mbal=(W.rc n).Mbal/\(W.x n).p.T.Inst=(W.x n).done/\(W.x n).p.T.Mbal=(W.rc n).Mbal/\(W.rc n).Mbal%16=n/\0<(W.rc n).Mbal
 a34:3<=(W.x n).p.At->(W.x n).p.At<=4->(W.rc n).Bal<(W.rc n).Mbal/\(W.rc n).Bal<=(W.x n).p.T.Best/\(yUJ (W.x n).p.T=false->(W.x n).p.T.Best<(W.rc n).Mbal)/\(0<(W.x n).p.T.Best->∃c,W.vt (W.x n).done (W.x n).p.T.Best=some ((W.x n).p.T.Val,c))
 a4:(W.x n).p.At=4->yUJ (W.x n).p.T=false/\(W.x n).p.Own.Bal=(W.rc n).Mbal/\(W.x n).p.Own.Val=(if 0<(W.x n).p.T.Best then(W.x n).p.T.Val else(W.x n).p.Cmd)
 a56:5<=(W.x n).p.At->W.rc n=(W.x n).p.Own/\(W.rc n).Bal=(W.rc n).Mbal
 a3o:(W.x n).p.At=3->W.rc n=(W.x n).p.Own
 rd:(W.x n).p.At=3\/(W.x n).p.At=5->0<=(W.x n).p.I/\(W.x n).p.I<N/\(W.x n).p.I≠n
 a5:(W.x n).p.At=5->yUJ (W.x n).p.T=false->∀m,0<=m->m<N->m≠n->m<(W.x n).p.I->KK W (W.x n).done (W.rc n).Mbal m
 a6:(W.x n).p.At=6->W.ch (W.x n).done (W.rc n).Mbal
variable {N idn ids}
theorem Nd1.mono{W W':PW}{m:Int}(h:Nd1 W m)(hr:W'.rc m=W.rc m)(hx:W'.x m=W.x m)(hl:∀k v,W.log k=some v->W'.log k=some v)(hv:∀k b p,W.vt k b=some p->W'.vt k b=some p):Nd1 W' m:=by
 have hl':∀j,W.log j≠none->W'.log j≠none:=fun j hj=>by
  cases h1:W.log j with
  | none=>exact absurd h1 hj
  | some v=>rw[hl j v h1];simp
 refine⟨by rw[hr];exact h.rb,by rw[hr];exact h.rm,fun j h1 h2=>hl' j (h.rl j h1 (by rw[hr] at h2;exact h2)),by rw[hr];exact h.ri,fun h1=>?_,by rw[hx];exact h.d0,fun j h1 h2=>hl' j (h.dl j h1 (by rw[hx] at h2;exact h2))⟩
 rw[hr] at h1 ⊢
 obtain⟨c,hc⟩:=h.rv h1
 exact⟨c,hv _ _ _ hc⟩
theorem Nd2.mono{W W':PW}{m:Int}(h:Nd2 N idn ids W m)(hr:W'.rc m=W.rc m)(hx:W'.x m=W.x m)(hv:∀k b p,W.vt k b=some p->W'.vt k b=some p)(hc:∀k b,W.ch k b->W'.ch k b)
  (hk:∀m',0<=m'->m'<N->m'≠m->(W.x m).p.At=5->KK W (W.x m).done (W.rc m).Mbal m'->KK W' (W.x m).done (W.rc m).Mbal m'):Nd2 N idn ids W' m:=by
 refine⟨?_,?_,?_,?_,?_,?_,?_,?_,?_,?_,?_,?_,?_⟩ <;> rw[hx] <;> try rw[hr]
 ·exact h.node
 ·exact h.at_
 ·exact h.le
 ·exact h.cmd
 ·exact h.a2
 ·exact h.a3
 ·intro h1 h2
  obtain⟨k1,k2,k3,k4⟩:=h.a34 h1 h2
  refine⟨k1,k2,k3,fun h3=>?_⟩
  obtain⟨c,q⟩:=k4 h3
  exact⟨c,hv _ _ _ q⟩
 ·exact h.a4
 ·exact h.a56
 ·exact h.a3o
 ·exact h.rd
 ·intro h1 h2 m' h3 h4 h5 h6
  exact hk m' h3 h4 h5 h1 (h.a5 h1 h2 m' h3 h4 h5 h6)
 ·exact fun h1=>hc _ _ (h.a6 h1)
theorem Nd2.z{W:PW}{n:Int}(hp:(W.x n).p.Node=n)(ha:(W.x n).p.At=0)(hc:idn (W.x n).p.Cmd=n/\ids (W.x n).p.Cmd=(W.x n).ser):Nd2 N idn ids W n:=
 ⟨hp,by omega,fun q=>by omega,hc,fun q=>by omega,fun q=>by omega,fun q=>by omega,fun q=>by omega,fun q=>by omega,fun q=>by omega,fun q=>by omega,fun q=>by omega,fun q=>by omega⟩
end Go.Proofs.YtakljpcmbpaeaaaGreat
