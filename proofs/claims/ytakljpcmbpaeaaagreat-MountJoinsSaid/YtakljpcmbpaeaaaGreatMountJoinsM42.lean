/- Typed functions. (printed by wip/sx) -/
import Derived.Test.YtakljpcmbpaeaaaGreatMountJoinsM36
import Derived.Test.YtakljpcmbpaeaaaGreatMountJoinsM40
import Derived.Test.YtakljpcmbpaeaaaGreatMountJoinsM41
import Derived.Test.YtakljpcmbpaeaaaGreatMountJoinsM37
import Derived.Test.YtakljpcmbpaeaaaGreatMountJoinsM38
import Derived.Test.YtakljpcmbpaeaaaGreatMountJoinsM39
import Derived.Test.YtakljpcmbpaeaaaGreatMountJoinsM34
import Derived.Test.YtakljpcmbpaeaaaGreatMountJoinsM01
set_option linter.unusedSimpArgs false
set_option linter.unusedVariables false
namespace Go.Proofs.YtakljpcmbpaeaaaGreat
open Go.RowKit
end Go.Proofs.YtakljpcmbpaeaaaGreat



namespace Go.Proofs.YtakljpcmbpaeaaaGreat
open Go.RowKit
theorem xNY{L:Nat}(n:Int):yEC L n=some (decide (1<=n/\n<=6)):=by
 unfold yEC yNT
 by_cases h1:1<=n
 ·rw[yAT (decide_eq_true h1)]
  congr 1
  exact decide_eq_decide.2 ⟨fun h=>⟨h1,h⟩,fun h=>h.2⟩
 ·rw[yAJ (decide_eq_false h1),decide_eq_false fun h=>h1 h.1]
theorem yR5{L:Nat}(hL:10<L){s:ByteArray}(hs:s.size<=1000000000)(a n:Int):yBX L s a n=some ((yOI s.data.toList a n).1,(yOI s.data.toList a n).2,()):=by
 unfold yBX yX0
 rw[xNY,yAB]
 by_cases hn:1<=n/\n<=6
 ·rw[decide_eq_true hn,Bool.not_true,cond_false]
  by_cases h0:a<0
  ·rw[yAT (decide_eq_true h0),yPQ hn (by omega)]
  rw[yAJ (decide_eq_false h0)]
  by_cases h1:(s.size:Int)<a
  ·rw[yAT (decide_eq_true h1),yPQ hn (by rw[yBW];omega)]
  rw[yAJ (decide_eq_false h1),yAY (by omega) (by omega)]
  by_cases h2:(s.size:Int)-a<n
  ·rw[yAT (decide_eq_true h2),yPQ hn (by rw[yBW];omega)]
  rw[yAJ (decide_eq_false h2)]
  obtain⟨b,rfl⟩:=Int.eq_ofNat_of_zero_le (show 0<=a by omega)
  obtain⟨v,rfl⟩:=Int.eq_ofNat_of_zero_le (show 0<=n by omega)
  obtain⟨q,hq,hrun⟩:=yJg (α:=Int×Int×Unit) (F:=yKb) (fun q=>∃k:Nat,k<=v/\q=(s,(b:Int),((le ((s.data.toList.drop b).take k):Nat):Int),(v:Int),(k:Int),())) (fun q=>v-q.2.2.2.2.1.toNat) (fun q=>q=(((le ((s.data.toList.drop b).take v):Nat):Int),()))
   (fun q hq=>by
     obtain⟨k,hk,rfl⟩:=hq
     by_cases hlt:k<v
     ·have hb:b+k<s.size:=by omega
      refine .inl ⟨_,⟨k+1,hlt,rfl⟩,by dsimp only;omega,fun kn ka=>?_⟩
      unfold yKb
      dsimp only
      rw[yAT (decide_eq_true (by omega)),yAY (by omega) (by omega),yW9 (by omega) (by omega),yAY (n:=8*(k:Int)) (by omega) (by omega),yCM (by rw[decide_eq_false (by omega)];rfl),show((b:Int)+k).toNat=b+k by omega,yAY (n:=(k:Int)+1) (by omega) (by omega)]
      have e:=xKY s b k hb (by omega)
      have e2:(((s[b+k]?).getD 0).toNat:Int)=((s[b+k].toNat:Nat):Int):=by simp[hb]
      have ew:∀n,RowKit.wrap64 n=IntKind.i64.wrap n:=fun n=>by rw[IntKind.wrap_i64];unfold RowKit.wrap64;omega
      rw[ew,ew] at e
      rw[e2,←e,show min (8*(k:Int)).toNat IntKind.i64.bits=8*k from by show min _ 64=_;omega]
      rfl
     ·obtain rfl:k=v:=by omega
      refine .inr ⟨_,rfl,fun kn ka=>?_⟩
      unfold yKb
      dsimp only
      rw[yAJ (decide_eq_false (by omega))])
   L (s,(b:Int),0,(v:Int),0,()) ⟨0,Nat.zero_le _,by simp[le]⟩ (by dsimp only;omega)
  subst hq
  rw[hrun]
  dsimp only
  have h3:b+v<=s.data.toList.length:=by rw[yBW];omega
  by_cases hbig:le ((s.data.toList.drop b).take v)<=1099511627776
  ·rw[yAJ (decide_eq_false (by omega)),yU6 (by omega) h3 hbig]
  ·rw[yAT (decide_eq_true (by omega)),xGD (by omega) h3 hbig]
 ·rw[decide_eq_false hn,xGC hn];rfl
theorem xA4{a b:Int}:yL4 false a b=min a b:=by
 unfold yL4
 simp only[Bool.false_eq_true,if_false]
 split <;> omega
theorem yXy{L:Nat}(hL:10<L)(n:Int):yEv L n=some (if 1<=n/\n<=6 then((yQe n.toNat:Nat):Int) else -1):=by
 unfold yEv yRK
 by_cases h1:n<1
 ·rw[yAT (decide_eq_true h1),if_neg (by omega)]
 rw[yAJ (decide_eq_false h1)]
 by_cases h2:6<n
 ·rw[yAT (decide_eq_true h2),if_neg (by omega)]
 rw[yAJ (decide_eq_false h2),if_pos (by omega)]
 obtain⟨v,rfl⟩:=Int.eq_ofNat_of_zero_le (show 0<=n by omega)
 obtain⟨q,hq,hrun⟩:=yJg (α:=Int) (F:=yFY) (fun q=>∃k:Nat,k<=v/\q=((v:Int),((256^k:Nat):Int),(k:Int),())) (fun q=>v-q.2.2.1.toNat) (fun q=>q=(((256^v:Nat):Int),()))
  (fun q hq=>by
    obtain⟨k,hk,rfl⟩:=hq
    by_cases hlt:k<v
    ·have hp:=xDN k (by omega)
     refine .inl ⟨_,⟨k+1,hlt,rfl⟩,by dsimp only;omega,fun kn ka=>?_⟩
     unfold yFY
     dsimp only
     have e:((256^(k+1):Nat):Int)=((256^k:Nat):Int)*256:=by rw[Nat.pow_succ];rfl
     rw[yAT (decide_eq_true (by omega)),e]
     generalize 256^k=p at*
     rw[yAY (by omega) (by omega),yAY (n:=(k:Int)+1) (by omega) (by omega)]
     rfl
    ·obtain rfl:k=v:=by omega
     refine .inr ⟨_,rfl,fun kn ka=>?_⟩
     unfold yFY
     dsimp only
     rw[yAJ (decide_eq_false (by omega))])
  L ((v:Int),1,0,()) ⟨0,Nat.zero_le _,rfl⟩ (by dsimp only;omega)
 subst hq
 rw[hrun]
 have hp:=xDN v (by omega)
 have hp0:0<256^v:=Nat.pow_pos (by omega)
 dsimp only
 rw[xA4,yAY (by omega) (by omega),Int.toNat_natCast]
 congr 1
 unfold yQe
 omega
theorem xIc{L:Nat}(hL:10<L)(a n:Int):yI1 L a n=some (yHn a n):=by
 unfold yI1 yRJ yHn
 rw[yXy hL]
 by_cases h0:0<=a
 ·rw[yAT (decide_eq_true h0),yAB]
  congr 1
  refine decide_eq_decide.2 ?_
  by_cases hn:1<=n/\n<=6
  ·rw[if_pos hn]
   exact⟨fun h=>⟨hn.1,hn.2,h0,h⟩,fun h=>h.2.2.2⟩
  ·rw[if_neg hn]
   exact⟨fun h=>by omega,fun h=>absurd ⟨h.1,h.2.1⟩ hn⟩
 ·rw[yAJ (decide_eq_false h0),decide_eq_false fun h=>h0 h.2.2.1]
theorem xC1(l:Bs)(a v j:Nat)(hj:j<v)(h:a+v<=l.length):le ((l.drop (a+j)).take (v-j))=(l[a+j]'(by omega)).toNat+256*le ((l.drop (a+(j+1))).take (v-(j+1))):=by
 rw[List.drop_eq_getElem_cons (by omega),show v-j=v-(j+1)+1 by omega,List.take_succ_cons]
 rfl
theorem xJI{L:Nat}(hL:10<L){s:ByteArray}(hs:s.size<=1000000000)(a n:Int):yAv L s a n=some ((yOI s.data.toList a n).1,(yOI s.data.toList a n).2,()):=by
 unfold yAv yS0
 rw[yXy hL,yAB]
 by_cases hn:1<=n/\n<=6
 ·rw[if_pos hn,yAJ (decide_eq_false (by omega))]
  by_cases h0:a<0
  ·rw[yAT (decide_eq_true h0),yPQ hn (by omega)]
  rw[yAJ (decide_eq_false h0)]
  by_cases h1:(s.size:Int)<a
  ·rw[yAT (decide_eq_true h1),yPQ hn (by rw[yBW];omega)]
  rw[yAJ (decide_eq_false h1),yAY (by omega) (by omega)]
  by_cases h2:(s.size:Int)-a<n
  ·rw[yAT (decide_eq_true h2),yPQ hn (by rw[yBW];omega)]
  rw[yAJ (decide_eq_false h2),yAY (by omega) (by omega)]
  obtain⟨b,rfl⟩:=Int.eq_ofNat_of_zero_le (show 0<=a by omega)
  obtain⟨v,rfl⟩:=Int.eq_ofNat_of_zero_le (show 0<=n by omega)
  have h3:b+v<=s.data.toList.length:=by rw[yBW];omega
  obtain⟨q,hq,hrun⟩:=yJg (α:=Int×Int×Unit) (F:=yGj) (fun q=>∃k:Nat,k<=v/\q=(s,(b:Int),((le ((s.data.toList.drop (b+k)).take (v-k)):Nat):Int),(k:Int)-1,())) (fun q=>(q.2.2.2.1+1).toNat) (fun q=>q=(((le ((s.data.toList.drop b).take v):Nat):Int),()))
   (fun q hq=>by
     obtain⟨k,hk,rfl⟩:=hq
     cases k with
     | succ k=>
       have hb:b+k<s.size:=by omega
       refine .inl ⟨_,⟨k,by omega,rfl⟩,by dsimp only;omega,fun kn ka=>?_⟩
       have h4:=yR3 s.data.toList (b+(k+1)) (v-(k+1))
       have h5:=Nat.pow_le_pow_right (n:=256) (by omega) (show v-(k+1)<=5 by omega)
       have h6:=(s.data.toList[b+k]'(by rw[yBW];omega)).toNat_lt
       unfold yGj
       dsimp only
       rw[show((k+1:Nat):Int)-1=k by omega,yAT (decide_eq_true (by omega)),yAY (n:=(b:Int)+k) (by omega) (by omega),yW9 (by omega) (by omega),show((b:Int)+k).toNat=b+k by omega,xEU hb,yAY (n:=(k:Int)-1) (by omega) (by omega),
        yAY (n:=((le ((s.data.toList.drop (b+(k+1))).take (v-(k+1))):Nat):Int)*256) (by omega) (by omega),yAY (n:=((s.data.toList[b+k]'(by rw[yBW];omega)).toNat:Int)) (by omega) (by omega),yAY (by omega) (by omega),xC1 _ _ _ k (by omega) h3]
       rw[show((((s.data.toList[b+k]'(by rw[yBW];omega)).toNat+256*le ((s.data.toList.drop (b+(k+1))).take (v-(k+1))):Nat)):Int)=((le ((s.data.toList.drop (b+(k+1))).take (v-(k+1))):Nat):Int)*256+((s.data.toList[b+k]'(by rw[yBW];omega)).toNat:Int) by omega]
     | zero=>
       refine .inr ⟨_,rfl,fun kn ka=>?_⟩
       unfold yGj
       dsimp only
       rw[yAJ (decide_eq_false (by omega))]
       rfl)
   L (s,(b:Int),0,(v:Int)-1,()) ⟨v,Nat.le_refl _,by rw[Nat.sub_self];rfl⟩ (by dsimp only;omega)
  subst hq
  rw[hrun]
  dsimp only
  by_cases hbig:le ((s.data.toList.drop b).take v)<=1099511627776
  ·rw[yAJ (decide_eq_false (by omega)),yU6 (by omega) h3 hbig]
  ·rw[yAT (decide_eq_true (by omega)),xGD (by omega) h3 hbig]
 ·rw[if_neg hn,xGC hn];rfl
theorem xNy(n:Nat): [[V.int .u8 (IntKind.u8.wrap ((n:Int).tmod 256))]]= [UInt8.ofNat (n%256)].map byV:=by
 have h:(UInt8.ofNat (n%256)).toNat=n%256:=by simp
 have e:IntKind.u8.wrap ((n:Int).tmod 256)=((UInt8.ofNat (n%256)).toNat:Int):=by
  rw[h,IntKind.wrap_u8,Int.tmod_eq_emod_of_nonneg (by omega)];omega
 rw[e];rfl
theorem xKO{α β:Type}(f:α->β)(l:List α)(a:α):l.map f++ [a].map f=(l++ [a]).map f:=by simp
set_option maxHeartbeats 1000000 in
theorem xBG{L:Nat}(hL:10<L){b:Bs}{l:List Int}(n:Int)(hb:b.length+6*l.length<=1000000)(hl:l.length<L):yCX L (b.map byV) n (l.map inV)=some ((yWf b n l).1.map byV,(yWf b n l).2,()):=by
 unfold yCX yS1
 rw[yXy hL,yAB]
 by_cases hn:¬(1<=n/\n<=6)
 ·rw[if_neg hn,yAT (decide_eq_true (by omega))]
  unfold yWf xGJ
  rw[if_neg fun h=>hn h.1]
  rfl
 replace hn:1<=n/\n<=6:=Decidable.not_not.1 hn
 rw[if_pos hn,yAJ (decide_eq_false (by omega)),yCM (yYd 1 fun _=>rfl),xCG (by rw[List.length_map];omega) (by rw[List.length_map];omega),yHo (Nat.zero_add _) (yPW _)]
 obtain⟨v,rfl⟩:=Int.eq_ofNat_of_zero_le (show 0<=n by omega)
 have inner:∀(pre:Bs) (x:Nat) (i:Int) (ka:yLY->Option (List (List V)×Int×Unit)),pre.length+6<=1000000->x<=1099511627776->yBV yDA L ((v:Int),l.map inV,pre.map byV,i,(x:Int),0,()) ka=ka ((v:Int),l.map inV,(pre++leBytes v x).map byV,i,()):=fun pre x i ka hp hxb=>by
  obtain⟨q,hq,hrun⟩:=yJg (α:=List (List V)×Int×Unit) (F:=yDA) (fun q=>∃k:Nat,k<=v/\q=((v:Int),l.map inV,(pre++leBytes k x).map byV,i,((x/256^k:Nat):Int),(k:Int),())) (fun q=>v-q.2.2.2.2.2.1.toNat) (fun q=>q=((v:Int),l.map inV,(pre++leBytes v x).map byV,i,()))
   (fun q hq=>by
     obtain⟨k,hk,rfl⟩:=hq
     have hlen:(pre++leBytes k x).length=pre.length+k:=by rw[List.length_append,yAD]
     by_cases hlt:k<v
     ·refine .inl ⟨_,⟨k+1,hlt,rfl⟩,by dsimp only;omega,fun kn ka=>?_⟩
      unfold yDA
      dsimp only
      rw[yAT (decide_eq_true (by omega)),yCM (by rw[Nat.zero_add];exact Nat.beq_refl _),xCG (by rw[List.length_map];omega) (by rw[List.length_map];omega),xNy,xKO,yHo (by simp[Nat.add_assoc]) (yPW _),yAY (n:=(k:Int)+1) (by omega) (by omega),List.append_assoc,←yV1]
      have hd:((x/256^k:Nat):Int).tdiv 256=((x/256^(k+1):Nat):Int):=by
       rw[Int.tdiv_eq_ediv_of_nonneg (Int.natCast_nonneg _),Nat.pow_succ,←Nat.div_div_eq_div_mul]
       rfl
      rw[hd]
      have hx:x/256^(k+1)<=x:=Nat.div_le_self _ _
      generalize x/256^(k+1)=z at*
      rw[yAY (by omega) (by omega)]
      rfl
     ·obtain rfl:k=v:=by omega
      refine .inr ⟨_,rfl,fun kn ka=>?_⟩
      unfold yDA
      dsimp only
      rw[yAJ (decide_eq_false (by omega)),yHo rfl (yPW _)])
   L ((v:Int),l.map inV,pre.map byV,i,(x:Int),0,()) ⟨0,Nat.zero_le _,by simp[leBytes]⟩ (by dsimp only;omega)
  subst hq
  exact hrun ka
 have hr:=yNQ (α:=List (List V)×Int×Unit) (F:=yFO (yI1 L) (yBV yDA L)) (fun q=>∃k:Nat,k<=l.length/\(∀j (h:j<l.length),j<k->yHn l[j] v=true)/\q=((v:Int),l.map inV,(b++yH2 v (l.take k)).map byV,(k:Int),())) (fun q=>l.length-q.2.2.2.1.toNat)
  (fun q=>(∀j (h:j<l.length),yHn l[j] v=true)/\q=((b++yH2 v l).map byV,())) (fun q=>(∃j,∃h:j<l.length,yHn l[j] v=false)/\q=([],2,()))
  (fun q hq=>by
    obtain⟨k,hk,hf,rfl⟩:=hq
    have hpl:(b++yH2 v (l.take k)).length=b.length+v*k:=by rw[List.length_append,yUE,List.length_take,Nat.min_eq_left hk]
    by_cases hlt:k<l.length
    ·by_cases hfit:yHn l[k] v=true
     ·refine .inl ⟨_,⟨k+1,hlt,fun j h hj=>?_,rfl⟩,by dsimp only;omega,fun kn ka kb=>?_⟩
      ·rcases Nat.lt_or_ge j k with h' | h'
       ·exact hf j h h'
       ·obtain rfl:j=k:=by omega
        exact hfit
      ·have hfl:=of_decide_eq_true hfit
       obtain⟨x,hx⟩:=Int.eq_ofNat_of_zero_le hfl.2.2.1
       have hxl:=yXn (n:=x) (w:=v) (by rw[←hx];exact hfit)
       have hvk:v*k+6<=6*l.length:=by
        have:v*k<=6*k:=Nat.mul_le_mul_right _ (by omega)
        omega
       unfold yFO
       dsimp only
       rw[yAT (decide_eq_true (by rw[List.length_map];omega)),yQ2 (by omega) (by omega),Int.toNat_natCast,yUr hlt,xIc hL,yAB,hfit,Bool.not_true,cond_false]
       rw[yQ2 (by omega) (by omega),yHo rfl (yPW _),hx,inner _ x _ _ (by rw[hpl];omega) hxl.2.1]
       dsimp only
       rw[yHo rfl (yPW _),yAY (by omega) (by omega),List.append_assoc,List.take_succ_eq_append_getElem hlt,yYA,hx]
       rfl
     ·refine .inr (.inr ⟨_,⟨⟨k,hlt,by simpa using hfit⟩,rfl⟩,fun kn ka kb=>?_⟩)
      unfold yFO
      dsimp only
      rw[yAT (decide_eq_true (by rw[List.length_map];omega)),yQ2 (by omega) (by omega),Int.toNat_natCast,yUr hlt,xIc hL,yAB,show yHn l[k] v=false by simpa using hfit]
      rfl
    ·obtain rfl:k=l.length:=by omega
     refine .inr (.inl ⟨_,⟨fun j h=>hf j h h,rfl⟩,fun kn ka kb=>?_⟩)
     unfold yFO
     dsimp only
     rw[yAJ (decide_eq_false (by rw[List.length_map];omega)),yHo rfl (yPW _),List.take_length])
  L ((v:Int),l.map inV,b.map byV,0,()) ⟨0,Nat.zero_le _,fun j _ h=>absurd h (Nat.not_lt_zero _),by simp[yH2]⟩ (by dsimp only;omega)
 unfold yWf
 rcases hr with ⟨q,⟨h1,rfl⟩,hrun⟩ | ⟨q,⟨⟨j,hj,h1⟩,rfl⟩,hrun⟩
 ·rw[hrun,yVH (by omega) (by omega) h1]
  dsimp only
  rw[yHo rfl (yPW _)]
 ·rw[hrun,xGK hj h1]
  dsimp only
  rw[yHo rfl rfl]
  rfl
theorem xOw(x:Nat)(h:x<4294967296):IntKind.i64.wrap ((BitVec.ofInt IntKind.i64.bits (x:Int) &&& BitVec.ofInt IntKind.i64.bits 1).toNat:Int)=((x%2:Nat):Int):=by
 have:=ySs x 1 (by omega) (by omega)
 rw[Nat.and_one_is_mod] at this
 exact this
theorem xOD(x:Nat)(h:x<4294967296):IntKind.i64.wrap ((BitVec.ofInt IntKind.i64.bits (x:Int) &&& BitVec.ofInt IntKind.i64.bits 4294967295).toNat:Int)=(x:Int):=by
 have:=ySs x 4294967295 (by omega) (by omega)
 rw[show(4294967295:Nat)=2^32-1 from rfl,Nat.and_two_pow_sub_one_eq_mod,Nat.mod_eq_of_lt (by omega)] at this
 exact this
theorem xMx(x y:Nat)(h:x<4294967296)(h':y<4294967296):IntKind.i64.wrap ((BitVec.ofInt IntKind.i64.bits (x:Int) ^^^ BitVec.ofInt IntKind.i64.bits (y:Int)).toNat:Int)=((x ^^^ y:Nat):Int):=xEq x y (by omega) (by omega)
theorem xOz(x:Nat):(x:Int).fdiv (2^(min (1:Int).toNat IntKind.i64.bits))=((x/2:Nat):Int):=by
 show(x:Int).fdiv ((2:Int)^(min 1 64))=_
 rw[show((2:Int)^(min 1 64))=2 from rfl,Int.fdiv_eq_ediv_of_nonneg _ (by omega)]
 omega
theorem xKl{L x:Nat}(h:x<4294967296):yDY L (x:Int)=some ((step x:Nat):Int):=by
 unfold yDY yRN
 rw[xOw x h,xOz]
 unfold step
 rcases Nat.mod_two_eq_zero_or_one x with hm | hm
 ·rw[hm,if_neg (by omega)];rfl
 ·rw[hm,if_pos rfl]
  have:=xMx (x/2) 2197175160 (by omega) (by omega)
  exact congrArg some this
theorem xKj{L x:Nat}(hL:10<L)(h:x<4294967296):yI3 L (x:Int) 1=some ((steps 8 x:Nat):Int):=by
 unfold yI3 yRL
 rw[xOD x h]
 obtain⟨M,rfl⟩:∃M,L=M+2:=⟨L-2,by omega⟩
 have F:∀(m:Nat) (s:yGl) (ka:yJm->Option Int),yBV (yDP (yBV (yCT (yDY (M+2))) (M+2))) (m+1) s ka=yDP (yBV (yCT (yDY (M+2))) (M+2)) s (fun s'=>yBV (yDP (yBV (yCT (yDY (M+2))) (M+2))) m s' ka) ka:=fun _ _ _=>rfl
 rw[F]
 unfold yDP
 dsimp only
 rw[yAT (decide_eq_true (by omega))]
 obtain⟨q,hq,hrun⟩:=yJg (α:=Int) (F:=yCT (yDY (M+2))) (fun q=>∃k:Nat,k<=8/\q=(((steps k x:Nat):Int),1,0,(k:Int),())) (fun q=>8-q.2.2.2.1.toNat) (fun q=>q=(((steps 8 x:Nat):Int),1,0,()))
  (fun q hq=>by
    obtain⟨k,hk,rfl⟩:=hq
    by_cases hlt:k<8
    ·refine .inl ⟨_,⟨k+1,hlt,rfl⟩,by dsimp only;omega,fun kn ka=>?_⟩
     unfold yCT
     dsimp only
     rw[yAT (decide_eq_true (by omega)),xKl (yUl k h),yAB,yAY (by omega) (by omega)]
     rfl
    ·obtain rfl:k=8:=by omega
     refine .inr ⟨_,rfl,fun kn ka=>?_⟩
     unfold yCT
     dsimp only
     rw[yAJ (decide_eq_false (by omega))])
  (M+2) ((x:Int),1,0,0,()) ⟨0,Nat.zero_le _,rfl⟩ (by dsimp only;omega)
 subst hq
 rw[hrun]
 dsimp only
 rw[yAY (by omega) (by omega)]
 show yBV _ (M+1) _ _=_
 rw[F]
 unfold yDP
 dsimp only
 rw[yAJ (decide_eq_false (by omega))]
theorem xMZ{L:Nat}{b:Bs}(hL:10<L)(hb:b.length<L)(hl:b.length<=1000000000):yRM L (b.map byV)=some (yJY b:Int):=by
 unfold yRM yS3 yUI yS2
 obtain⟨q,hq,hrun⟩:=yJg (α:=Int) (F:=yGk (yI3 L)) (fun q=>∃k:Nat,k<=b.length/\q=(b.map byV,((yMi 4294967295 (b.take k):Nat):Int),(k:Int),())) (fun q=>b.length-q.2.2.1.toNat) (fun q=>q=(((yMi 4294967295 b:Nat):Int),()))
  (fun q hq=>by
    obtain⟨k,hk,rfl⟩:=hq
    have hx:=yQz (x:=4294967295) (by omega) (b.take k)
    by_cases hlt:k<b.length
    ·refine .inl ⟨_,⟨k+1,hlt,rfl⟩,by dsimp only;omega,fun kn ka=>?_⟩
     have hc:=b[k].toNat_lt
     have hxx:yMi 4294967295 (b.take k) ^^^ b[k].toNat<4294967296:=Nat.xor_lt_two_pow (n:=32) (by omega) (by omega)
     unfold yGk
     dsimp only
     rw[yAT (decide_eq_true (by rw[List.length_map];omega)),xOI (by omega) (by omega),Int.toNat_natCast,xOC hlt,yAY (n:=(b[k].toNat:Int)) (by omega) (by omega),xMx _ _ hx (by omega),xKj hL hxx,yAB,yAY (by omega) (by omega),List.take_succ_eq_append_getElem hlt,yXe]
     rfl
    ·obtain rfl:k=b.length:=by omega
     refine .inr ⟨_,rfl,fun kn ka=>?_⟩
     unfold yGk
     dsimp only
     rw[yAJ (decide_eq_false (by rw[List.length_map];omega)),List.take_length])
  L (b.map byV,4294967295,0,()) ⟨0,Nat.zero_le _,rfl⟩ (by dsimp only;omega)
 subst hq
 have h0:IntKind.i64.wrap ((BitVec.ofInt IntKind.i64.bits (IntKind.i64.wrap ((BitVec.ofInt IntKind.i64.bits 0 &&& BitVec.ofInt IntKind.i64.bits 4294967295).toNat:Int)) ^^^ BitVec.ofInt IntKind.i64.bits 4294967295).toNat:Int)=4294967295:=by decide +kernel
 rw[h0,hrun]
 dsimp only
 have:=xMx (yMi 4294967295 b) 4294967295 (yQz (by omega) _) (by omega)
 exact congrArg some this
theorem xEz{L:Nat}{b:Bs}{l:List Int}(n:Int)(hb:b.length+6*l.length<=1000000):yIf L (b.map byV) n (l.map inV)=some ((yWf b n l).1.map byV,(yWf b n l).2,()):=by
 unfold yIf
 rw[xBq xLI,xBq xNS,xGR xIH,xGR xNT,List.length_map,List.length_map,Nat.ble_eq_true_of_le (by omega)]
 rfl
theorem xLL{L:Nat}{b:Bs}(hb:b.length<=1000000000):ySp L (b.map byV)=some (yJY b:Int):=by
 unfold ySp
 rw[xBq xLI,xGR xIH,List.length_map,Nat.ble_eq_true_of_le hb]
 rfl
theorem data_extract(s:ByteArray)(a b:Nat):(s.extract a b).data.toList=(s.data.toList.drop a).take (b-a):=by
 rw[ByteArray.data_extract,Array.toList_extract]
theorem extract_mk(s:ByteArray)(a b:Nat):s.extract a b=mkS ((s.data.toList.drop a).take (b-a)):=by
 rw[←data_extract,xKP]
theorem toList_mk(b:Bs):(mkS b).toList=b:=by rw[ByteArray.toList_eq];simp[mkS]
theorem xK1(s:ByteArray):s.toList=s.data.toList:=by rw[ByteArray.toList_eq]
theorem xIv{k:Int}(h1:1<=k)(h2:k<=127): [[V.int .u8 (IntKind.u8.wrap k)]]= [UInt8.ofNat k.toNat].map byV:=by
 have e:IntKind.u8.wrap k=((UInt8.ofNat k.toNat).toNat:Int):=by
  rw[IntKind.wrap_u8,UInt8.toNat_ofNat']
  omega
 rw[e];rfl
theorem xNm{k:Int}{n:Nat}(hn:n<=505):yWf [UInt8.ofNat k.toNat] 2 [(n:Int)]=([UInt8.ofNat k.toNat]++leBytes 2 n,0):=by
 unfold yWf
 rw[show(2:Int)=((2:Nat):Int) from rfl,yVH (by omega) (by omega) fun j h=>by
  have:j=0:=by simpa using h
  subst this
  exact decide_eq_true (by simp[yQe];omega)]
 simp[yH2]
theorem xOO{b:Bs}{n:Nat}(hn:n<4294967296):yWf b 4 [(n:Int)]=(b++leBytes 4 n,0):=by
 unfold yWf
 rw[show(4:Int)=((4:Nat):Int) from rfl,yVH (by omega) (by omega) fun j h=>by
  have:j=0:=by simpa using h
  subst this
  exact decide_eq_true (by simp[yQe];omega)]
 simp[yH2]
theorem xF1(a:Bs)(s:ByteArray):a.map byV++yCe s=(a++s.data.toList).map byV:=by rw[yXF,List.map_append]
theorem yOC{α:Type}(l:List α){n:Nat}(h:n=l.length):l.take n=l:=by rw[h,List.take_length]
theorem xJd{L:Nat}{k:Int}{rows:List (List V)}{s:ByteArray}(hk:k<=127)(hr:yCF rows=true):∃y,yCf L (rows,0,k,()) s=some ((mkS (ySG k s.data.toList).1,(ySG k s.data.toList).2,()),y):=by
 unfold yCf yHr
 dsimp only
 by_cases h1:k<1
 ·rw[yAT (decide_eq_true h1),yHo rfl hr,yUe (by omega)]
  exact⟨_,rfl⟩
 rw[yAJ (decide_eq_false h1)]
 by_cases h2:505<(s.size:Int)
 ·rw[yAT (decide_eq_true h2),yHo rfl hr,yUe (by rw[yBW];omega)]
  exact⟨_,rfl⟩
 rw[yAJ (decide_eq_false h2),xIv (by omega) hk]
 have hl:s.data.toList.length=s.size:=yBW s
 have hin: [[V.int .i64 (s.size:Int)]]= [(s.size:Int)].map inV:=rfl
 rw[hin,xEz 2 (by simp),xNm (by omega),yAB]
 dsimp only
 have hh: [UInt8.ofNat k.toNat]++leBytes 2 s.size++s.data.toList=yCA k s.data.toList:=by simp[yCA,hl]
 have hlen:=yE1 k s.data.toList
 have e1:(([UInt8.ofNat k.toNat]++leBytes 2 s.size).map byV).length+(yCe s).length=(yCA k s.data.toList).length:=by
  rw[yXF,List.length_map,List.length_map,←List.length_append,hh]
 rw[show((0:Int) !=0)=false from rfl,cond_false,xF1,hh,e1,yCM (by rw[Nat.zero_add];exact Nat.beq_refl _),xCG (by omega) (by omega),ySB (by simp) (by omega) (yPW _),yOC _ (by simp),xLL (by omega),yAB,ySB (by simp) (by omega) (yPW _)]
 have hin2: [[V.int .i64 (yJY (yCA k s.data.toList):Int)]]= [(yJY (yCA k s.data.toList):Int)].map inV:=rfl
 rw[hin2,xEz 4 (by simp;omega),xOO (yXf _),yAB]
 dsimp only
 rw[show((0:Int) !=0)=false from rfl,cond_false,yCM (by rw[Nat.zero_add];exact Nat.ble_eq_true_of_le (Nat.le_refl _)),yOC _ rfl,yCM (yOl _),yHo rfl (yPW _),yHx,yUf (by omega) (by omega)]
 exact⟨_,rfl⟩
theorem xIr{n:Nat}(h:n<=127):IntKind.i8.wrap (n:Int)=n:=by
 simp[IntKind.wrap,IntKind.bits,IntKind.signed]
 split <;> omega
theorem xMS{L:Nat}(hL:10<L){s:ByteArray}(hs:s.size<=1000000000):yRp L s=some ((yEt s.data.toList).1,mkS (yEt s.data.toList).2.1,(yEt s.data.toList).2.2,()):=by
 have hl:s.data.toList.length=s.size:=yBW s
 have hno:∀h:yEt s.data.toList=(0,[],30),some ((0:Int),noS,(30:Int),())=some ((yEt s.data.toList).1,mkS (yEt s.data.toList).2.1,(yEt s.data.toList).2.2,()):=fun h=>by rw[h];rfl
 unfold yRp yTK
 rw[yR5 hL hs,yAB]
 by_cases h3:s.size<3
 ·rw[yPQ (by omega) (by omega)]
  exact hno (ySy (by omega))
 have hg:=yR3 s.data.toList 1 2
 have hget:yOI s.data.toList 1 2=(((le ((s.data.toList.drop 1).take 2):Nat):Int),0):=yU6 (a:=1) (w:=2) (by omega) (by omega) (by omega)
 rw[hget]
 dsimp only
 generalize hn:le ((s.data.toList.drop 1).take 2)=n at*
 rw[show((0:Int) !=0)=false from rfl,cond_false,yAY (n:=3+(n:Int)) (by omega) (by omega),yAY (by omega) (by omega)]
 by_cases h4:¬(s.size:Int)=3+n+4
 ·rw[yAT (bne_iff_ne.2 h4)]
  by_cases h7:s.size<7
  ·exact hno (ySy (by omega))
  ·exact hno (xJB (by omega) (by rw[hn];omega))
 replace h4:(s.size:Int)=3+n+4:=Decidable.not_not.1 h4
 rw[yAJ (by rw[h4];exact bne_self_eq_false _)]
 by_cases h5:505<(n:Int)
 ·rw[yAT (decide_eq_true h5)]
  exact hno (xAJ (by omega))
 have hb:(((s[0]?).getD 0).toNat:Int)=((s.data.toList.getD 0 0).toNat:Int):=by
  rw[xEU (by omega),List.getD_eq_getElem?_getD,List.getElem?_eq_getElem (by omega)];rfl
 rw[yAJ (decide_eq_false h5),yCM (decide_eq_true (by omega)),hb]
 by_cases h6:(s.data.toList.getD 0 0).toNat=0
 ·rw[yAT (by rw[h6];rfl)]
  exact hno (xAK h6)
 rw[yAJ (beq_eq_false_iff_ne.2 (by omega)),yCM (decide_eq_true (by omega))]
 by_cases h7:127<(s.data.toList.getD 0 0).toNat
 ·rw[yAT (decide_eq_true (by omega))]
  exact hno (xDI h7)
 have hg4:=yR3 s.data.toList (3+n) 4
 have hget4:yOI s.data.toList (3+(n:Int)) 4=(((le ((s.data.toList.drop (3+n)).take 4):Nat):Int),0):=yU6 (a:=3+n) (w:=4) (by omega) (by omega) (by omega)
 have hd4:(s.data.toList.drop (3+n)).take 4=s.data.toList.drop (s.data.toList.length-4):=by
  rw[show s.data.toList.length-4=3+n by omega]
  exact List.take_of_length_le (by rw[List.length_drop];omega)
 have hex:yCe (s.extract 0 (3+n))=(s.data.toList.take (s.data.toList.length-4)).map byV:=by
  rw[yXF,data_extract,List.drop_zero,show 3+n-0=s.data.toList.length-4 by omega]
 have hes:(s.extract 0 (3+n)).size=3+n:=by rw[ByteArray.size_extract];omega
 have htl:(s.data.toList.take (s.data.toList.length-4)).length=3+n:=by rw[List.length_take];omega
 rw[yAJ (decide_eq_false (by omega)),yR5 hL hs,hget4,yAB,yCM (decide_eq_true (by omega)),yCM (decide_eq_true (by omega)),show(3+(n:Int)).toNat=3+n by omega,hes,hex,ySB (by rw[List.length_map];omega) (by omega) (yPW _),yOC _ (by rw[List.length_map];omega),xLL (by omega),yAB,hd4]
 dsimp only
 by_cases h8:le (s.data.toList.drop (s.data.toList.length-4))=yJY (s.data.toList.take (s.data.toList.length-4))
 ·rw[yAJ (by rw[h8];exact bne_self_eq_false _),yCM (decide_eq_true (by omega)),yCM (decide_eq_true (by omega)),yCM (decide_eq_true (by omega)),yCM (decide_eq_true (by omega)),xIr (by omega),xKX (by omega) (by omega) (by omega) (by omega) (by rw[hn];omega) h8,extract_mk,show 3+n-3=s.data.toList.length-7 by omega]
 ·rw[yAT (bne_iff_ne.2 (by omega))]
  exact hno (xJC (by omega) h8)
theorem of_eq{L:Nat}(hL:10<L){s:ByteArray}(hs:s.size<=1000000000)(k:Int):yRo L k s=some (mkS (ofR k s.data.toList).1,(ofR k s.data.toList).2,()):=by
 unfold yRo yYj ofR
 rw[xMS hL hs,yAB]
 dsimp only
 by_cases h1:(yEt s.data.toList).2.2=0
 ·rw[yAJ (by rw[h1];rfl)]
  by_cases h2:(yEt s.data.toList).1=k
  ·rw[yAJ (by rw[h2];exact bne_self_eq_false _),if_pos ⟨h1,h2⟩]
  ·rw[yAT (bne_iff_ne.2 h2),if_neg fun h=>h2 h.2];rfl
 ·rw[yAT (bne_iff_ne.2 h1),if_neg fun h=>h1 h.1];rfl
theorem yW6{r j:Nat}(hr:r<4294967296)(hj:j<=3): [V.int .u8 (IntKind.u8.wrap ((r:Int).fdiv (2^(min ((8*j:Nat):Int).toNat IntKind.i64.bits))))]=byV (UInt8.ofNat (r/256^j%256)):=by
 have h:(UInt8.ofNat (r/256^j%256)).toNat=r/256^j%256:=by simp
 have e:IntKind.u8.wrap ((r:Int).fdiv (2^(min ((8*j:Nat):Int).toNat IntKind.i64.bits)))=((UInt8.ofNat (r/256^j%256)).toNat:Int):=by
  rw[h,IntKind.wrap_u8,Int.toNat_natCast,show min (8*j) IntKind.i64.bits=8*j from by show min _ 64=_;omega]
  have:(2:Int)^(8*j)=((256^j:Nat):Int):=by
   rw[Int.pow_mul];norm_cast
  rw[this,Int.fdiv_eq_ediv_of_nonneg _ (Int.natCast_nonneg _)]
  omega
 rw[e];rfl
theorem xMD{r:Nat}(hr:r<4294967296): [[V.int .u8 (IntKind.u8.wrap (r:Int))],[V.int .u8 (IntKind.u8.wrap ((r:Int).fdiv (2^(min (8:Int).toNat IntKind.i64.bits))))],[V.int .u8 (IntKind.u8.wrap ((r:Int).fdiv (2^(min (16:Int).toNat IntKind.i64.bits))))],[V.int .u8 (IntKind.u8.wrap ((r:Int).fdiv (2^(min (24:Int).toNat IntKind.i64.bits))))]]=(leBytes 4 r).map byV:=by
 have h0:=yW6 (j:=0) hr (by omega)
 have h1:=yW6 (j:=1) hr (by omega)
 have h2:=yW6 (j:=2) hr (by omega)
 have h3:=yW6 (j:=3) hr (by omega)
 have e0:(r:Int).fdiv (2^(min ((8*0:Nat):Int).toNat IntKind.i64.bits))=r:=by
  show(r:Int).fdiv 1=r
  simp
 rw[e0] at h0
 rw[show(8:Int)=((8*1:Nat):Int) from rfl,show(16:Int)=((8*2:Nat):Int) from rfl,show(24:Int)=((8*3:Nat):Int) from rfl,h0,h1,h2,h3]
 simp[leBytes,Nat.div_div_eq_div_mul]
theorem xBH{L:Nat}(hL:1000<L){k:Int}{s:ByteArray}(hk:k<=127):yHE L k s=some (mkS (ySG k s.data.toList).1,(ySG k s.data.toList).2,()):=by
 unfold yHE yRR
 by_cases h1:k<1
 ·rw[yAT (decide_eq_true h1),yUe (by omega)];rfl
 rw[yAJ (decide_eq_false h1)]
 by_cases h2:505<(s.size:Int)
 ·rw[yAT (decide_eq_true h2),yUe (by rw[yBW];omega)];rfl
 rw[yAJ (decide_eq_false h2),xIv (by omega) hk]
 have hl:s.data.toList.length=s.size:=yBW s
 have hin: [[V.int .i64 (s.size:Int)]]= [(s.size:Int)].map inV:=rfl
 rw[hin,xBG (by omega) 2 (by simp) (by simp;omega),xNm (by omega),yAB]
 dsimp only
 have hh: [UInt8.ofNat k.toNat]++leBytes 2 s.size++s.data.toList=yCA k s.data.toList:=by simp[yCA,hl]
 have hlen:=yE1 k s.data.toList
 have e1:(([UInt8.ofNat k.toNat]++leBytes 2 s.size).map byV).length+(yCe s).length=(yCA k s.data.toList).length:=by
  rw[yXF,List.length_map,List.length_map,←List.length_append,hh]
 rw[xF1,hh,e1,yCM (by rw[Nat.zero_add];exact Nat.beq_refl _),xCG (by omega) (by omega),ySB (by simp) (by omega) (yPW _),yOC _ (by simp),xMZ (by omega) (by omega) (by omega),yAB,xMD (yXf _),←List.map_append,yCM (by rw[Nat.zero_add,List.length_map];exact Nat.beq_refl _),xCG (by omega) (by omega)]
 have e2:(yCA k s.data.toList).length+4=((yCA k s.data.toList++leBytes 4 (yJY (yCA k s.data.toList))).map byV).length:=by simp[yAD]
 rw[yOC _ e2,yCM (by rw[Nat.zero_add,←e2];exact Nat.ble_eq_true_of_le (Nat.le_refl _)),yCM (yOl _),yHx,yUf (by omega) (by omega)]
theorem xKc{L:Nat}(hL:1000<L)(s:ByteArray):yO0 L s=some ((yEt s.data.toList).1,mkS (yEt s.data.toList).2.1,(yEt s.data.toList).2.2,()):=by
 have hl:s.data.toList.length=s.size:=yBW s
 have hno:∀h:yEt s.data.toList=(0,[],30),some ((0:Int),noS,(30:Int),())=some ((yEt s.data.toList).1,mkS (yEt s.data.toList).2.1,(yEt s.data.toList).2.2,()):=fun h=>by rw[h];rfl
 unfold yO0 yRP
 by_cases h1:(s.size:Int)<7
 ·rw[yAT (decide_eq_true h1)]
  exact hno (ySy (by omega))
 rw[yAJ (decide_eq_false h1)]
 by_cases h2:512<(s.size:Int)
 ·rw[yAT (decide_eq_true h2)]
  exact hno (xAJ (by omega))
 have hb:(((s[0]?).getD 0).toNat:Int)=((s.data.toList.getD 0 0).toNat:Int):=by
  rw[xEU (by omega),List.getD_eq_getElem?_getD,List.getElem?_eq_getElem (by omega)];rfl
 rw[yAJ (decide_eq_false h2),yCM (decide_eq_true (by omega)),hb]
 by_cases h6:(s.data.toList.getD 0 0).toNat=0
 ·rw[yAT (decide_eq_true (by omega))]
  exact hno (xAK h6)
 rw[yAJ (decide_eq_false (by omega)),yCM (decide_eq_true (by omega))]
 by_cases h7:127<(s.data.toList.getD 0 0).toNat
 ·rw[yAT (decide_eq_true (by omega))]
  exact hno (xDI h7)
 rw[yAJ (decide_eq_false (by omega)),yCM (decide_eq_true (by omega)),yAY (by omega) (by omega),yCM (decide_eq_true (by omega)),yCM (decide_eq_true (by omega)),yCM (decide_eq_true (by omega)),xIr (by omega),show((s.size:Int)-4).toNat=s.size-4 by omega,xBH hL (by omega),yAB,data_extract,show s.size-4-3=s.data.toList.length-7 by omega,extract_mk]
 rw[show s.size-4-3=s.data.toList.length-7 by omega]
 generalize hm:(s.data.toList.drop 3).take (s.data.toList.length-7)=m
 have hml:m.length<=505:=by rw[←hm,List.length_take];omega
 rw[yUf (by omega) hml,toList_mk,xK1]
 dsimp only
 rw[show((0:Int) !=0)=false from rfl,cond_false]
 have hop:yEt s.data.toList=if yOc (s.data.toList.getD 0 0).toNat m=some s.data.toList then(((s.data.toList.getD 0 0).toNat:Int),m,0) else(0,[],30):=by
  unfold yEt
  rw[hm]
  by_cases h:yOc (s.data.toList.getD 0 0).toNat m=some s.data.toList
  ·rw[if_pos h,if_pos ⟨by omega,by omega,by omega,by omega,h⟩]
  ·rw[if_neg h,if_neg fun q=>h q.2.2.2.2]
 rw[hop,yNA (by omega) hml]
 by_cases h8:yCA ((s.data.toList.getD 0 0).toNat:Int) m++leBytes 4 (yJY (yCA ((s.data.toList.getD 0 0).toNat:Int) m))=s.data.toList
 ·rw[yAJ (by rw[h8,beq_self_eq_true];rfl),if_pos (by rw[h8])]
 ·rw[yAT (by rw[beq_eq_false_iff_ne.2 h8];rfl),if_neg fun h=>h8 (by injection h)]
  rfl
theorem xLe{L:Nat}(hL:1000<L)(s:ByteArray)(k:Int):yN9 L k s=some (mkS (ofR k s.data.toList).1,(ofR k s.data.toList).2,()):=by
 unfold yN9 yVL ofR
 rw[xKc hL,yAB]
 dsimp only
 by_cases h1:(yEt s.data.toList).2.2=0
 ·rw[yAJ (by rw[h1];rfl)]
  by_cases h2:(yEt s.data.toList).1=k
  ·rw[yAJ (by rw[h2];exact bne_self_eq_false _),if_pos ⟨h1,h2⟩]
  ·rw[yAT (bne_iff_ne.2 h2),if_neg fun h=>h2 h.2];rfl
 ·rw[yAT (bne_iff_ne.2 h1),if_neg fun h=>h1 h.1];rfl
theorem xNl(b:Bs)(w n:Int):yWf b w [n]=if yHn n w=true then(b++leBytes w.toNat n.toNat,0) else([],2):=by
 unfold yWf xGJ
 by_cases h:yHn n w=true
 ·have hf:=of_decide_eq_true h
  rw[if_pos h,if_pos ⟨⟨hf.1,hf.2.1⟩,by simpa using h⟩]
  simp[yH2]
 ·rw[if_neg h,if_neg fun q=>h (by simpa using q.2)]
theorem xF0(a b:ByteArray):(a++b).data.toList=a.data.toList++b.data.toList:=by simp
theorem mk_data(b:Bs):(mkS b).data.toList=b:=rfl
theorem yVF(b:Bs):(mkS b).size=b.length:=by rw[←yBW,mk_data]
theorem yZ9{ws l:List Int}{i:Nat}{b:Bs}(hw:i<ws.length)(hl:i<l.length)(h:fieldsB [] (ws.take i) (l.take i)=some b):
  fieldsB [] (ws.take (i+1)) (l.take (i+1))=if yHn l[i] ws[i]=true/\(b++leBytes ws[i].toNat l[i].toNat).length<=505 then some (b++leBytes ws[i].toNat l[i].toNat) else none:=by
 rw[List.take_succ_eq_append_getElem hw,List.take_succ_eq_append_getElem hl,xCl _ _ _ _ _ (by simp;omega),h]
 rfl
theorem yPJ{ws l:List Int}{i:Nat}(hlen:ws.length=l.length)(h:fieldsB [] (ws.take i) (l.take i)=none):fieldsB [] ws l=none:=by
 have:=xCk [] (ws.take i) (l.take i) (ws.drop i) (l.drop i) (by simp[hlen]) h
 rwa [List.take_append_drop,List.take_append_drop] at this
theorem xMP{L:Nat}{k:Int}{rest:ByteArray}{ws l:List Int}(hk:k<=127)(hL:l.length<L)(hl:l.length<=1000000)(hr:rest.size<=1000000):
  yJ5 L k rest (ws.map inV) (l.map inV)=some (mkS (yNv k rest.data.toList ws l).1,(yNv k rest.data.toList ws l).2,()):=by
 unfold yJ5 yTJ yNv
 rw[List.length_map,List.length_map]
 by_cases hlen:¬ws.length=l.length
 ·rw[yAT (bne_iff_ne.2 (by omega)),yXl _ _ _ hlen];rfl
 replace hlen:ws.length=l.length:=Decidable.not_not.1 hlen
 rw[yAJ (by rw[hlen];exact bne_self_eq_false _)]
 have hrun:=yNQ (α:=ByteArray×Int×Unit) (F:=yFU (yIf L)) (fun q=>∃(i:Nat) (b:Bs),i<=l.length/\fieldsB [] (ws.take i) (l.take i)=some b/\q=(rest,ws.map inV,(b.map byV,0,k,()),l.map inV,(l.length:Int),(i:Int),())) (fun q=>l.length-q.2.2.2.2.2.1.toNat)
  (fun a=>∃b,fieldsB [] ws l=some b/\a=(rest,(b.map byV,0,k,()),())) (fun a=>fieldsB [] ws l=none/\a=(noS,2,()))
  (fun q hq=>by
    obtain⟨i,b,hi,hf,rfl⟩:=hq
    have hbl:=yLM _ _ _ _ hf (by simp)
    by_cases hlt:i<l.length
    ·have hstep:=yZ9 (by omega) hlt hf
     have hp:yIf L (b.map byV) ws[i] ([[V.int .i64 l[i]]])=some ((yWf b ws[i] [l[i]]).1.map byV,(yWf b ws[i] [l[i]]).2,()):=xEz (l:= [l[i]]) _ (by simp;omega)
     rw[xNl] at hp
     have pre:∀kn ka kb,yFU (yIf L) (rest,ws.map inV,(b.map byV,0,k,()),l.map inV,(l.length:Int),(i:Int),()) kn ka kb=(yAA (yIf L (b.map byV) ws[i] ([[V.int .i64 l[i]]])) fun r1=>
       bif r1.2.1 !=0 then kb (noS,2,()) else bif(0:Int) !=0 then kb (noS,2,()) else bif decide (505<(r1.1.length:Int)) then kb (noS,2,()) else
       gW r1.1 r1.1.length<|kn (rest,ws.map inV,(r1.1,0,k,()),l.map inV,(l.length:Int),w64 ((i:Int)+1),()):Option (ByteArray×Int×Unit)):=fun kn ka kb=>by
      unfold yFU
      dsimp only
      rw[yAT (decide_eq_true (by omega)),yQ2 (by omega) (by omega),yQ2 (by omega) (by omega),ySB (by rw[List.length_map];omega) (by rw[List.length_map];omega) (yPW _),yOC _ rfl,Int.toNat_natCast,yUr hlt,yUr (by omega)]
     by_cases hfit:yHn l[i] ws[i]=true
     ·rw[if_pos hfit] at hp
      by_cases h5:(b++leBytes ws[i].toNat l[i].toNat).length<=505
      ·rw[if_pos ⟨hfit,h5⟩] at hstep
       refine .inl ⟨_,⟨i+1,_,hlt,hstep,rfl⟩,by dsimp only;omega,fun kn ka kb=>?_⟩
       rw[pre,hp,yAB]
       dsimp only
       rw[show((0:Int) !=0)=false from rfl,cond_false,cond_false,yAJ (decide_eq_false (by rw[List.length_map];omega)),yHo rfl (yPW _),yAY (by omega) (by omega)]
       rfl
      ·rw[if_neg fun h=>h5 h.2] at hstep
       refine .inr (.inr ⟨_,⟨yPJ hlen hstep,rfl⟩,fun kn ka kb=>?_⟩)
       rw[pre,hp,yAB]
       dsimp only
       rw[show((0:Int) !=0)=false from rfl,cond_false,cond_false,yAT (decide_eq_true (by rw[List.length_map];omega))]
     ·rw[if_neg hfit] at hp
      rw[if_neg fun h=>hfit h.1] at hstep
      refine .inr (.inr ⟨_,⟨yPJ hlen hstep,rfl⟩,fun kn ka kb=>?_⟩)
      rw[pre,hp,yAB]
      rfl
    ·obtain rfl:i=l.length:=by omega
     refine .inr (.inl ⟨_,⟨b,by rw[List.take_length,←hlen,List.take_length] at hf;exact hf,rfl⟩,fun kn ka kb=>?_⟩)
     unfold yFU
     dsimp only
     rw[yAJ (decide_eq_false (by omega)),yHo rfl (yPW _)])
  L (rest,ws.map inV,([],0,k,()),l.map inV,(l.length:Int),0,()) ⟨0,[],Nat.zero_le _,rfl,rfl⟩ (by dsimp only;omega)
 rcases hrun with ⟨a,⟨b,hb,rfl⟩,hrun⟩ | ⟨a,⟨hb,rfl⟩,hrun⟩
 ·have hbl:=yLM _ _ _ _ hb (by simp)
  rw[hrun,hb]
  dsimp only
  rw[yCM (by rw[Nat.zero_add];exact Nat.ble_eq_true_of_le (Nat.le_refl _)),yOC _ rfl,yCM (yOl _),yHx,yVF,yCM (decide_eq_true (by omega)),yHo rfl (yPW _)]
  obtain⟨y,hy⟩:=xJd (L:=L) (k:=k) (rows:=b.map byV) (s:=mkS b++rest) hk (yPW _)
  rw[hy,yAB,xF0,mk_data]
 ·rw[hrun,hb];rfl
theorem xGO{L:Nat}{k:Int}{rest:ByteArray}{ws l:List Int}(hk:k<=127)(hL:l.length<L)(hL2:1000<L)(hl:l.length<=1000000)(hr:rest.size<=1000000):
  yKh L k rest (ws.map inV) (l.map inV)=some (mkS (yNv k rest.data.toList ws l).1,(yNv k rest.data.toList ws l).2,()):=by
 unfold yKh yRO yNv
 rw[List.length_map,List.length_map]
 by_cases hlen:¬ws.length=l.length
 ·rw[yAT (bne_iff_ne.2 (by omega)),yXl _ _ _ hlen];rfl
 replace hlen:ws.length=l.length:=Decidable.not_not.1 hlen
 rw[yAJ (by rw[hlen];exact bne_self_eq_false _)]
 have hrun:=yNQ (α:=ByteArray×Int×Unit) (F:=yEE (yCX L)) (fun q=>∃(i:Nat) (b:Bs),i<=l.length/\fieldsB [] (ws.take i) (l.take i)=some b/\q=(k,rest,ws.map inV,l.map inV,b.map byV,(i:Int),())) (fun q=>l.length-q.2.2.2.2.2.1.toNat)
  (fun a=>∃b,fieldsB [] ws l=some b/\a=(k,rest,b.map byV,())) (fun a=>fieldsB [] ws l=none/\a=(noS,2,()))
  (fun q hq=>by
    obtain⟨i,b,hi,hf,rfl⟩:=hq
    have hbl:=yLM _ _ _ _ hf (by simp)
    by_cases hlt:i<l.length
    ·have hstep:=yZ9 (by omega) hlt hf
     have hp:yCX L (b.map byV) ws[i] ([[V.int .i64 l[i]]])=some ((yWf b ws[i] [l[i]]).1.map byV,(yWf b ws[i] [l[i]]).2,()):=xBG (l:= [l[i]]) (by omega) _ (by simp;omega) (by simp;omega)
     rw[xNl] at hp
     have pre:∀kn ka kb,yEE (yCX L) (k,rest,ws.map inV,l.map inV,b.map byV,(i:Int),()) kn ka kb=(yAA (yCX L (b.map byV) ws[i] ([[V.int .i64 l[i]]])) fun r1=>
       bif r1.2.1 !=0 then kb (noS,2,()) else bif decide (505<(r1.1.length:Int)) then kb (noS,2,()) else
       gF r1.1 (0+r1.1.length)<|kn (k,rest,ws.map inV,l.map inV,r1.1.take r1.1.length,w64 ((i:Int)+1),()):Option (ByteArray×Int×Unit)):=fun kn ka kb=>by
      unfold yEE
      dsimp only
      rw[yAT (decide_eq_true (by rw[List.length_map];omega)),yQ2 (by omega) (by omega),yQ2 (by omega) (by omega),Int.toNat_natCast,yUr hlt,yUr (by omega)]
     by_cases hfit:yHn l[i] ws[i]=true
     ·rw[if_pos hfit] at hp
      by_cases h5:(b++leBytes ws[i].toNat l[i].toNat).length<=505
      ·rw[if_pos ⟨hfit,h5⟩] at hstep
       refine .inl ⟨_,⟨i+1,_,hlt,hstep,rfl⟩,by dsimp only;omega,fun kn ka kb=>?_⟩
       rw[pre,hp,yAB]
       dsimp only
       rw[show((0:Int) !=0)=false from rfl,cond_false,yAJ (decide_eq_false (by rw[List.length_map];omega)),ySB (by omega) (by rw[List.length_map];omega) (yPW _),yOC _ rfl,yAY (by omega) (by omega)]
       rfl
      ·rw[if_neg fun h=>h5 h.2] at hstep
       refine .inr (.inr ⟨_,⟨yPJ hlen hstep,rfl⟩,fun kn ka kb=>?_⟩)
       rw[pre,hp,yAB]
       dsimp only
       rw[show((0:Int) !=0)=false from rfl,cond_false,yAT (decide_eq_true (by rw[List.length_map];omega))]
     ·rw[if_neg hfit] at hp
      rw[if_neg fun h=>hfit h.1] at hstep
      refine .inr (.inr ⟨_,⟨yPJ hlen hstep,rfl⟩,fun kn ka kb=>?_⟩)
      rw[pre,hp,yAB]
      rfl
    ·obtain rfl:i=l.length:=by omega
     refine .inr (.inl ⟨_,⟨b,by rw[List.take_length,←hlen,List.take_length] at hf;exact hf,rfl⟩,fun kn ka kb=>?_⟩)
     unfold yEE
     dsimp only
     rw[yAJ (decide_eq_false (by rw[List.length_map];omega))])
  L (k,rest,ws.map inV,l.map inV,[],0,()) ⟨0,[],Nat.zero_le _,rfl,rfl⟩ (by dsimp only;omega)
 rcases hrun with ⟨a,⟨b,hb,rfl⟩,hrun⟩ | ⟨a,⟨hb,rfl⟩,hrun⟩
 ·have hbl:=yLM _ _ _ _ hb (by simp)
  rw[hrun,hb]
  dsimp only
  rw[yCM (yOl _),yHx,yVF,yCM (decide_eq_true (by omega)),xBH hL2 hk,yAB,xF0,mk_data]
 ·rw[hrun,hb];rfl
theorem xGb{s:Bs}{ws:List Int}{i:Nat}{r:List Int×Bs}(hw:i<ws.length)(h:takeF s (ws.take i)=some r):
  takeF s (ws.take (i+1))=if(yOI r.2 0 ws[i]).2=0 then some (r.1++ [(yOI r.2 0 ws[i]).1],r.2.drop ws[i].toNat) else none:=by
 rw[List.take_succ_eq_append_getElem hw,xHn,h]
 rfl
theorem xEF{s:Bs}{ws:List Int}{i:Nat}(h:takeF s (ws.take i)=none):takeF s ws=none:=by
 have:=xHm s (ws.take i) (ws.drop i) h
 rwa [List.take_append_drop] at this
theorem yIe(s:ByteArray)(k:Nat):s.extract k s.size=mkS (s.data.toList.drop k):=by
 rw[extract_mk]
 congr 1
 exact List.take_of_length_le (by rw[List.length_drop,yBW];omega)
theorem xI9(k:Int)(s:Bs):(ofR k s).2=0\/ofR k s=([],30):=by
 unfold ofR
 split
 ·exact .inl rfl
 ·exact .inr rfl
theorem xKW(s:Bs):(yEt s).2.1.length<=s.length:=by
 unfold yEt
 split
 ·simp only[List.length_take,List.length_drop];omega
 ·exact Nat.zero_le _
theorem xLZ(k:Int)(s:Bs):(ofR k s).1.length<=s.length:=by
 unfold ofR
 split
 ·exact xKW s
 ·exact Nat.zero_le _
theorem xIZ{L:Nat}(hL:10<L){s:ByteArray}{ws:List Int}(hs:s.size<=1000000000)(hw:ws.length<L)(hw2:ws.length<=1000000)(k:Int):
  yEd L k s (ws.map inV)=some ((fieldsR k s.data.toList ws).1.map inV,mkS (fieldsR k s.data.toList ws).2.1,(fieldsR k s.data.toList ws).2.2,()):=by
 have hol:=xLZ k s.data.toList
 rw[yBW] at hol
 unfold yEd yQG fieldsR
 rw[of_eq hL hs,yAB,List.length_map]
 rcases xI9 k s.data.toList with h0 | h0
 ·rw[if_pos h0,h0]
  generalize (ofR k s.data.toList).1=load at*
  have hrun:=yNQ (α:=List (List V)×ByteArray×Int×Unit) (F:=yCH (yBX L)) (fun q=>∃(i:Nat) (r:List Int×Bs),i<=ws.length/\takeF load (ws.take i)=some r/\q=(r.1.map inV,mkS r.2,0,ws.map inV,(ws.length:Int),(i:Int),())) (fun q=>ws.length-q.2.2.2.2.2.1.toNat)
   (fun a=>∃r,takeF load ws=some r/\a=(r.1.map inV,mkS r.2,0,())) (fun a=>takeF load ws=none/\a=([],noS,30,()))
   (fun q hq=>by
     obtain⟨i,r,hi,hf,rfl⟩:=hq
     have hrl:=xGc _ _ _ hf
     rw[List.length_take,Nat.min_eq_left hi] at hrl
     by_cases hlt:i<ws.length
     ·have hstep:=xGb hlt hf
      have pre:∀kn ka kb,yCH (yBX L) (r.1.map inV,mkS r.2,0,ws.map inV,(ws.length:Int),(i:Int),()) kn ka kb=(bif(yOI r.2 0 ws[i]).2 !=0 then kb ([],noS,30,()) else
        gd (decide (0<=ws[i]))<|gd (decide (ws[i]<=(r.2.length:Int)))<|kn ((r.1++ [(yOI r.2 0 ws[i]).1]).map inV,mkS (r.2.drop ws[i].toNat),0,ws.map inV,(ws.length:Int),((i+1:Nat):Int),()):Option (List (List V)×ByteArray×Int×Unit)):=fun kn ka kb=>by
       have e:r.1.map inV++([[V.int .i64 (yOI r.2 0 ws[i]).1]])=(r.1++ [(yOI r.2 0 ws[i]).1]).map inV:=by rw[List.map_append];rfl
       unfold yCH
       dsimp only
       rw[yAT (decide_eq_true (by omega)),yQ2 (by omega) (by omega),show((0:Int) !=0)=false from rfl,cond_false,Int.toNat_natCast,yUr hlt,yR5 hL (by rw[yVF];omega),yAB,mk_data,e,yCM (by rw[Nat.zero_add];exact Nat.beq_refl _),xCG (by rw[List.length_map];omega) (by rw[List.length_map];omega),yHo (by simp) (yKI _),yIe,mk_data,yVF,yAY (by omega) (by omega)]
       rfl
      by_cases hg:(yOI r.2 0 ws[i]).2=0
      ·rw[if_pos hg] at hstep
       have hz:=xCr hg
       refine .inl ⟨_,⟨i+1,_,hlt,hstep,rfl⟩,by dsimp only;omega,fun kn ka kb=>?_⟩
       rw[pre,yAJ (by rw[hg];rfl),yCM (decide_eq_true (by omega)),yCM (decide_eq_true (by omega))]
      ·rw[if_neg hg] at hstep
       refine .inr (.inr ⟨_,⟨xEF hstep,rfl⟩,fun kn ka kb=>?_⟩)
       rw[pre,yAT (bne_iff_ne.2 hg)]
     ·obtain rfl:i=ws.length:=by omega
      refine .inr (.inl ⟨_,⟨r,by rwa [List.take_length] at hf,rfl⟩,fun kn ka kb=>?_⟩)
      unfold yCH
      dsimp only
      rw[yAJ (decide_eq_false (by omega)),yHo rfl (yKI _)])
   L ([],mkS load,0,ws.map inV,(ws.length:Int),0,()) ⟨0,([],load),Nat.zero_le _,rfl,rfl⟩ (by dsimp only;omega)
  rcases hrun with ⟨a,⟨r,hr,rfl⟩,hrun⟩ | ⟨a,⟨hr,rfl⟩,hrun⟩
  ·rw[hrun,hr]
   dsimp only
   rw[show((0:Int) !=0)=false from rfl,cond_false,yHo rfl (yKI _)]
  ·rw[hrun,hr]
   dsimp only
   rw[yHo rfl rfl]
   rfl
 ·rw[h0,if_neg (by simp)]
  obtain⟨M,rfl⟩:∃M,L=M+1:=⟨L-1,by omega⟩
  have F:∀(s:yFm) (ka:yIY->Option (List (List V)×ByteArray×Int×Unit)) kb,yAQ (yCH (yBX (M+1))) (M+1) s ka kb=yCH (yBX (M+1)) s (fun s'=>yAQ (yCH (yBX (M+1))) M s' ka kb) ka kb:=fun _ _ _=>rfl
  rw[F]
  unfold yCH
  dsimp only
  by_cases h:(0:Int)<(ws.length:Int)
  ·rw[yAT (decide_eq_true h),yQ2 (by omega) (by omega),show((30:Int) !=0)=true from rfl,cond_true,yHo rfl rfl];rfl
  ·rw[yAJ (decide_eq_false h),yHo rfl rfl];rfl
theorem xMG{l:Bs}{a w:Int}(h0:0<=a)(h1:a<=l.length):yOI l a w=yOI (l.drop a.toNat) 0 w:=by
 unfold yOI
 rw[List.length_drop]
 by_cases hw:1<=w/\w<=6
 ·rw[if_pos hw,if_pos hw]
  by_cases h:a+w<=l.length
  ·rw[if_pos (show 0<=a/\a+w<=(l.length:Int) from⟨h0,h⟩),if_pos (show(0:Int)<=0/\0+w<=((l.length-a.toNat:Nat):Int) from⟨by omega,by omega⟩)];rfl
  ·rw[if_neg (show ¬(0<=a/\a+w<=(l.length:Int)) from fun q=>h q.2),if_neg (show ¬((0:Int)<=0/\0+w<=((l.length-a.toNat:Nat):Int)) from fun q=>h (by omega))]
 ·rw[if_neg hw,if_neg hw]
theorem xHT{L:Nat}(hL:1000<L){s:ByteArray}{ws:List Int}(hs:s.size<=1000000000)(hw:ws.length<L)(hw2:ws.length<=1000000)(k:Int):
  yI6 L k s (ws.map inV)=some ((fieldsR k s.data.toList ws).1.map inV,mkS (fieldsR k s.data.toList ws).2.1,(fieldsR k s.data.toList ws).2.2,()):=by
 have hol:=xLZ k s.data.toList
 rw[yBW] at hol
 unfold yI6 yOU fieldsR
 rw[xLe hL,yAB]
 dsimp only
 rcases xI9 k s.data.toList with h0 | h0
 ·rw[if_pos h0,h0,show((0:Int) !=0)=false from rfl,cond_false]
  generalize (ofR k s.data.toList).1=load at*
  have hrun:=yNQ (α:=List (List V)×ByteArray×Int×Unit) (F:=yDB (yAv L)) (fun q=>∃(i a:Nat) (r:List Int×Bs),i<=ws.length/\a<=load.length/\r.2=load.drop a/\takeF load (ws.take i)=some r/\q=(ws.map inV,mkS load,r.1.map inV,(a:Int),(i:Int),())) (fun q=>ws.length-q.2.2.2.2.1.toNat)
   (fun z=>∃(a:Nat) (r:List Int×Bs),a<=load.length/\r.2=load.drop a/\takeF load ws=some r/\z=(mkS load,r.1.map inV,(a:Int),())) (fun a=>takeF load ws=none/\a=([],noS,30,()))
   (fun q hq=>by
     obtain⟨i,a,r,hi,ha,hra,hf,rfl⟩:=hq
     have hrl:=xGc _ _ _ hf
     rw[List.length_take,Nat.min_eq_left hi] at hrl
     by_cases hlt:i<ws.length
     ·have hstep:=xGb hlt hf
      have pre:∀kn ka kb,yDB (yAv L) (ws.map inV,mkS load,r.1.map inV,(a:Int),(i:Int),()) kn ka kb=(bif(yOI r.2 0 ws[i]).2 !=0 then kb ([],noS,30,()) else
        kn (ws.map inV,mkS load,(r.1++ [(yOI r.2 0 ws[i]).1]).map inV,w64 ((a:Int)+ws[i]),((i+1:Nat):Int),()):Option (List (List V)×ByteArray×Int×Unit)):=fun kn ka kb=>by
       have e:r.1.map inV++([[V.int .i64 (yOI r.2 0 ws[i]).1]])=(r.1++ [(yOI r.2 0 ws[i]).1]).map inV:=by rw[List.map_append];rfl
       have eg:yOI load (a:Int) ws[i]=yOI r.2 0 ws[i]:=by rw[xMG (by omega) (by omega),Int.toNat_natCast,hra]
       unfold yDB
       dsimp only
       rw[yAT (decide_eq_true (by rw[List.length_map];omega)),yQ2 (by omega) (by omega),Int.toNat_natCast,yUr hlt,xJI (by omega) (by rw[yVF];omega),yAB,mk_data,eg,e,yCM (by rw[Nat.zero_add];exact Nat.beq_refl _),xCG (by rw[List.length_map];omega) (by rw[List.length_map];omega),yQ2 (by omega) (by omega),yHo (by simp) (yKI _),yAY (n:=(i:Int)+1) (by omega) (by omega)]
       rfl
      by_cases hg:(yOI r.2 0 ws[i]).2=0
      ·rw[if_pos hg] at hstep
       have hz:=xCr hg
       obtain⟨v,hv⟩:=Int.eq_ofNat_of_zero_le (show 0<=ws[i] by omega)
       have hdl:r.2.length=load.length-a:=by rw[hra,List.length_drop]
       refine .inl ⟨_,⟨i+1,a+v,_,hlt,by omega,by dsimp only;rw[hra,List.drop_drop,hv];rfl,hstep,rfl⟩,by dsimp only;omega,fun kn ka kb=>?_⟩
       rw[pre,yAJ (by rw[hg];rfl),hv,yAY (by omega) (by omega)]
       rfl
      ·rw[if_neg hg] at hstep
       refine .inr (.inr ⟨_,⟨xEF hstep,rfl⟩,fun kn ka kb=>?_⟩)
       rw[pre,yAT (bne_iff_ne.2 hg)]
     ·obtain rfl:i=ws.length:=by omega
      refine .inr (.inl ⟨_,⟨a,r,ha,hra,by rwa [List.take_length] at hf,rfl⟩,fun kn ka kb=>?_⟩)
      unfold yDB
      dsimp only
      rw[yAJ (decide_eq_false (by rw[List.length_map];omega)),yHo rfl (yKI _)])
   L (ws.map inV,mkS load,[],0,0,()) ⟨0,0,([],load),Nat.zero_le _,Nat.zero_le _,rfl,rfl,rfl⟩ (by dsimp only;omega)
  rcases hrun with ⟨z,⟨a,r,ha,hra,hr,rfl⟩,hrun⟩ | ⟨z,⟨hr,rfl⟩,hrun⟩
  ·rw[hrun,hr]
   dsimp only
   rw[yCM (decide_eq_true (by omega)),yCM (decide_eq_true (by rw[yVF];omega)),yHo rfl (yKI _),yIe,mk_data,Int.toNat_natCast,hra]
  ·rw[hrun,hr]
   dsimp only
   rw[yHo rfl rfl]
   rfl
 ·rw[h0,if_neg (by simp)];rfl
end Go.Proofs.YtakljpcmbpaeaaaGreat
