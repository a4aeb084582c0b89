/- Typed functions. (printed by wip/sx) -/
import Derived.Test.YtakljpcmbpaeaaaGreatPaxosOneM36
import Derived.Test.YtakljpcmbpaeaaaGreatPaxosOneM37
import Derived.Test.YtakljpcmbpaeaaaGreatPaxosOneM39
import Derived.Test.YtakljpcmbpaeaaaGreatPaxosOneM40
import Derived.Test.YtakljpcmbpaeaaaGreatPaxosOneM38
import Derived.Test.YtakljpcmbpaeaaaGreatPaxosOneM34
import Derived.Test.YtakljpcmbpaeaaaGreatPaxosOneM01
set_option linter.unusedSimpArgs false
set_option linter.unusedVariables false
namespace Go.Proofs.YtakljpcmbpaeaaaGreat
open Go.RowKit
end Go.Proofs.YtakljpcmbpaeaaaGreat



namespace Go.Proofs.YtakljpcmbpaeaaaGreat
open Go.RowKit
theorem may_eq{L:Nat}(n:Int):yIr L n=some (decide (1≤n∧n≤6)):=by
 unfold yIr yMM
 by_cases h1:1≤n
 ·rw [bif_t (decide_eq_true h1)]
  congr 1
  exact decide_eq_decide.2 ⟨fun h=>⟨h1,h⟩,fun h=>h.2⟩
 ·rw [bif_f (decide_eq_false h1),decide_eq_false fun h=>h1 h.1]
theorem num_Get_eq{L:Nat}(hL:10<L){s:ByteArray}(hs:s.size≤1000000000)(a n:Int):yB4 L s a n=some ((getS s.data.toList a n).1,(getS s.data.toList a n).2,()):=by
 unfold yB4 yTO
 rw [may_eq,bindO_s]
 by_cases hn:1≤n∧n≤6
 ·rw [decide_eq_true hn,Bool.not_true,cond_false]
  by_cases h0:a<0
  ·rw [bif_t (decide_eq_true h0),getS_out hn (by omega)]
  rw [bif_f (decide_eq_false h0)]
  by_cases h1:(s.size:Int)<a
  ·rw [bif_t (decide_eq_true h1),getS_out hn (by rw [bytes_length];omega)]
  rw [bif_f (decide_eq_false h1),w64_t (by omega) (by omega)]
  by_cases h2:(s.size:Int)-a<n
  ·rw [bif_t (decide_eq_true h2),getS_out hn (by rw [bytes_length];omega)]
  rw [bif_f (decide_eq_false h2)]
  obtain⟨b,rfl⟩:=Int.eq_ofNat_of_zero_le (show 0≤a by omega)
  obtain⟨v,rfl⟩:=Int.eq_ofNat_of_zero_le (show 0≤n by omega)
  obtain⟨q,hq,hrun⟩:=loop1_run (α:=Int×Int×Unit) (F:=yJo) (fun q=>∃k:Nat,k≤v∧q=(s,(b:Int),((le ((s.data.toList.drop b).take k):Nat):Int),(v:Int),(k:Int),())) (fun q=>v-q.2.2.2.2.1.toNat) (fun q=>q=(((le ((s.data.toList.drop b).take v):Nat):Int),()))
   (fun q hq=>by
     obtain⟨k,hk,rfl⟩:=hq
     by_cases hlt:k<v
     ·have hb:b+k<s.size:=by omega
      refine .inl ⟨_,⟨k+1,hlt,rfl⟩,by dsimp only;omega,fun kn ka=>?_⟩
      unfold yJo
      dsimp only
      rw [bif_t (decide_eq_true (by omega)),w64_t (by omega) (by omega),gB_t (by omega) (by omega),w64_t (n:=8*(k:Int)) (by omega) (by omega),gd_t (by rw [decide_eq_false (by omega)];rfl),show((b:Int)+k).toNat=b+k by omega,w64_t (n:=(k:Int)+1) (by omega) (by omega)]
      have e:=or_byte2 s b k hb (by omega)
      have e2:(((s[b+k]?).getD 0).toNat:Int)=((s[b+k].toNat:Nat):Int):=by simp [hb]
      have ew:∀n,RowKit.wrap64 n=IntKind.i64.wrap n:=fun n=>by rw [IntKind.wrap_i64];unfold RowKit.wrap64;omega
      rw [ew,ew] at e
      rw [e2,←e,show min (8*(k:Int)).toNat IntKind.i64.bits=8*k from by show min _ 64=_;omega]
      rfl
     ·obtain rfl:k=v:=by omega
      refine .inr ⟨_,rfl,fun kn ka=>?_⟩
      unfold yJo
      dsimp only
      rw [bif_f (decide_eq_false (by omega))])
   L (s,(b:Int),0,(v:Int),0,()) ⟨0,Nat.zero_le _,by simp [le]⟩ (by dsimp only;omega)
  subst hq
  rw [hrun]
  dsimp only
  have h3:b+v≤s.data.toList.length:=by rw [bytes_length];omega
  by_cases hbig:le ((s.data.toList.drop b).take v)≤1099511627776
  ·rw [bif_f (decide_eq_false (by omega)),getS_ok (by omega) h3 hbig]
  ·rw [bif_t (decide_eq_true (by omega)),getS_big (by omega) h3 hbig]
 ·rw [decide_eq_false hn,getS_bad hn];rfl
theorem minI_min{a b:Int}:minI false a b=min a b:=by
 unfold minI
 simp only [Bool.false_eq_true,if_false]
 split <;> omega
theorem most_eq{L:Nat}(hL:10<L)(n:Int):yEa L n=some (if 1≤n∧n≤6 then((mostW n.toNat:Nat):Int) else -1):=by
 unfold yEa yPP
 by_cases h1:n<1
 ·rw [bif_t (decide_eq_true h1),if_neg (by omega)]
 rw [bif_f (decide_eq_false h1)]
 by_cases h2:6<n
 ·rw [bif_t (decide_eq_true h2),if_neg (by omega)]
 rw [bif_f (decide_eq_false h2),if_pos (by omega)]
 obtain⟨v,rfl⟩:=Int.eq_ofNat_of_zero_le (show 0≤n by omega)
 obtain⟨q,hq,hrun⟩:=loop1_run (α:=Int) (F:=yFK) (fun q=>∃k:Nat,k≤v∧q=((v:Int),((256^k:Nat):Int),(k:Int),())) (fun q=>v-q.2.2.1.toNat) (fun q=>q=(((256^v:Nat):Int),()))
  (fun q hq=>by
    obtain⟨k,hk,rfl⟩:=hq
    by_cases hlt:k<v
    ·have hp:=pow256_le k (by omega)
     refine .inl ⟨_,⟨k+1,hlt,rfl⟩,by dsimp only;omega,fun kn ka=>?_⟩
     unfold yFK
     dsimp only
     have e:((256^(k+1):Nat):Int)=((256^k:Nat):Int)*256:=by rw [Nat.pow_succ];rfl
     rw [bif_t (decide_eq_true (by omega)),e]
     generalize 256^k=p at*
     rw [w64_t (by omega) (by omega),w64_t (n:=(k:Int)+1) (by omega) (by omega)]
     rfl
    ·obtain rfl:k=v:=by omega
     refine .inr ⟨_,rfl,fun kn ka=>?_⟩
     unfold yFK
     dsimp only
     rw [bif_f (decide_eq_false (by omega))])
  L ((v:Int),1,0,()) ⟨0,Nat.zero_le _,rfl⟩ (by dsimp only;omega)
 subst hq
 rw [hrun]
 have hp:=pow256_le v (by omega)
 have hp0:0<256^v:=Nat.pow_pos (by omega)
 dsimp only
 rw [minI_min,w64_t (by omega) (by omega),Int.toNat_natCast]
 congr 1
 unfold mostW
 omega
theorem fits_eq{L:Nat}(hL:10<L)(a n:Int):yIJ L a n=some (fitsB a n):=by
 unfold yIJ yPN fitsB
 rw [most_eq hL]
 by_cases h0:0≤a
 ·rw [bif_t (decide_eq_true h0),bindO_s]
  congr 1
  refine decide_eq_decide.2 ?_
  by_cases hn:1≤n∧n≤6
  ·rw [if_pos hn]
   exact⟨fun h=>⟨hn.1,hn.2,h0,h⟩,fun h=>h.2.2.2⟩
  ·rw [if_neg hn]
   exact⟨fun h=>by omega,fun h=>absurd ⟨h.1,h.2.1⟩ hn⟩
 ·rw [bif_f (decide_eq_false h0),decide_eq_false fun h=>h0 h.2.2.1]
theorem le_cons_drop(l:Bs)(a v j:Nat)(hj:j<v)(h:a+v≤l.length):le ((l.drop (a+j)).take (v-j))=(l[a+j]'(by omega)).toNat+256*le ((l.drop (a+(j+1))).take (v-(j+1))):=by
 rw [List.drop_eq_getElem_cons (by omega),show v-j=v-(j+1)+1 by omega,List.take_succ_cons]
 rfl
theorem rGet_eq{L:Nat}(hL:10<L){s:ByteArray}(hs:s.size≤1000000000)(a n:Int):yDx L s a n=some ((getS s.data.toList a n).1,(getS s.data.toList a n).2,()):=by
 unfold yDx yQc
 rw [most_eq hL,bindO_s]
 by_cases hn:1≤n∧n≤6
 ·rw [if_pos hn,bif_f (decide_eq_false (by omega))]
  by_cases h0:a<0
  ·rw [bif_t (decide_eq_true h0),getS_out hn (by omega)]
  rw [bif_f (decide_eq_false h0)]
  by_cases h1:(s.size:Int)<a
  ·rw [bif_t (decide_eq_true h1),getS_out hn (by rw [bytes_length];omega)]
  rw [bif_f (decide_eq_false h1),w64_t (by omega) (by omega)]
  by_cases h2:(s.size:Int)-a<n
  ·rw [bif_t (decide_eq_true h2),getS_out hn (by rw [bytes_length];omega)]
  rw [bif_f (decide_eq_false h2),w64_t (by omega) (by omega)]
  obtain⟨b,rfl⟩:=Int.eq_ofNat_of_zero_le (show 0≤a by omega)
  obtain⟨v,rfl⟩:=Int.eq_ofNat_of_zero_le (show 0≤n by omega)
  have h3:b+v≤s.data.toList.length:=by rw [bytes_length];omega
  obtain⟨q,hq,hrun⟩:=loop1_run (α:=Int×Int×Unit) (F:=yGJ) (fun q=>∃k:Nat,k≤v∧q=(s,(b:Int),((le ((s.data.toList.drop (b+k)).take (v-k)):Nat):Int),(k:Int)-1,())) (fun q=>(q.2.2.2.1+1).toNat) (fun q=>q=(((le ((s.data.toList.drop b).take v):Nat):Int),()))
   (fun q hq=>by
     obtain⟨k,hk,rfl⟩:=hq
     cases k with
     | succ k=>
       have hb:b+k<s.size:=by omega
       refine .inl ⟨_,⟨k,by omega,rfl⟩,by dsimp only;omega,fun kn ka=>?_⟩
       have h4:=le_take_lt s.data.toList (b+(k+1)) (v-(k+1))
       have h5:=Nat.pow_le_pow_right (n:=256) (by omega) (show v-(k+1)≤5 by omega)
       have h6:=(s.data.toList[b+k]'(by rw [bytes_length];omega)).toNat_lt
       unfold yGJ
       dsimp only
       rw [show((k+1:Nat):Int)-1=k by omega,bif_t (decide_eq_true (by omega)),w64_t (n:=(b:Int)+k) (by omega) (by omega),gB_t (by omega) (by omega),show((b:Int)+k).toNat=b+k by omega,at_byte hb,w64_t (n:=(k:Int)-1) (by omega) (by omega),
        w64_t (n:=((le ((s.data.toList.drop (b+(k+1))).take (v-(k+1))):Nat):Int)*256) (by omega) (by omega),w64_t (n:=((s.data.toList[b+k]'(by rw [bytes_length];omega)).toNat:Int)) (by omega) (by omega),w64_t (by omega) (by omega),le_cons_drop _ _ _ k (by omega) h3]
       rw [show((((s.data.toList[b+k]'(by rw [bytes_length];omega)).toNat+256*le ((s.data.toList.drop (b+(k+1))).take (v-(k+1))):Nat)):Int)=((le ((s.data.toList.drop (b+(k+1))).take (v-(k+1))):Nat):Int)*256+((s.data.toList[b+k]'(by rw [bytes_length];omega)).toNat:Int) by omega]
     | zero=>
       refine .inr ⟨_,rfl,fun kn ka=>?_⟩
       unfold yGJ
       dsimp only
       rw [bif_f (decide_eq_false (by omega))]
       rfl)
   L (s,(b:Int),0,(v:Int)-1,()) ⟨v,Nat.le_refl _,by rw [Nat.sub_self];rfl⟩ (by dsimp only;omega)
  subst hq
  rw [hrun]
  dsimp only
  by_cases hbig:le ((s.data.toList.drop b).take v)≤1099511627776
  ·rw [bif_f (decide_eq_false (by omega)),getS_ok (by omega) h3 hbig]
  ·rw [bif_t (decide_eq_true (by omega)),getS_big (by omega) h3 hbig]
 ·rw [if_neg hn,getS_bad hn];rfl
theorem u8_mod(n:Nat): [[V.int .u8 (IntKind.u8.wrap ((n:Int).tmod 256))]]= [UInt8.ofNat (n%256)].map byV:=by
 have h:(UInt8.ofNat (n%256)).toNat=n%256:=by simp
 have e:IntKind.u8.wrap ((n:Int).tmod 256)=((UInt8.ofNat (n%256)).toNat:Int):=by
  rw [h,IntKind.wrap_u8,Int.tmod_eq_emod_of_nonneg (by omega)];omega
 rw [e];rfl
theorem map_snoc{α β:Type}(f:α→β)(l:List α)(a:α):l.map f++ [a].map f=(l++ [a]).map f:=by simp
set_option maxHeartbeats 1000000 in
theorem rPut_eq{L:Nat}(hL:10<L){b:Bs}{l:List Int}(n:Int)(hb:b.length+6*l.length≤1000000)(hl:l.length<L):yCA L (b.map byV) n (l.map inV)=some ((putR b n l).1.map byV,(putR b n l).2,()):=by
 unfold yCA yQd
 rw [most_eq hL,bindO_s]
 by_cases hn:¬(1≤n∧n≤6)
 ·rw [if_neg hn,bif_t (decide_eq_true (by omega))]
  unfold putR putS
  rw [if_neg fun h=>hn h.1]
  rfl
 replace hn:1≤n∧n≤6:=Decidable.not_not.1 hn
 rw [if_pos hn,bif_f (decide_eq_false (by omega)),gd_t (rows_sz 1 fun _=>rfl),gM_t (by rw [List.length_map];omega) (by rw [List.length_map];omega),gW_t (Nat.zero_add _) (nm_by _)]
 obtain⟨v,rfl⟩:=Int.eq_ofNat_of_zero_le (show 0≤n by omega)
 have inner:∀(pre:Bs) (x:Nat) (i:Int) (ka:yKi→Option (List (List V)×Int×Unit)),pre.length+6≤1000000→x≤1099511627776→loop1 yCm L ((v:Int),l.map inV,pre.map byV,i,(x:Int),0,()) ka=ka ((v:Int),l.map inV,(pre++leBytes v x).map byV,i,()):=fun pre x i ka hp hxb=>by
  obtain⟨q,hq,hrun⟩:=loop1_run (α:=List (List V)×Int×Unit) (F:=yCm) (fun q=>∃k:Nat,k≤v∧q=((v:Int),l.map inV,(pre++leBytes k x).map byV,i,((x/256^k:Nat):Int),(k:Int),())) (fun q=>v-q.2.2.2.2.2.1.toNat) (fun q=>q=((v:Int),l.map inV,(pre++leBytes v x).map byV,i,()))
   (fun q hq=>by
     obtain⟨k,hk,rfl⟩:=hq
     have hlen:(pre++leBytes k x).length=pre.length+k:=by rw [List.length_append,leBytes_length]
     by_cases hlt:k<v
     ·refine .inl ⟨_,⟨k+1,hlt,rfl⟩,by dsimp only;omega,fun kn ka=>?_⟩
      unfold yCm
      dsimp only
      rw [bif_t (decide_eq_true (by omega)),gd_t (by rw [Nat.zero_add];exact Nat.beq_refl _),gM_t (by rw [List.length_map];omega) (by rw [List.length_map];omega),u8_mod,map_snoc,gW_t (by simp [Nat.add_assoc]) (nm_by _),w64_t (n:=(k:Int)+1) (by omega) (by omega),List.append_assoc,←leBytes_snoc]
      have hd:((x/256^k:Nat):Int).tdiv 256=((x/256^(k+1):Nat):Int):=by
       rw [Int.tdiv_eq_ediv_of_nonneg (Int.natCast_nonneg _),Nat.pow_succ,←Nat.div_div_eq_div_mul]
       rfl
      rw [hd]
      have hx:x/256^(k+1)≤x:=Nat.div_le_self _ _
      generalize x/256^(k+1)=z at*
      rw [w64_t (by omega) (by omega)]
      rfl
     ·obtain rfl:k=v:=by omega
      refine .inr ⟨_,rfl,fun kn ka=>?_⟩
      unfold yCm
      dsimp only
      rw [bif_f (decide_eq_false (by omega)),gW_t rfl (nm_by _)])
   L ((v:Int),l.map inV,pre.map byV,i,(x:Int),0,()) ⟨0,Nat.zero_le _,by simp [leBytes]⟩ (by dsimp only;omega)
  subst hq
  exact hrun ka
 have hr:=loop2_run (α:=List (List V)×Int×Unit) (F:=yE3 (yIJ L) (loop1 yCm L)) (fun q=>∃k:Nat,k≤l.length∧(∀j (h:j<l.length),j<k→fitsB l[j] v=true)∧q=((v:Int),l.map inV,(b++putAll v (l.take k)).map byV,(k:Int),())) (fun q=>l.length-q.2.2.2.1.toNat)
  (fun q=>(∀j (h:j<l.length),fitsB l[j] v=true)∧q=((b++putAll v l).map byV,())) (fun q=>(∃j,∃h:j<l.length,fitsB l[j] v=false)∧q=([],2,()))
  (fun q hq=>by
    obtain⟨k,hk,hf,rfl⟩:=hq
    have hpl:(b++putAll v (l.take k)).length=b.length+v*k:=by rw [List.length_append,putAll_length,List.length_take,Nat.min_eq_left hk]
    by_cases hlt:k<l.length
    ·by_cases hfit:fitsB l[k] v=true
     ·refine .inl ⟨_,⟨k+1,hlt,fun j h hj=>?_,rfl⟩,by dsimp only;omega,fun kn ka kb=>?_⟩
      ·rcases Nat.lt_or_ge j k with h' | h'
       ·exact hf j h h'
       ·obtain rfl:j=k:=by omega
        exact hfit
      ·have hfl:=of_decide_eq_true hfit
       obtain⟨x,hx⟩:=Int.eq_ofNat_of_zero_le hfl.2.2.1
       have hxl:=fits_lt (n:=x) (w:=v) (by rw [←hx];exact hfit)
       have hvk:v*k+6≤6*l.length:=by
        have:v*k≤6*k:=Nat.mul_le_mul_right _ (by omega)
        omega
       unfold yE3
       dsimp only
       rw [bif_t (decide_eq_true (by rw [List.length_map];omega)),gI_in (by omega) (by omega),Int.toNat_natCast,aI_in hlt,fits_eq hL,bindO_s,hfit,Bool.not_true,cond_false]
       rw [gI_in (by omega) (by omega),gW_t rfl (nm_by _),hx,inner _ x _ _ (by rw [hpl];omega) hxl.2.1]
       dsimp only
       rw [gW_t rfl (nm_by _),w64_t (by omega) (by omega),List.append_assoc,List.take_succ_eq_append_getElem hlt,putAll_snoc,hx]
       rfl
     ·refine .inr (.inr ⟨_,⟨⟨k,hlt,by simpa using hfit⟩,rfl⟩,fun kn ka kb=>?_⟩)
      unfold yE3
      dsimp only
      rw [bif_t (decide_eq_true (by rw [List.length_map];omega)),gI_in (by omega) (by omega),Int.toNat_natCast,aI_in hlt,fits_eq hL,bindO_s,show fitsB l[k] v=false by simpa using hfit]
      rfl
    ·obtain rfl:k=l.length:=by omega
     refine .inr (.inl ⟨_,⟨fun j h=>hf j h h,rfl⟩,fun kn ka kb=>?_⟩)
     unfold yE3
     dsimp only
     rw [bif_f (decide_eq_false (by rw [List.length_map];omega)),gW_t rfl (nm_by _),List.take_length])
  L ((v:Int),l.map inV,b.map byV,0,()) ⟨0,Nat.zero_le _,fun j _ h=>absurd h (Nat.not_lt_zero _),by simp [putAll]⟩ (by dsimp only;omega)
 unfold putR
 rcases hr with ⟨q,⟨h1,rfl⟩,hrun⟩ | ⟨q,⟨⟨j,hj,h1⟩,rfl⟩,hrun⟩
 ·rw [hrun,putS_ok (by omega) (by omega) h1]
  dsimp only
  rw [gW_t rfl (nm_by _)]
 ·rw [hrun,putS_bad hj h1]
  dsimp only
  rw [gW_t rfl rfl]
  rfl
theorem and1(x:Nat)(h:x<4294967296):IntKind.i64.wrap ((BitVec.ofInt IntKind.i64.bits (x:Int) &&& BitVec.ofInt IntKind.i64.bits 1).toNat:Int)=((x%2:Nat):Int):=by
 have:=i64_and_nat x 1 (by omega) (by omega)
 rw [Nat.and_one_is_mod] at this
 exact this
theorem and32(x:Nat)(h:x<4294967296):IntKind.i64.wrap ((BitVec.ofInt IntKind.i64.bits (x:Int) &&& BitVec.ofInt IntKind.i64.bits 4294967295).toNat:Int)=(x:Int):=by
 have:=i64_and_nat x 4294967295 (by omega) (by omega)
 rw [show(4294967295:Nat)=2^32-1 from rfl,Nat.and_two_pow_sub_one_eq_mod,Nat.mod_eq_of_lt (by omega)] at this
 exact this
theorem xor_i(x y:Nat)(h:x<4294967296)(h':y<4294967296):IntKind.i64.wrap ((BitVec.ofInt IntKind.i64.bits (x:Int) ^^^ BitVec.ofInt IntKind.i64.bits (y:Int)).toNat:Int)=((x ^^^ y:Nat):Int):=i64_xor_nat x y (by omega) (by omega)
theorem shr1(x:Nat):(x:Int).fdiv (2^(min (1:Int).toNat IntKind.i64.bits))=((x/2:Nat):Int):=by
 show(x:Int).fdiv ((2:Int)^(min 1 64))=_
 rw [show((2:Int)^(min 1 64))=2 from rfl,Int.fdiv_eq_ediv_of_nonneg _ (by omega)]
 omega
theorem rstep_eq{L x:Nat}(h:x<4294967296):yDD L (x:Int)=some ((step x:Nat):Int):=by
 unfold yDD yPS
 rw [and1 x h,shr1]
 unfold step
 rcases Nat.mod_two_eq_zero_or_one x with hm | hm
 ·rw [hm,if_neg (by omega)];rfl
 ·rw [hm,if_pos rfl]
  have:=xor_i (x/2) 2197175160 (by omega) (by omega)
  exact congrArg some this
theorem rmove_eq{L x:Nat}(hL:10<L)(h:x<4294967296):yIM L (x:Int) 1=some ((steps 8 x:Nat):Int):=by
 unfold yIM yPQ
 rw [and32 x h]
 obtain⟨M,rfl⟩:∃M,L=M+2:=⟨L-2,by omega⟩
 have F:∀(m:Nat) (s:yGM) (ka:yIz→Option Int),loop1 (yC4 (loop1 (yB5 (yDD (M+2))) (M+2))) (m+1) s ka=yC4 (loop1 (yB5 (yDD (M+2))) (M+2)) s (fun s'=>loop1 (yC4 (loop1 (yB5 (yDD (M+2))) (M+2))) m s' ka) ka:=fun _ _ _=>rfl
 rw [F]
 unfold yC4
 dsimp only
 rw [bif_t (decide_eq_true (by omega))]
 obtain⟨q,hq,hrun⟩:=loop1_run (α:=Int) (F:=yB5 (yDD (M+2))) (fun q=>∃k:Nat,k≤8∧q=(((steps k x:Nat):Int),1,0,(k:Int),())) (fun q=>8-q.2.2.2.1.toNat) (fun q=>q=(((steps 8 x:Nat):Int),1,0,()))
  (fun q hq=>by
    obtain⟨k,hk,rfl⟩:=hq
    by_cases hlt:k<8
    ·refine .inl ⟨_,⟨k+1,hlt,rfl⟩,by dsimp only;omega,fun kn ka=>?_⟩
     unfold yB5
     dsimp only
     rw [bif_t (decide_eq_true (by omega)),rstep_eq (steps_lt k h),bindO_s,w64_t (by omega) (by omega)]
     rfl
    ·obtain rfl:k=8:=by omega
     refine .inr ⟨_,rfl,fun kn ka=>?_⟩
     unfold yB5
     dsimp only
     rw [bif_f (decide_eq_false (by omega))])
  (M+2) ((x:Int),1,0,0,()) ⟨0,Nat.zero_le _,rfl⟩ (by dsimp only;omega)
 subst hq
 rw [hrun]
 dsimp only
 rw [w64_t (by omega) (by omega)]
 show loop1 _ (M+1) _ _=_
 rw [F]
 unfold yC4
 dsimp only
 rw [bif_f (decide_eq_false (by omega))]
theorem rSum_eq{L:Nat}{b:Bs}(hL:10<L)(hb:b.length<L)(hl:b.length≤1000000000):yPR L (b.map byV)=some (crcSum b:Int):=by
 unfold yPR yQf yRH yQe
 obtain⟨q,hq,hrun⟩:=loop1_run (α:=Int) (F:=yGL (yIM L)) (fun q=>∃k:Nat,k≤b.length∧q=(b.map byV,((crcReg 4294967295 (b.take k):Nat):Int),(k:Int),())) (fun q=>b.length-q.2.2.1.toNat) (fun q=>q=(((crcReg 4294967295 b:Nat):Int),()))
  (fun q hq=>by
    obtain⟨k,hk,rfl⟩:=hq
    have hx:=crcReg_lt (x:=4294967295) (by omega) (b.take k)
    by_cases hlt:k<b.length
    ·refine .inl ⟨_,⟨k+1,hlt,rfl⟩,by dsimp only;omega,fun kn ka=>?_⟩
     have hc:=b[k].toNat_lt
     have hxx:crcReg 4294967295 (b.take k) ^^^ b[k].toNat<4294967296:=Nat.xor_lt_two_pow (n:=32) (by omega) (by omega)
     unfold yGL
     dsimp only
     rw [bif_t (decide_eq_true (by rw [List.length_map];omega)),gI_by (by omega) (by omega),Int.toNat_natCast,aI_by hlt,w64_t (n:=(b[k].toNat:Int)) (by omega) (by omega),xor_i _ _ hx (by omega),rmove_eq hL hxx,bindO_s,w64_t (by omega) (by omega),List.take_succ_eq_append_getElem hlt,crcReg_snoc]
     rfl
    ·obtain rfl:k=b.length:=by omega
     refine .inr ⟨_,rfl,fun kn ka=>?_⟩
     unfold yGL
     dsimp only
     rw [bif_f (decide_eq_false (by rw [List.length_map];omega)),List.take_length])
  L (b.map byV,4294967295,0,()) ⟨0,Nat.zero_le _,rfl⟩ (by dsimp only;omega)
 subst hq
 have h0:IntKind.i64.wrap ((BitVec.ofInt IntKind.i64.bits (IntKind.i64.wrap ((BitVec.ofInt IntKind.i64.bits 0 &&& BitVec.ofInt IntKind.i64.bits 4294967295).toNat:Int)) ^^^ BitVec.ofInt IntKind.i64.bits 4294967295).toNat:Int)=4294967295:=by decide +kernel
 rw [h0,hrun]
 dsimp only
 have:=xor_i (crcReg 4294967295 b) 4294967295 (crcReg_lt (by omega) _) (by omega)
 exact congrArg some this
end Go.Proofs.YtakljpcmbpaeaaaGreat

namespace Go.Proofs.YtakljpcmbpaeaaaGreat
open Go.RowKit
theorem nPut_eq{L:Nat}{b:Bs}{l:List Int}(n:Int)(hb:b.length+6*l.length≤1000000):num_Put L (b.map byV) n (l.map inV)=some ((putR b n l).1.map byV,(putR b n l).2,()):=by
 unfold num_Put
 rw [rows_all byRB_v,rows_all inRB_v,rows_d byRD_v,rows_d inRD_v,List.length_map,List.length_map,Nat.ble_eq_true_of_le (by omega)]
 rfl
theorem crc_eq{L:Nat}{b:Bs}(hb:b.length≤1000000000):crc_Sum L (b.map byV)=some (crcSum b:Int):=by
 unfold crc_Sum
 rw [rows_all byRB_v,rows_d byRD_v,List.length_map,Nat.ble_eq_true_of_le hb]
 rfl
theorem data_extract(s:ByteArray)(a b:Nat):(s.extract a b).data.toList=(s.data.toList.drop a).take (b-a):=by
 rw [ByteArray.data_extract,Array.toList_extract]
theorem extract_mk(s:ByteArray)(a b:Nat):s.extract a b=mkS ((s.data.toList.drop a).take (b-a)):=by
 rw [←data_extract,mkS_self]
theorem toList_mk(b:Bs):(mkS b).toList=b:=by rw [ByteArray.toList_eq];simp [mkS]
theorem toList_d(s:ByteArray):s.toList=s.data.toList:=by rw [ByteArray.toList_eq]
theorem kind_by{k:Int}(h1:1≤k)(h2:k≤127): [[V.int .u8 (IntKind.u8.wrap k)]]= [UInt8.ofNat k.toNat].map byV:=by
 have e:IntKind.u8.wrap k=((UInt8.ofNat k.toNat).toNat:Int):=by
  rw [IntKind.wrap_u8,UInt8.toNat_ofNat']
  omega
 rw [e];rfl
theorem putR2{k:Int}{n:Nat}(hn:n≤505):putR [UInt8.ofNat k.toNat] 2 [(n:Int)]=([UInt8.ofNat k.toNat]++leBytes 2 n,0):=by
 unfold putR
 rw [show(2:Int)=((2:Nat):Int) from rfl,putS_ok (by omega) (by omega) fun j h=>by
  have:j=0:=by simpa using h
  subst this
  exact decide_eq_true (by simp [mostW];omega)]
 simp [putAll]
theorem putR4{b:Bs}{n:Nat}(hn:n<4294967296):putR b 4 [(n:Int)]=(b++leBytes 4 n,0):=by
 unfold putR
 rw [show(4:Int)=((4:Nat):Int) from rfl,putS_ok (by omega) (by omega) fun j h=>by
  have:j=0:=by simpa using h
  subst this
  exact decide_eq_true (by simp [mostW];omega)]
 simp [putAll]
theorem app_rows(a:Bs)(s:ByteArray):a.map byV++rowsS s=(a++s.data.toList).map byV:=by rw [rowsS_by,List.map_append]
theorem take_all{α:Type}(l:List α){n:Nat}(h:n=l.length):l.take n=l:=by rw [h,List.take_length]
theorem sealed_eq{L:Nat}{k:Int}{rows:List (List V)}{s:ByteArray}(hk:k≤127)(hr:rowsNm rows=true):∃y,yCH L (rows,0,k,()) s=some ((mkS (sealR k s.data.toList).1,(sealR k s.data.toList).2,()),y):=by
 unfold yCH yG9
 dsimp only
 by_cases h1:k<1
 ·rw [bif_t (decide_eq_true h1),gW_t rfl hr,sealR_bad (by omega)]
  exact⟨_,rfl⟩
 rw [bif_f (decide_eq_false h1)]
 by_cases h2:505<(s.size:Int)
 ·rw [bif_t (decide_eq_true h2),gW_t rfl hr,sealR_bad (by rw [bytes_length];omega)]
  exact⟨_,rfl⟩
 rw [bif_f (decide_eq_false h2),kind_by (by omega) hk]
 have hl:s.data.toList.length=s.size:=bytes_length s
 have hin: [[V.int .i64 (s.size:Int)]]= [(s.size:Int)].map inV:=rfl
 rw [hin,nPut_eq 2 (by simp),putR2 (by omega),bindO_s]
 dsimp only
 have hh: [UInt8.ofNat k.toNat]++leBytes 2 s.size++s.data.toList=sealHead k s.data.toList:=by simp [sealHead,hl]
 have hlen:=sealHead_length k s.data.toList
 have e1:(([UInt8.ofNat k.toNat]++leBytes 2 s.size).map byV).length+(rowsS s).length=(sealHead k s.data.toList).length:=by
  rw [rowsS_by,List.length_map,List.length_map,←List.length_append,hh]
 rw [show((0:Int) !=0)=false from rfl,cond_false,app_rows,hh,e1,gd_t (by rw [Nat.zero_add];exact Nat.beq_refl _),gM_t (by omega) (by omega),gF_t (by simp) (by omega) (nm_by _),take_all _ (by simp),crc_eq (by omega),bindO_s,gF_t (by simp) (by omega) (nm_by _)]
 have hin2: [[V.int .i64 (crcSum (sealHead k s.data.toList):Int)]]= [(crcSum (sealHead k s.data.toList):Int)].map inV:=rfl
 rw [hin2,nPut_eq 4 (by simp;omega),putR4 (crcSum_lt _),bindO_s]
 dsimp only
 rw [show((0:Int) !=0)=false from rfl,cond_false,gd_t (by rw [Nat.zero_add];exact Nat.ble_eq_true_of_le (Nat.le_refl _)),take_all _ rfl,gd_t (bytesOf_is _),gW_t rfl (nm_by _),bytesS_by,sealR_ok (by omega) (by omega)]
 exact⟨_,rfl⟩
theorem seal_eq{L:Nat}{k:Int}{s:ByteArray}(hk:k≤127):yNn L k s=some (mkS (sealR k s.data.toList).1,(sealR k s.data.toList).2,()):=by
 unfold yNn yQx
 obtain⟨y,h⟩:=sealed_eq (L:=L) (s:=s) (rows:= []) hk rfl
 rw [h,bindO_s]
theorem i8_wrap{n:Nat}(h:n≤127):IntKind.i8.wrap (n:Int)=n:=by
 simp [IntKind.wrap,IntKind.bits,IntKind.signed]
 split <;> omega
theorem open_eq{L:Nat}(hL:10<L){s:ByteArray}(hs:s.size≤1000000000):yPp L s=some ((openR s.data.toList).1,mkS (openR s.data.toList).2.1,(openR s.data.toList).2.2,()):=by
 have hl:s.data.toList.length=s.size:=bytes_length s
 have hno:∀h:openR s.data.toList=(0,[],30),some ((0:Int),noS,(30:Int),())=some ((openR s.data.toList).1,mkS (openR s.data.toList).2.1,(openR s.data.toList).2.2,()):=fun h=>by rw [h];rfl
 unfold yPp yQw
 rw [num_Get_eq hL hs,bindO_s]
 by_cases h3:s.size<3
 ·rw [getS_out (by omega) (by omega)]
  exact hno (openR_short (by omega))
 have hg:=le_take_lt s.data.toList 1 2
 have hget:getS s.data.toList 1 2=(((le ((s.data.toList.drop 1).take 2):Nat):Int),0):=getS_ok (a:=1) (w:=2) (by omega) (by omega) (by omega)
 rw [hget]
 dsimp only
 generalize hn:le ((s.data.toList.drop 1).take 2)=n at*
 rw [show((0:Int) !=0)=false from rfl,cond_false,w64_t (n:=3+(n:Int)) (by omega) (by omega),w64_t (by omega) (by omega)]
 by_cases h4:¬(s.size:Int)=3+n+4
 ·rw [bif_t (bne_iff_ne.2 h4)]
  by_cases h7:s.size<7
  ·exact hno (openR_short (by omega))
  ·exact hno (openR_len (by omega) (by rw [hn];omega))
 replace h4:(s.size:Int)=3+n+4:=Decidable.not_not.1 h4
 rw [bif_f (by rw [h4];exact bne_self_eq_false _)]
 by_cases h5:505<(n:Int)
 ·rw [bif_t (decide_eq_true h5)]
  exact hno (openR_long (by omega))
 have hb:(((s[0]?).getD 0).toNat:Int)=((s.data.toList.getD 0 0).toNat:Int):=by
  rw [at_byte (by omega),List.getD_eq_getElem?_getD,List.getElem?_eq_getElem (by omega)];rfl
 rw [bif_f (decide_eq_false h5),gd_t (decide_eq_true (by omega)),hb]
 by_cases h6:(s.data.toList.getD 0 0).toNat=0
 ·rw [bif_t (by rw [h6];rfl)]
  exact hno (openR_zero h6)
 rw [bif_f (beq_eq_false_iff_ne.2 (by omega)),gd_t (decide_eq_true (by omega))]
 by_cases h7:127<(s.data.toList.getD 0 0).toNat
 ·rw [bif_t (decide_eq_true (by omega))]
  exact hno (openR_big h7)
 have hg4:=le_take_lt s.data.toList (3+n) 4
 have hget4:getS s.data.toList (3+(n:Int)) 4=(((le ((s.data.toList.drop (3+n)).take 4):Nat):Int),0):=getS_ok (a:=3+n) (w:=4) (by omega) (by omega) (by omega)
 have hd4:(s.data.toList.drop (3+n)).take 4=s.data.toList.drop (s.data.toList.length-4):=by
  rw [show s.data.toList.length-4=3+n by omega]
  exact List.take_of_length_le (by rw [List.length_drop];omega)
 have hex:rowsS (s.extract 0 (3+n))=(s.data.toList.take (s.data.toList.length-4)).map byV:=by
  rw [rowsS_by,data_extract,List.drop_zero,show 3+n-0=s.data.toList.length-4 by omega]
 have hes:(s.extract 0 (3+n)).size=3+n:=by rw [ByteArray.size_extract];omega
 have htl:(s.data.toList.take (s.data.toList.length-4)).length=3+n:=by rw [List.length_take];omega
 rw [bif_f (decide_eq_false (by omega)),num_Get_eq hL hs,hget4,bindO_s,gd_t (decide_eq_true (by omega)),gd_t (decide_eq_true (by omega)),show(3+(n:Int)).toNat=3+n by omega,hes,hex,gF_t (by rw [List.length_map];omega) (by omega) (nm_by _),take_all _ (by rw [List.length_map];omega),crc_eq (by omega),bindO_s,hd4]
 dsimp only
 by_cases h8:le (s.data.toList.drop (s.data.toList.length-4))=crcSum (s.data.toList.take (s.data.toList.length-4))
 ·rw [bif_f (by rw [h8];exact bne_self_eq_false _),gd_t (decide_eq_true (by omega)),gd_t (decide_eq_true (by omega)),gd_t (decide_eq_true (by omega)),gd_t (decide_eq_true (by omega)),i8_wrap (by omega),openR_ok (by omega) (by omega) (by omega) (by omega) (by rw [hn];omega) h8,extract_mk,show 3+n-3=s.data.toList.length-7 by omega]
 ·rw [bif_t (bne_iff_ne.2 (by omega))]
  exact hno (openR_sum (by omega) h8)
theorem of_eq{L:Nat}(hL:10<L){s:ByteArray}(hs:s.size≤1000000000)(k:Int):yPo L k s=some (mkS (ofR k s.data.toList).1,(ofR k s.data.toList).2,()):=by
 unfold yPo yT0 ofR
 rw [open_eq hL hs,bindO_s]
 dsimp only
 by_cases h1:(openR s.data.toList).2.2=0
 ·rw [bif_f (by rw [h1];rfl)]
  by_cases h2:(openR s.data.toList).1=k
  ·rw [bif_f (by rw [h2];exact bne_self_eq_false _),if_pos ⟨h1,h2⟩]
  ·rw [bif_t (bne_iff_ne.2 h2),if_neg fun h=>h2 h.2];rfl
 ·rw [bif_t (bne_iff_ne.2 h1),if_neg fun h=>h1 h.1];rfl
theorem byte_shr{r j:Nat}(hr:r<4294967296)(hj:j≤3): [V.int .u8 (IntKind.u8.wrap ((r:Int).fdiv (2^(min ((8*j:Nat):Int).toNat IntKind.i64.bits))))]=byV (UInt8.ofNat (r/256^j%256)):=by
 have h:(UInt8.ofNat (r/256^j%256)).toNat=r/256^j%256:=by simp
 have e:IntKind.u8.wrap ((r:Int).fdiv (2^(min ((8*j:Nat):Int).toNat IntKind.i64.bits)))=((UInt8.ofNat (r/256^j%256)).toNat:Int):=by
  rw [h,IntKind.wrap_u8,Int.toNat_natCast,show min (8*j) IntKind.i64.bits=8*j from by show min _ 64=_;omega]
  have:(2:Int)^(8*j)=((256^j:Nat):Int):=by
   rw [Int.pow_mul];norm_cast
  rw [this,Int.fdiv_eq_ediv_of_nonneg _ (Int.natCast_nonneg _)]
  omega
 rw [e];rfl
theorem four_by{r:Nat}(hr:r<4294967296): [[V.int .u8 (IntKind.u8.wrap (r:Int))],[V.int .u8 (IntKind.u8.wrap ((r:Int).fdiv (2^(min (8:Int).toNat IntKind.i64.bits))))],[V.int .u8 (IntKind.u8.wrap ((r:Int).fdiv (2^(min (16:Int).toNat IntKind.i64.bits))))],[V.int .u8 (IntKind.u8.wrap ((r:Int).fdiv (2^(min (24:Int).toNat IntKind.i64.bits))))]]=(leBytes 4 r).map byV:=by
 have h0:=byte_shr (j:=0) hr (by omega)
 have h1:=byte_shr (j:=1) hr (by omega)
 have h2:=byte_shr (j:=2) hr (by omega)
 have h3:=byte_shr (j:=3) hr (by omega)
 have e0:(r:Int).fdiv (2^(min ((8*0:Nat):Int).toNat IntKind.i64.bits))=r:=by
  show(r:Int).fdiv 1=r
  simp
 rw [e0] at h0
 rw [show(8:Int)=((8*1:Nat):Int) from rfl,show(16:Int)=((8*2:Nat):Int) from rfl,show(24:Int)=((8*3:Nat):Int) from rfl,h0,h1,h2,h3]
 simp [leBytes,Nat.div_div_eq_div_mul]
theorem rSeal_eq{L:Nat}(hL:1000<L){k:Int}{s:ByteArray}(hk:k≤127):yJu L k s=some (mkS (sealR k s.data.toList).1,(sealR k s.data.toList).2,()):=by
 unfold yJu yPV
 by_cases h1:k<1
 ·rw [bif_t (decide_eq_true h1),sealR_bad (by omega)];rfl
 rw [bif_f (decide_eq_false h1)]
 by_cases h2:505<(s.size:Int)
 ·rw [bif_t (decide_eq_true h2),sealR_bad (by rw [bytes_length];omega)];rfl
 rw [bif_f (decide_eq_false h2),kind_by (by omega) hk]
 have hl:s.data.toList.length=s.size:=bytes_length s
 have hin: [[V.int .i64 (s.size:Int)]]= [(s.size:Int)].map inV:=rfl
 rw [hin,rPut_eq (by omega) 2 (by simp) (by simp;omega),putR2 (by omega),bindO_s]
 dsimp only
 have hh: [UInt8.ofNat k.toNat]++leBytes 2 s.size++s.data.toList=sealHead k s.data.toList:=by simp [sealHead,hl]
 have hlen:=sealHead_length k s.data.toList
 have e1:(([UInt8.ofNat k.toNat]++leBytes 2 s.size).map byV).length+(rowsS s).length=(sealHead k s.data.toList).length:=by
  rw [rowsS_by,List.length_map,List.length_map,←List.length_append,hh]
 rw [app_rows,hh,e1,gd_t (by rw [Nat.zero_add];exact Nat.beq_refl _),gM_t (by omega) (by omega),gF_t (by simp) (by omega) (nm_by _),take_all _ (by simp),rSum_eq (by omega) (by omega) (by omega),bindO_s,four_by (crcSum_lt _),←List.map_append,gd_t (by rw [Nat.zero_add,List.length_map];exact Nat.beq_refl _),gM_t (by omega) (by omega)]
 have e2:(sealHead k s.data.toList).length+4=((sealHead k s.data.toList++leBytes 4 (crcSum (sealHead k s.data.toList))).map byV).length:=by simp [leBytes_length]
 rw [take_all _ e2,gd_t (by rw [Nat.zero_add,←e2];exact Nat.ble_eq_true_of_le (Nat.le_refl _)),gd_t (bytesOf_is _),bytesS_by,sealR_ok (by omega) (by omega)]
theorem rOpen_eq{L:Nat}(hL:1000<L)(s:ByteArray):yNf L s=some ((openR s.data.toList).1,mkS (openR s.data.toList).2.1,(openR s.data.toList).2.2,()):=by
 have hl:s.data.toList.length=s.size:=bytes_length s
 have hno:∀h:openR s.data.toList=(0,[],30),some ((0:Int),noS,(30:Int),())=some ((openR s.data.toList).1,mkS (openR s.data.toList).2.1,(openR s.data.toList).2.2,()):=fun h=>by rw [h];rfl
 unfold yNf yPU
 by_cases h1:(s.size:Int)<7
 ·rw [bif_t (decide_eq_true h1)]
  exact hno (openR_short (by omega))
 rw [bif_f (decide_eq_false h1)]
 by_cases h2:512<(s.size:Int)
 ·rw [bif_t (decide_eq_true h2)]
  exact hno (openR_long (by omega))
 have hb:(((s[0]?).getD 0).toNat:Int)=((s.data.toList.getD 0 0).toNat:Int):=by
  rw [at_byte (by omega),List.getD_eq_getElem?_getD,List.getElem?_eq_getElem (by omega)];rfl
 rw [bif_f (decide_eq_false h2),gd_t (decide_eq_true (by omega)),hb]
 by_cases h6:(s.data.toList.getD 0 0).toNat=0
 ·rw [bif_t (decide_eq_true (by omega))]
  exact hno (openR_zero h6)
 rw [bif_f (decide_eq_false (by omega)),gd_t (decide_eq_true (by omega))]
 by_cases h7:127<(s.data.toList.getD 0 0).toNat
 ·rw [bif_t (decide_eq_true (by omega))]
  exact hno (openR_big h7)
 rw [bif_f (decide_eq_false (by omega)),gd_t (decide_eq_true (by omega)),w64_t (by omega) (by omega),gd_t (decide_eq_true (by omega)),gd_t (decide_eq_true (by omega)),gd_t (decide_eq_true (by omega)),i8_wrap (by omega),show((s.size:Int)-4).toNat=s.size-4 by omega,rSeal_eq hL (by omega),bindO_s,data_extract,show s.size-4-3=s.data.toList.length-7 by omega,extract_mk]
 rw [show s.size-4-3=s.data.toList.length-7 by omega]
 generalize hm:(s.data.toList.drop 3).take (s.data.toList.length-7)=m
 have hml:m.length≤505:=by rw [←hm,List.length_take];omega
 rw [sealR_ok (by omega) hml,toList_mk,toList_d]
 dsimp only
 rw [show((0:Int) !=0)=false from rfl,cond_false]
 have hop:openR s.data.toList=if sealB (s.data.toList.getD 0 0).toNat m=some s.data.toList then(((s.data.toList.getD 0 0).toNat:Int),m,0) else(0,[],30):=by
  unfold openR
  rw [hm]
  by_cases h:sealB (s.data.toList.getD 0 0).toNat m=some s.data.toList
  ·rw [if_pos h,if_pos ⟨by omega,by omega,by omega,by omega,h⟩]
  ·rw [if_neg h,if_neg fun q=>h q.2.2.2.2]
 rw [hop,sealB_some (by omega) hml]
 by_cases h8:sealHead ((s.data.toList.getD 0 0).toNat:Int) m++leBytes 4 (crcSum (sealHead ((s.data.toList.getD 0 0).toNat:Int) m))=s.data.toList
 ·rw [bif_f (by rw [h8,beq_self_eq_true];rfl),if_pos (by rw [h8])]
 ·rw [bif_t (by rw [beq_eq_false_iff_ne.2 h8];rfl),if_neg fun h=>h8 (by injection h)]
  rfl
theorem rOf_eq{L:Nat}(hL:1000<L)(s:ByteArray)(k:Int):yPw L k s=some (mkS (ofR k s.data.toList).1,(ofR k s.data.toList).2,()):=by
 unfold yPw yRj ofR
 rw [rOpen_eq hL,bindO_s]
 dsimp only
 by_cases h1:(openR s.data.toList).2.2=0
 ·rw [bif_f (by rw [h1];rfl)]
  by_cases h2:(openR s.data.toList).1=k
  ·rw [bif_f (by rw [h2];exact bne_self_eq_false _),if_pos ⟨h1,h2⟩]
  ·rw [bif_t (bne_iff_ne.2 h2),if_neg fun h=>h2 h.2];rfl
 ·rw [bif_t (bne_iff_ne.2 h1),if_neg fun h=>h1 h.1];rfl
end Go.Proofs.YtakljpcmbpaeaaaGreat

namespace Go.Proofs.YtakljpcmbpaeaaaGreat
open Go.RowKit
theorem putR1(b:Bs)(w n:Int):putR b w [n]=if fitsB n w=true then(b++leBytes w.toNat n.toNat,0) else([],2):=by
 unfold putR putS
 by_cases h:fitsB n w=true
 ·have hf:=of_decide_eq_true h
  rw [if_pos h,if_pos ⟨⟨hf.1,hf.2.1⟩,by simpa using h⟩]
  simp [putAll]
 ·rw [if_neg h,if_neg fun q=>h (by simpa using q.2)]
theorem app_data(a b:ByteArray):(a++b).data.toList=a.data.toList++b.data.toList:=by simp
theorem mk_data(b:Bs):(mkS b).data.toList=b:=rfl
theorem mk_size(b:Bs):(mkS b).size=b.length:=by rw [←bytes_length,mk_data]
theorem fieldsB_at{ws l:List Int}{i:Nat}{b:Bs}(hw:i<ws.length)(hl:i<l.length)(h:fieldsB [] (ws.take i) (l.take i)=some b):
  fieldsB [] (ws.take (i+1)) (l.take (i+1))=if fitsB l[i] ws[i]=true∧(b++leBytes ws[i].toNat l[i].toNat).length≤505 then some (b++leBytes ws[i].toNat l[i].toNat) else none:=by
 rw [List.take_succ_eq_append_getElem hw,List.take_succ_eq_append_getElem hl,fieldsB_snoc _ _ _ _ _ (by simp;omega),h]
 rfl
theorem fieldsB_out{ws l:List Int}{i:Nat}(hlen:ws.length=l.length)(h:fieldsB [] (ws.take i) (l.take i)=none):fieldsB [] ws l=none:=by
 have:=fieldsB_none [] (ws.take i) (l.take i) (ws.drop i) (l.drop i) (by simp [hlen]) h
 rwa [List.take_append_drop,List.take_append_drop] at this
theorem make_eq{L:Nat}{k:Int}{rest:ByteArray}{ws l:List Int}(hk:k≤127)(hL:l.length<L)(hl:l.length≤1000000)(hr:rest.size≤1000000):
  yNm L k rest (ws.map inV) (l.map inV)=some (mkS (makeR k rest.data.toList ws l).1,(makeR k rest.data.toList ws l).2,()):=by
 unfold yNm yQv makeR
 rw [List.length_map,List.length_map]
 by_cases hlen:¬ws.length=l.length
 ·rw [bif_t (bne_iff_ne.2 (by omega)),fieldsB_len _ _ _ hlen];rfl
 replace hlen:ws.length=l.length:=Decidable.not_not.1 hlen
 rw [bif_f (by rw [hlen];exact bne_self_eq_false _)]
 have hrun:=loop2_run (α:=ByteArray×Int×Unit) (F:=yE9 (num_Put L)) (fun q=>∃(i:Nat) (b:Bs),i≤l.length∧fieldsB [] (ws.take i) (l.take i)=some b∧q=(rest,ws.map inV,(b.map byV,0,k,()),l.map inV,(l.length:Int),(i:Int),())) (fun q=>l.length-q.2.2.2.2.2.1.toNat)
  (fun a=>∃b,fieldsB [] ws l=some b∧a=(rest,(b.map byV,0,k,()),())) (fun a=>fieldsB [] ws l=none∧a=(noS,2,()))
  (fun q hq=>by
    obtain⟨i,b,hi,hf,rfl⟩:=hq
    have hbl:=fieldsB_length _ _ _ _ hf (by simp)
    by_cases hlt:i<l.length
    ·have hstep:=fieldsB_at (by omega) hlt hf
     have hp:num_Put L (b.map byV) ws[i] ([[V.int .i64 l[i]]])=some ((putR b ws[i] [l[i]]).1.map byV,(putR b ws[i] [l[i]]).2,()):=nPut_eq (l:= [l[i]]) _ (by simp;omega)
     rw [putR1] at hp
     have pre:∀kn ka kb,yE9 (num_Put L) (rest,ws.map inV,(b.map byV,0,k,()),l.map inV,(l.length:Int),(i:Int),()) kn ka kb=(bindO (num_Put L (b.map byV) ws[i] ([[V.int .i64 l[i]]])) fun r1=>
       bif r1.2.1 !=0 then kb (noS,2,()) else bif(0:Int) !=0 then kb (noS,2,()) else bif decide (505<(r1.1.length:Int)) then kb (noS,2,()) else
       gW r1.1 r1.1.length<|kn (rest,ws.map inV,(r1.1,0,k,()),l.map inV,(l.length:Int),w64 ((i:Int)+1),()):Option (ByteArray×Int×Unit)):=fun kn ka kb=>by
      unfold yE9
      dsimp only
      rw [bif_t (decide_eq_true (by omega)),gI_in (by omega) (by omega),gI_in (by omega) (by omega),gF_t (by rw [List.length_map];omega) (by rw [List.length_map];omega) (nm_by _),take_all _ rfl,Int.toNat_natCast,aI_in hlt,aI_in (by omega)]
     by_cases hfit:fitsB l[i] ws[i]=true
     ·rw [if_pos hfit] at hp
      by_cases h5:(b++leBytes ws[i].toNat l[i].toNat).length≤505
      ·rw [if_pos ⟨hfit,h5⟩] at hstep
       refine .inl ⟨_,⟨i+1,_,hlt,hstep,rfl⟩,by dsimp only;omega,fun kn ka kb=>?_⟩
       rw [pre,hp,bindO_s]
       dsimp only
       rw [show((0:Int) !=0)=false from rfl,cond_false,cond_false,bif_f (decide_eq_false (by rw [List.length_map];omega)),gW_t rfl (nm_by _),w64_t (by omega) (by omega)]
       rfl
      ·rw [if_neg fun h=>h5 h.2] at hstep
       refine .inr (.inr ⟨_,⟨fieldsB_out hlen hstep,rfl⟩,fun kn ka kb=>?_⟩)
       rw [pre,hp,bindO_s]
       dsimp only
       rw [show((0:Int) !=0)=false from rfl,cond_false,cond_false,bif_t (decide_eq_true (by rw [List.length_map];omega))]
     ·rw [if_neg hfit] at hp
      rw [if_neg fun h=>hfit h.1] at hstep
      refine .inr (.inr ⟨_,⟨fieldsB_out hlen hstep,rfl⟩,fun kn ka kb=>?_⟩)
      rw [pre,hp,bindO_s]
      rfl
    ·obtain rfl:i=l.length:=by omega
     refine .inr (.inl ⟨_,⟨b,by rw [List.take_length,←hlen,List.take_length] at hf;exact hf,rfl⟩,fun kn ka kb=>?_⟩)
     unfold yE9
     dsimp only
     rw [bif_f (decide_eq_false (by omega)),gW_t rfl (nm_by _)])
  L (rest,ws.map inV,([],0,k,()),l.map inV,(l.length:Int),0,()) ⟨0,[],Nat.zero_le _,rfl,rfl⟩ (by dsimp only;omega)
 rcases hrun with ⟨a,⟨b,hb,rfl⟩,hrun⟩ | ⟨a,⟨hb,rfl⟩,hrun⟩
 ·have hbl:=fieldsB_length _ _ _ _ hb (by simp)
  rw [hrun,hb]
  dsimp only
  rw [gd_t (by rw [Nat.zero_add];exact Nat.ble_eq_true_of_le (Nat.le_refl _)),take_all _ rfl,gd_t (bytesOf_is _),bytesS_by,mk_size,gd_t (decide_eq_true (by omega)),gW_t rfl (nm_by _)]
  obtain⟨y,hy⟩:=sealed_eq (L:=L) (k:=k) (rows:=b.map byV) (s:=mkS b++rest) hk (nm_by _)
  rw [hy,bindO_s,app_data,mk_data]
 ·rw [hrun,hb];rfl
theorem rMake_eq{L:Nat}{k:Int}{rest:ByteArray}{ws l:List Int}(hk:k≤127)(hL:l.length<L)(hL2:1000<L)(hl:l.length≤1000000)(hr:rest.size≤1000000):
  yJt L k rest (ws.map inV) (l.map inV)=some (mkS (makeR k rest.data.toList ws l).1,(makeR k rest.data.toList ws l).2,()):=by
 unfold yJt yPT makeR
 rw [List.length_map,List.length_map]
 by_cases hlen:¬ws.length=l.length
 ·rw [bif_t (bne_iff_ne.2 (by omega)),fieldsB_len _ _ _ hlen];rfl
 replace hlen:ws.length=l.length:=Decidable.not_not.1 hlen
 rw [bif_f (by rw [hlen];exact bne_self_eq_false _)]
 have hrun:=loop2_run (α:=ByteArray×Int×Unit) (F:=yDy (yCA L)) (fun q=>∃(i:Nat) (b:Bs),i≤l.length∧fieldsB [] (ws.take i) (l.take i)=some b∧q=(k,rest,ws.map inV,l.map inV,b.map byV,(i:Int),())) (fun q=>l.length-q.2.2.2.2.2.1.toNat)
  (fun a=>∃b,fieldsB [] ws l=some b∧a=(k,rest,b.map byV,())) (fun a=>fieldsB [] ws l=none∧a=(noS,2,()))
  (fun q hq=>by
    obtain⟨i,b,hi,hf,rfl⟩:=hq
    have hbl:=fieldsB_length _ _ _ _ hf (by simp)
    by_cases hlt:i<l.length
    ·have hstep:=fieldsB_at (by omega) hlt hf
     have hp:yCA L (b.map byV) ws[i] ([[V.int .i64 l[i]]])=some ((putR b ws[i] [l[i]]).1.map byV,(putR b ws[i] [l[i]]).2,()):=rPut_eq (l:= [l[i]]) (by omega) _ (by simp;omega) (by simp;omega)
     rw [putR1] at hp
     have pre:∀kn ka kb,yDy (yCA L) (k,rest,ws.map inV,l.map inV,b.map byV,(i:Int),()) kn ka kb=(bindO (yCA L (b.map byV) ws[i] ([[V.int .i64 l[i]]])) fun r1=>
       bif r1.2.1 !=0 then kb (noS,2,()) else bif decide (505<(r1.1.length:Int)) then kb (noS,2,()) else
       gF r1.1 (0+r1.1.length)<|kn (k,rest,ws.map inV,l.map inV,r1.1.take r1.1.length,w64 ((i:Int)+1),()):Option (ByteArray×Int×Unit)):=fun kn ka kb=>by
      unfold yDy
      dsimp only
      rw [bif_t (decide_eq_true (by rw [List.length_map];omega)),gI_in (by omega) (by omega),gI_in (by omega) (by omega),Int.toNat_natCast,aI_in hlt,aI_in (by omega)]
     by_cases hfit:fitsB l[i] ws[i]=true
     ·rw [if_pos hfit] at hp
      by_cases h5:(b++leBytes ws[i].toNat l[i].toNat).length≤505
      ·rw [if_pos ⟨hfit,h5⟩] at hstep
       refine .inl ⟨_,⟨i+1,_,hlt,hstep,rfl⟩,by dsimp only;omega,fun kn ka kb=>?_⟩
       rw [pre,hp,bindO_s]
       dsimp only
       rw [show((0:Int) !=0)=false from rfl,cond_false,bif_f (decide_eq_false (by rw [List.length_map];omega)),gF_t (by omega) (by rw [List.length_map];omega) (nm_by _),take_all _ rfl,w64_t (by omega) (by omega)]
       rfl
      ·rw [if_neg fun h=>h5 h.2] at hstep
       refine .inr (.inr ⟨_,⟨fieldsB_out hlen hstep,rfl⟩,fun kn ka kb=>?_⟩)
       rw [pre,hp,bindO_s]
       dsimp only
       rw [show((0:Int) !=0)=false from rfl,cond_false,bif_t (decide_eq_true (by rw [List.length_map];omega))]
     ·rw [if_neg hfit] at hp
      rw [if_neg fun h=>hfit h.1] at hstep
      refine .inr (.inr ⟨_,⟨fieldsB_out hlen hstep,rfl⟩,fun kn ka kb=>?_⟩)
      rw [pre,hp,bindO_s]
      rfl
    ·obtain rfl:i=l.length:=by omega
     refine .inr (.inl ⟨_,⟨b,by rw [List.take_length,←hlen,List.take_length] at hf;exact hf,rfl⟩,fun kn ka kb=>?_⟩)
     unfold yDy
     dsimp only
     rw [bif_f (decide_eq_false (by rw [List.length_map];omega))])
  L (k,rest,ws.map inV,l.map inV,[],0,()) ⟨0,[],Nat.zero_le _,rfl,rfl⟩ (by dsimp only;omega)
 rcases hrun with ⟨a,⟨b,hb,rfl⟩,hrun⟩ | ⟨a,⟨hb,rfl⟩,hrun⟩
 ·have hbl:=fieldsB_length _ _ _ _ hb (by simp)
  rw [hrun,hb]
  dsimp only
  rw [gd_t (bytesOf_is _),bytesS_by,mk_size,gd_t (decide_eq_true (by omega)),rSeal_eq hL2 hk,bindO_s,app_data,mk_data]
 ·rw [hrun,hb];rfl
theorem takeF_at{s:Bs}{ws:List Int}{i:Nat}{r:List Int×Bs}(hw:i<ws.length)(h:takeF s (ws.take i)=some r):
  takeF s (ws.take (i+1))=if(getS r.2 0 ws[i]).2=0 then some (r.1++ [(getS r.2 0 ws[i]).1],r.2.drop ws[i].toNat) else none:=by
 rw [List.take_succ_eq_append_getElem hw,takeF_snoc,h]
 rfl
theorem takeF_out{s:Bs}{ws:List Int}{i:Nat}(h:takeF s (ws.take i)=none):takeF s ws=none:=by
 have:=takeF_none s (ws.take i) (ws.drop i) h
 rwa [List.take_append_drop] at this
theorem extract_end(s:ByteArray)(k:Nat):s.extract k s.size=mkS (s.data.toList.drop k):=by
 rw [extract_mk]
 congr 1
 exact List.take_of_length_le (by rw [List.length_drop,bytes_length];omega)
theorem ofR_two(k:Int)(s:Bs):(ofR k s).2=0∨ofR k s=([],30):=by
 unfold ofR
 split
 ·exact .inl rfl
 ·exact .inr rfl
theorem openR_le(s:Bs):(openR s).2.1.length≤s.length:=by
 unfold openR
 split
 ·simp only [List.length_take,List.length_drop];omega
 ·exact Nat.zero_le _
theorem ofR_le(k:Int)(s:Bs):(ofR k s).1.length≤s.length:=by
 unfold ofR
 split
 ·exact openR_le s
 ·exact Nat.zero_le _
theorem fields_eq{L:Nat}(hL:10<L){s:ByteArray}{ws:List Int}(hs:s.size≤1000000000)(hw:ws.length<L)(hw2:ws.length≤1000000)(k:Int):
  yKI L k s (ws.map inV)=some ((fieldsR k s.data.toList ws).1.map inV,mkS (fieldsR k s.data.toList ws).2.1,(fieldsR k s.data.toList ws).2.2,()):=by
 have hol:=ofR_le k s.data.toList
 rw [bytes_length] at hol
 unfold yKI yOo fieldsR
 rw [of_eq hL hs,bindO_s,List.length_map]
 rcases ofR_two k s.data.toList with h0 | h0
 ·rw [if_pos h0,h0]
  generalize (ofR k s.data.toList).1=load at*
  have hrun:=loop2_run (α:=List (List V)×ByteArray×Int×Unit) (F:=yBv (yB4 L)) (fun q=>∃(i:Nat) (r:List Int×Bs),i≤ws.length∧takeF load (ws.take i)=some r∧q=(r.1.map inV,mkS r.2,0,ws.map inV,(ws.length:Int),(i:Int),())) (fun q=>ws.length-q.2.2.2.2.2.1.toNat)
   (fun a=>∃r,takeF load ws=some r∧a=(r.1.map inV,mkS r.2,0,())) (fun a=>takeF load ws=none∧a=([],noS,30,()))
   (fun q hq=>by
     obtain⟨i,r,hi,hf,rfl⟩:=hq
     have hrl:=takeF_le _ _ _ hf
     rw [List.length_take,Nat.min_eq_left hi] at hrl
     by_cases hlt:i<ws.length
     ·have hstep:=takeF_at hlt hf
      have pre:∀kn ka kb,yBv (yB4 L) (r.1.map inV,mkS r.2,0,ws.map inV,(ws.length:Int),(i:Int),()) kn ka kb=(bif(getS r.2 0 ws[i]).2 !=0 then kb ([],noS,30,()) else
        gd (decide (0≤ws[i]))<|gd (decide (ws[i]≤(r.2.length:Int)))<|kn ((r.1++ [(getS r.2 0 ws[i]).1]).map inV,mkS (r.2.drop ws[i].toNat),0,ws.map inV,(ws.length:Int),((i+1:Nat):Int),()):Option (List (List V)×ByteArray×Int×Unit)):=fun kn ka kb=>by
       have e:r.1.map inV++([[V.int .i64 (getS r.2 0 ws[i]).1]])=(r.1++ [(getS r.2 0 ws[i]).1]).map inV:=by rw [List.map_append];rfl
       unfold yBv
       dsimp only
       rw [bif_t (decide_eq_true (by omega)),gI_in (by omega) (by omega),show((0:Int) !=0)=false from rfl,cond_false,Int.toNat_natCast,aI_in hlt,num_Get_eq hL (by rw [mk_size];omega),bindO_s,mk_data,e,gd_t (by rw [Nat.zero_add];exact Nat.beq_refl _),gM_t (by rw [List.length_map];omega) (by rw [List.length_map];omega),gW_t (by simp) (nm_in _),extract_end,mk_data,mk_size,w64_t (by omega) (by omega)]
       rfl
      by_cases hg:(getS r.2 0 ws[i]).2=0
      ·rw [if_pos hg] at hstep
       have hz:=getS_zero hg
       refine .inl ⟨_,⟨i+1,_,hlt,hstep,rfl⟩,by dsimp only;omega,fun kn ka kb=>?_⟩
       rw [pre,bif_f (by rw [hg];rfl),gd_t (decide_eq_true (by omega)),gd_t (decide_eq_true (by omega))]
      ·rw [if_neg hg] at hstep
       refine .inr (.inr ⟨_,⟨takeF_out hstep,rfl⟩,fun kn ka kb=>?_⟩)
       rw [pre,bif_t (bne_iff_ne.2 hg)]
     ·obtain rfl:i=ws.length:=by omega
      refine .inr (.inl ⟨_,⟨r,by rwa [List.take_length] at hf,rfl⟩,fun kn ka kb=>?_⟩)
      unfold yBv
      dsimp only
      rw [bif_f (decide_eq_false (by omega)),gW_t rfl (nm_in _)])
   L ([],mkS load,0,ws.map inV,(ws.length:Int),0,()) ⟨0,([],load),Nat.zero_le _,rfl,rfl⟩ (by dsimp only;omega)
  rcases hrun with ⟨a,⟨r,hr,rfl⟩,hrun⟩ | ⟨a,⟨hr,rfl⟩,hrun⟩
  ·rw [hrun,hr]
   dsimp only
   rw [show((0:Int) !=0)=false from rfl,cond_false,gW_t rfl (nm_in _)]
  ·rw [hrun,hr]
   dsimp only
   rw [gW_t rfl rfl]
   rfl
 ·rw [h0,if_neg (by simp)]
  obtain⟨M,rfl⟩:∃M,L=M+1:=⟨L-1,by omega⟩
  have F:∀(s:yFY) (ka:yHn→Option (List (List V)×ByteArray×Int×Unit)) kb,loop2 (yBv (yB4 (M+1))) (M+1) s ka kb=yBv (yB4 (M+1)) s (fun s'=>loop2 (yBv (yB4 (M+1))) M s' ka kb) ka kb:=fun _ _ _=>rfl
  rw [F]
  unfold yBv
  dsimp only
  by_cases h:(0:Int)<(ws.length:Int)
  ·rw [bif_t (decide_eq_true h),gI_in (by omega) (by omega),show((30:Int) !=0)=true from rfl,cond_true,gW_t rfl rfl];rfl
  ·rw [bif_f (decide_eq_false h),gW_t rfl rfl];rfl
end Go.Proofs.YtakljpcmbpaeaaaGreat

namespace Go.Proofs.YtakljpcmbpaeaaaGreat
open Go.RowKit
def srt:List Int→Bool
 | a::b::l=>decide (a≤b)&&srt (b::l)
 | _=>true
theorem within_go{α:Type}{l:List Int}(hl:l.length≤1000){ka:Unit→Option α}{kb:Bool×Unit→Option α}:∀(m i:Nat),i+1≤l.length→l.length<m+i+1→loop2 yDr m (l.map inV,((i+1:Nat):Int),()) ka kb=if srt (l.drop i)=true then ka () else kb (false,())
 | 0,i,h1,h2=>by omega
 | m+1,i,h1,h2=>by
   show yDr (l.map inV,((i+1:Nat):Int),()) (fun s'=>loop2 yDr m s' ka kb) ka kb=_
   unfold yDr
   dsimp only
   by_cases hlt:i+1<l.length
   ·rw [bif_t (decide_eq_true (by rw [List.length_map];omega)),show((i+1:Nat):Int)-1=i by omega,w64_t (n:=(i:Int)) (by omega) (by omega),gI_in (by omega) (by omega),gI_in (by omega) (by omega),Int.toNat_natCast,Int.toNat_natCast,aI_in hlt,aI_in (by omega),w64_t (by omega) (by omega)]
    have e:l.drop i=l[i]::l[i+1]::l.drop (i+2):=by rw [List.drop_eq_getElem_cons (by omega),List.drop_eq_getElem_cons hlt]
    by_cases hc:l[i+1]<l[i]
    ·rw [bif_t (decide_eq_true hc),e,if_neg]
     show ¬(decide (l[i]≤l[i+1])&&_)=true
     rw [decide_eq_false (by omega)]
     simp
    ·rw [bif_f (decide_eq_false hc),show((i+1:Nat):Int)+1=((i+1+1:Nat):Int) by omega,within_go hl m (i+1) (by omega) (by omega),e]
     have:srt (l[i]::l[i+1]::l.drop (i+2))=srt (l.drop (i+1)):=by
      rw [List.drop_eq_getElem_cons hlt]
      show(decide (l[i]≤l[i+1])&&_)=_
      rw [decide_eq_true (by omega),Bool.true_and]
     rw [this]
   ·have e:l.drop i= [l[i]]:=by rw [List.drop_eq_getElem_cons (by omega),List.drop_eq_nil_of_le (by omega)]
    rw [bif_f (decide_eq_false (by rw [List.length_map];omega)),e]
    rfl
theorem within_eq{L:Nat}{l:List Int}(h0:1≤l.length)(hl:l.length≤1000)(hL:l.length<L):yIE L (l.map inV)=some (srt l):=by
 unfold yIE yPG
 have:=within_go (α:=Bool) hl (ka:=fun q1=>some true) (kb:=fun q2=>some q2.1) L 0 (by omega) (by omega)
 refine this.trans ?_
 rw [List.drop_zero]
 cases srt l <;> rfl
theorem gMay_eq{L:Nat}(hL:10<L){x:yAN}(hw:i64b x.Wait=true):yLG L x=some (geoOf x).may:=by
 obtain⟨w1,w2⟩:=i64b_d hw
 have W:∀l:List Int,1≤l.length→l.length≤10→yIE L (l.map inV)=some (srt l):=fun l h1 h2=>within_eq h1 (by omega) (by omega)
 have W3:∀a b c:Int,yIE L ([[V.int .i64 a],[V.int .i64 b],[V.int .i64 c]])=some (decide (a≤b∧b≤c)):=fun a b c=>(W [a,b,c] (by simp) (by simp)).trans (by simp [srt])
 have W4:∀a b c d:Int,yIE L ([[V.int .i64 a],[V.int .i64 b],[V.int .i64 c],[V.int .i64 d]])=some (decide (a≤b∧b≤c∧c≤d)):=fun a b c d=>(W [a,b,c,d] (by simp) (by simp)).trans (by simp [srt])
 have no:∀{p:Prop},((geoOf x).OK→p)→¬p→(geoOf x).may=false:=fun h hp=>by
  cases hm:(geoOf x).may with
  | false=>rfl
  | true=>exact absurd (h (Geo.may_ok hm)) hp
 unfold yLG yTH
 rw [W4,bindO_s]
 by_cases h1:¬(1≤x.Slots∧x.Slots≤x.Nodes∧x.Nodes≤16)
 ·rw [decide_eq_false h1,no (fun h=>⟨h.s1,h.s2,h.n2⟩) h1];rfl
 replace h1:=Decidable.not_not.1 h1
 rw [decide_eq_true h1,cond_true,W3,bindO_s]
 by_cases h2:¬(1≤x.Blocks∧x.Blocks≤64)
 ·rw [decide_eq_false h2,no (fun h=>⟨h.b1,h.b2⟩) h2];rfl
 replace h2:=Decidable.not_not.1 h2
 rw [decide_eq_true h2,cond_true,W3,bindO_s]
 by_cases h3:¬(1≤x.Per∧x.Per≤8)
 ·rw [decide_eq_false h3,no (fun h=>⟨h.p1,h.p2⟩) h3];rfl
 replace h3:=Decidable.not_not.1 h3
 rw [decide_eq_true h3,cond_true,w64_t (n:=x.Per+2) (by omega) (by omega),W3,bindO_s]
 by_cases h4:¬(x.Per+2≤x.Journal∧x.Journal≤64)
 ·rw [decide_eq_false h4,no (fun h=>⟨h.j1,h.j2⟩) h4];rfl
 replace h4:=Decidable.not_not.1 h4
 rw [decide_eq_true h4,cond_true,w64_t (n:=8*x.Slots) (by omega) (by omega),W3,bindO_s]
 by_cases h5:¬(8*x.Slots≤x.Log∧x.Log≤512)
 ·rw [decide_eq_false h5,no (fun h=>⟨h.l1,h.l2⟩) h5];rfl
 replace h5:=Decidable.not_not.1 h5
 rw [decide_eq_true h5,cond_true,W4,bindO_s]
 congr 1
 by_cases hmin:x.Wait= -9223372036854775808
 ·rw [no (p:=1≤x.Wait) (fun h=>by have h1:1≤x.Lease:=h.e1;have h2:x.Lease<x.Wait:=h.e2;omega) (by omega),hmin]
  exact decide_eq_false fun q=>by
   have:w64 (-9223372036854775808-1)=9223372036854775807:=by decide
   omega
 ·rw [w64_t (n:=x.Wait-1) (by omega) (by omega)]
  show decide _=decide _
  refine decide_eq_decide.2 ⟨fun h=>?_,fun h=>?_⟩
  ·show 1≤x.Nodes∧x.Nodes≤16∧1≤x.Slots∧x.Slots≤x.Nodes∧1≤x.Blocks∧x.Blocks≤64∧1≤x.Per∧x.Per≤8∧x.Per+2≤x.Journal∧x.Journal≤64∧8*x.Slots≤x.Log∧x.Log≤512∧1≤x.Lease∧x.Lease<x.Wait∧x.Wait≤1048576
   omega
  ·obtain⟨_,_,_,_,_,_,_,_,_,_,_,_,q1,q2,q3⟩:=h
   replace q1:1≤x.Lease:=q1
   replace q2:x.Lease<x.Wait:=q2
   replace q3:x.Wait≤1048576:=q3
   omega
theorem in_eq{L:Nat}(n a b:Int):yI5 L n a b=some (decide (a≤n∧n≤b)):=by
 unfold yI5 yRk
 by_cases h1:a≤n
 ·rw [bif_t (decide_eq_true h1)]
  congr 1
  exact decide_eq_decide.2 ⟨fun h=>⟨h1,h⟩,fun h=>h.2⟩
 ·rw [bif_f (decide_eq_false h1),decide_eq_false fun h=>h1 h.1]
theorem rMay_eq{L:Nat}(x:yAN):yCT L x=some (geoOf x).may:=by
 have no:∀{p:Prop},((geoOf x).OK→p)→¬p→(geoOf x).may=false:=fun h hp=>by
  cases hm:(geoOf x).may with
  | false=>rfl
  | true=>exact absurd (h (Geo.may_ok hm)) hp
 unfold yCT yQh
 rw [in_eq,bindO_s]
 by_cases h1:¬(1≤x.Nodes∧x.Nodes≤16)
 ·rw [decide_eq_false h1,no (fun h=>⟨h.n1,h.n2⟩) h1];rfl
 replace h1:=Decidable.not_not.1 h1
 rw [decide_eq_true h1,cond_true,in_eq,bindO_s]
 by_cases h0:¬(1≤x.Slots∧x.Slots≤x.Nodes)
 ·rw [decide_eq_false h0,no (fun h=>⟨h.s1,h.s2⟩) h0];rfl
 replace h0:=Decidable.not_not.1 h0
 rw [decide_eq_true h0,cond_true,in_eq,bindO_s]
 by_cases h2:¬(1≤x.Blocks∧x.Blocks≤64)
 ·rw [decide_eq_false h2,no (fun h=>⟨h.b1,h.b2⟩) h2];rfl
 replace h2:=Decidable.not_not.1 h2
 rw [decide_eq_true h2,cond_true,in_eq,bindO_s]
 by_cases h3:¬(1≤x.Per∧x.Per≤8)
 ·rw [decide_eq_false h3,no (fun h=>⟨h.p1,h.p2⟩) h3];rfl
 replace h3:=Decidable.not_not.1 h3
 rw [decide_eq_true h3,cond_true,w64_t (n:=x.Per+2) (by omega) (by omega),in_eq,bindO_s]
 by_cases h4:¬(x.Per+2≤x.Journal∧x.Journal≤64)
 ·rw [decide_eq_false h4,no (fun h=>⟨h.j1,h.j2⟩) h4];rfl
 replace h4:=Decidable.not_not.1 h4
 rw [decide_eq_true h4,cond_true,w64_t (n:=8*x.Slots) (by omega) (by omega),in_eq,bindO_s]
 by_cases h5:¬(8*x.Slots≤x.Log∧x.Log≤512)
 ·rw [decide_eq_false h5,no (fun h=>⟨h.l1,h.l2⟩) h5];rfl
 replace h5:=Decidable.not_not.1 h5
 rw [decide_eq_true h5,cond_true]
 by_cases h6:1≤x.Lease
 ·rw [bif_t (decide_eq_true h6)]
  by_cases h7:x.Lease<x.Wait
  ·rw [bif_t (decide_eq_true h7)]
   congr 1
   show decide _=decide _
   refine decide_eq_decide.2 ⟨fun h=>?_,fun h=>h.2.2.2.2.2.2.2.2.2.2.2.2.2.2⟩
   show 1≤x.Nodes∧x.Nodes≤16∧1≤x.Slots∧x.Slots≤x.Nodes∧1≤x.Blocks∧x.Blocks≤64∧1≤x.Per∧x.Per≤8∧x.Per+2≤x.Journal∧x.Journal≤64∧8*x.Slots≤x.Log∧x.Log≤512∧1≤x.Lease∧x.Lease<x.Wait∧x.Wait≤1048576
   omega
  ·rw [bif_f (decide_eq_false h7),no (fun h=>h.e2) h7]
 ·rw [bif_f (decide_eq_false h6),no (fun h=>h.e1) h6]
theorem find_go{α:Type}{k:Int}{z:yAH}{rs:List yAH}(hl:rs.length≤1000){ka:yAH×Unit→Option α}{kb:yAH×Unit→Option α}:∀(m i:Nat),i≤rs.length→rs.length<m+i→loop2 yGI m (k,z,rs.map yAH.cs,(rs.length:Int),(i:Int),()) ka kb=match (rs.drop i).find? (fun r=>r.kind_==k) with
  | some r=>kb (r,())
  | none=>ka (z,())
 | 0,i,h1,h2=>by omega
 | m+1,i,h1,h2=>by
   show yGI (k,z,rs.map yAH.cs,(rs.length:Int),(i:Int),()) (fun s'=>loop2 yGI m s' ka kb) ka kb=_
   unfold yGI
   dsimp only
   by_cases hlt:i<rs.length
   ·have hc:∀j,cell (rs.map yAH.cs) i j=cell [yAH.cs rs[i]] 0 j:=fun j=>rows_cell hlt
    rw [bif_t (decide_eq_true (by omega)),gI_t (by omega) (by rw [List.length_map];omega) (rows_is _ (fun _=>rfl) (by omega)),Int.toNat_natCast,List.drop_eq_getElem_cons hlt]
    simp only [aI,hc,List.find?_cons]
    show(bif rs[i].kind_==k then kb (rs[i],()) else _)=_
    cases hk:rs[i].kind_==k with
    | true=>rfl
    | false=>
      rw [cond_false,w64_t (by omega) (by omega)]
      exact find_go hl m (i+1) (by omega) (by omega)
   ·rw [bif_f (decide_eq_false (by omega)),List.drop_eq_nil_of_le (by omega)]
    rfl
theorem find_eq{L:Nat}(hL:10<L){x:yAN}{k:Int}{rs:List yAH}(hl:rs.length≤6)(h:yJh L x=some (rs.map yAH.cs)):yNz L x k=some ((rs.find? fun r=>r.kind_==k).getD ⟨yAh.z,0,1⟩):=by
 unfold yNz yRf
 rw [h,bindO_s,List.length_map]
 have:=find_go (α:=yAH) (k:=k) (z:=yAH.z) (rs:=rs) (by omega) (ka:=fun q2=>some ⟨yAh.z,0,1⟩) (kb:=fun q3=>some q3.1) L 0 (Nat.zero_le _) (by omega)
 rw [List.drop_zero] at this
 refine this.trans ?_
 cases rs.find? fun r=>r.kind_==k <;> rfl
def regs(x:yAN):List yAH:= [⟨⟨0,1⟩,1,1⟩,⟨⟨1,x.Nodes⟩,2,1⟩,⟨⟨1+x.Nodes,x.Nodes⟩,3,1⟩,⟨⟨1+2*x.Nodes,x.Log⟩,4,1⟩,⟨⟨1+2*x.Nodes+x.Log,x.Slots*(1+x.Journal)⟩,6,1+x.Journal⟩,⟨⟨1+2*x.Nodes+x.Log+x.Slots*(1+x.Journal),x.Blocks*x.Per⟩,7,x.Per⟩]
theorem regions_eq{L:Nat}(hL:10<L){x:yAN}(hw:i64b x.Wait=true):yJh L x=some ((if(geoOf x).may=true then regs x else []).map yAH.cs):=by
 unfold yJh yN2
 rw [gMay_eq hL hw,bindO_s]
 cases hm:(geoOf x).may with
 | false=>rfl
 | true=>
   have h:=Geo.may_ok hm
   have n1:1≤x.Nodes:=h.n1
   have n2:x.Nodes≤16:=h.n2
   have l1:8*x.Slots≤x.Log:=h.l1
   have l2:x.Log≤512:=h.l2
   have s1:1≤x.Slots:=h.s1
   have sj:0≤x.Slots*(1+x.Journal)∧x.Slots*(1+x.Journal)≤1040:=h.sj
   have bp:0≤x.Blocks*x.Per∧x.Blocks*x.Per≤512:=h.bp
   have j1:x.Per+2≤x.Journal:=h.j1
   have j2:x.Journal≤64:=h.j2
   have p1:1≤x.Per:=h.p1
   have e1:w64 (x.Nodes*1)=x.Nodes:=by rw [w64_t (by omega) (by omega)];omega
   have e2:w64 (1+x.Nodes)=1+x.Nodes:=w64_t (by omega) (by omega)
   have e3:w64 (1+x.Nodes+x.Nodes)=1+2*x.Nodes:=by rw [w64_t (by omega) (by omega)];omega
   have e4:w64 (x.Log*1)=x.Log:=by rw [w64_t (by omega) (by omega)];omega
   have e5:w64 (1+2*x.Nodes+x.Log)=1+2*x.Nodes+x.Log:=w64_t (by omega) (by omega)
   have e6:w64 (1+x.Journal)=1+x.Journal:=w64_t (by omega) (by omega)
   have e7:w64 (x.Slots*(1+x.Journal))=x.Slots*(1+x.Journal):=w64_t (by omega) (by omega)
   have e8:w64 (1+2*x.Nodes+x.Log+x.Slots*(1+x.Journal))=1+2*x.Nodes+x.Log+x.Slots*(1+x.Journal):=w64_t (by omega) (by omega)
   have e9:w64 (x.Blocks*x.Per)=x.Blocks*x.Per:=w64_t (by omega) (by omega)
   rw [Bool.not_true,cond_false,if_pos rfl]
   simp only [e1,e2,e3,e4,e5,e6,e7,e8,e9]
   rfl
theorem of_no{L:Nat}(hL:10<L){x:yAN}(hw:i64b x.Wait=true)(hm:(geoOf x).may=false)(k i j:Int):yRB L x k i j=some (-1):=by
 unfold yRB yS2
 rw [find_eq hL (rs:= []) (Nat.zero_le _) (by rw [regions_eq hL hw,hm];rfl),bindO_s]
 show(bif decide (i<0) then some (-1) else gd (!(decide ((1:Int)=0)))<|bif decide (w64 ((0:Int).tdiv 1)≤i) then some (-1) else _)=_
 by_cases h:i<0
 ·rw [bif_t (decide_eq_true h)]
 ·rw [bif_f (decide_eq_false h),gd_t (show(!(decide ((1:Int)=0)))=true from rfl),bif_t (decide_eq_true (by show w64 0≤i;rw [w64_t (by omega) (by omega)];omega))]
theorem of_one{L:Nat}(hL:10<L){x:yAN}(hw:i64b x.Wait=true)(hm:(geoOf x).may=true){k a m:Int}(hf:((regs x).find? fun r=>r.kind_==k)=some ⟨⟨a,m⟩,k,1⟩)(ha:0≤a)(ha2:a≤10000)(h0:0≤m)(h2:m≤10000)(i:Int):
  yRB L x k i 0=some (if 0≤i∧i<m then a+i else -1):=by
 unfold yRB yS2
 rw [find_eq hL (rs:=regs x) (Nat.le_refl _) (by rw [regions_eq hL hw,if_pos hm]),hf,bindO_s]
 show(bif decide (i<0) then some (-1) else gd (!(decide ((1:Int)=0)))<|bif decide (w64 (m.tdiv 1)≤i) then some (-1) else bif decide ((0:Int)<0) then some (-1) else bif decide ((1:Int)≤0) then some (-1) else bindO (yHH L ⟨a,m⟩ (w64 (w64 (i*1)+0))) fun r2=>some r2)=_
 by_cases h:i<0
 ·rw [bif_t (decide_eq_true h),if_neg (by omega)]
 rw [bif_f (decide_eq_false h),gd_t (show(!(decide ((1:Int)=0)))=true from rfl),Int.tdiv_one,w64_t (by omega) (by omega)]
 by_cases h1:m≤i
 ·rw [bif_t (decide_eq_true h1),if_neg (by omega)]
 rw [bif_f (decide_eq_false h1),if_pos (by omega),bif_f (show decide ((0:Int)<0)=false from rfl),bif_f (show decide ((1:Int)≤0)=false from rfl),w64_t (n:=i*1) (by omega) (by omega),w64_t (by omega) (by omega),show i*1+0=i by omega]
 unfold yHH yLH
 dsimp only
 rw [bif_f (decide_eq_false h),bif_f (decide_eq_false h1),w64_t (by omega) (by omega)]
 rfl
theorem gLog_eq{L:Nat}(hL:10<L){x:yAN}(hw:i64b x.Wait=true)(i:Int):yLF L x i=some ((geoOf x).logS i):=by
 unfold yLF yTG Geo.logS
 cases hm:(geoOf x).may with
 | false=>rw [of_no hL hw hm,bindO_s,if_neg (by simp)]
 | true=>
   have h:=Geo.may_ok hm
   have n1:1≤x.Nodes:=h.n1
   have n2:x.Nodes≤16:=h.n2
   have l1:8*x.Slots≤x.Log:=h.l1
   have l2:x.Log≤512:=h.l2
   have s1:1≤x.Slots:=h.s1
   rw [of_one hL hw hm (a:=1+2*x.Nodes) (m:=x.Log) rfl (by omega) (by omega) (by omega) (by omega),bindO_s]
   by_cases hi:0≤i∧i<x.Log
   ·rw [if_pos hi,if_pos ⟨rfl,hi⟩];rfl
   ·rw [if_neg hi,if_neg fun q=>hi q.2]
theorem gPaxos_eq{L:Nat}(hL:10<L){x:yAN}(hw:i64b x.Wait=true)(i:Int):yDq L x i=some ((geoOf x).paxosS i):=by
 unfold yDq yQX Geo.paxosS
 cases hm:(geoOf x).may with
 | false=>rw [of_no hL hw hm,bindO_s,if_neg (by simp)]
 | true=>
   have h:=Geo.may_ok hm
   have n1:1≤x.Nodes:=h.n1
   have n2:x.Nodes≤16:=h.n2
   rw [of_one hL hw hm (a:=1+x.Nodes) (m:=x.Nodes) rfl (by omega) (by omega) (by omega) (by omega),bindO_s]
   by_cases hi:0≤i∧i<x.Nodes
   ·rw [if_pos hi,if_pos ⟨rfl,hi⟩];rfl
   ·rw [if_neg hi,if_neg fun q=>hi q.2]
theorem gRest_eq{L:Nat}(hL:10<L){x:yAN}(hw:i64b x.Wait=true):yPu L x=some (if(geoOf x).may=true then 4*x.Slots else 0):=by
 unfold yPu yRe
 rw [gMay_eq hL hw,bindO_s]
 cases hm:(geoOf x).may with
 | false=>rfl
 | true=>
   have h:=Geo.may_ok hm
   have s1:1≤x.Slots:=h.s1
   have s2:x.Slots≤x.Nodes:=h.s2
   have n2:x.Nodes≤16:=h.n2
   rw [Bool.not_true,cond_false,if_pos rfl,w64_t (by omega) (by omega)]
theorem rLog_eq{L:Nat}(x:yAN)(i:Int):yFW L x i=some ((geoOf x).logS i):=by
 unfold yFW yQg Geo.logS
 rw [rMay_eq,bindO_s]
 cases hm:(geoOf x).may with
 | false=>rw [if_neg (by simp)];rfl
 | true=>
   have h:=Geo.may_ok hm
   have n1:1≤x.Nodes:=h.n1
   have n2:x.Nodes≤16:=h.n2
   have l1:8*x.Slots≤x.Log:=h.l1
   have l2:x.Log≤512:=h.l2
   have s1:1≤x.Slots:=h.s1
   rw [Bool.not_true,cond_false,w64_t (n:=x.Log-1) (by omega) (by omega),in_eq,bindO_s]
   by_cases hi:0≤i∧i<x.Log
   ·rw [decide_eq_true (by omega),Bool.not_true,cond_false,w64_t (n:=2*x.Nodes) (by omega) (by omega),w64_t (n:=1+2*x.Nodes) (by omega) (by omega),w64_t (by omega) (by omega),if_pos ⟨rfl,hi⟩]
    rfl
   ·rw [decide_eq_false (by omega),if_neg fun q=>hi q.2];rfl
theorem rHead_eq{L:Nat}(x:yAN)(i:Int):yGi L x i=some ((geoOf x).headS i):=by
 unfold yGi yPX Geo.headS
 rw [rMay_eq,bindO_s]
 cases hm:(geoOf x).may with
 | false=>rw [if_neg (by simp)];rfl
 | true=>
   have h:=Geo.may_ok hm
   have n1:1≤x.Nodes:=h.n1
   have n2:x.Nodes≤16:=h.n2
   have l1:8*x.Slots≤x.Log:=h.l1
   have l2:x.Log≤512:=h.l2
   have s1:1≤x.Slots:=h.s1
   have s2:x.Slots≤x.Nodes:=h.s2
   have j1:x.Per+2≤x.Journal:=h.j1
   have j2:x.Journal≤64:=h.j2
   have p1:1≤x.Per:=h.p1
   rw [Bool.not_true,cond_false,w64_t (n:=x.Slots-1) (by omega) (by omega),in_eq,bindO_s]
   by_cases hi:0≤i∧i<x.Slots
   ·have hb:=mul_bd (a:=i) (b:=1+x.Journal) (A:=16) (B:=65) (by omega) (by omega) (by omega) (by omega)
    rw [decide_eq_true (by omega),Bool.not_true,cond_false,w64_t (n:=2*x.Nodes) (by omega) (by omega),w64_t (n:=1+2*x.Nodes) (by omega) (by omega),w64_t (n:=1+x.Journal) (by omega) (by omega),w64_t (n:=i*(1+x.Journal)) (by omega) (by omega),w64_t (n:=1+2*x.Nodes+x.Log) (by omega) (by omega),w64_t (by omega) (by omega),if_pos ⟨rfl,hi⟩]
    rfl
   ·rw [decide_eq_false (by omega),if_neg fun q=>hi q.2];rfl
theorem rTotal_eq{L:Nat}(x:yAN):yDI L x=some (geoOf x).totalS:=by
 unfold yDI yN9 Geo.totalS
 rw [rMay_eq,bindO_s]
 cases hm:(geoOf x).may with
 | false=>rw [if_neg (by simp)];rfl
 | true=>
   have h:=Geo.may_ok hm
   have n1:1≤x.Nodes:=h.n1
   have n2:x.Nodes≤16:=h.n2
   have l1:8*x.Slots≤x.Log:=h.l1
   have l2:x.Log≤512:=h.l2
   have s1:1≤x.Slots:=h.s1
   have sj:0≤x.Slots*(1+x.Journal)∧x.Slots*(1+x.Journal)≤1040:=h.sj
   have bp:0≤x.Blocks*x.Per∧x.Blocks*x.Per≤512:=h.bp
   have b1:1≤x.Blocks:=h.b1
   have b2:x.Blocks≤64:=h.b2
   have p1:1≤x.Per:=h.p1
   have p2:x.Per≤8:=h.p2
   have j1:x.Per+2≤x.Journal:=h.j1
   have j2:x.Journal≤64:=h.j2
   have hb:(x.Blocks-1)*x.Per=x.Blocks*x.Per-x.Per:=by rw [Int.sub_mul];omega
   rw [Bool.not_true,cond_false,w64_t (n:=x.Blocks-1) (by omega) (by omega),w64_t (n:=x.Per-1) (by omega) (by omega)]
   unfold yPx yPW
   rw [rMay_eq,hm,bindO_s,Bool.not_true,cond_false,w64_t (n:=x.Blocks-1) (by omega) (by omega),in_eq,bindO_s,decide_eq_true (by omega),Bool.not_true,cond_false,w64_t (n:=x.Per-1) (by omega) (by omega),in_eq,bindO_s,decide_eq_true (by omega),Bool.not_true,cond_false,hb,
    w64_t (n:=2*x.Nodes) (by omega) (by omega),w64_t (n:=1+2*x.Nodes) (by omega) (by omega),w64_t (n:=1+x.Journal) (by omega) (by omega),w64_t (n:=x.Slots*(1+x.Journal)) (by omega) (by omega),w64_t (n:=1+2*x.Nodes+x.Log) (by omega) (by omega),w64_t (n:=1+2*x.Nodes+x.Log+x.Slots*(1+x.Journal)) (by omega) (by omega),
    w64_t (n:=x.Blocks*x.Per-x.Per) (by omega) (by omega),w64_t (n:=1+2*x.Nodes+x.Log+x.Slots*(1+x.Journal)+(x.Blocks*x.Per-x.Per)) (by omega) (by omega),w64_t (n:=_+(x.Per-1)) (by omega) (by omega),bindO_s,w64_t (by omega) (by omega),if_pos rfl]
   congr 1
   show _=1+2*x.Nodes+x.Log+x.Slots*(1+x.Journal)+x.Blocks*x.Per
   omega
end Go.Proofs.YtakljpcmbpaeaaaGreat

namespace Go.Proofs.YtakljpcmbpaeaaaGreat
open Go.RowKit
def betB(n a b:Int):Bool:=decide (a≤n∧n≤b)
def mayB(i m b:Int)(v:Bs):Bool:=betB i 0 512&&(betB m 0 1099511627776&&(betB b 0 m&&(decide (v.length≤64)&&((b==0)==v.isEmpty))))
def bytesR(i m b:Int)(v:Bs):Bs×Int:=if mayB i m b v=true then makeR 4 v [2,6,6] [i,m,b] else([],2)
def readR(s:Bs):(Int×Int×Int×Bs)×Int:=
 if s= [] then((0,0,0,[]),0) else
 match fieldsR 4 s [2,6,6] with
 | ([i,m,b],v,0)=>if mayB i m b v=true then((i,m,b,v),0) else((0,0,0,[]),50)
 | _=>((0,0,0,[]),50)
theorem bet_eq{L:Nat}(n a b:Int):yEF L n a b=some (betB n a b):=by
 unfold yEF yLD betB
 by_cases h1:a≤n
 ·rw [bif_t (decide_eq_true h1)]
  congr 1
  exact decide_eq_decide.2 ⟨fun h=>⟨h1,h⟩,fun h=>h.2⟩
 ·rw [bif_f (decide_eq_false h1),decide_eq_false fun h=>h1 h.1]
theorem noS_list:noS.toList= []:=by rw [toList_d];rfl
theorem beq_nil(l:Bs):(l== [])=l.isEmpty:=by cases l <;> rfl
theorem rmay_eq{L:Nat}(x:yBG):yB8 L ⟨x⟩=some (mayB x.Inst x.Mbal x.Bal x.Val.data.toList):=by
 unfold yB8 yHp mayB
 rw [bet_eq,bindO_s]
 cases betB x.Inst 0 512 with
 | false=>rfl
 | true=>
 rw [cond_true,bet_eq,bindO_s,Bool.true_and]
 cases betB x.Mbal 0 1099511627776 with
 | false=>rfl
 | true=>
 rw [cond_true,bet_eq,bindO_s,Bool.true_and]
 cases betB x.Bal 0 x.Mbal with
 | false=>rfl
 | true=>
 rw [cond_true,Bool.true_and,bytes_length]
 dsimp only
 by_cases h:x.Val.size≤64
 ·rw [bif_t (decide_eq_true (by omega)),decide_eq_true h,Bool.true_and,noS_list,toList_d,beq_nil]
 ·rw [bif_f (decide_eq_false (by omega)),decide_eq_false h];rfl
theorem bBytes_eq0{L:Nat}(hL:10<L)(x:yBG):yH8 L x=some (mkS (bytesR x.Inst x.Mbal x.Bal x.Val.data.toList).1,(bytesR x.Inst x.Mbal x.Bal x.Val.data.toList).2,()):=by
 unfold yH8 yM5 yPt yO5 bytesR
 rw [rmay_eq,bindO_s,bindO_s]
 by_cases h:mayB x.Inst x.Mbal x.Bal x.Val.data.toList=true
 ·have hv:x.Val.size≤64:=by
    unfold mayB at h
    simp only [Bool.and_eq_true,decide_eq_true_eq,bytes_length] at h
    exact h.2.2.2.1
  have hm:=make_eq (L:=L) (k:=4) (rest:=x.Val) (ws:= [2,6,6]) (l:= [x.Inst,x.Mbal,x.Bal]) (by omega) (by simp;omega) (by simp) (by omega)
  rw [h,if_pos rfl]
  unfold yFz yG3 yEO yFo
  rw [Bool.not_true,cond_false,bindO_s]
  show bindO (bindO (yNm L 4 x.Val ([2,6,6].map inV) ([x.Inst,x.Mbal,x.Bal].map inV)) _) _=_
  rw [hm];rfl
 ·rw [if_neg h,show mayB x.Inst x.Mbal x.Bal x.Val.data.toList=false by simpa using h];rfl
theorem fieldsR_cases(k:Int)(s:Bs)(ws:List Int):((fieldsR k s ws).2.2=0∧(fieldsR k s ws).1.length=ws.length)∨fieldsR k s ws=([],[],30):=by
 unfold fieldsR
 rcases ofR_two k s with h | h
 ·rw [if_pos h]
  cases ht:takeF (ofR k s).1 ws with
  | none=>exact .inr rfl
  | some r=>exact .inl ⟨rfl,(takeF_le _ _ _ ht).2⟩
 ·rw [h]
  exact .inr (if_neg (by simp))
theorem three{l:List Int}(h:l.length=3):∃a b c,l= [a,b,c]:=by
 match l,h with
 | [a,b,c],_=>exact⟨a,b,c,rfl⟩
theorem bRead_eq0{L:Nat}(hL:10<L){s:ByteArray}(hs:s.size≤1000000000):yEE L s=some (⟨(readR s.data.toList).1.1,(readR s.data.toList).1.2.1,(readR s.data.toList).1.2.2.1,mkS (readR s.data.toList).1.2.2.2⟩,(readR s.data.toList).2,()):=by
 unfold yEE yNr readR
 rw [noS_list,toList_d,beq_nil]
 by_cases h0:s.data.toList= []
 ·rw [if_pos h0,h0];rfl
 rw [if_neg h0,bif_f (by cases h:s.data.toList with
  | nil=>exact absurd h h0
  | cons _ _=>rfl)]
 have hf:=fields_eq (ws:= [2,6,6]) hL hs (by simp;omega) (by simp) 4
 show bindO (yKI L 4 s ([2,6,6].map inV)) _=_
 rw [hf,bindO_s]
 rcases fieldsR_cases 4 s.data.toList [2,6,6] with ⟨h1,h2⟩ | h1
 ·obtain⟨i,m,b,h3⟩:=three h2
  generalize hR:fieldsR 4 s.data.toList [2,6,6]=R at*
  obtain⟨R1,R2,R3⟩:=R
  dsimp only at h1 h3 ⊢
  subst h1 h3
  rw [show((0:Int) !=0)=false from rfl,cond_false,gd_t (decide_eq_true (by simp)),gL_t (by simp) rfl,gd_t (decide_eq_true (by simp)),gL_t (by simp) rfl,gd_t (decide_eq_true (by simp)),gL_t (by simp) rfl]
  show bindO (yB8 L ⟨⟨i,m,b,mkS R2⟩⟩) _=_
  rw [rmay_eq,bindO_s,mk_data]
  dsimp only
  cases hb:mayB i m b R2 <;> simp only [hb] <;> rfl
 ·rw [h1];rfl
def maxL(x:Int)(l:List Int):Int:=l.foldl max x
theorem maxL_snoc(x:Int)(l:List Int)(y:Int):maxL x (l++ [y])=max (maxL x l) y:=by simp [maxL]
theorem maxL_ge(x:Int)(l:List Int):x≤maxL x l:=by
 induction l generalizing x with
 | nil=>simp [maxL]
 | cons a l ih=>
   have h:=ih (max x a)
   have e:maxL x (a::l)=maxL (max x a) l:=rfl
   omega
def nextR(node most:Int):Int:=
 if 0≤node∧node≤15∧most≤1099511627776 then
  (if most/16*16+node≤most∨most/16*16+node<16 then(if most/16*16+node+16≤1099511627776 then most/16*16+node+16 else 0)
    else if most/16*16+node≤1099511627776 then most/16*16+node else 0)
 else 0
theorem next_of{node most r:Int}(h0:0≤node)(h1:node≤15)(hm:0≤most)(hm2:most≤1099511627776)(hr:1≤r)(hr2:r=1∨(r-1)*16+node≤most)(hgt:most<r*16+node):
  nextR node most=if r*16+node≤1099511627776 then r*16+node else 0:=by
 rw [nextR,if_pos ⟨h0,h1,hm2⟩]
 by_cases h:most/16*16+node≤most∨most/16*16+node<16
 ·rw [if_pos h]
  have:most/16*16+node+16=r*16+node:=by omega
  rw [this]
 ·rw [if_neg h]
  have:most/16*16+node=r*16+node:=by omega
  rw [this]
theorem minI_t{a b:Int}:minI true a b=max a b:=by
 unfold minI
 simp only [if_true]
 split <;> omega
theorem max_eq{L:Nat}{x:Int}{l:List Int}(hl:l.length≤1000000)(hL:l.length+1<L):yD8 L ((x::l).map inV)=some (maxL x l):=by
 unfold yD8 yHD
 rw [bif_f (decide_eq_false (by rw [List.length_map,List.length_cons];omega)),gd_t (decide_eq_true (by rw [List.length_map,List.length_cons];omega)),gd_t (show rowIs kI ((x::l).map inV) 0=true from rfl)]
 obtain⟨q,hq,hrun⟩:=loop1_run (α:=Int) (F:=yBt) (fun q=>∃k:Nat,k≤l.length∧q=((x::l).map inV,maxL x (l.take k),((k+1:Nat):Int),())) (fun q=>l.length+1-q.2.2.1.toNat) (fun q=>q=(maxL x l,()))
  (fun q hq=>by
    obtain⟨k,hk,rfl⟩:=hq
    have hxl:(x::l).length=l.length+1:=rfl
    by_cases hlt:k<l.length
    ·refine .inl ⟨_,⟨k+1,hlt,rfl⟩,by dsimp only;omega,fun kn ka=>?_⟩
     unfold yBt
     dsimp only
     rw [bif_t (decide_eq_true (by rw [List.length_map];omega)),gI_in (by omega) (by omega),Int.toNat_natCast,aI_in (by omega),minI_t,w64_t (by omega) (by omega),List.take_succ_eq_append_getElem hlt,maxL_snoc]
     rfl
    ·obtain rfl:k=l.length:=by omega
     refine .inr ⟨_,rfl,fun kn ka=>?_⟩
     unfold yBt
     dsimp only
     rw [bif_f (decide_eq_false (by rw [List.length_map];omega)),List.take_length])
  L ((x::l).map inV,aI ((x::l).map inV) 0 0,1,()) ⟨0,Nat.zero_le _,rfl⟩ (by dsimp only;omega)
 subst hq
 rw [hrun]
theorem next_eq{L:Nat}{l:List Int}(hl:l.length≤100000)(hL:l.length+50<L)(n:Int):yJX L n (l.map inV)=some (nextR n (maxL 0 l)):=by
 have hno:¬(0≤n∧n≤15∧maxL 0 l≤1099511627776)→some 0=some (nextR n (maxL 0 l)):=fun h=>by rw [nextR,if_neg h]
 have hg:=maxL_ge 0 l
 unfold yJX yNq
 rw [show([[V.int .i64 0]])++l.map inV=((0:Int)::l).map inV from rfl,List.length_map,gd_t (rows_sz 1 fun _=>rfl),gM_t (by omega) (by omega),gF_t (by simp;omega) (by omega) (nm_in _),take_all _ (by simp;omega),max_eq (by omega) (by omega),bindO_s,bet_eq,bindO_s]
 by_cases h1:¬(0≤n∧n≤15)
 ·rw [show betB n 0 15=false from decide_eq_false h1]
  exact hno fun h=>h1 ⟨h.1,h.2.1⟩
 replace h1:=Decidable.not_not.1 h1
 rw [show betB n 0 15=true from decide_eq_true h1,Bool.not_true,cond_false]
 generalize maxL 0 l=m at*
 by_cases h2:1099511627776<m
 ·rw [bif_t (decide_eq_true h2)]
  exact hno fun h=>by omega
 rw [bif_f (decide_eq_false h2),w64_t (n:=m-n) (by omega) (by omega)]
 have ht:(m-n).tdiv 16≤m∧ -1≤(m-n).tdiv 16∧((m-n).tdiv 16=0∨(m-n).tdiv 16*16≤m-n)∧m-n<(m-n).tdiv 16*16+16:=by
  by_cases hs:0≤m-n
  ·rw [Int.tdiv_eq_ediv_of_nonneg hs];omega
  ·have:(m-n).tdiv 16=0:=by
     rw [show m-n= -(n-m) by omega,Int.neg_tdiv,Int.tdiv_eq_ediv_of_nonneg (by omega)]
     omega
   omega
 rw [w64_t (by omega) (by omega),minI_t]
 generalize (m-n).tdiv 16=t at*
 obtain⟨q,hq,hrun⟩:=loop1_run (α:=Int) (F:=yED) (fun q=>∃r:Int,1≤r∧r≤1099511627777∧(r=1∨(r-1)*16+n≤m)∧q=(n,m,r,())) (fun q=>(m+16-(q.2.2.1*16+n)).toNat) (fun q=>∃r:Int,1≤r∧r≤1099511627777∧(r=1∨(r-1)*16+n≤m)∧m<r*16+n∧q=(n,r,()))
  (fun q hq=>by
    obtain⟨r,hr,hr3,hr2,rfl⟩:=hq
    by_cases hlt:r*16+n≤m
    ·refine .inl ⟨(n,m,r+1,()),⟨r+1,by omega,by omega,.inr (by omega),rfl⟩,by dsimp only;omega,fun kn ka=>?_⟩
     unfold yED
     dsimp only
     rw [w64_t (n:=r*16) (by omega) (by omega),w64_t (n:=r*16+n) (by omega) (by omega),bif_t (decide_eq_true hlt),w64_t (by omega) (by omega)]
    ·refine .inr ⟨_,⟨r,hr,hr3,hr2,by omega,rfl⟩,fun kn ka=>?_⟩
     unfold yED
     dsimp only
     rw [w64_t (n:=r*16) (by omega) (by omega),w64_t (n:=r*16+n) (by omega) (by omega),bif_f (decide_eq_false hlt)])
  L (n,m,max 1 t,()) ⟨max 1 t,by omega,by omega,by omega,rfl⟩ (by dsimp only;omega)
 obtain⟨r,hr,hr3,hr2,hgt,rfl⟩:=hq
 rw [hrun]
 dsimp only
 rw [w64_t (n:=r*16) (by omega) (by omega),w64_t (n:=r*16+n) (by omega) (by omega),next_of h1.1 h1.2 hg (by omega) hr hr2 hgt]
 by_cases h:r*16+n≤1099511627776
 ·rw [bif_t (decide_eq_true h),if_pos h]
 ·rw [bif_f (decide_eq_false h),if_neg h]
theorem fits6{n:Int}(h1:0≤n)(h2:n≤1099511627776):fitsB n 6=true:=decide_eq_true ⟨by omega,by omega,h1,by simp [mostW];omega⟩
theorem readR_of{s v:Bs}{i m b:Int}(hne:s≠ [])(h:fieldsR 4 s [2,6,6]=([i,m,b],v,0)):readR s=if mayB i m b v=true then((i,m,b,v),0) else((0,0,0,[]),50):=by
 rw [readR,if_neg hne,h];rfl
theorem mayB_parts{i m b:Int}{v:Bs}(h:mayB i m b v=true):0≤i∧i≤512∧0≤m∧m≤1099511627776∧0≤b∧b≤m∧v.length≤64:=by
 unfold mayB betB at h
 simp only [Bool.and_eq_true,decide_eq_true_eq] at h
 omega
theorem bytes_may{i m b:Int}{v:Bs}(h:mayB i m b v=true):∃l x,bytesR i m b v=(x,0)∧sealB 4 l=some x∧readR x=((i,m,b,v),0)∧x.length=21+v.length:=by
 obtain⟨h1,h2,h3,h4,h5,h6,h7⟩:=mayB_parts h
 have hf2:fitsB i 2=true:=decide_eq_true ⟨by omega,by omega,h1,by simp [mostW];omega⟩
 have hf:fieldsB [] [2,6,6] [i,m,b]=some (leBytes 2 i.toNat++leBytes 6 m.toNat++leBytes 6 b.toNat):=by
  simp only [fieldsB,List.nil_append]
  rw [if_pos ⟨hf2,by rw [leBytes_length];decide⟩,if_pos ⟨fits6 h3 h4,by simp [leBytes_length]⟩,if_pos ⟨fits6 h5 (by omega),by simp [leBytes_length]⟩]
  rfl
 have hl:(leBytes 2 i.toNat++leBytes 6 m.toNat++leBytes 6 b.toNat++v).length=14+v.length:=by simp [leBytes_length];omega
 have hs:sealB 4 (leBytes 2 i.toNat++leBytes 6 m.toNat++leBytes 6 b.toNat++v)=some _:=sealB_some (by omega) (by omega)
 have hlen:=(sealB_len hs).2.2
 have hfr:=fieldsR_make (by omega) hf hs
 refine⟨_,_,?_,hs,?_,by rw [hlen,hl];omega⟩
 ·rw [bytesR,if_pos h,makeR,hf]
  show sealR 4 _=_
  rw [sealR,hs]
 ·rw [readR_of (fun e=>by rw [e] at hlen;simp at hlen) hfr,if_pos h]
end Go.Proofs.YtakljpcmbpaeaaaGreat

namespace Go.Proofs.YtakljpcmbpaeaaaGreat
open Go.RowKit
section
variable {α σ A B:Type}
theorem loop1_cnt{F:σ→(σ→Option α)→(A→Option α)→Option α}(st:Nat→σ)(n:Nat)(a:A)(h:∀k,k<n→∀kn ka,F (st k) kn ka=kn (st (k+1)))(he:∀kn ka,F (st n) kn ka=ka a):
  ∀(m k L:Nat),k+m=n→m<L→∀ka,loop1 F L (st k) ka=ka a
 | m,k,0,_,hm,_=>absurd hm (Nat.not_lt_zero _)
 | 0,k,L+1,hk,_,ka=>by
   have:k=n:=by omega
   subst this
   exact he _ _
 | m+1,k,L+1,hk,hm,ka=>(h k (by omega) _ _).trans (loop1_cnt st n a h he m (k+1) L (by omega) (by omega) ka)
theorem loop2_cnt{F:σ→(σ→Option α)→(A→Option α)→(B→Option α)→Option α}(st:Nat→σ)(n:Nat)(a:A)(h:∀k,k<n→∀kn ka kb,F (st k) kn ka kb=kn (st (k+1)))(he:∀kn ka kb,F (st n) kn ka kb=ka a):
  ∀(m k L:Nat),k+m=n→m<L→∀ka kb,loop2 F L (st k) ka kb=ka a
 | m,k,0,_,hm,_,_=>absurd hm (Nat.not_lt_zero _)
 | 0,k,L+1,hk,_,ka,kb=>by
   have:k=n:=by omega
   subst this
   exact he _ _ _
 | m+1,k,L+1,hk,hm,ka,kb=>(h k (by omega) _ _ _).trans (loop2_cnt st n a h he m (k+1) L (by omega) (by omega) ka kb)
end
def keyN(j i:Nat):Int:=if i<j then 17*(i:Int)+16 else 0
def CE(c:List (List V))(N:Nat):Prop:=c.length=N∧∀r∈c,∃b,r= [V.sl [] b]
def cE(N:Nat):List (List V):=List.replicate N [V.sl [] false]
theorem cE_ok(N:Nat):CE (cE N) N:=⟨List.length_replicate ..,fun r hr=>⟨false,List.eq_of_mem_replicate hr⟩⟩
def dvN(s:List ByteArray)(c:List (List V))(N j:Nat):yAA:=⟨s.map txV,c,((List.range N).map (keyN j)).map inV,(j:Int)+1,[]⟩
structure SecOk (s:List ByteArray):Prop where
 n:1≤s.length
 m:s.length≤100000
 z:∀x∈s,x.size≤512
theorem SecOk.set{s:List ByteArray}(h:SecOk s)(k:Nat){b:ByteArray}(hb:b.size≤512):SecOk (s.set k b):=
 ⟨by rw [List.length_set];exact h.n,by rw [List.length_set];exact h.m,fun x hx=>by
  rcases List.mem_or_eq_of_mem_set hx with q | rfl
  ·exact h.z x q
  ·exact hb⟩
section
variable {s:List ByteArray} {c:List (List V)} {N j L:Nat}
theorem CE.at_(hc:CE c N){i:Nat}(hi:i<N):∃b,c[i]?=some [V.sl [] b]:=by
 have hl:i<c.length:=by rw [hc.1];exact hi
 obtain⟨b,hb⟩:=hc.2 c[i] (List.getElem_mem hl)
 exact⟨b,by rw [List.getElem?_eq_getElem hl,hb]⟩
theorem CE.gI(hc:CE c N){α:Type}{x:Option α}{n:Int}(h0:0≤n)(h1:n<N):gI c kL n x=x:=by
 obtain⟨b,hb⟩:=hc.at_ (i:=n.toNat) (by omega)
 exact gI_t h0 (by rw [hc.1];exact h1) (by rw [rowIs_at kL hb];rfl)
theorem CE.aR(hc:CE c N){i:Nat}(hi:i<N):aR c i 0= []:=by
 obtain⟨b,hb⟩:=hc.at_ hi
 unfold Proofs.YtakljpcmbpaeaaaGreat.aR
 rw [cell_at hb];rfl
theorem CE.nm(hc:CE c N):rowsNm c=true:=List.all_eq_true.2 fun r hr=>by
 obtain⟨b,rfl⟩:=hc.2 r hr
 cases b <;> rfl
theorem keys_len:(((List.range N).map (keyN j)).map inV).length=N:=by rw [List.length_map,List.length_map,List.length_range]
theorem keys_at{i:Nat}(hi:i<N):aI (((List.range N).map (keyN j)).map inV) i 0=keyN j i:=by
 rw [aI_in (by rw [List.length_map,List.length_range];exact hi),List.getElem_map,List.getElem_range]
theorem keys_gI{α:Type}{x:Option α}{n:Int}(h0:0≤n)(h1:n<N):gI (((List.range N).map (keyN j)).map inV) kI n x=x:=gI_in h0 (by rw [List.length_map,List.length_range];exact h1)
theorem given_eq(h2:N≤16)(hj:j≤N){i:Nat}(hi:i<j):yBU L (dvN s c N j) (17*(i:Int)+16)=some true:=by
 unfold yBU yOd dvN
 dsimp only
 rw [keys_len,bif_t (decide_eq_true (by omega)),show(17*(i:Int)+16).tdiv 16=(i:Int)+1 by rw [Int.tdiv_eq_ediv_of_nonneg (by omega)];omega,w64_t (by omega) (by omega),bif_t (decide_eq_true (by omega)),
  show(17*(i:Int)+16).tmod 16=(i:Int) by rw [Int.tmod_eq_emod_of_nonneg (by omega)];omega,decide_eq_true (by omega)]
theorem cached_nil(hL:0<L)(n:Int):yGP L [] n=some true:=by
 obtain⟨m,rfl⟩:∃m,L=m+1:=⟨L-1,by omega⟩
 rfl
theorem place_nil(hL:0<L)(n:Int):yH4 L [] n=some (-1):=by
 obtain⟨m,rfl⟩:∃m,L=m+1:=⟨L-1,by omega⟩
 rfl
theorem rchk_eq(hs:SecOk s)(hc:CE c N)(h1:1≤N)(h2:N≤16)(hL:200000<L)(hj:j≤N):yCF L (dvN s c N j)=some 0:=by
 have hm:=hs.m
 have hn:=hs.n
 have hcl:=hc.1
 have l0:=fun ka kb=>loop2_cnt (α:=Int) (F:=yEH) (fun k=>(dvN s c N j,(k:Int),())) s.length (dvN s c N j,()) (fun k hk kn ka kb=>by
  unfold yEH dvN
  dsimp only
  have hz:=hs.z s[k] (List.getElem_mem hk)
  rw [List.length_map,bif_t (decide_eq_true (by omega)),gI_tx (by omega) (by omega),Int.toNat_natCast,aS_tx hk,bif_f (decide_eq_false (by omega)),w64_t (by omega) (by omega)]
  rfl) (fun kn ka kb=>by
  unfold yEH dvN
  dsimp only
  rw [List.length_map,bif_f (decide_eq_false (by omega))]) s.length 0 L (Nat.zero_add _) (by omega) ka kb
 have l1:=fun ka kb=>loop2_cnt (α:=Int) (F:=yEI (yGP L) (yBU L)) (fun k=>(dvN s c N j,(k:Int),())) N (dvN s c N j,()) (fun k hk kn ka kb=>by
  have hg:=fun(h:k<j)=>given_eq (s:=s) (c:=c) (L:=L) h2 hj h
  unfold yEI
  dsimp only
  rw [show(dvN s c N j).Keys=((List.range N).map (keyN j)).map inV from rfl,show(dvN s c N j).Cache=c from rfl,keys_len,bif_t (decide_eq_true (by omega)),hc.gI (by omega) (by omega),Int.toNat_natCast,hc.aR hk,cached_nil (by omega),bindO_s,bif_f (by rfl),keys_gI (by omega) (by omega),keys_at hk]
  by_cases hkj:k<j
  ·rw [show keyN j k=17*(k:Int)+16 from if_pos hkj,bif_t (by rw [bne_iff_ne];omega),keys_gI (by omega) (by omega),hg hkj,bindO_s,bif_f (by rfl),keys_gI (by omega) (by omega),
     show(17*(k:Int)+16).tmod 16=(k:Int) by rw [Int.tmod_eq_emod_of_nonneg (by omega)];omega,bif_f (by simp),w64_t (by omega) (by omega)]
   rfl
  ·rw [show keyN j k=0 from if_neg hkj,bif_f (by rfl),w64_t (by omega) (by omega)]
   rfl) (fun kn ka kb=>by
  unfold yEI
  dsimp only
  rw [show(dvN s c N j).Keys=((List.range N).map (keyN j)).map inV from rfl,keys_len,bif_f (decide_eq_false (by omega))]) N 0 L (Nat.zero_add _) (by omega) ka kb
 have l2:=fun ka kb=>loop2_cnt (α:=Int) (F:=yHK (yBU L)) (fun k=>(dvN s c N j,(k:Int),())) 0 () (fun k hk=>absurd hk (Nat.not_lt_zero _)) (fun kn ka kb=>rfl) 0 0 L rfl (by omega) ka kb
 unfold yCF yOC
 rw [show(dvN s c N j).Keys=((List.range N).map (keyN j)).map inV from rfl,show(dvN s c N j).Cache=c from rfl,show(dvN s c N j).S=s.map txV from rfl,show(dvN s c N j).Next=(j:Int)+1 from rfl,keys_len,List.length_map,hcl,
  bif_f (decide_eq_false (by omega)),bif_f (decide_eq_false (by omega)),bif_f (decide_eq_false (by omega)),bif_f (by simp),bif_f (decide_eq_false (by omega)),bif_f (decide_eq_false (by omega))]
 exact(l0 _ _).trans ((l1 _ _).trans (l2 _ _))
theorem rfen_eq(hs:SecOk s)(hc:CE c N)(h1:1≤N)(h2:N≤16)(hL:200000<L)(hn:0<N){i:Nat}(hi:i<N):yGO L (dvN s c N N) [[V.int .i64 (keyN N i)]]=some false:=by
 have l1:=fun(α:Type) q (ka:_→Option α) kb=>loop2_cnt (α:=α) (F:=yCn) (fun k=>([[V.int .i64 (keyN N i)]],dvN s c N N,(q:Int),(k:Int),())) 0 ([[V.int .i64 (keyN N i)]],dvN s c N N,(q:Int),()) (fun k hk=>absurd hk (Nat.not_lt_zero _)) (fun kn ka kb=>rfl) 0 0 L rfl (by omega) ka kb
 have l0:=fun ka kb=>loop2_cnt (α:=Bool) (F:=yEb (loop2 (yCn) L)) (fun k=>([[V.int .i64 (keyN N i)]],dvN s c N N,(k:Int),())) 1 () (fun k hk kn ka kb=>by
  obtain rfl:k=0:=by omega
  unfold yEb
  dsimp only
  rw [bif_t (by rfl),gI_t (by omega) (by simp) (by rfl),show aI [[V.int .i64 (keyN N i)]] ((0:Nat):Int).toNat 0=keyN N i from rfl,bif_f (decide_eq_false (by unfold keyN;rw [if_pos hi];omega))]
  exact l1 _ 0 _ _) (fun kn ka kb=>rfl) 1 0 L rfl (by omega) ka kb
 exact l0 _ _
theorem copied_eq(hs:SecOk s)(hc:CE c N)(h1:1≤N)(h2:N≤16)(hL:200000<L):yE6 L (dvN s c N j)=some (s.map txV,cE N,((List.range N).map (keyN j)).map inV,(j:Int)+1,[],()):=by
 have hm:=hs.m
 have hcl:=hc.1
 have l0:=fun ka=>loop1_cnt (α:=(List (List V))×(List (List V))×(List (List V))×Int×(List (List V))×Unit) (F:=yDK) (fun k=>(dvN s c N j,yAA.z,(s.map txV,cE k,((List.range N).map (keyN j)).map inV,(j:Int)+1,[],()),(k:Int),())) N
  (yAA.z,(s.map txV,cE N,((List.range N).map (keyN j)).map inV,(j:Int)+1,[],()),()) (fun k hk kn ka=>by
    unfold yDK
    dsimp only
    have hl:(cE k).length=k:=(cE_ok k).1
    have ex:cE (k+1)=cE k++ [[V.sl [] false]]:=List.replicate_succ'
    have ef:frzR [(16,[])] (cE k++ [[V.bs 16 0 0 0]])=cE (k+1):=by
     rw [ex]
     unfold frzR
     rw [List.map_append]
     congr 1
     unfold cE
     rw [List.map_replicate];rfl
    have eo:frzOk [(16,[])] (cE k++ [[V.bs 16 0 0 0]])=true:=by
     unfold frzOk
     rw [List.all_append]
     have:((cE k).all fun r=>r.all (fz1Ok [(16,[])]))=true:=List.all_eq_true.2 fun r hr=>by rw [List.eq_of_mem_replicate hr];rfl
     rw [this];rfl
    rw [show(dvN s c N j).Cache=c from rfl,hcl,bif_t (decide_eq_true (by omega)),hc.gI (by omega) (by omega),Int.toNat_natCast,hc.aR hk,gd_t (by rfl),gM_t (by decide) (by decide),hl,gd_t (by rw [Nat.zero_add];exact Nat.beq_refl _),gM_t (by omega) (by omega)]
    rw [gW_t rfl (nm_tx _),show(0+([]:List (List V)).length)=0 from rfl,gd_t (by rw [List.length_append,hl];exact Nat.beq_refl _),gd_t eo,gW_t rfl (nm_in _),gW_t rfl (by rfl),ef,w64_t (by omega) (by omega)]
    rfl) (fun kn ka=>by
    unfold yDK
    dsimp only
    rw [show(dvN s c N j).Cache=c from rfl,hcl,bif_f (decide_eq_false (by omega)),gW_t rfl (nm_tx _),gW_t rfl (cE_ok N).nm,gW_t rfl (nm_in _),gW_t rfl (by rfl)]) N 0 L (Nat.zero_add _) (by omega) ka
 unfold yE6 yNM
 rw [show(dvN s c N j).Keys=((List.range N).map (keyN j)).map inV from rfl,show(dvN s c N j).S=s.map txV from rfl,show(dvN s c N j).Next=(j:Int)+1 from rfl,show(dvN s c N j).Fenced= [] from rfl,
  gd_t (rows_sz 1 fun _=>rfl),gM_t (by rw [List.length_map];omega) (by rw [List.length_map];omega),gd_t (rows_sz 1 fun _=>rfl),gM_t (by rw [keys_len];omega) (by rw [keys_len];omega),gd_t (by rfl),gM_t (by decide) (by decide),
  gW_t (Nat.zero_add _) (nm_tx _),gW_t (Nat.zero_add _) (nm_in _),gW_t (by rfl) (by rfl)]
 refine(l0 _).trans ?_
 dsimp only
 rw [gW_t rfl (nm_tx _),gW_t rfl (cE_ok N).nm,gW_t rfl (nm_in _),gW_t rfl (by rfl)]
end
end Go.Proofs.YtakljpcmbpaeaaaGreat
