/- The protocol of layer 15, by itself: who proposes, what is voted, what is chosen; that what is chosen stays, and each command has one place. -/
import Derived.Test.YtakljpcmbpaeaaaGreatMountJoinsM34
import Derived.Test.YtakljpcmbpaeaaaGreatMountJoinsM43
import Derived.Test.YtakljpcmbpaeaaaGreatMountJoinsM42
set_option linter.unusedSimpArgs false
set_option linter.unusedVariables false
namespace Go.Proofs.YtakljpcmbpaeaaaGreat
open Go.RowKit
def recAt(r:yCn)(k:Int):yCn:=if r.Inst=k then r else⟨k,r.Mbal,0,noS⟩
def others(node k:Int):Int:=if k=node then k+1 else k
def xGa(t:yBh):Bool:=t.Ahead || t.Lost
structure PX where
 p:yAP
 done:Int
 ser:Int
 on:Bool
structure PW where
 rc:Int->yCn
 log:Int->Option ByteArray
 x:Int->PX
 vt:Int->Int->Option (ByteArray×Int)
 ch:Int->Int->Prop
variable (N:Int) (idn ids:ByteArray->Int)
def upd{α:Type}(f:Int->α)(n:Int)(a:α):Int->α:=fun m=>if m=n then a else f m
structure KK (W:PW) (k b m:Int):Prop where
 v:∀b' v c,b'%16=m->b<b'->W.vt k b'=some (v,c)->b<=c
 s:(W.x m).on=true->(W.x m).done=k->(W.x m).p.At=4->b<(W.x m).p.Own.Mbal->b<=(W.x m).p.T.Best
 r:(W.x m).on=true->(W.x m).done=k->(W.x m).p.At=3->b<(W.x m).p.Own.Mbal->xGa (W.x m).p.T=false->b%16<(W.x m).p.I->b<=(W.x m).p.T.Best
structure Nd1 (W:PW) (n:Int):Prop where
 rb:0<=(W.rc n).Bal/\(W.rc n).Bal<=(W.rc n).Mbal
 rm:(W.rc n).Mbal=0\/(W.rc n).Mbal%16=n
 rl:∀j,0<=j->j<(W.rc n).Inst->W.log j≠none
 ri:0<=(W.rc n).Inst
 rv:0<(W.rc n).Bal->∃c,W.vt (W.rc n).Inst (W.rc n).Bal=some ((W.rc n).Val,c)
 d0:0<=(W.x n).done
 dl:∀j,0<=j->j<(W.x n).done->W.log j≠none
structure Nd2 (W:PW) (n:Int):Prop where
 node:(W.x n).p.Node=n
 at_:0<=(W.x n).p.At/\(W.x n).p.At<=6
 le:1<=(W.x n).p.At->(W.rc n).Inst<=(W.x n).done
 cmd:idn (W.x n).p.Cmd=n/\ids (W.x n).p.Cmd=(W.x n).ser
 a2:(W.x n).p.At=2->(W.rc n).Mbal<(W.x n).p.Own.Mbal/\(W.x n).p.Own.Mbal%16=n/\(W.x n).p.Own=⟨(W.x n).done,(W.x n).p.Own.Mbal,(recAt (W.rc n) (W.x n).done).Bal,(recAt (W.rc n) (W.x n).done).Val⟩
 a3:3<=(W.x n).p.At->(W.rc n).Inst=(W.x n).done/\(W.x n).p.Own.Inst=(W.x n).done/\(W.x n).p.Own.Mbal=(W.rc n).Mbal/\(W.x n).p.T.Inst=(W.x n).done/\(W.x n).p.T.Mbal=(W.rc n).Mbal/\(W.rc n).Mbal%16=n/\0<(W.rc n).Mbal
 a34:3<=(W.x n).p.At->(W.x n).p.At<=4->(W.rc n).Bal<(W.rc n).Mbal/\(W.rc n).Bal<=(W.x n).p.T.Best/\(xGa (W.x n).p.T=false->(W.x n).p.T.Best<(W.rc n).Mbal)/\(0<(W.x n).p.T.Best->∃c,W.vt (W.x n).done (W.x n).p.T.Best=some ((W.x n).p.T.Val,c))
 a4:(W.x n).p.At=4->xGa (W.x n).p.T=false/\(W.x n).p.Own.Bal=(W.rc n).Mbal/\(W.x n).p.Own.Val=(if 0<(W.x n).p.T.Best then(W.x n).p.T.Val else(W.x n).p.Cmd)
 a56:5<=(W.x n).p.At->W.rc n=(W.x n).p.Own/\(W.rc n).Bal=(W.rc n).Mbal
 a3o:(W.x n).p.At=3->W.rc n=(W.x n).p.Own
 rd:(W.x n).p.At=3\/(W.x n).p.At=5->0<=(W.x n).p.I/\(W.x n).p.I<N/\(W.x n).p.I≠n
 a5:(W.x n).p.At=5->xGa (W.x n).p.T=false->∀m,0<=m->m<N->m≠n->m<(W.x n).p.I->KK W (W.x n).done (W.rc n).Mbal m
 a6:(W.x n).p.At=6->W.ch (W.x n).done (W.rc n).Mbal
variable {N idn ids}
theorem Nd1.mono{W W':PW}{m:Int}(h:Nd1 W m)(hr:W'.rc m=W.rc m)(hx:W'.x m=W.x m)(hl:∀k v,W.log k=some v->W'.log k=some v)(hv:∀k b p,W.vt k b=some p->W'.vt k b=some p):Nd1 W' m:=by
 have hl':∀j,W.log j≠none->W'.log j≠none:=fun j hj=>by
  cases h1:W.log j with
  | none=>exact absurd h1 hj
  | some v=>rw[hl j v h1];simp
 refine⟨by rw[hr];exact h.rb,by rw[hr];exact h.rm,fun j h1 h2=>hl' j (h.rl j h1 (by rw[hr] at h2;exact h2)),by rw[hr];exact h.ri,fun h1=>?_,by rw[hx];exact h.d0,fun j h1 h2=>hl' j (h.dl j h1 (by rw[hx] at h2;exact h2))⟩
 rw[hr] at h1 ⊢
 obtain⟨c,hc⟩:=h.rv h1
 exact⟨c,hv _ _ _ hc⟩
theorem Nd2.mono{W W':PW}{m:Int}(h:Nd2 N idn ids W m)(hr:W'.rc m=W.rc m)(hx:W'.x m=W.x m)(hv:∀k b p,W.vt k b=some p->W'.vt k b=some p)(hc:∀k b,W.ch k b->W'.ch k b)
  (hk:∀m',0<=m'->m'<N->m'≠m->(W.x m).p.At=5->KK W (W.x m).done (W.rc m).Mbal m'->KK W' (W.x m).done (W.rc m).Mbal m'):Nd2 N idn ids W' m:=by
 refine⟨?_,?_,?_,?_,?_,?_,?_,?_,?_,?_,?_,?_,?_⟩ <;> rw[hx] <;> try rw[hr]
 ·exact h.node
 ·exact h.at_
 ·exact h.le
 ·exact h.cmd
 ·exact h.a2
 ·exact h.a3
 ·intro h1 h2
  obtain⟨k1,k2,k3,k4⟩:=h.a34 h1 h2
  refine⟨k1,k2,k3,fun h3=>?_⟩
  obtain⟨c,q⟩:=k4 h3
  exact⟨c,hv _ _ _ q⟩
 ·exact h.a4
 ·exact h.a56
 ·exact h.a3o
 ·exact h.rd
 ·intro h1 h2 m' h3 h4 h5 h6
  exact hk m' h3 h4 h5 h1 (h.a5 h1 h2 m' h3 h4 h5 h6)
 ·exact fun h1=>hc _ _ (h.a6 h1)
theorem Nd2.z{W:PW}{n:Int}(hp:(W.x n).p.Node=n)(ha:(W.x n).p.At=0)(hc:idn (W.x n).p.Cmd=n/\ids (W.x n).p.Cmd=(W.x n).ser):Nd2 N idn ids W n:=
 ⟨hp,by omega,fun q=>by omega,hc,fun q=>by omega,fun q=>by omega,fun q=>by omega,fun q=>by omega,fun q=>by omega,fun q=>by omega,fun q=>by omega,fun q=>by omega,fun q=>by omega⟩
end Go.Proofs.YtakljpcmbpaeaaaGreat

namespace Go.Proofs.YtakljpcmbpaeaaaGreat
open Go.RowKit
theorem xGG{a b:Int}:yL4 true a b=max a b:=by
 unfold yL4
 simp only[if_true]
 split <;> omega
section
variable {L:Nat} {x:yAR} {p:yAP} {t:yAF} {done:Int} {got:ByteArray} {r:yCn}
end
def yXG(c:yAI):ByteArray:=mkS (ySG 5 (yGL c)).1
theorem xGU(c:yAI):∃x,yOc 5 (yGL c)=some x/\ySG 5 (yGL c)=(x,0)/\x.length<=40:=by
 have h1:=yNz c
 have h2:=yR0 c
 refine⟨_,yNA (by omega) (by omega),yUf (by omega) (by omega),?_⟩
 rw[List.length_append,yE1,yAD];omega
theorem xBv(c:yAI):(yXG c).size<=40:=by
 obtain⟨x,_,h2,h3⟩:=xGU c
 unfold yXG
 rw[h2,yOK];exact h3
theorem xLV{b:ByteArray}(h:0<b.size):(b.toList==noS.toList)=false:=by
 rw[beq_eq_false_iff_ne]
 intro e
 have e1:b=noS:=by
  have:=congrArg List.length e
  simp only[ByteArray.toList_eq,Array.length_toList] at this
  exact absurd this (by show ¬b.size=0;omega)
 rw[e1] at h
 exact absurd h (by decide)
theorem xGV(c:yAI):0<(yXG c).size:=by
 unfold yXG
 have h1:=yNz c
 have h2:=yR0 c
 rw[yUf (by omega) (by omega),yOK,List.length_append,yE1];omega
theorem xEf{L:Nat}[yOD L]{c:yAI}(h:yQX c):yGa L (yXG c)=some (c,mkS (yGL c),true,0,()):=by
 have hp:=xGV c
 have hl:=xBv c
 have hO:yRo L 5 (yXG c)=some (mkS (yGL c),0,()):=by
  obtain⟨x,h1,h2,h3⟩:=xGU c
  rw[of_eq xOJ (by omega)]
  unfold yXG
  rw[h2,yWW,xBD (by omega) h1]
 unfold yGa yLL
 rw[xLV hp,cond_false,hO,yAB]
 dsimp only
 rw[show((0:Int) !=0)=false from rfl,cond_false,xCV xOJ h,yAB]
 rfl
theorem xGx{L:Nat}[yOD L]:yGa L noS=some (yAI.z,noS,false,0,()):=by
 unfold yGa yLL
 rw[beq_self_eq_true];rfl
section
variable {L:Nat} [yOD L] {x:yAR} {p:yAP} {t t':yAF} {done:Int} {c own:yAI} {r:yCn} {got:ByteArray}
end
def slV(s:Int×Int):List V:= [.int .i64 s.1,.int .i64 s.2]
theorem yUZ(l:List (Int×Int)):yCF (l.map slV)=true:=List.all_eq_true.2 fun r hr=>by
 obtain⟨a,_,rfl⟩:=List.mem_map.1 hr
 rfl
theorem xNJ{l:List (Int×Int)}(h:l.length<=1000):clR 2 (l.map slV)=some (l.map slV):=by
 unfold clR
 have:((l.map slV).all fun r=>Nat.beq r.length 2)=true:=List.all_eq_true.2 fun r hr=>by
  obtain⟨a,_,rfl⟩:=List.mem_map.1 hr
  rfl
 rw[this,yUZ,Nat.ble_eq_true_of_le (by rw[List.length_map];omega)];rfl
theorem xLj{l:List (Int×Int)}{i:Nat}{k:Int}(hi:i<l.length):(l.map slV).set (0+i) (((l.map slV).getD (0+i) []).take 0++([V.int .i64 k]++((l.map slV).getD (0+i) []).drop 1))=(l.set i (k,l[i].2)).map slV:=by
 rw[Nat.zero_add,List.getD_eq_getElem?_getD,List.getElem?_map,List.getElem?_eq_getElem hi,List.map_set]
 rfl
def ovB(a b:yAK):Bool:=decide (a.Lo<=a.Hi)&&(decide (b.Lo<=b.Hi)&&(decide (a.Lo<=b.Hi)&&decide (b.Lo<=a.Hi)))
def xJp(a b:yAL):Bool:=a.Key==b.Key || (!(ovB a.Span b.Span) || (a.Mode==1&&b.Mode==1))
abbrev hV:yAL->List V:=yAL.cs
theorem yJe(b:yAL):rowIs yAL.ks [hV b] 0=true:=rfl
theorem yAq(b:yAL):(hV b).all (nmB 20)=true:=rfl
section
variable {L:Nat} {l:List yAL} {i:Nat}
theorem hK(h:i<l.length):aI (l.map hV) i 0=l[i].Key:=congrArg asI (yXZ h)
theorem hLo(h:i<l.length):aI (l.map hV) i 1=l[i].Span.Lo:=congrArg asI (yXZ h)
theorem hHi(h:i<l.length):aI (l.map hV) i 2=l[i].Span.Hi:=congrArg asI (yXZ h)
theorem hMo(h:i<l.length):aI (l.map hV) i 3=l[i].Mode:=congrArg asI (yXZ h)
theorem xOn(a b:yAK):yDQ L a b=some (ovB a b):=by
 unfold yDQ yNe ovB
 cases decide (a.Lo<=a.Hi) <;> cases decide (b.Lo<=b.Hi) <;> cases decide (a.Lo<=b.Hi) <;> rfl
theorem xGF(a b:yAK):yCz L ⟨a⟩ ⟨b⟩=some (ovB a b):=by
 unfold yCz yIn yKB yLD ovB
 obtain⟨al,ah⟩:=a
 obtain⟨bl,bh⟩:=b
 dsimp only
 by_cases h1:ah<al
 ·rw[decide_eq_true h1,decide_eq_false (show ¬al<=ah by omega)];rfl
 rw[decide_eq_false h1,decide_eq_true (show al<=ah by omega)]
 by_cases h2:bh<bl
 ·rw[decide_eq_true h2,decide_eq_false (show ¬bl<=bh by omega)];rfl
 rw[decide_eq_false h2,decide_eq_true (show bl<=bh by omega)]
 by_cases h3:al<=bl
 ·rw[decide_eq_true h3,decide_eq_true (show al<=bh by omega)]
  by_cases h4:bl<=ah
  ·rw[decide_eq_true h4];rfl
  ·rw[decide_eq_false h4,show decide (bl<=al)=false from decide_eq_false (by omega)];rfl
 ·rw[decide_eq_false h3,show decide (bl<=al)=true from decide_eq_true (by omega),show decide (bl<=ah)=true from decide_eq_true (by omega)]
  cases decide (al<=bh) <;> rfl
theorem xNx(a b:yAL):yFe L a b=some (xJp a b):=by
 unfold yFe yNr yLq yMe xJp
 dsimp only
 rw[xGF,yAB]
 cases a.Key==b.Key <;> cases ovB a.Span b.Span <;> cases a.Mode==1 <;> rfl
theorem xOR(a b:yAL):yEb L a b=some (xJp a b):=by
 unfold yEb yMY xJp
 rw[xOn,yAB]
 cases a.Key==b.Key <;> cases ovB a.Span b.Span <;> cases a.Mode==1 <;> rfl
def xH5(h:yAL)(l:List yAL):Bool:=l.all (xJp h)
theorem xGW{p:yAL->Bool}:(match l.findIdx? (fun o=> !p o) with | none=>true | some _=>false)=l.all p:=by
 cases h:l.findIdx? (fun o=> !p o) with
 | none=>exact(List.all_eq_true.2 fun x hx=>by simpa using List.findIdx?_eq_none_iff.1 h x hx).symm
 | some i=>
   obtain⟨h1,h2,-⟩:=List.findIdx?_eq_some_iff_getElem.1 h
   symm
   rw[Bool.eq_false_iff]
   intro hh
   rw[List.all_eq_true.1 hh _ (List.getElem_mem h1)] at h2
   cases h2
theorem xEa{α:Type}{c:Bool}{x y:α}:(bif !c then x else y)=bif c then y else x:=by cases c <;> rfl
theorem xKH(hL:200000<L)(hl:l.length<=100000)(h:yAL):yAo L (l.map hV) (((h,()),()),())=some (match l.findIdx? (fun o=> !xJp h o) with | none=> -1 | some i=>(i:Int)):=by
 unfold yAo yBp
 rw[List.length_map]
 refine(yHd l (fun o=> !xJp h o) (fun i=>(l.map hV,(((h,()),()),()),(l.length:Int),(i:Int),())) () (fun i=>((i:Int),())) (fun i hi kn ka kb=>?_) (fun kn ka kb=>?_) L 0 (Nat.zero_le _) (by omega) (fun j hj h=>absurd h (Nat.not_lt_zero _)) _ _).trans ?_
 ·show(bif decide ((i:Int)<(l.length:Int)) then _ else _)=_
  dsimp only
  rw[yAT (decide_eq_true (by omega)),yTv yJe hi]
  simp only[Int.toNat_natCast,hK hi,hLo hi,hHi hi,hMo hi]
  rw[xNx,yAB,yAY (by omega) (by omega)]
  rfl
 ·show(bif decide ((l.length:Int)<(l.length:Int)) then _ else _)=_
  rw[yAJ (decide_eq_false (by omega))]
 ·cases l.findIdx? (fun o=> !xJp h o) <;> rfl
theorem xNu(hL:200000<L)(hl:l.length<=100000)(h:yAL):yL1 L h (l.map hV)=some (xH5 h l):=by
 unfold yL1 yTU yKD yLF yA8 yBa
 rw[xKH hL hl,yAB,yAB,yAB]
 unfold xH5
 rw[←xGW]
 cases l.findIdx? (fun o=> !xJp h o) with
 | none=>rfl
 | some i=>rw[show decide (0<=(i:Int))=true from decide_eq_true (by omega)];rfl
theorem xLd(hL:200000<L)(hl:l.length<=100000)(h:yAL):yJE L h (l.map hV)=some (xH5 h l):=by
 unfold yJE yRY
 refine(yHd l (fun o=> !xJp h o) (fun i=>(l.map hV,h,(i:Int),())) () (fun i=>(false,())) (fun i hi kn ka kb=>?_) (fun kn ka kb=>?_) L 0 (Nat.zero_le _) (by omega) (fun j hj h=>absurd h (Nat.not_lt_zero _)) _ _).trans ?_
 ·show(bif decide ((i:Int)<((l.map hV).length:Int)) then _ else _)=_
  dsimp only
  rw[List.length_map,yAT (decide_eq_true (by omega)),yTv yJe hi]
  simp only[Int.toNat_natCast,hK hi,hLo hi,hHi hi,hMo hi]
  rw[xOR,yAB,yAY (by omega) (by omega)]
  rfl
 ·show(bif decide ((l.length:Int)<((l.map hV).length:Int)) then _ else _)=_
  rw[List.length_map,yAJ (decide_eq_false (by omega))]
 ·unfold xH5
  rw[←xGW]
  cases l.findIdx? (fun o=> !xJp h o) <;> rfl
def yZF(a:List yAL×List yAL)(h:yAL):List yAL×List yAL:=bif xH5 h a.1&&xH5 h a.2 then(a.1++ [h],a.2) else(a.1,a.2++ [h])
def grH(H Q:List yAL):List yAL×List yAL:=Q.foldl yZF (H,[])
theorem yXo(a:List yAL×List yAL)(h:yAL):(yZF a h).1.length+(yZF a h).2.length=a.1.length+a.2.length+1:=by
 unfold yZF
 cases xH5 h a.1&&xH5 h a.2 <;> simp only[cond_true,cond_false,List.length_append,List.length_cons,List.length_nil] <;> omega
theorem yU7(a:List yAL)(h:yAL):a.map hV++ [hV h]=(a++ [h]).map hV:=by rw[List.map_append];rfl
theorem xIm(h:yAL): [V.int .i64 h.Key,V.int .i64 h.Span.Lo,V.int .i64 h.Span.Hi,V.int .i8 h.Mode]=hV h:=rfl
theorem xOo(s:List (Int×Int)):yCF (s.map slV)=true:=yUZ s
theorem yJP{α:Type}{s:List (Int×Int)}{n:Nat}(hn:n=s.length){x:Option α}:gW (s.map slV) n x=x:=yHo (by rw[List.length_map];exact hn) (xOo s)
theorem yWN{α:Type}{s:List (Int×Int)}{n:Nat}(hn:n<=s.length)(hl:s.length<=100000){x:Option α}:gF (s.map slV) n x=x:=ySB (by rw[List.length_map];exact hn) (by omega) (xOo s)
theorem yPR(H Q:List yAL):(grH H Q).1.length+(grH H Q).2.length=H.length+Q.length:=by
 have:∀(Q:List yAL) a,(Q.foldl yZF a).1.length+(Q.foldl yZF a).2.length=a.1.length+a.2.length+Q.length:=fun Q=>by
  induction Q with
  | nil=>intro a;rfl
  | cons h Q ih=>intro a;rw[List.foldl_cons,ih,yXo,List.length_cons];omega
 have:=this Q (H,[])
 rw[List.length_nil,Nat.add_zero] at this
 exact this
theorem yXB(hL:200000<L){s:List (Int×Int)}{H Q:List yAL}(hs:s.length<=1000)(hl:H.length+Q.length<=10000)(a b c d e f g h:Int):
  yCU L (s.map slV,H.map hV,Q.map hV,a,b,c,d,e,f,g,h,())=some ((),(s.map slV,(grH H Q).1.map hV,(grH H Q).2.map hV,a,b,c,d,e,f,g,h,())):=by
 unfold yCU yKG
 dsimp only
 rw[yJP (by rw[List.length_map]),yHt yAq (by rw[List.length_map]),yQP yAq (by rw[List.length_map];omega) (by omega),take_len rfl]
 have R:=yPK (α:=Unit×((List (List V))×(List (List V))×(List (List V))×Int×Int×Int×Int×Int×Int×Int×Int×Unit)) (F:=yDk (yL1 L)) Q yZF (fun i x=>x.1.length+x.2.length=H.length+i)
  (fun i x=>((s.map slV,x.1.map hV,x.2.map hV,a,b,c,d,e,f,g,h,()),Q.map hV,((Q.map hV).length:Int),(i:Int),())) (fun x=>((s.map slV,x.1.map hV,x.2.map hV,a,b,c,d,e,f,g,h,()),()))
  (fun i hi x hx=>⟨by rw[yXo];omega,fun kn ka=>by
    show(bif decide ((i:Int)<((Q.map hV).length:Int)) then _ else _)=_
    dsimp only
    rw[List.length_map,yAT (decide_eq_true (by omega)),yTv yJe hi]
    simp only[Int.toNat_natCast,hK hi,hLo hi,hHi hi,hMo hi,xIm,yU7]
    rw[yQP yAq (by rw[List.length_map];omega) (by omega),take_len rfl,xNu hL (by omega),yAB]
    unfold yZF
    cases xH5 Q[i] x.1 with
    | false=>
      dsimp only[Bool.false_and,cond_false]
      rw[yHl (by omega),yZE (by rw[List.length_map];omega) (by decide),yJP (by rw[List.length_map]),yHt yAq (by rw[List.length_map]),yHt yAq (by simp),yAY (by omega) (by omega)]
      rfl
    | true=>
      dsimp only[Bool.true_and,cond_true]
      rw[yQP yAq (by rw[List.length_map];omega) (by omega),take_len rfl,xNu hL (by omega),yAB]
      cases xH5 Q[i] x.2 with
      | false=>
        dsimp only[cond_false]
        rw[yHl (by omega),yZE (by rw[List.length_map];omega) (by decide),yJP (by rw[List.length_map]),yHt yAq (by rw[List.length_map]),yHt yAq (by simp),yAY (by omega) (by omega)]
        rfl
      | true=>
        dsimp only[cond_true]
        rw[yHl (by omega),yZE (by rw[List.length_map];omega) (by decide),yJP (by rw[List.length_map]),yHt yAq (by simp),yHt yAq (by rw[List.length_map]),yAY (by omega) (by omega)]
        rfl⟩)
  (fun x hx kn ka=>by
    show(bif decide ((Q.length:Int)<((Q.map hV).length:Int)) then _ else _)=_
    dsimp only
    rw[List.length_map,yAJ (decide_eq_false (by omega)),yJP (by rw[List.length_map]),yHt yAq (by rw[List.length_map]),yHt yAq (by rw[List.length_map])])
  L 0 (Nat.zero_le _) (by omega) (H,[]) rfl
 refine(R.2 _).trans ?_
 rw[List.drop_zero]
 show gW _ _ (gW _ _ (gW _ _ _))=_
 rw[yJP (by rw[List.length_map]),yHt yAq (by rw[List.length_map]),yHt yAq (by rw[List.length_map])]
 rfl
end
def tbl(s:List (Int×Int))(H Q:List yAL):yAF:=⟨s.map slV,H.map hV,Q.map hV⟩
section
variable {L:Nat} {s:List (Int×Int)} {H Q l:List yAL}
theorem xET(l:List yAL):((l.map hV).all fun r=>Nat.beq r.length 4)=true:=xNA (e:=hV) fun _=>rfl
theorem xNB(l:List (Int×Int)):((l.map slV).all fun r=>Nat.beq r.length 2)=true:=xNA (e:=slV) fun _=>rfl
theorem copy_eq(hs:s.length<=1000)(hl:H.length+Q.length<=10000):yCv L (tbl s H Q)=some (s.map slV,H.map hV,Q.map hV,()):=by
 unfold yCv yRd tbl
 dsimp only
 rw[yCM (xNB s),yZE (by rw[List.length_map];omega) (by decide),yCM (xET H),yZE (by rw[List.length_map];omega) (by decide),yCM (xET Q),yZE (by rw[List.length_map];omega) (by decide),
  yJP (by rw[List.length_map];omega),yHt yAq (by rw[List.length_map];omega),yHt yAq (by rw[List.length_map];omega)]
theorem yUH(hL:200000<L)(hs:s.length<=1000)(hl:H.length+Q.length<=10000):
  yDj L (tbl s H Q)=some (s.map slV,(grH H Q).1.map hV,(grH H Q).2.map hV,()):=by
 unfold yDj yP9
 rw[copy_eq hs hl,yAB]
 dsimp only
 rw[yJP (by rw[List.length_map]),yHt yAq (by rw[List.length_map])]
 have R:=yPK (α:=(List (List V))×(List (List V))×(List (List V))×Unit) (F:=yH5 (yJE L)) Q yZF (fun i x=>x.1.length+x.2.length=H.length+i)
  (fun i x=>(tbl s H Q,yAF.z,(s.map slV,x.1.map hV,x.2.map hV,()),(i:Int),())) (fun x=>(yAF.z,(s.map slV,x.1.map hV,x.2.map hV,()),()))
  (fun i hi x hx=>⟨by rw[yXo];omega,fun kn ka=>by
    show(bif decide ((i:Int)<((Q.map hV).length:Int)) then _ else _)=_
    dsimp only[tbl]
    rw[List.length_map,yAT (decide_eq_true (by omega)),yTv yJe hi]
    simp only[Int.toNat_natCast,hK hi,hLo hi,hHi hi,hMo hi,xIm,yU7]
    rw[yQP yAq (by rw[List.length_map];omega) (by omega),take_len rfl,xLd hL (by omega),yAB]
    unfold yZF
    cases xH5 Q[i] x.1 with
    | false=>
      dsimp only[Bool.false_and,cond_false]
      rw[yHl (by omega),yZE (by rw[List.length_map];omega) (by decide),yJP (by rw[List.length_map]),yHt yAq (by rw[List.length_map]),yHt yAq (by simp),yAY (by omega) (by omega)]
      rfl
    | true=>
      dsimp only[Bool.true_and,cond_true]
      rw[yQP yAq (by rw[List.length_map];omega) (by omega),take_len rfl,xLd hL (by omega),yAB]
      cases xH5 Q[i] x.2 with
      | false=>
        dsimp only[cond_false]
        rw[yHl (by omega),yZE (by rw[List.length_map];omega) (by decide),yJP (by rw[List.length_map]),yHt yAq (by rw[List.length_map]),yHt yAq (by simp),yAY (by omega) (by omega)]
        rfl
      | true=>
        dsimp only[cond_true]
        rw[yHl (by omega),yZE (by rw[List.length_map];omega) (by decide),yJP (by rw[List.length_map]),yHt yAq (by simp),yHt yAq (by rw[List.length_map]),yAY (by omega) (by omega)]
        rfl⟩)
  (fun x hx kn ka=>by
    show(bif decide ((Q.length:Int)<((Q.map hV).length:Int)) then _ else _)=_
    dsimp only
    rw[List.length_map,yAJ (decide_eq_false (by omega)),yJP (by rw[List.length_map]),yHt yAq (by rw[List.length_map]),yHt yAq (by rw[List.length_map])])
  L 0 (Nat.zero_le _) (by omega) (H,[]) rfl
 refine(R.2 _).trans ?_
 rw[List.drop_zero]
 show gW _ _ (gW _ _ (gW _ _ _))=_
 rw[yJP (by rw[List.length_map]),yHt yAq (by rw[List.length_map]),yHt yAq (by rw[List.length_map])]
 rfl
theorem fold_filter{p:yAL->Bool}(l a:List yAL):l.foldl (fun a h=>bif p h then a++ [h] else a) a=a++l.filter p:=by
 induction l generalizing a with
 | nil=>simp
 | cons h l ih=>
   rw[List.foldl_cons,ih]
   cases hp:p h with
   | true=>rw[cond_true,List.filter_cons_of_pos hp];simp
   | false=>rw[cond_false,List.filter_cons_of_neg (by simp[hp])]
theorem xAW(hL:200000<L)(hl:l.length<=10000)(k:Int):yJ3 L (l.map hV) k=some ((l.filter fun h=>h.Key !=k).map hV,()):=by
 unfold yJ3 yNl
 have R:=yPK (α:=(List (List V))×Unit) (F:=yFl) l (fun a h=>bif h.Key !=k then a++ [h] else a) (fun i x=>x.length<=i) (fun i x=>(l.map hV,k,x.map hV,(i:Int),())) (fun x=>(x.map hV,()))
  (fun i hi x hx=>⟨by cases l[i].Key !=k <;> simp only[cond_true,cond_false,List.length_append,List.length_cons,List.length_nil] <;> omega,fun kn ka=>by
    show(bif decide ((i:Int)<((l.map hV).length:Int)) then _ else _)=_
    dsimp only
    rw[List.length_map,yAT (decide_eq_true (by omega)),yTv yJe hi]
    simp only[Int.toNat_natCast,hK hi,hLo hi,hHi hi,hMo hi,xIm,yU7]
    cases l[i].Key !=k with
    | false=>
      dsimp only[cond_false]
      rw[yHt yAq (by rw[List.length_map]),yAY (by omega) (by omega)]
      rfl
    | true=>
      dsimp only[cond_true]
      rw[yTv yJe hi,yHl (by omega),yZE (by rw[List.length_map];omega) (by decide),yHt yAq (by simp),yAY (by omega) (by omega)]
      rfl⟩)
  (fun x hx kn ka=>by
    show(bif decide ((l.length:Int)<((l.map hV).length:Int)) then _ else _)=_
    dsimp only
    rw[List.length_map,yAJ (decide_eq_false (by omega)),yHt yAq (by rw[List.length_map])])
  L 0 (Nat.zero_le _) (by omega) [] (Nat.le_refl _)
 refine(R.2 _).trans ?_
 rw[List.drop_zero,fold_filter,List.nil_append]
 dsimp only
 rw[yHt yAq (by rw[List.length_map])]
theorem xMa(hL:200000<L)(hl:H.length+Q.length<=10000)(k:Int):yRi L (tbl s H Q) k=some (((H++Q).filter fun h=>h.Key==k).map hV,()):=by
 unfold yRi yTD tbl
 dsimp only
 rw[yCM (xET H),yZE (by rw[List.length_map];omega) (by decide),yCM (xET Q),yHl (by omega),yZE (by rw[List.length_map,List.length_map];omega) (by decide),←List.map_append,
  yQP yAq (by rw[List.length_append,List.length_map,List.length_map];omega) (by rw[List.length_append];omega),take_len (by rw[List.length_map,List.length_map,List.length_map,List.length_append];omega)]
 have R:=yPK (α:=(List (List V))×Unit) (F:=yLy) (H++Q) (fun a h=>bif h.Key==k then a++ [h] else a) (fun i x=>x.length<=i) (fun i x=>(k,x.map hV,(H++Q).map hV,(i:Int),())) (fun x=>(x.map hV,()))
  (fun i hi x hx=>⟨by cases (H++Q)[i].Key==k <;> simp only[cond_true,cond_false,List.length_append,List.length_cons,List.length_nil] <;> omega,fun kn ka=>by
    have hi2:=hi
    rw[List.length_append] at hi2
    show(bif decide ((i:Int)<(((H++Q).map hV).length:Int)) then _ else _)=_
    dsimp only
    rw[List.length_map,yAT (decide_eq_true (by omega)),yTv yJe hi]
    simp only[Int.toNat_natCast,hK hi,hLo hi,hHi hi,hMo hi,xIm,yU7]
    cases (H++Q)[i].Key==k with
    | false=>
      dsimp only[cond_false]
      rw[yHt yAq (by rw[List.length_map]),yAY (by omega) (by omega)]
      rfl
    | true=>
      dsimp only[cond_true]
      rw[yTv yJe hi,yHl (by omega),yZE (by rw[List.length_map];omega) (by decide),yHt yAq (by simp),yAY (by omega) (by omega)]
      rfl⟩)
  (fun x hx kn ka=>by
    show(bif decide (((H++Q).length:Int)<(((H++Q).map hV).length:Int)) then _ else _)=_
    dsimp only
    rw[List.length_map,yAJ (decide_eq_false (by omega)),yHt yAq (by rw[List.length_map])])
  L 0 (Nat.zero_le _) (by rw[List.length_append];omega) [] (Nat.le_refl _)
 refine(R.2 _).trans ?_
 rw[List.drop_zero,fold_filter,List.nil_append]
 dsimp only
 rw[yHt yAq (by rw[List.length_map])]
end
section
variable {L:Nat} {s:List (Int×Int)} {H Q l:List yAL}
theorem xMC(hL:200000<L)(hl:l.length<=10000)(k:Int):yAm L (l.map hV) (((((k,()),()),()),()),())=some (match l.findIdx? (fun o=>o.Key==k) with | none=> -1 | some i=>(i:Int)):=by
 unfold yAm yBn
 rw[List.length_map]
 refine(yHd l (fun o=>o.Key==k) (fun i=>(l.map hV,(((((k,()),()),()),()),()),(l.length:Int),(i:Int),())) () (fun i=>((i:Int),())) (fun i hi kn ka kb=>?_) (fun kn ka kb=>?_) L 0 (Nat.zero_le _) (by omega) (fun j hj h=>absurd h (Nat.not_lt_zero _)) _ _).trans ?_
 ·show(bif decide ((i:Int)<(l.length:Int)) then _ else _)=_
  dsimp only
  rw[yAT (decide_eq_true (by omega)),yTv yJe hi,xEa]
  simp only[Int.toNat_natCast,hK hi]
  rw[yAY (by omega) (by omega)]
  rfl
 ·show(bif decide ((l.length:Int)<(l.length:Int)) then _ else _)=_
  rw[yAJ (decide_eq_false (by omega))]
 ·cases l.findIdx? (fun o=>o.Key==k) <;> rfl
theorem xOc{R:List yAL}{w:Nat}(hw:w<R.length)(h:yAL):(R.map hV).set (0+w) (((R.map hV).getD (0+w) []).take 0++(hV h++((R.map hV).getD (0+w) []).drop 4))=(R.set w h).map hV:=by
 rw[Nat.zero_add,yDN (yGO hw),List.map_set]
 rfl
theorem xCf(hL:200000<L)(hl:l.length<=10000)(k:Int):yAk L (l.map hV) (((((k,()),()),()),()),())=some ((l.filter fun h=>h.Key !=k).map hV):=by
 unfold yAk yBi
 dsimp only
 rw[yQP yAq (by rw[List.length_map];omega) (by omega),take_len rfl,xMC hL hl,yAB]
 cases hf:l.findIdx? (fun o=>o.Key==k) with
 | none=>
   have:l.filter (fun h=>h.Key !=k)=l:=List.filter_eq_self.2 fun a ha=>by
    have:=List.findIdx?_eq_none_iff.1 hf a ha
    simpa[bne] using this
   dsimp only
   rw[yAT (show((-1:Int)== -1)=true from rfl),yDf (Nat.le_refl _),yCM (xGH yAq),this]
 | some r=>
   obtain⟨hr,hk,hno⟩:=List.findIdx?_eq_some_iff_getElem.1 hf
   dsimp only
   rw[yAJ (beq_eq_false_iff_ne.2 (by omega)),yHl rfl,yCM (xGH yAq)]
   have hkeep:(l.take r).filter (fun h=>h.Key !=k)=l.take r:=List.filter_eq_self.2 fun a ha=>by
    obtain⟨j,hj,rfl⟩:=List.getElem_of_mem ha
    rw[List.length_take] at hj
    rw[List.getElem_take]
    have:=hno j (by omega)
    simpa[bne] using this
   have R:=yPK (α:=List (List V)) (F:=yAX) l (fun(x:List yAL×Nat) h=>bif h.Key !=k then(x.1.set x.2 h,x.2+1) else x)
    (fun i x=>x.1.length=l.length/\x.2<i/\x.1.drop i=l.drop i/\x.1.take x.2=(l.take i).filter fun h=>h.Key !=k)
    (fun i x=>(x.1.map hV,(((((k,()),()),()),()),()),(x.2:Int),(i:Int),())) (fun x=>(x.1.map hV,(x.2:Int),()))
    (fun i hi x hx=>by
      obtain⟨R,w⟩:=x
      obtain⟨h1,h2,h3,h4⟩:=hx
      dsimp only at h1 h2 h3 h4
      have hiR:i<R.length:=by omega
      have hwR:w<R.length:=by omega
      have hel:R[i]=l[i]:=by
       rw[List.drop_eq_getElem_cons hiR,List.drop_eq_getElem_cons hi] at h3
       injection h3
      have hdr:R.drop (i+1)=l.drop (i+1):=by
       rw[List.drop_eq_getElem_cons hiR,List.drop_eq_getElem_cons hi] at h3
       injection h3
      have htk:(l.take (i+1)).filter (fun h=>h.Key !=k)=(l.take i).filter (fun h=>h.Key !=k)++bif l[i].Key !=k then [l[i]] else []:=by
       rw[List.take_succ_eq_append_getElem hi,List.filter_append]
       congr 1
      have run:∀kn ka,yAX (α:=List (List V)) (R.map hV,(((((k,()),()),()),()),()),(w:Int),(i:Int),()) kn ka=bif l[i].Key !=k then kn ((R.set w l[i]).map hV,(((((k,()),()),()),()),()),((w+1:Nat):Int),((i+1:Nat):Int),()) else kn (R.map hV,(((((k,()),()),()),()),()),(w:Int),((i+1:Nat):Int),()):=fun kn ka=>by
       show(bif decide ((i:Int)<((R.map hV).length:Int)) then _ else _)=_
       dsimp only
       rw[List.length_map,yAT (decide_eq_true (by omega)),yW9 (by omega) (by omega),yYv (by rw[List.length_map];omega) (by rw[yIa (yGO (show 0+(i:Int).toNat<R.length by omega))];rfl)]
       simp only[Int.toNat_natCast]
       rw[show 0+i=i from Nat.zero_add _]
       simp only[hK hiR,hLo hiR,hHi hiR,hMo hiR,xIm,hel,xOc hwR]
       cases hp:l[i].Key !=k with
       | true=>
         rw[show(l[i].Key==k)=false by simpa[bne] using hp]
         rw[yAT (show(!false)=true from rfl),yW9 (by omega) (by omega),yB9 (by rw[Nat.zero_add];exact hwR),yDf (Nat.zero_le _),yDf (by rw[Nat.zero_add,yDN (yGO hwR)];exact Nat.le_refl 4),yHl (by rw[List.length_map,List.length_set]),yCM (xGH yAq),yAY (by omega) (by omega),yAY (by omega) (by omega)]
         rfl
       | false=>
         rw[show(l[i].Key==k)=true by simpa[bne] using hp]
         rw[yAJ (show(!true)=false from rfl),yHl rfl,yCM (xGH yAq),yAY (by omega) (by omega)]
         rfl
      cases hp:l[i].Key !=k with
      | true=>
        rw[hp,cond_true] at htk
        refine⟨⟨by dsimp only[cond_true];rw[List.length_set];exact h1,by dsimp only[cond_true];omega,by dsimp only[cond_true];rw[List.drop_set_of_lt (by omega)];exact hdr,?_⟩,fun kn ka=>by rw[run,hp];rfl⟩
        dsimp only[cond_true]
        rw[List.take_succ_eq_append_getElem (by rw[List.length_set];exact hwR),List.getElem_set_self,List.take_set_of_le (Nat.le_refl _),h4,htk]
      | false=>
        rw[hp,cond_false,List.append_nil] at htk
        exact⟨⟨h1,by dsimp only[cond_false];omega,hdr,h4.trans htk.symm⟩,fun kn ka=>by rw[run,hp];rfl⟩)
    (fun x hx kn ka=>by
      obtain⟨h1,h2,h3,h4⟩:=hx
      show(bif decide ((l.length:Int)<((x.1.map hV).length:Int)) then _ else _)=_
      dsimp only
      rw[List.length_map,yAJ (decide_eq_false (by omega)),yHl rfl,yCM (xGH yAq)])
    L (r+1) (by omega) (by omega) (l,r) ⟨rfl,Nat.lt_succ_self r,rfl,by
     rw[List.take_succ_eq_append_getElem hr,List.filter_append,hkeep,List.filter_cons_of_neg (by simpa[bne] using hk)]
     simp⟩
   rw[yAY (by omega) (by omega)]
   refine(R.2 _).trans ?_
   obtain⟨h1,h2,h3,h4⟩:=R.1
   generalize (l.drop (r+1)).foldl (fun(x:List yAL×Nat) h=>bif h.Key !=k then(x.1.set x.2 h,x.2+1) else x) (l,r)=x at h1 h2 h3 h4 ⊢
   obtain⟨R,w⟩:=x
   dsimp only at h1 h2 h3 h4 ⊢
   rw[List.take_length] at h4
   rw[yB9 (by omega),yB9 (by rw[List.length_map];omega),yDf (Nat.zero_le _),yB9 (by omega),yB9 (by rw[List.length_map];omega)]
   simp only[Int.toNat_natCast,Nat.zero_add]
   rw[yDf (by rw[List.length_take,List.length_map];omega),←List.map_take,←List.map_take,List.take_take,Nat.min_self,h4,yCM (xGH yAq)]
end
theorem yRr(b:Int×Int):rowIs yAK.ks [slV b] 0=true:=rfl
section
variable {L:Nat} {s:List (Int×Int)} {H Q l:List yAL} {i:Nat}
theorem xM5(h:i<s.length):aI (s.map slV) i 0=s[i].1:=congrArg asI (yXZ h)
def yDt(s:List (Int×Int))(k:Int):Int×Bool:=bif decide (k<1) then(0,false) else match s.findIdx? (fun o=>o.1==k) with | none=>(0,false) | some i=>((i:Int),true)
theorem yR7{k:Int}(h:(yDt s k).2=true):∃i:Nat,i<s.length/\yDt s k=((i:Int),true):=by
 unfold yDt at h ⊢
 cases hk:decide (k<1) with
 | true=>rw[hk] at h;cases h
 | false=>
   rw[hk,cond_false] at h
   rw[cond_false]
   cases hf:s.findIdx? (fun o=>o.1==k) with
   | none=>rw[hf] at h;cases h
   | some i=>exact⟨i,(List.findIdx?_eq_some_iff_getElem.1 hf).1,rfl⟩
theorem xIb(hL:200000<L)(hs:s.length<=1000)(k:Int):yA5 L (s.map slV) ((k,()),())=some (match s.findIdx? (fun o=>o.1==k) with | none=> -1 | some i=>(i:Int)):=by
 unfold yA5 yB7
 rw[List.length_map]
 refine(yHd s (fun o=>o.1==k) (fun i=>(s.map slV,((k,()),()),(s.length:Int),(i:Int),())) () (fun i=>((i:Int),())) (fun i hi kn ka kb=>?_) (fun kn ka kb=>?_) L 0 (Nat.zero_le _) (by omega) (fun j hj h=>absurd h (Nat.not_lt_zero _)) _ _).trans ?_
 ·show(bif decide ((i:Int)<(s.length:Int)) then _ else _)=_
  dsimp only
  rw[yAT (decide_eq_true (by omega)),yTv yRr hi]
  simp only[Int.toNat_natCast,xM5 hi]
  rw[yAY (by omega) (by omega)]
  rfl
 ·show(bif decide ((s.length:Int)<(s.length:Int)) then _ else _)=_
  rw[yAJ (decide_eq_false (by omega))]
 ·cases s.findIdx? (fun o=>o.1==k) <;> rfl
theorem yW5(hL:200000<L)(hs:s.length<=1000){t:yAF}{x:yAR}(ht:t.Slots=s.map slV)(k:Int):yDl L ⟨t,x⟩ k=some ((yDt s k).1,(yDt s k).2,()):=by
 unfold yDl yLI yNC yRu yDt
 dsimp only
 rw[ht]
 cases decide (k<1) with
 | true=>rfl
 | false=>
   rw[cond_false,cond_false,xIb hL hs,yAB]
   cases s.findIdx? (fun o=>o.1==k) with
   | none=>rfl
   | some i=>
     dsimp only
     rw[xGG,show max (i:Int) 0=i by omega,show decide (0<=(i:Int))=true from decide_eq_true (by omega)];rfl
theorem yOB(hL:200000<L)(hs:s.length<=1000){t:yAF}(ht:t.Slots=s.map slV)(k:Int):yO7 L t k=some ((yDt s k).1,(yDt s k).2,()):=by
 unfold yO7 yRh
 refine(yHd s (fun o=>decide (1<=k)&&o.1==k) (fun i=>(k,t,(i:Int),())) () (fun i=>((i:Int),true,())) (fun i hi kn ka kb=>?_) (fun kn ka kb=>?_) L 0 (Nat.zero_le _) (by omega) (fun j hj h=>absurd h (Nat.not_lt_zero _)) _ _).trans ?_
 ·show(bif decide ((i:Int)<(t.Slots.length:Int)) then _ else _)=_
  dsimp only
  rw[ht,List.length_map,yAT (decide_eq_true (by omega)),yTv yRr hi]
  simp only[Int.toNat_natCast,xM5 hi]
  rw[yAY (by omega) (by omega)]
  cases decide (1<=k) <;> rfl
 ·show(bif decide ((s.length:Int)<(t.Slots.length:Int)) then _ else _)=_
  rw[ht,List.length_map,yAJ (decide_eq_false (by omega))]
 ·unfold yDt
  by_cases hk:k<1
  ·rw[decide_eq_true hk,cond_true]
   have:s.findIdx? (fun o=>decide (1<=k)&&o.1==k)=none:=List.findIdx?_eq_none_iff.2 fun x _=>by rw[decide_eq_false (show ¬1<=k by omega)];rfl
   rw[this]
  ·rw[decide_eq_false hk,cond_false]
   have:(fun o:Int×Int=>decide (1<=k)&&o.1==k)=fun o=>o.1==k:=by
    funext o;rw[decide_eq_true (show 1<=k by omega)];rfl
   rw[this]
   cases s.findIdx? (fun o=>o.1==k) <;> rfl
theorem xJe(h:i<s.length):(s.map slV).set (0+i) (((s.map slV).getD (0+i) []).take 0++([V.int .i64 0,V.int .i64 0]++((s.map slV).getD (0+i) []).drop 2))=(s.set i (0,0)).map slV:=by
 rw[Nat.zero_add,yDN (yGO h),List.map_set];rfl
def lvH(s:List (Int×Int))(H Q:List yAL)(i:Nat):List yAL×List yAL:=grH (H.filter fun h=>h.Key !=(s.getD i (0,0)).1) (Q.filter fun h=>h.Key !=(s.getD i (0,0)).1)
theorem yVE(H Q:List yAL)(i:Nat):(lvH s H Q i).1.length+(lvH s H Q i).2.length<=H.length+Q.length:=by
 unfold lvH
 rw[yPR]
 exact Nat.add_le_add (List.length_filter_le _ _) (List.length_filter_le _ _)
theorem yQ4(h:i<s.length):s.getD i (0,0)=s[i]:=by rw[List.getD_eq_getElem?_getD,List.getElem?_eq_getElem h];rfl
theorem xF4(hL:200000<L)(hs:s.length<=1000)(hl:H.length+Q.length<=10000)(hi:i<s.length)(a b c d e f g h:Int):
  yFn L (s.map slV,H.map hV,Q.map hV,a,b,c,d,e,f,g,h,()) (i:Int)=some ((),((s.set i (0,0)).map slV,(lvH s H Q i).1.map hV,(lvH s H Q i).2.map hV,a,b,c,d,e,f,g,h,())):=by
 unfold yFn yKE
 dsimp only
 have hf1:=List.length_filter_le (fun h:yAL=>h.Key !=s[i].1) H
 have hf2:=List.length_filter_le (fun h:yAL=>h.Key !=s[i].1) Q
 simp only[Int.toNat_natCast]
 rw[yW9 (by omega) (by rw[List.length_map];omega),yYv (by rw[List.length_map];omega) (by rw[yIa (yGO (show 0+i<s.length by omega))];rfl),yHl rfl,yCM (xGH yAq)]
 rw[show aI (s.map slV) (0+i) 0=s[i].1 by rw[Nat.zero_add];exact xM5 hi,xCf hL (by omega),yAB,yHl rfl,yCM (xGH yAq),xCf hL (by omega),yAB,
  yW9 (by omega) (by rw[List.length_map];omega),yB9 (by rw[List.length_map];omega),yDf (Nat.zero_le _),yDf (by rw[Nat.zero_add,yDN (yGO hi)];exact Nat.le_refl 2),xJe hi,yJP (by rw[List.length_map,List.length_set]),yHt yAq (by rw[List.length_map]),yHt yAq (by rw[List.length_map]),
  yXB hL (by rw[List.length_set];exact hs) (by omega),yAB]
 dsimp only
 rw[yJP (by rw[List.length_map]),yHt yAq (by rw[List.length_map]),yHt yAq (by rw[List.length_map])]
 unfold lvH
 rw[yQ4 hi]
theorem xDx(hL:200000<L)(hs:s.length<=1000)(hl:H.length+Q.length<=10000)(hi:i<s.length):
  yNk L (tbl s H Q) (i:Int)=some ((s.set i (0,0)).map slV,(lvH s H Q i).1.map hV,(lvH s H Q i).2.map hV,()):=by
 unfold yNk yQE
 rw[copy_eq hs hl,yAB]
 dsimp only
 have hf1:=List.length_filter_le (fun h:yAL=>h.Key !=s[i].1) H
 have hf2:=List.length_filter_le (fun h:yAL=>h.Key !=s[i].1) Q
 simp only[Int.toNat_natCast]
 rw[yW9 (by omega) (by rw[List.length_map];omega),yYv (by rw[List.length_map];omega) (by rw[yIa (yGO (show 0+i<s.length by omega))];rfl),yQP yAq (by rw[List.length_map];omega) (by omega),take_len rfl,
  show aI (s.map slV) (0+i) 0=s[i].1 by rw[Nat.zero_add];exact xM5 hi,xAW hL (by omega),yAB,yQP yAq (by rw[List.length_map];omega) (by omega),take_len rfl,xAW hL (by omega),yAB]
 dsimp only
 rw[yW9 (by omega) (by rw[List.length_map];omega),yB9 (by rw[List.length_map];omega),yDf (Nat.zero_le _),yDf (by rw[Nat.zero_add,yDN (yGO hi)];exact Nat.le_refl 2),xJe hi,
  yWN (by rw[List.length_map,List.length_set];omega) (by rw[List.length_set];omega),yQP yAq (by rw[List.length_map];omega) (by omega),yQP yAq (by rw[List.length_map];omega) (by omega),take_len (by rw[List.length_map,List.length_map,List.length_set]),take_len rfl,take_len rfl]
 rw[show(⟨(s.set i (0,0)).map slV,(H.filter fun h=>h.Key !=s[i].1).map hV,(Q.filter fun h=>h.Key !=s[i].1).map hV⟩:yAF)=tbl (s.set i (0,0)) (H.filter fun h=>h.Key !=s[i].1) (Q.filter fun h=>h.Key !=s[i].1) from rfl,
  yUH hL (by rw[List.length_set];exact hs) (by omega),yAB]
 dsimp only
 rw[yJP (by rw[List.length_map]),yHt yAq (by rw[List.length_map]),yHt yAq (by rw[List.length_map])]
 unfold lvH
 rw[yQ4 hi]
end
end Go.Proofs.YtakljpcmbpaeaaaGreat
