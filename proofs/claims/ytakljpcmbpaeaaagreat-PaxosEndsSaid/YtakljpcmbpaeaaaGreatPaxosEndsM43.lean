/- The steps of a proposal: what paxos.Want, paxos.Take come to, place by place, are the protocol's steps. -/
import Derived.Test.YtakljpcmbpaeaaaGreatPaxosEndsM42
import Derived.Test.YtakljpcmbpaeaaaGreatPaxosEndsM41
set_option linter.unusedSimpArgs false
set_option linter.unusedVariables false
namespace Go.Proofs.YtakljpcmbpaeaaaGreat
open Go.RowKit
theorem yKq{a b:Int}:yDK true a b=max a b:=by
 unfold yDK
 simp only[if_true]
 split <;> omega
theorem yZ5{L:Nat}(t:yAm):yIU L t=some (yDO t):=by
 unfold yIU yNK yDO
 obtain⟨a,b,c,d,e,f,g⟩:=t
 cases f <;> cases g <;> rfl
theorem yZ6{L:Nat}(t:yAm)(c:ByteArray):yIV L t c=some (if 0<t.Best then t.Val else c):=by
 unfold yIV yNL
 by_cases h:0<t.Best
 ·rw[if_pos h,decide_eq_true h];rfl
 ·rw[if_neg h,decide_eq_false h];rfl
theorem yXr{L:Nat}{x:yAQ}{node k:Int}(hL:200000<L)(h0:0<=node)(hN:node<x.Nodes)(k0:0<=k)(kN:k<=x.Nodes)(h16:x.Nodes<=16):yGy L x node k=some (others node k):=by
 unfold yGy yMN
 rw[yKq,show max k 0=k by omega]
 obtain⟨M,rfl⟩:∃M,L=M+2:=⟨L-2,by omega⟩
 unfold others
 have F:∀(m:Nat) (k:Int) (ka:yAQ×Unit->Option Int) (kb:Int×Unit->Option Int),yAe yDw (m+1) (node,x,k,()) ka kb=(bif decide (k<x.Nodes) then bif k !=node then kb (k,()) else yAe yDw m (node,x,IntKind.i64.wrap (k+1),()) ka kb else ka (x,())):=fun m k ka kb=>rfl
 rw[F]
 by_cases h1:k<x.Nodes
 ·rw[yAb (decide_eq_true h1)]
  by_cases h2:k=node
  ·rw[yAJ (by simpa using h2),if_pos h2,wrap64 (by omega) (by omega),F]
   by_cases h3:k+1<x.Nodes
   ·rw[yAb (decide_eq_true h3),yAb (by simp;omega)]
   ·rw[yAJ (decide_eq_false h3)]
    show some x.Nodes=_
    congr 1
    omega
  ·rw[yAb (by simpa using h2),if_neg h2]
 ·rw[yAJ (decide_eq_false h1),if_neg (by omega)]
  show some x.Nodes=_
  congr 1
  omega
theorem xHU{L:Nat}(hL:10<L)(T:yAm)(m:Int):yGz L ⟨T⟩ [[V.int .i64 m]]=some ((),⟨⟨T.Inst,T.Mbal,T.Best,T.Val,yDK true T.Seen m,T.Ahead,T.Lost⟩⟩):=by
 obtain⟨k,rfl⟩:∃k,L=k+2:=⟨L-2,by omega⟩
 rfl
section
variable {L:Nat} {x:yAQ} {p:yAO} {t:yAM} {done:Int} {got:ByteArray} {r:yBI}
theorem yYG(hL:200000<L)(h16:x.Nodes<=16)(hn0:0<=p.Node)(hn:p.Node<x.Nodes)(hat:p.At=2\/p.At=4):yBh L x p t done got=some (yN9 x.Nodes p,t,done,false,0,()):=by
 obtain⟨node,cmd,at_,i,own,T⟩:=p
 dsimp only at hn0 hn hat
 have ho:=yXr (L:=L) hL hn0 hn (Int.le_refl 0) (by omega) h16
 unfold yBh yFT yN9 yHa
 rcases hat with rfl | rfl
 all_goals
  simp only[show decide ((2:Int)<0)=false from rfl,show decide ((4:Int)<0)=false from rfl,show decide (7<=w64 2)=false from rfl,show decide (7<=w64 4)=false from rfl,show decide ((2:Int)=0)=false from rfl,show decide ((4:Int)=0)=false from rfl,show decide ((2:Int)=1)=false from rfl,show decide ((4:Int)=1)=false from rfl,show decide ((2:Int)=2)=true from rfl,show decide ((4:Int)=2)=false from rfl,show decide ((4:Int)=3)=false from rfl,show decide ((4:Int)=4)=true from rfl,cond_false,cond_true,ho,xHU (show 10<L by omega),decide_true,yAC,yZ5,yZ6,yKq]
  by_cases h1:others node 0<x.Nodes
  ·rw[yAb (decide_eq_true h1),if_pos h1];rfl
  ·rw[yAJ (decide_eq_false h1),if_neg h1]
   rfl
theorem xCd(hL:200000<L)(h16:x.Nodes<=16){node cmd at_ i own}{T:yAm}(hn0:0<=node)(hn:node<x.Nodes)(hi0:0<=i)(hi:i<x.Nodes)(hat:at_=3\/at_=5):
  (yAB (yGy L x node (w64 (i+1))) fun r=>bif decide (r<x.Nodes) then some ((⟨node,cmd,at_,r,own,T⟩:yAO),t,done,false,(0:Int),()) else
    yAB (yIU L T) fun r15=>bif r15 then some ((⟨node,cmd,0,0,yBI.z,(⟨0,0,0,noS,T.Seen,false,false⟩:yAm)⟩:yAO),t,done,false,0,()) else
     bif at_==5 then some ((⟨node,cmd,6,r,own,T⟩:yAO),t,done,false,0,()) else
     yAB (yIV L T cmd) fun r16=>some ((⟨node,cmd,4,r,⟨own.Inst,own.Mbal,own.Mbal,r16⟩,T⟩:yAO),t,done,false,0,()))=
    some (yHa x.Nodes ⟨node,cmd,at_,i,own,T⟩ (i+1),t,done,false,0,()):=by
 rw[yAa (by omega) (by omega),yXr hL hn0 hn (by omega) (by omega) h16,yAC,yZ5,yAC,yZ6,yAC]
 unfold yHa
 dsimp only
 by_cases h1:others node (i+1)<x.Nodes
 ·rw[yAb (decide_eq_true h1),if_pos h1]
 ·rw[yAJ (decide_eq_false h1),if_neg h1]
  by_cases h2:yDO T=true
  ·rw[yAb h2,if_pos h2];rfl
  ·rw[yAJ (by simpa using h2),if_neg h2]
   rcases hat with rfl | rfl <;> rfl
set_option maxHeartbeats 1000000 in
theorem yWi(hL:200000<L)(h16:x.Nodes<=16)(hn0:0<=p.Node)(hn:p.Node<x.Nodes)(hi0:0<=p.I)(hi:p.I<x.Nodes)(hat:p.At=3\/p.At=5)(hr:yEb L got=some (r,0,())):
  yBh L x p t done got=some (yIF x.Nodes p r,t,done,false,0,()):=by
 obtain⟨node,cmd,at_,i,own,⟨ti,tm,tb,tv,ts,ta,tl⟩⟩:=p
 obtain⟨ri,rm,rb,rv⟩:=r
 dsimp only at hn0 hn hat hi0 hi
 have key:∀T:yAm,yCx ⟨ti,tm,tb,tv,ts,ta,tl⟩ ⟨ri,rm,rb,rv⟩=T->yIF x.Nodes ⟨node,cmd,at_,i,own,⟨ti,tm,tb,tv,ts,ta,tl⟩⟩ ⟨ri,rm,rb,rv⟩=yHa x.Nodes ⟨node,cmd,at_,i,own,T⟩ (i+1):=fun T e=>by
  unfold yIF;rw[e]
 have nx:=fun T=>xCd (L:=L) (x:=x) (t:=t) (done:=done) (cmd:=cmd) (at_:=at_) (own:=own) (T:=T) hL h16 hn0 hn hi0 hi hat
 unfold yBh yFT
 rcases hat with rfl | rfl
 all_goals
  simp only[show decide ((3:Int)<0)=false from rfl,show decide ((5:Int)<0)=false from rfl,show decide (7<=w64 3)=false from rfl,show decide (7<=w64 5)=false from rfl,show decide ((3:Int)=0)=false from rfl,show decide ((5:Int)=0)=false from rfl,show decide ((3:Int)=1)=false from rfl,show decide ((5:Int)=1)=false from rfl,show decide ((3:Int)=2)=false from rfl,show decide ((5:Int)=2)=false from rfl,show decide ((3:Int)=3)=true from rfl,show decide ((5:Int)=3)=false from rfl,show decide ((5:Int)=4)=false from rfl,show decide ((5:Int)=5)=true from rfl,cond_false,cond_true,hr,xHU (show 10<L by omega),decide_true,yAC,show((0:Int) !=0)=false from rfl]
  by_cases h1:ti<ri
  ·rw[yAb (decide_eq_true h1)]
   refine(nx _).trans ?_
   rw[key _ ?_]
   unfold yCx
   simp only[if_neg (show ¬(ri=ti/\tb<rb) by omega),decide_eq_true h1,decide_eq_false (show ¬ri=ti by omega),Bool.or_true,Bool.false_and,Bool.or_false,yKq]
  ·rw[yAJ (decide_eq_false h1)]
   by_cases h2:ri=ti
   ·rw[yAb (show(ri==ti)=true from beq_iff_eq.2 h2)]
    cases tl with
    | true=>
      rw[cond_true]
      by_cases h3:tb<rb
      ·rw[yAb (decide_eq_true h3)]
       refine(nx _).trans ?_
       rw[key _ ?_]
       unfold yCx
       simp only[if_pos (show ri=ti/\tb<rb from⟨h2,h3⟩),decide_eq_false h1,Bool.or_false,Bool.true_or,yKq]
      ·rw[yAJ (decide_eq_false h3)]
       refine(nx _).trans ?_
       rw[key _ ?_]
       unfold yCx
       simp only[if_neg (show ¬(ri=ti/\tb<rb) by omega),decide_eq_false h1,Bool.or_false,Bool.true_or,yKq]
    | false=>
      rw[cond_false]
      by_cases h3:tb<rb
      ·rw[yAb (decide_eq_true h3)]
       refine(nx _).trans ?_
       rw[key _ ?_]
       unfold yCx
       simp only[if_pos (show ri=ti/\tb<rb from⟨h2,h3⟩),decide_eq_false h1,decide_eq_true h2,Bool.or_false,Bool.false_or,Bool.true_and,yKq]
      ·rw[yAJ (decide_eq_false h3)]
       refine(nx _).trans ?_
       rw[key _ ?_]
       unfold yCx
       simp only[if_neg (show ¬(ri=ti/\tb<rb) by omega),decide_eq_false h1,decide_eq_true h2,Bool.or_false,Bool.false_or,Bool.true_and,yKq]
   ·rw[yAJ (show(ri==ti)=false from beq_eq_false_iff_ne.2 h2)]
    refine(nx _).trans ?_
    rw[key _ ?_]
    unfold yCx
    simp only[if_neg (show ¬(ri=ti/\tb<rb) by omega),decide_eq_false h1,decide_eq_false h2,Bool.or_false,Bool.false_and,yKq]
end
theorem xIQ(s:ByteArray):mkS s.data.toList=s:=by simp[mkS]
def yTr(c:yAG):ByteArray:=mkS (yQa 5 (yFM c)).1
theorem xEI(c:yAG):∃x,yOI 5 (yFM c)=some x/\yQa 5 (yFM c)=(x,0)/\x.length<=40:=by
 have h1:=yM0 c
 have h2:=yOT c
 refine⟨_,yKW (by omega) (by omega),yS7 (by omega) (by omega),?_⟩
 rw[List.length_append,yE9,yAE];omega
theorem yVA(c:yAG):(yTr c).size<=40:=by
 obtain⟨x,_,h2,h3⟩:=xEI c
 unfold yTr
 rw[h2,yUT];exact h3
theorem xJW{b:ByteArray}(h:0<b.size):(b.toList==noS.toList)=false:=by
 rw[beq_eq_false_iff_ne]
 intro e
 have e1:b=noS:=by
  have:=congrArg List.length e
  simp only[ByteArray.toList_eq,Array.length_toList] at this
  exact absurd this (by show ¬b.size=0;omega)
 rw[e1] at h
 exact absurd h (by decide)
theorem yZa(c:yAG):0<(yTr c).size:=by
 unfold yTr
 have h1:=yM0 c
 have h2:=yOT c
 rw[yS7 (by omega) (by omega),yUT,List.length_append,yE9];omega
theorem xCA{L:Nat}[yFr L]{c:yAG}(h:yUy c):yGd L (yTr c)=some (c,mkS (yFM c),true,0,()):=by
 have hp:=yZa c
 have hl:=yVA c
 have hO:yQb L 5 (yTr c)=some (mkS (yFM c),0,()):=by
  obtain⟨x,h1,h2,h3⟩:=xEI c
  rw[of_eq yTV (by omega)]
  unfold yTr
  rw[h2,yXD,yY1 (by omega) h1]
 unfold yGd yKm
 rw[xJW hp,cond_false,hO,yAC]
 dsimp only
 rw[show((0:Int) !=0)=false from rfl,cond_false,yI3 yTV h,yAC]
 rfl
theorem xEs{L:Nat}[yFr L]:yGd L noS=some (yAG.z,noS,false,0,()):=by
 unfold yGd yKm
 rw[beq_self_eq_true];rfl
theorem xB9{L:Nat}[yFr L]{c:yAG}(h:yUy c):yI7 L (mkS (yFM c))=some (yTr c,0,()):=by
 have h1:=yM0 c
 have h2:=yOT c
 have hO:yOK L 5 (mkS (yFM c))=some (yTr c,0,()):=by
  obtain⟨x,h1,h2,h3⟩:=xEI c
  rw[xKu (by omega),yXD]
  unfold yTr
  rw[h2]
 unfold yI7 yMR
 rw[yI3 yTV h,yAC]
 dsimp only
 rw[show((0:Int) !=0)=false from rfl,cond_false,hO]
 rfl
def xCi(r:yBI):ByteArray:=mkS (yXq r.Inst r.Mbal r.Bal r.Val.data.toList).1
def yZt(r:yBI):Prop:=yXC r.Inst r.Mbal r.Bal r.Val.data.toList=true
theorem yY6{r:yBI}(h:yZt r):(xCi r).size<=100/\0<(xCi r).size:=by
 obtain⟨l,x,h1,h2,h3,h4⟩:=yVN h
 have h5:=(yQs h).2.2.2.2.2.2
 unfold xCi
 rw[h1,yUT]
 dsimp only
 exact⟨by omega,by omega⟩
theorem xF3{L:Nat}[yFr L]{r:yBI}(h:yZt r):yIS L r=some (xCi r,0,()):=by
 obtain⟨l,x,h1,h2,h3,h4⟩:=yVN h
 have h5:=(yQs h).2.2.2.2.2.2
 rw[xEd yTV]
 unfold xCi
 rw[h1]
theorem xH2{L:Nat}[yFr L]{r:yBI}(h:yZt r):yEb L (xCi r)=some (r,0,()):=by
 obtain⟨l,x,h1,h2,h3,h4⟩:=yVN h
 have h5:=(yQs h).2.2.2.2.2.2
 rw[yZy yTV (by have:=(yY6 h).1;omega)]
 unfold xCi
 rw[h1,yXD,h3,xIQ]
theorem xH3{L:Nat}[yFr L]:yEb L noS=some (yBI.z,0,()):=by
 rw[yZy yTV (by decide)];rfl
def yTI(b:ByteArray)(r:yBI):Prop:=(b=noS/\r=yBI.z)\/(yZt r/\b=xCi r)
theorem yTI.read{L:Nat}[yFr L]{b:ByteArray}{r:yBI}(h:yTI b r):yEb L b=some (r,0,()):=by
 rcases h with ⟨rfl,rfl⟩ | ⟨h,rfl⟩
 ·exact xH3
 ·exact xH2 h
theorem xDe{L:Nat}[yFr L](c:yAG)(b s:Int):yLL L c b s=some (decide (c.By=b/\c.Serial=s)):=by
 unfold yLL yNM
 by_cases h1:c.By=b
 ·rw[yAb (beq_iff_eq.2 h1)]
  by_cases h2:c.Serial=s
  ·rw[decide_eq_true (⟨h1,h2⟩:c.By=b/\c.Serial=s),beq_iff_eq.2 h2]
  ·rw[decide_eq_false (fun q=>h2 q.2),beq_eq_false_iff_ne.2 h2]
 ·rw[yAJ (beq_eq_false_iff_ne.2 h1),decide_eq_false (fun q=>h1 q.1)]
theorem xG7{L:Nat}{x:yAQ}{p:yAO}{t:yAM}{done:Int}{o:Bool}{own:yAG}(ho:yBB L p.Cmd=some (own,0,())):yJF L ⟨p,x,t,done,o⟩=some (own,true,()):=by
 unfold yJF yMe
 rw[ho];rfl
section
variable {L:Nat} [yFr L] {x:yAQ} {p:yAO} {t t':yAM} {done:Int} {c own:yAG} {r:yBI} {got:ByteArray}
theorem xEQ(hc:yUy c)(hat:p.At=0)(hT:yCo L x t c=some t')(hd0:0<=done)(hd:done<=100000)(ho:yBB L p.Cmd=some (own,0,())):
  yBh L x p t done (yTr c)=some (xFF p,t',done+1,decide (c.By=own.By/\c.Serial=own.Serial),0,()):=by
 have hl:yJ6 L x t done (yTr c)=some (t',done+1,c,true,0,()):=by
  unfold yJ6 yM5
  rw[xCA hc,yAC]
  dsimp only
  rw[show((0:Int)==0)=true from rfl,cond_true,cond_true,hT,yAC,yAa (by omega) (by omega)]
 unfold yBh yFT
 rw[hat,hl]
 simp only[show decide ((0:Int)<0)=false from rfl,show decide (7<=w64 0)=false from rfl,show decide ((0:Int)=0)=true from rfl,cond_false,cond_true,decide_true,xG7 ho,yAC,show((0:Int) !=0)=false from rfl,ho,show((0:Int)==0)=true from rfl,xDe]
 rw[yAa (by omega) (by omega)]
 rfl
theorem xBh(hm:(yB3 x).may=true)(hat:p.At=0)(hd0:0<=done)(ho:yBB L p.Cmd=some (own,0,())):
  yBh L x p t done noS=some (if(own.Kind=0\/own.Kind=2)/\x.Log-4*x.Slots<=done then(p,t,done,false,150,()) else(⟨p.Node,p.Cmd,1,p.I,p.Own,p.T⟩,t,done,false,0,())):=by
 have hok:=Geo.may_ok hm
 have s1:1<=x.Slots:=hok.s1
 have s2:x.Slots<=x.Nodes:=hok.s2
 have n2:x.Nodes<=16:=hok.n2
 have l1:8*x.Slots<=x.Log:=hok.l1
 have l2:x.Log<=512:=hok.l2
 have hR:yQn L x=some (4*x.Slots):=by
  rw[xIL yTV (yNR hm),if_pos hm]
 have hl:yJ6 L x t done noS=some (t,done,yAG.z,false,0,()):=by
  unfold yJ6 yM5
  rw[xEs,yAC]
  rfl
 unfold yBh yFT
 rw[hat,hl]
 simp only[show decide ((0:Int)<0)=false from rfl,show decide (7<=w64 0)=false from rfl,show decide ((0:Int)=0)=true from rfl,cond_false,cond_true,decide_true,xG7 ho,yAC,show((0:Int) !=0)=false from rfl,ho,show((0:Int)==0)=true from rfl,hR]
 rw[yAa (by omega) (by omega)]
 by_cases h0:own.Kind=0
 ·rw[yAb (beq_iff_eq.2 h0)]
  by_cases h1:x.Log-4*x.Slots<=done
  ·rw[yAb (decide_eq_true h1),if_pos ⟨.inl h0,h1⟩];try rfl
  ·rw[yAJ (decide_eq_false h1),if_neg (fun q=>h1 q.2)];try rfl
 ·rw[yAJ (beq_eq_false_iff_ne.2 h0)]
  by_cases h2:own.Kind=2
  ·rw[yAb (beq_iff_eq.2 h2)]
   by_cases h1:x.Log-4*x.Slots<=done
   ·rw[yAb (decide_eq_true h1),if_pos ⟨.inr h2,h1⟩];try rfl
   ·rw[yAJ (decide_eq_false h1),if_neg (fun q=>h1 q.2)];try rfl
  ·rw[yAJ (beq_eq_false_iff_ne.2 h2),if_neg (fun q=>q.1.elim h0 h2)];try rfl
def yRq(p:yAO)(r:yBI)(done:Int):Int:=yVu p.Node (max (max 0 (recAt r done).Mbal) p.T.Seen)
theorem xER(hat:p.At=1)(hr:yEb L got=some (r,0,())):
  yBh L x p t done got=some (if yRq p r done=0 then(p,t,done,false,150,()) else(⟨p.Node,p.Cmd,2,p.I,⟨(recAt r done).Inst,yRq p r done,(recAt r done).Bal,(recAt r done).Val⟩,p.T⟩,t,done,false,0,())):=by
 have hA:yPk L r done=some (recAt r done):=by
  unfold yPk yRX recAt
  by_cases h:r.Inst=done
  ·rw[if_pos h,yAJ (show(r.Inst !=done)=false from by rw[h];exact bne_self_eq_false done)]
  ·rw[if_neg h,yAb (show(r.Inst !=done)=true from bne_iff_ne.2 h)]
 have hN:yJp L p.Node [[V.int .i64 (recAt r done).Mbal],[V.int .i64 p.T.Seen]]=some (yRq p r done):=
  xKW (l:= [(recAt r done).Mbal,p.T.Seen]) (by simp) (by have:=hL3 (L:=L);simp;omega) p.Node
 unfold yBh yFT
 rw[hat]
 simp only[show decide ((1:Int)<0)=false from rfl,show decide (7<=w64 1)=false from rfl,show decide ((1:Int)=0)=false from rfl,decide_true,cond_false,cond_true,yAC,show((0:Int) !=0)=false from rfl,hr,hA,hN]
 by_cases h:yRq p r done=0
 ·rw[yAb (beq_iff_eq.2 h),if_pos h]
 ·rw[yAJ (beq_eq_false_iff_ne.2 h),if_neg h]
theorem xEP(hc:yUy c)(hat:p.At=6)(hv:p.Own.Val=mkS (yFM c))(hT:yCo L x t c=some t')(hd0:0<=done)(hd:done<=100000)(ho:yBB L p.Cmd=some (own,0,())):
  yBh L x p t done got=some (xFF p,t',done+1,decide (c.By=own.By/\c.Serial=own.Serial),0,()):=by
 unfold yBh yFT
 rw[hat,hv,yI3 yTV hc]
 simp only[show decide ((6:Int)<0)=false from rfl,show decide (7<=w64 6)=false from rfl,show decide ((6:Int)=0)=false from rfl,show decide ((6:Int)=1)=false from rfl,show decide ((6:Int)=2)=false from rfl,show decide ((6:Int)=3)=false from rfl,show decide ((6:Int)=4)=false from rfl,show decide ((6:Int)=5)=false from rfl,show decide ((6:Int)=6)=true from rfl,cond_false,cond_true,decide_true,xG7 ho,yAC,show((0:Int) !=0)=false from rfl,hT,ho,show((0:Int)==0)=true from rfl,xDe]
 rw[yAa (by omega) (by omega)]
 rfl
theorem xEV(hm:(yB3 x).may=true)(hat:p.At=0)(hd0:0<=done)(hd:done<x.Log):yBU L x p done=some (⟨1,1+2*x.Nodes+done,noS,0⟩,0,()):=by
 have hok:=Geo.may_ok hm
 have n1:1<=x.Nodes:=hok.n1
 have hl:yLX L x done=some (1+2*x.Nodes+done):=by
  rw[xCJ yTV (yNR hm)]
  unfold Geo.logS
  rw[if_pos ⟨hm,hd0,hd⟩];(try rfl)
 unfold yBU yFV yKu yLZ yQr yP6
 rw[hat,hl]
 simp only[show decide ((0:Int)<0)=false from rfl,show decide (7<=w64 0)=false from rfl,decide_true,cond_false,cond_true,yAC,show((0:Int)==0)=true from rfl,hl]
 rw[show decide (1+2*x.Nodes+done<0)=false from decide_eq_false (by omega),show decide (0<=1+2*x.Nodes+done)=true from decide_eq_true (by omega)]
 rfl
theorem xBo(hm:(yB3 x).may=true)(hat:p.At=0)(hd:¬done<x.Log):yBU L x p done=some (yBN.z,150,()):=by
 have hl:yLX L x done=some (-1):=by
  rw[xCJ yTV (yNR hm)]
  unfold Geo.logS
  rw[if_neg (fun q=>hd q.2.2)];(try rfl)
 unfold yBU yFV
 rw[hat,hl]
 rfl
theorem xEW(hm:(yB3 x).may=true)(hat:p.At=1)(hn0:0<=p.Node)(hn:p.Node<x.Nodes):yBU L x p done=some (⟨1,1+x.Nodes+p.Node,noS,0⟩,0,()):=by
 have hp:yED L x p.Node=some (1+x.Nodes+p.Node):=by
  rw[yVj yTV (yNR hm)]
  unfold Geo.paxosS
  rw[if_pos ⟨hm,hn0,hn⟩];(try rfl)
 unfold yBU yFV yKv yLa yFh yL1
 rw[hat]
 simp only[show decide ((1:Int)<0)=false from rfl,show decide (7<=w64 1)=false from rfl,show decide ((1:Int)=0)=false from rfl,decide_true,cond_false,cond_true,yAC,show((1:Int)==0)=false from rfl,hp]
 rw[show decide (1+x.Nodes+p.Node<0)=false from decide_eq_false (by omega)]
 rfl
theorem xEX(hm:(yB3 x).may=true)(hat:p.At=2\/p.At=4)(hn0:0<=p.Node)(hn:p.Node<x.Nodes)(hr:yZt p.Own):yBU L x p done=some (⟨2,1+x.Nodes+p.Node,xCi p.Own,0⟩,0,()):=by
 have hp:yED L x p.Node=some (1+x.Nodes+p.Node):=by
  rw[yVj yTV (yNR hm)]
  unfold Geo.paxosS
  rw[if_pos ⟨hm,hn0,hn⟩];(try rfl)
 have hF:yEJ L (1+x.Nodes+p.Node) (xCi p.Own) 0=some ⟨2,1+x.Nodes+p.Node,xCi p.Own,0⟩:=by
  unfold yEJ yKt
  rw[show((0:Int) !=0)=false from rfl,cond_false,yAJ (decide_eq_false (by omega))]
 unfold yBU yFV yHv yJG
 rcases hat with e | e
 all_goals
  rw[e,xF3 hr,hp]
  simp only[show decide ((2:Int)<0)=false from rfl,show decide (7<=w64 2)=false from rfl,show decide ((2:Int)=0)=false from rfl,show decide ((2:Int)=1)=false from rfl,decide_true,show decide ((4:Int)<0)=false from rfl,show decide (7<=w64 4)=false from rfl,show decide ((4:Int)=0)=false from rfl,show decide ((4:Int)=1)=false from rfl,show decide ((4:Int)=2)=false from rfl,show decide ((4:Int)=3)=false from rfl,decide_true,cond_false,cond_true,yAC,show((2:Int)==0)=false from rfl,show((4:Int)==0)=false from rfl,hF]
theorem xBp(hm:(yB3 x).may=true)(hat:p.At=3\/p.At=5)(hn0:0<=p.I)(hn:p.I<x.Nodes):yBU L x p done=some (⟨1,1+x.Nodes+p.I,noS,0⟩,0,()):=by
 have hp:yED L x p.I=some (1+x.Nodes+p.I):=by
  rw[yVj yTV (yNR hm)]
  unfold Geo.paxosS
  rw[if_pos ⟨hm,hn0,hn⟩];(try rfl)
 unfold yBU yFV yKw yLb yKx yLc yFh yL1
 rcases hat with e | e
 all_goals
  rw[e]
  simp only[show decide ((3:Int)<0)=false from rfl,show decide (7<=w64 3)=false from rfl,show decide ((3:Int)=0)=false from rfl,show decide ((3:Int)=1)=false from rfl,show decide ((3:Int)=2)=false from rfl,decide_true,show decide ((5:Int)<0)=false from rfl,show decide (7<=w64 5)=false from rfl,show decide ((5:Int)=0)=false from rfl,show decide ((5:Int)=1)=false from rfl,show decide ((5:Int)=2)=false from rfl,show decide ((5:Int)=3)=false from rfl,show decide ((5:Int)=4)=false from rfl,decide_true,cond_false,cond_true,yAC,show((3:Int)==0)=false from rfl,show((5:Int)==0)=false from rfl,hp]
  rw[show decide (1+x.Nodes+p.I<0)=false from decide_eq_false (by omega)]
  rfl
theorem xEU(hm:(yB3 x).may=true)(hat:p.At=6)(hd0:0<=done)(hd:done<x.Log)(hc:yUy c)(hv:p.Own.Val=mkS (yFM c)):yBU L x p done=some (⟨2,1+2*x.Nodes+done,yTr c,0⟩,0,()):=by
 have hok:=Geo.may_ok hm
 have n1:1<=x.Nodes:=hok.n1
 have hl:yLX L x done=some (1+2*x.Nodes+done):=by
  rw[xCJ yTV (yNR hm)]
  unfold Geo.logS
  rw[if_pos ⟨hm,hd0,hd⟩];(try rfl)
 have hF:yEJ L (1+2*x.Nodes+done) (yTr c) 0=some ⟨2,1+2*x.Nodes+done,yTr c,0⟩:=by
  unfold yEJ yKt
  rw[show((0:Int) !=0)=false from rfl,cond_false,yAJ (decide_eq_false (by omega))]
 unfold yBU yFV yGS yHb
 rw[hat,hv,xB9 hc,hl]
 simp only[show decide ((6:Int)<0)=false from rfl,show decide (7<=w64 6)=false from rfl,show decide ((6:Int)=0)=false from rfl,show decide ((6:Int)=1)=false from rfl,show decide ((6:Int)=2)=false from rfl,show decide ((6:Int)=3)=false from rfl,show decide ((6:Int)=4)=false from rfl,show decide ((6:Int)=5)=false from rfl,decide_true,cond_false,cond_true,yAC,show((6:Int)==0)=false from rfl,hF]
end
def slV(s:Int×Int):List V:= [.int .i64 s.1,.int .i64 s.2]
theorem yWV(l:List (Int×Int)):yCR (l.map slV)=true:=List.all_eq_true.2 fun r hr=>by
 obtain⟨a,_,rfl⟩:=List.mem_map.1 hr
 rfl
theorem xLZ{l:List (Int×Int)}(h:l.length<=1000):clR 2 (l.map slV)=some (l.map slV):=by
 unfold clR
 have:((l.map slV).all fun r=>Nat.beq r.length 2)=true:=List.all_eq_true.2 fun r hr=>by
  obtain⟨a,_,rfl⟩:=List.mem_map.1 hr
  rfl
 rw[this,yWV,Nat.ble_eq_true_of_le (by rw[List.length_map];omega)];rfl
theorem xML{l:List (Int×Int)}{i:Nat}{k:Int}(hi:i<l.length):(l.map slV).set (0+i) (((l.map slV).getD (0+i) []).take 0++([V.int .i64 k]++((l.map slV).getD (0+i) []).drop 1))=(l.set i (k,l[i].2)).map slV:=by
 rw[Nat.zero_add,List.getD_eq_getElem?_getD,List.getElem?_map,List.getElem?_eq_getElem hi,List.map_set]
 rfl
def ovB(a b:yAN):Bool:=decide (a.Lo<=a.Hi)&&(decide (b.Lo<=b.Hi)&&(decide (a.Lo<=b.Hi)&&decide (b.Lo<=a.Hi)))
def xK5(a b:yAR):Bool:=a.Key==b.Key || (!(ovB a.Span b.Span) || (a.Mode==1&&b.Mode==1))
abbrev hV:yAR->List V:=yAR.cs
theorem xAW(b:yAR):rowIs yAR.ks [hV b] 0=true:=rfl
theorem yC5(b:yAR):(hV b).all (nmB 20)=true:=rfl
section
variable {L:Nat} {l:List yAR} {i:Nat}
theorem hK(h:i<l.length):aI (l.map hV) i 0=l[i].Key:=congrArg asI (yNs h)
theorem hLo(h:i<l.length):aI (l.map hV) i 1=l[i].Span.Lo:=congrArg asI (yNs h)
theorem hHi(h:i<l.length):aI (l.map hV) i 2=l[i].Span.Hi:=congrArg asI (yNs h)
theorem hMo(h:i<l.length):aI (l.map hV) i 3=l[i].Mode:=congrArg asI (yNs h)
theorem xDz(a b:yAN):yC4 L ⟨a⟩ ⟨b⟩=some (ovB a b):=by
 unfold yC4 yIQ yJe yKg ovB
 obtain⟨al,ah⟩:=a
 obtain⟨bl,bh⟩:=b
 dsimp only
 by_cases h1:ah<al
 ·rw[decide_eq_true h1,decide_eq_false (show ¬al<=ah by omega)];rfl
 rw[decide_eq_false h1,decide_eq_true (show al<=ah by omega)]
 by_cases h2:bh<bl
 ·rw[decide_eq_true h2,decide_eq_false (show ¬bl<=bh by omega)];rfl
 rw[decide_eq_false h2,decide_eq_true (show bl<=bh by omega)]
 by_cases h3:al<=bl
 ·rw[decide_eq_true h3,decide_eq_true (show al<=bh by omega)]
  by_cases h4:bl<=ah
  ·rw[decide_eq_true h4];rfl
  ·rw[decide_eq_false h4,show decide (bl<=al)=false from decide_eq_false (by omega)];rfl
 ·rw[decide_eq_false h3,show decide (bl<=al)=true from decide_eq_true (by omega),show decide (bl<=ah)=true from decide_eq_true (by omega)]
  cases decide (al<=bh) <;> rfl
theorem xMN(a b:yAR):yFo L a b=some (xK5 a b):=by
 unfold yFo yMv yLH yLp xK5
 dsimp only
 rw[xDz,yAC]
 cases a.Key==b.Key <;> cases ovB a.Span b.Span <;> cases a.Mode==1 <;> rfl
def xJM(h:yAR)(l:List yAR):Bool:=l.all (xK5 h)
theorem xIn{p:yAR->Bool}:(match l.findIdx? (fun o=> !p o) with | none=>true | some _=>false)=l.all p:=by
 cases h:l.findIdx? (fun o=> !p o) with
 | none=>exact(List.all_eq_true.2 fun x hx=>by simpa using List.findIdx?_eq_none_iff.1 h x hx).symm
 | some i=>
   obtain⟨h1,h2,-⟩:=List.findIdx?_eq_some_iff_getElem.1 h
   symm
   rw[Bool.eq_false_iff]
   intro hh
   rw[List.all_eq_true.1 hh _ (List.getElem_mem h1)] at h2
   cases h2
theorem xB4{α:Type}{c:Bool}{x y:α}:(bif !c then x else y)=bif c then y else x:=by cases c <;> rfl
theorem xIF(hL:200000<L)(hl:l.length<=100000)(h:yAR):yAp L (l.map hV) (((h,()),()),())=some (match l.findIdx? (fun o=> !xK5 h o) with | none=> -1 | some i=>(i:Int)):=by
 unfold yAp yBp
 rw[List.length_map]
 refine(yPO l (fun o=> !xK5 h o) (fun i=>(l.map hV,(((h,()),()),()),(l.length:Int),(i:Int),())) () (fun i=>((i:Int),())) (fun i hi kn ka kb=>?_) (fun kn ka kb=>?_) L 0 (Nat.zero_le _) (by omega) (fun j hj h=>absurd h (Nat.not_lt_zero _)) _ _).trans ?_
 ·show(bif decide ((i:Int)<(l.length:Int)) then _ else _)=_
  dsimp only
  rw[yAb (decide_eq_true (by omega)),xIJ xAW hi]
  simp only[Int.toNat_natCast,hK hi,hLo hi,hHi hi,hMo hi]
  rw[xMN,yAC,yAa (by omega) (by omega)]
  rfl
 ·show(bif decide ((l.length:Int)<(l.length:Int)) then _ else _)=_
  rw[yAJ (decide_eq_false (by omega))]
 ·cases l.findIdx? (fun o=> !xK5 h o) <;> rfl
theorem xMK(hL:200000<L)(hl:l.length<=100000)(h:yAR):yLQ L h (l.map hV)=some (xJM h l):=by
 unfold yLQ ySG yJg yKi yA6 yBa
 rw[xIF hL hl,yAC,yAC,yAC]
 unfold xJM
 rw[←xIn]
 cases l.findIdx? (fun o=> !xK5 h o) with
 | none=>rfl
 | some i=>rw[show decide (0<=(i:Int))=true from decide_eq_true (by omega)];rfl
def xAS(a:List yAR×List yAR)(h:yAR):List yAR×List yAR:=bif xJM h a.1&&xJM h a.2 then(a.1++ [h],a.2) else(a.1,a.2++ [h])
def grH(H Q:List yAR):List yAR×List yAR:=Q.foldl xAS (H,[])
theorem xAT(a:List yAR×List yAR)(h:yAR):(xAS a h).1.length+(xAS a h).2.length=a.1.length+a.2.length+1:=by
 unfold xAS
 cases xJM h a.1&&xJM h a.2 <;> simp only[cond_true,cond_false,List.length_append,List.length_cons,List.length_nil] <;> omega
theorem xGg(a:List yAR)(h:yAR):a.map hV++ [hV h]=(a++ [h]).map hV:=by rw[List.map_append];rfl
theorem xLn(h:yAR): [V.int .i64 h.Key,V.int .i64 h.Span.Lo,V.int .i64 h.Span.Hi,V.int .i8 h.Mode]=hV h:=rfl
theorem xNL(s:List (Int×Int)):yCR (s.map slV)=true:=yWV s
theorem yPw{α:Type}{s:List (Int×Int)}{n:Nat}(hn:n=s.length){x:Option α}:gW (s.map slV) n x=x:=yIx (by rw[List.length_map];exact hn) (xNL s)
theorem xII{α:Type}{s:List (Int×Int)}{n:Nat}(hn:n<=s.length)(hl:s.length<=100000){x:Option α}:gF (s.map slV) n x=x:=yRQ (by rw[List.length_map];exact hn) (by omega) (xNL s)
theorem xGd(H Q:List yAR):(grH H Q).1.length+(grH H Q).2.length=H.length+Q.length:=by
 have:∀(Q:List yAR) a,(Q.foldl xAS a).1.length+(Q.foldl xAS a).2.length=a.1.length+a.2.length+Q.length:=fun Q=>by
  induction Q with
  | nil=>intro a;rfl
  | cons h Q ih=>intro a;rw[List.foldl_cons,ih,xAT,List.length_cons];omega
 have:=this Q (H,[])
 rw[List.length_nil,Nat.add_zero] at this
 exact this
theorem xDt(hL:200000<L){s:List (Int×Int)}{H Q:List yAR}(hs:s.length<=1000)(hl:H.length+Q.length<=10000)(a b c d e f g h:Int):
  yDM L (s.map slV,H.map hV,Q.map hV,a,b,c,d,e,f,g,h,())=some ((),(s.map slV,(grH H Q).1.map hV,(grH H Q).2.map hV,a,b,c,d,e,f,g,h,())):=by
 unfold yDM yJi
 dsimp only
 rw[yPw (by rw[List.length_map]),yPv yC5 (by rw[List.length_map]),xFp yC5 (by rw[List.length_map];omega) (by omega),take_len rfl]
 have R:=yU2 (α:=Unit×((List (List V))×(List (List V))×(List (List V))×Int×Int×Int×Int×Int×Int×Int×Int×Unit)) (F:=yDj (yLQ L)) Q xAS (fun i x=>x.1.length+x.2.length=H.length+i)
  (fun i x=>((s.map slV,x.1.map hV,x.2.map hV,a,b,c,d,e,f,g,h,()),Q.map hV,((Q.map hV).length:Int),(i:Int),())) (fun x=>((s.map slV,x.1.map hV,x.2.map hV,a,b,c,d,e,f,g,h,()),()))
  (fun i hi x hx=>⟨by rw[xAT];omega,fun kn ka=>by
    show(bif decide ((i:Int)<((Q.map hV).length:Int)) then _ else _)=_
    dsimp only
    rw[List.length_map,yAb (decide_eq_true (by omega)),xIJ xAW hi]
    simp only[Int.toNat_natCast,hK hi,hLo hi,hHi hi,hMo hi,xLn,xGg]
    rw[xFp yC5 (by rw[List.length_map];omega) (by omega),take_len rfl,xMK hL (by omega),yAC]
    unfold xAS
    cases xJM Q[i] x.1 with
    | false=>
      dsimp only[Bool.false_and,cond_false]
      rw[yPx (by omega),xLH (by rw[List.length_map];omega) (by decide),yPw (by rw[List.length_map]),yPv yC5 (by rw[List.length_map]),yPv yC5 (by simp),yAa (by omega) (by omega)]
      rfl
    | true=>
      dsimp only[Bool.true_and,cond_true]
      rw[xFp yC5 (by rw[List.length_map];omega) (by omega),take_len rfl,xMK hL (by omega),yAC]
      cases xJM Q[i] x.2 with
      | false=>
        dsimp only[cond_false]
        rw[yPx (by omega),xLH (by rw[List.length_map];omega) (by decide),yPw (by rw[List.length_map]),yPv yC5 (by rw[List.length_map]),yPv yC5 (by simp),yAa (by omega) (by omega)]
        rfl
      | true=>
        dsimp only[cond_true]
        rw[yPx (by omega),xLH (by rw[List.length_map];omega) (by decide),yPw (by rw[List.length_map]),yPv yC5 (by simp),yPv yC5 (by rw[List.length_map]),yAa (by omega) (by omega)]
        rfl⟩)
  (fun x hx kn ka=>by
    show(bif decide ((Q.length:Int)<((Q.map hV).length:Int)) then _ else _)=_
    dsimp only
    rw[List.length_map,yAJ (decide_eq_false (by omega)),yPw (by rw[List.length_map]),yPv yC5 (by rw[List.length_map]),yPv yC5 (by rw[List.length_map])])
  L 0 (Nat.zero_le _) (by omega) (H,[]) rfl
 refine(R.2 _).trans ?_
 rw[List.drop_zero]
 show gW _ _ (gW _ _ (gW _ _ _))=_
 rw[yPw (by rw[List.length_map]),yPv yC5 (by rw[List.length_map]),yPv yC5 (by rw[List.length_map])]
 rfl
end
def tbl(s:List (Int×Int))(H Q:List yAR):yAM:=⟨s.map slV,H.map hV,Q.map hV⟩
section
variable {L:Nat} {s:List (Int×Int)} {H Q l:List yAR}
theorem xJr(l:List yAR):((l.map hV).all fun r=>Nat.beq r.length 4)=true:=xMi (e:=hV) fun _=>rfl
end
section
variable {L:Nat} {s:List (Int×Int)} {H Q l:List yAR}
theorem xKF(hL:200000<L)(hl:l.length<=10000)(k:Int):yAn L (l.map hV) (((((k,()),()),()),()),())=some (match l.findIdx? (fun o=>o.Key==k) with | none=> -1 | some i=>(i:Int)):=by
 unfold yAn yBn
 rw[List.length_map]
 refine(yPO l (fun o=>o.Key==k) (fun i=>(l.map hV,(((((k,()),()),()),()),()),(l.length:Int),(i:Int),())) () (fun i=>((i:Int),())) (fun i hi kn ka kb=>?_) (fun kn ka kb=>?_) L 0 (Nat.zero_le _) (by omega) (fun j hj h=>absurd h (Nat.not_lt_zero _)) _ _).trans ?_
 ·show(bif decide ((i:Int)<(l.length:Int)) then _ else _)=_
  dsimp only
  rw[yAb (decide_eq_true (by omega)),xIJ xAW hi,xB4]
  simp only[Int.toNat_natCast,hK hi]
  rw[yAa (by omega) (by omega)]
  rfl
 ·show(bif decide ((l.length:Int)<(l.length:Int)) then _ else _)=_
  rw[yAJ (decide_eq_false (by omega))]
 ·cases l.findIdx? (fun o=>o.Key==k) <;> rfl
theorem xM2{R:List yAR}{w:Nat}(hw:w<R.length)(h:yAR):(R.map hV).set (0+w) (((R.map hV).getD (0+w) []).take 0++(hV h++((R.map hV).getD (0+w) []).drop 4))=(R.set w h).map hV:=by
 rw[Nat.zero_add,yDo (yIe hw),List.map_set]
 rfl
theorem xAH(hL:200000<L)(hl:l.length<=10000)(k:Int):yAl L (l.map hV) (((((k,()),()),()),()),())=some ((l.filter fun h=>h.Key !=k).map hV):=by
 unfold yAl yBj
 dsimp only
 rw[xFp yC5 (by rw[List.length_map];omega) (by omega),take_len rfl,xKF hL hl,yAC]
 cases hf:l.findIdx? (fun o=>o.Key==k) with
 | none=>
   have:l.filter (fun h=>h.Key !=k)=l:=List.filter_eq_self.2 fun a ha=>by
    have:=List.findIdx?_eq_none_iff.1 hf a ha
    simpa[bne] using this
   dsimp only
   rw[yAb (show((-1:Int)== -1)=true from rfl),yMT (Nat.le_refl _),yCf (xG1 yC5),this]
 | some r=>
   obtain⟨hr,hk,hno⟩:=List.findIdx?_eq_some_iff_getElem.1 hf
   dsimp only
   rw[yAJ (beq_eq_false_iff_ne.2 (by omega)),yPx rfl,yCf (xG1 yC5)]
   have hkeep:(l.take r).filter (fun h=>h.Key !=k)=l.take r:=List.filter_eq_self.2 fun a ha=>by
    obtain⟨j,hj,rfl⟩:=List.getElem_of_mem ha
    rw[List.length_take] at hj
    rw[List.getElem_take]
    have:=hno j (by omega)
    simpa[bne] using this
   have R:=yU2 (α:=List (List V)) (F:=yAV) l (fun(x:List yAR×Nat) h=>bif h.Key !=k then(x.1.set x.2 h,x.2+1) else x)
    (fun i x=>x.1.length=l.length/\x.2<i/\x.1.drop i=l.drop i/\x.1.take x.2=(l.take i).filter fun h=>h.Key !=k)
    (fun i x=>(x.1.map hV,(((((k,()),()),()),()),()),(x.2:Int),(i:Int),())) (fun x=>(x.1.map hV,(x.2:Int),()))
    (fun i hi x hx=>by
      obtain⟨R,w⟩:=x
      obtain⟨h1,h2,h3,h4⟩:=hx
      dsimp only at h1 h2 h3 h4
      have hiR:i<R.length:=by omega
      have hwR:w<R.length:=by omega
      have hel:R[i]=l[i]:=by
       rw[List.drop_eq_getElem_cons hiR,List.drop_eq_getElem_cons hi] at h3
       injection h3
      have hdr:R.drop (i+1)=l.drop (i+1):=by
       rw[List.drop_eq_getElem_cons hiR,List.drop_eq_getElem_cons hi] at h3
       injection h3
      have htk:(l.take (i+1)).filter (fun h=>h.Key !=k)=(l.take i).filter (fun h=>h.Key !=k)++bif l[i].Key !=k then [l[i]] else []:=by
       rw[List.take_succ_eq_append_getElem hi,List.filter_append]
       congr 1
      have run:∀kn ka,yAV (α:=List (List V)) (R.map hV,(((((k,()),()),()),()),()),(w:Int),(i:Int),()) kn ka=bif l[i].Key !=k then kn ((R.set w l[i]).map hV,(((((k,()),()),()),()),()),((w+1:Nat):Int),((i+1:Nat):Int),()) else kn (R.map hV,(((((k,()),()),()),()),()),(w:Int),((i+1:Nat):Int),()):=fun kn ka=>by
       show(bif decide ((i:Int)<((R.map hV).length:Int)) then _ else _)=_
       dsimp only
       rw[List.length_map,yAb (decide_eq_true (by omega)),yW8 (by omega) (by omega),xFq (by rw[List.length_map];omega) (by rw[yJb (yIe (show 0+(i:Int).toNat<R.length by omega))];rfl)]
       simp only[Int.toNat_natCast]
       rw[show 0+i=i from Nat.zero_add _]
       simp only[hK hiR,hLo hiR,hHi hiR,hMo hiR,xLn,hel,xM2 hwR]
       cases hp:l[i].Key !=k with
       | true=>
         rw[show(l[i].Key==k)=false by simpa[bne] using hp]
         rw[yAb (show(!false)=true from rfl),yW8 (by omega) (by omega),yMU (by rw[Nat.zero_add];exact hwR),yMT (Nat.zero_le _),yMT (by rw[Nat.zero_add,yDo (yIe hwR)];exact Nat.le_refl 4),yPx (by rw[List.length_map,List.length_set]),yCf (xG1 yC5),yAa (by omega) (by omega),yAa (by omega) (by omega)]
         rfl
       | false=>
         rw[show(l[i].Key==k)=true by simpa[bne] using hp]
         rw[yAJ (show(!true)=false from rfl),yPx rfl,yCf (xG1 yC5),yAa (by omega) (by omega)]
         rfl
      cases hp:l[i].Key !=k with
      | true=>
        rw[hp,cond_true] at htk
        refine⟨⟨by dsimp only[cond_true];rw[List.length_set];exact h1,by dsimp only[cond_true];omega,by dsimp only[cond_true];rw[List.drop_set_of_lt (by omega)];exact hdr,?_⟩,fun kn ka=>by rw[run,hp];rfl⟩
        dsimp only[cond_true]
        rw[List.take_succ_eq_append_getElem (by rw[List.length_set];exact hwR),List.getElem_set_self,List.take_set_of_le (Nat.le_refl _),h4,htk]
      | false=>
        rw[hp,cond_false,List.append_nil] at htk
        exact⟨⟨h1,by dsimp only[cond_false];omega,hdr,h4.trans htk.symm⟩,fun kn ka=>by rw[run,hp];rfl⟩)
    (fun x hx kn ka=>by
      obtain⟨h1,h2,h3,h4⟩:=hx
      show(bif decide ((l.length:Int)<((x.1.map hV).length:Int)) then _ else _)=_
      dsimp only
      rw[List.length_map,yAJ (decide_eq_false (by omega)),yPx rfl,yCf (xG1 yC5)])
    L (r+1) (by omega) (by omega) (l,r) ⟨rfl,Nat.lt_succ_self r,rfl,by
     rw[List.take_succ_eq_append_getElem hr,List.filter_append,hkeep,List.filter_cons_of_neg (by simpa[bne] using hk)]
     simp⟩
   rw[yAa (by omega) (by omega)]
   refine(R.2 _).trans ?_
   obtain⟨h1,h2,h3,h4⟩:=R.1
   generalize (l.drop (r+1)).foldl (fun(x:List yAR×Nat) h=>bif h.Key !=k then(x.1.set x.2 h,x.2+1) else x) (l,r)=x at h1 h2 h3 h4 ⊢
   obtain⟨R,w⟩:=x
   dsimp only at h1 h2 h3 h4 ⊢
   rw[List.take_length] at h4
   rw[yMU (by omega),yMU (by rw[List.length_map];omega),yMT (Nat.zero_le _),yMU (by omega),yMU (by rw[List.length_map];omega)]
   simp only[Int.toNat_natCast,Nat.zero_add]
   rw[yMT (by rw[List.length_take,List.length_map];omega),←List.map_take,←List.map_take,List.take_take,Nat.min_self,h4,yCf (xG1 yC5)]
end
theorem xDH(b:Int×Int):rowIs yAN.ks [slV b] 0=true:=rfl
section
variable {L:Nat} {s:List (Int×Int)} {H Q l:List yAR} {i:Nat}
theorem xMe(h:i<s.length):aI (s.map slV) i 0=s[i].1:=congrArg asI (yNs h)
def yLo(s:List (Int×Int))(k:Int):Int×Bool:=bif decide (k<1) then(0,false) else match s.findIdx? (fun o=>o.1==k) with | none=>(0,false) | some i=>((i:Int),true)
theorem xIs{k:Int}(h:(yLo s k).2=true):∃i:Nat,i<s.length/\yLo s k=((i:Int),true):=by
 unfold yLo at h ⊢
 cases hk:decide (k<1) with
 | true=>rw[hk] at h;cases h
 | false=>
   rw[hk,cond_false] at h
   rw[cond_false]
   cases hf:s.findIdx? (fun o=>o.1==k) with
   | none=>rw[hf] at h;cases h
   | some i=>exact⟨i,(List.findIdx?_eq_some_iff_getElem.1 hf).1,rfl⟩
theorem xGU(hL:200000<L)(hs:s.length<=1000)(k:Int):yA3 L (s.map slV) ((k,()),())=some (match s.findIdx? (fun o=>o.1==k) with | none=> -1 | some i=>(i:Int)):=by
 unfold yA3 yB5
 rw[List.length_map]
 refine(yPO s (fun o=>o.1==k) (fun i=>(s.map slV,((k,()),()),(s.length:Int),(i:Int),())) () (fun i=>((i:Int),())) (fun i hi kn ka kb=>?_) (fun kn ka kb=>?_) L 0 (Nat.zero_le _) (by omega) (fun j hj h=>absurd h (Nat.not_lt_zero _)) _ _).trans ?_
 ·show(bif decide ((i:Int)<(s.length:Int)) then _ else _)=_
  dsimp only
  rw[yAb (decide_eq_true (by omega)),xIJ xDH hi]
  simp only[Int.toNat_natCast,xMe hi]
  rw[yAa (by omega) (by omega)]
  rfl
 ·show(bif decide ((s.length:Int)<(s.length:Int)) then _ else _)=_
  rw[yAJ (decide_eq_false (by omega))]
 ·cases s.findIdx? (fun o=>o.1==k) <;> rfl
theorem xDd(hL:200000<L)(hs:s.length<=1000){t:yAM}{x:yAQ}(ht:t.Slots=s.map slV)(k:Int):yDk L ⟨t,x⟩ k=some ((yLo s k).1,(yLo s k).2,()):=by
 unfold yDk yKj yQz yQe yLo
 dsimp only
 rw[ht]
 cases decide (k<1) with
 | true=>rfl
 | false=>
   rw[cond_false,cond_false,xGU hL hs,yAC]
   cases s.findIdx? (fun o=>o.1==k) with
   | none=>rfl
   | some i=>
     dsimp only
     rw[yKq,show max (i:Int) 0=i by omega,show decide (0<=(i:Int))=true from decide_eq_true (by omega)];rfl
theorem xIk(hL:200000<L)(hs:s.length<=1000){t:yAM}(ht:t.Slots=s.map slV)(k:Int):yOG L t k=some ((yLo s k).1,(yLo s k).2,()):=by
 unfold yOG yQW
 refine(yPO s (fun o=>decide (1<=k)&&o.1==k) (fun i=>(k,t,(i:Int),())) () (fun i=>((i:Int),true,())) (fun i hi kn ka kb=>?_) (fun kn ka kb=>?_) L 0 (Nat.zero_le _) (by omega) (fun j hj h=>absurd h (Nat.not_lt_zero _)) _ _).trans ?_
 ·show(bif decide ((i:Int)<(t.Slots.length:Int)) then _ else _)=_
  dsimp only
  rw[ht,List.length_map,yAb (decide_eq_true (by omega)),xIJ xDH hi]
  simp only[Int.toNat_natCast,xMe hi]
  rw[yAa (by omega) (by omega)]
  cases decide (1<=k) <;> rfl
 ·show(bif decide ((s.length:Int)<(t.Slots.length:Int)) then _ else _)=_
  rw[ht,List.length_map,yAJ (decide_eq_false (by omega))]
 ·unfold yLo
  by_cases hk:k<1
  ·rw[decide_eq_true hk,cond_true]
   have:s.findIdx? (fun o=>decide (1<=k)&&o.1==k)=none:=List.findIdx?_eq_none_iff.2 fun x _=>by rw[decide_eq_false (show ¬1<=k by omega)];rfl
   rw[this]
  ·rw[decide_eq_false hk,cond_false]
   have:(fun o:Int×Int=>decide (1<=k)&&o.1==k)=fun o=>o.1==k:=by
    funext o;rw[decide_eq_true (show 1<=k by omega)];rfl
   rw[this]
   cases s.findIdx? (fun o=>o.1==k) <;> rfl
theorem xKv(h:i<s.length):(s.map slV).set (0+i) (((s.map slV).getD (0+i) []).take 0++([V.int .i64 0,V.int .i64 0]++((s.map slV).getD (0+i) []).drop 2))=(s.set i (0,0)).map slV:=by
 rw[Nat.zero_add,yDo (yIe h),List.map_set];rfl
def lvH(s:List (Int×Int))(H Q:List yAR)(i:Nat):List yAR×List yAR:=grH (H.filter fun h=>h.Key !=(s.getD i (0,0)).1) (Q.filter fun h=>h.Key !=(s.getD i (0,0)).1)
theorem xGt(H Q:List yAR)(i:Nat):(lvH s H Q i).1.length+(lvH s H Q i).2.length<=H.length+Q.length:=by
 unfold lvH
 rw[xGd]
 exact Nat.add_le_add (List.length_filter_le _ _) (List.length_filter_le _ _)
theorem xJN(h:i<s.length):s.getD i (0,0)=s[i]:=by rw[List.getD_eq_getElem?_getD,List.getElem?_eq_getElem h];rfl
theorem xIA(hL:200000<L)(hs:s.length<=1000)(hl:H.length+Q.length<=10000)(hi:i<s.length)(a b c d e f g h:Int):
  yFy L (s.map slV,H.map hV,Q.map hV,a,b,c,d,e,f,g,h,()) (i:Int)=some ((),((s.set i (0,0)).map slV,(lvH s H Q i).1.map hV,(lvH s H Q i).2.map hV,a,b,c,d,e,f,g,h,())):=by
 unfold yFy yJh
 dsimp only
 have hf1:=List.length_filter_le (fun h:yAR=>h.Key !=s[i].1) H
 have hf2:=List.length_filter_le (fun h:yAR=>h.Key !=s[i].1) Q
 simp only[Int.toNat_natCast]
 rw[yW8 (by omega) (by rw[List.length_map];omega),xFq (by rw[List.length_map];omega) (by rw[yJb (yIe (show 0+i<s.length by omega))];rfl),yPx rfl,yCf (xG1 yC5)]
 rw[show aI (s.map slV) (0+i) 0=s[i].1 by rw[Nat.zero_add];exact xMe hi,xAH hL (by omega),yAC,yPx rfl,yCf (xG1 yC5),xAH hL (by omega),yAC,
  yW8 (by omega) (by rw[List.length_map];omega),yMU (by rw[List.length_map];omega),yMT (Nat.zero_le _),yMT (by rw[Nat.zero_add,yDo (yIe hi)];exact Nat.le_refl 2),xKv hi,yPw (by rw[List.length_map,List.length_set]),yPv yC5 (by rw[List.length_map]),yPv yC5 (by rw[List.length_map]),
  xDt hL (by rw[List.length_set];exact hs) (by omega),yAC]
 dsimp only
 rw[yPw (by rw[List.length_map]),yPv yC5 (by rw[List.length_map]),yPv yC5 (by rw[List.length_map])]
 unfold lvH
 rw[xJN hi]
end
section
variable {L:Nat} {s:List (Int×Int)} {H Q l:List yAR} {i:Nat}
def xMf(l:List yAR)(k:Int)(sp:yAN):Bool:=l.any fun o=>o.Key==k&&ovB o.Span sp
theorem sov(a b:yAN):yGu L a b=some (ovB a b):=by
 unfold yGu yNk
 rw[xDz,yAC]
theorem xIo{p:yAR->Bool}{l:List yAR}:(match l.findIdx? p with | none=>false | some _=>true)=l.any p:=by
 cases h:l.findIdx? p with
 | none=>exact(List.any_eq_false.2 fun x hx=>by simpa using List.findIdx?_eq_none_iff.1 h x hx).symm
 | some i=>
   obtain⟨h1,h2,-⟩:=List.findIdx?_eq_some_iff_getElem.1 h
   exact(List.any_eq_true.2 ⟨_,List.getElem_mem h1,h2⟩).symm
theorem xIE(hL:200000<L)(hl:l.length<=10000)(k:Int)(sp:yAN):yAo L (l.map hV) ((((k,()),sp,()),()),())=some (match l.findIdx? (fun o=>o.Key==k&&ovB o.Span sp) with | none=> -1 | some i=>(i:Int)):=by
 unfold yAo yBo
 rw[List.length_map]
 refine(yPO l (fun o=>o.Key==k&&ovB o.Span sp) (fun i=>(l.map hV,((((k,()),sp,()),()),()),(l.length:Int),(i:Int),())) () (fun i=>((i:Int),())) (fun i hi kn ka kb=>?_) (fun kn ka kb=>?_) L 0 (Nat.zero_le _) (by omega) (fun j hj h=>absurd h (Nat.not_lt_zero _)) _ _).trans ?_
 ·show(bif decide ((i:Int)<(l.length:Int)) then _ else _)=_
  dsimp only
  rw[yAb (decide_eq_true (by omega)),xIJ xAW hi]
  simp only[Int.toNat_natCast,hK hi,hLo hi,hHi hi,hMo hi]
  rw[sov,yAC,yAa (by omega) (by omega)]
  show(bif !(l[i].Key==k) then _ else _)=_
  rw[xB4]
  cases l[i].Key==k with
  | false=>rfl
  | true=>
    show(bif !!ovB l[i].Span sp then _ else _)=_
    rw[Bool.not_not]
    rfl
 ·show(bif decide ((l.length:Int)<(l.length:Int)) then _ else _)=_
  rw[yAJ (decide_eq_false (by omega))]
 ·cases l.findIdx? (fun o=>o.Key==k&&ovB o.Span sp) <;> rfl
theorem xMM(hL:200000<L)(hl:l.length<=10000)(k:Int)(sp:yAN):yLR L (l.map hV) k sp=some (xMf l k sp):=by
 unfold yLR yNl yJf yKh yA5 yBZ
 rw[xIE hL hl,yAC,yAC,yAC]
 unfold xMf
 rw[←xIo]
 cases l.findIdx? (fun o=>o.Key==k&&ovB o.Span sp) with
 | none=>rfl
 | some i=>rw[show decide (0<=(i:Int))=true from decide_eq_true (by omega)];rfl
def xMb(g:yAQ)(h:yAR):Bool:=decide (1<=h.Key)&&(decide (0<=h.Span.Lo)&&(decide (h.Span.Lo<=h.Span.Hi)&&decide (h.Span.Hi<g.Blocks))&&(h.Mode==1 || h.Mode==2))
theorem xIr(g:yAQ)(h:yAR):yQd L g h=some (xMb g h):=by
 unfold yQd ySH yVC yTt xMb
 rw[show decide (0<h.Key)=decide (1<=h.Key) by rw[decide_eq_decide];omega,show(!decide (h.Span.Hi<h.Span.Lo))=decide (h.Span.Lo<=h.Span.Hi) by rw[←decide_not,decide_eq_decide];omega]
 cases decide (1<=h.Key) <;> cases decide (0<=h.Span.Lo) <;> cases decide (h.Span.Lo<=h.Span.Hi) <;> cases decide (h.Span.Hi<g.Blocks) <;> cases h.Mode==1 <;> rfl
abbrev hC(c:yAG):yAR:=⟨c.By,c.Span,c.Mode⟩
def xMk(x:yAQ)(s:List (Int×Int))(H Q:List yAR)(c:yAG):Bool:=(yLo s c.By).2&&(xMb x (hC c)&&(!(xMf (H++Q) c.By c.Span)&&decide (((H++Q).filter fun h=>h.Key==c.By).length<64)))
def xHq(x:yAQ)(s:List (Int×Int))(H Q:List yAR)(c:yAG):List yAR×List yAR:=bif xMk x s H Q c then grH H (Q++ [hC c]) else(H,Q)
theorem xEy{p:yAR->Bool}(l:List yAR)(n:Nat):l.foldl (fun n h=>bif p h then n+1 else n) n=n+(l.filter p).length:=by
 induction l generalizing n with
 | nil=>simp
 | cons h l ih=>
   rw[List.foldl_cons,ih]
   cases hp:p h with
   | true=>rw[cond_true,List.filter_cons_of_pos hp,List.length_cons];omega
   | false=>rw[cond_false,List.filter_cons_of_neg (by simp[hp])]
set_option maxHeartbeats 1000000 in
theorem xLO(hL:200000<L)(hs:s.length<=1000)(hl:H.length+Q.length<=9000)(x:yAQ)(c:yAG):
  yHq L (s.map slV,H.map hV,Q.map hV,x.Nodes,x.Slots,x.Blocks,x.Per,x.Journal,x.Log,x.Lease,x.Wait,()) c=some ((),(s.map slV,(xHq x s H Q c).1.map hV,(xHq x s H Q c).2.map hV,x.Nodes,x.Slots,x.Blocks,x.Per,x.Journal,x.Log,x.Lease,x.Wait,())):=by
 unfold yHq yLq
 dsimp only
 rw[xII (by rw[List.length_map];omega) (by omega),xFp yC5 (by rw[List.length_map];omega) (by omega),xFp yC5 (by rw[List.length_map];omega) (by omega),take_len rfl,take_len rfl,take_len rfl,xDd hL hs rfl,yAC]
 simp only[List.length_map]
 rw[yAa (by omega) (by omega),yAa (by omega) (by omega),yAJ (decide_eq_false (by omega)),yAJ (decide_eq_false (by omega)),yMU (by omega),yMU (by omega),yMT (by omega),yCf (xJr H),xLH (by omega) (by decide),yMT (by omega),yCf (xJr Q),yPx (by omega),xLH (by omega) (by decide),
  yPw rfl,yPv yC5 rfl,yPv yC5 rfl,←List.map_append,xFp yC5 (by rw[List.length_append];omega) (by rw[List.length_append];omega),xFp yC5 (by rw[List.length_append];omega) (by rw[List.length_append];omega),take_len (by rw[List.length_map,List.length_append];omega)]
 have R:=yU2 (α:=Unit×((List (List V))×(List (List V))×(List (List V))×Int×Int×Int×Int×Int×Int×Int×Int×Unit)) (F:=yFL) (H++Q) (fun(n:Nat) h=>bif h.Key==c.By then n+1 else n) (fun i n=>n<=i)
  (fun i n=>((s.map slV,H.map hV,Q.map hV,x.Nodes,x.Slots,x.Blocks,x.Per,x.Journal,x.Log,x.Lease,x.Wait,()),c,(yLo s c.By).2,hC c,(H++Q).map hV,(n:Int),(H++Q).map hV,(((0+H.length)+Q.length:Nat):Int),(i:Int),()))
  (fun n=>((s.map slV,H.map hV,Q.map hV,x.Nodes,x.Slots,x.Blocks,x.Per,x.Journal,x.Log,x.Lease,x.Wait,()),c,(yLo s c.By).2,hC c,(H++Q).map hV,(n:Int),()))
  (fun i hi n hn=>⟨by cases (H++Q)[i].Key==c.By <;> simp only[cond_true,cond_false] <;> omega,fun kn ka=>by
    have hi2:=hi
    rw[List.length_append] at hi2
    show(bif decide ((i:Int)<(((0+H.length)+Q.length:Nat):Int)) then _ else _)=_
    dsimp only
    rw[yAb (decide_eq_true (by omega)),xIJ xAW hi]
    simp only[Int.toNat_natCast,hK hi]
    cases (H++Q)[i].Key==c.By with
    | false=>
      dsimp only[cond_false]
      rw[yPw (by rw[List.length_map]),yPv yC5 (by rw[List.length_map]),yPv yC5 (by rw[List.length_map]),yAa (by omega) (by omega)]
      rfl
    | true=>
      dsimp only[cond_true]
      rw[yPw (by rw[List.length_map]),yPv yC5 (by rw[List.length_map]),yPv yC5 (by rw[List.length_map]),yAa (by omega) (by omega),yAa (by omega) (by omega)]
      rfl⟩)
  (fun n hn kn ka=>by
    show(bif decide (((H++Q).length:Int)<(((0+H.length)+Q.length:Nat):Int)) then _ else _)=_
    dsimp only
    rw[List.length_append,yAJ (decide_eq_false (by omega)),yPw (by rw[List.length_map]),yPv yC5 (by rw[List.length_map]),yPv yC5 (by rw[List.length_map])])
  L 0 (Nat.zero_le _) (by rw[List.length_append];omega) 0 (Nat.le_refl _)
 refine(R.2 _).trans ?_
 rw[List.drop_zero,xEy,Nat.zero_add]
 dsimp only
 rw[show(⟨x.Nodes,x.Slots,x.Blocks,x.Per,x.Journal,x.Log,x.Lease,x.Wait⟩:yAQ)=x from rfl,xIr,yAC,xMM hL (by rw[List.length_append];omega),yAC]
 have no:gW (s.map slV) (s.map slV).length (gW (H.map hV) (H.map hV).length (gW (Q.map hV) (Q.map hV).length (some ((),(s.map slV,H.map hV,Q.map hV,x.Nodes,x.Slots,x.Blocks,x.Per,x.Journal,x.Log,x.Lease,x.Wait,())))))=some ((),(s.map slV,H.map hV,Q.map hV,x.Nodes,x.Slots,x.Blocks,x.Per,x.Journal,x.Log,x.Lease,x.Wait,())):=by
  rw[yPw (by rw[List.length_map]),yPv yC5 (by rw[List.length_map]),yPv yC5 (by rw[List.length_map])]
 rw[no]
 unfold xHq xMk
 cases (yLo s c.By).2 with
 | false=>rfl
 | true=>
   cases xMb x (hC c) with
   | false=>rfl
   | true=>
     cases xMf (H++Q) c.By c.Span with
     | true=>rfl
     | false=>
       by_cases h64:((H++Q).filter fun h=>h.Key==c.By).length<64
       ·have e1:decide ((((H++Q).filter fun h=>h.Key==c.By).length:Int)<64)=true:=decide_eq_true (by omega)
        rw[e1,decide_eq_true h64]
        dsimp only[Bool.not_false,cond_true,Bool.true_and]
        rw[show Q.map hV++ [[V.int .i64 c.By,V.int .i64 c.Span.Lo,V.int .i64 c.Span.Hi,V.int .i8 c.Mode]]=(Q++ [hC c]).map hV from xGg Q (hC c)]
        rw[yPx (by omega),xLH (by rw[List.length_map];omega) (by decide),yPw (by rw[List.length_map]),yPv yC5 (by rw[List.length_map]),yPv yC5 (by simp),xDt hL hs (by simp only[List.length_append,List.length_cons,List.length_nil];omega),yAC]
        dsimp only
        rw[yPw (by rw[List.length_map]),yPv yC5 (by rw[List.length_map]),yPv yC5 (by rw[List.length_map])]
        rfl
       ·have e1:decide ((((H++Q).filter fun h=>h.Key==c.By).length:Int)<64)=false:=decide_eq_false (by omega)
        rw[e1,decide_eq_false h64]
        rfl
end
section
variable {L:Nat} {s:List (Int×Int)} {H Q l:List yAR} {i:Nat}
theorem xGT(hL:200000<L)(hs:s.length<=1000):yA4 L (s.map slV) ()=some (match s.findIdx? (fun o=>o.1==0) with | none=> -1 | some i=>(i:Int)):=by
 unfold yA4 yB6
 rw[List.length_map]
 refine(yPO s (fun o=>o.1==0) (fun i=>(s.map slV,(),(s.length:Int),(i:Int),())) () (fun i=>((i:Int),())) (fun i hi kn ka kb=>?_) (fun kn ka kb=>?_) L 0 (Nat.zero_le _) (by omega) (fun j hj h=>absurd h (Nat.not_lt_zero _)) _ _).trans ?_
 ·show(bif decide ((i:Int)<(s.length:Int)) then _ else _)=_
  dsimp only
  rw[yAb (decide_eq_true (by omega)),xIJ xDH hi]
  show(bif aI (s.map slV) (i:Int).toNat 0==0 then _ else _)=_
  simp only[Int.toNat_natCast,xMe hi]
  rw[yAa (by omega) (by omega)]
  rfl
 ·show(bif decide ((s.length:Int)<(s.length:Int)) then _ else _)=_
  rw[yAJ (decide_eq_false (by omega))]
 ·cases s.findIdx? (fun o=>o.1==0) <;> rfl
def xMc(s:List (Int×Int))(k:Int):List (Int×Int):=bif(yLo s k).2 then s else match s.findIdx? (fun o=>o.1==0) with | none=>s | some i=>s.set i (k,(s.getD i (0,0)).2)
theorem xIS(k:Int):(xMc s k).length=s.length:=by
 unfold xMc
 cases (yLo s k).2 with
 | true=>rfl
 | false=>cases s.findIdx? (fun o=>o.1==0) <;> simp
structure Tb where
 s:List (Int×Int)
 H:List yAR
 Q:List yAR
def Tb.t(a:Tb):yAM:=tbl a.s a.H a.Q
def Tb.ap(x:yAQ)(a:Tb)(c:yAG):Tb:=
 bif c.Kind==0 then⟨xMc a.s c.By,a.H,a.Q⟩
 else bif c.Kind==1 then bif(yLo a.s c.By).2 then⟨a.s.set (yLo a.s c.By).1.toNat (0,0),(lvH a.s a.H a.Q (yLo a.s c.By).1.toNat).1,(lvH a.s a.H a.Q (yLo a.s c.By).1.toNat).2⟩ else a
 else⟨a.s,(xHq x a.s a.H a.Q c).1,(xHq x a.s a.H a.Q c).2⟩
theorem Tb.ap_s(x:yAQ)(a:Tb)(c:yAG):(a.ap x c).s.length=a.s.length:=by
 unfold Tb.ap
 cases c.Kind==0 with
 | true=>exact xIS _
 | false=>
   cases c.Kind==1 with
   | true=>cases (yLo a.s c.By).2 <;> simp
   | false=>rfl
theorem Tb.ap_n(x:yAQ)(a:Tb)(c:yAG):(a.ap x c).H.length+(a.ap x c).Q.length<=a.H.length+a.Q.length+1:=by
 unfold Tb.ap
 cases c.Kind==0 with
 | true=>exact Nat.le_succ _
 | false=>
   cases c.Kind==1 with
   | true=>
     cases (yLo a.s c.By).2 with
     | true=>
       have:=xGt (s:=a.s) a.H a.Q (yLo a.s c.By).1.toNat
       simp only[cond_false,cond_true];omega
     | false=>exact Nat.le_succ _
   | false=>
     show(xHq x a.s a.H a.Q c).1.length+(xHq x a.s a.H a.Q c).2.length<=_
     unfold xHq
     cases xMk x a.s a.H a.Q c with
     | true=>
       rw[cond_true,xGd,List.length_append]
       simp only[List.length_cons,List.length_nil];omega
     | false=>exact Nat.le_succ _
theorem xJ4(hs:s.length<=1000):yHT L (s.map slV)=some (s.map slV):=xLZ hs
theorem xGC(hl:l.length<=10000):yHS L (l.map hV)=some (l.map hV):=by
 show clR 4 (l.map hV)=_
 unfold clR
 rw[xJr,xG1 yC5,Nat.ble_eq_true_of_le (by rw[List.length_map];omega)];rfl
theorem xEN{s:List (Int×Int)}{H Q:List yAR}{n:Nat}(hs:s.length<=1000)(hl:H.length+Q.length<=10000)(hn:n=s.length):
  gF (s.map slV) (0+n) (gF (H.map hV) (0+(H.map hV).length) (gF (Q.map hV) (0+(Q.map hV).length) (some (⟨(s.map slV).take n,(H.map hV).take (H.map hV).length,(Q.map hV).take (Q.map hV).length⟩:yAM))))=some (tbl s H Q):=by
 rw[xII (by omega) (by omega),xFp yC5 (by rw[List.length_map];omega) (by omega),xFp yC5 (by rw[List.length_map];omega) (by omega),take_len (by rw[List.length_map];exact hn),take_len rfl,take_len rfl]
 rfl
set_option maxHeartbeats 1000000 in
theorem xH1(hL:200000<L)(x:yAQ)(a:Tb)(c:yAG)(hs:a.s.length<=1000)(hl:a.H.length+a.Q.length<=9000)(hk:c.Kind=0\/c.Kind=1\/c.Kind=2):yCo L x a.t c=some (a.ap x c).t:=by
 obtain⟨s,H,Q⟩:=a
 dsimp only at hs hl
 unfold yCo yPQ Tb.t tbl Tb.ap
 dsimp only
 have ht:∀(n:Nat),n=s.length->gF (s.map slV) (0+n) (gF (H.map hV) (0+(H.map hV).length) (gF (Q.map hV) (0+(Q.map hV).length) (some (⟨(s.map slV).take n,(H.map hV).take (H.map hV).length,(Q.map hV).take (Q.map hV).length⟩:yAM))))=some (tbl s H Q):=fun n hn=>xEN hs (by omega) hn
 rw[xJ4 hs,xGC (l:=H) (by omega),xGC (l:=Q) (by omega),yAC,yAC,yAC]
 have pre:∀(y:Option yAM),gF (s.map slV) (0+(s.map slV).length) (gF (H.map hV) (0+(H.map hV).length) (gF (Q.map hV) (0+(Q.map hV).length) y))=y:=fun y=>by
  rw[xII (by rw[List.length_map];omega) (by omega),xFp yC5 (by rw[List.length_map];omega) (by omega),xFp yC5 (by rw[List.length_map];omega) (by omega)]
 have hslot:=xDd (L:=L) hL hs (t:=⟨(s.map slV).take (s.map slV).length,(H.map hV).take (H.map hV).length,(Q.map hV).take (Q.map hV).length⟩) (x:=x) (take_len rfl) c.By
 rcases hk with hk | hk | hk
 ·rw[hk,yAJ (by rfl),yAJ (by rfl),yAb (by rfl),pre,hslot,yAC,xII (by rw[List.length_map];omega) (by omega),take_len rfl,xGT hL hs,yAC]
  dsimp only
  rw[xB4,yAb (show((0:Int)==0)=true from rfl)]
  unfold xMc
  cases (yLo s c.By).2 with
  | true=>
    rw[cond_true,cond_true]
    have:=ht (s.map slV).length (List.length_map _)
    rw[take_len rfl] at this
    exact this
  | false=>
    rw[cond_false,cond_false]
    cases hf:s.findIdx? (fun o=>o.1==0) with
    | none=>
      dsimp only
      rw[yAJ (by rfl)]
      have:=ht (s.map slV).length (List.length_map _)
      rw[take_len rfl] at this
      exact this
    | some i=>
      have hi:=(List.findIdx?_eq_some_iff_getElem.1 hf).1
      dsimp only
      simp only[Int.toNat_natCast]
      rw[yAb (decide_eq_true (by omega)),yW8 (by omega) (by rw[List.length_map];omega),yMU (by rw[List.length_map];omega),yMT (Nat.zero_le _),yMT (by rw[Nat.zero_add,yDo (yIe hi)];exact Nat.le_succ 1),xML hi,xEN (by rw[List.length_set];exact hs) (by omega) (by rw[List.length_map,List.length_set]),xJN hi]
      rfl
 ·rw[hk,yAJ (by rfl),yAJ (by rfl),yAJ (by rfl),yAb (by rfl),pre,hslot,yAC]
  dsimp only
  rw[yAJ (show((1:Int)==0)=false from rfl),yAb (show((1:Int)==1)=true from rfl)]
  cases hm:(yLo s c.By).2 with
  | false=>
    rw[cond_false,cond_false]
    exact ht (s.map slV).length (List.length_map _)
  | true=>
    obtain⟨i,hi,he⟩:=xIs hm
    rw[cond_true,cond_true,he,yPw (by rw[List.length_map]),yPv yC5 (by rw[List.length_map]),yPv yC5 (by rw[List.length_map]),xIA hL hs (by omega) hi,yAC]
    dsimp only
    simp only[Int.toNat_natCast]
    have:=xGt (s:=s) H Q i
    exact xEN (by rw[List.length_set];exact hs) (by omega) (List.length_map _)
 ·rw[hk,yAJ (by rfl),yAJ (by rfl),yAJ (by rfl),yAJ (by rfl),yAb (by rfl)]
  rw[yAJ (show((2:Int)==0)=false from rfl),yAJ (show((2:Int)==1)=false from rfl),yPw (by rw[List.length_map]),yPv yC5 (by rw[List.length_map]),yPv yC5 (by rw[List.length_map]),xLO hL hs (by omega),yAC]
  dsimp only
  have:=Tb.ap_n x ⟨s,H,Q⟩ c
  unfold Tb.ap at this
  rw[hk] at this
  dsimp only[cond_false] at this
  exact xEN hs (by
   have h2:(xHq x s H Q c).1.length+(xHq x s H Q c).2.length<=H.length+Q.length+1:=this
   omega) (List.length_map _)
end
end Go.Proofs.YtakljpcmbpaeaaaGreat

namespace Go.Proofs.YtakljpcmbpaeaaaGreat
set_option maxHeartbeats 4000000
open Go.RowKit
theorem le1{n:Nat}(h:n<256):leBytes 1 n= [UInt8.ofNat n]:=by
 show [UInt8.ofNat (n%256)]=_
 rw[Nat.mod_eq_of_lt h]
theorem u8n{n:Nat}(h:n<256):(UInt8.ofNat n).toNat=n:=by simp[Nat.mod_eq_of_lt h]
theorem wu8{n:Int}(h0:0<=n)(h:n<256):IntKind.u8.wrap n=n:=by
 unfold IntKind.wrap
 simp[IntKind.bits,IntKind.signed]
 omega
theorem xHh{k:Int}(h0:0<=k)(h:k<64): [[V.int .u8 (IntKind.u8.wrap k)]]=(leBytes 1 k.toNat).map byV:=by
 rw[le1 (by omega),wu8 h0 (by omega)]
 show _= [[V.int .u8 ((UInt8.ofNat k.toNat).toNat:Int)]]
 rw[u8n (by omega),Int.toNat_of_nonneg h0]
theorem yX8{L:Nat}(hL:10<L){c:yAG}(h:yUy c)(h2:c.Kind=2):yCW L c=some (mkS (yFM c),0,()):=by
 have hm:=xAy (L:=L) c
 rw[decide_eq_true h] at hm
 obtain⟨⟨g1,g2⟩,g3,g4,h5⟩:=h
 have q:0<=c.Span.Lo/\c.Span.Lo<=c.Span.Hi/\c.Span.Hi<64/\(c.Mode=1\/c.Mode=2):=by omega
 have p1:=yV7 hL (w:=6) (wi:=6) (n:=c.By) (b:=leBytes 1 c.Kind.toNat) rfl (by omega) (by omega) (by omega) (by rw[yVt];omega) (by rw[yAE];omega)
 have p2:=yV7 hL (w:=4) (wi:=4) (n:=c.Serial) (b:=leBytes 1 c.Kind.toNat++leBytes 6 c.By.toNat) rfl (by omega) (by omega) (by omega) (by rw[xGy];omega) (by simp only[List.length_append,yAE];omega)
 have z2:(c.Kind==2)=true:=by simpa using h2
 have fin:∀b:Bs,(bytesOf (b.map byV)).isSome=true:=fun b=>by rw[yQk];rfl
 have f1:∀{α:Type} (x:Option α),gF ((leBytes 1 c.Kind.toNat++leBytes 6 c.By.toNat).map byV) (((leBytes 1 c.Kind.toNat++leBytes 6 c.By.toNat).map byV).length) x=x:=fun x=>xKI (by simp only[List.length_append,yAE];omega)
 have tl: [[V.int .u8 (IntKind.u8.wrap c.Span.Lo)],[V.int .u8 (IntKind.u8.wrap c.Span.Hi)],[V.int .u8 (IntKind.u8.wrap c.Mode)]]=(yNm c).map byV:=by
  unfold yNm
  rw[if_pos h2,List.append_nil,List.map_append,List.map_append,←xHh (by omega) (by omega),←xHh (by omega) (by omega),←xHh (by omega) (by omega)]
  rfl
 have ct:(yNm c).length=3:=by unfold yNm;rw[if_pos h2];simp[yAE]
 have hl3:((leBytes 1 c.Kind.toNat++leBytes 6 c.By.toNat++leBytes 4 c.Serial.toNat).map byV).length+3=((leBytes 1 c.Kind.toNat++leBytes 6 c.By.toNat++leBytes 4 c.Serial.toNat++yNm c).map byV).length:=by
  simp only[List.length_map,List.length_append,ct]
 have hM:∀{α:Type} (x:Option α),gM (((leBytes 1 c.Kind.toNat++leBytes 6 c.By.toNat++leBytes 4 c.Serial.toNat).map byV).length+3) 1 x=x:=fun x=>xCK (by simp only[List.length_map,List.length_append,yAE];omega) (by simp only[List.length_map,List.length_append,yAE];omega)
 unfold yCW yMC
 simp only[Nat.zero_add,List.take_length,hm,yAC,Bool.not_true,cond_false,xDv (show 0<=c.Kind by omega) (show c.Kind<=5 by omega),p1,f1,p2,z2,cond_true,tl,←List.map_append]
 rw[yCf (Nat.beq_refl _),hM,hl3,yCf (ySO _),List.take_length,yCf (fin _),yLK]
 unfold yFM
 rw[List.append_assoc,List.append_assoc]
theorem xHD{L:Nat}(hL:10<L){c:yAG}(h:yUy c)(hk2:c.Kind=2):yDG L (mkS (yFM c))=some (c,0,()):=by
 have hb:=yX8 hL h hk2
 have hlen:=yM0 c
 have ct:(yNm c).length=3:=by unfold yNm;rw[if_pos hk2];simp[yAE]
 obtain⟨⟨h1,h2⟩,h3,h4,h5⟩:=h
 have q:0<=c.Span.Lo/\c.Span.Lo<=c.Span.Hi/\c.Span.Hi<64/\(c.Mode=1\/c.Mode=2)/\c.Dead=0/\c.Was=0:=by omega
 have hT:yNm c= [UInt8.ofNat c.Span.Lo.toNat,UInt8.ofNat c.Span.Hi.toNat,UInt8.ofNat c.Mode.toNat]:=by
  unfold yNm
  rw[if_pos hk2,le1 (by omega),le1 (by omega),le1 (by omega)];rfl
 have g1:yEK L (mkS (yFM c)) 1 6=some (c.By,0,()):=by
  rw[yY5 hL (by omega)]
  unfold yFM
  rw[yU4 (leBytes 1 c.Kind.toNat) (leBytes 4 c.Serial.toNat++yNm c) (w:=6) (n:=c.By) (a:=1) (wi:=6) (by rw[yAE];rfl) rfl (by omega) (by omega) (by omega) (by rw[yVt];omega)]
 have g2:yEK L (mkS (yFM c)) 7 4=some (c.Serial,0,()):=by
  rw[yY5 hL (by omega)]
  unfold yFM
  rw[←List.append_assoc,yU4 (leBytes 1 c.Kind.toNat++leBytes 6 c.By.toNat) (yNm c) (w:=4) (n:=c.Serial) (a:=7) (wi:=4) (by simp[yAE]) rfl (by omega) (by omega) (by omega) (by rw[xGy];omega)]
 have hh:((((mkS (yFM c))[0]?).getD 0).toNat:Int)=c.Kind:=xAX (by omega) (by omega)
 have he:(mkS (yFM c)).extract 11 (mkS (yFM c)).size=mkS (yNm c):=by
  rw[yOa,yXD]
  refine congrArg mkS ?_
  unfold yFM
  rw[←List.append_assoc,←List.append_assoc,List.drop_left' (by simp only[List.length_append,yAE])]
 have s0:((mkS (yFM c)).size:Int)=14:=by rw[yUT,hlen,ct];rfl
 have b0:((((mkS (yNm c))[0]?).getD 0).toNat:Int)=c.Span.Lo:=by
  rw[hT];show((UInt8.ofNat c.Span.Lo.toNat).toNat:Int)=_;rw[u8n (by omega)];omega
 have b1:((((mkS (yNm c))[1]?).getD 0).toNat:Int)=c.Span.Hi:=by
  rw[hT];show((UInt8.ofNat c.Span.Hi.toNat).toNat:Int)=_;rw[u8n (by omega)];omega
 have b2:((((mkS (yNm c))[2]?).getD 0).toNat:Int)=c.Mode:=by
  rw[hT];show((UInt8.ofNat c.Mode.toNat).toNat:Int)=_;rw[u8n (by omega)];omega
 have st:((mkS (yNm c)).size:Int)=3:=by rw[yUT,ct];rfl
 have mo:IntKind.i8.wrap (IntKind.u8.wrap ((BitVec.ofInt IntKind.u8.bits c.Mode &&& BitVec.ofInt IntKind.u8.bits 127).toNat:Int))=c.Mode:=by
  rcases q.2.2.2.1 with e | e <;> rw[e] <;> rfl
 have z0:((0:Int) !=0)=false:=rfl
 obtain⟨kd,by_,ser,dd,ws,⟨lo,hi⟩,md⟩:=c
 dsimp only at*
 obtain⟨q1,q2,q3,q4,rfl,rfl⟩:=q
 subst hk2
 have w1:IntKind.i64.wrap lo=lo:=wrap64 (by omega) (by omega)
 have w2:IntKind.i64.wrap hi=hi:=wrap64 (by omega) (by omega)
 unfold yDG yNA
 simp only[gd,gI,gB,gL,gF,gW,gA,gM,w64,s0,st,show decide ((14:Int)<11)=false from rfl,show decide ((0:Int)<14)=true from rfl,show decide ((11:Int)<=14)=true from rfl,show decide ((3:Int)<2)=false from rfl,show decide ((0:Int)<3)=true from rfl,show decide ((1:Int)<3)=true from rfl,show decide ((2:Int)<3)=true from rfl,show((3:Int)==3)=true from rfl,
  cond_false,cond_true,g1,g2,yAC,z0,hh,show IntKind.i8.wrap 2=2 from rfl,show((2:Int)==2)=true from rfl,show decide (127<(2:Int))=false from rfl,he,b0,b1,b2,w1,w2,mo,hb]
 rw[beq_self_eq_true]
 rfl
theorem xFJ{L:Nat}(hL:10<L){c:yAG}(h:yUy c)(hk:c.Kind=0\/c.Kind=1\/c.Kind=2):yCW L c=some (mkS (yFM c),0,()):=by
 by_cases h2:c.Kind=2
 ·exact yX8 hL h h2
 ·exact yX9 hL h h2 (by omega)
theorem ySq{L:Nat}(hL:10<L){c:yAG}(h:yUy c)(hk:c.Kind=0\/c.Kind=1\/c.Kind=2):yDG L (mkS (yFM c))=some (c,0,()):=by
 by_cases h2:c.Kind=2
 ·exact xHD hL h h2
 ·exact xFK hL h (by omega)
end Go.Proofs.YtakljpcmbpaeaaaGreat

namespace Go.Proofs.YtakljpcmbpaeaaaGreat
open Go.RowKit
structure PSt where
 s:List ByteArray
 p:yAO
 t:yAM
 d:Int
structure PGeo (x:yAQ) (N:Nat) (s:List ByteArray):Prop where
 may:(yB3 x).may=true
 n:x.Nodes=N
 ok:SecOk s
 len:(s.length:Int)=(yB3 x).total
theorem PGeo.set{x:yAQ}{N:Nat}{s:List ByteArray}(h:PGeo x N s)(k:Nat){b:ByteArray}(hb:b.size<=512):PGeo x N (s.set k b):=⟨h.may,h.n,h.ok.set k hb,by rw[List.length_set];exact h.len⟩
theorem PGeo.bd{x:yAQ}{N:Nat}{s:List ByteArray}(h:PGeo x N s):1<=N/\N<=16/\8<=x.Log/\x.Log<=512/\1<=x.Slots/\x.Slots<=16/\8*x.Slots<=x.Log/\1+2*(N:Int)+x.Log<=s.length:=by
 have hok:=Geo.may_ok h.may
 have n1:1<=x.Nodes:=hok.n1
 have n2:x.Nodes<=16:=hok.n2
 have s1:1<=x.Slots:=hok.s1
 have s2:x.Slots<=x.Nodes:=hok.s2
 have l1:8*x.Slots<=x.Log:=hok.l1
 have l2:x.Log<=512:=hok.l2
 have hn:=h.n
 have ht:=yTG hok
 have hs:=hok.sj
 have e:(yB3 x).atD=1+2*x.Nodes+x.Log+(yB3 x).slots*(1+(yB3 x).journal):=rfl
 have hl:=h.len
 omega
section
variable {L:Nat} [yFr L] {x:yAQ} {N:Nat} {a:PSt} {own:yAG} {c:yAG} {t':yAM} {r:yBI}
end
section
variable {L N:Nat} [yFr L] {x:yAQ}
abbrev rF(L:Nat){α:Type}:=yFS (α:=α) (yBU L) (yFt L) (yBh L)
end
section
variable {L N:Nat} [yFr L] {x:yAQ} {s:List ByteArray} {t:yAM} {d:Int} {n:Nat} {R:Nat->yBI} {cmd:ByteArray} {own:yAG} {r:yBI}
end
theorem yS1(l:List yAG):yCR (l.map yAG.cs)=true:=List.all_eq_true.2 fun r hr=>by
 obtain⟨a,_,rfl⟩:=List.mem_map.1 hr
 rfl
theorem xCf{L:Nat}[yFr L]{c:yAG}(h:yDG L (mkS (yFM c))=some (c,0,())):yGB L (yTr c)=some (c,mkS (yFM c),true,0,()):=by
 have hp:=yZa c
 have hl:=yVA c
 have hO:yQv L 5 (yTr c)=some (mkS (yFM c),0,()):=by
  obtain⟨x,h1,h2,h3⟩:=xEI c
  rw[xME hL3]
  unfold yTr
  rw[h2,yXD,yY1 (by omega) h1]
 unfold yGB yNB
 rw[xJW hp,cond_false,hO,yAC]
 dsimp only
 rw[show((0:Int) !=0)=false from rfl,cond_false,h,yAC]
 rfl
theorem xFI{L:Nat}[yFr L]:yGB L noS=some (yAG.z,noS,false,0,()):=by
 unfold yGB yNB
 rw[beq_self_eq_true];rfl
set_option maxHeartbeats 1000000 in
theorem xMD{L:Nat}[yFr L]{l:List ByteArray}{cs:List yAG}(hL:200000<L)(hl:l.length<=1000)(hc:cs.length<=l.length)(hat:∀i (h:i<cs.length) (h':i<l.length),l[i]=yTr cs[i])(hend:∀h:cs.length<l.length,l[cs.length]=noS)
  (hR:∀c∈cs,yDG L (mkS (yFM c))=some (c,0,())):yQX L (l.map txV)=some (cs.map yAG.cs,0,()):=by
 have H:=yN4 (α:=List (List V)×Int×Unit) (F:=yFc (yGB L)) (fun s=>∃j:Nat,j<=cs.length/\s.1=l.map txV/\s.2.1=(cs.take j).map yAG.cs/\s.2.2.1=j) (fun s=>l.length-s.2.2.1.toNat) (fun a=>a.1=cs.map yAG.cs) (fun b=>b.1=cs.map yAG.cs/\b.2.1=0) (fun s hs=>by
  obtain⟨s1,s2,s3,s4⟩:=s
  obtain⟨j,hj,rfl,rfl,rfl⟩:=hs
  have hlt:(cs.take j).length=j:=by rw[List.length_take];omega
  by_cases h1:j<cs.length
  ·have hjl:j<l.length:=by omega
   refine .inl ⟨(l.map txV,(cs.take (j+1)).map yAG.cs,((j+1:Nat):Int),()),⟨j+1,h1,rfl,rfl,rfl⟩,by dsimp only;omega,fun kn ka kb=>?_⟩
   have hrd:=xCf (hR _ (List.getElem_mem h1))
   unfold yFc
   dsimp only
   rw[yAb (decide_eq_true (by rw[List.length_map];omega)),xCI (by omega) (by omega),Int.toNat_natCast,xEZ hjl,hat j h1 hjl,hrd,yAC,show((0:Int) !=0)=false from rfl,cond_false,Bool.not_true,cond_false]
   have e:(cs.take j).map yAG.cs++ [yAG.cs cs[j]]=(cs.take (j+1)).map yAG.cs:=by rw[List.take_succ_eq_append_getElem h1,List.map_append];rfl
   have e':(cs.take j).map yAG.cs++ [[V.int .i8 cs[j].Kind,V.int .i64 cs[j].By,V.int .i64 cs[j].Serial,V.int .i64 cs[j].Dead,V.int .i64 cs[j].Was,V.int .i64 cs[j].Span.Lo,V.int .i64 cs[j].Span.Hi,V.int .i8 cs[j].Mode]]=(cs.take (j+1)).map yAG.cs:=e
   have hl2:((cs.take (j+1)).map yAG.cs).length=j+1:=by rw[List.length_map,List.length_take];omega
   rw[e',List.length_map,hlt,Nat.zero_add,yCf (Nat.beq_refl _),xCK (by omega) (by omega),xNC hl2.symm (by omega) (yS1 _),yAa (by omega) (by omega)]
   rfl
  ·obtain rfl:j=cs.length:=by omega
   rw[List.take_length]
   by_cases h2:cs.length<l.length
   ·refine .inr (.inr ⟨(cs.map yAG.cs,0,()),⟨rfl,rfl⟩,fun kn ka kb=>?_⟩)
    unfold yFc
    dsimp only
    rw[yAb (decide_eq_true (by rw[List.length_map];omega)),xCI (by omega) (by omega),Int.toNat_natCast,xEZ h2,hend h2,xFI,yAC,show((0:Int) !=0)=false from rfl,cond_false,Bool.not_false,cond_true,List.length_map,Nat.zero_add,yRQ (by rw[List.length_map];omega) (by omega) (yS1 _)]
    rw[show(cs.map yAG.cs).take cs.length=cs.map yAG.cs from List.take_of_length_le (by rw[List.length_map];exact Nat.le_refl _)]
   ·refine .inr (.inl ⟨(cs.map yAG.cs,()),rfl,fun kn ka kb=>?_⟩)
    unfold yFc
    dsimp only
    rw[yAJ (decide_eq_false (by rw[List.length_map];omega)),xNC rfl (by rw[List.length_map];omega) (yS1 _)]) L (l.map txV,[],0,()) ⟨0,Nat.zero_le _,rfl,rfl,rfl⟩ (by dsimp only;omega)
 unfold yQX yR7
 rcases H with ⟨a,h1,h2⟩ | ⟨b,⟨h1,h3⟩,h2⟩
 ·rw[h2,h1,List.length_map,Nat.zero_add,yRQ (by rw[List.length_map];omega) (by omega) (yS1 _)]
  rw[show(cs.map yAG.cs).take cs.length=cs.map yAG.cs from List.take_of_length_le (by rw[List.length_map];exact Nat.le_refl _)]
 ·rw[h2,h1,h3]
theorem xKg{L N:Nat}[yFr L]{x:yAQ}{s:List ByteArray}{ca:List (List V)}{cs:List yAG}(hca:CE ca N)(hL:200000<L)(h:PGeo x N s)(hc:(cs.length:Int)<=x.Log)(hat:∀i (h:i<cs.length),s.getD (1+2*N+i) noS=yTr cs[i])(hend:(cs.length:Int)<x.Log->s.getD (1+2*N+cs.length) noS=noS)
  (hR:∀c∈cs,yDG L (mkS (yFM c))=some (c,0,())):yOH L x (dvN s ca N N)=some (cs.map yAG.cs,0,()):=by
 obtain⟨n1,n2,l8,l512,s1,s16,sl,hl⟩:=h.bd
 have hC:yCl L (dvN s ca N N)=some 0:=xCg h.ok hca n1 n2 yFr.h (Nat.le_refl _)
 have hT:yDg L x=some (yB3 x).total:=by rw[yV8];unfold Geo.totalS;rw[if_pos h.may]
 have hG:yOC L x 0=some (1+2*(N:Int)):=by
  rw[xKj]
  unfold Geo.logS
  rw[if_pos ⟨h.may,by omega,by show(0:Int)<x.Log;omega⟩]
  show some (1+2*x.Nodes+0)=_
  rw[h.n,Int.add_zero]
 have hS:(dvN s ca N N).S=s.map txV:=rfl
 obtain⟨lg,hlg⟩:=Int.eq_ofNat_of_zero_le (show 0<=x.Log by omega)
 unfold yOH yR6
 rw[yQD,h.may,yAC,Bool.not_true,cond_false,hC,yAC,show((0:Int) !=0)=false from rfl,cond_false,hT,yAC,hS,List.length_map,h.len,yAJ (show((yB3 x).total !=(yB3 x).total)=false from bne_self_eq_false _),hG,yAC,←h.len,hlg,yAa (by omega) (by omega),yCf (decide_eq_true (by omega)),yCf (decide_eq_true (by omega)),yCf (decide_eq_true (by omega)),yCf (decide_eq_true (by omega)),yCf (yR8 1 fun _=>rfl)]
 rw[show(1+2*(N:Int)).toNat=1+2*N by omega,show(1+2*(N:Int)+(lg:Int)).toNat-(1+2*N)=lg by omega,←List.map_drop,←List.map_take]
 have hlen:((s.drop (1+2*N)).take lg).length=lg:=by rw[List.length_take,List.length_drop];omega
 have hget:∀i (h:i<((s.drop (1+2*N)).take lg).length),((s.drop (1+2*N)).take lg)[i]=s.getD (1+2*N+i) noS:=fun i h=>by
  rw[hlen] at h
  rw[List.getElem_take,List.getElem_drop,List.getD_eq_getElem?_getD,List.getElem?_eq_getElem (by omega)];rfl
 rw[xMD hL (by omega) (by omega) (fun i h1 h2=>by rw[hget i h2];exact hat i h1) (fun h1=>by rw[hget _ h1];exact hend (by omega)) hR]
 rfl
end Go.Proofs.YtakljpcmbpaeaaaGreat
