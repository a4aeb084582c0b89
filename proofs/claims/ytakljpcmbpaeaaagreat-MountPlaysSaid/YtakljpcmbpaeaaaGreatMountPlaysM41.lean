/- The steps of a proposal: what paxos.Want, paxos.Take come to, place by place, are the protocol's steps. -/
import Derived.Test.YtakljpcmbpaeaaaGreatMountPlaysM40
set_option linter.unusedSimpArgs false
set_option linter.unusedVariables false
namespace Go.Proofs.YtakljpcmbpaeaaaGreat
open Go.RowKit
theorem yH4{a b:Int}:yEr true a b=max a b:=by
 unfold yEr
 simp only[if_true]
 split <;> omega
theorem xGG{L:Nat}(t:yAP):yJ6 L t=some (yUJ t):=by
 unfold yJ6 yQJ yUJ
 obtain⟨a,b,c,d,e,f,g⟩:=t
 cases f <;> cases g <;> rfl
theorem xGH{L:Nat}(t:yAP)(c:ByteArray):yJ7 L t c=some (if 0<t.Best then t.Val else c):=by
 unfold yJ7 yQK
 by_cases h:0<t.Best
 ·rw[if_pos h,decide_eq_true h];rfl
 ·rw[if_neg h,decide_eq_false h];rfl
theorem xDF{L:Nat}{x:yAJ}{node k:Int}(hL:200000<L)(h0:0<=node)(hN:node<x.Nodes)(k0:0<=k)(kN:k<=x.Nodes)(h16:x.Nodes<=16):yHv L x node k=some (others node k):=by
 unfold yHv yO1
 rw[yH4,show max k 0=k by omega]
 obtain⟨M,rfl⟩:∃M,L=M+2:=⟨L-2,by omega⟩
 unfold others
 have F:∀(m:Nat) (k:Int) (ka:yAJ×Unit->Option Int) (kb:Int×Unit->Option Int),yAf yD2 (m+1) (node,x,k,()) ka kb=(bif decide (k<x.Nodes) then bif k !=node then kb (k,()) else yAf yD2 m (node,x,IntKind.i64.wrap (k+1),()) ka kb else ka (x,())):=fun m k ka kb=>rfl
 rw[F]
 by_cases h1:k<x.Nodes
 ·rw[yAO (decide_eq_true h1)]
  by_cases h2:k=node
  ·rw[yAF (by simpa using h2),if_pos h2,wrap64 (by omega) (by omega),F]
   by_cases h3:k+1<x.Nodes
   ·rw[yAO (decide_eq_true h3),yAO (by simp;omega)]
   ·rw[yAF (decide_eq_false h3)]
    show some x.Nodes=_
    congr 1
    omega
  ·rw[yAO (by simpa using h2),if_neg h2]
 ·rw[yAF (decide_eq_false h1),if_neg (by omega)]
  show some x.Nodes=_
  congr 1
  omega
theorem xQU{node k N:Int}(hN:node<N)(k0:k<=N):others node k<=N:=by
 unfold others
 split <;> omega
theorem xOA{L:Nat}(hL:10<L)(T:yAP)(m:Int):yHw L ⟨T⟩ [[V.int .i64 m]]=some ((),⟨⟨T.Inst,T.Mbal,T.Best,T.Val,yEr true T.Seen m,T.Ahead,T.Lost⟩⟩):=by
 obtain⟨k,rfl⟩:∃k,L=k+2:=⟨L-2,by omega⟩
 rfl
section
variable {L:Nat} {x:yAJ} {p:yAH} {t:yAG} {done:Int} {got:ByteArray} {r:yAp}
theorem xMB(hL:200000<L)(h16:x.Nodes<=16)(hn0:0<=p.Node)(hn:p.Node<x.Nodes)(hat:p.At=2\/p.At=4):yB2 L x p t done got=some (xGx x.Nodes p,t,done,false,0,()):=by
 obtain⟨node,cmd,at_,i,own,T⟩:=p
 dsimp only at hn0 hn hat
 have ho:=xDF (L:=L) hL hn0 hn (Int.le_refl 0) (by omega) h16
 unfold yB2 yFr xGx yZF
 rcases hat with rfl | rfl
 all_goals
  simp only[show decide ((2:Int)<0)=false from rfl,show decide ((4:Int)<0)=false from rfl,show decide (7<=w64 2)=false from rfl,show decide (7<=w64 4)=false from rfl,show decide ((2:Int)=0)=false from rfl,show decide ((4:Int)=0)=false from rfl,show decide ((2:Int)=1)=false from rfl,show decide ((4:Int)=1)=false from rfl,show decide ((2:Int)=2)=true from rfl,show decide ((4:Int)=2)=false from rfl,show decide ((4:Int)=3)=false from rfl,show decide ((4:Int)=4)=true from rfl,cond_false,cond_true,ho,xOA (show 10<L by omega),decide_true,yAA,xGG,xGH,yH4]
  by_cases h1:others node 0<x.Nodes
  ·rw[yAO (decide_eq_true h1),if_pos h1];rfl
  ·rw[yAF (decide_eq_false h1),if_neg h1]
   rfl
theorem xJG(hL:200000<L)(h16:x.Nodes<=16){node cmd at_ i own}{T:yAP}(hn0:0<=node)(hn:node<x.Nodes)(hi0:0<=i)(hi:i<x.Nodes)(hat:at_=3\/at_=5):
  (yAB (yHv L x node (w64 (i+1))) fun r=>bif decide (r<x.Nodes) then some ((⟨node,cmd,at_,r,own,T⟩:yAH),t,done,false,(0:Int),()) else
    yAB (yJ6 L T) fun r15=>bif r15 then some ((⟨node,cmd,0,0,yAp.z,(⟨0,0,0,noS,T.Seen,false,false⟩:yAP)⟩:yAH),t,done,false,0,()) else
     bif at_==5 then some ((⟨node,cmd,6,r,own,T⟩:yAH),t,done,false,0,()) else
     yAB (yJ7 L T cmd) fun r16=>some ((⟨node,cmd,4,r,⟨own.Inst,own.Mbal,own.Mbal,r16⟩,T⟩:yAH),t,done,false,0,()))=
    some (yZF x.Nodes ⟨node,cmd,at_,i,own,T⟩ (i+1),t,done,false,0,()):=by
 rw[yAh (by omega) (by omega),xDF hL hn0 hn (by omega) (by omega) h16,yAA,xGG,yAA,xGH,yAA]
 unfold yZF
 dsimp only
 by_cases h1:others node (i+1)<x.Nodes
 ·rw[yAO (decide_eq_true h1),if_pos h1]
 ·rw[yAF (decide_eq_false h1),if_neg h1]
  by_cases h2:yUJ T=true
  ·rw[yAO h2,if_pos h2];rfl
  ·rw[yAF (by simpa using h2),if_neg h2]
   rcases hat with rfl | rfl <;> rfl
set_option maxHeartbeats 1000000 in
theorem xKB(hL:200000<L)(h16:x.Nodes<=16)(hn0:0<=p.Node)(hn:p.Node<x.Nodes)(hi0:0<=p.I)(hi:p.I<x.Nodes)(hat:p.At=3\/p.At=5)(hr:yEp L got=some (r,0,())):
  yB2 L x p t done got=some (yVS x.Nodes p r,t,done,false,0,()):=by
 obtain⟨node,cmd,at_,i,own,⟨ti,tm,tb,tv,ts,ta,tl⟩⟩:=p
 obtain⟨ri,rm,rb,rv⟩:=r
 dsimp only at hn0 hn hat hi0 hi
 have key:∀T:yAP,yQB ⟨ti,tm,tb,tv,ts,ta,tl⟩ ⟨ri,rm,rb,rv⟩=T->yVS x.Nodes ⟨node,cmd,at_,i,own,⟨ti,tm,tb,tv,ts,ta,tl⟩⟩ ⟨ri,rm,rb,rv⟩=yZF x.Nodes ⟨node,cmd,at_,i,own,T⟩ (i+1):=fun T e=>by
  unfold yVS;rw[e]
 have nx:=fun T=>xJG (L:=L) (x:=x) (t:=t) (done:=done) (cmd:=cmd) (at_:=at_) (own:=own) (T:=T) hL h16 hn0 hn hi0 hi hat
 unfold yB2 yFr
 rcases hat with rfl | rfl
 all_goals
  simp only[show decide ((3:Int)<0)=false from rfl,show decide ((5:Int)<0)=false from rfl,show decide (7<=w64 3)=false from rfl,show decide (7<=w64 5)=false from rfl,show decide ((3:Int)=0)=false from rfl,show decide ((5:Int)=0)=false from rfl,show decide ((3:Int)=1)=false from rfl,show decide ((5:Int)=1)=false from rfl,show decide ((3:Int)=2)=false from rfl,show decide ((5:Int)=2)=false from rfl,show decide ((3:Int)=3)=true from rfl,show decide ((5:Int)=3)=false from rfl,show decide ((5:Int)=4)=false from rfl,show decide ((5:Int)=5)=true from rfl,cond_false,cond_true,hr,xOA (show 10<L by omega),decide_true,yAA,show((0:Int) !=0)=false from rfl]
  by_cases h1:ti<ri
  ·rw[yAO (decide_eq_true h1)]
   refine(nx _).trans ?_
   rw[key _ ?_]
   unfold yQB
   simp only[if_neg (show ¬(ri=ti/\tb<rb) by omega),decide_eq_true h1,decide_eq_false (show ¬ri=ti by omega),Bool.or_true,Bool.false_and,Bool.or_false,yH4]
  ·rw[yAF (decide_eq_false h1)]
   by_cases h2:ri=ti
   ·rw[yAO (show(ri==ti)=true from beq_iff_eq.2 h2)]
    cases tl with
    | true=>
      rw[cond_true]
      by_cases h3:tb<rb
      ·rw[yAO (decide_eq_true h3)]
       refine(nx _).trans ?_
       rw[key _ ?_]
       unfold yQB
       simp only[if_pos (show ri=ti/\tb<rb from⟨h2,h3⟩),decide_eq_false h1,Bool.or_false,Bool.true_or,yH4]
      ·rw[yAF (decide_eq_false h3)]
       refine(nx _).trans ?_
       rw[key _ ?_]
       unfold yQB
       simp only[if_neg (show ¬(ri=ti/\tb<rb) by omega),decide_eq_false h1,Bool.or_false,Bool.true_or,yH4]
    | false=>
      rw[cond_false]
      by_cases h3:tb<rb
      ·rw[yAO (decide_eq_true h3)]
       refine(nx _).trans ?_
       rw[key _ ?_]
       unfold yQB
       simp only[if_pos (show ri=ti/\tb<rb from⟨h2,h3⟩),decide_eq_false h1,decide_eq_true h2,Bool.or_false,Bool.false_or,Bool.true_and,yH4]
      ·rw[yAF (decide_eq_false h3)]
       refine(nx _).trans ?_
       rw[key _ ?_]
       unfold yQB
       simp only[if_neg (show ¬(ri=ti/\tb<rb) by omega),decide_eq_false h1,decide_eq_true h2,Bool.or_false,Bool.false_or,Bool.true_and,yH4]
   ·rw[yAF (show(ri==ti)=false from beq_eq_false_iff_ne.2 h2)]
    refine(nx _).trans ?_
    rw[key _ ?_]
    unfold yQB
    simp only[if_neg (show ¬(ri=ti/\tb<rb) by omega),decide_eq_false h1,decide_eq_false h2,Bool.or_false,Bool.false_and,yH4]
end
theorem xPC(s:ByteArray):mkS s.data.toList=s:=by simp[mkS]
def yUd(c:yAc):ByteArray:=mkS (yRJ 5 (yKk c)).1
theorem xIE(c:yAc):∃x,yPj 5 (yKk c)=some x/\yRJ 5 (yKk c)=(x,0)/\x.length<=40:=by
 have h1:=yRZ c
 have h2:=yRa c
 refine⟨_,yMK (by omega) (by omega),yW7 (by omega) (by omega),?_⟩
 rw[List.length_append,yFS,yAI];omega
theorem xAD(c:yAc):(yUd c).size<=40:=by
 obtain⟨x,_,h2,h3⟩:=xIE c
 unfold yUd
 rw[h2,yS3];exact h3
theorem xQQ{b:ByteArray}(h:0<b.size):(b.toList==noS.toList)=false:=by
 rw[beq_eq_false_iff_ne]
 intro e
 have e1:b=noS:=by
  have:=congrArg List.length e
  simp only[ByteArray.toList_eq,Array.length_toList] at this
  exact absurd this (by show ¬b.size=0;omega)
 rw[e1] at h
 exact absurd h (by decide)
theorem xKm(c:yAc):0<(yUd c).size:=by
 unfold yUd
 have h1:=yRZ c
 have h2:=yRa c
 rw[yW7 (by omega) (by omega),yS3,List.length_append,yFS];omega
theorem xAY{L:Nat}[yFf L]{c:yAc}(h:yRU c):yHO L (yUd c)=some (c,mkS (yKk c),true,0,()):=by
 have hp:=xKm c
 have hl:=xAD c
 have hO:yUE L 5 (yUd c)=some (mkS (yKk c),0,()):=by
  obtain⟨x,h1,h2,h3⟩:=xIE c
  rw[of_eq yQO (by omega)]
  unfold yUd
  rw[h2,yWS,xEU (by omega) h1]
 unfold yHO yMW
 rw[xQQ hp,cond_false,hO,yAA]
 dsimp only
 rw[show((0:Int) !=0)=false from rfl,cond_false,yTE yQO h,yAA]
 rfl
theorem yXX{L:Nat}[yFf L]:yHO L noS=some (yAc.z,noS,false,0,()):=by
 unfold yHO yMW
 rw[beq_self_eq_true];rfl
theorem xIq{L:Nat}[yFf L]{c:yAc}(h:yRU c):yKv L (mkS (yKk c))=some (yUd c,0,()):=by
 have h1:=yRZ c
 have h2:=yRa c
 have hO:yRK L 5 (mkS (yKk c))=some (yUd c,0,()):=by
  obtain⟨x,h1,h2,h3⟩:=xIE c
  rw[xRe (by omega),yWS]
  unfold yUd
  rw[h2]
 unfold yKv yO6
 rw[yTE yQO h,yAA]
 dsimp only
 rw[show((0:Int) !=0)=false from rfl,cond_false,hO]
 rfl
def xF1(r:yAp):ByteArray:=mkS (yWA r.Inst r.Mbal r.Bal r.Val.data.toList).1
def xFz(r:yAp):Prop:=yYf r.Inst r.Mbal r.Bal r.Val.data.toList=true
theorem xAA{r:yAp}(h:xFz r):(xF1 r).size<=100/\0<(xF1 r).size:=by
 obtain⟨l,x,h1,h2,h3,h4⟩:=xAN h
 have h5:=(yQ0 h).2.2.2.2.2.2
 unfold xF1
 rw[h1,yS3]
 dsimp only
 exact⟨by omega,by omega⟩
theorem xF5{L:Nat}[yFf L]{r:yAp}(h:xFz r):yJ1 L r=some (xF1 r,0,()):=by
 obtain⟨l,x,h1,h2,h3,h4⟩:=xAN h
 have h5:=(yQ0 h).2.2.2.2.2.2
 rw[xDC yQO]
 unfold xF1
 rw[h1]
theorem xOj{L:Nat}[yFf L]{r:yAp}(h:xFz r):yEp L (xF1 r)=some (r,0,()):=by
 obtain⟨l,x,h1,h2,h3,h4⟩:=xAN h
 have h5:=(yQ0 h).2.2.2.2.2.2
 rw[xAJ yQO (by have:=(xAA h).1;omega)]
 unfold xF1
 rw[h1,yWS,h3,xPC]
theorem xOk{L:Nat}[yFf L]:yEp L noS=some (yAp.z,0,()):=by
 rw[xAJ yQO (by decide)];rfl
def xAI(b:ByteArray)(r:yAp):Prop:=(b=noS/\r=yAp.z)\/(xFz r/\b=xF1 r)
theorem xAI.read{L:Nat}[yFf L]{b:ByteArray}{r:yAp}(h:xAI b r):yEp L b=some (r,0,()):=by
 rcases h with ⟨rfl,rfl⟩ | ⟨h,rfl⟩
 ·exact xOk
 ·exact xOj h
theorem xKN{L:Nat}[yFf L](c:yAc)(b s:Int):yNF L c b s=some (decide (c.By=b/\c.Serial=s)):=by
 unfold yNF yQL
 by_cases h1:c.By=b
 ·rw[yAO (beq_iff_eq.2 h1)]
  by_cases h2:c.Serial=s
  ·rw[decide_eq_true (⟨h1,h2⟩:c.By=b/\c.Serial=s),beq_iff_eq.2 h2]
  ·rw[decide_eq_false (fun q=>h2 q.2),beq_eq_false_iff_ne.2 h2]
 ·rw[yAF (beq_eq_false_iff_ne.2 h1),decide_eq_false (fun q=>h1 q.1)]
theorem xNb{L:Nat}{x:yAJ}{p:yAH}{t:yAG}{done:Int}{o:Bool}{own:yAc}(ho:yBi L p.Cmd=some (own,0,())):yK0 L ⟨p,x,t,done,o⟩=some (own,true,()):=by
 unfold yK0 yPF
 rw[ho];rfl
section
variable {L:Nat} [yFf L] {x:yAJ} {p:yAH} {t t':yAG} {done:Int} {c own:yAc} {r:yAp} {got:ByteArray}
theorem xPo(hc:yRU c)(hat:p.At=0)(hT:yDR L x t c=some t')(hd0:0<=done)(hd:done<=100000)(ho:yBi L p.Cmd=some (own,0,())):
  yB2 L x p t done (yUd c)=some (xGw p,t',done+1,decide (c.By=own.By/\c.Serial=own.Serial),0,()):=by
 have hl:yC3 L x t done (yUd c)=some (t',done+1,c,true,0,()):=by
  unfold yC3 yHV
  rw[xAY hc,yAA]
  dsimp only
  rw[show((0:Int)==0)=true from rfl,cond_true,cond_true,hT,yAA,yAh (by omega) (by omega)]
 unfold yB2 yFr
 rw[hat,hl]
 simp only[show decide ((0:Int)<0)=false from rfl,show decide (7<=w64 0)=false from rfl,show decide ((0:Int)=0)=true from rfl,cond_false,cond_true,decide_true,xNb ho,yAA,show((0:Int) !=0)=false from rfl,ho,show((0:Int)==0)=true from rfl,xKN]
 rw[yAh (by omega) (by omega)]
 rfl
theorem xOM(hm:(yAq x).may=true)(hat:p.At=0)(hd0:0<=done)(ho:yBi L p.Cmd=some (own,0,())):
  yB2 L x p t done noS=some (if(own.Kind=0\/own.Kind=2)/\x.Log-4*x.Slots<=done then(p,t,done,false,150,()) else(⟨p.Node,p.Cmd,1,p.I,p.Own,p.T⟩,t,done,false,0,())):=by
 have hok:=Geo.may_ok hm
 have s1:1<=x.Slots:=hok.s1
 have s2:x.Slots<=x.Nodes:=hok.s2
 have n2:x.Nodes<=16:=hok.n2
 have l1:8*x.Slots<=x.Log:=hok.l1
 have l2:x.Log<=512:=hok.l2
 have hR:yUS L x=some (4*x.Slots):=by
  rw[xO3 yQO (yGx hm),if_pos hm]
 have hl:yC3 L x t done noS=some (t,done,yAc.z,false,0,()):=by
  unfold yC3 yHV
  rw[yXX,yAA]
  rfl
 unfold yB2 yFr
 rw[hat,hl]
 simp only[show decide ((0:Int)<0)=false from rfl,show decide (7<=w64 0)=false from rfl,show decide ((0:Int)=0)=true from rfl,cond_false,cond_true,decide_true,xNb ho,yAA,show((0:Int) !=0)=false from rfl,ho,show((0:Int)==0)=true from rfl,hR]
 rw[yAh (by omega) (by omega)]
 by_cases h0:own.Kind=0
 ·rw[yAO (beq_iff_eq.2 h0)]
  by_cases h1:x.Log-4*x.Slots<=done
  ·rw[yAO (decide_eq_true h1),if_pos ⟨.inl h0,h1⟩];try rfl
  ·rw[yAF (decide_eq_false h1),if_neg (fun q=>h1 q.2)];try rfl
 ·rw[yAF (beq_eq_false_iff_ne.2 h0)]
  by_cases h2:own.Kind=2
  ·rw[yAO (beq_iff_eq.2 h2)]
   by_cases h1:x.Log-4*x.Slots<=done
   ·rw[yAO (decide_eq_true h1),if_pos ⟨.inr h2,h1⟩];try rfl
   ·rw[yAF (decide_eq_false h1),if_neg (fun q=>h1 q.2)];try rfl
  ·rw[yAF (beq_eq_false_iff_ne.2 h2),if_neg (fun q=>q.1.elim h0 h2)];try rfl
def xAu(p:yAH)(r:yAp)(done:Int):Int:=yWV p.Node (max (max 0 (recAt r done).Mbal) p.T.Seen)
theorem xPp(hat:p.At=1)(hr:yEp L got=some (r,0,())):
  yB2 L x p t done got=some (if xAu p r done=0 then(p,t,done,false,150,()) else(⟨p.Node,p.Cmd,2,p.I,⟨(recAt r done).Inst,xAu p r done,(recAt r done).Bal,(recAt r done).Val⟩,p.T⟩,t,done,false,0,())):=by
 have hA:yS7 L r done=some (recAt r done):=by
  unfold yS7 yVB recAt
  by_cases h:r.Inst=done
  ·rw[if_pos h,yAF (show(r.Inst !=done)=false from by rw[h];exact bne_self_eq_false done)]
  ·rw[if_neg h,yAO (show(r.Inst !=done)=true from bne_iff_ne.2 h)]
 have hN:yLg L p.Node [[V.int .i64 (recAt r done).Mbal],[V.int .i64 p.T.Seen]]=some (xAu p r done):=
  xRK (l:= [(recAt r done).Mbal,p.T.Seen]) (by simp) (by have:=hL3 (L:=L);simp;omega) p.Node
 unfold yB2 yFr
 rw[hat]
 simp only[show decide ((1:Int)<0)=false from rfl,show decide (7<=w64 1)=false from rfl,show decide ((1:Int)=0)=false from rfl,decide_true,cond_false,cond_true,yAA,show((0:Int) !=0)=false from rfl,hr,hA,hN]
 by_cases h:xAu p r done=0
 ·rw[yAO (beq_iff_eq.2 h),if_pos h]
 ·rw[yAF (beq_eq_false_iff_ne.2 h),if_neg h]
theorem xPm(hc:yRU c)(hat:p.At=6)(hv:p.Own.Val=mkS (yKk c))(hT:yDR L x t c=some t')(hd0:0<=done)(hd:done<=100000)(ho:yBi L p.Cmd=some (own,0,())):
  yB2 L x p t done got=some (xGw p,t',done+1,decide (c.By=own.By/\c.Serial=own.Serial),0,()):=by
 unfold yB2 yFr
 rw[hat,hv,yTE yQO hc]
 simp only[show decide ((6:Int)<0)=false from rfl,show decide (7<=w64 6)=false from rfl,show decide ((6:Int)=0)=false from rfl,show decide ((6:Int)=1)=false from rfl,show decide ((6:Int)=2)=false from rfl,show decide ((6:Int)=3)=false from rfl,show decide ((6:Int)=4)=false from rfl,show decide ((6:Int)=5)=false from rfl,show decide ((6:Int)=6)=true from rfl,cond_false,cond_true,decide_true,xNb ho,yAA,show((0:Int) !=0)=false from rfl,hT,ho,show((0:Int)==0)=true from rfl,xKN]
 rw[yAh (by omega) (by omega)]
 rfl
theorem xPy(hm:(yAq x).may=true)(hat:p.At=0)(hd0:0<=done)(hd:done<x.Log):yBW L x p done=some (⟨1,1+2*x.Nodes+done,noS,0⟩,0,()):=by
 have hok:=Geo.may_ok hm
 have n1:1<=x.Nodes:=hok.n1
 have hl:yGA L x done=some (1+2*x.Nodes+done):=by
  rw[yTL yQO (yGx hm)]
  unfold Geo.logS
  rw[if_pos ⟨hm,hd0,hd⟩];(try rfl)
 unfold yBW yFs yMg yNq yGa yNI
 rw[hat,hl]
 simp only[show decide ((0:Int)<0)=false from rfl,show decide (7<=w64 0)=false from rfl,decide_true,cond_false,cond_true,yAA,show((0:Int)==0)=true from rfl,hl]
 rw[show decide (1+2*x.Nodes+done<0)=false from decide_eq_false (by omega),show decide (0<=1+2*x.Nodes+done)=true from decide_eq_true (by omega)]
 rfl
theorem xOY(hm:(yAq x).may=true)(hat:p.At=0)(hd:¬done<x.Log):yBW L x p done=some (yAV.z,150,()):=by
 have hl:yGA L x done=some (-1):=by
  rw[yTL yQO (yGx hm)]
  unfold Geo.logS
  rw[if_neg (fun q=>hd q.2.2)];(try rfl)
 unfold yBW yFs
 rw[hat,hl]
 rfl
theorem xPz(hm:(yAq x).may=true)(hat:p.At=1)(hn0:0<=p.Node)(hn:p.Node<x.Nodes):yBW L x p done=some (⟨1,1+x.Nodes+p.Node,noS,0⟩,0,()):=by
 have hp:yEH L x p.Node=some (1+x.Nodes+p.Node):=by
  rw[xAi yQO (yGx hm)]
  unfold Geo.paxosS
  rw[if_pos ⟨hm,hn0,hn⟩];(try rfl)
 unfold yBW yFs yMh yNr yGC yOR
 rw[hat]
 simp only[show decide ((1:Int)<0)=false from rfl,show decide (7<=w64 1)=false from rfl,show decide ((1:Int)=0)=false from rfl,decide_true,cond_false,cond_true,yAA,show((1:Int)==0)=false from rfl,hp]
 rw[show decide (1+x.Nodes+p.Node<0)=false from decide_eq_false (by omega)]
 rfl
theorem xP0(hm:(yAq x).may=true)(hat:p.At=2\/p.At=4)(hn0:0<=p.Node)(hn:p.Node<x.Nodes)(hr:xFz p.Own):yBW L x p done=some (⟨2,1+x.Nodes+p.Node,xF1 p.Own,0⟩,0,()):=by
 have hp:yEH L x p.Node=some (1+x.Nodes+p.Node):=by
  rw[xAi yQO (yGx hm)]
  unfold Geo.paxosS
  rw[if_pos ⟨hm,hn0,hn⟩];(try rfl)
 have hF:yEQ L (1+x.Nodes+p.Node) (xF1 p.Own) 0=some ⟨2,1+x.Nodes+p.Node,xF1 p.Own,0⟩:=by
  unfold yEQ yMf
  rw[show((0:Int) !=0)=false from rfl,cond_false,yAF (decide_eq_false (by omega))]
 unfold yBW yFs yJK yK1
 rcases hat with e | e
 all_goals
  rw[e,xF5 hr,hp]
  simp only[show decide ((2:Int)<0)=false from rfl,show decide (7<=w64 2)=false from rfl,show decide ((2:Int)=0)=false from rfl,show decide ((2:Int)=1)=false from rfl,decide_true,show decide ((4:Int)<0)=false from rfl,show decide (7<=w64 4)=false from rfl,show decide ((4:Int)=0)=false from rfl,show decide ((4:Int)=1)=false from rfl,show decide ((4:Int)=2)=false from rfl,show decide ((4:Int)=3)=false from rfl,decide_true,cond_false,cond_true,yAA,show((2:Int)==0)=false from rfl,show((4:Int)==0)=false from rfl,hF]
theorem xOb(hm:(yAq x).may=true)(hat:p.At=3\/p.At=5)(hn0:0<=p.I)(hn:p.I<x.Nodes):yBW L x p done=some (⟨1,1+x.Nodes+p.I,noS,0⟩,0,()):=by
 have hp:yEH L x p.I=some (1+x.Nodes+p.I):=by
  rw[xAi yQO (yGx hm)]
  unfold Geo.paxosS
  rw[if_pos ⟨hm,hn0,hn⟩];(try rfl)
 unfold yBW yFs yMi yNs yMj yNt yGC yOR
 rcases hat with e | e
 all_goals
  rw[e]
  simp only[show decide ((3:Int)<0)=false from rfl,show decide (7<=w64 3)=false from rfl,show decide ((3:Int)=0)=false from rfl,show decide ((3:Int)=1)=false from rfl,show decide ((3:Int)=2)=false from rfl,decide_true,show decide ((5:Int)<0)=false from rfl,show decide (7<=w64 5)=false from rfl,show decide ((5:Int)=0)=false from rfl,show decide ((5:Int)=1)=false from rfl,show decide ((5:Int)=2)=false from rfl,show decide ((5:Int)=3)=false from rfl,show decide ((5:Int)=4)=false from rfl,decide_true,cond_false,cond_true,yAA,show((3:Int)==0)=false from rfl,show((5:Int)==0)=false from rfl,hp]
  rw[show decide (1+x.Nodes+p.I<0)=false from decide_eq_false (by omega)]
  rfl
theorem xPx(hm:(yAq x).may=true)(hat:p.At=6)(hd0:0<=done)(hd:done<x.Log)(hc:yRU c)(hv:p.Own.Val=mkS (yKk c)):yBW L x p done=some (⟨2,1+2*x.Nodes+done,yUd c,0⟩,0,()):=by
 have hok:=Geo.may_ok hm
 have n1:1<=x.Nodes:=hok.n1
 have hl:yGA L x done=some (1+2*x.Nodes+done):=by
  rw[yTL yQO (yGx hm)]
  unfold Geo.logS
  rw[if_pos ⟨hm,hd0,hd⟩];(try rfl)
 have hF:yEQ L (1+2*x.Nodes+done) (yUd c) 0=some ⟨2,1+2*x.Nodes+done,yUd c,0⟩:=by
  unfold yEQ yMf
  rw[show((0:Int) !=0)=false from rfl,cond_false,yAF (decide_eq_false (by omega))]
 unfold yBW yFs yHD yIu
 rw[hat,hv,xIq hc,hl]
 simp only[show decide ((6:Int)<0)=false from rfl,show decide (7<=w64 6)=false from rfl,show decide ((6:Int)=0)=false from rfl,show decide ((6:Int)=1)=false from rfl,show decide ((6:Int)=2)=false from rfl,show decide ((6:Int)=3)=false from rfl,show decide ((6:Int)=4)=false from rfl,show decide ((6:Int)=5)=false from rfl,decide_true,cond_false,cond_true,yAA,show((6:Int)==0)=false from rfl,hF]
end
theorem xLj{L:Nat}(hL:10<L){c:yAc}(h:yRU c):yHg L c=some (mkS (yKk c),0,()):=xDa hL h (by obtain⟨-,-,-,h5 | h5⟩:=h <;> omega) (by obtain⟨-,-,-,h5 | h5⟩:=h <;> omega)
theorem yTZ{L:Nat}(hL:10<L){c:yAc}(h:yRU c):yCQ L (mkS (yKk c))=some (c,0,()):=xLk hL h (by obtain⟨-,-,-,h5 | h5⟩:=h <;> omega)
theorem xPd{L m:Nat}{s:ByteArray}{at_ n:Int}{out:List Int}(hlt:at_<s.size)(h0:0<=at_)(h1:at_<=1000000)(ho:out.length<=1000)(hG:yBj L s at_ 6=some (n,0,())){α:Type}(ka:yI3->Option α)(kb):
  yAf (yCX (yBj L)) (m+1) (s,6,out.map inV,at_,()) ka kb=yAf (yCX (yBj L)) m (s,6,(out++ [n]).map inV,at_+6,()) ka kb:=by
 have e:out.map inV++ [[V.int .i64 n]]=(out++ [n]).map inV:=by rw[List.map_append];rfl
 have hl2:((out++ [n]).map inV).length=(out.map inV).length+1:=by simp
 show yCX (yBj L) (s,6,out.map inV,at_,()) (fun s'=>yAf _ m s' ka kb) ka kb=_
 unfold yCX
 dsimp only
 rw[yAO (decide_eq_true hlt),hG,yAA,show((0:Int) !=0)=false from rfl,cond_false,yCJ (by rw[Nat.zero_add];exact Nat.beq_refl _),xIZ (by rw[List.length_map];omega) (by rw[List.length_map];omega),e,xTJ hl2.symm (by rw[List.length_map];omega) (yLd _),yAh (by omega) (by omega)]
theorem xRY{L m:Nat}{s:ByteArray}{at_:Int}{out:List Int}(hge:¬at_<s.size)(ho:out.length<=1000){α:Type}(ka:yI3->Option α)(kb):
  yAf (yCX (yBj L)) (m+1) (s,6,out.map inV,at_,()) ka kb=ka (out.map inV,()):=by
 show yCX (yBj L) (s,6,out.map inV,at_,()) (fun s'=>yAf _ m s' ka kb) ka kb=_
 unfold yCX
 dsimp only
 rw[yAF (decide_eq_false hge),xTJ rfl (by rw[List.length_map];omega) (yLd _)]
theorem xPW{L:Nat}(hL:10<L){d:Int}(d0:0<=d)(d1:d<=1099511627776):yTb L (mkS (leBytes 6 d.toNat++ [])) 6=some ([[V.int .i64 d]],0,()):=by
 have hsz:((mkS (leBytes 6 d.toNat++ [])).size:Int)=6:=by rw[yS3];simp[yAI]
 have G1:yBj L (mkS (leBytes 6 d.toNat++ [])) 0 6=some (d,0,()):=by
  rw[xJK hL (by simp[yAI])]
  have:=xEC [] [] (w:=6) (n:=d) (a:=0) (wi:=6) rfl rfl (by omega) (by omega) d0 (by rw[xJA];omega)
  rw[List.nil_append] at this
  rw[this]
 unfold yTb yVX
 rw[xEJ hL,if_pos ⟨by omega,by omega⟩,yAA,yAF (decide_eq_false (by omega))]
 obtain⟨m,hm⟩:∃m,L=m+1+1:=⟨L-2,by omega⟩
 have e1:=xPd (L:=L) (m:=m+1) (out:= []) (at_:=0) (s:=mkS (leBytes 6 d.toNat++ [])) (by omega) (by omega) (by omega) (by simp) G1 (α:=List (List V)×Int×Unit)
 have e3:=xRY (L:=L) (m:=m) (out:= [d]) (at_:=6) (s:=mkS (leBytes 6 d.toNat++ [])) (by omega) (by simp) (α:=List (List V)×Int×Unit)
 rw[show yAf (α:=List (List V)×Int×Unit) (yCX (yBj L)) L=yAf (yCX (yBj L)) (m+1+1) by rw[←hm]]
 refine(e1 _ _).trans ((e3 _ _).trans ?_)
 dsimp only
 rw[yU0 (by simp) (by simp) (yLd _),List.take_length]
 rfl
theorem xSv{L:Nat}(x:yAp):yNM L x=some (yYf x.Inst x.Mbal x.Bal x.Val.data.toList):=by
 unfold yNM yVf yYf xIY
 by_cases h1:0<=x.Inst/\x.Inst<=512
 rotate_left
 ·rw[decide_eq_false h1,Bool.false_and]
  by_cases h:x.Inst<0
  ·rw[yAO (decide_eq_true h)]
  ·rw[yAF (decide_eq_false h),yAO (decide_eq_true (by omega))]
 rw[decide_eq_true h1,yAF (decide_eq_false (by omega)),yAF (decide_eq_false (by omega)),Bool.true_and]
 by_cases h2:0<=x.Mbal/\x.Mbal<=1099511627776
 rotate_left
 ·rw[decide_eq_false h2,Bool.false_and]
  by_cases h:x.Mbal<0
  ·rw[yAO (decide_eq_true h)]
  ·rw[yAF (decide_eq_false h),yAO (decide_eq_true (by omega))]
 rw[decide_eq_true h2,yAF (decide_eq_false (by omega)),yAF (decide_eq_false (by omega)),Bool.true_and]
 by_cases h3:0<=x.Bal/\x.Bal<=x.Mbal
 rotate_left
 ·rw[decide_eq_false h3,Bool.false_and]
  by_cases h:x.Bal<0
  ·rw[yAO (decide_eq_true h)]
  ·rw[yAF (decide_eq_false h),yAO (decide_eq_true (by omega))]
 rw[decide_eq_true h3,yAF (decide_eq_false (by omega)),yAF (decide_eq_false (by omega)),Bool.true_and,yAy]
 by_cases h4:x.Val.size<=64
 ·rw[decide_eq_true h4,yAF (decide_eq_false (by omega)),Bool.true_and,yZ5,yUe,xDw]
  congr 1
  by_cases h5:0<x.Bal
  ·rw[decide_eq_true h5,beq_eq_false_iff_ne.2 (show x.Bal≠0 by omega)]
   cases x.Val.data.toList.isEmpty <;> rfl
  ·rw[decide_eq_false h5,beq_iff_eq.2 (show x.Bal=0 by omega)]
   cases x.Val.data.toList.isEmpty <;> rfl
 ·rw[decide_eq_false h4,yAO (decide_eq_true (by omega))];rfl
theorem xRU{L:Nat}(hL:1000<L)(x:yAp):yMB L x=some (mkS (yWA x.Inst x.Mbal x.Bal x.Val.data.toList).1,(yWA x.Inst x.Mbal x.Bal x.Val.data.toList).2,()):=by
 unfold yMB ySQ yWA
 rw[xSv,yAA]
 by_cases h:yYf x.Inst x.Mbal x.Bal x.Val.data.toList=true
 ·have hv:x.Val.size<=64:=by
    have:=(yQ0 h).2.2.2.2.2.2
    rw[yAy] at this
    exact this
  have hm:=yZ7 (L:=L) (k:=4) (rest:=x.Val) (ws:= [2,6,6]) (l:= [x.Inst,x.Mbal,x.Bal]) (by omega) (by simp;omega) hL (by simp) (by omega)
  rw[h,if_pos rfl,Bool.not_true,cond_false]
  show yAB (yD8 L 4 x.Val ([2,6,6].map inV) ([x.Inst,x.Mbal,x.Bal].map inV)) _=_
  rw[hm];rfl
 ·rw[if_neg h,show yYf x.Inst x.Mbal x.Bal x.Val.data.toList=false by simpa using h];rfl
theorem xSx{L:Nat}(hL:1000<L){s:ByteArray}(hs:s.size<=1000000000):yGh L s=some (⟨(readR s.data.toList).1.1,(readR s.data.toList).1.2.1,(readR s.data.toList).1.2.2.1,mkS (readR s.data.toList).1.2.2.2⟩,(readR s.data.toList).2,()):=by
 unfold yGh yTu readR
 rw[yZ5,yUe,xDw]
 by_cases h0:s.data.toList= []
 ·rw[if_pos h0,h0];rfl
 rw[if_neg h0,yAF (by cases h:s.data.toList with
  | nil=>exact absurd h h0
  | cons _ _=>rfl)]
 have hf:=yXl (ws:= [2,6,6]) hL hs (by simp;omega) (by simp) 4
 show yAB (yCt L 4 s ([2,6,6].map inV)) _=_
 rw[hf,yAA]
 rcases yWG 4 s.data.toList [2,6,6] with ⟨h1,h2⟩ | h1
 ·obtain⟨i,m,b,h3⟩:=three h2
  generalize hR:fieldsR 4 s.data.toList [2,6,6]=R at*
  obtain⟨R1,R2,R3⟩:=R
  dsimp only at h1 h3 ⊢
  subst h1 h3
  rw[show((0:Int) !=0)=false from rfl,cond_false,yCJ (decide_eq_true (by simp)),yU1 (by simp) rfl,yCJ (decide_eq_true (by simp)),yU1 (by simp) rfl,yCJ (decide_eq_true (by simp)),yU1 (by simp) rfl]
  show yAB (yNM L ⟨i,m,b,mkS R2⟩) _=_
  rw[xSv,yAA,mk_data]
  dsimp only
  cases hb:yYf i m b R2 <;> simp only[hb] <;> rfl
 ·rw[h1];rfl
theorem xAI.r8{L:Nat}[yFf L]{b:ByteArray}{r:yAp}(h:xAI b r):yGh L b=some (r,0,()):=by
 have hz:b.size<=1000000000:=by
  rcases h with ⟨rfl,-⟩ | ⟨h,rfl⟩
  ·decide
  ·have:=(xAA h).1;omega
 have e:=xAJ (L:=L) yQO hz
 rw[h.read] at e
 rw[xSx hL3 hz,←e]
theorem xJJ{L:Nat}[yFf L]{r:yAp}(h:xFz r):yMB L r=some (xF1 r,0,()):=by
 have e:=xDC (L:=L) yQO r
 rw[xF5 h] at e
 rw[xRU hL3,←e]
theorem xUJ{L:Nat}(r:yAp)(k:Int):yWq L r k=some (recAt r k):=by
 unfold yWq yX2 recAt
 by_cases h:r.Inst=k
 ·rw[if_pos h,yAO (beq_iff_eq.2 h)]
 ·rw[if_neg h,yAF (beq_eq_false_iff_ne.2 h)]
theorem xSw{L:Nat}[yFf L](n a b:Int):yOu L n [[V.int .i64 a],[V.int .i64 b]]=some (yWV n (max (max 0 a) b)):=by
 obtain⟨M,rfl⟩:∃M,L=M+3:=⟨L-3,by have:=yQO (L:=L);omega⟩
 have hl:yAb (α:=Int) yIT (M+3) (n,[[V.int .i64 a],[V.int .i64 b]],0,0,())=fun ka=>ka (n,max (max 0 a) b,()):=by
  funext ka
  have e:∀(m:Nat) (q:Int),yAb (α:=Int) yIT (m+3) (n,[[V.int .i64 a],[V.int .i64 b]],q,0,()) ka=ka (n,yEr true (yEr true q a) b,()):=fun m q=>rfl
  rw[e,xKX,xKX]
 unfold yOu yTt yWV
 rw[hl]
 dsimp only
 by_cases h1:n<0
 ·rw[yAO (decide_eq_true h1),if_neg (by omega)]
 rw[yAF (decide_eq_false h1)]
 by_cases h2:16<=n
 ·rw[yAO (decide_eq_true h2),if_neg (by omega)]
 rw[yAF (decide_eq_false h2)]
 have hm:0<=max (max 0 a) b:=by omega
 generalize max (max 0 a) b=m at*
 by_cases h3:1099511627776<m
 ·rw[yAO (decide_eq_true h3),if_neg (by omega)]
 rw[yAF (decide_eq_false h3),if_pos (by omega),Int.tdiv_eq_ediv_of_nonneg hm,yAh (n:=m/16) (by omega) (by omega),yAh (n:=m/16*16) (by omega) (by omega),yAh (n:=m/16*16+n) (by omega) (by omega),yAh (n:=m/16*16+n+16) (by omega) (by omega)]
 by_cases h4:m/16*16+n<=m
 ·rw[yAO (decide_eq_true h4),if_pos (.inl h4)]
  by_cases h5:m/16*16+n+16<=1099511627776
  ·rw[yAF (decide_eq_false (by omega)),if_pos h5]
  ·rw[yAO (decide_eq_true (by omega)),if_neg h5]
 rw[yAF (decide_eq_false h4)]
 by_cases h6:m/16*16+n<16
 ·rw[yAO (decide_eq_true h6),if_pos (.inr h6)]
  by_cases h5:m/16*16+n+16<=1099511627776
  ·rw[yAF (decide_eq_false (by omega)),if_pos h5]
  ·rw[yAO (decide_eq_true (by omega)),if_neg h5]
 rw[yAF (decide_eq_false h6),if_neg (by omega)]
 by_cases h5:m/16*16+n<=1099511627776
 ·rw[yAF (decide_eq_false (by omega)),if_pos h5]
 ·rw[yAO (decide_eq_true (by omega)),if_neg h5]
theorem xSq{L:Nat}[yFf L]{c:yAc}(h:yRU c):yMF L (yUd c)=some (c,mkS (yKk c),true,0,()):=by
 have hp:=xKm c
 have hl:=xAD c
 have hO:yP5 L 5 (yUd c)=some (mkS (yKk c),0,()):=by
  obtain⟨x,h1,h2,h3⟩:=xIE c
  rw[xQY hL3]
  unfold yUd
  rw[h2,yWS,xEU (by omega) h1]
 unfold yMF yP6
 rw[xQQ hp,cond_false,hO,yAA]
 dsimp only
 rw[show((0:Int) !=0)=false from rfl,cond_false,yTZ yQO h,yAA]
 rfl
theorem xTl{L:Nat}:yMF L noS=some (yAc.z,noS,false,0,()):=by
 unfold yMF yP6
 rw[beq_self_eq_true];rfl
theorem xPR{L:Nat}(t:yAP):yPY L t=some (yUJ t):=by
 unfold yPY ySX yUJ
 obtain⟨a,b,c,d,e,f,g⟩:=t
 cases f <;> cases g <;> rfl
theorem xPS{L:Nat}(t:yAP)(c:ByteArray):yPZ L t c=some (if 0<t.Best then t.Val else c):=by
 unfold yPZ ySY
 by_cases h:0<t.Best
 ·rw[if_pos h,decide_eq_true h];rfl
 ·rw[if_neg h,decide_eq_false h];rfl
theorem xNh{L:Nat}{x:yAJ}{node k:Int}(hN:node<x.Nodes)(k0:0<=k)(kN:k<=x.Nodes)(h16:x.Nodes<=16):yNP L x node k=some (others node k):=by
 unfold yNP yQd others
 rw[yH4,show max k 0=k by omega]
 by_cases h:k=node
 ·rw[yAO (beq_iff_eq.2 h),if_pos h,yAh (by omega) (by omega)]
  by_cases h2:x.Nodes<=k+1
  ·rw[yAO (decide_eq_true h2)]
   congr 1;omega
  ·rw[yAF (decide_eq_false h2)]
 ·rw[yAF (beq_eq_false_iff_ne.2 h),if_neg h]
  by_cases h2:x.Nodes<=k
  ·rw[yAO (decide_eq_true h2)]
   congr 1;omega
  ·rw[yAF (decide_eq_false h2)]
theorem xSr{L:Nat}(t:yAP)(r:yAp):yNQ L t r=some (yQB t r):=by
 obtain⟨ti,tm,tb,tv,ts,ta,tl⟩:=t
 obtain⟨ri,rm,rb,rv⟩:=r
 unfold yNQ yVk yQB
 simp only[yH4]
 by_cases h1:ti<ri
 ·rw[yAO (decide_eq_true h1),yAO (bne_iff_ne.2 (show ri≠ti by omega)),decide_eq_true h1,decide_eq_false (show ¬ri=ti by omega),if_neg (by omega),if_neg (by omega),Bool.or_true,Bool.false_and,Bool.or_false]
 ·rw[yAF (decide_eq_false h1),decide_eq_false h1,Bool.or_false]
  by_cases h2:ri=ti
  ·rw[yAF (show(ri !=ti)=false by rw[h2];exact bne_self_eq_false _),decide_eq_true h2,Bool.true_and]
   by_cases h3:tm<rm
   ·rw[yAO (decide_eq_true h3),decide_eq_true h3,Bool.or_true]
    by_cases h4:tb<rb
    ·rw[yAO (decide_eq_true h4),if_pos ⟨h2,h4⟩,if_pos ⟨h2,h4⟩]
    ·rw[yAF (decide_eq_false h4),if_neg (fun q=>h4 q.2),if_neg (fun q=>h4 q.2)]
   ·rw[yAF (decide_eq_false h3),decide_eq_false h3,Bool.or_false]
    by_cases h4:tb<rb
    ·rw[yAO (decide_eq_true h4),if_pos ⟨h2,h4⟩,if_pos ⟨h2,h4⟩]
    ·rw[yAF (decide_eq_false h4),if_neg (fun q=>h4 q.2),if_neg (fun q=>h4 q.2)]
  ·rw[yAO (bne_iff_ne.2 h2),decide_eq_false h2,Bool.false_and,Bool.or_false,if_neg (fun q=>h2 q.1),if_neg (fun q=>h2 q.1)]
theorem xPQ{L:Nat}[yFf L](t:yAP)(r:yAp):yPX L t [[V.int .i64 r.Inst,V.int .i64 r.Mbal,V.int .i64 r.Bal,V.str r.Val]]=some (yQB t r):=by
 obtain⟨M,rfl⟩:∃M,L=M+2:=⟨L-2,by have:=yQO (L:=L);omega⟩
 have e:yPX (M+2) t [[V.int .i64 r.Inst,V.int .i64 r.Mbal,V.int .i64 r.Bal,V.str r.Val]]=yAB (yNQ (M+2) t r) fun q=>some q:=rfl
 rw[e,xSr];rfl
theorem xNg{L:Nat}(c:yAc)(b s:Int):yMD L c b s=some (decide (c.By=b/\c.Serial=s)):=by
 unfold yMD yTx
 by_cases h1:c.By=b
 ·rw[yAO (beq_iff_eq.2 h1)]
  by_cases h2:c.Serial=s
  ·rw[decide_eq_true (⟨h1,h2⟩:c.By=b/\c.Serial=s),beq_iff_eq.2 h2]
  ·rw[decide_eq_false (fun q=>h2 q.2),beq_eq_false_iff_ne.2 h2]
 ·rw[yAF (beq_eq_false_iff_ne.2 h1),decide_eq_false (fun q=>h1 q.1)]
theorem xPV{L:Nat}{x:yAJ}(hm:(yAq x).may=true):yQ9 L x=some (4*x.Slots):=by
 have hok:=Geo.may_ok hm
 have s1:1<=x.Slots:=hok.s1
 have s2:x.Slots<=x.Nodes:=hok.s2
 have n2:x.Nodes<=16:=hok.n2
 unfold yQ9 yTn
 rw[yLq,yAA,hm,Bool.not_true,cond_false,yAh (by omega) (by omega)]
section
variable {α A B σ β γ:Type}
theorem yW8{F:σ->(σ->Option α)->(A->Option α)->(B->Option α)->Option α}(l:List β)(p:β->Bool)(st:Nat->σ)(a:A)(b:Nat->B)
  (hF:∀(i:Nat) (h:i<l.length) kn ka kb,F (st i) kn ka kb=bif p l[i] then kb (b i) else kn (st (i+1))) (hE:∀kn ka kb,F (st l.length) kn ka kb=ka a):
  ∀(L k:Nat),k<=l.length->l.length-k<L->(∀j (h:j<l.length),j<k->p l[j]=false)->∀ka kb,yAf F L (st k) ka kb=match l.findIdx? p with | none=>ka a | some i=>kb (b i)
 | 0,k,h,hL,_,_,_=>absurd hL (Nat.not_lt_zero _)
 | L+1,k,h,hL,hp,ka,kb=>by
   show F (st k) (fun s'=>yAf F L s' ka kb) ka kb=_
   by_cases hk:k<l.length
   ·rw[hF k hk]
    cases hq:p l[k] with
    | true=>
      have:l.findIdx? p=some k:=List.findIdx?_eq_some_iff_getElem.2 ⟨hk,hq,fun j hj=>by rw[hp j (by omega) hj];simp⟩
      rw[this];rfl
    | false=>
      exact yW8 l p st a b hF hE L (k+1) hk (by omega) (fun j hj hjk=>by
       rcases Nat.lt_or_ge j k with h1 | h1
       ·exact hp j hj h1
       ·obtain rfl:j=k:=by omega
        exact hq) ka kb
   ·obtain rfl:k=l.length:=by omega
    rw[hE]
    have:l.findIdx? p=none:=List.findIdx?_eq_none_iff.2 fun x hx=>by
     obtain⟨j,hj,rfl⟩:=List.getElem_of_mem hx
     exact hp j hj hj
    rw[this]
theorem xQI{l:List β}{e:β->List V}{ks:List Kc}(hk:∀b,rowIs ks [e b] 0=true){i:Nat}(h:i<l.length){x:Option α}:gI (l.map e) ks (i:Int) x=x:=xQ7 (by omega) (by rw[List.length_map];omega) (by
 rw[show(i:Int).toNat=i from rfl,xFX ks (show(l.map e)[i]?=some (e l[i]) by rw[List.getElem?_map,List.getElem?_eq_getElem h];rfl)];exact hk _)
theorem xDG{l:List β}{e:β->List V}{i j:Nat}(h:i<l.length):cell (l.map e) i j=cell [e l[i]] 0 j:=xD2 (by rw[List.getElem?_map,List.getElem?_eq_getElem h];rfl)
theorem xTf{l:List β}{e:β->List V}(h:∀b,(e b).all (nmB 20)=true):yCL (l.map e)=true:=List.all_eq_true.2 fun r hr=>by
 obtain⟨a,_,rfl⟩:=List.mem_map.1 hr
 exact h a
theorem xR7{l:List β}{e:β->List V}{n:Nat}(h:∀b,(e b).length=n):((l.map e).all fun r=>Nat.beq r.length n)=true:=List.all_eq_true.2 fun r hr=>by
 obtain⟨a,_,rfl⟩:=List.mem_map.1 hr
 rw[h a];exact Nat.beq_refl n
theorem xR0{l:List β}{e:β->List V}{n:Nat}(h:∀b,(e b).all (nmB 20)=true)(hn:n<=l.length)(hl:l.length<=100000){x:Option α}:gF (l.map e) n x=x:=yU0 (by rw[List.length_map];exact hn) (by omega) (xTf h)
theorem xR1{l:List β}{e:β->List V}{n:Nat}(h:∀b,(e b).all (nmB 20)=true)(hn:n=l.length){x:Option α}:gW (l.map e) n x=x:=yHo (by rw[List.length_map];exact hn) (xTf h)
theorem xTX{m b:Nat}(h:m<=100000)(hb:b<=1000){x:Option α}:gM m b x=x:=by
 have:m*b<=100000*1000:=Nat.mul_le_mul h hb
 show(bif _ then(bif _ then x else none) else none)=_
 rw[decide_eq_true (show m*b<=140737488355328 by omega),decide_eq_true (show m<=9223372036854775807 by omega)];rfl
theorem yTM{n m:Nat}(h:n<=m){x:Option α}:gd (Nat.ble n m) x=x:=by rw[Nat.ble_eq_true_of_le h];rfl
theorem yIr{p:Prop}[Decidable p](h:p){x:Option α}:gd (decide p) x=x:=by rw[decide_eq_true h];rfl
theorem take_len{l:List β}{n:Nat}(h:n=l.length):l.take n=l:=by subst h;exact List.take_length
end
def slV(s:Int×Int):List V:= [.int .i64 s.1,.int .i64 s.2]
theorem yW1(l:List (Int×Int)):yCL (l.map slV)=true:=List.all_eq_true.2 fun r hr=>by
 obtain⟨a,_,rfl⟩:=List.mem_map.1 hr
 rfl
theorem xSF{l:List (Int×Int)}(h:l.length<=1000):clR 2 (l.map slV)=some (l.map slV):=by
 unfold clR
 have:((l.map slV).all fun r=>Nat.beq r.length 2)=true:=List.all_eq_true.2 fun r hr=>by
  obtain⟨a,_,rfl⟩:=List.mem_map.1 hr
  rfl
 rw[this,yW1,Nat.ble_eq_true_of_le (by rw[List.length_map];omega)];rfl
theorem xQc{l:List (Int×Int)}{i:Nat}{k:Int}(hi:i<l.length):(l.map slV).set (0+i) (((l.map slV).getD (0+i) []).take 0++([V.int .i64 k]++((l.map slV).getD (0+i) []).drop 1))=(l.set i (k,l[i].2)).map slV:=by
 rw[Nat.zero_add,List.getD_eq_getElem?_getD,List.getElem?_map,List.getElem?_eq_getElem hi,List.map_set]
 rfl
abbrev hV:yAd->List V:=yAd.cs
theorem xAo(b:yAd):(hV b).all (nmB 20)=true:=rfl
theorem xT8(s:List (Int×Int)):yCL (s.map slV)=true:=yW1 s
theorem xAj{α:Type}{s:List (Int×Int)}{n:Nat}(hn:n=s.length){x:Option α}:gW (s.map slV) n x=x:=yHo (by rw[List.length_map];exact hn) (xT8 s)
theorem xMx{α:Type}{s:List (Int×Int)}{n:Nat}(hn:n<=s.length)(hl:s.length<=100000){x:Option α}:gF (s.map slV) n x=x:=yU0 (by rw[List.length_map];exact hn) (by omega) (xT8 s)
theorem xQs{α:Type}{c:Bool}{x y:α}:(bif !c then x else y)=bif c then y else x:=by cases c <;> rfl
theorem yUk{α:Type}{y:Option α}{n:Nat}(h:n=0):gW ([]:List (List V)) n y=y:=yHo (by rw[h];rfl) rfl
theorem xMw{α:Type}{y:Option α}{n:Nat}(h:n=0):gF ([]:List (List V)) n y=y:=yU0 (by rw[h];exact Nat.le_refl 0) (by omega) rfl
theorem xO6{L:Nat}(hL:200000<L){s:List (Int×Int)}(hs:s.length<=1000)(a b c d e f g h:Int):yGQ L (s.map slV,[],[],a,b,c,d,e,f,g,h,())=some ((),(s.map slV,[],[],a,b,c,d,e,f,g,h,())):=by
 obtain⟨M,rfl⟩:∃M,L=M+1:=⟨L-1,by omega⟩
 unfold yGQ yLa
 dsimp only
 rw[xAj (by rw[List.length_map]),yUk (by rfl),xMw (by rfl)]
 have e1:∀k,yAb (α:=Unit×((List (List V))×(List (List V))×(List (List V))×Int×Int×Int×Int×Int×Int×Int×Int×Unit)) (yDt (yRM (M+1))) (M+1) ((s.map slV,[],[],a,b,c,d,e,f,g,h,()),List.take ([]:List (List V)).length [],((([]:List (List V)).length:Nat):Int),0,()) k=
  gW (s.map slV) (s.map slV).length (gW [] ([]:List (List V)).length (gW [] ([]:List (List V)).length (k ((s.map slV,[],[],a,b,c,d,e,f,g,h,()),())))):=fun k=>rfl
 rw[e1]
 rw[xAj (by rw[List.length_map]),yUk (by rfl),yUk (by rfl)]
 dsimp only
 rw[xAj (by rw[List.length_map]),yUk (by rfl),yUk (by rfl)]
section
variable {L:Nat} {s:List (Int×Int)} {H Q l:List yAd} {i:Nat}
def tbl(s:List (Int×Int))(H Q:List yAd):yAG:=⟨s.map slV,H.map hV,Q.map hV⟩
theorem xQm(l:List yAd):((l.map hV).all fun r=>Nat.beq r.length 4)=true:=xR7 (e:=hV) fun _=>rfl
theorem xR8(l:List (Int×Int)):((l.map slV).all fun r=>Nat.beq r.length 2)=true:=xR7 (e:=slV) fun _=>rfl
theorem copy_eq(hs:s.length<=1000)(hl:H.length+Q.length<=10000):yFM L (tbl s H Q)=some (s.map slV,H.map hV,Q.map hV,()):=by
 unfold yFM yT0 tbl
 dsimp only
 rw[yCJ (xR8 s),xTX (by rw[List.length_map];omega) (by decide),yCJ (xQm H),xTX (by rw[List.length_map];omega) (by decide),yCJ (xQm Q),xTX (by rw[List.length_map];omega) (by decide),
  xAj (by rw[List.length_map];omega),xR1 xAo (by rw[List.length_map];omega),xR1 xAo (by rw[List.length_map];omega)]
theorem xNk(hL:200000<L)(hs:s.length<=1000):yPR L (tbl s [] [])=some (s.map slV,[],[],()):=by
 obtain⟨M,rfl⟩:∃M,L=M+1:=⟨L-1,by omega⟩
 unfold yPR ySU
 rw[copy_eq hs (by decide),yAA]
 simp only[List.map_nil]
 rw[xAj (by rw[List.length_map]),yUk (by rfl)]
 have e1:∀k,yAb (α:=(List (List V))×(List (List V))×(List (List V))×Unit) (yI6 (yOv (M+1))) (M+1) (tbl s [] [],yAG.z,(s.map slV,[],[],()),0,()) k=
  gW (s.map slV) (s.map slV).length (gW [] ([]:List (List V)).length (gW [] ([]:List (List V)).length (k (yAG.z,(s.map slV,[],[],()),())))):=fun k=>rfl
 rw[e1]
 rw[xAj (by rw[List.length_map]),yUk (by rfl),yUk (by rfl)]
 dsimp only
 rw[xAj (by rw[List.length_map]),yUk (by rfl),yUk (by rfl)]
theorem xMP(hL:200000<L)(k:Int):yOf L [] k=some ([],()):=by
 obtain⟨M,rfl⟩:∃M,L=M+1:=⟨L-1,by omega⟩
 rfl
end
theorem xMk{L:Nat}(hL:200000<L)(k:Int):yBF L [] (((((k,()),()),()),()),())=some []:=by
 obtain⟨M,rfl⟩:∃M,L=M+1:=⟨L-1,by omega⟩
 rfl
theorem yYI(b:Int×Int):rowIs yAr.ks [slV b] 0=true:=rfl
section
variable {L:Nat} {s:List (Int×Int)} {H Q l:List yAd} {i:Nat}
theorem xTK(h:i<s.length):aI (s.map slV) i 0=s[i].1:=congrArg asI (xDG h)
def yQk(s:List (Int×Int))(k:Int):Int×Bool:=bif decide (k<1) then(0,false) else match s.findIdx? (fun o=>o.1==k) with | none=>(0,false) | some i=>((i:Int),true)
theorem xFk{k:Int}(h:(yQk s k).2=true):∃i:Nat,i<s.length/\yQk s k=((i:Int),true):=by
 unfold yQk at h ⊢
 cases hk:decide (k<1) with
 | true=>rw[hk] at h;cases h
 | false=>
   rw[hk,cond_false] at h
   rw[cond_false]
   cases hf:s.findIdx? (fun o=>o.1==k) with
   | none=>rw[hf] at h;cases h
   | some i=>exact⟨i,(List.findIdx?_eq_some_iff_getElem.1 hf).1,rfl⟩
theorem xMs(hL:200000<L)(hs:s.length<=1000)(k:Int):yA8 L (s.map slV) ((k,()),())=some (match s.findIdx? (fun o=>o.1==k) with | none=> -1 | some i=>(i:Int)):=by
 unfold yA8 yB4
 rw[List.length_map]
 refine(yW8 s (fun o=>o.1==k) (fun i=>(s.map slV,((k,()),()),(s.length:Int),(i:Int),())) () (fun i=>((i:Int),())) (fun i hi kn ka kb=>?_) (fun kn ka kb=>?_) L 0 (Nat.zero_le _) (by omega) (fun j hj h=>absurd h (Nat.not_lt_zero _)) _ _).trans ?_
 ·show(bif decide ((i:Int)<(s.length:Int)) then _ else _)=_
  dsimp only
  rw[yAO (decide_eq_true (by omega)),xQI yYI hi]
  simp only[Int.toNat_natCast,xTK hi]
  rw[yAh (by omega) (by omega)]
  rfl
 ·show(bif decide ((s.length:Int)<(s.length:Int)) then _ else _)=_
  rw[yAF (decide_eq_false (by omega))]
 ·cases s.findIdx? (fun o=>o.1==k) <;> rfl
theorem xKt(hL:200000<L)(hs:s.length<=1000){t:yAG}(ht:t.Slots=s.map slV){k:Int}(hk1:1<=k):yEC L t k=some ((yQk s k).1,(yQk s k).2,()):=by
 unfold yEC yUK yQk
 rw[ht,decide_eq_false (show ¬k<1 by omega),cond_false,cond_false,xMs hL hs,yAA]
 cases s.findIdx? (fun o=>o.1==k) with
 | none=>rfl
 | some i=>
   dsimp only
   rw[yH4,show max (i:Int) 0=i by omega,show decide (0<=(i:Int))=true from decide_eq_true (by omega)]
theorem xOq(hL:200000<L)(hs:s.length<=1000){t:yAG}{x:yAJ}(ht:t.Slots=s.map slV){k:Int}(hk1:1<=k):yCH L ⟨t,x⟩ k=some ((yQk s k).1,(yQk s k).2,()):=by
 unfold yCH yMU
 dsimp only
 rw[xKt hL hs ht hk1,yAA]
theorem xFc(hL:200000<L)(hs:s.length<=1000){t:yAG}(ht:t.Slots=s.map slV)(k:Int):yGi L t k=some ((yQk s k).1,(yQk s k).2,()):=by
 unfold yGi yT3
 refine(yW8 s (fun o=>decide (1<=k)&&o.1==k) (fun i=>(k,t,(i:Int),())) () (fun i=>((i:Int),true,())) (fun i hi kn ka kb=>?_) (fun kn ka kb=>?_) L 0 (Nat.zero_le _) (by omega) (fun j hj h=>absurd h (Nat.not_lt_zero _)) _ _).trans ?_
 ·show(bif decide ((i:Int)<(t.Slots.length:Int)) then _ else _)=_
  dsimp only
  rw[ht,List.length_map,yAO (decide_eq_true (by omega)),xQI yYI hi]
  simp only[Int.toNat_natCast,xTK hi]
  rw[yAh (by omega) (by omega)]
  cases decide (1<=k) <;> rfl
 ·show(bif decide ((s.length:Int)<(t.Slots.length:Int)) then _ else _)=_
  rw[ht,List.length_map,yAF (decide_eq_false (by omega))]
 ·unfold yQk
  by_cases hk:k<1
  ·rw[decide_eq_true hk,cond_true]
   have:s.findIdx? (fun o=>decide (1<=k)&&o.1==k)=none:=List.findIdx?_eq_none_iff.2 fun x _=>by rw[decide_eq_false (show ¬1<=k by omega)];rfl
   rw[this]
  ·rw[decide_eq_false hk,cond_false]
   have:(fun o:Int×Int=>decide (1<=k)&&o.1==k)=fun o=>o.1==k:=by
    funext o;rw[decide_eq_true (show 1<=k by omega)];rfl
   rw[this]
   cases s.findIdx? (fun o=>o.1==k) <;> rfl
theorem xOB(h:i<s.length):(s.map slV).set (0+i) (((s.map slV).getD (0+i) []).take 0++([V.int .i64 0,V.int .i64 0]++((s.map slV).getD (0+i) []).drop 2))=(s.set i (0,0)).map slV:=by
 rw[Nat.zero_add,yE2 (yNJ h),List.map_set];rfl
theorem xQJ(h:i<s.length):s.getD i (0,0)=s[i]:=by rw[List.getD_eq_getElem?_getD,List.getElem?_eq_getElem h];rfl
theorem xOw(hL:200000<L)(hs:s.length<=1000)(hi:i<s.length)(a b c d e f g h:Int):
  yGP L (s.map slV,[],[],a,b,c,d,e,f,g,h,()) (i:Int)=some ((),((s.set i (0,0)).map slV,[],[],a,b,c,d,e,f,g,h,())):=by
 unfold yGP yLZ
 dsimp only
 simp only[Int.toNat_natCast]
 rw[xDN (by omega) (by rw[List.length_map];omega),yU1 (by rw[List.length_map];omega) (by rw[yNA (yNJ (show 0+i<s.length by omega))];rfl),yCJ (by rfl),yCJ (by rfl)]
 rw[xMk hL,yAA,yCJ (by rfl),yCJ (by rfl),yAA,
  xDN (by omega) (by rw[List.length_map];omega),yIr (by rw[List.length_map];omega),yTM (Nat.zero_le _),yTM (by rw[Nat.zero_add,yE2 (yNJ hi)];exact Nat.le_refl 2),xOB hi,xAj (by rw[List.length_map,List.length_set]),yUk (by rfl),yUk (by rfl),
  xO6 hL (by rw[List.length_set];exact hs),yAA]
 dsimp only
 rw[xAj (by rw[List.length_map]),yUk (by rfl),yUk (by rfl)]
theorem xNq(hL:200000<L)(hs:s.length<=1000)(hi:i<s.length):
  yPV L (tbl s [] []) (i:Int)=some ((s.set i (0,0)).map slV,[],[],()):=by
 unfold yPV ySV
 rw[copy_eq hs (by decide),yAA]
 simp only[List.map_nil]
 simp only[Int.toNat_natCast]
 rw[xDN (by omega) (by rw[List.length_map];omega),yU1 (by rw[List.length_map];omega) (by rw[yNA (yNJ (show 0+i<s.length by omega))];rfl),xMw (by rfl),List.take_nil,xMP hL,yAA,xMw (by rfl),yAA]
 dsimp only
 rw[xDN (by omega) (by rw[List.length_map];omega),yIr (by rw[List.length_map];omega),yTM (Nat.zero_le _),yTM (by rw[Nat.zero_add,yE2 (yNJ hi)];exact Nat.le_refl 2),xOB hi,
  xMx (by rw[List.length_map,List.length_set];omega) (by rw[List.length_set];omega),xMw (by rfl),xMw (by rfl),take_len (by rw[List.length_map,List.length_map,List.length_set]),List.take_nil]
 rw[show(⟨(s.set i (0,0)).map slV,[],[]⟩:yAG)=tbl (s.set i (0,0)) [] [] from rfl,xNk hL (by rw[List.length_set];exact hs),yAA]
 dsimp only
 rw[xAj (by rw[List.length_map]),yUk (by rfl),yUk (by rfl)]
end
section
variable {L:Nat} {s:List (Int×Int)} {H Q l:List yAd} {i:Nat}
theorem xMr(hL:200000<L)(hs:s.length<=1000):yA9 L (s.map slV) ()=some (match s.findIdx? (fun o=>o.1==0) with | none=> -1 | some i=>(i:Int)):=by
 unfold yA9 yB5
 rw[List.length_map]
 refine(yW8 s (fun o=>o.1==0) (fun i=>(s.map slV,(),(s.length:Int),(i:Int),())) () (fun i=>((i:Int),())) (fun i hi kn ka kb=>?_) (fun kn ka kb=>?_) L 0 (Nat.zero_le _) (by omega) (fun j hj h=>absurd h (Nat.not_lt_zero _)) _ _).trans ?_
 ·show(bif decide ((i:Int)<(s.length:Int)) then _ else _)=_
  dsimp only
  rw[yAO (decide_eq_true (by omega)),xQI yYI hi]
  show(bif aI (s.map slV) (i:Int).toNat 0==0 then _ else _)=_
  simp only[Int.toNat_natCast,xTK hi]
  rw[yAh (by omega) (by omega)]
  rfl
 ·show(bif decide ((s.length:Int)<(s.length:Int)) then _ else _)=_
  rw[yAF (decide_eq_false (by omega))]
 ·cases s.findIdx? (fun o=>o.1==0) <;> rfl
def xSa(s:List (Int×Int))(k:Int):List (Int×Int):=bif(yQk s k).2 then s else match s.findIdx? (fun o=>o.1==0) with | none=>s | some i=>s.set i (k,(s.getD i (0,0)).2)
theorem xPE(k:Int):(xSa s k).length=s.length:=by
 unfold xSa
 cases (yQk s k).2 with
 | true=>rfl
 | false=>cases s.findIdx? (fun o=>o.1==0) <;> simp
structure Tb where
 s:List (Int×Int)
 H:List yAd
 Q:List yAd
def Tb.t(a:Tb):yAG:=tbl a.s a.H a.Q
def Tb.ap(x:yAJ)(a:Tb)(c:yAc):Tb:=
 bif c.Kind==0 then⟨xSa a.s c.By,a.H,a.Q⟩
 else bif c.Kind==1 then bif(yQk a.s c.By).2 then⟨a.s.set (yQk a.s c.By).1.toNat (0,0),a.H,a.Q⟩ else a
 else a
theorem Tb.ap_s(x:yAJ)(a:Tb)(c:yAc):(a.ap x c).s.length=a.s.length:=by
 unfold Tb.ap
 cases c.Kind==0 with
 | true=>exact xPE _
 | false=>
   cases c.Kind==1 with
   | true=>cases (yQk a.s c.By).2 <;> simp
   | false=>rfl
theorem Tb.ap_z(x:yAJ)(a:Tb)(c:yAc):(a.ap x c).H=a.H/\(a.ap x c).Q=a.Q:=by
 unfold Tb.ap
 cases c.Kind==0 with
 | true=>exact⟨rfl,rfl⟩
 | false=>
   cases c.Kind==1 with
   | true=>cases (yQk a.s c.By).2 <;> exact⟨rfl,rfl⟩
   | false=>exact⟨rfl,rfl⟩
theorem xQz(hs:s.length<=1000):yIn L (s.map slV)=some (s.map slV):=xSF hs
theorem xQy(hl:l.length<=10000):yIm L (l.map hV)=some (l.map hV):=by
 show clR 4 (l.map hV)=_
 unfold clR
 rw[xQm,xTf xAo,Nat.ble_eq_true_of_le (by rw[List.length_map];omega)];rfl
theorem xKr{s:List (Int×Int)}{H Q:List yAd}{n:Nat}(hs:s.length<=1000)(hl:H.length+Q.length<=10000)(hn:n=s.length):
  gF (s.map slV) (0+n) (gF (H.map hV) (0+(H.map hV).length) (gF (Q.map hV) (0+(Q.map hV).length) (some (⟨(s.map slV).take n,(H.map hV).take (H.map hV).length,(Q.map hV).take (Q.map hV).length⟩:yAG))))=some (tbl s H Q):=by
 rw[xMx (by omega) (by omega),xR0 xAo (by rw[List.length_map];omega) (by omega),xR0 xAo (by rw[List.length_map];omega) (by omega),take_len (by rw[List.length_map];exact hn),take_len rfl,take_len rfl]
 rfl
set_option maxHeartbeats 1000000 in
theorem xOi(hL:200000<L)(x:yAJ)(a:Tb)(c:yAc)(hs:a.s.length<=1000)(hz:a.H= []/\a.Q= [])(hb:1<=c.By)(hk:c.Kind=0\/c.Kind=1):yDR L x a.t c=some (a.ap x c).t:=by
 obtain⟨s,H,Q⟩:=a
 dsimp only at hs hz
 obtain⟨rfl,rfl⟩:=hz
 have hl:([]:List yAd).length+([]:List yAd).length<=9000:=by decide
 unfold yDR ySj Tb.t tbl Tb.ap
 dsimp only
 have ht:∀(n:Nat),n=s.length->gF (s.map slV) (0+n) (gF (([]:List yAd).map hV) (0+(([]:List yAd).map hV).length) (gF (([]:List yAd).map hV) (0+(([]:List yAd).map hV).length) (some (⟨(s.map slV).take n,(([]:List yAd).map hV).take (([]:List yAd).map hV).length,(([]:List yAd).map hV).take (([]:List yAd).map hV).length⟩:yAG))))=some (tbl s [] []):=fun n hn=>xKr hs (by omega) hn
 rw[xQz hs,xQy (l:= []) (by decide),yAA,yAA,yAA]
 have pre:∀(y:Option yAG),gF (s.map slV) (0+(s.map slV).length) (gF (([]:List yAd).map hV) (0+(([]:List yAd).map hV).length) (gF (([]:List yAd).map hV) (0+(([]:List yAd).map hV).length) y))=y:=fun y=>by
  rw[xMx (by rw[List.length_map];omega) (by omega),xR0 xAo (by rw[List.length_map];omega) (by omega),xR0 xAo (by rw[List.length_map];omega) (by omega)]
 have hslot:=xOq (L:=L) hL hs (t:=⟨(s.map slV).take (s.map slV).length,(([]:List yAd).map hV).take (([]:List yAd).map hV).length,(([]:List yAd).map hV).take (([]:List yAd).map hV).length⟩) (x:=x) (take_len rfl) hb
 rcases hk with hk | hk
 ·rw[hk,yAF (by rfl),yAF (by rfl),yAO (by rfl),pre,hslot,yAA,xMx (by rw[List.length_map];omega) (by omega),take_len rfl,xMr hL hs,yAA]
  dsimp only
  rw[xQs,yAO (show((0:Int)==0)=true from rfl)]
  unfold xSa
  cases (yQk s c.By).2 with
  | true=>
    rw[cond_true,cond_true]
    have:=ht (s.map slV).length (List.length_map _)
    rw[take_len rfl] at this
    exact this
  | false=>
    rw[cond_false,cond_false]
    cases hf:s.findIdx? (fun o=>o.1==0) with
    | none=>
      dsimp only
      rw[yAF (by rfl)]
      have:=ht (s.map slV).length (List.length_map _)
      rw[take_len rfl] at this
      exact this
    | some i=>
      have hi:=(List.findIdx?_eq_some_iff_getElem.1 hf).1
      dsimp only
      simp only[Int.toNat_natCast]
      rw[yAO (decide_eq_true (by omega)),xDN (by omega) (by rw[List.length_map];omega),yIr (by rw[List.length_map];omega),yTM (Nat.zero_le _),yTM (by rw[Nat.zero_add,yE2 (yNJ hi)];exact Nat.le_succ 1),xQc hi,xKr (by rw[List.length_set];exact hs) (by omega) (by rw[List.length_map,List.length_set]),xQJ hi]
      rfl
 ·rw[hk,yAF (by rfl),yAF (by rfl),yAF (by rfl),yAO (by rfl),pre,hslot,yAA]
  dsimp only
  rw[yAF (show((1:Int)==0)=false from rfl),yAO (show((1:Int)==1)=true from rfl)]
  cases hm:(yQk s c.By).2 with
  | false=>
    rw[cond_false,cond_false]
    exact ht (s.map slV).length (List.length_map _)
  | true=>
    obtain⟨i,hi,he⟩:=xFk hm
    rw[cond_true,cond_true,he,xAj (by rw[List.length_map]),xR1 xAo (by rw[List.length_map]),xR1 xAo (by rw[List.length_map]),show(([]:List yAd).map hV)= [] from rfl,xOw hL hs hi,yAA]
    dsimp only
    simp only[Int.toNat_natCast]
    exact xKr (H:= []) (Q:= []) (by rw[List.length_set];exact hs) (by decide) (List.length_map _)
theorem xNi(hL:200000<L)(x:yAJ)(a:Tb)(c:yAc)(hs:a.s.length<=1000)(hz:a.H= []/\a.Q= [])(hk:c.Kind=0\/c.Kind=1):yC5 L x a.t c=some (a.ap x c).t:=by
 obtain⟨s,H,Q⟩:=a
 dsimp only at hs hz
 obtain⟨rfl,rfl⟩:=hz
 have hl:([]:List yAd).length+([]:List yAd).length<=9000:=by decide
 unfold yC5 yST Tb.t Tb.ap
 dsimp only
 have ht:∀{s':List (Int×Int)} {H' Q':List yAd},s'.length<=1000->H'.length+Q'.length<=10000->gF (s'.map slV) (0+(s'.map slV).length) (gF (H'.map hV) (0+(H'.map hV).length) (gF (Q'.map hV) (0+(Q'.map hV).length) (some (⟨(s'.map slV).take (s'.map slV).length,(H'.map hV).take (H'.map hV).length,(Q'.map hV).take (Q'.map hV).length⟩:yAG))))=some (tbl s' H' Q'):=fun h1 h2=>xKr h1 h2 (List.length_map _)
 rw[xFc hL hs rfl,yAA,xFc hL hs rfl,yAA]
 rcases hk with hk | hk
 ·rw[hk,yAO (show((0:Int)==0)=true from rfl),yAO (show((0:Int)==0)=true from rfl)]
  unfold xSa
  cases hm:(yQk s c.By).2 with
  | true=>
    obtain⟨n,rfl⟩:∃n,L=n+1:=⟨L-1,by omega⟩
    show(bif decide ((0:Int)<((s.map slV).length:Int)) then _ else _)=_
    cases decide ((0:Int)<((s.map slV).length:Int)) <;> rfl
  | false=>
    rw[cond_false]
    refine(yW8 s (fun o=>o.1==0) (fun i=>(tbl s [] [],c,yAG.z,false,(i:Int),())) (tbl s [] [],yAG.z,()) (fun i=>(tbl (s.set i (c.By,(s.getD i (0,0)).2)) [] [],())) (fun i hi kn ka kb=>?_) (fun kn ka kb=>?_) L 0 (Nat.zero_le _) (by omega) (fun j hj h=>absurd h (Nat.not_lt_zero _)) _ _).trans ?_
    ·show(bif decide ((i:Int)<((s.map slV).length:Int)) then _ else _)=_
     rw[List.length_map,yAO (decide_eq_true (by omega))]
     show(gI (s.map slV) yAr.ks (i:Int) (bif aI (s.map slV) (i:Int).toNat 0==0 then _ else _))=_
     rw[xQI yYI hi]
     simp only[Int.toNat_natCast,xTK hi]
     cases s[i].1==0 with
     | true=>
       rw[cond_true,cond_true,copy_eq hs (by omega),yAA]
       dsimp only
       rw[xDN (by omega) (by rw[List.length_map];omega),yIr (by rw[List.length_map];omega),yTM (Nat.zero_le _),yTM (by rw[Nat.zero_add,yE2 (yNJ hi)];exact Nat.le_succ 1),xQc hi,xMx (by rw[List.length_map,List.length_set];omega) (by rw[List.length_set];omega),xR0 xAo (by rw[List.length_map];omega) (by omega),xR0 xAo (by rw[List.length_map];omega) (by omega),
        take_len (by rw[List.length_map,List.length_map,List.length_set]),take_len rfl,xQJ hi]
       rfl
     | false=>
       rw[cond_false,cond_false]
       rw[yAh (by omega) (by omega)]
       rfl
    ·show(bif decide ((s.length:Int)<((s.map slV).length:Int)) then _ else _)=_
     rw[List.length_map,yAF (decide_eq_false (by omega))]
    ·cases s.findIdx? (fun o=>o.1==0) <;> rfl
 ·rw[hk,yAF (show((1:Int)==0)=false from rfl),yAF (show((1:Int)==0)=false from rfl),yAO (show((1:Int)==1)=true from rfl),yAO (show((1:Int)==1)=true from rfl)]
  cases hm:(yQk s c.By).2 with
  | false=>rfl
  | true=>
    obtain⟨i,hi,he⟩:=xFk hm
    rw[cond_true,cond_true,he,xNq hL hs hi,yAA]
    dsimp only
    simp only[Int.toNat_natCast]
    exact ht (H':= []) (Q':= []) (by rw[List.length_set];exact hs) (by decide)
end
structure PSt where
 s:List ByteArray
 p:yAH
 t:yAG
 d:Int
structure PGeo (x:yAJ) (N:Nat) (s:List ByteArray):Prop where
 may:(yAq x).may=true
 n:x.Nodes=N
 ok:SecOk s
 len:(s.length:Int)=(yAq x).total
theorem PGeo.set{x:yAJ}{N:Nat}{s:List ByteArray}(h:PGeo x N s)(k:Nat){b:ByteArray}(hb:b.size<=512):PGeo x N (s.set k b):=⟨h.may,h.n,h.ok.set k hb,by rw[List.length_set];exact h.len⟩
theorem PGeo.bd{x:yAJ}{N:Nat}{s:List ByteArray}(h:PGeo x N s):1<=N/\N<=16/\8<=x.Log/\x.Log<=512/\1<=x.Slots/\x.Slots<=16/\8*x.Slots<=x.Log/\1+2*(N:Int)+x.Log<=s.length:=by
 have hok:=Geo.may_ok h.may
 have n1:1<=x.Nodes:=hok.n1
 have n2:x.Nodes<=16:=hok.n2
 have s1:1<=x.Slots:=hok.s1
 have s2:x.Slots<=x.Nodes:=hok.s2
 have l1:8*x.Slots<=x.Log:=hok.l1
 have l2:x.Log<=512:=hok.l2
 have hn:=h.n
 have ht:=yUf hok
 have hs:=hok.sj
 have e:(yAq x).atD=1+2*x.Nodes+x.Log+(yAq x).slots*(1+(yAq x).journal):=rfl
 have hl:=h.len
 omega
section
variable {L:Nat} [yFf L] {x:yAJ} {N:Nat} {a:PSt} {own:yAc} {c:yAc} {t':yAG} {r:yAp}
end
section
variable {L N:Nat} [yFf L] {x:yAJ}
end
section
variable {L N:Nat} [yFf L] {x:yAJ} {s:List ByteArray} {t:yAG} {d:Int} {n:Nat} {R:Nat->yAp} {cmd:ByteArray} {own:yAc} {r:yAp}
end
def bhT(x:yAJ)(cs:List yAc):Tb:=cs.foldl (Tb.ap x) ⟨List.replicate x.Slots.toNat (0,0),[],[]⟩
section
variable {L:Nat} [yFf L] {x:yAJ}
theorem xSc(h0:0<=x.Slots)(h16:x.Slots<=16):yRD L x=some (bhT x []).t:=by
 have hL:200000<L:=yFf.h
 have nm:∀n:Nat,yCL (List.replicate n (slV (0,0)))=true:=fun n=>by
  have:=yW1 (List.replicate n (0,0))
  rwa [List.map_replicate] at this
 obtain⟨s,hs⟩:=Int.eq_ofNat_of_zero_le h0
 obtain⟨a,ha,hrun⟩:=yHW (α:=yAG) (F:=yNO) (fun q=>x=q.1/\∃j:Nat,j<=s/\(j:Int)=q.2.2.2.1/\(List.replicate j (slV (0,0)),([]:List (List V)),([]:List (List V)),())=q.2.2.1) (fun q=>s-q.2.2.2.1.toNat) (fun a=>a.2.1=(List.replicate s (slV (0,0)),[],[],())) (fun q hq=>by
  obtain⟨q1,q2,q3,q4,q5⟩:=q
  obtain⟨rfl,j,hj,rfl,rfl⟩:=hq
  by_cases hlt:j<s
  ·refine .inl ⟨(x,q2,(List.replicate (j+1) (slV (0,0)),[],[],()),((j+1:Nat):Int),()),⟨rfl,j+1,hlt,rfl,rfl⟩,by dsimp only;omega,fun kn ka=>?_⟩
   have e:List.replicate j (slV (0,0))++ [[V.int .i64 0,V.int .i64 0]]=List.replicate (j+1) (slV (0,0)):=by rw[List.replicate_succ'];rfl
   show(bif decide ((j:Int)<x.Slots) then _ else _)=_
   rw[yAO (decide_eq_true (by omega))]
   show(bif decide ((j:Int)<16) then _ else _)=_
   rw[yAO (decide_eq_true (by omega))]
   simp only[gd,gI,gB,gL,gF,gW,gA,gM,List.length_replicate,e,nm,cond_true,Nat.zero_add,Nat.beq_refl,show decide ((j+1)*16<=140737488355328)=true from decide_eq_true (by omega),show decide (j+1<=9223372036854775807)=true from decide_eq_true (by omega),show Nat.ble (j+1) 2000000=true from Nat.ble_eq_true_of_le (by omega)]
   rw[yAh (by omega) (by omega)]
   rfl
  ·obtain rfl:j=s:=by omega
   refine .inr ⟨(q2,(List.replicate j (slV (0,0)),[],[],()),()),rfl,fun kn ka=>?_⟩
   show(bif decide ((j:Int)<x.Slots) then _ else _)=_
   rw[yAF (decide_eq_false (by omega))]
   simp only[gd,gI,gB,gL,gF,gW,gA,gM,List.length_replicate,nm,cond_true,Nat.beq_refl,show Nat.ble j 2000000=true from Nat.ble_eq_true_of_le (by omega)]) L (x,yAG.z,([],[],[],()),0,()) ⟨rfl,0,Nat.zero_le _,rfl,rfl⟩ (by dsimp only;omega)
 unfold yRD yVi
 rw[hrun]
 obtain⟨a1,a2,a3⟩:=a
 dsimp only at ha
 subst ha
 simp only[gd,gI,gB,gL,gF,gW,gA,gM,List.length_replicate,nm,cond_true,Nat.zero_add,show Nat.ble s s=true from Nat.ble_eq_true_of_le (Nat.le_refl _),show Nat.ble s 2000000=true from Nat.ble_eq_true_of_le (by omega)]
 unfold bhT Tb.t tbl
 rw[hs]
 dsimp only[List.foldl]
 rw[Int.toNat_natCast,List.map_replicate,List.take_of_length_le (by rw[List.length_replicate];exact Nat.le_refl _)]
 rfl
end
abbrev Tb.ap6:=Tb.ap
def bh6(x:yAJ)(cs:List yAc):Tb:=cs.foldl (Tb.ap6 x) ⟨List.replicate x.Slots.toNat (0,0),[],[]⟩
theorem xSN(x:yAJ)(cs:List yAc)(a:Tb):(cs.foldl (Tb.ap6 x) a).s.length=a.s.length/\(cs.foldl (Tb.ap6 x) a).H=a.H/\(cs.foldl (Tb.ap6 x) a).Q=a.Q:=by
 induction cs generalizing a with
 | nil=>exact⟨rfl,rfl,rfl⟩
 | cons c cs ih=>
   rw[List.foldl_cons]
   have h1:=ih (a.ap6 x c)
   have h2:=Tb.ap_z x a c
   exact⟨h1.1.trans (Tb.ap_s x a c),h1.2.1.trans h2.1,h1.2.2.trans h2.2⟩
theorem xOn(x:yAJ)(cs:List yAc):(bh6 x cs).H= []/\(bh6 x cs).Q= []:=(xSN x cs ⟨List.replicate x.Slots.toNat (0,0),[],[]⟩).2
theorem xOm(x:yAJ)(cs:List yAc):(bh6 x cs).s.length=x.Slots.toNat/\(bh6 x cs).H.length+(bh6 x cs).Q.length<=cs.length:=by
 have:=xSN x cs ⟨List.replicate x.Slots.toNat (0,0),[],[]⟩
 have h2:=xOn x cs
 rw[h2.1,h2.2]
 refine⟨?_,Nat.zero_le _⟩
 rw[List.length_replicate] at this
 exact this.1
theorem xQr(x:yAJ):bh6 x []=bhT x []:=rfl
section
variable {L:Nat} [yFf L] {x:yAJ} {cs:List yAc} {c:yAc}
theorem yRU.k01(h:yRU c):c.Kind=0\/c.Kind=1:=by
 obtain⟨-,-,-,h5 | h5⟩:=h
 ·exact h5.1
 ·exact absurd h5 (by decide)
theorem xMV(hs:x.Slots<=16)(hl:cs.length<=1000)(hc:yRU c):yDR L x (bh6 x cs).t c=some ((bh6 x cs).ap6 x c).t:=
 xOi yFf.h x _ c (by rw[(xOm x cs).1];omega) (xOn x cs) (by have:=hc.1.1;omega) hc.k01
theorem xLi(hs:x.Slots<=16)(hl:cs.length<=1000)(hc:yRU c):yC5 L x (bh6 x cs).t c=some ((bh6 x cs).ap6 x c).t:=
 xNi yFf.h x _ c (by rw[(xOm x cs).1];omega) (xOn x cs) hc.k01
end
def dvK(s:List ByteArray)(c:List (List V))(ks:List Int)(nx:Int):yAD:=⟨s.map txV,c,ks.map inV,nx,[]⟩
structure KeysOk (ks:List Int) (N:Nat) (nx:Int):Prop where
 len:ks.length=N
 n0:1<=nx
 n1:nx<=68719476736
 ok:∀i (h:i<ks.length),ks[i]=0\/16<=ks[i]/\ks[i]%16=i/\ks[i]/16<nx
section
variable {s:List ByteArray} {c:List (List V)} {ks:List Int} {nx:Int} {N L:Nat}
theorem KeysOk.lenV(h:KeysOk ks N nx):(ks.map inV).length=N:=by rw[List.length_map];exact h.len
theorem KeysOk.given(h:KeysOk ks N nx)(h2:N<=16){i:Nat}(hi:i<ks.length)(g1:16<=ks[i])(g2:ks[i]%16=i)(g3:ks[i]/16<nx):yBk L (dvK s c ks nx) ks[i]=some true:=by
 have hl:=h.len
 have n1:=h.n1
 unfold yBk ySN dvK
 dsimp only
 rw[h.lenV,yAO (decide_eq_true (by omega)),Int.tdiv_eq_ediv_of_nonneg (by omega),yAh (by omega) (by omega),yAO (decide_eq_true (by omega)),Int.tmod_eq_emod_of_nonneg (by omega),decide_eq_true (by omega)]
theorem xS0(hs:SecOk s)(hc:CE c N)(hk:KeysOk ks N nx)(h1:1<=N)(h2:N<=16)(hL:200000<L):yDr L (dvK s c ks nx)=some 0:=by
 have hm:=hs.m
 have hn:=hs.n
 have hcl:=hc.1
 have hn0:=hk.n0
 have hn1:=hk.n1
 have l0:=fun ka kb=>yQy (α:=Int) (F:=yEv) (fun k=>(dvK s c ks nx,(k:Int),())) s.length (dvK s c ks nx,()) (fun k hk' kn ka kb=>by
  unfold yEv dvK
  dsimp only
  have hz:=hs.z s[k] (List.getElem_mem hk')
  rw[List.length_map,yAO (decide_eq_true (by omega)),xTW (by omega) (by omega),Int.toNat_natCast,xR6 hk',yAF (decide_eq_false (by omega)),yAh (by omega) (by omega)]
  rfl) (fun kn ka kb=>by
  unfold yEv dvK
  dsimp only
  rw[List.length_map,yAF (decide_eq_false (by omega))]) s.length 0 L (Nat.zero_add _) (by omega) ka kb
 have l1:=fun ka kb=>yQy (α:=Int) (F:=yEw (yHe L) (yBk L)) (fun k=>(dvK s c ks nx,(k:Int),())) N (dvK s c ks nx,()) (fun k hk' kn ka kb=>by
  have hkl:k<ks.length:=by rw[hk.len];exact hk'
  have hai:aI (ks.map inV) k 0=ks[k]:=yV3 hkl
  unfold yEw
  dsimp only
  rw[show(dvK s c ks nx).Keys=ks.map inV from rfl,show(dvK s c ks nx).Cache=c from rfl,hk.lenV,yAO (decide_eq_true (by omega)),hc.gI (by omega) (by omega),Int.toNat_natCast,hc.aR hk',xK5 (by omega),yAA,yAF (by rfl),yS0 (by omega) (by omega),hai]
  rcases hk.ok k hkl with h0 | ⟨g1,g2,g3⟩
  ·rw[h0,yAF (by rfl),yAh (by omega) (by omega)]
   rfl
  ·rw[yAO (by rw[bne_iff_ne];omega),yS0 (by omega) (by omega),hk.given (s:=s) (c:=c) (L:=L) h2 hkl g1 g2 g3,yAA,yAF (by rfl),yS0 (by omega) (by omega),
     show(ks[k]).tmod 16=(k:Int) by rw[Int.tmod_eq_emod_of_nonneg (by omega)];exact g2,yAF (by simp),yAh (by omega) (by omega)]
   rfl) (fun kn ka kb=>by
  unfold yEw
  dsimp only
  rw[show(dvK s c ks nx).Keys=ks.map inV from rfl,hk.lenV,yAF (decide_eq_false (by omega))]) N 0 L (Nat.zero_add _) (by omega) ka kb
 have l2:=fun ka kb=>yQy (α:=Int) (F:=yI4 (yBk L)) (fun k=>(dvK s c ks nx,(k:Int),())) 0 () (fun k hk'=>absurd hk' (Nat.not_lt_zero _)) (fun kn ka kb=>rfl) 0 0 L rfl (by omega) ka kb
 unfold yDr yRx
 rw[show(dvK s c ks nx).Keys=ks.map inV from rfl,show(dvK s c ks nx).Cache=c from rfl,show(dvK s c ks nx).S=s.map txV from rfl,show(dvK s c ks nx).Next=nx from rfl,hk.lenV,List.length_map,hcl,
  yAF (decide_eq_false (by omega)),yAF (decide_eq_false (by omega)),yAF (decide_eq_false (by omega)),yAF (by simp),yAF (decide_eq_false (by omega)),yAF (decide_eq_false (by omega))]
 exact(l0 _ _).trans ((l1 _ _).trans (l2 _ _))
theorem xTq(hs:SecOk s)(hc:CE c N)(hk:KeysOk ks N nx)(h1:1<=N)(h2:N<=16)(hL:200000<L){q:Int}(hq:1<=q):yHd L (dvK s c ks nx) [[V.int .i64 q]]=some false:=by
 have l1:=fun(α:Type) w (ka:_->Option α) kb=>yQy (α:=α) (F:=yDF) (fun k=>([[V.int .i64 q]],dvK s c ks nx,(w:Int),(k:Int),())) 0 ([[V.int .i64 q]],dvK s c ks nx,(w:Int),()) (fun k hk'=>absurd hk' (Nat.not_lt_zero _)) (fun kn ka kb=>rfl) 0 0 L rfl (by omega) ka kb
 have l0:=fun ka kb=>yQy (α:=Bool) (F:=yFI (yAf (yDF) L)) (fun k=>([[V.int .i64 q]],dvK s c ks nx,(k:Int),())) 1 () (fun k hk' kn ka kb=>by
  obtain rfl:k=0:=by omega
  unfold yFI
  dsimp only
  rw[yAO (by rfl),xQ7 (by omega) (by simp) (by rfl),show aI [[V.int .i64 q]] ((0:Nat):Int).toNat 0=q from rfl,yAF (decide_eq_false (by omega))]
  exact l1 _ 0 _ _) (fun kn ka kb=>rfl) 1 0 L rfl (by omega) ka kb
 exact l0 _ _
theorem xQ0(hs:SecOk s)(hc:CE c N)(hk:KeysOk ks N nx)(h1:1<=N)(h2:N<=16)(hL:200000<L):yFx L (dvK s c ks nx)=some (s.map txV,cE N,ks.map inV,nx,[],()):=by
 have hm:=hs.m
 have hcl:=hc.1
 have l0:=fun ka=>yWR (α:=(List (List V))×(List (List V))×(List (List V))×Int×(List (List V))×Unit) (F:=yDs) (fun k=>(dvK s c ks nx,yAD.z,(s.map txV,cE k,ks.map inV,nx,[],()),(k:Int),())) N
  (yAD.z,(s.map txV,cE N,ks.map inV,nx,[],()),()) (fun k hk' kn ka=>by
    unfold yDs
    dsimp only
    have hl:(cE k).length=k:=(yND k).1
    have ex:cE (k+1)=cE k++ [[V.sl [] false]]:=List.replicate_succ'
    have ef:xMR [(16,[])] (cE k++ [[V.bs 16 0 0 0]])=cE (k+1):=by
     rw[ex]
     unfold xMR
     rw[List.map_append]
     congr 1
     unfold cE
     rw[List.map_replicate];rfl
    have eo:xLH [(16,[])] (cE k++ [[V.bs 16 0 0 0]])=true:=by
     unfold xLH
     rw[List.all_append]
     have:((cE k).all fun r=>r.all (xO0 [(16,[])]))=true:=List.all_eq_true.2 fun r hr=>by rw[List.eq_of_mem_replicate hr];rfl
     rw[this];rfl
    rw[show(dvK s c ks nx).Cache=c from rfl,hcl,yAO (decide_eq_true (by omega)),hc.gI (by omega) (by omega),Int.toNat_natCast,hc.aR hk',yCJ (by rfl),xIZ (by decide) (by decide),hl,yCJ (by rw[Nat.zero_add];exact Nat.beq_refl _),xIZ (by omega) (by omega)]
    rw[yHo rfl (yQ2 _),show(0+([]:List (List V)).length)=0 from rfl,yCJ (by rw[List.length_append,hl];exact Nat.beq_refl _),yCJ eo,yHo rfl (yLd _),yHo rfl (by rfl),ef,yAh (by omega) (by omega)]
    rfl) (fun kn ka=>by
    unfold yDs
    dsimp only
    rw[show(dvK s c ks nx).Cache=c from rfl,hcl,yAF (decide_eq_false (by omega)),yHo rfl (yQ2 _),yHo rfl (yND N).nm,yHo rfl (yLd _),yHo rfl (by rfl)]) N 0 L (Nat.zero_add _) (by omega) ka
 unfold yFx yQb
 rw[show(dvK s c ks nx).Keys=ks.map inV from rfl,show(dvK s c ks nx).S=s.map txV from rfl,show(dvK s c ks nx).Next=nx from rfl,show(dvK s c ks nx).Fenced= [] from rfl,
  yCJ (xBh 1 fun _=>rfl),xIZ (by rw[List.length_map];omega) (by rw[List.length_map];omega),yCJ (xBh 1 fun _=>rfl),xIZ (by rw[hk.lenV];omega) (by rw[hk.lenV];omega),yCJ (by rfl),xIZ (by decide) (by decide),
  yHo (Nat.zero_add _) (yQ2 _),yHo (Nat.zero_add _) (yLd _),yHo (by rfl) (by rfl)]
 refine(l0 _).trans ?_
 dsimp only
 rw[yHo rfl (yQ2 _),yHo rfl (yND N).nm,yHo rfl (yLd _),yHo rfl (by rfl)]
end
section
variable {s:List ByteArray} {c:List (List V)} {ks:List Int} {nx:Int} {N L:Nat}
theorem xTS(hs:SecOk s)(hc:CE c N)(hk:KeysOk ks N nx)(h1:1<=N)(h2:N<=16)(hL:200000<L){n:Int}(n0:0<=n)(nN:n<N){a:yAV}(k1:1<=a.Kind)(k2:a.Kind<=6){z:yAD}{α:Type}(k0:_->Option α):
  yLy (yDr L) (n,dvK s c ks nx,a,z,()) k0=k0 (n,dvK s c ks nx,a,z,false,()):=by
 unfold yLy
 dsimp only
 rw[xS0 hs hc hk h1 h2 hL,yAA,yAF (by rfl),yAF (decide_eq_false (by omega)),show(dvK s c ks nx).Keys=ks.map inV from rfl,hk.lenV,yAF (decide_eq_false (by omega)),yAF (decide_eq_false (by omega)),decide_eq_false (by omega:¬6<a.Kind)]
theorem xT2(hs:SecOk s)(hc:CE c N)(hk:KeysOk ks N nx)(h1:1<=N)(h2:N<=16)(hL:200000<L){n:Int}(n0:0<=n)(nN:n<N){a:yAV}(hq:∀h:n.toNat<ks.length,1<=ks[n.toNat])(hkd:(a.Kind !=6)=true){z:yAD}{w:Bool}{α:Type}(k0:_->Option α)(ka):
  yJw (yHd L) (n,dvK s c ks nx,a,z,w,()) k0 ka=k0 (n,dvK s c ks nx,a,z,w,()):=by
 unfold yJw
 dsimp only
 obtain⟨i,rfl⟩:=Int.eq_ofNat_of_zero_le n0
 have hil:i<ks.length:=by rw[hk.len];omega
 have hq':1<=ks[i]:=hq hil
 rw[yAO hkd,show(dvK s c ks nx).Keys=ks.map inV from rfl,yS0 (by omega) (by rw[hk.len];omega),Int.toNat_natCast,yV3 (by rw[hk.len];omega),xTq hs hc hk h1 h2 hL hq',yAA,yAF (by rfl)]
theorem xTT(hs:SecOk s)(hc:CE c N)(hk:KeysOk ks N nx)(h1:1<=N)(h2:N<=16)(hL:200000<L){n:Int}{a:yAV}{z:yAD}{α:Type}(k0:_->Option α):
  yLz (yFx L) (n,dvK s c ks nx,a,z,()) k0=k0 (n,a,z,(s.map txV,cE N,ks.map inV,nx,[],()),()):=by
 unfold yLz
 dsimp only
 rw[xQ0 hs hc hk h1 h2 hL,yAA,yHo rfl (yQ2 _),yHo rfl (yND N).nm,yHo rfl (yLd _),yU0 (by simp) (by simp) (by rfl)]
 rfl
theorem xTU(hs:SecOk s)(hc:CE c N)(hk:KeysOk ks N nx)(h1:1<=N)(h2:N<=16)(hL:200000<L){n:Int}{a:yAV}{z:yAD}{α:Type}(k0:_->Option α):
  yL0 (yJy L) (n,a,z,(s.map txV,cE N,ks.map inV,nx,[],()),[],()) k0=k0 (n,a,z,(s.map txV,cE N,ks.map inV,nx,[],()),[],-1,()):=by
 unfold yL0
 dsimp only
 rw[xNc (by omega),yAA,yHo rfl (yQ2 _),yHo rfl (yND N).nm,yHo rfl (yLd _)]
theorem yZ9(hs:SecOk s)(hc:CE c N)(hk:KeysOk ks N nx)(h1:1<=N)(h2:N<=16)(hL:200000<L){n:Int}(n0:0<=n)(nN:n<N)(hq:∀h:n.toNat<ks.length,1<=ks[n.toNat]){k:Int}(k0:0<=k)(kl:k<s.length):yDV L (dvK s c ks nx) n ⟨1,k,noS,0⟩=some (dvK s (cE N) ks nx,s.getD k.toNat noS,0,()):=by
 have hm:=hs.m
 have hcl:=(yND N).1
 unfold yDV yRC
 rw[xTS hs hc hk h1 h2 hL n0 nN (by dsimp only;omega) (by dsimp only;omega)]
 rw[show ∀(α:Type) x ka kb,yJt (α:=α) (n,x,(⟨1,k,noS,0⟩:yAV),yAD.z,false,()) ka kb=ka (n,x,⟨1,k,noS,0⟩,yAD.z,()) from fun _ _ _ _=>rfl]
 rw[show ∀(α:Type) x ka,yJu (α:=α) (n,x,(⟨1,k,noS,0⟩:yAV),yAD.z,()) ka=ka (n,x,⟨1,k,noS,0⟩,yAD.z,false,()) from fun _ _ _=>rfl]
 rw[show ∀(α:Type) x ka,yGF (α:=α) (yBk L) (n,x,(⟨1,k,noS,0⟩:yAV),yAD.z,false,()) ka=ka (n,x,⟨1,k,noS,0⟩,yAD.z,false,false,()) from fun _ _ _=>rfl]
 rw[show ∀(α:Type) x ka kb,yJv (α:=α) (n,x,(⟨1,k,noS,0⟩:yAV),yAD.z,false,false,()) ka kb=ka (n,x,⟨1,k,noS,0⟩,yAD.z,false,()) from fun _ _ _ _=>rfl]
 rw[xT2 hs hc hk h1 h2 hL n0 nN hq (by rfl)]
 have p6:∀(α:Type) (ka:_->Option α),yGG (n,dvK s c ks nx,(⟨1,k,noS,0⟩:yAV),yAD.z,false,()) ka=ka (n,dvK s c ks nx,⟨1,k,noS,0⟩,yAD.z,false,()):=fun α ka=>by
  unfold yGG
  dsimp only
  rw[cond_false,yAO (by rfl),yAF (decide_eq_false (by omega)),show(dvK s c ks nx).S=s.map txV from rfl,List.length_map,decide_eq_false (by omega:¬(s.length:Int)<=k)]
 rw[p6]
 rw[show ∀(α:Type) x ka kb,yJx (α:=α) (n,x,(⟨1,k,noS,0⟩:yAV),yAD.z,false,()) ka kb=ka (n,x,⟨1,k,noS,0⟩,yAD.z,()) from fun _ _ _ _=>rfl]
 rw[xTT hs hc hk h1 h2 hL]
 dsimp only
 obtain⟨i,rfl⟩:=Int.eq_ofNat_of_zero_le n0
 obtain⟨v,rfl⟩:=Int.eq_ofNat_of_zero_le k0
 have hi:i<N:=by omega
 have hv:v<s.length:=by omega
 rw[hcl,xDN (by omega) (by omega),Nat.zero_add,Int.toNat_natCast,yU1 (by rw[hcl];exact hi) (by obtain⟨b,hb⟩:=(yND N).at_ hi;rw[yNA hb];rfl),yHo rfl (yQ2 _),yHo hcl.symm (yND N).nm,yHo rfl (yLd _),(yND N).aR hi,xTU hs hc hk h1 h2 hL]
 dsimp only
 rw[yAO (by rfl),yAF (by rfl),List.length_map,xDN (by omega) (by omega),Nat.zero_add,Int.toNat_natCast,yU1 (by rw[List.length_map];exact hv) (by rw[yNA (yNJ hv)];rfl),yU0 (by rw[List.length_map];omega) (by omega) (yQ2 _),Nat.zero_add,hcl,yU0 (by rw[hcl];omega) (by omega) (yND N).nm,Nat.zero_add,hk.lenV,yU0 (by rw[hk.lenV];omega) (by omega) (yLd _),xR6 hv]
 rw[List.take_of_length_le (by rw[List.length_map];omega),List.take_of_length_le (by omega),List.take_of_length_le (by rw[hk.lenV];omega),List.getD_eq_getElem?_getD,List.getElem?_eq_getElem hv]
 rfl
theorem xG5(hs:SecOk s)(hc:CE c N)(hk:KeysOk ks N nx)(h1:1<=N)(h2:N<=16)(hL:200000<L){n:Int}(n0:0<=n)(nN:n<N)(hq:∀h:n.toNat<ks.length,1<=ks[n.toNat]){k:Int}(k0:0<=k)(kl:k<s.length){b:ByteArray}(hb:b.size<=512):yDV L (dvK s c ks nx) n ⟨2,k,b,0⟩=some (dvK (s.set k.toNat b) (cE N) ks nx,noS,0,()):=by
 have hm:=hs.m
 have hcl:=(yND N).1
 unfold yDV yRC
 rw[xTS hs hc hk h1 h2 hL n0 nN (by dsimp only;omega) (by dsimp only;omega)]
 rw[show ∀(α:Type) x ka kb,yJt (α:=α) (n,x,(⟨2,k,b,0⟩:yAV),yAD.z,false,()) ka kb=ka (n,x,⟨2,k,b,0⟩,yAD.z,()) from fun _ _ _ _=>rfl]
 rw[show ∀(α:Type) x ka,yJu (α:=α) (n,x,(⟨2,k,b,0⟩:yAV),yAD.z,()) ka=ka (n,x,⟨2,k,b,0⟩,yAD.z,true,()) from fun _ _ _=>rfl]
 have p3:∀(α:Type) x (ka:_->Option α),yGF (yBk L) (n,x,(⟨2,k,b,0⟩:yAV),yAD.z,true,()) ka=ka (n,x,⟨2,k,b,0⟩,yAD.z,true,false,()):=fun α x ka=>by
  unfold yGF
  dsimp only
  rw[cond_true,yAF (decide_eq_false (by omega))]
  rfl
 rw[p3]
 rw[show ∀(α:Type) x ka kb,yJv (α:=α) (n,x,(⟨2,k,b,0⟩:yAV),yAD.z,true,false,()) ka kb=ka (n,x,⟨2,k,b,0⟩,yAD.z,true,()) from fun _ _ _ _=>rfl]
 rw[xT2 hs hc hk h1 h2 hL n0 nN hq (by rfl)]
 have p6:∀(α:Type) (ka:_->Option α),yGG (n,dvK s c ks nx,(⟨2,k,b,0⟩:yAV),yAD.z,true,()) ka=ka (n,dvK s c ks nx,⟨2,k,b,0⟩,yAD.z,false,()):=fun α ka=>by
  unfold yGG
  dsimp only
  rw[cond_true,yAF (decide_eq_false (by omega)),show(dvK s c ks nx).S=s.map txV from rfl,List.length_map,decide_eq_false (by omega:¬(s.length:Int)<=k)]
 rw[p6]
 rw[show ∀(α:Type) x ka kb,yJx (α:=α) (n,x,(⟨2,k,b,0⟩:yAV),yAD.z,false,()) ka kb=ka (n,x,⟨2,k,b,0⟩,yAD.z,()) from fun _ _ _ _=>rfl]
 rw[xTT hs hc hk h1 h2 hL]
 dsimp only
 obtain⟨i,rfl⟩:=Int.eq_ofNat_of_zero_le n0
 obtain⟨v,rfl⟩:=Int.eq_ofNat_of_zero_le k0
 have hi:i<N:=by omega
 have hv:v<s.length:=by omega
 have es:(s.map txV).set v (((s.map txV).getD v []).take 0++([V.str b]++((s.map txV).getD v []).drop 1))=(s.set v b).map txV:=by
  rw[List.map_set,yE2 (yNJ hv)];rfl
 rw[hcl,xDN (by omega) (by omega),Nat.zero_add,Int.toNat_natCast,yU1 (by rw[hcl];exact hi) (by obtain⟨b,hb⟩:=(yND N).at_ hi;rw[yNA hb];rfl),yHo rfl (yQ2 _),yHo hcl.symm (yND N).nm,yHo rfl (yLd _),(yND N).aR hi,xTU hs hc hk h1 h2 hL]
 dsimp only
 rw[yAF (by rfl),yAO (by rfl),List.length_map,xDN (by omega) (by omega),Nat.zero_add,Int.toNat_natCast,yCJ (decide_eq_true hv),yCJ (by rfl),yCJ (by rw[yE2 (yNJ hv)];rfl),yAF (by rfl),es,Nat.zero_add,
  yU0 (by rw[List.length_map,List.length_set];omega) (by omega) (yQ2 _),hcl,Nat.zero_add,yU0 (by rw[hcl];omega) (by omega) (yND N).nm,hk.lenV,Nat.zero_add,yU0 (by rw[hk.lenV];omega) (by omega) (yLd _)]
 rw[List.take_of_length_le (by rw[List.length_map,List.length_set];omega),List.take_of_length_le (by omega),List.take_of_length_le (by rw[hk.lenV];omega)]
 rfl
end
section
variable {s:List ByteArray} {c:List (List V)} {ks:List Int} {nx:Int} {N L:Nat}
theorem xRX(hs:SecOk s)(hc:CE c N)(hk:KeysOk ks N nx)(h1:1<=N)(h2:N<=16)(hL:200000<L){j:Nat}(hj:j<N)(hx:nx<68719476736):yDV L (dvK s c ks nx) j ⟨6,0,noS,0⟩=some (dvK s ((cE N).set j [V.sl [] true]) (ks.set j (16*nx+j)) (nx+1),mkS (leBytes 6 (16*nx+j).toNat),0,()):=by
 have hm:=hs.m
 have hcl:=(yND N).1
 have hj16:j<16:=by omega
 have hn0:=hk.n0
 have hjl:j<ks.length:=by rw[hk.len];exact hj
 unfold yDV yRC
 rw[xTS hs hc hk h1 h2 hL (by omega) (by omega) (by dsimp only;omega) (by dsimp only;omega)]
 rw[show ∀(α:Type) x ka kb,yJt (α:=α) ((j:Int),x,(⟨6,0,noS,0⟩:yAV),yAD.z,false,()) ka kb=ka ((j:Int),x,⟨6,0,noS,0⟩,yAD.z,()) from fun _ _ _ _=>rfl]
 rw[show ∀(α:Type) x ka,yJu (α:=α) ((j:Int),x,(⟨6,0,noS,0⟩:yAV),yAD.z,()) ka=ka ((j:Int),x,⟨6,0,noS,0⟩,yAD.z,false,()) from fun _ _ _=>rfl]
 have p3:∀(α:Type) (ka:_->Option α),yGF (yBk L) ((j:Int),dvK s c ks nx,(⟨6,0,noS,0⟩:yAV),yAD.z,false,()) ka=ka ((j:Int),dvK s c ks nx,⟨6,0,noS,0⟩,yAD.z,false,false,()):=fun α ka=>by
  unfold yGF
  dsimp only
  rw[cond_false,yAF (by rfl),yAO (by rfl),show(dvK s c ks nx).Next=nx from rfl,decide_eq_false (by omega:¬68719476736<=nx)]
 rw[p3]
 rw[show ∀(α:Type) x ka kb,yJv (α:=α) ((j:Int),x,(⟨6,0,noS,0⟩:yAV),yAD.z,false,false,()) ka kb=ka ((j:Int),x,⟨6,0,noS,0⟩,yAD.z,false,()) from fun _ _ _ _=>rfl]
 rw[show ∀(α:Type) f x ka kb,yJw (α:=α) f ((j:Int),x,(⟨6,0,noS,0⟩:yAV),yAD.z,false,()) ka kb=ka ((j:Int),x,⟨6,0,noS,0⟩,yAD.z,false,()) from fun _ _ _ _ _=>rfl]
 rw[show ∀(α:Type) x ka,yGG (α:=α) ((j:Int),x,(⟨6,0,noS,0⟩:yAV),yAD.z,false,()) ka=ka ((j:Int),x,⟨6,0,noS,0⟩,yAD.z,false,()) from fun _ _ _=>rfl]
 rw[show ∀(α:Type) x ka kb,yJx (α:=α) ((j:Int),x,(⟨6,0,noS,0⟩:yAV),yAD.z,false,()) ka kb=ka ((j:Int),x,⟨6,0,noS,0⟩,yAD.z,()) from fun _ _ _ _=>rfl]
 rw[xTT hs hc hk h1 h2 hL]
 dsimp only
 have hgk:(ks.map inV).getD j []=inV ks[j]:=yE2 (yNJ hjl)
 have hgc:(cE N).getD j []= [V.sl [] false]:=yE2 (by unfold cE;rw[List.getElem?_replicate,if_pos hj])
 have ek:(ks.map inV).set j (((ks.map inV).getD j []).take 0++([V.int .i64 (16*nx+j)]++((ks.map inV).getD j []).drop 1))=(ks.set j (16*nx+j)).map inV:=by
  rw[hgk,List.map_set];rfl
 have ec:(cE N).set j (((cE N).getD j []).take 0++([V.sl [] true]++((cE N).getD j []).drop 1))=(cE N).set j [V.sl [] true]:=by rw[hgc];rfl
 have ew:w64 (w64 (16*nx)+(j:Int))=16*nx+j:=by
  rw[yAh (n:=16*nx) (by omega) (by omega),yAh (by omega) (by omega)]
 have hce:=xSB N j
 have hP:=xJN (L:=L) (by omega) (w:=6) (wi:=6) (n:=16*nx+j) (b:= []) rfl (by omega) (by omega) (by omega) (by rw[xJA];omega) (by simp)
 have hP:yCh L [] 6 [[V.int .i64 (16*nx+j)]]=some ((leBytes 6 (16*nx+j).toNat).map byV,0,()):=hP
 have hkl2:((ks.set j (16*nx+j)).map inV).length=N:=by rw[List.length_map,List.length_set];exact hk.len
 rw[hcl,xDN (by omega) (by omega),Nat.zero_add,Int.toNat_natCast,yU1 (by rw[hcl];exact hj) (by obtain⟨b,hb⟩:=(yND N).at_ hj;rw[yNA hb];rfl),yHo rfl (yQ2 _),yHo hcl.symm (yND N).nm,yHo rfl (yLd _),(yND N).aR hj,xTU hs hc hk h1 h2 hL]
 dsimp only
 rw[yAF (by rfl),yAF (by rfl),yAF (by rfl),yAF (by rfl),yAF (by rfl),yAO (by rfl),hk.lenV,xDN (by omega) (by omega),Nat.zero_add,Int.toNat_natCast,yCJ (decide_eq_true hj),yCJ (by rfl),yCJ (by rw[hgk];rfl),hcl,xDN (by omega) (by omega),yCJ (decide_eq_true hj),yCJ (by rfl),yCJ (by rw[hgc];rfl),xDN (by omega) (by omega),ew,ek,ec,
  yU1 (by rw[hkl2];exact hj) (by rw[yNA (yNJ (by rw[List.length_set];exact hjl))];rfl),yV3 (by rw[List.length_set];exact hjl),List.getElem_set_self,hP,yAA]
 dsimp only
 rw[yCJ (Nat.ble_eq_true_of_le (by omega)),List.take_length,yCJ (yQr _),yO0,Nat.zero_add,yU0 (by omega) (by rw[List.length_map];omega) (yQ2 _),Nat.zero_add,yU0 (by rw[hce.1];omega) (by omega) hce.nm,yU0 (by rw[hkl2];omega) (by omega) (yLd _)]
 rw[List.take_length,List.take_of_length_le (by rw[hce.1];omega),List.take_of_length_le (by rw[hkl2];omega),yAh (by omega) (by omega)]
 rfl
end
theorem xRn{L:Nat}{x:yAJ}(h0:0<=x.Slots)(h16:x.Slots<=16):yRR L x=some (bh6 x []).t:=by
 have e:yEr false (yEr true x.Slots 0) 16=x.Slots:=by rw[xEI,yH4];omega
 have nm:yCL (List.replicate x.Slots.toNat [V.int .i64 0,V.int .i64 0])=true:=by
  have:=yW1 (List.replicate x.Slots.toNat (0,0))
  rwa [List.map_replicate] at this
 unfold yRR yVz
 rw[e,yIr h0,yIr (Int.le_refl _),yIr (by omega),yIr (by omega),yU0 (by rw[List.length_replicate];omega) (by omega) nm,List.take_of_length_le (by rw[List.length_replicate];exact Nat.le_refl _)]
 unfold bh6 Tb.t tbl
 dsimp only[List.foldl]
 rw[List.map_replicate]
 rfl
theorem KeysOk.set{ks:List Int}{N:Nat}{nx:Int}(h:KeysOk ks N nx){n:Nat}(hn:n<N)(h16:N<=16)(hx:nx<68719476736):KeysOk (ks.set n (16*nx+n)) N (nx+1):=
 ⟨by rw[List.length_set];exact h.len,by have:=h.n0;omega,by omega,fun i hi=>by
  have h0:=h.n0
  rw[List.getElem_set]
  by_cases e:n=i
  ·rw[if_pos e]
   exact .inr ⟨by omega,by omega,by omega⟩
  ·rw[if_neg e]
   have hi':i<ks.length:=by simpa using hi
   rcases h.ok i hi' with q | ⟨a,b,c⟩
   ·exact .inl q
   ·exact .inr ⟨a,b,by omega⟩⟩
theorem xTY{N:Nat}:KeysOk (List.replicate N 0) N 1:=⟨List.length_replicate,by omega,by omega,fun i hi=> .inl (List.getElem_replicate ..)⟩
theorem xTr{L N:Nat}{s:List ByteArray}(hs:SecOk s)(h1:1<=N)(h2:N<=16)(hL:200000<L):yTr L N (s.map txV)=some (s.map txV,List.replicate N [V.sl [] true],(List.replicate N (0:Int)).map inV,1,[],0,()):=by
 have hm:=hs.m
 have hc:CE (List.replicate N [V.sl [] true]) N:=⟨List.length_replicate ..,fun r hr=>⟨true,List.eq_of_mem_replicate hr⟩⟩
 have ek:List.replicate N [V.int .i64 0]=(List.replicate N (0:Int)).map inV:=by rw[List.map_replicate];rfl
 have hkl:((List.replicate N (0:Int)).map inV).length=N:=by simp
 have hck:=xS0 hs hc (xTY (N:=N)) h1 h2 hL
 unfold yTr yVd
 rw[yAF (decide_eq_false (by omega)),yAF (decide_eq_false (by omega)),yCJ (xBh 1 fun _=>rfl),xIZ (by rw[List.length_map];omega) (by rw[List.length_map];omega),Int.toNat_natCast,
  yIr (by omega),yIr (by omega),yIr (by omega),yIr (by omega),yIr (by omega),yIr (by omega),yIr (by omega),yIr (by omega),
  yU0 (by rw[List.length_map];omega) (by rw[List.length_map];omega) (yQ2 _),yU0 (by rw[hc.1];omega) (by omega) hc.nm,ek,yU0 (by rw[hkl];omega) (by omega) (yLd _),
  List.take_of_length_le (by rw[List.length_map];omega),List.take_of_length_le (by rw[hc.1];omega),List.take_of_length_le (by rw[hkl];omega)]
 show(yAB (yDr L (dvK s (List.replicate N [V.sl [] true]) (List.replicate N 0) 1)) _)=_
 rw[hck,yAA,yAF (by rfl),yHo (by rw[List.length_map];omega) (yQ2 _),yHo hc.1.symm hc.nm,yHo hkl.symm (yLd _)]
theorem xAp{g:Geo}(h:g.OK)(top hd:ByteArray){k:Nat}(k1:1<=k)(k2:(k:Int)<g.atJ):∀j:Nat,(heads g top hd j).getD k noS=noS
 | 0=>by
   unfold heads
   rw[List.getD_eq_getElem?_getD,List.getElem?_set_ne (by omega),List.getElem?_replicate]
   split <;> rfl
 | j+1=>by
   unfold heads
   have hne:(g.headS j).toNat≠k:=by
    unfold Geo.headS
    split
    ·have:0<=(j:Int)*(1+g.journal):=Int.mul_nonneg (by omega) (by have:=h.j1;have:=h.p1;omega)
     unfold Geo.atJ at*
     omega
    ·omega
   rw[List.getD_eq_getElem?_getD,List.getElem?_set_ne hne,←List.getD_eq_getElem?_getD]
   exact xAp h top hd k1 k2 j
structure First (g:Geo) (s:List ByteArray):Prop where
 ok:SecOk s
 len:(s.length:Int)=g.total
 no:∀k:Nat,1<=k->(k:Int)<g.atJ->s.getD k noS=noS
theorem xGd{g:Geo}(hm:g.may=true)(top hd:ByteArray):∀j:Nat,(j:Int)<=g.slots->(heads g top hd j).getD 0 noS=top
 | 0,_=>by
   have h:=Geo.may_ok hm
   unfold heads
   have hA:0<g.atD:=by unfold Geo.atD;have:=h.n1;have:=h.l1;have:=h.s1;have:=h.sj;omega
   have:=yUf h
   rw[List.getD_eq_getElem?_getD,List.getElem?_set_self (by rw[List.length_replicate];omega)];rfl
 | j+1,hj=>by
   have h:=Geo.may_ok hm
   unfold heads
   have hne:(g.headS j).toNat≠0:=by
    have n1:=h.n1
    have l1:=h.l1
    have s1:=h.s1
    unfold Geo.headS
    rw[if_pos ⟨hm,by omega,by omega⟩]
    have:0<=(j:Int)*(1+g.journal):=Int.mul_nonneg (by omega) (by have:=h.j1;have:=h.p1;omega)
    omega
   rw[List.getD_eq_getElem?_getD,List.getElem?_set_ne hne,←List.getD_eq_getElem?_getD]
   exact xGd hm top hd j (by omega)
theorem xRV{L:Nat}(hL:1000<L){c:yAc}(h:yRU c):yPW L (mkS (yKk c))=some (yUd c,0,()):=by
 obtain⟨y,h1,h2,h3⟩:=xIE c
 unfold yPW ySW
 rw[yTZ (by omega) h,yAA]
 dsimp only
 rw[show((0:Int) !=0)=false from rfl,cond_false,xEb hL (by omega),yAA,yWS,h2]
 unfold yUd
 rw[h2]
section
variable {s:List ByteArray} {b:Nat} {cs:List yAc}
end
section
variable {L N:Nat} [yFf L] {x:yAJ} {s:List ByteArray} {cs:List yAc} {C K:List (List V)} {y z:Int}
open Classical in
end
section
variable {L:Nat} [yFf L] {x:yAJ} {p:yAH} {t t':yAG} {done:Int} {c own:yAc} {r:yAp} {got:ByteArray}
theorem xQX(hc:yRU c)(hT:yC5 L x t c=some t')(hd0:0<=done)(hd:done<=100000):yIa L x t done (yUd c)=some (t',done+1,c,true,0,()):=by
 unfold yIa yP7
 rw[xSq hc,yAA]
 dsimp only
 rw[show((0:Int) !=0)=false from rfl,cond_false,Bool.not_true,cond_false,hT,yAA,yAh (by omega) (by omega)]
theorem xSs:yIa L x t done noS=some (t,done,yAc.z,false,0,()):=by
 have _:=(inferInstance:yFf L)
 unfold yIa yP7
 rw[xTl,yAA]
 rfl
theorem xNy(hc:yRU c)(hat:p.At=0)(hT:yC5 L x t c=some t')(hd0:0<=done)(hd:done<=100000)(ho:yCQ L p.Cmd=some (own,0,())):
  yCY L x p t done (yUd c)=some (xGw p,t',done+1,decide (c.By=own.By/\c.Serial=own.Serial),0,()):=by
 unfold yCY yF3 yNR yM1
 rw[hat,show((0:Int)==0)=true from rfl,cond_true,xQX hc hT hd0 hd,yAA]
 dsimp only
 rw[show((0:Int) !=0)=false from rfl,cond_false,ho,yAA,cond_true]
 dsimp only
 rw[show((0:Int)==0)=true from rfl,cond_true,xNg,yAA,yAA]
 rfl
theorem xLr(hm:(yAq x).may=true)(hat:p.At=0)(hd0:0<=done)(ho:yCQ L p.Cmd=some (own,0,())):
  yCY L x p t done noS=some (if(own.Kind=0\/own.Kind=2)/\x.Log-4*x.Slots<=done then(p,t,done,false,150,()) else(⟨p.Node,p.Cmd,1,p.I,p.Own,p.T⟩,t,done,false,0,())):=by
 have hok:=Geo.may_ok hm
 have s1:1<=x.Slots:=hok.s1
 have s2:x.Slots<=x.Nodes:=hok.s2
 have n2:x.Nodes<=16:=hok.n2
 have l1:8*x.Slots<=x.Log:=hok.l1
 have l2:x.Log<=512:=hok.l2
 have hA:yRF L own=some (decide (own.Kind=0\/own.Kind=2)):=by
  unfold yRF yT5
  by_cases h0:own.Kind=0
  ·rw[yAO (beq_iff_eq.2 h0),decide_eq_true (.inl h0)]
  ·rw[yAF (beq_eq_false_iff_ne.2 h0)]
   by_cases h2:own.Kind=2
   ·rw[beq_iff_eq.2 h2,decide_eq_true (.inr h2)]
   ·rw[beq_eq_false_iff_ne.2 h2,decide_eq_false (fun q=>q.elim h0 h2)]
 unfold yCY yF3 yNR yM1
 rw[hat,show((0:Int)==0)=true from rfl,cond_true,xSs,yAA]
 dsimp only
 rw[show((0:Int) !=0)=false from rfl,cond_false,ho,yAA,cond_false]
 dsimp only
 rw[show((0:Int)==0)=true from rfl,cond_true,hA,yAA]
 by_cases h0:own.Kind=0\/own.Kind=2
 ·rw[decide_eq_true h0,cond_true,xPV hm,yAA,yAh (by omega) (by omega)]
  by_cases h1:x.Log-4*x.Slots<=done
  ·rw[yAO (decide_eq_true h1),if_pos ⟨h0,h1⟩,yAA]
  ·rw[yAF (decide_eq_false h1),if_neg (fun q=>h1 q.2),yAA]
 ·rw[decide_eq_false h0,cond_false,if_neg (fun q=>h0 q.1),yAA]
theorem xNz(hat:p.At=1)(hr:yGh L got=some (r,0,())):
  yCY L x p t done got=some (if xAu p r done=0 then(p,t,done,false,150,()) else(⟨p.Node,p.Cmd,2,p.I,⟨(recAt r done).Inst,xAu p r done,(recAt r done).Bal,(recAt r done).Val⟩,p.T⟩,t,done,false,0,())):=by
 have hN:yOu L p.Node [[V.int .i64 (recAt r done).Mbal],[V.int .i64 p.T.Seen]]=some (xAu p r done):=xSw _ _ _
 unfold yCY yF3 yWv yVl
 rw[hat,show((1:Int)==0)=false from rfl,cond_false,show((1:Int)==1)=true from rfl,cond_true,hr,yAA]
 dsimp only
 rw[show((0:Int) !=0)=false from rfl,cond_false,xUJ,yAA,hN,yAA]
 by_cases h:xAu p r done=0
 ·rw[yAO (beq_iff_eq.2 h),if_pos h,yAA]
 ·rw[yAF (beq_eq_false_iff_ne.2 h),if_neg h,yAA]
theorem xA6(hn:p.Node<x.Nodes){k:Int}(k0:0<=k)(kN:k<=x.Nodes)(h16:x.Nodes<=16)(h5:p.At=3\/p.At=5):yHj L x p k=some (yZF x.Nodes p k):=by
 have _:=(inferInstance:yFf L)
 have hle:=xQU (node:=p.Node) hn kN
 unfold yHj yQe yUY yT6 yZF
 rw[xNh hn k0 kN h16,yAA]
 by_cases h:others p.Node k<x.Nodes
 ·rw[yAF (decide_eq_false (by omega)),if_pos h]
 ·rw[yAO (decide_eq_true (by omega)),if_neg h]
  dsimp only
  rw[xPR,yAA]
  by_cases h2:yUJ p.T=true
  ·rw[yAO h2,if_pos h2,yAA];rfl
  ·rw[yAF (by simpa using h2),if_neg h2,xPS]
   rcases h5 with e | e
   ·rw[e,show((3:Int)==5)=false from rfl,cond_false,yAA,yAA,if_neg (show ¬(3:Int)=5 by decide)]
   ·rw[e,show((5:Int)==5)=true from rfl,cond_true,yAA,if_pos (show(5:Int)=5 from rfl)]
theorem xJp(h16:x.Nodes<=16)(hn0:0<=p.Node)(hn:p.Node<x.Nodes)(hat:p.At=2\/p.At=4):yCY L x p t done got=some (xGx x.Nodes p,t,done,false,0,()):=by
 obtain⟨node,cmd,at_,i,own,T⟩:=p
 dsimp only at hn0 hn hat
 unfold yCY yF3 xGx xIN
 simp only[yH4]
 rcases hat with rfl | rfl
 ·rw[show((2:Int)==0)=false from rfl,cond_false,show((2:Int)==1)=false from rfl,cond_false,show((2:Int)==2)=true from rfl,cond_true,show IntKind.i8.wrap (2+1)=3 from rfl]
  rw[xA6 (p:=⟨node,cmd,3,i,own,⟨own.Inst,own.Mbal,own.Bal,own.Val,max T.Seen own.Mbal,false,false⟩⟩) hn (Int.le_refl 0) (by omega) h16 (.inl rfl),yAA];rfl
 ·rw[show((4:Int)==0)=false from rfl,cond_false,show((4:Int)==1)=false from rfl,cond_false,show((4:Int)==2)=false from rfl,cond_false,show((4:Int)==4)=true from rfl,cond_true,show IntKind.i8.wrap (4+1)=5 from rfl]
  rw[xA6 (p:=⟨node,cmd,5,i,own,⟨own.Inst,own.Mbal,own.Bal,own.Val,max T.Seen own.Mbal,false,false⟩⟩) hn (Int.le_refl 0) (by omega) h16 (.inr rfl),yAA];rfl
theorem xH8(h16:x.Nodes<=16)(hn:p.Node<x.Nodes)(hi0:0<=p.I)(hi:p.I<x.Nodes)(hat:p.At=3\/p.At=5)(hr:yGh L got=some (r,0,())):
  yCY L x p t done got=some (yVS x.Nodes p r,t,done,false,0,()):=by
 have hC:yLM L x p got=some (yVS x.Nodes p r,0,()):=by
  unfold yLM yPb yVS
  rw[hr,yAA]
  dsimp only
  rw[show((0:Int) !=0)=false from rfl,cond_false,xPQ,yAA,yAh (by omega) (by omega)]
  rw[xA6 (p:=⟨p.Node,p.Cmd,p.At,p.I,p.Own,yQB p.T r⟩) hn (by omega) (by omega) h16 hat,yAA]
 unfold yCY yF3
 rw[hC]
 rcases hat with e | e <;> rw[e] <;> rfl
theorem xNx(hc:yRU c)(hat:p.At=6)(hv:p.Own.Val=mkS (yKk c))(hT:yC5 L x t c=some t')(hd0:0<=done)(hd:done<=100000)(ho:yCQ L p.Cmd=some (own,0,())):
  yCY L x p t done got=some (xGw p,t',done+1,decide (c.By=own.By/\c.Serial=own.Serial),0,()):=by
 unfold yCY yF3
 rw[hat,show((6:Int)==0)=false from rfl,cond_false,show((6:Int)==1)=false from rfl,cond_false,show((6:Int)==2)=false from rfl,cond_false,show((6:Int)==4)=false from rfl,cond_false,show((6:Int)==3)=false from rfl,cond_false,show((6:Int)==5)=false from rfl,cond_false,show((6:Int)==6)=true from rfl,cond_true,hv,yTZ yQO hc,yAA,ho,yAA]
 dsimp only
 rw[show((0:Int) !=0)=false from rfl,cond_false,hT,yAA,show((0:Int)==0)=true from rfl,cond_true,xNg,yAA,yAh (by omega) (by omega)]
 rfl
theorem xDZ(hm:(yAq x).may=true)(hd0:0<=done)(hd:done<x.Log):yGk L x done=some ⟨1,1+2*x.Nodes+done,noS,0⟩:=by
 have _:=(inferInstance:yFf L)
 have hok:=Geo.may_ok hm
 have n1:1<=x.Nodes:=hok.n1
 unfold yGk yP8
 rw[yVT,yAA]
 unfold Geo.logS
 rw[if_pos ⟨hm,hd0,hd⟩,yAF (decide_eq_false (by show ¬1+2*x.Nodes+done<0;omega))];rfl
theorem xLf(hm:(yAq x).may=true)(hd:¬done<x.Log):yGk L x done=some yAV.z:=by
 have _:=(inferInstance:yFf L)
 unfold yGk yP8
 rw[yVT,yAA]
 unfold Geo.logS
 rw[if_neg (fun q=>hd q.2.2)];rfl
theorem xN1(hm:(yAq x).may=true)(hat:p.At=0)(hd0:0<=done)(hd:done<x.Log):yBw L x p done=some (⟨1,1+2*x.Nodes+done,noS,0⟩,0,()):=by
 have hok:=Geo.may_ok hm
 have n1:1<=x.Nodes:=hok.n1
 have hl:yES L x done=some (1+2*x.Nodes+done):=by
  rw[yVT]
  unfold Geo.logS
  rw[if_pos ⟨hm,hd0,hd⟩];rfl
 unfold yBw yF4
 rw[hat,show((0:Int)==0)=true from rfl,cond_true,hl,yAA,yAF (decide_eq_false (by omega)),xDZ hm hd0 hd,yAA]
theorem xLs(hm:(yAq x).may=true)(hat:p.At=0)(hd:¬done<x.Log):yBw L x p done=some (yAV.z,150,()):=by
 have _:=(inferInstance:yFf L)
 have hl:yES L x done=some (-1):=by
  rw[yVT]
  unfold Geo.logS
  rw[if_neg (fun q=>hd q.2.2)]
 unfold yBw yF4
 rw[hat,hl]
 rfl
theorem xN2(hm:(yAq x).may=true)(hat:p.At=1)(hn0:0<=p.Node)(hn:p.Node<x.Nodes):yBw L x p done=some (⟨1,1+x.Nodes+p.Node,noS,0⟩,0,()):=by
 have _:=(inferInstance:yFf L)
 have hp:yHc L x p.Node=some (1+x.Nodes+p.Node):=by
  rw[xA9]
  unfold Geo.paxosS
  rw[if_pos ⟨hm,hn0,hn⟩];rfl
 unfold yBw yF4 yOx yP9
 rw[hat,hp,show((1:Int)==0)=false from rfl,cond_false,show((1:Int)==1)=true from rfl,cond_true,yAA,yAF (decide_eq_false (by omega)),yAA]
theorem xN3(hm:(yAq x).may=true)(hat:p.At=2\/p.At=4)(hn0:0<=p.Node)(hn:p.Node<x.Nodes)(hr:xFz p.Own):yBw L x p done=some (⟨2,1+x.Nodes+p.Node,xF1 p.Own,0⟩,0,()):=by
 have hp:yHc L x p.Node=some (1+x.Nodes+p.Node):=by
  rw[xA9]
  unfold Geo.paxosS
  rw[if_pos ⟨hm,hn0,hn⟩];rfl
 have hF:yHi L (1+x.Nodes+p.Node) (xF1 p.Own) 0=some ⟨2,1+x.Nodes+p.Node,xF1 p.Own,0⟩:=by
  unfold yHi yOg
  rw[yAF (decide_eq_false (by omega)),show((0:Int) !=0)=false from rfl,cond_false]
 have hB:=xJJ (L:=L) hr
 unfold yBw yF4
 rcases hat with e | e
 ·rw[e,show((2:Int)==0)=false from rfl,cond_false,show((2:Int)==1)=false from rfl,cond_false,show((2:Int)==2)=true from rfl,cond_true,hB,yAA,hp,yAA]
  dsimp only
  rw[hF,yAA]
 ·rw[e,show((4:Int)==0)=false from rfl,cond_false,show((4:Int)==1)=false from rfl,cond_false,show((4:Int)==2)=false from rfl,cond_false,show((4:Int)==4)=true from rfl,cond_true,hB,yAA,hp,yAA]
  dsimp only
  rw[hF,yAA]
theorem xLt(hm:(yAq x).may=true)(hat:p.At=3\/p.At=5)(hn0:0<=p.I)(hn:p.I<x.Nodes):yBw L x p done=some (⟨1,1+x.Nodes+p.I,noS,0⟩,0,()):=by
 have _:=(inferInstance:yFf L)
 have hp:yHc L x p.I=some (1+x.Nodes+p.I):=by
  rw[xA9]
  unfold Geo.paxosS
  rw[if_pos ⟨hm,hn0,hn⟩];rfl
 have hR:yOx L (1+x.Nodes+p.I)=some ⟨1,1+x.Nodes+p.I,noS,0⟩:=by
  unfold yOx yP9
  rw[yAF (decide_eq_false (by omega))]
 unfold yBw yF4
 rcases hat with e | e
 ·rw[e,show((3:Int)==0)=false from rfl,cond_false,show((3:Int)==1)=false from rfl,cond_false,show((3:Int)==2)=false from rfl,cond_false,show((3:Int)==4)=false from rfl,cond_false,show((3:Int)==3)=true from rfl,cond_true,hp,yAA,hR,yAA]
 ·rw[e,show((5:Int)==0)=false from rfl,cond_false,show((5:Int)==1)=false from rfl,cond_false,show((5:Int)==2)=false from rfl,cond_false,show((5:Int)==4)=false from rfl,cond_false,show((5:Int)==3)=false from rfl,cond_false,show((5:Int)==5)=true from rfl,cond_true,hp,yAA,hR,yAA]
theorem xN0(hm:(yAq x).may=true)(hat:p.At=6)(hd0:0<=done)(hd:done<x.Log)(hc:yRU c)(hv:p.Own.Val=mkS (yKk c)):yBw L x p done=some (⟨2,1+2*x.Nodes+done,yUd c,0⟩,0,()):=by
 have hok:=Geo.may_ok hm
 have n1:1<=x.Nodes:=hok.n1
 have hl:yES L x done=some (1+2*x.Nodes+done):=by
  rw[yVT]
  unfold Geo.logS
  rw[if_pos ⟨hm,hd0,hd⟩];rfl
 have hF:yHi L (1+2*x.Nodes+done) (yUd c) 0=some ⟨2,1+2*x.Nodes+done,yUd c,0⟩:=by
  unfold yHi yOg
  rw[yAF (decide_eq_false (by omega)),show((0:Int) !=0)=false from rfl,cond_false]
 unfold yBw yF4
 rw[hat,hv,xRV hL3 hc,hl]
 show yAB (yHi L (1+2*x.Nodes+done) (yUd c) 0) _=_
 rw[hF];rfl
end
section
variable {L N:Nat} [yFf L] {x:yAJ} {s:List ByteArray} {t:yAG} {d:Int} {n:Nat} {R:Nat->yAp} {cmd:ByteArray} {own:yAc} {r:yAp}
end
theorem xRI{i m:Int}(h0:0<=i)(h1:i<=512)(h2:0<=m)(h3:m<=1099511627776):xFz ⟨i,m,0,noS⟩:=by
 show yYf i m 0 []=true
 unfold yYf xIY
 rw[decide_eq_true ⟨h0,h1⟩,decide_eq_true ⟨h2,h3⟩,decide_eq_true ⟨Int.le_refl 0,h2⟩]
 rfl
theorem xPB{i m:Int}{c:yAc}(h0:0<=i)(h1:i<=512)(h2:0<m)(h3:m<=1099511627776):xFz ⟨i,m,m,mkS (yKk c)⟩:=by
 show yYf i m m (mkS (yKk c)).data.toList=true
 have hl:=yRZ c
 have ht:=yRa c
 rw[yWS]
 unfold yYf xIY
 rw[decide_eq_true ⟨h0,h1⟩,decide_eq_true ⟨by omega,h3⟩,decide_eq_true ⟨by omega,Int.le_refl m⟩,show decide ((yKk c).length<=64)=true from decide_eq_true (by omega),show(m==0)=false from beq_eq_false_iff_ne.2 (by omega)]
 cases hc:yKk c with
 | nil=>rw[hc] at hl;simp at hl;omega
 | cons _ _=>rfl
def cN(n:Nat):yAc:=⟨0,17*(n:Int)+16,1,0,0,⟨0,0⟩,0⟩
abbrev cb(n:Nat):ByteArray:=mkS (yKk (cN n))
theorem get_set{s:List ByteArray}{i:Int}{b:ByteArray}(h0:0<=i)(h:i<s.length):(s.set i.toNat b).getD i.toNat noS=b:=by
 rw[List.getD_eq_getElem?_getD,List.getElem?_set_self (by omega)];rfl
section
variable {L N:Nat} [yFf L] {x:yAJ} {s:List ByteArray} {t:yAG}
end
theorem xIM{L:Nat}{x:yAJ}(hL:200000<L){xb:Bs}(h:yH3 1 [] xGZ (xIv (yAq x))=(xb,0))(hl:xb.length<=512):
  yDQ L 1 (mkS xb) [[V.int .i64 2],[V.int .i64 2],[V.int .i64 2],[V.int .i64 2],[V.int .i64 2],[V.int .i64 2],[V.int .i64 4],[V.int .i64 4]]=
   some ([[V.int .i64 x.Nodes],[V.int .i64 x.Slots],[V.int .i64 x.Blocks],[V.int .i64 x.Per],[V.int .i64 x.Journal],[V.int .i64 x.Log],[V.int .i64 x.Lease],[V.int .i64 x.Wait]],noS,0,()):=by
 have hf:fieldsR 1 xb xGZ=(xIv (yAq x),[],0):=by
  rcases yRl 1 [] xGZ (xIv (yAq x)) with e | ⟨b,y,e,h1,h2⟩
  ·rw[h] at e
   injection e with _ e
   cases e
  ·rw[h] at e
   injection e with e _
   subst e
   exact yNG (by omega) h1 h2
 have:=xAf (L:=L) (s:=mkS xb) (ws:=xGZ) (by omega) (by rw[yS3];omega) (by show(8:Nat)<L;omega) (by show(8:Nat)<=_;omega) 1
 rw[yWS,hf] at this
 exact this
theorem xOC{L:Nat}{x:yAJ}(hL:10<L)(hm:(yAq x).may=true):yHm L ⟨x⟩=some true:=by
 unfold yHm yMS
 dsimp only
 rw[yXY hL (yGx hm),hm]
 rfl
section
variable {L:Nat} {x:yAJ} {n:yAL}
theorem xMA(hL:200000<L)(hm:(yAq x).may=true){xb:Bs}(h:yH3 1 [] xGZ (xIv (yAq x))=(xb,0))(hl:xb.length<=512)(hn:n.At=1):yAU L x n (mkS xb)=some ({n with At:=2 },yAC.z,false,()):=by
 have hf:=xIM hL h hl
 have hs:=xOC (L:=L) (x:=x) (by omega) hm
 have e:∀(a b c d e f g h:Int),(⟨aI [[V.int .i64 a],[V.int .i64 b],[V.int .i64 c],[V.int .i64 d],[V.int .i64 e],[V.int .i64 f],[V.int .i64 g],[V.int .i64 h]] 0 0,aI [[V.int .i64 a],[V.int .i64 b],[V.int .i64 c],[V.int .i64 d],[V.int .i64 e],[V.int .i64 f],[V.int .i64 g],[V.int .i64 h]] 1 0,aI [[V.int .i64 a],[V.int .i64 b],[V.int .i64 c],[V.int .i64 d],[V.int .i64 e],[V.int .i64 f],[V.int .i64 g],[V.int .i64 h]] 2 0,aI [[V.int .i64 a],[V.int .i64 b],[V.int .i64 c],[V.int .i64 d],[V.int .i64 e],[V.int .i64 f],[V.int .i64 g],[V.int .i64 h]] 3 0,aI [[V.int .i64 a],[V.int .i64 b],[V.int .i64 c],[V.int .i64 d],[V.int .i64 e],[V.int .i64 f],[V.int .i64 g],[V.int .i64 h]] 4 0,aI [[V.int .i64 a],[V.int .i64 b],[V.int .i64 c],[V.int .i64 d],[V.int .i64 e],[V.int .i64 f],[V.int .i64 g],[V.int .i64 h]] 5 0,aI [[V.int .i64 a],[V.int .i64 b],[V.int .i64 c],[V.int .i64 d],[V.int .i64 e],[V.int .i64 f],[V.int .i64 g],[V.int .i64 h]] 6 0,aI [[V.int .i64 a],[V.int .i64 b],[V.int .i64 c],[V.int .i64 d],[V.int .i64 e],[V.int .i64 f],[V.int .i64 g],[V.int .i64 h]] 7 0⟩:yAJ)=⟨a,b,c,d,e,f,g,h⟩:=fun _ _ _ _ _ _ _ _=>rfl
 unfold yAU yCB
 rw[hn,yAF (by rfl),yAF (by rfl),yAF (by rfl),yAO (by rfl),hf,yAA]
 dsimp only
 rw[yAO (by rfl),yCJ (by rfl),yU1 (by simp) (by rfl),yCJ (by rfl),yU1 (by simp) (by rfl),yCJ (by rfl),yU1 (by simp) (by rfl),yCJ (by rfl),yU1 (by simp) (by rfl),yCJ (by rfl),yU1 (by simp) (by rfl),yCJ (by rfl),yU1 (by simp) (by rfl),yCJ (by rfl),yU1 (by simp) (by rfl),yCJ (by rfl),yU1 (by simp) (by rfl),yAF (by rfl),beq_self_eq_true,Bool.not_true,cond_false,e]
 rw[show(⟨x.Nodes,x.Slots,x.Blocks,x.Per,x.Journal,x.Log,x.Lease,x.Wait⟩:yAJ)=x from rfl,hs,yAA,Bool.not_true,cond_false]
 rw[yAF (by
  show(!((x.Nodes==x.Nodes)&&((x.Slots==x.Slots)&&((x.Blocks==x.Blocks)&&((x.Per==x.Per)&&((x.Journal==x.Journal)&&((x.Log==x.Log)&&((x.Lease==x.Lease)&&((x.Wait==x.Wait)&&true)))))))))=false
  simp only[beq_self_eq_true,Bool.and_self,Bool.not_true])]
theorem xL9(hn:n.At=2)(got:ByteArray):yAU L x n got=some ({n with Asked:=n.Clock,Count:=1,At:=3 },yAC.z,false,()):=by
 unfold yAU yCB
 rw[hn]
 rfl
theorem xP1(hn:n.At=0):yBP L x n=some ⟨6,0,noS,0⟩:=by
 unfold yBP yDY
 rw[hn]
 rfl
theorem xMO(hn:n.At=1):yBP L x n=some ⟨1,0,noS,0⟩:=by
 unfold yBP yDY
 rw[hn]
 rfl
end
theorem xPM{L:Nat}(hL:10<L){d:Int}(d0:0<=d)(d1:d<=1099511627776):xAx L (mkS (leBytes 6 d.toNat)) 6=some ([[V.int .i64 d]],0,()):=by
 have hsz:((mkS (leBytes 6 d.toNat)).size:Int)=6:=by rw[yS3,yAI];rfl
 have G1:yCC L (mkS (leBytes 6 d.toNat)) 0 6=some (d,0,()):=by
  have:=xEN (L:=L) (w:=6) hL (n:=d) (t:= []) (by omega) (by omega) d0 (by rw[xJA];omega) (by simp)
  rw[List.append_nil] at this
  exact this
 obtain⟨m,hm⟩:∃m,L=m+1+1:=⟨L-2,by omega⟩
 have e1:∀(ka:yNK->Option (List (List V)×Int×Unit)) kb,yAf (yC4 (yCC L)) (m+1+1) (mkS (leBytes 6 d.toNat),6,[],0,()) ka kb=yAf (yC4 (yCC L)) (m+1) (mkS (leBytes 6 d.toNat),6,[d].map inV,6,()) ka kb:=fun ka kb=>by
  show yC4 (yCC L) (mkS (leBytes 6 d.toNat),6,[],0,()) (fun s'=>yAf (yC4 (yCC L)) (m+1) s' ka kb) ka kb=_
  unfold yC4
  dsimp only
  rw[yAO (decide_eq_true (by omega)),G1,yAA,show((0:Int) !=0)=false from rfl,cond_false,yCJ (by rfl),xIZ (by decide) (by decide),xTJ (by rfl) (by decide) (by rfl),yAh (by omega) (by omega)]
  rfl
 have e2:∀(ka:yNK->Option (List (List V)×Int×Unit)) kb,yAf (yC4 (yCC L)) (m+1) (mkS (leBytes 6 d.toNat),6,[d].map inV,6,()) ka kb=ka ([d].map inV,()):=fun ka kb=>by
  show yC4 (yCC L) (mkS (leBytes 6 d.toNat),6,[d].map inV,6,()) (fun s'=>yAf (yC4 (yCC L)) m s' ka kb) ka kb=_
  unfold yC4
  dsimp only
  rw[yAF (decide_eq_false (by omega)),xTJ rfl (by simp) (yLd _)]
 unfold xAx xAy
 rw[show yEO L 6=some true from rfl,yAA,Bool.not_true,cond_false,yCJ (by rfl),hsz,yAF (by rfl)]
 rw[show yAf (α:=List (List V)×Int×Unit) (yC4 (yCC L)) L=yAf (yC4 (yCC L)) (m+1+1) by rw[←hm]]
 refine(e1 _ _).trans ((e2 _ _).trans ?_)
 dsimp only
 rw[yU0 (by simp) (by simp) (yLd _),List.take_length]
 rfl
section
variable {L:Nat} {x:yAJ} {n:yAL}
end
section
variable {L:Nat} {x:yAJ} {n:yAL} {c:yAc} {t':yAG}
theorem xNH(hm:(yAq x).may=true)(hL:10<L)(h0:0<=n.Done)(h1:n.Done<x.Log):yGA L x n.Done=some (1+2*x.Nodes+n.Done):=by
 rw[yTL hL (yGx hm)]
 unfold Geo.logS
 rw[if_pos ⟨hm,h0,h1⟩]
 rfl
theorem xL8[yFf L](hL:200000<L)(hm:(yAq x).may=true)(hn:n.At=3)(h0:0<=n.Done)(h1:n.Done<x.Log)(hc:yRU c)(hT:yDR L x n.Table c=some t'):yAU L x n (yUd c)=some ({n with Table:=t',Done:=n.Done+1 },yAC.z,false,()):=by
 have hok:=Geo.may_ok hm
 have l2:x.Log<=512:=hok.l2
 have n1:1<=x.Nodes:=hok.n1
 have hl:yC3 L x n.Table n.Done (yUd c)=some (t',n.Done+1,c,true,0,()):=by
  unfold yC3 yHV
  rw[xAY hc,yAA]
  dsimp only
  rw[show((0:Int)==0)=true from rfl,cond_true,cond_true,hT,yAA,yAh (by omega) (by omega)]
 unfold yAU yCB
 rw[hn,yAF (by rfl),yAF (by rfl),yAF (by rfl),yAF (by rfl),yAF (by rfl),yAO (by rfl),xNH hm (by omega) h0 h1,yAA,yAO (decide_eq_true (by omega)),hl,yAA]
 rfl
theorem xPn[yFf L](hL:200000<L)(hm:(yAq x).may=true)(hn:n.At=3)(hk:n.Op.Kind≠0)(h0:0<=n.Done)(h1:n.Done<=x.Log):yAU L x n noS=some ({n with At:=0,P:=yAH.z,St:=yAE.z },yAC.z,true,()):=by
 have hkb:(n.Op.Kind==0)=false:=beq_eq_false_iff_ne.2 hk
 have hok:=Geo.may_ok hm
 have n1:1<=x.Nodes:=hok.n1
 unfold yAU yCB
 rw[hn,yAF (by rfl),yAF (by rfl),yAF (by rfl),yAF (by rfl),yAF (by rfl),yAO (by rfl)]
 by_cases hlt:n.Done<x.Log
 ·have hl:yC3 L x n.Table n.Done noS=some (n.Table,n.Done,yAc.z,false,0,()):=by
    unfold yC3 yHV
    rw[yXX,yAA]
    rfl
  rw[xNH hm (by omega) h0 hlt,yAA,yAO (decide_eq_true (by omega)),hl,yAA]
  dsimp only
  rw[yAF (by rfl),cond_false,hkb]
  rfl
 ·have hg:yGA L x n.Done=some (-1):=by
    rw[yTL (by omega) (yGx hm)]
    unfold Geo.logS
    rw[if_neg (fun q=>hlt q.2.2)]
  rw[hg,yAA,yAF (by rfl),hkb]
  rfl
end
def lsB(key:Int):Bs:=(yH3 3 [] [6,6] [key,1]).1
theorem xI5{key:Int}(h0:1<=key)(h1:key<=1099511627776):yH3 3 [] [6,6] [key,1]=(lsB key,0)/\(lsB key).length<=512:=by
 obtain⟨y,h,hl⟩:=xEH (k:=3) (ws:= [6,6]) (l:= [key,1]) (by omega) rfl (fun i hi hi'=>by
  match i,hi with
  | 0,_=>exact yO7 (w:=6) (by omega) (by omega) (by simp;omega) (by simp;omega) (by simp;omega)
  | 1,_=>exact yO7 (w:=6) (by omega) (by omega) (by simp) (by simp) (by simp)) (by decide)
 unfold lsB
 rw[h]
 exact⟨rfl,hl⟩
section
variable {L:Nat} {x:yAJ} {n:yAL} {key:Int}
theorem xQq(hL:200000<L)(h0:1<=key)(h1:key<=1099511627776):yQo L key 1=some (mkS (lsB key),0,()):=by
 have:=xNK (L:=L) (k:=3) (rest:=noS) (ws:= [6,6]) (l:= [key,1]) (by omega) (by show(2:Nat)<L;omega) (by simp) (by show(0:Nat)<=_;omega)
 rw[show noS.data.toList= [] from rfl,(xI5 h0 h1).1] at this
 unfold yQo yS9
 rw[yAF (decide_eq_false (by rw[xEI];omega))]
 exact(congrArg (fun o=>yAB o fun r1=>some (r1.1,r1.2.1,())) this).trans rfl
theorem xMy{L:Nat}(hL:10<L){x:yAJ}(hw:xLS x.Wait=true)(i:Int):yQv L x i=some ((yAq x).leaseS i):=by
 unfold yQv yVM Geo.leaseS
 cases hm:(yAq x).may with
 | false=>rw[xRM hL hw hm,yAA,if_neg (by simp)]
 | true=>
   have h:=Geo.may_ok hm
   have n1:1<=x.Nodes:=h.n1
   have n2:x.Nodes<=16:=h.n2
   rw[xNV hL hw hm (a:=1) (m:=x.Nodes) rfl (by omega) (by omega) (by omega) (by omega),yAA]
   by_cases hi:0<=i/\i<x.Nodes
   ·rw[if_pos hi,if_pos ⟨rfl,hi⟩]
   ·rw[if_neg hi,if_neg fun q=>hi q.2]
theorem xMN(hL:200000<L)(hm:(yAq x).may=true)(hn:n.At=2)(h0:1<=n.Key)(h1:n.Key<=1099511627776)(hu:0<=n.Num)(hu2:n.Num<x.Nodes):yBP L x n=some ⟨2,1+n.Num,mkS (lsB n.Key),0⟩:=by
 have hg:yQv L x n.Num=some (1+n.Num):=by
  rw[xMy (by omega) (yGx hm)]
  unfold Geo.leaseS
  rw[if_pos ⟨hm,hu,hu2⟩]
 unfold yBP yDY
 rw[hn,yAF (by rfl),yAF (by rfl),yAO (by rfl),xQq hL h0 h1,yAA,hg,yAA,yAO (by rfl),yAO (decide_eq_true (by omega))]
end
section
variable {L:Nat} {x:yAJ} {n n' nn z2:yAL} {d d' z1:yAD} {b b' z3:yAC} {a:yAV} {got:ByteArray} {o:Bool} {most acts:Int} {α:Type}
end
end Go.Proofs.YtakljpcmbpaeaaaGreat
