/- The steps of a proposal: what paxos.Want, paxos.Take come to, place by place, are the protocol's steps. -/
import Derived.Test.YtakljpcmbpaeaaaGreatPaxosOneM42
import Derived.Test.YtakljpcmbpaeaaaGreatPaxosOneM41
set_option linter.unusedSimpArgs false
set_option linter.unusedVariables false
namespace Go.Proofs.YtakljpcmbpaeaaaGreat
open Go.RowKit
theorem minI_max{a b:Int}:minI true a b=max a b:=by
 unfold minI
 simp only [if_true]
 split <;> omega
theorem cStops_eq{L:Nat}(t:yAg):yIA L t=some (tStops t):=by
 unfold yIA yM8 tStops
 obtain⟨a,b,c,d,e,f,g⟩:=t
 cases f <;> cases g <;> rfl
theorem cValue_eq{L:Nat}(t:yAg)(c:ByteArray):yIB L t c=some (if 0<t.Best then t.Val else c):=by
 unfold yIB yM9
 by_cases h:0<t.Best
 ·rw [if_pos h,decide_eq_true h];rfl
 ·rw [if_neg h,decide_eq_false h];rfl
theorem cOthers_eq{L:Nat}{x:yAN}{node k:Int}(hL:200000<L)(h0:0≤node)(hN:node<x.Nodes)(k0:0≤k)(kN:k≤x.Nodes)(h16:x.Nodes≤16):yGX L x node k=some (others node k):=by
 unfold yGX yMD
 rw [minI_max,show max k 0=k by omega]
 obtain⟨M,rfl⟩:∃M,L=M+2:=⟨L-2,by omega⟩
 unfold others
 have F:∀(m:Nat) (k:Int) (ka:yAN×Unit→Option Int) (kb:Int×Unit→Option Int),loop2 yDX (m+1) (node,x,k,()) ka kb=(bif decide (k<x.Nodes) then bif k !=node then kb (k,()) else loop2 yDX m (node,x,IntKind.i64.wrap (k+1),()) ka kb else ka (x,())):=fun m k ka kb=>rfl
 rw [F]
 by_cases h1:k<x.Nodes
 ·rw [bif_t (decide_eq_true h1)]
  by_cases h2:k=node
  ·rw [bif_f (by simpa using h2),if_pos h2,wrap64 (by omega) (by omega),F]
   by_cases h3:k+1<x.Nodes
   ·rw [bif_t (decide_eq_true h3),bif_t (by simp;omega)]
   ·rw [bif_f (decide_eq_false h3)]
    show some x.Nodes=_
    congr 1
    omega
  ·rw [bif_t (by simpa using h2),if_neg h2]
 ·rw [bif_f (decide_eq_false h1),if_neg (by omega)]
  show some x.Nodes=_
  congr 1
  omega
theorem sees_eq{L:Nat}(hL:10<L)(T:yAg)(m:Int):yGY L ⟨T⟩ [[V.int .i64 m]]=some ((),⟨⟨T.Inst,T.Mbal,T.Best,T.Val,minI true T.Seen m,T.Ahead,T.Lost⟩⟩):=by
 obtain⟨k,rfl⟩:∃k,L=k+2:=⟨L-2,by omega⟩
 rfl
section
variable {L:Nat} {x:yAN} {p:yAR} {t:yAC} {done:Int} {got:ByteArray} {r:yBG}
theorem take_wrote(hL:200000<L)(h16:x.Nodes≤16)(hn0:0≤p.Node)(hn:p.Node<x.Nodes)(hat:p.At=2∨p.At=4):yBi L x p t done got=some (pWrote x.Nodes p,t,done,false,0,()):=by
 obtain⟨node,cmd,at_,i,own,T⟩:=p
 dsimp only at hn0 hn hat
 have ho:=cOthers_eq (L:=L) hL hn0 hn (Int.le_refl 0) (by omega) h16
 unfold yBi yEz pWrote pNext
 rcases hat with rfl | rfl
 all_goals
  simp only [show decide ((2:Int)<0)=false from rfl,show decide ((4:Int)<0)=false from rfl,show decide (7≤w64 2)=false from rfl,show decide (7≤w64 4)=false from rfl,show decide ((2:Int)=0)=false from rfl,show decide ((4:Int)=0)=false from rfl,show decide ((2:Int)=1)=false from rfl,show decide ((4:Int)=1)=false from rfl,show decide ((2:Int)=2)=true from rfl,show decide ((4:Int)=2)=false from rfl,show decide ((4:Int)=3)=false from rfl,show decide ((4:Int)=4)=true from rfl,cond_false,cond_true,ho,sees_eq (show 10<L by omega),decide_true,bindO_s,cStops_eq,cValue_eq,minI_max]
  by_cases h1:others node 0<x.Nodes
  ·rw [bif_t (decide_eq_true h1),if_pos h1];rfl
  ·rw [bif_f (decide_eq_false h1),if_neg h1]
   rfl
theorem pxTake_next(hL:200000<L)(h16:x.Nodes≤16){node cmd at_ i own}{T:yAg}(hn0:0≤node)(hn:node<x.Nodes)(hi0:0≤i)(hi:i<x.Nodes)(hat:at_=3∨at_=5):
  (bindO (yGX L x node (w64 (i+1))) fun r=>bif decide (r<x.Nodes) then some ((⟨node,cmd,at_,r,own,T⟩:yAR),t,done,false,(0:Int),()) else
    bindO (yIA L T) fun r15=>bif r15 then some ((⟨node,cmd,0,0,yBG.z,(⟨0,0,0,noS,T.Seen,false,false⟩:yAg)⟩:yAR),t,done,false,0,()) else
     bif at_==5 then some ((⟨node,cmd,6,r,own,T⟩:yAR),t,done,false,0,()) else
     bindO (yIB L T cmd) fun r16=>some ((⟨node,cmd,4,r,⟨own.Inst,own.Mbal,own.Mbal,r16⟩,T⟩:yAR),t,done,false,0,()))=
    some (pNext x.Nodes ⟨node,cmd,at_,i,own,T⟩ (i+1),t,done,false,0,()):=by
 rw [w64_t (by omega) (by omega),cOthers_eq hL hn0 hn (by omega) (by omega) h16,bindO_s,cStops_eq,bindO_s,cValue_eq,bindO_s]
 unfold pNext
 dsimp only
 by_cases h1:others node (i+1)<x.Nodes
 ·rw [bif_t (decide_eq_true h1),if_pos h1]
 ·rw [bif_f (decide_eq_false h1),if_neg h1]
  by_cases h2:tStops T=true
  ·rw [bif_t h2,if_pos h2];rfl
  ·rw [bif_f (by simpa using h2),if_neg h2]
   rcases hat with rfl | rfl <;> rfl
set_option maxHeartbeats 1000000 in
theorem take_counts(hL:200000<L)(h16:x.Nodes≤16)(hn0:0≤p.Node)(hn:p.Node<x.Nodes)(hi0:0≤p.I)(hi:p.I<x.Nodes)(hat:p.At=3∨p.At=5)(hr:yEE L got=some (r,0,())):
  yBi L x p t done got=some (pCounts x.Nodes p r,t,done,false,0,()):=by
 obtain⟨node,cmd,at_,i,own,⟨ti,tm,tb,tv,ts,ta,tl⟩⟩:=p
 obtain⟨ri,rm,rb,rv⟩:=r
 dsimp only at hn0 hn hat hi0 hi
 have key:∀T:yAg,tCount ⟨ti,tm,tb,tv,ts,ta,tl⟩ ⟨ri,rm,rb,rv⟩=T→pCounts x.Nodes ⟨node,cmd,at_,i,own,⟨ti,tm,tb,tv,ts,ta,tl⟩⟩ ⟨ri,rm,rb,rv⟩=pNext x.Nodes ⟨node,cmd,at_,i,own,T⟩ (i+1):=fun T e=>by
  unfold pCounts;rw [e]
 have nx:=fun T=>pxTake_next (L:=L) (x:=x) (t:=t) (done:=done) (cmd:=cmd) (at_:=at_) (own:=own) (T:=T) hL h16 hn0 hn hi0 hi hat
 unfold yBi yEz
 rcases hat with rfl | rfl
 all_goals
  simp only [show decide ((3:Int)<0)=false from rfl,show decide ((5:Int)<0)=false from rfl,show decide (7≤w64 3)=false from rfl,show decide (7≤w64 5)=false from rfl,show decide ((3:Int)=0)=false from rfl,show decide ((5:Int)=0)=false from rfl,show decide ((3:Int)=1)=false from rfl,show decide ((5:Int)=1)=false from rfl,show decide ((3:Int)=2)=false from rfl,show decide ((5:Int)=2)=false from rfl,show decide ((3:Int)=3)=true from rfl,show decide ((5:Int)=3)=false from rfl,show decide ((5:Int)=4)=false from rfl,show decide ((5:Int)=5)=true from rfl,cond_false,cond_true,hr,sees_eq (show 10<L by omega),decide_true,bindO_s,show((0:Int) !=0)=false from rfl]
  by_cases h1:ti<ri
  ·rw [bif_t (decide_eq_true h1)]
   refine(nx _).trans ?_
   rw [key _ ?_]
   unfold tCount
   simp only [if_neg (show ¬(ri=ti∧tb<rb) by omega),decide_eq_true h1,decide_eq_false (show ¬ri=ti by omega),Bool.or_true,Bool.false_and,Bool.or_false,minI_max]
  ·rw [bif_f (decide_eq_false h1)]
   by_cases h2:ri=ti
   ·rw [bif_t (show(ri==ti)=true from beq_iff_eq.2 h2)]
    cases tl with
    | true=>
      rw [cond_true]
      by_cases h3:tb<rb
      ·rw [bif_t (decide_eq_true h3)]
       refine(nx _).trans ?_
       rw [key _ ?_]
       unfold tCount
       simp only [if_pos (show ri=ti∧tb<rb from⟨h2,h3⟩),decide_eq_false h1,Bool.or_false,Bool.true_or,minI_max]
      ·rw [bif_f (decide_eq_false h3)]
       refine(nx _).trans ?_
       rw [key _ ?_]
       unfold tCount
       simp only [if_neg (show ¬(ri=ti∧tb<rb) by omega),decide_eq_false h1,Bool.or_false,Bool.true_or,minI_max]
    | false=>
      rw [cond_false]
      by_cases h3:tb<rb
      ·rw [bif_t (decide_eq_true h3)]
       refine(nx _).trans ?_
       rw [key _ ?_]
       unfold tCount
       simp only [if_pos (show ri=ti∧tb<rb from⟨h2,h3⟩),decide_eq_false h1,decide_eq_true h2,Bool.or_false,Bool.false_or,Bool.true_and,minI_max]
      ·rw [bif_f (decide_eq_false h3)]
       refine(nx _).trans ?_
       rw [key _ ?_]
       unfold tCount
       simp only [if_neg (show ¬(ri=ti∧tb<rb) by omega),decide_eq_false h1,decide_eq_true h2,Bool.or_false,Bool.false_or,Bool.true_and,minI_max]
   ·rw [bif_f (show(ri==ti)=false from beq_eq_false_iff_ne.2 h2)]
    refine(nx _).trans ?_
    rw [key _ ?_]
    unfold tCount
    simp only [if_neg (show ¬(ri=ti∧tb<rb) by omega),decide_eq_false h1,decide_eq_false h2,Bool.or_false,Bool.false_and,minI_max]
end
end Go.Proofs.YtakljpcmbpaeaaaGreat

namespace Go.Proofs.YtakljpcmbpaeaaaGreat
open Go.RowKit
theorem mkS_data(s:ByteArray):mkS s.data.toList=s:=by simp [mkS]
def secC(c:yAE):ByteArray:=mkS (sealR 5 (cmdL c)).1
theorem sealB5(c:yAE):∃x,sealB 5 (cmdL c)=some x∧sealR 5 (cmdL c)=(x,0)∧x.length≤40:=by
 have h1:=cmdL_len c
 have h2:=cmdT_len c
 refine⟨_,sealB_some (by omega) (by omega),sealR_ok (by omega) (by omega),?_⟩
 rw [List.length_append,sealHead_length,leBytes_length];omega
theorem secC_len(c:yAE):(secC c).size≤40:=by
 obtain⟨x,_,h2,h3⟩:=sealB5 c
 unfold secC
 rw [h2,mkS_n];exact h3
theorem ne_noS{b:ByteArray}(h:0<b.size):(b.toList==noS.toList)=false:=by
 rw [beq_eq_false_iff_ne]
 intro e
 have e1:b=noS:=by
  have:=congrArg List.length e
  simp only [ByteArray.toList_eq,Array.length_toList] at this
  exact absurd this (by show ¬b.size=0;omega)
 rw [e1] at h
 exact absurd h (by decide)
theorem secC_pos(c:yAE):0<(secC c).size:=by
 unfold secC
 have h1:=cmdL_len c
 have h2:=cmdT_len c
 rw [sealR_ok (by omega) (by omega),mkS_n,List.length_append,sealHead_length];omega
theorem decRead_sec{L:Nat}[BigL L]{c:yAE}(h:MayC c):yGD L (secC c)=some (c,mkS (cmdL c),true,0,()):=by
 have hp:=secC_pos c
 have hl:=secC_len c
 have hO:yPo L 5 (secC c)=some (mkS (cmdL c),0,()):=by
  obtain⟨x,h1,h2,h3⟩:=sealB5 c
  rw [of_eq hL10 (by omega)]
  unfold secC
  rw [h2,mkS_l,ofR_seal (by omega) h1]
 unfold yGD yKU
 rw [ne_noS hp,cond_false,hO,bindO_s]
 dsimp only
 rw [show((0:Int) !=0)=false from rfl,cond_false,cRead_enc hL10 h,bindO_s]
 rfl
theorem decRead_no{L:Nat}[BigL L]:yGD L noS=some (yAE.z,noS,false,0,()):=by
 unfold yGD yKU
 rw [beq_self_eq_true];rfl
theorem decBytes_eq{L:Nat}[BigL L]{c:yAE}(h:MayC c):yIk L (mkS (cmdL c))=some (secC c,0,()):=by
 have h1:=cmdL_len c
 have h2:=cmdT_len c
 have hO:yNn L 5 (mkS (cmdL c))=some (secC c,0,()):=by
  obtain⟨x,h1,h2,h3⟩:=sealB5 c
  rw [seal_eq (by omega),mkS_l]
  unfold secC
  rw [h2]
 unfold yIk yMG
 rw [cRead_enc hL10 h,bindO_s]
 dsimp only
 rw [show((0:Int) !=0)=false from rfl,cond_false,hO]
 rfl
def recB(r:yBG):ByteArray:=mkS (bytesR r.Inst r.Mbal r.Bal r.Val.data.toList).1
def MayR(r:yBG):Prop:=mayB r.Inst r.Mbal r.Bal r.Val.data.toList=true
theorem recB_len{r:yBG}(h:MayR r):(recB r).size≤100∧0<(recB r).size:=by
 obtain⟨l,x,h1,h2,h3,h4⟩:=bytes_may h
 have h5:=(mayB_parts h).2.2.2.2.2.2
 unfold recB
 rw [h1,mkS_n]
 dsimp only
 exact⟨by omega,by omega⟩
theorem bBytes_eq{L:Nat}[BigL L]{r:yBG}(h:MayR r):yH8 L r=some (recB r,0,()):=by
 obtain⟨l,x,h1,h2,h3,h4⟩:=bytes_may h
 have h5:=(mayB_parts h).2.2.2.2.2.2
 rw [bBytes_eq0 hL10]
 unfold recB
 rw [h1]
theorem bRead_eq{L:Nat}[BigL L]{r:yBG}(h:MayR r):yEE L (recB r)=some (r,0,()):=by
 obtain⟨l,x,h1,h2,h3,h4⟩:=bytes_may h
 have h5:=(mayB_parts h).2.2.2.2.2.2
 rw [bRead_eq0 hL10 (by have:=(recB_len h).1;omega)]
 unfold recB
 rw [h1,mkS_l,h3,mkS_data]
theorem bRead_no{L:Nat}[BigL L]:yEE L noS=some (yBG.z,0,()):=by
 rw [bRead_eq0 hL10 (by decide)];rfl
def RecIs(b:ByteArray)(r:yBG):Prop:=(b=noS∧r=yBG.z)∨(MayR r∧b=recB r)
theorem RecIs.read{L:Nat}[BigL L]{b:ByteArray}{r:yBG}(h:RecIs b r):yEE L b=some (r,0,()):=by
 rcases h with ⟨rfl,rfl⟩ | ⟨h,rfl⟩
 ·exact bRead_no
 ·exact bRead_eq h
theorem cMine_eq{L:Nat}[BigL L](c:yAE)(b s:Int):yK1 L c b s=some (decide (c.By=b∧c.Serial=s)):=by
 unfold yK1 yNA
 by_cases h1:c.By=b
 ·rw [bif_t (beq_iff_eq.2 h1)]
  by_cases h2:c.Serial=s
  ·rw [decide_eq_true (⟨h1,h2⟩:c.By=b∧c.Serial=s),beq_iff_eq.2 h2]
  ·rw [decide_eq_false (fun q=>h2 q.2),beq_eq_false_iff_ne.2 h2]
 ·rw [bif_f (beq_eq_false_iff_ne.2 h1),decide_eq_false (fun q=>h1 q.1)]
theorem own_eq{L:Nat}{x:yAN}{p:yAR}{t:yAC}{done:Int}{o:Bool}{own:yAE}(ho:yBB L p.Cmd=some (own,0,())):yIs L ⟨p,x,t,done,o⟩=some (own,true,()):=by
 unfold yIs yMN
 rw [ho];rfl
section
variable {L:Nat} [BigL L] {x:yAN} {p:yAR} {t t':yAC} {done:Int} {c own:yAE} {r:yBG} {got:ByteArray}
theorem take_log(hc:MayC c)(hat:p.At=0)(hT:yCw L x t c=some t')(hd0:0≤done)(hd:done≤100000)(ho:yBB L p.Cmd=some (own,0,())):
  yBi L x p t done (secC c)=some (pAnew p,t',done+1,decide (c.By=own.By∧c.Serial=own.Serial),0,()):=by
 have hl:yJn L x t done (secC c)=some (t',done+1,c,true,0,()):=by
  unfold yJn yMu
  rw [decRead_sec hc,bindO_s]
  dsimp only
  rw [show((0:Int)==0)=true from rfl,cond_true,cond_true,hT,bindO_s,w64_t (by omega) (by omega)]
 unfold yBi yEz
 rw [hat,hl]
 simp only [show decide ((0:Int)<0)=false from rfl,show decide (7≤w64 0)=false from rfl,show decide ((0:Int)=0)=true from rfl,cond_false,cond_true,decide_true,own_eq ho,bindO_s,show((0:Int) !=0)=false from rfl,ho,show((0:Int)==0)=true from rfl,cMine_eq]
 rw [w64_t (by omega) (by omega)]
 rfl
theorem take_free(hm:(geoOf x).may=true)(hat:p.At=0)(hd0:0≤done)(ho:yBB L p.Cmd=some (own,0,())):
  yBi L x p t done noS=some (if(own.Kind=0∨own.Kind=2)∧x.Log-4*x.Slots≤done then(p,t,done,false,150,()) else(⟨p.Node,p.Cmd,1,p.I,p.Own,p.T⟩,t,done,false,0,())):=by
 have hok:=Geo.may_ok hm
 have s1:1≤x.Slots:=hok.s1
 have s2:x.Slots≤x.Nodes:=hok.s2
 have n2:x.Nodes≤16:=hok.n2
 have l1:8*x.Slots≤x.Log:=hok.l1
 have l2:x.Log≤512:=hok.l2
 have hR:yPu L x=some (4*x.Slots):=by
  rw [gRest_eq hL10 (geo_i64 hm),if_pos hm]
 have hl:yJn L x t done noS=some (t,done,yAE.z,false,0,()):=by
  unfold yJn yMu
  rw [decRead_no,bindO_s]
  rfl
 unfold yBi yEz
 rw [hat,hl]
 simp only [show decide ((0:Int)<0)=false from rfl,show decide (7≤w64 0)=false from rfl,show decide ((0:Int)=0)=true from rfl,cond_false,cond_true,decide_true,own_eq ho,bindO_s,show((0:Int) !=0)=false from rfl,ho,show((0:Int)==0)=true from rfl,hR]
 rw [w64_t (by omega) (by omega)]
 by_cases h0:own.Kind=0
 ·rw [bif_t (beq_iff_eq.2 h0)]
  by_cases h1:x.Log-4*x.Slots≤done
  ·rw [bif_t (decide_eq_true h1),if_pos ⟨.inl h0,h1⟩];try rfl
  ·rw [bif_f (decide_eq_false h1),if_neg (fun q=>h1 q.2)];try rfl
 ·rw [bif_f (beq_eq_false_iff_ne.2 h0)]
  by_cases h2:own.Kind=2
  ·rw [bif_t (beq_iff_eq.2 h2)]
   by_cases h1:x.Log-4*x.Slots≤done
   ·rw [bif_t (decide_eq_true h1),if_pos ⟨.inr h2,h1⟩];try rfl
   ·rw [bif_f (decide_eq_false h1),if_neg (fun q=>h1 q.2)];try rfl
  ·rw [bif_f (beq_eq_false_iff_ne.2 h2),if_neg (fun q=>q.1.elim h0 h2)];try rfl
def nextM(p:yAR)(r:yBG)(done:Int):Int:=nextR p.Node (max (max 0 (recAt r done).Mbal) p.T.Seen)
theorem take_own(hat:p.At=1)(hr:yEE L got=some (r,0,())):
  yBi L x p t done got=some (if nextM p r done=0 then(p,t,done,false,150,()) else(⟨p.Node,p.Cmd,2,p.I,⟨(recAt r done).Inst,nextM p r done,(recAt r done).Bal,(recAt r done).Val⟩,p.T⟩,t,done,false,0,())):=by
 have hA:yO4 L r done=some (recAt r done):=by
  unfold yO4 yQO recAt
  by_cases h:r.Inst=done
  ·rw [if_pos h,bif_f (show(r.Inst !=done)=false from by rw [h];exact bne_self_eq_false done)]
  ·rw [if_neg h,bif_t (show(r.Inst !=done)=true from bne_iff_ne.2 h)]
 have hN:yJX L p.Node [[V.int .i64 (recAt r done).Mbal],[V.int .i64 p.T.Seen]]=some (nextM p r done):=
  next_eq (l:= [(recAt r done).Mbal,p.T.Seen]) (by simp) (by have:=hL3 (L:=L);simp;omega) p.Node
 unfold yBi yEz
 rw [hat]
 simp only [show decide ((1:Int)<0)=false from rfl,show decide (7≤w64 1)=false from rfl,show decide ((1:Int)=0)=false from rfl,decide_true,cond_false,cond_true,bindO_s,show((0:Int) !=0)=false from rfl,hr,hA,hN]
 by_cases h:nextM p r done=0
 ·rw [bif_t (beq_iff_eq.2 h),if_pos h]
 ·rw [bif_f (beq_eq_false_iff_ne.2 h),if_neg h]
theorem take_dec(hc:MayC c)(hat:p.At=6)(hv:p.Own.Val=mkS (cmdL c))(hT:yCw L x t c=some t')(hd0:0≤done)(hd:done≤100000)(ho:yBB L p.Cmd=some (own,0,())):
  yBi L x p t done got=some (pAnew p,t',done+1,decide (c.By=own.By∧c.Serial=own.Serial),0,()):=by
 unfold yBi yEz
 rw [hat,hv,cRead_enc hL10 hc]
 simp only [show decide ((6:Int)<0)=false from rfl,show decide (7≤w64 6)=false from rfl,show decide ((6:Int)=0)=false from rfl,show decide ((6:Int)=1)=false from rfl,show decide ((6:Int)=2)=false from rfl,show decide ((6:Int)=3)=false from rfl,show decide ((6:Int)=4)=false from rfl,show decide ((6:Int)=5)=false from rfl,show decide ((6:Int)=6)=true from rfl,cond_false,cond_true,decide_true,own_eq ho,bindO_s,show((0:Int) !=0)=false from rfl,hT,ho,show((0:Int)==0)=true from rfl,cMine_eq]
 rw [w64_t (by omega) (by omega)]
 rfl
theorem want_log(hm:(geoOf x).may=true)(hat:p.At=0)(hd0:0≤done)(hd:done<x.Log):yBf L x p done=some (⟨1,1+2*x.Nodes+done,noS,0⟩,0,()):=by
 have hok:=Geo.may_ok hm
 have n1:1≤x.Nodes:=hok.n1
 have hl:yLF L x done=some (1+2*x.Nodes+done):=by
  rw [gLog_eq hL10 (geo_i64 hm)]
  unfold Geo.logS
  rw [if_pos ⟨hm,hd0,hd⟩];(try rfl)
 unfold yBf yE1 yKa yLP yPv yPJ
 rw [hat,hl]
 simp only [show decide ((0:Int)<0)=false from rfl,show decide (7≤w64 0)=false from rfl,decide_true,cond_false,cond_true,bindO_s,show((0:Int)==0)=true from rfl,hl]
 rw [show decide (1+2*x.Nodes+done<0)=false from decide_eq_false (by omega),show decide (0≤1+2*x.Nodes+done)=true from decide_eq_true (by omega)]
 rfl
theorem want_full(hm:(geoOf x).may=true)(hat:p.At=0)(hd:¬done<x.Log):yBf L x p done=some (yA5.z,150,()):=by
 have hl:yLF L x done=some (-1):=by
  rw [gLog_eq hL10 (geo_i64 hm)]
  unfold Geo.logS
  rw [if_neg (fun q=>hd q.2.2)];(try rfl)
 unfold yBf yE1
 rw [hat,hl]
 rfl
theorem want_own(hm:(geoOf x).may=true)(hat:p.At=1)(hn0:0≤p.Node)(hn:p.Node<x.Nodes):yBf L x p done=some (⟨1,1+x.Nodes+p.Node,noS,0⟩,0,()):=by
 have hp:yDq L x p.Node=some (1+x.Nodes+p.Node):=by
  rw [gPaxos_eq hL10 (geo_i64 hm)]
  unfold Geo.paxosS
  rw [if_pos ⟨hm,hn0,hn⟩];(try rfl)
 unfold yBf yE1 yKb yLQ yFJ yLs
 rw [hat]
 simp only [show decide ((1:Int)<0)=false from rfl,show decide (7≤w64 1)=false from rfl,show decide ((1:Int)=0)=false from rfl,decide_true,cond_false,cond_true,bindO_s,show((1:Int)==0)=false from rfl,hp]
 rw [show decide (1+x.Nodes+p.Node<0)=false from decide_eq_false (by omega)]
 rfl
theorem want_rec(hm:(geoOf x).may=true)(hat:p.At=2∨p.At=4)(hn0:0≤p.Node)(hn:p.Node<x.Nodes)(hr:MayR p.Own):yBf L x p done=some (⟨2,1+x.Nodes+p.Node,recB p.Own,0⟩,0,()):=by
 have hp:yDq L x p.Node=some (1+x.Nodes+p.Node):=by
  rw [gPaxos_eq hL10 (geo_i64 hm)]
  unfold Geo.paxosS
  rw [if_pos ⟨hm,hn0,hn⟩];(try rfl)
 have hF:yDw L (1+x.Nodes+p.Node) (recB p.Own) 0=some ⟨2,1+x.Nodes+p.Node,recB p.Own,0⟩:=by
  unfold yDw yKZ
  rw [show((0:Int) !=0)=false from rfl,cond_false,bif_f (decide_eq_false (by omega))]
 unfold yBf yE1 yHX yIt
 rcases hat with e | e
 all_goals
  rw [e,bBytes_eq hr,hp]
  simp only [show decide ((2:Int)<0)=false from rfl,show decide (7≤w64 2)=false from rfl,show decide ((2:Int)=0)=false from rfl,show decide ((2:Int)=1)=false from rfl,decide_true,show decide ((4:Int)<0)=false from rfl,show decide (7≤w64 4)=false from rfl,show decide ((4:Int)=0)=false from rfl,show decide ((4:Int)=1)=false from rfl,show decide ((4:Int)=2)=false from rfl,show decide ((4:Int)=3)=false from rfl,decide_true,cond_false,cond_true,bindO_s,show((2:Int)==0)=false from rfl,show((4:Int)==0)=false from rfl,hF]
theorem want_read(hm:(geoOf x).may=true)(hat:p.At=3∨p.At=5)(hn0:0≤p.I)(hn:p.I<x.Nodes):yBf L x p done=some (⟨1,1+x.Nodes+p.I,noS,0⟩,0,()):=by
 have hp:yDq L x p.I=some (1+x.Nodes+p.I):=by
  rw [gPaxos_eq hL10 (geo_i64 hm)]
  unfold Geo.paxosS
  rw [if_pos ⟨hm,hn0,hn⟩];(try rfl)
 unfold yBf yE1 yKc yLR yKd yLS yFJ yLs
 rcases hat with e | e
 all_goals
  rw [e]
  simp only [show decide ((3:Int)<0)=false from rfl,show decide (7≤w64 3)=false from rfl,show decide ((3:Int)=0)=false from rfl,show decide ((3:Int)=1)=false from rfl,show decide ((3:Int)=2)=false from rfl,decide_true,show decide ((5:Int)<0)=false from rfl,show decide (7≤w64 5)=false from rfl,show decide ((5:Int)=0)=false from rfl,show decide ((5:Int)=1)=false from rfl,show decide ((5:Int)=2)=false from rfl,show decide ((5:Int)=3)=false from rfl,show decide ((5:Int)=4)=false from rfl,decide_true,cond_false,cond_true,bindO_s,show((3:Int)==0)=false from rfl,show((5:Int)==0)=false from rfl,hp]
  rw [show decide (1+x.Nodes+p.I<0)=false from decide_eq_false (by omega)]
  rfl
theorem want_dec(hm:(geoOf x).may=true)(hat:p.At=6)(hd0:0≤done)(hd:done<x.Log)(hc:MayC c)(hv:p.Own.Val=mkS (cmdL c)):yBf L x p done=some (⟨2,1+2*x.Nodes+done,secC c,0⟩,0,()):=by
 have hok:=Geo.may_ok hm
 have n1:1≤x.Nodes:=hok.n1
 have hl:yLF L x done=some (1+2*x.Nodes+done):=by
  rw [gLog_eq hL10 (geo_i64 hm)]
  unfold Geo.logS
  rw [if_pos ⟨hm,hd0,hd⟩];(try rfl)
 have hF:yDw L (1+2*x.Nodes+done) (secC c) 0=some ⟨2,1+2*x.Nodes+done,secC c,0⟩:=by
  unfold yDw yKZ
  rw [show((0:Int) !=0)=false from rfl,cond_false,bif_f (decide_eq_false (by omega))]
 unfold yBf yE1 yF2 yG6
 rw [hat,hv,decBytes_eq hc,hl]
 simp only [show decide ((6:Int)<0)=false from rfl,show decide (7≤w64 6)=false from rfl,show decide ((6:Int)=0)=false from rfl,show decide ((6:Int)=1)=false from rfl,show decide ((6:Int)=2)=false from rfl,show decide ((6:Int)=3)=false from rfl,show decide ((6:Int)=4)=false from rfl,show decide ((6:Int)=5)=false from rfl,decide_true,cond_false,cond_true,bindO_s,show((6:Int)==0)=false from rfl,hF]
end
end Go.Proofs.YtakljpcmbpaeaaaGreat

namespace Go.Proofs.YtakljpcmbpaeaaaGreat
open Go.RowKit
def slV(s:Int×Int):List V:= [.int .i64 s.1,.int .i64 s.2]
theorem rowsNm_sl(l:List (Int×Int)):rowsNm (l.map slV)=true:=List.all_eq_true.2 fun r hr=>by
 obtain⟨a,_,rfl⟩:=List.mem_map.1 hr
 rfl
theorem clR_sl{l:List (Int×Int)}(h:l.length≤1000):clR 2 (l.map slV)=some (l.map slV):=by
 unfold clR
 have:((l.map slV).all fun r=>Nat.beq r.length 2)=true:=List.all_eq_true.2 fun r hr=>by
  obtain⟨a,_,rfl⟩:=List.mem_map.1 hr
  rfl
 rw [this,rowsNm_sl,Nat.ble_eq_true_of_le (by rw [List.length_map];omega)];rfl
theorem set_sl{l:List (Int×Int)}{i:Nat}{k:Int}(hi:i<l.length):(l.map slV).set (0+i) (((l.map slV).getD (0+i) []).take 0++([V.int .i64 k]++((l.map slV).getD (0+i) []).drop 1))=(l.set i (k,l[i].2)).map slV:=by
 rw [Nat.zero_add,List.getD_eq_getElem?_getD,List.getElem?_map,List.getElem?_eq_getElem hi,List.map_set]
 rfl
end Go.Proofs.YtakljpcmbpaeaaaGreat

namespace Go.Proofs.YtakljpcmbpaeaaaGreat
open Go.RowKit
def ovB(a b:yAG):Bool:=decide (a.Lo≤a.Hi)&&(decide (b.Lo≤b.Hi)&&(decide (a.Lo≤b.Hi)&&decide (b.Lo≤a.Hi)))
def togB(a b:yAI):Bool:=a.Key==b.Key || (!(ovB a.Span b.Span) || (a.Mode==1&&b.Mode==1))
abbrev hV:yAI→List V:=yAI.cs
theorem hV_row(b:yAI):rowIs yAI.ks [hV b] 0=true:=rfl
theorem hV_nm(b:yAI):(hV b).all (nmB 20)=true:=rfl
section
variable {L:Nat} {l:List yAI} {i:Nat}
theorem hK(h:i<l.length):aI (l.map hV) i 0=l[i].Key:=congrArg asI (cell_m h)
theorem hLo(h:i<l.length):aI (l.map hV) i 1=l[i].Span.Lo:=congrArg asI (cell_m h)
theorem hHi(h:i<l.length):aI (l.map hV) i 2=l[i].Span.Hi:=congrArg asI (cell_m h)
theorem hMo(h:i<l.length):aI (l.map hV) i 3=l[i].Mode:=congrArg asI (cell_m h)
theorem r9ov(a b:yAG):yC5 L a b=some (ovB a b):=by
 unfold yC5 yMb ovB
 cases decide (a.Lo≤a.Hi) <;> cases decide (b.Lo≤b.Hi) <;> cases decide (a.Lo≤b.Hi) <;> rfl
theorem meets_eq(a b:yAG):yCb L ⟨a⟩ ⟨b⟩=some (ovB a b):=by
 unfold yCb yH6 yJO yKQ ovB
 obtain⟨al,ah⟩:=a
 obtain⟨bl,bh⟩:=b
 dsimp only
 by_cases h1:ah<al
 ·rw [decide_eq_true h1,decide_eq_false (show ¬al≤ah by omega)];rfl
 rw [decide_eq_false h1,decide_eq_true (show al≤ah by omega)]
 by_cases h2:bh<bl
 ·rw [decide_eq_true h2,decide_eq_false (show ¬bl≤bh by omega)];rfl
 rw [decide_eq_false h2,decide_eq_true (show bl≤bh by omega)]
 by_cases h3:al≤bl
 ·rw [decide_eq_true h3,decide_eq_true (show al≤bh by omega)]
  by_cases h4:bl≤ah
  ·rw [decide_eq_true h4];rfl
  ·rw [decide_eq_false h4,show decide (bl≤al)=false from decide_eq_false (by omega)];rfl
 ·rw [decide_eq_false h3,show decide (bl≤al)=true from decide_eq_true (by omega),show decide (bl≤ah)=true from decide_eq_true (by omega)]
  cases decide (al≤bh) <;> rfl
theorem tog_eq(a b:yAI):yFR L a b=some (togB a b):=by
 unfold yFR yMm yK0 yLh togB
 dsimp only
 rw [meets_eq,bindO_s]
 cases a.Key==b.Key <;> cases ovB a.Span b.Span <;> cases a.Mode==1 <;> rfl
theorem r9tog(a b:yAI):yEJ L a b=some (togB a b):=by
 unfold yEJ yLc togB
 rw [r9ov,bindO_s]
 cases a.Key==b.Key <;> cases ovB a.Span b.Span <;> cases a.Mode==1 <;> rfl
def fitB(h:yAI)(l:List yAI):Bool:=l.all (togB h)
theorem seek_all{p:yAI→Bool}:(match l.findIdx? (fun o=> !p o) with | none=>true | some _=>false)=l.all p:=by
 cases h:l.findIdx? (fun o=> !p o) with
 | none=>exact(List.all_eq_true.2 fun x hx=>by simpa using List.findIdx?_eq_none_iff.1 h x hx).symm
 | some i=>
   obtain⟨h1,h2,-⟩:=List.findIdx?_eq_some_iff_getElem.1 h
   symm
   rw [Bool.eq_false_iff]
   intro hh
   rw [List.all_eq_true.1 hh _ (List.getElem_mem h1)] at h2
   cases h2
theorem bif_not{α:Type}{c:Bool}{x y:α}:(bif !c then x else y)=bif c then y else x:=by cases c <;> rfl
theorem find_tog(hL:200000<L)(hl:l.length≤100000)(h:yAI):yAe L (l.map hV) (((h,()),()),())=some (match l.findIdx? (fun o=> !togB h o) with | none=> -1 | some i=>(i:Int)):=by
 unfold yAe yBX
 rw [List.length_map]
 refine(seek_run l (fun o=> !togB h o) (fun i=>(l.map hV,(((h,()),()),()),(l.length:Int),(i:Int),())) () (fun i=>((i:Int),())) (fun i hi kn ka kb=>?_) (fun kn ka kb=>?_) L 0 (Nat.zero_le _) (by omega) (fun j hj h=>absurd h (Nat.not_lt_zero _)) _ _).trans ?_
 ·show(bif decide ((i:Int)<(l.length:Int)) then _ else _)=_
  dsimp only
  rw [bif_t (decide_eq_true (by omega)),gI_m hV_row hi]
  simp only [Int.toNat_natCast,hK hi,hLo hi,hHi hi,hMo hi]
  rw [tog_eq,bindO_s,w64_t (by omega) (by omega)]
  rfl
 ·show(bif decide ((l.length:Int)<(l.length:Int)) then _ else _)=_
  rw [bif_f (decide_eq_false (by omega))]
 ·cases l.findIdx? (fun o=> !togB h o) <;> rfl
theorem sFits(hL:200000<L)(hl:l.length≤100000)(h:yAI):yLA L h (l.map hV)=some (fitB h l):=by
 unfold yLA yQy yJQ yKS yAv yBJ
 rw [find_tog hL hl,bindO_s,bindO_s,bindO_s]
 unfold fitB
 rw [←seek_all]
 cases l.findIdx? (fun o=> !togB h o) with
 | none=>rfl
 | some i=>rw [show decide (0≤(i:Int))=true from decide_eq_true (by omega)];rfl
theorem r9fits(hL:200000<L)(hl:l.length≤100000)(h:yAI):yIV L h (l.map hV)=some (fitB h l):=by
 unfold yIV yPc
 refine(seek_run l (fun o=> !togB h o) (fun i=>(l.map hV,h,(i:Int),())) () (fun i=>(false,())) (fun i hi kn ka kb=>?_) (fun kn ka kb=>?_) L 0 (Nat.zero_le _) (by omega) (fun j hj h=>absurd h (Nat.not_lt_zero _)) _ _).trans ?_
 ·show(bif decide ((i:Int)<((l.map hV).length:Int)) then _ else _)=_
  dsimp only
  rw [List.length_map,bif_t (decide_eq_true (by omega)),gI_m hV_row hi]
  simp only [Int.toNat_natCast,hK hi,hLo hi,hHi hi,hMo hi]
  rw [r9tog,bindO_s,w64_t (by omega) (by omega)]
  rfl
 ·show(bif decide ((l.length:Int)<((l.map hV).length:Int)) then _ else _)=_
  rw [List.length_map,bif_f (decide_eq_false (by omega))]
 ·unfold fitB
  rw [←seek_all]
  cases l.findIdx? (fun o=> !togB h o) <;> rfl
def gStep(a:List yAI×List yAI)(h:yAI):List yAI×List yAI:=bif fitB h a.1&&fitB h a.2 then(a.1++ [h],a.2) else(a.1,a.2++ [h])
def grH(H Q:List yAI):List yAI×List yAI:=Q.foldl gStep (H,[])
theorem gStep_len(a:List yAI×List yAI)(h:yAI):(gStep a h).1.length+(gStep a h).2.length=a.1.length+a.2.length+1:=by
 unfold gStep
 cases fitB h a.1&&fitB h a.2 <;> simp only [cond_true,cond_false,List.length_append,List.length_cons,List.length_nil] <;> omega
theorem hV_snoc(a:List yAI)(h:yAI):a.map hV++ [hV h]=(a++ [h]).map hV:=by rw [List.map_append];rfl
theorem hV_of(h:yAI): [V.int .i64 h.Key,V.int .i64 h.Span.Lo,V.int .i64 h.Span.Hi,V.int .i8 h.Mode]=hV h:=rfl
theorem slNm(s:List (Int×Int)):rowsNm (s.map slV)=true:=rowsNm_sl s
theorem gW_sl{α:Type}{s:List (Int×Int)}{n:Nat}(hn:n=s.length){x:Option α}:gW (s.map slV) n x=x:=gW_t (by rw [List.length_map];exact hn) (slNm s)
theorem gF_sl{α:Type}{s:List (Int×Int)}{n:Nat}(hn:n≤s.length)(hl:s.length≤100000){x:Option α}:gF (s.map slV) n x=x:=gF_t (by rw [List.length_map];exact hn) (by omega) (slNm s)
theorem grH_len(H Q:List yAI):(grH H Q).1.length+(grH H Q).2.length=H.length+Q.length:=by
 have:∀(Q:List yAI) a,(Q.foldl gStep a).1.length+(Q.foldl gStep a).2.length=a.1.length+a.2.length+Q.length:=fun Q=>by
  induction Q with
  | nil=>intro a;rfl
  | cons h Q ih=>intro a;rw [List.foldl_cons,ih,gStep_len,List.length_cons];omega
 have:=this Q (H,[])
 rw [List.length_nil,Nat.add_zero] at this
 exact this
theorem grant_eq(hL:200000<L){s:List (Int×Int)}{H Q:List yAI}(hs:s.length≤1000)(hl:H.length+Q.length≤10000)(a b c d e f g h:Int):
  yCx L (s.map slV,H.map hV,Q.map hV,a,b,c,d,e,f,g,h,())=some ((),(s.map slV,(grH H Q).1.map hV,(grH H Q).2.map hV,a,b,c,d,e,f,g,h,())):=by
 unfold yCx yJS
 dsimp only
 rw [gW_sl (by rw [List.length_map]),gW_m hV_nm (by rw [List.length_map]),gF_m hV_nm (by rw [List.length_map];omega) (by omega),take_len rfl]
 have R:=fold_run (α:=Unit×((List (List V))×(List (List V))×(List (List V))×Int×Int×Int×Int×Int×Int×Int×Int×Unit)) (F:=yDL (yLA L)) Q gStep (fun i x=>x.1.length+x.2.length=H.length+i)
  (fun i x=>((s.map slV,x.1.map hV,x.2.map hV,a,b,c,d,e,f,g,h,()),Q.map hV,((Q.map hV).length:Int),(i:Int),())) (fun x=>((s.map slV,x.1.map hV,x.2.map hV,a,b,c,d,e,f,g,h,()),()))
  (fun i hi x hx=>⟨by rw [gStep_len];omega,fun kn ka=>by
    show(bif decide ((i:Int)<((Q.map hV).length:Int)) then _ else _)=_
    dsimp only
    rw [List.length_map,bif_t (decide_eq_true (by omega)),gI_m hV_row hi]
    simp only [Int.toNat_natCast,hK hi,hLo hi,hHi hi,hMo hi,hV_of,hV_snoc]
    rw [gF_m hV_nm (by rw [List.length_map];omega) (by omega),take_len rfl,sFits hL (by omega),bindO_s]
    unfold gStep
    cases fitB Q[i] x.1 with
    | false=>
      dsimp only [Bool.false_and,cond_false]
      rw [gd_beq (by omega),gM_s (by rw [List.length_map];omega) (by decide),gW_sl (by rw [List.length_map]),gW_m hV_nm (by rw [List.length_map]),gW_m hV_nm (by simp),w64_t (by omega) (by omega)]
      rfl
    | true=>
      dsimp only [Bool.true_and,cond_true]
      rw [gF_m hV_nm (by rw [List.length_map];omega) (by omega),take_len rfl,sFits hL (by omega),bindO_s]
      cases fitB Q[i] x.2 with
      | false=>
        dsimp only [cond_false]
        rw [gd_beq (by omega),gM_s (by rw [List.length_map];omega) (by decide),gW_sl (by rw [List.length_map]),gW_m hV_nm (by rw [List.length_map]),gW_m hV_nm (by simp),w64_t (by omega) (by omega)]
        rfl
      | true=>
        dsimp only [cond_true]
        rw [gd_beq (by omega),gM_s (by rw [List.length_map];omega) (by decide),gW_sl (by rw [List.length_map]),gW_m hV_nm (by simp),gW_m hV_nm (by rw [List.length_map]),w64_t (by omega) (by omega)]
        rfl⟩)
  (fun x hx kn ka=>by
    show(bif decide ((Q.length:Int)<((Q.map hV).length:Int)) then _ else _)=_
    dsimp only
    rw [List.length_map,bif_f (decide_eq_false (by omega)),gW_sl (by rw [List.length_map]),gW_m hV_nm (by rw [List.length_map]),gW_m hV_nm (by rw [List.length_map])])
  L 0 (Nat.zero_le _) (by omega) (H,[]) rfl
 refine(R.2 _).trans ?_
 rw [List.drop_zero]
 show gW _ _ (gW _ _ (gW _ _ _))=_
 rw [gW_sl (by rw [List.length_map]),gW_m hV_nm (by rw [List.length_map]),gW_m hV_nm (by rw [List.length_map])]
 rfl
end
end Go.Proofs.YtakljpcmbpaeaaaGreat

namespace Go.Proofs.YtakljpcmbpaeaaaGreat
open Go.RowKit
def tbl(s:List (Int×Int))(H Q:List yAI):yAC:=⟨s.map slV,H.map hV,Q.map hV⟩
section
variable {L:Nat} {s:List (Int×Int)} {H Q l:List yAI}
theorem all_h(l:List yAI):((l.map hV).all fun r=>Nat.beq r.length 4)=true:=all_m (e:=hV) fun _=>rfl
theorem all_sl(l:List (Int×Int)):((l.map slV).all fun r=>Nat.beq r.length 2)=true:=all_m (e:=slV) fun _=>rfl
theorem copy_eq(hs:s.length≤1000)(hl:H.length+Q.length≤10000):yCa L (tbl s H Q)=some (s.map slV,H.map hV,Q.map hV,()):=by
 unfold yCa yPi tbl
 dsimp only
 rw [gd_t (all_sl s),gM_s (by rw [List.length_map];omega) (by decide),gd_t (all_h H),gM_s (by rw [List.length_map];omega) (by decide),gd_t (all_h Q),gM_s (by rw [List.length_map];omega) (by decide),
  gW_sl (by rw [List.length_map];omega),gW_m hV_nm (by rw [List.length_map];omega),gW_m hV_nm (by rw [List.length_map];omega)]
theorem rGrant_eq(hL:200000<L)(hs:s.length≤1000)(hl:H.length+Q.length≤10000):
  yFP L (tbl s H Q)=some (s.map slV,(grH H Q).1.map hV,(grH H Q).2.map hV,()):=by
 unfold yFP yOi
 rw [copy_eq hs hl,bindO_s]
 dsimp only
 rw [gW_sl (by rw [List.length_map]),gW_m hV_nm (by rw [List.length_map])]
 have R:=fold_run (α:=(List (List V))×(List (List V))×(List (List V))×Unit) (F:=yHL (yIV L)) Q gStep (fun i x=>x.1.length+x.2.length=H.length+i)
  (fun i x=>(tbl s H Q,yAC.z,(s.map slV,x.1.map hV,x.2.map hV,()),(i:Int),())) (fun x=>(yAC.z,(s.map slV,x.1.map hV,x.2.map hV,()),()))
  (fun i hi x hx=>⟨by rw [gStep_len];omega,fun kn ka=>by
    show(bif decide ((i:Int)<((Q.map hV).length:Int)) then _ else _)=_
    dsimp only [tbl]
    rw [List.length_map,bif_t (decide_eq_true (by omega)),gI_m hV_row hi]
    simp only [Int.toNat_natCast,hK hi,hLo hi,hHi hi,hMo hi,hV_of,hV_snoc]
    rw [gF_m hV_nm (by rw [List.length_map];omega) (by omega),take_len rfl,r9fits hL (by omega),bindO_s]
    unfold gStep
    cases fitB Q[i] x.1 with
    | false=>
      dsimp only [Bool.false_and,cond_false]
      rw [gd_beq (by omega),gM_s (by rw [List.length_map];omega) (by decide),gW_sl (by rw [List.length_map]),gW_m hV_nm (by rw [List.length_map]),gW_m hV_nm (by simp),w64_t (by omega) (by omega)]
      rfl
    | true=>
      dsimp only [Bool.true_and,cond_true]
      rw [gF_m hV_nm (by rw [List.length_map];omega) (by omega),take_len rfl,r9fits hL (by omega),bindO_s]
      cases fitB Q[i] x.2 with
      | false=>
        dsimp only [cond_false]
        rw [gd_beq (by omega),gM_s (by rw [List.length_map];omega) (by decide),gW_sl (by rw [List.length_map]),gW_m hV_nm (by rw [List.length_map]),gW_m hV_nm (by simp),w64_t (by omega) (by omega)]
        rfl
      | true=>
        dsimp only [cond_true]
        rw [gd_beq (by omega),gM_s (by rw [List.length_map];omega) (by decide),gW_sl (by rw [List.length_map]),gW_m hV_nm (by simp),gW_m hV_nm (by rw [List.length_map]),w64_t (by omega) (by omega)]
        rfl⟩)
  (fun x hx kn ka=>by
    show(bif decide ((Q.length:Int)<((Q.map hV).length:Int)) then _ else _)=_
    dsimp only
    rw [List.length_map,bif_f (decide_eq_false (by omega)),gW_sl (by rw [List.length_map]),gW_m hV_nm (by rw [List.length_map]),gW_m hV_nm (by rw [List.length_map])])
  L 0 (Nat.zero_le _) (by omega) (H,[]) rfl
 refine(R.2 _).trans ?_
 rw [List.drop_zero]
 show gW _ _ (gW _ _ (gW _ _ _))=_
 rw [gW_sl (by rw [List.length_map]),gW_m hV_nm (by rw [List.length_map]),gW_m hV_nm (by rw [List.length_map])]
 rfl
theorem fold_filter{p:yAI→Bool}(l a:List yAI):l.foldl (fun a h=>bif p h then a++ [h] else a) a=a++l.filter p:=by
 induction l generalizing a with
 | nil=>simp
 | cons h l ih=>
   rw [List.foldl_cons,ih]
   cases hp:p h with
   | true=>rw [cond_true,List.filter_cons_of_pos hp];simp
   | false=>rw [cond_false,List.filter_cons_of_neg (by simp [hp])]
theorem without_eq(hL:200000<L)(hl:l.length≤10000)(k:Int):yJM L (l.map hV) k=some ((l.filter fun h=>h.Key !=k).map hV,()):=by
 unfold yJM yMi
 have R:=fold_run (α:=(List (List V))×Unit) (F:=yFX) l (fun a h=>bif h.Key !=k then a++ [h] else a) (fun i x=>x.length≤i) (fun i x=>(l.map hV,k,x.map hV,(i:Int),())) (fun x=>(x.map hV,()))
  (fun i hi x hx=>⟨by cases l[i].Key !=k <;> simp only [cond_true,cond_false,List.length_append,List.length_cons,List.length_nil] <;> omega,fun kn ka=>by
    show(bif decide ((i:Int)<((l.map hV).length:Int)) then _ else _)=_
    dsimp only
    rw [List.length_map,bif_t (decide_eq_true (by omega)),gI_m hV_row hi]
    simp only [Int.toNat_natCast,hK hi,hLo hi,hHi hi,hMo hi,hV_of,hV_snoc]
    cases l[i].Key !=k with
    | false=>
      dsimp only [cond_false]
      rw [gW_m hV_nm (by rw [List.length_map]),w64_t (by omega) (by omega)]
      rfl
    | true=>
      dsimp only [cond_true]
      rw [gI_m hV_row hi,gd_beq (by omega),gM_s (by rw [List.length_map];omega) (by decide),gW_m hV_nm (by simp),w64_t (by omega) (by omega)]
      rfl⟩)
  (fun x hx kn ka=>by
    show(bif decide ((l.length:Int)<((l.map hV).length:Int)) then _ else _)=_
    dsimp only
    rw [List.length_map,bif_f (decide_eq_false (by omega)),gW_m hV_nm (by rw [List.length_map])])
  L 0 (Nat.zero_le _) (by omega) [] (Nat.le_refl _)
 refine(R.2 _).trans ?_
 rw [List.drop_zero,fold_filter,List.nil_append]
 dsimp only
 rw [gW_m hV_nm (by rw [List.length_map])]
theorem rall_eq(hL:200000<L)(hl:H.length+Q.length≤10000)(k:Int):yPm L (tbl s H Q) k=some (((H++Q).filter fun h=>h.Key==k).map hV,()):=by
 unfold yPm yQr tbl
 dsimp only
 rw [gd_t (all_h H),gM_s (by rw [List.length_map];omega) (by decide),gd_t (all_h Q),gd_beq (by omega),gM_s (by rw [List.length_map,List.length_map];omega) (by decide),←List.map_append,
  gF_m hV_nm (by rw [List.length_append,List.length_map,List.length_map];omega) (by rw [List.length_append];omega),take_len (by rw [List.length_map,List.length_map,List.length_map,List.length_append];omega)]
 have R:=fold_run (α:=(List (List V))×Unit) (F:=yK7) (H++Q) (fun a h=>bif h.Key==k then a++ [h] else a) (fun i x=>x.length≤i) (fun i x=>(k,x.map hV,(H++Q).map hV,(i:Int),())) (fun x=>(x.map hV,()))
  (fun i hi x hx=>⟨by cases (H++Q)[i].Key==k <;> simp only [cond_true,cond_false,List.length_append,List.length_cons,List.length_nil] <;> omega,fun kn ka=>by
    have hi2:=hi
    rw [List.length_append] at hi2
    show(bif decide ((i:Int)<(((H++Q).map hV).length:Int)) then _ else _)=_
    dsimp only
    rw [List.length_map,bif_t (decide_eq_true (by omega)),gI_m hV_row hi]
    simp only [Int.toNat_natCast,hK hi,hLo hi,hHi hi,hMo hi,hV_of,hV_snoc]
    cases (H++Q)[i].Key==k with
    | false=>
      dsimp only [cond_false]
      rw [gW_m hV_nm (by rw [List.length_map]),w64_t (by omega) (by omega)]
      rfl
    | true=>
      dsimp only [cond_true]
      rw [gI_m hV_row hi,gd_beq (by omega),gM_s (by rw [List.length_map];omega) (by decide),gW_m hV_nm (by simp),w64_t (by omega) (by omega)]
      rfl⟩)
  (fun x hx kn ka=>by
    show(bif decide (((H++Q).length:Int)<(((H++Q).map hV).length:Int)) then _ else _)=_
    dsimp only
    rw [List.length_map,bif_f (decide_eq_false (by omega)),gW_m hV_nm (by rw [List.length_map])])
  L 0 (Nat.zero_le _) (by rw [List.length_append];omega) [] (Nat.le_refl _)
 refine(R.2 _).trans ?_
 rw [List.drop_zero,fold_filter,List.nil_append]
 dsimp only
 rw [gW_m hV_nm (by rw [List.length_map])]
end
end Go.Proofs.YtakljpcmbpaeaaaGreat

namespace Go.Proofs.YtakljpcmbpaeaaaGreat
open Go.RowKit
section
variable {L:Nat} {s:List (Int×Int)} {H Q l:List yAI}
theorem find_by(hL:200000<L)(hl:l.length≤10000)(k:Int):yAc L (l.map hV) (((((k,()),()),()),()),())=some (match l.findIdx? (fun o=>o.Key==k) with | none=> -1 | some i=>(i:Int)):=by
 unfold yAc yBV
 rw [List.length_map]
 refine(seek_run l (fun o=>o.Key==k) (fun i=>(l.map hV,(((((k,()),()),()),()),()),(l.length:Int),(i:Int),())) () (fun i=>((i:Int),())) (fun i hi kn ka kb=>?_) (fun kn ka kb=>?_) L 0 (Nat.zero_le _) (by omega) (fun j hj h=>absurd h (Nat.not_lt_zero _)) _ _).trans ?_
 ·show(bif decide ((i:Int)<(l.length:Int)) then _ else _)=_
  dsimp only
  rw [bif_t (decide_eq_true (by omega)),gI_m hV_row hi,bif_not]
  simp only [Int.toNat_natCast,hK hi]
  rw [w64_t (by omega) (by omega)]
  rfl
 ·show(bif decide ((l.length:Int)<(l.length:Int)) then _ else _)=_
  rw [bif_f (decide_eq_false (by omega))]
 ·cases l.findIdx? (fun o=>o.Key==k) <;> rfl
theorem set_h{R:List yAI}{w:Nat}(hw:w<R.length)(h:yAI):(R.map hV).set (0+w) (((R.map hV).getD (0+w) []).take 0++(hV h++((R.map hV).getD (0+w) []).drop 4))=(R.set w h).map hV:=by
 rw [Nat.zero_add,getDr_at (map_at hw),List.map_set]
 rfl
theorem delete_eq(hL:200000<L)(hl:l.length≤10000)(k:Int):yAb L (l.map hV) (((((k,()),()),()),()),())=some ((l.filter fun h=>h.Key !=k).map hV):=by
 unfold yAb yBR
 dsimp only
 rw [gF_m hV_nm (by rw [List.length_map];omega) (by omega),take_len rfl,find_by hL hl,bindO_s]
 cases hf:l.findIdx? (fun o=>o.Key==k) with
 | none=>
   have:l.filter (fun h=>h.Key !=k)=l:=List.filter_eq_self.2 fun a ha=>by
    have:=List.findIdx?_eq_none_iff.1 hf a ha
    simpa [bne] using this
   dsimp only
   rw [bif_t (show((-1:Int)== -1)=true from rfl),gd_ble (Nat.le_refl _),gd_t (nm_m hV_nm),this]
 | some r=>
   obtain⟨hr,hk,hno⟩:=List.findIdx?_eq_some_iff_getElem.1 hf
   dsimp only
   rw [bif_f (beq_eq_false_iff_ne.2 (by omega)),gd_beq rfl,gd_t (nm_m hV_nm)]
   have hkeep:(l.take r).filter (fun h=>h.Key !=k)=l.take r:=List.filter_eq_self.2 fun a ha=>by
    obtain⟨j,hj,rfl⟩:=List.getElem_of_mem ha
    rw [List.length_take] at hj
    rw [List.getElem_take]
    have:=hno j (by omega)
    simpa [bne] using this
   have R:=fold_run (α:=List (List V)) (F:=yAP) l (fun(x:List yAI×Nat) h=>bif h.Key !=k then(x.1.set x.2 h,x.2+1) else x)
    (fun i x=>x.1.length=l.length∧x.2<i∧x.1.drop i=l.drop i∧x.1.take x.2=(l.take i).filter fun h=>h.Key !=k)
    (fun i x=>(x.1.map hV,(((((k,()),()),()),()),()),(x.2:Int),(i:Int),())) (fun x=>(x.1.map hV,(x.2:Int),()))
    (fun i hi x hx=>by
      obtain⟨R,w⟩:=x
      obtain⟨h1,h2,h3,h4⟩:=hx
      dsimp only at h1 h2 h3 h4
      have hiR:i<R.length:=by omega
      have hwR:w<R.length:=by omega
      have hel:R[i]=l[i]:=by
       rw [List.drop_eq_getElem_cons hiR,List.drop_eq_getElem_cons hi] at h3
       injection h3
      have hdr:R.drop (i+1)=l.drop (i+1):=by
       rw [List.drop_eq_getElem_cons hiR,List.drop_eq_getElem_cons hi] at h3
       injection h3
      have htk:(l.take (i+1)).filter (fun h=>h.Key !=k)=(l.take i).filter (fun h=>h.Key !=k)++bif l[i].Key !=k then [l[i]] else []:=by
       rw [List.take_succ_eq_append_getElem hi,List.filter_append]
       congr 1
      have run:∀kn ka,yAP (α:=List (List V)) (R.map hV,(((((k,()),()),()),()),()),(w:Int),(i:Int),()) kn ka=bif l[i].Key !=k then kn ((R.set w l[i]).map hV,(((((k,()),()),()),()),()),((w+1:Nat):Int),((i+1:Nat):Int),()) else kn (R.map hV,(((((k,()),()),()),()),()),(w:Int),((i+1:Nat):Int),()):=fun kn ka=>by
       show(bif decide ((i:Int)<((R.map hV).length:Int)) then _ else _)=_
       dsimp only
       rw [List.length_map,bif_t (decide_eq_true (by omega)),gB_t (by omega) (by omega),gL_t (by rw [List.length_map];omega) (by rw [segIs_at (map_at (show 0+(i:Int).toNat<R.length by omega))];rfl)]
       simp only [Int.toNat_natCast]
       rw [show 0+i=i from Nat.zero_add _]
       simp only [hK hiR,hLo hiR,hHi hiR,hMo hiR,hV_of,hel,set_h hwR]
       cases hp:l[i].Key !=k with
       | true=>
         rw [show(l[i].Key==k)=false by simpa [bne] using hp]
         rw [bif_t (show(!false)=true from rfl),gB_t (by omega) (by omega),gd_dec (by rw [Nat.zero_add];exact hwR),gd_ble (Nat.zero_le _),gd_ble (by rw [Nat.zero_add,getDr_at (map_at hwR)];exact Nat.le_refl 4),gd_beq (by rw [List.length_map,List.length_set]),gd_t (nm_m hV_nm),w64_t (by omega) (by omega),w64_t (by omega) (by omega)]
         rfl
       | false=>
         rw [show(l[i].Key==k)=true by simpa [bne] using hp]
         rw [bif_f (show(!true)=false from rfl),gd_beq rfl,gd_t (nm_m hV_nm),w64_t (by omega) (by omega)]
         rfl
      cases hp:l[i].Key !=k with
      | true=>
        rw [hp,cond_true] at htk
        refine⟨⟨by dsimp only [cond_true];rw [List.length_set];exact h1,by dsimp only [cond_true];omega,by dsimp only [cond_true];rw [List.drop_set_of_lt (by omega)];exact hdr,?_⟩,fun kn ka=>by rw [run,hp];rfl⟩
        dsimp only [cond_true]
        rw [List.take_succ_eq_append_getElem (by rw [List.length_set];exact hwR),List.getElem_set_self,List.take_set_of_le (Nat.le_refl _),h4,htk]
      | false=>
        rw [hp,cond_false,List.append_nil] at htk
        exact⟨⟨h1,by dsimp only [cond_false];omega,hdr,h4.trans htk.symm⟩,fun kn ka=>by rw [run,hp];rfl⟩)
    (fun x hx kn ka=>by
      obtain⟨h1,h2,h3,h4⟩:=hx
      show(bif decide ((l.length:Int)<((x.1.map hV).length:Int)) then _ else _)=_
      dsimp only
      rw [List.length_map,bif_f (decide_eq_false (by omega)),gd_beq rfl,gd_t (nm_m hV_nm)])
    L (r+1) (by omega) (by omega) (l,r) ⟨rfl,Nat.lt_succ_self r,rfl,by
     rw [List.take_succ_eq_append_getElem hr,List.filter_append,hkeep,List.filter_cons_of_neg (by simpa [bne] using hk)]
     simp⟩
   rw [w64_t (by omega) (by omega)]
   refine(R.2 _).trans ?_
   obtain⟨h1,h2,h3,h4⟩:=R.1
   generalize (l.drop (r+1)).foldl (fun(x:List yAI×Nat) h=>bif h.Key !=k then(x.1.set x.2 h,x.2+1) else x) (l,r)=x at h1 h2 h3 h4 ⊢
   obtain⟨R,w⟩:=x
   dsimp only at h1 h2 h3 h4 ⊢
   rw [List.take_length] at h4
   rw [gd_dec (by omega),gd_dec (by rw [List.length_map];omega),gd_ble (Nat.zero_le _),gd_dec (by omega),gd_dec (by rw [List.length_map];omega)]
   simp only [Int.toNat_natCast,Nat.zero_add]
   rw [gd_ble (by rw [List.length_take,List.length_map];omega),←List.map_take,←List.map_take,List.take_take,Nat.min_self,h4,gd_t (nm_m hV_nm)]
end
end Go.Proofs.YtakljpcmbpaeaaaGreat

namespace Go.Proofs.YtakljpcmbpaeaaaGreat
open Go.RowKit
theorem slV_row(b:Int×Int):rowIs yAG.ks [slV b] 0=true:=rfl
section
variable {L:Nat} {s:List (Int×Int)} {H Q l:List yAI} {i:Nat}
theorem sKey(h:i<s.length):aI (s.map slV) i 0=s[i].1:=congrArg asI (cell_m h)
def slotB(s:List (Int×Int))(k:Int):Int×Bool:=bif decide (k<1) then(0,false) else match s.findIdx? (fun o=>o.1==k) with | none=>(0,false) | some i=>((i:Int),true)
theorem slotB_lt{k:Int}(h:(slotB s k).2=true):∃i:Nat,i<s.length∧slotB s k=((i:Int),true):=by
 unfold slotB at h ⊢
 cases hk:decide (k<1) with
 | true=>rw [hk] at h;cases h
 | false=>
   rw [hk,cond_false] at h
   rw [cond_false]
   cases hf:s.findIdx? (fun o=>o.1==k) with
   | none=>rw [hf] at h;cases h
   | some i=>exact⟨i,(List.findIdx?_eq_some_iff_getElem.1 hf).1,rfl⟩
theorem find_slot(hL:200000<L)(hs:s.length≤1000)(k:Int):yAs L (s.map slV) ((k,()),())=some (match s.findIdx? (fun o=>o.1==k) with | none=> -1 | some i=>(i:Int)):=by
 unfold yAs yBm
 rw [List.length_map]
 refine(seek_run s (fun o=>o.1==k) (fun i=>(s.map slV,((k,()),()),(s.length:Int),(i:Int),())) () (fun i=>((i:Int),())) (fun i hi kn ka kb=>?_) (fun kn ka kb=>?_) L 0 (Nat.zero_le _) (by omega) (fun j hj h=>absurd h (Nat.not_lt_zero _)) _ _).trans ?_
 ·show(bif decide ((i:Int)<(s.length:Int)) then _ else _)=_
  dsimp only
  rw [bif_t (decide_eq_true (by omega)),gI_m slV_row hi]
  simp only [Int.toNat_natCast,sKey hi]
  rw [w64_t (by omega) (by omega)]
  rfl
 ·show(bif decide ((s.length:Int)<(s.length:Int)) then _ else _)=_
  rw [bif_f (decide_eq_false (by omega))]
 ·cases s.findIdx? (fun o=>o.1==k) <;> rfl
theorem bslot_eq(hL:200000<L)(hs:s.length≤1000){t:yAC}{x:yAN}(ht:t.Slots=s.map slV)(k:Int):yDM L ⟨t,x⟩ k=some ((slotB s k).1,(slotB s k).2,()):=by
 unfold yDM yKT yPz yPr slotB
 dsimp only
 rw [ht]
 cases decide (k<1) with
 | true=>rfl
 | false=>
   rw [cond_false,cond_false,find_slot hL hs,bindO_s]
   cases s.findIdx? (fun o=>o.1==k) with
   | none=>rfl
   | some i=>
     dsimp only
     rw [minI_max,show max (i:Int) 0=i by omega,show decide (0≤(i:Int))=true from decide_eq_true (by omega)];rfl
theorem rslot_eq(hL:200000<L)(hs:s.length≤1000){t:yAC}(ht:t.Slots=s.map slV)(k:Int):yKD L t k=some ((slotB s k).1,(slotB s k).2,()):=by
 unfold yKD yPl
 refine(seek_run s (fun o=>decide (1≤k)&&o.1==k) (fun i=>(k,t,(i:Int),())) () (fun i=>((i:Int),true,())) (fun i hi kn ka kb=>?_) (fun kn ka kb=>?_) L 0 (Nat.zero_le _) (by omega) (fun j hj h=>absurd h (Nat.not_lt_zero _)) _ _).trans ?_
 ·show(bif decide ((i:Int)<(t.Slots.length:Int)) then _ else _)=_
  dsimp only
  rw [ht,List.length_map,bif_t (decide_eq_true (by omega)),gI_m slV_row hi]
  simp only [Int.toNat_natCast,sKey hi]
  rw [w64_t (by omega) (by omega)]
  cases decide (1≤k) <;> rfl
 ·show(bif decide ((s.length:Int)<(t.Slots.length:Int)) then _ else _)=_
  rw [ht,List.length_map,bif_f (decide_eq_false (by omega))]
 ·unfold slotB
  by_cases hk:k<1
  ·rw [decide_eq_true hk,cond_true]
   have:s.findIdx? (fun o=>decide (1≤k)&&o.1==k)=none:=List.findIdx?_eq_none_iff.2 fun x _=>by rw [decide_eq_false (show ¬1≤k by omega)];rfl
   rw [this]
  ·rw [decide_eq_false hk,cond_false]
   have:(fun o:Int×Int=>decide (1≤k)&&o.1==k)=fun o=>o.1==k:=by
    funext o;rw [decide_eq_true (show 1≤k by omega)];rfl
   rw [this]
   cases s.findIdx? (fun o=>o.1==k) <;> rfl
theorem set_sl0(h:i<s.length):(s.map slV).set (0+i) (((s.map slV).getD (0+i) []).take 0++([V.int .i64 0,V.int .i64 0]++((s.map slV).getD (0+i) []).drop 2))=(s.set i (0,0)).map slV:=by
 rw [Nat.zero_add,getDr_at (map_at h),List.map_set];rfl
def lvH(s:List (Int×Int))(H Q:List yAI)(i:Nat):List yAI×List yAI:=grH (H.filter fun h=>h.Key !=(s.getD i (0,0)).1) (Q.filter fun h=>h.Key !=(s.getD i (0,0)).1)
theorem lvH_len(H Q:List yAI)(i:Nat):(lvH s H Q i).1.length+(lvH s H Q i).2.length≤H.length+Q.length:=by
 unfold lvH
 rw [grH_len]
 exact Nat.add_le_add (List.length_filter_le _ _) (List.length_filter_le _ _)
theorem getD_s(h:i<s.length):s.getD i (0,0)=s[i]:=by rw [List.getD_eq_getElem?_getD,List.getElem?_eq_getElem h];rfl
theorem clear_eq(hL:200000<L)(hs:s.length≤1000)(hl:H.length+Q.length≤10000)(hi:i<s.length)(a b c d e f g h:Int):
  yFZ L (s.map slV,H.map hV,Q.map hV,a,b,c,d,e,f,g,h,()) (i:Int)=some ((),((s.set i (0,0)).map slV,(lvH s H Q i).1.map hV,(lvH s H Q i).2.map hV,a,b,c,d,e,f,g,h,())):=by
 unfold yFZ yJR
 dsimp only
 have hf1:=List.length_filter_le (fun h:yAI=>h.Key !=s[i].1) H
 have hf2:=List.length_filter_le (fun h:yAI=>h.Key !=s[i].1) Q
 simp only [Int.toNat_natCast]
 rw [gB_t (by omega) (by rw [List.length_map];omega),gL_t (by rw [List.length_map];omega) (by rw [segIs_at (map_at (show 0+i<s.length by omega))];rfl),gd_beq rfl,gd_t (nm_m hV_nm)]
 rw [show aI (s.map slV) (0+i) 0=s[i].1 by rw [Nat.zero_add];exact sKey hi,delete_eq hL (by omega),bindO_s,gd_beq rfl,gd_t (nm_m hV_nm),delete_eq hL (by omega),bindO_s,
  gB_t (by omega) (by rw [List.length_map];omega),gd_dec (by rw [List.length_map];omega),gd_ble (Nat.zero_le _),gd_ble (by rw [Nat.zero_add,getDr_at (map_at hi)];exact Nat.le_refl 2),set_sl0 hi,gW_sl (by rw [List.length_map,List.length_set]),gW_m hV_nm (by rw [List.length_map]),gW_m hV_nm (by rw [List.length_map]),
  grant_eq hL (by rw [List.length_set];exact hs) (by omega),bindO_s]
 dsimp only
 rw [gW_sl (by rw [List.length_map]),gW_m hV_nm (by rw [List.length_map]),gW_m hV_nm (by rw [List.length_map])]
 unfold lvH
 rw [getD_s hi]
theorem rleave_eq(hL:200000<L)(hs:s.length≤1000)(hl:H.length+Q.length≤10000)(hi:i<s.length):
  yMh L (tbl s H Q) (i:Int)=some ((s.set i (0,0)).map slV,(lvH s H Q i).1.map hV,(lvH s H Q i).2.map hV,()):=by
 unfold yMh yOn
 rw [copy_eq hs hl,bindO_s]
 dsimp only
 have hf1:=List.length_filter_le (fun h:yAI=>h.Key !=s[i].1) H
 have hf2:=List.length_filter_le (fun h:yAI=>h.Key !=s[i].1) Q
 simp only [Int.toNat_natCast]
 rw [gB_t (by omega) (by rw [List.length_map];omega),gL_t (by rw [List.length_map];omega) (by rw [segIs_at (map_at (show 0+i<s.length by omega))];rfl),gF_m hV_nm (by rw [List.length_map];omega) (by omega),take_len rfl,
  show aI (s.map slV) (0+i) 0=s[i].1 by rw [Nat.zero_add];exact sKey hi,without_eq hL (by omega),bindO_s,gF_m hV_nm (by rw [List.length_map];omega) (by omega),take_len rfl,without_eq hL (by omega),bindO_s]
 dsimp only
 rw [gB_t (by omega) (by rw [List.length_map];omega),gd_dec (by rw [List.length_map];omega),gd_ble (Nat.zero_le _),gd_ble (by rw [Nat.zero_add,getDr_at (map_at hi)];exact Nat.le_refl 2),set_sl0 hi,
  gF_sl (by rw [List.length_map,List.length_set];omega) (by rw [List.length_set];omega),gF_m hV_nm (by rw [List.length_map];omega) (by omega),gF_m hV_nm (by rw [List.length_map];omega) (by omega),take_len (by rw [List.length_map,List.length_map,List.length_set]),take_len rfl,take_len rfl]
 rw [show(⟨(s.set i (0,0)).map slV,(H.filter fun h=>h.Key !=s[i].1).map hV,(Q.filter fun h=>h.Key !=s[i].1).map hV⟩:yAC)=tbl (s.set i (0,0)) (H.filter fun h=>h.Key !=s[i].1) (Q.filter fun h=>h.Key !=s[i].1) from rfl,
  rGrant_eq hL (by rw [List.length_set];exact hs) (by omega),bindO_s]
 dsimp only
 rw [gW_sl (by rw [List.length_map]),gW_m hV_nm (by rw [List.length_map]),gW_m hV_nm (by rw [List.length_map])]
 unfold lvH
 rw [getD_s hi]
end
end Go.Proofs.YtakljpcmbpaeaaaGreat

namespace Go.Proofs.YtakljpcmbpaeaaaGreat
open Go.RowKit
section
variable {L:Nat} {s:List (Int×Int)} {H Q l:List yAI} {i:Nat}
def tchB(l:List yAI)(k:Int)(sp:yAG):Bool:=l.any fun o=>o.Key==k&&ovB o.Span sp
theorem sov(a b:yAG):yGS L a b=some (ovB a b):=by
 unfold yGS yNX
 rw [meets_eq,bindO_s]
theorem seek_any{p:yAI→Bool}{l:List yAI}:(match l.findIdx? p with | none=>false | some _=>true)=l.any p:=by
 cases h:l.findIdx? p with
 | none=>exact(List.any_eq_false.2 fun x hx=>by simpa using List.findIdx?_eq_none_iff.1 h x hx).symm
 | some i=>
   obtain⟨h1,h2,-⟩:=List.findIdx?_eq_some_iff_getElem.1 h
   exact(List.any_eq_true.2 ⟨_,List.getElem_mem h1,h2⟩).symm
theorem find_tch(hL:200000<L)(hl:l.length≤10000)(k:Int)(sp:yAG):yAd L (l.map hV) ((((k,()),sp,()),()),())=some (match l.findIdx? (fun o=>o.Key==k&&ovB o.Span sp) with | none=> -1 | some i=>(i:Int)):=by
 unfold yAd yBW
 rw [List.length_map]
 refine(seek_run l (fun o=>o.Key==k&&ovB o.Span sp) (fun i=>(l.map hV,((((k,()),sp,()),()),()),(l.length:Int),(i:Int),())) () (fun i=>((i:Int),())) (fun i hi kn ka kb=>?_) (fun kn ka kb=>?_) L 0 (Nat.zero_le _) (by omega) (fun j hj h=>absurd h (Nat.not_lt_zero _)) _ _).trans ?_
 ·show(bif decide ((i:Int)<(l.length:Int)) then _ else _)=_
  dsimp only
  rw [bif_t (decide_eq_true (by omega)),gI_m hV_row hi]
  simp only [Int.toNat_natCast,hK hi,hLo hi,hHi hi,hMo hi]
  rw [sov,bindO_s,w64_t (by omega) (by omega)]
  show(bif !(l[i].Key==k) then _ else _)=_
  rw [bif_not]
  cases l[i].Key==k with
  | false=>rfl
  | true=>
    show(bif !!ovB l[i].Span sp then _ else _)=_
    rw [Bool.not_not]
    rfl
 ·show(bif decide ((l.length:Int)<(l.length:Int)) then _ else _)=_
  rw [bif_f (decide_eq_false (by omega))]
 ·cases l.findIdx? (fun o=>o.Key==k&&ovB o.Span sp) <;> rfl
theorem tch_eq(hL:200000<L)(hl:l.length≤10000)(k:Int)(sp:yAG):yLB L (l.map hV) k sp=some (tchB l k sp):=by
 unfold yLB yNY yJP yKR yAu yBI
 rw [find_tch hL hl,bindO_s,bindO_s,bindO_s]
 unfold tchB
 rw [←seek_any]
 cases l.findIdx? (fun o=>o.Key==k&&ovB o.Span sp) with
 | none=>rfl
 | some i=>rw [show decide (0≤(i:Int))=true from decide_eq_true (by omega)];rfl
theorem rtch_eq(hL:200000<L)(hl:l.length≤10000)(k:Int)(sp:yAG):yJE L (l.map hV) k sp=some (tchB l k sp):=by
 unfold yJE yMc
 refine(seek_run l (fun o=>o.Key==k&&ovB o.Span sp) (fun i=>(l.map hV,k,sp,(i:Int),())) () (fun i=>(true,())) (fun i hi kn ka kb=>?_) (fun kn ka kb=>?_) L 0 (Nat.zero_le _) (by omega) (fun j hj h=>absurd h (Nat.not_lt_zero _)) _ _).trans ?_
 ·show(bif decide ((i:Int)<((l.map hV).length:Int)) then _ else _)=_
  dsimp only
  rw [List.length_map,bif_t (decide_eq_true (by omega)),gI_m hV_row hi,gI_m hV_row hi]
  simp only [Int.toNat_natCast,hK hi,hLo hi,hHi hi,hMo hi]
  rw [r9ov,bindO_s,w64_t (by omega) (by omega)]
  cases l[i].Key==k <;> rfl
 ·show(bif decide ((l.length:Int)<((l.map hV).length:Int)) then _ else _)=_
  rw [List.length_map,bif_f (decide_eq_false (by omega))]
 ·unfold tchB
  rw [←seek_any]
  cases l.findIdx? (fun o=>o.Key==k&&ovB o.Span sp) <;> rfl
theorem tch_filter{k:Int}{sp:yAG}:tchB (l.filter fun h=>h.Key==k) k sp=tchB l k sp:=by
 unfold tchB
 rw [List.any_filter]
 congr 1
 funext o
 cases o.Key==k <;> rfl
def hldB(g:yAN)(h:yAI):Bool:=decide (1≤h.Key)&&(decide (0≤h.Span.Lo)&&(decide (h.Span.Lo≤h.Span.Hi)&&decide (h.Span.Hi<g.Blocks))&&(h.Mode==1 || h.Mode==2))
theorem shold_eq(g:yAN)(h:yAI):yPq L g h=some (hldB g h):=by
 unfold yPq yQz yS3 yR3 hldB
 rw [show decide (0<h.Key)=decide (1≤h.Key) by rw [decide_eq_decide];omega,show(!decide (h.Span.Hi<h.Span.Lo))=decide (h.Span.Lo≤h.Span.Hi) by rw [←decide_not,decide_eq_decide];omega]
 cases decide (1≤h.Key) <;> cases decide (0≤h.Span.Lo) <;> cases decide (h.Span.Lo≤h.Span.Hi) <;> cases decide (h.Span.Hi<g.Blocks) <;> cases h.Mode==1 <;> rfl
theorem rhold_eq(g:yAN)(h:yAI):yNj L g h=some (hldB g h):=by
 unfold yNj yPd yRQ yQm hldB
 cases decide (1≤h.Key) <;> cases decide (0≤h.Span.Lo) <;> cases decide (h.Span.Lo≤h.Span.Hi) <;> cases decide (h.Span.Hi<g.Blocks) <;> cases h.Mode==1 <;> rfl
abbrev hC(c:yAE):yAI:=⟨c.By,c.Span,c.Mode⟩
def askB(x:yAN)(s:List (Int×Int))(H Q:List yAI)(c:yAE):Bool:=(slotB s c.By).2&&(hldB x (hC c)&&(!(tchB (H++Q) c.By c.Span)&&decide (((H++Q).filter fun h=>h.Key==c.By).length<64)))
def askH(x:yAN)(s:List (Int×Int))(H Q:List yAI)(c:yAE):List yAI×List yAI:=bif askB x s H Q c then grH H (Q++ [hC c]) else(H,Q)
theorem fold_count{p:yAI→Bool}(l:List yAI)(n:Nat):l.foldl (fun n h=>bif p h then n+1 else n) n=n+(l.filter p).length:=by
 induction l generalizing n with
 | nil=>simp
 | cons h l ih=>
   rw [List.foldl_cons,ih]
   cases hp:p h with
   | true=>rw [cond_true,List.filter_cons_of_pos hp,List.length_cons];omega
   | false=>rw [cond_false,List.filter_cons_of_neg (by simp [hp])]
set_option maxHeartbeats 1000000 in
theorem ask_eq(hL:200000<L)(hs:s.length≤1000)(hl:H.length+Q.length≤9000)(x:yAN)(c:yAE):
  yHN L (s.map slV,H.map hV,Q.map hV,x.Nodes,x.Slots,x.Blocks,x.Per,x.Journal,x.Log,x.Lease,x.Wait,()) c=some ((),(s.map slV,(askH x s H Q c).1.map hV,(askH x s H Q c).2.map hV,x.Nodes,x.Slots,x.Blocks,x.Per,x.Journal,x.Log,x.Lease,x.Wait,())):=by
 unfold yHN yLi
 dsimp only
 rw [gF_sl (by rw [List.length_map];omega) (by omega),gF_m hV_nm (by rw [List.length_map];omega) (by omega),gF_m hV_nm (by rw [List.length_map];omega) (by omega),take_len rfl,take_len rfl,take_len rfl,bslot_eq hL hs rfl,bindO_s]
 simp only [List.length_map]
 rw [w64_t (by omega) (by omega),w64_t (by omega) (by omega),bif_f (decide_eq_false (by omega)),bif_f (decide_eq_false (by omega)),gd_dec (by omega),gd_dec (by omega),gd_ble (by omega),gd_t (all_h H),gM_s (by omega) (by decide),gd_ble (by omega),gd_t (all_h Q),gd_beq (by omega),gM_s (by omega) (by decide),
  gW_sl rfl,gW_m hV_nm rfl,gW_m hV_nm rfl,←List.map_append,gF_m hV_nm (by rw [List.length_append];omega) (by rw [List.length_append];omega),gF_m hV_nm (by rw [List.length_append];omega) (by rw [List.length_append];omega),take_len (by rw [List.length_map,List.length_append];omega)]
 have R:=fold_run (α:=Unit×((List (List V))×(List (List V))×(List (List V))×Int×Int×Int×Int×Int×Int×Int×Int×Unit)) (F:=yEu) (H++Q) (fun(n:Nat) h=>bif h.Key==c.By then n+1 else n) (fun i n=>n≤i)
  (fun i n=>((s.map slV,H.map hV,Q.map hV,x.Nodes,x.Slots,x.Blocks,x.Per,x.Journal,x.Log,x.Lease,x.Wait,()),c,(slotB s c.By).2,hC c,(H++Q).map hV,(n:Int),(H++Q).map hV,(((0+H.length)+Q.length:Nat):Int),(i:Int),()))
  (fun n=>((s.map slV,H.map hV,Q.map hV,x.Nodes,x.Slots,x.Blocks,x.Per,x.Journal,x.Log,x.Lease,x.Wait,()),c,(slotB s c.By).2,hC c,(H++Q).map hV,(n:Int),()))
  (fun i hi n hn=>⟨by cases (H++Q)[i].Key==c.By <;> simp only [cond_true,cond_false] <;> omega,fun kn ka=>by
    have hi2:=hi
    rw [List.length_append] at hi2
    show(bif decide ((i:Int)<(((0+H.length)+Q.length:Nat):Int)) then _ else _)=_
    dsimp only
    rw [bif_t (decide_eq_true (by omega)),gI_m hV_row hi]
    simp only [Int.toNat_natCast,hK hi]
    cases (H++Q)[i].Key==c.By with
    | false=>
      dsimp only [cond_false]
      rw [gW_sl (by rw [List.length_map]),gW_m hV_nm (by rw [List.length_map]),gW_m hV_nm (by rw [List.length_map]),w64_t (by omega) (by omega)]
      rfl
    | true=>
      dsimp only [cond_true]
      rw [gW_sl (by rw [List.length_map]),gW_m hV_nm (by rw [List.length_map]),gW_m hV_nm (by rw [List.length_map]),w64_t (by omega) (by omega),w64_t (by omega) (by omega)]
      rfl⟩)
  (fun n hn kn ka=>by
    show(bif decide (((H++Q).length:Int)<(((0+H.length)+Q.length:Nat):Int)) then _ else _)=_
    dsimp only
    rw [List.length_append,bif_f (decide_eq_false (by omega)),gW_sl (by rw [List.length_map]),gW_m hV_nm (by rw [List.length_map]),gW_m hV_nm (by rw [List.length_map])])
  L 0 (Nat.zero_le _) (by rw [List.length_append];omega) 0 (Nat.le_refl _)
 refine(R.2 _).trans ?_
 rw [List.drop_zero,fold_count,Nat.zero_add]
 dsimp only
 rw [show(⟨x.Nodes,x.Slots,x.Blocks,x.Per,x.Journal,x.Log,x.Lease,x.Wait⟩:yAN)=x from rfl,shold_eq,bindO_s,tch_eq hL (by rw [List.length_append];omega),bindO_s]
 have no:gW (s.map slV) (s.map slV).length (gW (H.map hV) (H.map hV).length (gW (Q.map hV) (Q.map hV).length (some ((),(s.map slV,H.map hV,Q.map hV,x.Nodes,x.Slots,x.Blocks,x.Per,x.Journal,x.Log,x.Lease,x.Wait,())))))=some ((),(s.map slV,H.map hV,Q.map hV,x.Nodes,x.Slots,x.Blocks,x.Per,x.Journal,x.Log,x.Lease,x.Wait,())):=by
  rw [gW_sl (by rw [List.length_map]),gW_m hV_nm (by rw [List.length_map]),gW_m hV_nm (by rw [List.length_map])]
 rw [no]
 unfold askH askB
 cases (slotB s c.By).2 with
 | false=>rfl
 | true=>
   cases hldB x (hC c) with
   | false=>rfl
   | true=>
     cases tchB (H++Q) c.By c.Span with
     | true=>rfl
     | false=>
       by_cases h64:((H++Q).filter fun h=>h.Key==c.By).length<64
       ·have e1:decide ((((H++Q).filter fun h=>h.Key==c.By).length:Int)<64)=true:=decide_eq_true (by omega)
        rw [e1,decide_eq_true h64]
        dsimp only [Bool.not_false,cond_true,Bool.true_and]
        rw [show Q.map hV++ [[V.int .i64 c.By,V.int .i64 c.Span.Lo,V.int .i64 c.Span.Hi,V.int .i8 c.Mode]]=(Q++ [hC c]).map hV from hV_snoc Q (hC c)]
        rw [gd_beq (by omega),gM_s (by rw [List.length_map];omega) (by decide),gW_sl (by rw [List.length_map]),gW_m hV_nm (by rw [List.length_map]),gW_m hV_nm (by simp),grant_eq hL hs (by simp only [List.length_append,List.length_cons,List.length_nil];omega),bindO_s]
        dsimp only
        rw [gW_sl (by rw [List.length_map]),gW_m hV_nm (by rw [List.length_map]),gW_m hV_nm (by rw [List.length_map])]
        rfl
       ·have e1:decide ((((H++Q).filter fun h=>h.Key==c.By).length:Int)<64)=false:=decide_eq_false (by omega)
        rw [e1,decide_eq_false h64]
        rfl
end
end Go.Proofs.YtakljpcmbpaeaaaGreat

namespace Go.Proofs.YtakljpcmbpaeaaaGreat
open Go.RowKit
section
variable {L:Nat} {s:List (Int×Int)} {H Q l:List yAI} {i:Nat}
theorem find_free(hL:200000<L)(hs:s.length≤1000):yAt L (s.map slV) ()=some (match s.findIdx? (fun o=>o.1==0) with | none=> -1 | some i=>(i:Int)):=by
 unfold yAt yBn
 rw [List.length_map]
 refine(seek_run s (fun o=>o.1==0) (fun i=>(s.map slV,(),(s.length:Int),(i:Int),())) () (fun i=>((i:Int),())) (fun i hi kn ka kb=>?_) (fun kn ka kb=>?_) L 0 (Nat.zero_le _) (by omega) (fun j hj h=>absurd h (Nat.not_lt_zero _)) _ _).trans ?_
 ·show(bif decide ((i:Int)<(s.length:Int)) then _ else _)=_
  dsimp only
  rw [bif_t (decide_eq_true (by omega)),gI_m slV_row hi]
  show(bif aI (s.map slV) (i:Int).toNat 0==0 then _ else _)=_
  simp only [Int.toNat_natCast,sKey hi]
  rw [w64_t (by omega) (by omega)]
  rfl
 ·show(bif decide ((s.length:Int)<(s.length:Int)) then _ else _)=_
  rw [bif_f (decide_eq_false (by omega))]
 ·cases s.findIdx? (fun o=>o.1==0) <;> rfl
def mntS(s:List (Int×Int))(k:Int):List (Int×Int):=bif(slotB s k).2 then s else match s.findIdx? (fun o=>o.1==0) with | none=>s | some i=>s.set i (k,(s.getD i (0,0)).2)
theorem mntS_len(k:Int):(mntS s k).length=s.length:=by
 unfold mntS
 cases (slotB s k).2 with
 | true=>rfl
 | false=>cases s.findIdx? (fun o=>o.1==0) <;> simp
structure Tb where
 s:List (Int×Int)
 H:List yAI
 Q:List yAI
def Tb.t(a:Tb):yAC:=tbl a.s a.H a.Q
def Tb.ap(x:yAN)(a:Tb)(c:yAE):Tb:=
 bif c.Kind==0 then⟨mntS a.s c.By,a.H,a.Q⟩
 else bif c.Kind==1 then bif(slotB a.s c.By).2 then⟨a.s.set (slotB a.s c.By).1.toNat (0,0),(lvH a.s a.H a.Q (slotB a.s c.By).1.toNat).1,(lvH a.s a.H a.Q (slotB a.s c.By).1.toNat).2⟩ else a
 else⟨a.s,(askH x a.s a.H a.Q c).1,(askH x a.s a.H a.Q c).2⟩
theorem Tb.ap_s(x:yAN)(a:Tb)(c:yAE):(a.ap x c).s.length=a.s.length:=by
 unfold Tb.ap
 cases c.Kind==0 with
 | true=>exact mntS_len _
 | false=>
   cases c.Kind==1 with
   | true=>cases (slotB a.s c.By).2 <;> simp
   | false=>rfl
theorem Tb.ap_n(x:yAN)(a:Tb)(c:yAE):(a.ap x c).H.length+(a.ap x c).Q.length≤a.H.length+a.Q.length+1:=by
 unfold Tb.ap
 cases c.Kind==0 with
 | true=>exact Nat.le_succ _
 | false=>
   cases c.Kind==1 with
   | true=>
     cases (slotB a.s c.By).2 with
     | true=>
       have:=lvH_len (s:=a.s) a.H a.Q (slotB a.s c.By).1.toNat
       simp only [cond_false,cond_true];omega
     | false=>exact Nat.le_succ _
   | false=>
     show(askH x a.s a.H a.Q c).1.length+(askH x a.s a.H a.Q c).2.length≤_
     unfold askH
     cases askB x a.s a.H a.Q c with
     | true=>
       rw [cond_true,grH_len,List.length_append]
       simp only [List.length_cons,List.length_nil];omega
     | false=>exact Nat.le_succ _
theorem clone_s(hs:s.length≤1000):slices_Clone_Slot L (s.map slV)=some (s.map slV):=clR_sl hs
theorem clone_h(hl:l.length≤10000):slices_Clone_Hold L (l.map hV)=some (l.map hV):=by
 show clR 4 (l.map hV)=_
 unfold clR
 rw [all_h,nm_m hV_nm,Nat.ble_eq_true_of_le (by rw [List.length_map];omega)];rfl
theorem tail_t{s:List (Int×Int)}{H Q:List yAI}{n:Nat}(hs:s.length≤1000)(hl:H.length+Q.length≤10000)(hn:n=s.length):
  gF (s.map slV) (0+n) (gF (H.map hV) (0+(H.map hV).length) (gF (Q.map hV) (0+(Q.map hV).length) (some (⟨(s.map slV).take n,(H.map hV).take (H.map hV).length,(Q.map hV).take (Q.map hV).length⟩:yAC))))=some (tbl s H Q):=by
 rw [gF_sl (by omega) (by omega),gF_m hV_nm (by rw [List.length_map];omega) (by omega),gF_m hV_nm (by rw [List.length_map];omega) (by omega),take_len (by rw [List.length_map];exact hn),take_len rfl,take_len rfl]
 rfl
set_option maxHeartbeats 1000000 in
theorem apply_eq(hL:200000<L)(x:yAN)(a:Tb)(c:yAE)(hs:a.s.length≤1000)(hl:a.H.length+a.Q.length≤9000)(hk:c.Kind=0∨c.Kind=1∨c.Kind=2):yCw L x a.t c=some (a.ap x c).t:=by
 obtain⟨s,H,Q⟩:=a
 dsimp only at hs hl
 unfold yCw yOq Tb.t tbl Tb.ap
 dsimp only
 have ht:∀(n:Nat),n=s.length→gF (s.map slV) (0+n) (gF (H.map hV) (0+(H.map hV).length) (gF (Q.map hV) (0+(Q.map hV).length) (some (⟨(s.map slV).take n,(H.map hV).take (H.map hV).length,(Q.map hV).take (Q.map hV).length⟩:yAC))))=some (tbl s H Q):=fun n hn=>tail_t hs (by omega) hn
 rw [clone_s hs,clone_h (l:=H) (by omega),clone_h (l:=Q) (by omega),bindO_s,bindO_s,bindO_s]
 have pre:∀(y:Option yAC),gF (s.map slV) (0+(s.map slV).length) (gF (H.map hV) (0+(H.map hV).length) (gF (Q.map hV) (0+(Q.map hV).length) y))=y:=fun y=>by
  rw [gF_sl (by rw [List.length_map];omega) (by omega),gF_m hV_nm (by rw [List.length_map];omega) (by omega),gF_m hV_nm (by rw [List.length_map];omega) (by omega)]
 have hslot:=bslot_eq (L:=L) hL hs (t:=⟨(s.map slV).take (s.map slV).length,(H.map hV).take (H.map hV).length,(Q.map hV).take (Q.map hV).length⟩) (x:=x) (take_len rfl) c.By
 rcases hk with hk | hk | hk
 ·rw [hk,bif_f (by rfl),bif_f (by rfl),bif_t (by rfl),pre,hslot,bindO_s,gF_sl (by rw [List.length_map];omega) (by omega),take_len rfl,find_free hL hs,bindO_s]
  dsimp only
  rw [bif_not,bif_t (show((0:Int)==0)=true from rfl)]
  unfold mntS
  cases (slotB s c.By).2 with
  | true=>
    rw [cond_true,cond_true]
    have:=ht (s.map slV).length (List.length_map _)
    rw [take_len rfl] at this
    exact this
  | false=>
    rw [cond_false,cond_false]
    cases hf:s.findIdx? (fun o=>o.1==0) with
    | none=>
      dsimp only
      rw [bif_f (by rfl)]
      have:=ht (s.map slV).length (List.length_map _)
      rw [take_len rfl] at this
      exact this
    | some i=>
      have hi:=(List.findIdx?_eq_some_iff_getElem.1 hf).1
      dsimp only
      simp only [Int.toNat_natCast]
      rw [bif_t (decide_eq_true (by omega)),gB_t (by omega) (by rw [List.length_map];omega),gd_dec (by rw [List.length_map];omega),gd_ble (Nat.zero_le _),gd_ble (by rw [Nat.zero_add,getDr_at (map_at hi)];exact Nat.le_succ 1),set_sl hi,tail_t (by rw [List.length_set];exact hs) (by omega) (by rw [List.length_map,List.length_set]),getD_s hi]
      rfl
 ·rw [hk,bif_f (by rfl),bif_f (by rfl),bif_f (by rfl),bif_t (by rfl),pre,hslot,bindO_s]
  dsimp only
  rw [bif_f (show((1:Int)==0)=false from rfl),bif_t (show((1:Int)==1)=true from rfl)]
  cases hm:(slotB s c.By).2 with
  | false=>
    rw [cond_false,cond_false]
    exact ht (s.map slV).length (List.length_map _)
  | true=>
    obtain⟨i,hi,he⟩:=slotB_lt hm
    rw [cond_true,cond_true,he,gW_sl (by rw [List.length_map]),gW_m hV_nm (by rw [List.length_map]),gW_m hV_nm (by rw [List.length_map]),clear_eq hL hs (by omega) hi,bindO_s]
    dsimp only
    simp only [Int.toNat_natCast]
    have:=lvH_len (s:=s) H Q i
    exact tail_t (by rw [List.length_set];exact hs) (by omega) (List.length_map _)
 ·rw [hk,bif_f (by rfl),bif_f (by rfl),bif_f (by rfl),bif_f (by rfl),bif_t (by rfl)]
  rw [bif_f (show((2:Int)==0)=false from rfl),bif_f (show((2:Int)==1)=false from rfl),gW_sl (by rw [List.length_map]),gW_m hV_nm (by rw [List.length_map]),gW_m hV_nm (by rw [List.length_map]),ask_eq hL hs (by omega),bindO_s]
  dsimp only
  have:=Tb.ap_n x ⟨s,H,Q⟩ c
  unfold Tb.ap at this
  rw [hk] at this
  dsimp only [cond_false] at this
  exact tail_t hs (by
   have h2:(askH x s H Q c).1.length+(askH x s H Q c).2.length≤H.length+Q.length+1:=this
   omega) (List.length_map _)
theorem rApply_eq(hL:200000<L)(x:yAN)(a:Tb)(c:yAE)(hs:a.s.length≤1000)(hl:a.H.length+a.Q.length≤9000)(hk:c.Kind=0∨c.Kind=1∨c.Kind=2):yFO L x a.t c=some (a.ap x c).t:=by
 obtain⟨s,H,Q⟩:=a
 dsimp only at hs hl
 unfold yFO yOg Tb.t Tb.ap
 dsimp only
 have ht:∀{s':List (Int×Int)} {H' Q':List yAI},s'.length≤1000→H'.length+Q'.length≤10000→gF (s'.map slV) (0+(s'.map slV).length) (gF (H'.map hV) (0+(H'.map hV).length) (gF (Q'.map hV) (0+(Q'.map hV).length) (some (⟨(s'.map slV).take (s'.map slV).length,(H'.map hV).take (H'.map hV).length,(Q'.map hV).take (Q'.map hV).length⟩:yAC))))=some (tbl s' H' Q'):=fun h1 h2=>tail_t h1 h2 (List.length_map _)
 rw [rslot_eq hL hs rfl,bindO_s,rslot_eq hL hs rfl,bindO_s]
 rcases hk with hk | hk | hk
 ·rw [hk,bif_t (show((0:Int)==0)=true from rfl),bif_t (show((0:Int)==0)=true from rfl)]
  unfold mntS
  cases hm:(slotB s c.By).2 with
  | true=>
    obtain⟨n,rfl⟩:∃n,L=n+1:=⟨L-1,by omega⟩
    show(bif decide ((0:Int)<((s.map slV).length:Int)) then _ else _)=_
    cases decide ((0:Int)<((s.map slV).length:Int)) <;> rfl
  | false=>
    rw [cond_false]
    refine(seek_run s (fun o=>o.1==0) (fun i=>(tbl s H Q,c,yAC.z,false,(i:Int),())) (tbl s H Q,yAC.z,()) (fun i=>(tbl (s.set i (c.By,(s.getD i (0,0)).2)) H Q,())) (fun i hi kn ka kb=>?_) (fun kn ka kb=>?_) L 0 (Nat.zero_le _) (by omega) (fun j hj h=>absurd h (Nat.not_lt_zero _)) _ _).trans ?_
    ·show(bif decide ((i:Int)<((s.map slV).length:Int)) then _ else _)=_
     rw [List.length_map,bif_t (decide_eq_true (by omega))]
     show(gI (s.map slV) yAG.ks (i:Int) (bif aI (s.map slV) (i:Int).toNat 0==0 then _ else _))=_
     rw [gI_m slV_row hi]
     simp only [Int.toNat_natCast,sKey hi]
     cases s[i].1==0 with
     | true=>
       rw [cond_true,cond_true,copy_eq hs (by omega),bindO_s]
       dsimp only
       rw [gB_t (by omega) (by rw [List.length_map];omega),gd_dec (by rw [List.length_map];omega),gd_ble (Nat.zero_le _),gd_ble (by rw [Nat.zero_add,getDr_at (map_at hi)];exact Nat.le_succ 1),set_sl hi,gF_sl (by rw [List.length_map,List.length_set];omega) (by rw [List.length_set];omega),gF_m hV_nm (by rw [List.length_map];omega) (by omega),gF_m hV_nm (by rw [List.length_map];omega) (by omega),
        take_len (by rw [List.length_map,List.length_map,List.length_set]),take_len rfl,take_len rfl,getD_s hi]
       rfl
     | false=>
       rw [cond_false,cond_false]
       rw [w64_t (by omega) (by omega)]
       rfl
    ·show(bif decide ((s.length:Int)<((s.map slV).length:Int)) then _ else _)=_
     rw [List.length_map,bif_f (decide_eq_false (by omega))]
    ·cases s.findIdx? (fun o=>o.1==0) <;> rfl
 ·rw [hk,bif_f (show((1:Int)==0)=false from rfl),bif_f (show((1:Int)==0)=false from rfl),bif_t (show((1:Int)==1)=true from rfl),bif_t (show((1:Int)==1)=true from rfl)]
  cases hm:(slotB s c.By).2 with
  | false=>rfl
  | true=>
    obtain⟨i,hi,he⟩:=slotB_lt hm
    rw [cond_true,cond_true,he,rleave_eq hL hs (by omega) hi,bindO_s]
    dsimp only
    simp only [Int.toNat_natCast]
    have:=lvH_len (s:=s) H Q i
    exact ht (by rw [List.length_set];exact hs) (by omega)
 ·rw [hk,bif_f (show((2:Int)==0)=false from rfl),bif_f (show((2:Int)==0)=false from rfl),bif_f (show((2:Int)==1)=false from rfl),bif_f (show((2:Int)==1)=false from rfl),bif_t (show((2:Int)==2)=true from rfl)]
  have hfl:=List.length_filter_le (fun h:yAI=>h.Key==c.By) (H++Q)
  rw [List.length_append] at hfl
  rw [rall_eq hL (by omega),bindO_s,rhold_eq,bindO_s]
  dsimp only
  rw [gF_m hV_nm (by rw [List.length_map];omega) (by omega),take_len rfl,rtch_eq hL (by omega),bindO_s,tch_filter,List.length_map,copy_eq hs (by omega),bindO_s]
  dsimp only
  unfold askH askB
  cases (slotB s c.By).2 with
  | false=>rfl
  | true=>
    cases hldB x (hC c) with
    | false=>rfl
    | true=>
      cases tchB (H++Q) c.By c.Span with
      | true=>rfl
      | false=>
        by_cases h64:((H++Q).filter fun h=>h.Key==c.By).length<64
        ·have e1:decide ((((H++Q).filter fun h=>h.Key==c.By).length:Int)<64)=true:=decide_eq_true (by omega)
         rw [e1,decide_eq_true h64]
         dsimp only [Bool.not_false,cond_true,Bool.true_and]
         rw [show Q.map hV++ [[V.int .i64 c.By,V.int .i64 c.Span.Lo,V.int .i64 c.Span.Hi,V.int .i8 c.Mode]]=(Q++ [hC c]).map hV from hV_snoc Q (hC c)]
         have hq1:(Q++ [hC c]).length=Q.length+1:=by simp
         rw [gd_beq (by omega),gM_s (by rw [List.length_map];omega) (by decide),gF_sl (by rw [List.length_map];omega) (by omega),gF_m hV_nm (by rw [List.length_map];omega) (by omega),gF_m hV_nm (by rw [List.length_map];omega) (by omega),take_len rfl,take_len rfl,take_len (by rw [List.length_map,List.length_map,hq1])]
         rw [show(⟨s.map slV,H.map hV,(Q++ [hC c]).map hV⟩:yAC)=tbl s H (Q++ [hC c]) from rfl,rGrant_eq hL hs (by omega),bindO_s]
         have:=grH_len H (Q++ [hC c])
         exact ht hs (by omega)
        ·have e1:decide ((((H++Q).filter fun h=>h.Key==c.By).length:Int)<64)=false:=decide_eq_false (by omega)
         rw [e1,decide_eq_false h64]
         rfl
end
end Go.Proofs.YtakljpcmbpaeaaaGreat

namespace Go.Proofs.YtakljpcmbpaeaaaGreat
set_option maxHeartbeats 4000000
open Go.RowKit
theorem le1{n:Nat}(h:n<256):leBytes 1 n= [UInt8.ofNat n]:=by
 show [UInt8.ofNat (n%256)]=_
 rw [Nat.mod_eq_of_lt h]
theorem u8n{n:Nat}(h:n<256):(UInt8.ofNat n).toNat=n:=by simp [Nat.mod_eq_of_lt h]
theorem wu8{n:Int}(h0:0≤n)(h:n<256):IntKind.u8.wrap n=n:=by
 unfold IntKind.wrap
 simp [IntKind.bits,IntKind.signed]
 omega
theorem u8_row{k:Int}(h0:0≤k)(h:k<64): [[V.int .u8 (IntKind.u8.wrap k)]]=(leBytes 1 k.toNat).map byV:=by
 rw [le1 (by omega),wu8 h0 (by omega)]
 show _= [[V.int .u8 ((UInt8.ofNat k.toNat).toNat:Int)]]
 rw [u8n (by omega),Int.toNat_of_nonneg h0]
theorem rBytes_ask{L:Nat}(hL:10<L){c:yAE}(h:MayC c)(h2:c.Kind=2):yB6 L c=some (mkS (cmdL c),0,()):=by
 have hm:=r10May_eq (L:=L) c
 rw [decide_eq_true h] at hm
 obtain⟨⟨g1,g2⟩,g3,g4,h5⟩:=h
 have q:0≤c.Span.Lo∧c.Span.Lo≤c.Span.Hi∧c.Span.Hi<64∧(c.Mode=1∨c.Mode=2):=by omega
 have p1:=rPut_le hL (w:=6) (wi:=6) (n:=c.By) (b:=leBytes 1 c.Kind.toNat) rfl (by omega) (by omega) (by omega) (by rw [most6];omega) (by rw [leBytes_length];omega)
 have p2:=rPut_le hL (w:=4) (wi:=4) (n:=c.Serial) (b:=leBytes 1 c.Kind.toNat++leBytes 6 c.By.toNat) rfl (by omega) (by omega) (by omega) (by rw [most4];omega) (by simp only [List.length_append,leBytes_length];omega)
 have z2:(c.Kind==2)=true:=by simpa using h2
 have fin:∀b:Bs,(bytesOf (b.map byV)).isSome=true:=fun b=>by rw [bytesOf_by];rfl
 have f1:∀{α:Type} (x:Option α),gF ((leBytes 1 c.Kind.toNat++leBytes 6 c.By.toNat).map byV) (((leBytes 1 c.Kind.toNat++leBytes 6 c.By.toNat).map byV).length) x=x:=fun x=>gF_by (by simp only [List.length_append,leBytes_length];omega)
 have tl: [[V.int .u8 (IntKind.u8.wrap c.Span.Lo)],[V.int .u8 (IntKind.u8.wrap c.Span.Hi)],[V.int .u8 (IntKind.u8.wrap c.Mode)]]=(cmdT c).map byV:=by
  unfold cmdT
  rw [if_pos h2,List.append_nil,List.map_append,List.map_append,←u8_row (by omega) (by omega),←u8_row (by omega) (by omega),←u8_row (by omega) (by omega)]
  rfl
 have ct:(cmdT c).length=3:=by unfold cmdT;rw [if_pos h2];simp [leBytes_length]
 have hl3:((leBytes 1 c.Kind.toNat++leBytes 6 c.By.toNat++leBytes 4 c.Serial.toNat).map byV).length+3=((leBytes 1 c.Kind.toNat++leBytes 6 c.By.toNat++leBytes 4 c.Serial.toNat++cmdT c).map byV).length:=by
  simp only [List.length_map,List.length_append,ct]
 have hM:∀{α:Type} (x:Option α),gM (((leBytes 1 c.Kind.toNat++leBytes 6 c.By.toNat++leBytes 4 c.Serial.toNat).map byV).length+3) 1 x=x:=fun x=>gM_t (by simp only [List.length_map,List.length_append,leBytes_length];omega) (by simp only [List.length_map,List.length_append,leBytes_length];omega)
 unfold yB6 yL4
 simp only [Nat.zero_add,List.take_length,hm,bindO_s,Bool.not_true,cond_false,kind_row (show 0≤c.Kind by omega) (show c.Kind≤5 by omega),p1,f1,p2,z2,cond_true,tl,←List.map_append]
 rw [gd_t (Nat.beq_refl _),hM,hl3,gd_t (ble_self _),List.take_length,gd_t (fin _),bytesS_by]
 unfold cmdL
 rw [List.append_assoc,List.append_assoc]
theorem rRead_ask{L:Nat}(hL:10<L){c:yAE}(h:MayC c)(hk2:c.Kind=2):yEh L (mkS (cmdL c))=some (c,0,()):=by
 have hb:=rBytes_ask hL h hk2
 have hlen:=cmdL_len c
 have ct:(cmdT c).length=3:=by unfold cmdT;rw [if_pos hk2];simp [leBytes_length]
 obtain⟨⟨h1,h2⟩,h3,h4,h5⟩:=h
 have q:0≤c.Span.Lo∧c.Span.Lo≤c.Span.Hi∧c.Span.Hi<64∧(c.Mode=1∨c.Mode=2)∧c.Dead=0∧c.Was=0:=by omega
 have hT:cmdT c= [UInt8.ofNat c.Span.Lo.toNat,UInt8.ofNat c.Span.Hi.toNat,UInt8.ofNat c.Mode.toNat]:=by
  unfold cmdT
  rw [if_pos hk2,le1 (by omega),le1 (by omega),le1 (by omega)];rfl
 have g1:yDx L (mkS (cmdL c)) 1 6=some (c.By,0,()):=by
  rw [rGet_mk hL (by omega)]
  unfold cmdL
  rw [getS_mid (leBytes 1 c.Kind.toNat) (leBytes 4 c.Serial.toNat++cmdT c) (w:=6) (n:=c.By) (a:=1) (wi:=6) (by rw [leBytes_length];rfl) rfl (by omega) (by omega) (by omega) (by rw [most6];omega)]
 have g2:yDx L (mkS (cmdL c)) 7 4=some (c.Serial,0,()):=by
  rw [rGet_mk hL (by omega)]
  unfold cmdL
  rw [←List.append_assoc,getS_mid (leBytes 1 c.Kind.toNat++leBytes 6 c.By.toNat) (cmdT c) (w:=4) (n:=c.Serial) (a:=7) (wi:=4) (by simp [leBytes_length]) rfl (by omega) (by omega) (by omega) (by rw [most4];omega)]
 have hh:((((mkS (cmdL c))[0]?).getD 0).toNat:Int)=c.Kind:=head_byte (by omega) (by omega)
 have he:(mkS (cmdL c)).extract 11 (mkS (cmdL c)).size=mkS (cmdT c):=by
  rw [extract_end,mkS_l]
  refine congrArg mkS ?_
  unfold cmdL
  rw [←List.append_assoc,←List.append_assoc,List.drop_left' (by simp only [List.length_append,leBytes_length])]
 have s0:((mkS (cmdL c)).size:Int)=14:=by rw [mkS_n,hlen,ct];rfl
 have b0:((((mkS (cmdT c))[0]?).getD 0).toNat:Int)=c.Span.Lo:=by
  rw [hT];show((UInt8.ofNat c.Span.Lo.toNat).toNat:Int)=_;rw [u8n (by omega)];omega
 have b1:((((mkS (cmdT c))[1]?).getD 0).toNat:Int)=c.Span.Hi:=by
  rw [hT];show((UInt8.ofNat c.Span.Hi.toNat).toNat:Int)=_;rw [u8n (by omega)];omega
 have b2:((((mkS (cmdT c))[2]?).getD 0).toNat:Int)=c.Mode:=by
  rw [hT];show((UInt8.ofNat c.Mode.toNat).toNat:Int)=_;rw [u8n (by omega)];omega
 have st:((mkS (cmdT c)).size:Int)=3:=by rw [mkS_n,ct];rfl
 have mo:IntKind.i8.wrap (IntKind.u8.wrap ((BitVec.ofInt IntKind.u8.bits c.Mode &&& BitVec.ofInt IntKind.u8.bits 127).toNat:Int))=c.Mode:=by
  rcases q.2.2.2.1 with e | e <;> rw [e] <;> rfl
 have z0:((0:Int) !=0)=false:=rfl
 obtain⟨kd,by_,ser,dd,ws,⟨lo,hi⟩,md⟩:=c
 dsimp only at*
 obtain⟨q1,q2,q3,q4,rfl,rfl⟩:=q
 subst hk2
 have w1:IntKind.i64.wrap lo=lo:=wrap64 (by omega) (by omega)
 have w2:IntKind.i64.wrap hi=hi:=wrap64 (by omega) (by omega)
 unfold yEh yM0
 simp only [gd,gI,gB,gL,gF,gW,gA,gM,w64,s0,st,show decide ((14:Int)<11)=false from rfl,show decide ((0:Int)<14)=true from rfl,show decide ((11:Int)≤14)=true from rfl,show decide ((3:Int)<2)=false from rfl,show decide ((0:Int)<3)=true from rfl,show decide ((1:Int)<3)=true from rfl,show decide ((2:Int)<3)=true from rfl,show((3:Int)==3)=true from rfl,
  cond_false,cond_true,g1,g2,bindO_s,z0,hh,show IntKind.i8.wrap 2=2 from rfl,show((2:Int)==2)=true from rfl,show decide (127<(2:Int))=false from rfl,he,b0,b1,b2,w1,w2,mo,hb]
 rw [beq_self_eq_true]
 rfl
theorem rBytes_mla{L:Nat}(hL:10<L){c:yAE}(h:MayC c)(hk:c.Kind=0∨c.Kind=1∨c.Kind=2):yB6 L c=some (mkS (cmdL c),0,()):=by
 by_cases h2:c.Kind=2
 ·exact rBytes_ask hL h h2
 ·exact rBytes_enc hL h h2 (by omega)
theorem rRead_mla{L:Nat}(hL:10<L){c:yAE}(h:MayC c)(hk:c.Kind=0∨c.Kind=1∨c.Kind=2):yEh L (mkS (cmdL c))=some (c,0,()):=by
 by_cases h2:c.Kind=2
 ·exact rRead_ask hL h h2
 ·exact rRead_enc0 hL h (by omega)
end Go.Proofs.YtakljpcmbpaeaaaGreat

namespace Go.Proofs.YtakljpcmbpaeaaaGreat
open Go.RowKit
structure PSt where
 s:List ByteArray
 p:yAR
 t:yAC
 d:Int
structure PGeo (x:yAN) (N:Nat) (s:List ByteArray):Prop where
 may:(geoOf x).may=true
 n:x.Nodes=N
 ok:SecOk s
 len:(s.length:Int)=(geoOf x).total
theorem PGeo.set{x:yAN}{N:Nat}{s:List ByteArray}(h:PGeo x N s)(k:Nat){b:ByteArray}(hb:b.size≤512):PGeo x N (s.set k b):=⟨h.may,h.n,h.ok.set k hb,by rw [List.length_set];exact h.len⟩
theorem PGeo.bd{x:yAN}{N:Nat}{s:List ByteArray}(h:PGeo x N s):1≤N∧N≤16∧8≤x.Log∧x.Log≤512∧1≤x.Slots∧x.Slots≤16∧8*x.Slots≤x.Log∧1+2*(N:Int)+x.Log≤s.length:=by
 have hok:=Geo.may_ok h.may
 have n1:1≤x.Nodes:=hok.n1
 have n2:x.Nodes≤16:=hok.n2
 have s1:1≤x.Slots:=hok.s1
 have s2:x.Slots≤x.Nodes:=hok.s2
 have l1:8*x.Slots≤x.Log:=hok.l1
 have l2:x.Log≤512:=hok.l2
 have hn:=h.n
 have ht:=total_bd hok
 have hs:=hok.sj
 have e:(geoOf x).atD=1+2*x.Nodes+x.Log+(geoOf x).slots*(1+(geoOf x).journal):=rfl
 have hl:=h.len
 omega
section
variable {L:Nat} [BigL L] {x:yAN} {N:Nat} {a:PSt} {own:yAE} {c:yAE} {t':yAC} {r:yBG}
end
end Go.Proofs.YtakljpcmbpaeaaaGreat

namespace Go.Proofs.YtakljpcmbpaeaaaGreat
open Go.RowKit
section
variable {L N:Nat} [BigL L] {x:yAN}
end
section
variable {L N:Nat} [BigL L] {x:yAN} {s:List ByteArray} {t:yAC} {d:Int} {n:Nat} {R:Nat→yBG} {cmd:ByteArray} {own:yAE} {r:yBG}
end
theorem rowsNm_cs(l:List yAE):rowsNm (l.map yAE.cs)=true:=List.all_eq_true.2 fun r hr=>by
 obtain⟨a,_,rfl⟩:=List.mem_map.1 hr
 rfl
theorem r12Read{L:Nat}[BigL L]{c:yAE}(h:yEh L (mkS (cmdL c))=some (c,0,())):yFk L (secC c)=some (c,mkS (cmdL c),true,0,()):=by
 have hp:=secC_pos c
 have hl:=secC_len c
 have hO:yPw L 5 (secC c)=some (mkS (cmdL c),0,()):=by
  obtain⟨x,h1,h2,h3⟩:=sealB5 c
  rw [rOf_eq hL3]
  unfold secC
  rw [h2,mkS_l,ofR_seal (by omega) h1]
 unfold yFk yM1
 rw [ne_noS hp,cond_false,hO,bindO_s]
 dsimp only
 rw [show((0:Int) !=0)=false from rfl,cond_false,h,bindO_s]
 rfl
theorem r12Read_no{L:Nat}[BigL L]:yFk L noS=some (yAE.z,noS,false,0,()):=by
 unfold yFk yM1
 rw [beq_self_eq_true];rfl
set_option maxHeartbeats 1000000 in
theorem r12Row{L:Nat}[BigL L]{l:List ByteArray}{cs:List yAE}(hL:200000<L)(hl:l.length≤1000)(hc:cs.length≤l.length)(hat:∀i (h:i<cs.length) (h':i<l.length),l[i]=secC cs[i])(hend:∀h:cs.length<l.length,l[cs.length]=noS)
  (hR:∀c∈cs,yEh L (mkS (cmdL c))=some (c,0,())):yPn L (l.map txV)=some (cs.map yAE.cs,0,()):=by
 have H:=loop2_run (α:=List (List V)×Int×Unit) (F:=yE8 (yFk L)) (fun s=>∃j:Nat,j≤cs.length∧s.1=l.map txV∧s.2.1=(cs.take j).map yAE.cs∧s.2.2.1=j) (fun s=>l.length-s.2.2.1.toNat) (fun a=>a.1=cs.map yAE.cs) (fun b=>b.1=cs.map yAE.cs∧b.2.1=0) (fun s hs=>by
  obtain⟨s1,s2,s3,s4⟩:=s
  obtain⟨j,hj,rfl,rfl,rfl⟩:=hs
  have hlt:(cs.take j).length=j:=by rw [List.length_take];omega
  by_cases h1:j<cs.length
  ·have hjl:j<l.length:=by omega
   refine .inl ⟨(l.map txV,(cs.take (j+1)).map yAE.cs,((j+1:Nat):Int),()),⟨j+1,h1,rfl,rfl,rfl⟩,by dsimp only;omega,fun kn ka kb=>?_⟩
   have hrd:=r12Read (hR _ (List.getElem_mem h1))
   unfold yE8
   dsimp only
   rw [bif_t (decide_eq_true (by rw [List.length_map];omega)),gI_tx (by omega) (by omega),Int.toNat_natCast,aS_tx hjl,hat j h1 hjl,hrd,bindO_s,show((0:Int) !=0)=false from rfl,cond_false,Bool.not_true,cond_false]
   have e:(cs.take j).map yAE.cs++ [yAE.cs cs[j]]=(cs.take (j+1)).map yAE.cs:=by rw [List.take_succ_eq_append_getElem h1,List.map_append];rfl
   have e':(cs.take j).map yAE.cs++ [[V.int .i8 cs[j].Kind,V.int .i64 cs[j].By,V.int .i64 cs[j].Serial,V.int .i64 cs[j].Dead,V.int .i64 cs[j].Was,V.int .i64 cs[j].Span.Lo,V.int .i64 cs[j].Span.Hi,V.int .i8 cs[j].Mode]]=(cs.take (j+1)).map yAE.cs:=e
   have hl2:((cs.take (j+1)).map yAE.cs).length=j+1:=by rw [List.length_map,List.length_take];omega
   rw [e',List.length_map,hlt,Nat.zero_add,gd_t (Nat.beq_refl _),gM_t (by omega) (by omega),gA_t hl2.symm (by omega) (rowsNm_cs _),w64_t (by omega) (by omega)]
   rfl
  ·obtain rfl:j=cs.length:=by omega
   rw [List.take_length]
   by_cases h2:cs.length<l.length
   ·refine .inr (.inr ⟨(cs.map yAE.cs,0,()),⟨rfl,rfl⟩,fun kn ka kb=>?_⟩)
    unfold yE8
    dsimp only
    rw [bif_t (decide_eq_true (by rw [List.length_map];omega)),gI_tx (by omega) (by omega),Int.toNat_natCast,aS_tx h2,hend h2,r12Read_no,bindO_s,show((0:Int) !=0)=false from rfl,cond_false,Bool.not_false,cond_true,List.length_map,Nat.zero_add,gF_t (by rw [List.length_map];omega) (by omega) (rowsNm_cs _)]
    rw [show(cs.map yAE.cs).take cs.length=cs.map yAE.cs from List.take_of_length_le (by rw [List.length_map];exact Nat.le_refl _)]
   ·refine .inr (.inl ⟨(cs.map yAE.cs,()),rfl,fun kn ka kb=>?_⟩)
    unfold yE8
    dsimp only
    rw [bif_f (decide_eq_false (by rw [List.length_map];omega)),gA_t rfl (by rw [List.length_map];omega) (rowsNm_cs _)]) L (l.map txV,[],0,()) ⟨0,Nat.zero_le _,rfl,rfl,rfl⟩ (by dsimp only;omega)
 unfold yPn yQu
 rcases H with ⟨a,h1,h2⟩ | ⟨b,⟨h1,h3⟩,h2⟩
 ·rw [h2,h1,List.length_map,Nat.zero_add,gF_t (by rw [List.length_map];omega) (by omega) (rowsNm_cs _)]
  rw [show(cs.map yAE.cs).take cs.length=cs.map yAE.cs from List.take_of_length_le (by rw [List.length_map];exact Nat.le_refl _)]
 ·rw [h2,h1,h3]
theorem r12LogC{L N:Nat}[BigL L]{x:yAN}{s:List ByteArray}{ca:List (List V)}{cs:List yAE}(hca:CE ca N)(hL:200000<L)(h:PGeo x N s)(hc:(cs.length:Int)≤x.Log)(hat:∀i (h:i<cs.length),s.getD (1+2*N+i) noS=secC cs[i])(hend:(cs.length:Int)<x.Log→s.getD (1+2*N+cs.length) noS=noS)
  (hR:∀c∈cs,yEh L (mkS (cmdL c))=some (c,0,())):yNl L x (dvN s ca N N)=some (cs.map yAE.cs,0,()):=by
 obtain⟨n1,n2,l8,l512,s1,s16,sl,hl⟩:=h.bd
 have hC:yCF L (dvN s ca N N)=some 0:=rchk_eq h.ok hca n1 n2 BigL.h (Nat.le_refl _)
 have hT:yDI L x=some (geoOf x).total:=by rw [rTotal_eq];unfold Geo.totalS;rw [if_pos h.may]
 have hG:yFW L x 0=some (1+2*(N:Int)):=by
  rw [rLog_eq]
  unfold Geo.logS
  rw [if_pos ⟨h.may,by omega,by show(0:Int)<x.Log;omega⟩]
  show some (1+2*x.Nodes+0)=_
  rw [h.n,Int.add_zero]
 have hS:(dvN s ca N N).S=s.map txV:=rfl
 obtain⟨lg,hlg⟩:=Int.eq_ofNat_of_zero_le (show 0≤x.Log by omega)
 unfold yNl yQt
 rw [rMay_eq,h.may,bindO_s,Bool.not_true,cond_false,hC,bindO_s,show((0:Int) !=0)=false from rfl,cond_false,hT,bindO_s,hS,List.length_map,h.len,bif_f (show((geoOf x).total !=(geoOf x).total)=false from bne_self_eq_false _),hG,bindO_s,←h.len,hlg,w64_t (by omega) (by omega),gd_t (decide_eq_true (by omega)),gd_t (decide_eq_true (by omega)),gd_t (decide_eq_true (by omega)),gd_t (decide_eq_true (by omega)),gd_t (rows_sz 1 fun _=>rfl)]
 rw [show(1+2*(N:Int)).toNat=1+2*N by omega,show(1+2*(N:Int)+(lg:Int)).toNat-(1+2*N)=lg by omega,←List.map_drop,←List.map_take]
 have hlen:((s.drop (1+2*N)).take lg).length=lg:=by rw [List.length_take,List.length_drop];omega
 have hget:∀i (h:i<((s.drop (1+2*N)).take lg).length),((s.drop (1+2*N)).take lg)[i]=s.getD (1+2*N+i) noS:=fun i h=>by
  rw [hlen] at h
  rw [List.getElem_take,List.getElem_drop,List.getD_eq_getElem?_getD,List.getElem?_eq_getElem (by omega)];rfl
 rw [r12Row hL (by omega) (by omega) (fun i h1 h2=>by rw [hget i h2];exact hat i h1) (fun h1=>by rw [hget _ h1];exact hend (by omega)) hR]
 rfl
end Go.Proofs.YtakljpcmbpaeaaaGreat
