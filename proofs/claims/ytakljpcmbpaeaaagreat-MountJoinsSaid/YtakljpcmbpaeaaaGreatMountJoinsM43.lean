/- What the printed functions of layer 4 come to: geo, breakwaterref04. -/
import Derived.Test.YtakljpcmbpaeaaaGreatMountJoinsM34
import Derived.Test.YtakljpcmbpaeaaaGreatMountJoinsM42
import Derived.Test.YtakljpcmbpaeaaaGreatMountJoinsM01
set_option linter.unusedSimpArgs false
set_option linter.unusedVariables false
namespace Go.Proofs.YtakljpcmbpaeaaaGreat
open Go.RowKit
def srt:List Int->Bool
 | a::b::l=>decide (a<=b)&&srt (b::l)
 | _=>true
theorem xEM{α:Type}{l:List Int}(hl:l.length<=1000){ka:Unit->Option α}{kb:Bool×Unit->Option α}:∀(m i:Nat),i+1<=l.length->l.length<m+i+1->yAQ yD6 m (l.map inV,((i+1:Nat):Int),()) ka kb=if srt (l.drop i)=true then ka () else kb (false,())
 | 0,i,h1,h2=>by omega
 | m+1,i,h1,h2=>by
   show yD6 (l.map inV,((i+1:Nat):Int),()) (fun s'=>yAQ yD6 m s' ka kb) ka kb=_
   unfold yD6
   dsimp only
   by_cases hlt:i+1<l.length
   ·rw[yAT (decide_eq_true (by rw[List.length_map];omega)),show((i+1:Nat):Int)-1=i by omega,yAY (n:=(i:Int)) (by omega) (by omega),yQ2 (by omega) (by omega),yQ2 (by omega) (by omega),Int.toNat_natCast,Int.toNat_natCast,yUr hlt,yUr (by omega),yAY (by omega) (by omega)]
    have e:l.drop i=l[i]::l[i+1]::l.drop (i+2):=by rw[List.drop_eq_getElem_cons (by omega),List.drop_eq_getElem_cons hlt]
    by_cases hc:l[i+1]<l[i]
    ·rw[yAT (decide_eq_true hc),e,if_neg]
     show ¬(decide (l[i]<=l[i+1])&&_)=true
     rw[decide_eq_false (by omega)]
     simp
    ·rw[yAJ (decide_eq_false hc),show((i+1:Nat):Int)+1=((i+1+1:Nat):Int) by omega,xEM hl m (i+1) (by omega) (by omega),e]
     have:srt (l[i]::l[i+1]::l.drop (i+2))=srt (l.drop (i+1)):=by
      rw[List.drop_eq_getElem_cons hlt]
      show(decide (l[i]<=l[i+1])&&_)=_
      rw[decide_eq_true (by omega),Bool.true_and]
     rw[this]
   ·have e:l.drop i= [l[i]]:=by rw[List.drop_eq_getElem_cons (by omega),List.drop_eq_nil_of_le (by omega)]
    rw[yAJ (decide_eq_false (by rw[List.length_map];omega)),e]
    rfl
theorem xJy{L:Nat}{l:List Int}(h0:1<=l.length)(hl:l.length<=1000)(hL:l.length<L):yIu L (l.map inV)=some (srt l):=by
 unfold yIu yQ3
 have:=xEM (α:=Bool) hl (ka:=fun q1=>some true) (kb:=fun q2=>some q2.1) L 0 (by omega) (by omega)
 refine this.trans ?_
 rw[List.drop_zero]
 cases srt l <;> rfl
theorem xEl{L:Nat}(hL:10<L){x:yAR}(hw:xJ0 x.Wait=true):yF8 L x=some (yB2 x).may:=by
 obtain⟨w1,w2⟩:=xNQ hw
 have W:∀l:List Int,1<=l.length->l.length<=10->yIu L (l.map inV)=some (srt l):=fun l h1 h2=>xJy h1 (by omega) (by omega)
 have W3:∀a b c:Int,yIu L ([[V.int .i64 a],[V.int .i64 b],[V.int .i64 c]])=some (decide (a<=b/\b<=c)):=fun a b c=>(W [a,b,c] (by simp) (by simp)).trans (by simp[srt])
 have W4:∀a b c d:Int,yIu L ([[V.int .i64 a],[V.int .i64 b],[V.int .i64 c],[V.int .i64 d]])=some (decide (a<=b/\b<=c/\c<=d)):=fun a b c d=>(W [a,b,c,d] (by simp) (by simp)).trans (by simp[srt])
 have no:∀{p:Prop},((yB2 x).OK->p)->¬p->(yB2 x).may=false:=fun h hp=>by
  cases hm:(yB2 x).may with
  | false=>rfl
  | true=>exact absurd (h (Geo.may_ok hm)) hp
 unfold yF8 yXq
 rw[W4,yAB]
 by_cases h1:¬(1<=x.Slots/\x.Slots<=x.Nodes/\x.Nodes<=16)
 ·rw[decide_eq_false h1,no (fun h=>⟨h.s1,h.s2,h.n2⟩) h1];rfl
 replace h1:=Decidable.not_not.1 h1
 rw[decide_eq_true h1,cond_true,W3,yAB]
 by_cases h2:¬(1<=x.Blocks/\x.Blocks<=64)
 ·rw[decide_eq_false h2,no (fun h=>⟨h.b1,h.b2⟩) h2];rfl
 replace h2:=Decidable.not_not.1 h2
 rw[decide_eq_true h2,cond_true,W3,yAB]
 by_cases h3:¬(1<=x.Per/\x.Per<=8)
 ·rw[decide_eq_false h3,no (fun h=>⟨h.p1,h.p2⟩) h3];rfl
 replace h3:=Decidable.not_not.1 h3
 rw[decide_eq_true h3,cond_true,yAY (n:=x.Per+2) (by omega) (by omega),W3,yAB]
 by_cases h4:¬(x.Per+2<=x.Journal/\x.Journal<=64)
 ·rw[decide_eq_false h4,no (fun h=>⟨h.j1,h.j2⟩) h4];rfl
 replace h4:=Decidable.not_not.1 h4
 rw[decide_eq_true h4,cond_true,yAY (n:=8*x.Slots) (by omega) (by omega),W3,yAB]
 by_cases h5:¬(8*x.Slots<=x.Log/\x.Log<=512)
 ·rw[decide_eq_false h5,no (fun h=>⟨h.l1,h.l2⟩) h5];rfl
 replace h5:=Decidable.not_not.1 h5
 rw[decide_eq_true h5,cond_true,W4,yAB]
 congr 1
 by_cases hmin:x.Wait= -9223372036854775808
 ·rw[no (p:=1<=x.Wait) (fun h=>by have h1:1<=x.Lease:=h.e1;have h2:x.Lease<x.Wait:=h.e2;omega) (by omega),hmin]
  exact decide_eq_false fun q=>by
   have:w64 (-9223372036854775808-1)=9223372036854775807:=by decide
   omega
 ·rw[yAY (n:=x.Wait-1) (by omega) (by omega)]
  show decide _=decide _
  refine decide_eq_decide.2 ⟨fun h=>?_,fun h=>?_⟩
  ·show 1<=x.Nodes/\x.Nodes<=16/\1<=x.Slots/\x.Slots<=x.Nodes/\1<=x.Blocks/\x.Blocks<=64/\1<=x.Per/\x.Per<=8/\x.Per+2<=x.Journal/\x.Journal<=64/\8*x.Slots<=x.Log/\x.Log<=512/\1<=x.Lease/\x.Lease<x.Wait/\x.Wait<=1048576
   omega
  ·obtain⟨_,_,_,_,_,_,_,_,_,_,_,_,q1,q2,q3⟩:=h
   replace q1:1<=x.Lease:=q1
   replace q2:x.Lease<x.Wait:=q2
   replace q3:x.Wait<=1048576:=q3
   omega
theorem yXu{L:Nat}(n a b:Int):yHG L n a b=some (decide (a<=n/\n<=b)):=by
 unfold yHG yVM
 by_cases h1:a<=n
 ·rw[yAT (decide_eq_true h1)]
  congr 1
  exact decide_eq_decide.2 ⟨fun h=>⟨h1,h⟩,fun h=>h.2⟩
 ·rw[yAJ (decide_eq_false h1),decide_eq_false fun h=>h1 h.1]
theorem yRH{L:Nat}(x:yAR):yCc L x=some (yB2 x).may:=by
 have no:∀{p:Prop},((yB2 x).OK->p)->¬p->(yB2 x).may=false:=fun h hp=>by
  cases hm:(yB2 x).may with
  | false=>rfl
  | true=>exact absurd (h (Geo.may_ok hm)) hp
 unfold yCc yS5
 rw[yXu,yAB]
 by_cases h1:¬(1<=x.Nodes/\x.Nodes<=16)
 ·rw[decide_eq_false h1,no (fun h=>⟨h.n1,h.n2⟩) h1];rfl
 replace h1:=Decidable.not_not.1 h1
 rw[decide_eq_true h1,cond_true,yXu,yAB]
 by_cases h0:¬(1<=x.Slots/\x.Slots<=x.Nodes)
 ·rw[decide_eq_false h0,no (fun h=>⟨h.s1,h.s2⟩) h0];rfl
 replace h0:=Decidable.not_not.1 h0
 rw[decide_eq_true h0,cond_true,yXu,yAB]
 by_cases h2:¬(1<=x.Blocks/\x.Blocks<=64)
 ·rw[decide_eq_false h2,no (fun h=>⟨h.b1,h.b2⟩) h2];rfl
 replace h2:=Decidable.not_not.1 h2
 rw[decide_eq_true h2,cond_true,yXu,yAB]
 by_cases h3:¬(1<=x.Per/\x.Per<=8)
 ·rw[decide_eq_false h3,no (fun h=>⟨h.p1,h.p2⟩) h3];rfl
 replace h3:=Decidable.not_not.1 h3
 rw[decide_eq_true h3,cond_true,yAY (n:=x.Per+2) (by omega) (by omega),yXu,yAB]
 by_cases h4:¬(x.Per+2<=x.Journal/\x.Journal<=64)
 ·rw[decide_eq_false h4,no (fun h=>⟨h.j1,h.j2⟩) h4];rfl
 replace h4:=Decidable.not_not.1 h4
 rw[decide_eq_true h4,cond_true,yAY (n:=8*x.Slots) (by omega) (by omega),yXu,yAB]
 by_cases h5:¬(8*x.Slots<=x.Log/\x.Log<=512)
 ·rw[decide_eq_false h5,no (fun h=>⟨h.l1,h.l2⟩) h5];rfl
 replace h5:=Decidable.not_not.1 h5
 rw[decide_eq_true h5,cond_true]
 by_cases h6:1<=x.Lease
 ·rw[yAT (decide_eq_true h6)]
  by_cases h7:x.Lease<x.Wait
  ·rw[yAT (decide_eq_true h7)]
   congr 1
   show decide _=decide _
   refine decide_eq_decide.2 ⟨fun h=>?_,fun h=>h.2.2.2.2.2.2.2.2.2.2.2.2.2.2⟩
   show 1<=x.Nodes/\x.Nodes<=16/\1<=x.Slots/\x.Slots<=x.Nodes/\1<=x.Blocks/\x.Blocks<=64/\1<=x.Per/\x.Per<=8/\x.Per+2<=x.Journal/\x.Journal<=64/\8*x.Slots<=x.Log/\x.Log<=512/\1<=x.Lease/\x.Lease<x.Wait/\x.Wait<=1048576
   omega
  ·rw[yAJ (decide_eq_false h7),no (fun h=>h.e2) h7]
 ·rw[yAJ (decide_eq_false h6),no (fun h=>h.e1) h6]
theorem find_go{α:Type}{k:Int}{z:yAN}{rs:List yAN}(hl:rs.length<=1000){ka:yAN×Unit->Option α}{kb:yAN×Unit->Option α}:∀(m i:Nat),i<=rs.length->rs.length<m+i->yAQ yGb m (k,z,rs.map yAN.cs,(rs.length:Int),(i:Int),()) ka kb=match (rs.drop i).find? (fun r=>r.kind_==k) with
  | some r=>kb (r,())
  | none=>ka (z,())
 | 0,i,h1,h2=>by omega
 | m+1,i,h1,h2=>by
   show yGb (k,z,rs.map yAN.cs,(rs.length:Int),(i:Int),()) (fun s'=>yAQ yGb m s' ka kb) ka kb=_
   unfold yGb
   dsimp only
   by_cases hlt:i<rs.length
   ·have hc:∀j,cell (rs.map yAN.cs) i j=cell [yAN.cs rs[i]] 0 j:=fun j=>yUa hlt
    rw[yAT (decide_eq_true (by omega)),xMF (by omega) (by rw[List.length_map];omega) (xBr _ (fun _=>rfl) (by omega)),Int.toNat_natCast,List.drop_eq_getElem_cons hlt]
    simp only[aI,hc,List.find?_cons]
    show(bif rs[i].kind_==k then kb (rs[i],()) else _)=_
    cases hk:rs[i].kind_==k with
    | true=>rfl
    | false=>
      rw[cond_false,yAY (by omega) (by omega)]
      exact find_go hl m (i+1) (by omega) (by omega)
   ·rw[yAJ (decide_eq_false (by omega)),List.drop_eq_nil_of_le (by omega)]
    rfl
theorem find_eq{L:Nat}(hL:10<L){x:yAR}{k:Int}{rs:List yAN}(hl:rs.length<=6)(h:yKa L x=some (rs.map yAN.cs)):yTy L x k=some ((rs.find? fun r=>r.kind_==k).getD ⟨yAs.z,0,1⟩):=by
 unfold yTy yU4
 rw[h,yAB,List.length_map]
 have:=find_go (α:=yAN) (k:=k) (z:=yAN.z) (rs:=rs) (by omega) (ka:=fun q2=>some ⟨yAs.z,0,1⟩) (kb:=fun q3=>some q3.1) L 0 (Nat.zero_le _) (by omega)
 rw[List.drop_zero] at this
 refine this.trans ?_
 cases rs.find? fun r=>r.kind_==k <;> rfl
def xOU(x:yAR):List yAN:= [⟨⟨0,1⟩,1,1⟩,⟨⟨1,x.Nodes⟩,2,1⟩,⟨⟨1+x.Nodes,x.Nodes⟩,3,1⟩,⟨⟨1+2*x.Nodes,x.Log⟩,4,1⟩,⟨⟨1+2*x.Nodes+x.Log,x.Slots*(1+x.Journal)⟩,6,1+x.Journal⟩,⟨⟨1+2*x.Nodes+x.Log+x.Slots*(1+x.Journal),x.Blocks*x.Per⟩,7,x.Per⟩]
theorem xAR{L:Nat}(hL:10<L){x:yAR}(hw:xJ0 x.Wait=true):yKa L x=some ((if(yB2 x).may=true then xOU x else []).map yAN.cs):=by
 unfold yKa yPP
 rw[xEl hL hw,yAB]
 cases hm:(yB2 x).may with
 | false=>rfl
 | true=>
   have h:=Geo.may_ok hm
   have n1:1<=x.Nodes:=h.n1
   have n2:x.Nodes<=16:=h.n2
   have l1:8*x.Slots<=x.Log:=h.l1
   have l2:x.Log<=512:=h.l2
   have s1:1<=x.Slots:=h.s1
   have sj:0<=x.Slots*(1+x.Journal)/\x.Slots*(1+x.Journal)<=1040:=h.sj
   have bp:0<=x.Blocks*x.Per/\x.Blocks*x.Per<=512:=h.bp
   have j1:x.Per+2<=x.Journal:=h.j1
   have j2:x.Journal<=64:=h.j2
   have p1:1<=x.Per:=h.p1
   have e1:w64 (x.Nodes*1)=x.Nodes:=by rw[yAY (by omega) (by omega)];omega
   have e2:w64 (1+x.Nodes)=1+x.Nodes:=yAY (by omega) (by omega)
   have e3:w64 (1+x.Nodes+x.Nodes)=1+2*x.Nodes:=by rw[yAY (by omega) (by omega)];omega
   have e4:w64 (x.Log*1)=x.Log:=by rw[yAY (by omega) (by omega)];omega
   have e5:w64 (1+2*x.Nodes+x.Log)=1+2*x.Nodes+x.Log:=yAY (by omega) (by omega)
   have e6:w64 (1+x.Journal)=1+x.Journal:=yAY (by omega) (by omega)
   have e7:w64 (x.Slots*(1+x.Journal))=x.Slots*(1+x.Journal):=yAY (by omega) (by omega)
   have e8:w64 (1+2*x.Nodes+x.Log+x.Slots*(1+x.Journal))=1+2*x.Nodes+x.Log+x.Slots*(1+x.Journal):=yAY (by omega) (by omega)
   have e9:w64 (x.Blocks*x.Per)=x.Blocks*x.Per:=yAY (by omega) (by omega)
   rw[Bool.not_true,cond_false,if_pos rfl]
   simp only[e1,e2,e3,e4,e5,e6,e7,e8,e9]
   rfl
theorem xNc{L:Nat}(hL:10<L){x:yAR}(hw:xJ0 x.Wait=true)(hm:(yB2 x).may=false)(k i j:Int):yNN L x k i j=some (-1):=by
 unfold yNN yXA
 rw[find_eq hL (rs:= []) (Nat.zero_le _) (by rw[xAR hL hw,hm];rfl),yAB]
 show(bif decide (i<0) then some (-1) else gd (!(decide ((1:Int)=0)))<|bif decide (w64 ((0:Int).tdiv 1)<=i) then some (-1) else _)=_
 by_cases h:i<0
 ·rw[yAT (decide_eq_true h)]
 ·rw[yAJ (decide_eq_false h),yCM (show(!(decide ((1:Int)=0)))=true from rfl),yAT (decide_eq_true (by show w64 0<=i;rw[yAY (by omega) (by omega)];omega))]
theorem xLa{L:Nat}(hL:10<L){x:yAR}(hw:xJ0 x.Wait=true)(hm:(yB2 x).may=true){k a m:Int}(hf:((xOU x).find? fun r=>r.kind_==k)=some ⟨⟨a,m⟩,k,1⟩)(ha:0<=a)(ha2:a<=10000)(h0:0<=m)(h2:m<=10000)(i:Int):
  yNN L x k i 0=some (if 0<=i/\i<m then a+i else -1):=by
 unfold yNN yXA
 rw[find_eq hL (rs:=xOU x) (Nat.le_refl _) (by rw[xAR hL hw,if_pos hm]),hf,yAB]
 show(bif decide (i<0) then some (-1) else gd (!(decide ((1:Int)=0)))<|bif decide (w64 (m.tdiv 1)<=i) then some (-1) else bif decide ((0:Int)<0) then some (-1) else bif decide ((1:Int)<=0) then some (-1) else yAA (yH1 L ⟨a,m⟩ (w64 (w64 (i*1)+0))) fun r2=>some r2)=_
 by_cases h:i<0
 ·rw[yAT (decide_eq_true h),if_neg (by omega)]
 rw[yAJ (decide_eq_false h),yCM (show(!(decide ((1:Int)=0)))=true from rfl),Int.tdiv_one,yAY (by omega) (by omega)]
 by_cases h1:m<=i
 ·rw[yAT (decide_eq_true h1),if_neg (by omega)]
 rw[yAJ (decide_eq_false h1),if_pos (by omega),yAJ (show decide ((0:Int)<0)=false from rfl),yAJ (show decide ((1:Int)<=0)=false from rfl),yAY (n:=i*1) (by omega) (by omega),yAY (by omega) (by omega),show i*1+0=i by omega]
 unfold yH1 yMB
 dsimp only
 rw[yAJ (decide_eq_false h),yAJ (decide_eq_false h1),yAY (by omega) (by omega)]
 rfl
theorem xEk{L:Nat}(hL:10<L){x:yAR}(hw:xJ0 x.Wait=true)(i:Int):yJZ L x i=some ((yB2 x).logS i):=by
 unfold yJZ yXp Geo.logS
 cases hm:(yB2 x).may with
 | false=>rw[xNc hL hw hm,yAB,if_neg (by simp)]
 | true=>
   have h:=Geo.may_ok hm
   have n1:1<=x.Nodes:=h.n1
   have n2:x.Nodes<=16:=h.n2
   have l1:8*x.Slots<=x.Log:=h.l1
   have l2:x.Log<=512:=h.l2
   have s1:1<=x.Slots:=h.s1
   rw[xLa hL hw hm (a:=1+2*x.Nodes) (m:=x.Log) rfl (by omega) (by omega) (by omega) (by omega),yAB]
   by_cases hi:0<=i/\i<x.Log
   ·rw[if_pos hi,if_pos ⟨rfl,hi⟩];rfl
   ·rw[if_neg hi,if_neg fun q=>hi q.2]
theorem xJK{L:Nat}(x:yAR)(i:Int):yFk L x i=some ((yB2 x).logS i):=by
 unfold yFk yS4 Geo.logS
 rw[yRH,yAB]
 cases hm:(yB2 x).may with
 | false=>rw[if_neg (by simp)];rfl
 | true=>
   have h:=Geo.may_ok hm
   have n1:1<=x.Nodes:=h.n1
   have n2:x.Nodes<=16:=h.n2
   have l1:8*x.Slots<=x.Log:=h.l1
   have l2:x.Log<=512:=h.l2
   have s1:1<=x.Slots:=h.s1
   rw[Bool.not_true,cond_false,yAY (n:=x.Log-1) (by omega) (by omega),yXu,yAB]
   by_cases hi:0<=i/\i<x.Log
   ·rw[decide_eq_true (by omega),Bool.not_true,cond_false,yAY (n:=2*x.Nodes) (by omega) (by omega),yAY (n:=1+2*x.Nodes) (by omega) (by omega),yAY (by omega) (by omega),if_pos ⟨rfl,hi⟩]
    rfl
   ·rw[decide_eq_false (by omega),if_neg fun q=>hi q.2];rfl
theorem xKb{L:Nat}(x:yAR)(i:Int):yHF L x i=some ((yB2 x).headS i):=by
 unfold yHF yRT Geo.headS
 rw[yRH,yAB]
 cases hm:(yB2 x).may with
 | false=>rw[if_neg (by simp)];rfl
 | true=>
   have h:=Geo.may_ok hm
   have n1:1<=x.Nodes:=h.n1
   have n2:x.Nodes<=16:=h.n2
   have l1:8*x.Slots<=x.Log:=h.l1
   have l2:x.Log<=512:=h.l2
   have s1:1<=x.Slots:=h.s1
   have s2:x.Slots<=x.Nodes:=h.s2
   have j1:x.Per+2<=x.Journal:=h.j1
   have j2:x.Journal<=64:=h.j2
   have p1:1<=x.Per:=h.p1
   rw[Bool.not_true,cond_false,yAY (n:=x.Slots-1) (by omega) (by omega),yXu,yAB]
   by_cases hi:0<=i/\i<x.Slots
   ·have hb:=xDD (a:=i) (b:=1+x.Journal) (A:=16) (B:=65) (by omega) (by omega) (by omega) (by omega)
    rw[decide_eq_true (by omega),Bool.not_true,cond_false,yAY (n:=2*x.Nodes) (by omega) (by omega),yAY (n:=1+2*x.Nodes) (by omega) (by omega),yAY (n:=1+x.Journal) (by omega) (by omega),yAY (n:=i*(1+x.Journal)) (by omega) (by omega),yAY (n:=1+2*x.Nodes+x.Log) (by omega) (by omega),yAY (by omega) (by omega),if_pos ⟨rfl,hi⟩]
    rfl
   ·rw[decide_eq_false (by omega),if_neg fun q=>hi q.2];rfl
theorem xDP{L:Nat}(x:yAR):yCt L x=some (yB2 x).totalS:=by
 unfold yCt yPd Geo.totalS
 rw[yRH,yAB]
 cases hm:(yB2 x).may with
 | false=>rw[if_neg (by simp)];rfl
 | true=>
   have h:=Geo.may_ok hm
   have n1:1<=x.Nodes:=h.n1
   have n2:x.Nodes<=16:=h.n2
   have l1:8*x.Slots<=x.Log:=h.l1
   have l2:x.Log<=512:=h.l2
   have s1:1<=x.Slots:=h.s1
   have sj:0<=x.Slots*(1+x.Journal)/\x.Slots*(1+x.Journal)<=1040:=h.sj
   have bp:0<=x.Blocks*x.Per/\x.Blocks*x.Per<=512:=h.bp
   have b1:1<=x.Blocks:=h.b1
   have b2:x.Blocks<=64:=h.b2
   have p1:1<=x.Per:=h.p1
   have p2:x.Per<=8:=h.p2
   have j1:x.Per+2<=x.Journal:=h.j1
   have j2:x.Journal<=64:=h.j2
   have hb:(x.Blocks-1)*x.Per=x.Blocks*x.Per-x.Per:=by rw[Int.sub_mul];omega
   rw[Bool.not_true,cond_false,yAY (n:=x.Blocks-1) (by omega) (by omega),yAY (n:=x.Per-1) (by omega) (by omega)]
   unfold yR6 yRS
   rw[yRH,hm,yAB,Bool.not_true,cond_false,yAY (n:=x.Blocks-1) (by omega) (by omega),yXu,yAB,decide_eq_true (by omega),Bool.not_true,cond_false,yAY (n:=x.Per-1) (by omega) (by omega),yXu,yAB,decide_eq_true (by omega),Bool.not_true,cond_false,hb,
    yAY (n:=2*x.Nodes) (by omega) (by omega),yAY (n:=1+2*x.Nodes) (by omega) (by omega),yAY (n:=1+x.Journal) (by omega) (by omega),yAY (n:=x.Slots*(1+x.Journal)) (by omega) (by omega),yAY (n:=1+2*x.Nodes+x.Log) (by omega) (by omega),yAY (n:=1+2*x.Nodes+x.Log+x.Slots*(1+x.Journal)) (by omega) (by omega),
    yAY (n:=x.Blocks*x.Per-x.Per) (by omega) (by omega),yAY (n:=1+2*x.Nodes+x.Log+x.Slots*(1+x.Journal)+(x.Blocks*x.Per-x.Per)) (by omega) (by omega),yAY (n:=_+(x.Per-1)) (by omega) (by omega),yAB,yAY (by omega) (by omega),if_pos rfl]
   congr 1
   show _=1+2*x.Nodes+x.Log+x.Slots*(1+x.Journal)+x.Blocks*x.Per
   omega
theorem three{l:List Int}(h:l.length=3):∃a b c,l= [a,b,c]:=by
 match l,h with
 | [a,b,c],_=>exact⟨a,b,c,rfl⟩
section
variable {α σ A B:Type}
theorem yXw{F:σ->(σ->Option α)->(A->Option α)->Option α}(st:Nat->σ)(n:Nat)(a:A)(h:∀k,k<n->∀kn ka,F (st k) kn ka=kn (st (k+1)))(he:∀kn ka,F (st n) kn ka=ka a):
  ∀(m k L:Nat),k+m=n->m<L->∀ka,yBV F L (st k) ka=ka a
 | m,k,0,_,hm,_=>absurd hm (Nat.not_lt_zero _)
 | 0,k,L+1,hk,_,ka=>by
   have:k=n:=by omega
   subst this
   exact he _ _
 | m+1,k,L+1,hk,hm,ka=>(h k (by omega) _ _).trans (yXw st n a h he m (k+1) L (by omega) (by omega) ka)
theorem yJh{F:σ->(σ->Option α)->(A->Option α)->(B->Option α)->Option α}(st:Nat->σ)(n:Nat)(a:A)(h:∀k,k<n->∀kn ka kb,F (st k) kn ka kb=kn (st (k+1)))(he:∀kn ka kb,F (st n) kn ka kb=ka a):
  ∀(m k L:Nat),k+m=n->m<L->∀ka kb,yAQ F L (st k) ka kb=ka a
 | m,k,0,_,hm,_,_=>absurd hm (Nat.not_lt_zero _)
 | 0,k,L+1,hk,_,ka,kb=>by
   have:k=n:=by omega
   subst this
   exact he _ _ _
 | m+1,k,L+1,hk,hm,ka,kb=>(h k (by omega) _ _ _).trans (yJh st n a h he m (k+1) L (by omega) (by omega) ka kb)
end
def CE(c:List (List V))(N:Nat):Prop:=c.length=N/\∀r∈c,∃b,r= [V.sl [] b]
def cE(N:Nat):List (List V):=List.replicate N [V.sl [] false]
theorem yL9(N:Nat):CE (cE N) N:=⟨List.length_replicate ..,fun r hr=>⟨false,List.eq_of_mem_replicate hr⟩⟩
structure SecOk (s:List ByteArray):Prop where
 n:1<=s.length
 m:s.length<=100000
 z:∀x∈s,x.size<=512
theorem SecOk.set{s:List ByteArray}(h:SecOk s)(k:Nat){b:ByteArray}(hb:b.size<=512):SecOk (s.set k b):=
 ⟨by rw[List.length_set];exact h.n,by rw[List.length_set];exact h.m,fun x hx=>by
  rcases List.mem_or_eq_of_mem_set hx with q | rfl
  ·exact h.z x q
  ·exact hb⟩
section
variable {s:List ByteArray} {c:List (List V)} {N j L:Nat}
theorem CE.at_(hc:CE c N){i:Nat}(hi:i<N):∃b,c[i]?=some [V.sl [] b]:=by
 have hl:i<c.length:=by rw[hc.1];exact hi
 obtain⟨b,hb⟩:=hc.2 c[i] (List.getElem_mem hl)
 exact⟨b,by rw[List.getElem?_eq_getElem hl,hb]⟩
theorem CE.gI(hc:CE c N){α:Type}{x:Option α}{n:Int}(h0:0<=n)(h1:n<N):gI c kL n x=x:=by
 obtain⟨b,hb⟩:=hc.at_ (i:=n.toNat) (by omega)
 exact xMF h0 (by rw[hc.1];exact h1) (by rw[xBm kL hb];rfl)
theorem CE.aR(hc:CE c N){i:Nat}(hi:i<N):aR c i 0= []:=by
 obtain⟨b,hb⟩:=hc.at_ hi
 unfold Proofs.YtakljpcmbpaeaaaGreat.aR
 rw[xAm hb];rfl
theorem CE.nm(hc:CE c N):yCF c=true:=List.all_eq_true.2 fun r hr=>by
 obtain⟨b,rfl⟩:=hc.2 r hr
 cases b <;> rfl
theorem xGq(hL:0<L)(n:Int):yGp L [] n=some true:=by
 obtain⟨m,rfl⟩:∃m,L=m+1:=⟨L-1,by omega⟩
 rfl
theorem xJD(hL:0<L)(n:Int):yIm L [] n=some (-1):=by
 obtain⟨m,rfl⟩:∃m,L=m+1:=⟨L-1,by omega⟩
 rfl
end
theorem xNF(N j:Nat):CE ((cE N).set j [V.sl [] true]) N:=⟨by rw[List.length_set];exact(yL9 N).1,fun r hr=>by
 rcases List.mem_or_eq_of_mem_set hr with q | rfl
 ·exact(yL9 N).2 r q
 ·exact⟨true,rfl⟩⟩
section
variable {s:List ByteArray} {c:List (List V)} {N j L:Nat}
end
section
variable {s:List ByteArray} {c:List (List V)} {N j L:Nat}
end
abbrev yOD(L:Nat):Prop:=NeZero (L/200001)
theorem yOD.h{L:Nat}[k:yOD L]:200000<L:=by
 have:=k.out
 rcases Nat.lt_or_ge 200000 L with h | h
 ·exact h
 ·exact absurd (Nat.div_eq_of_lt (by omega)) this
theorem xOJ{L:Nat}[yOD L]:10<L:=Nat.lt_of_le_of_lt (by decide) yOD.h
theorem hL3{L:Nat}[yOD L]:1000<L:=Nat.lt_of_le_of_lt (by decide) yOD.h
theorem xKK{α:Type}{x:Option α}{b:Bs}(h:b.length<=2000000):gF (b.map byV) (b.map byV).length x=x:=ySB (Nat.le_refl _) (by rw[List.length_map];omega) (yPW b)
theorem yRx(n:Nat):Nat.ble n n=true:=Nat.ble_eq_true_of_le (Nat.le_refl n)
section
variable {α A B σ β γ:Type}
theorem yHd{F:σ->(σ->Option α)->(A->Option α)->(B->Option α)->Option α}(l:List β)(p:β->Bool)(st:Nat->σ)(a:A)(b:Nat->B)
  (hF:∀(i:Nat) (h:i<l.length) kn ka kb,F (st i) kn ka kb=bif p l[i] then kb (b i) else kn (st (i+1))) (hE:∀kn ka kb,F (st l.length) kn ka kb=ka a):
  ∀(L k:Nat),k<=l.length->l.length-k<L->(∀j (h:j<l.length),j<k->p l[j]=false)->∀ka kb,yAQ F L (st k) ka kb=match l.findIdx? p with | none=>ka a | some i=>kb (b i)
 | 0,k,h,hL,_,_,_=>absurd hL (Nat.not_lt_zero _)
 | L+1,k,h,hL,hp,ka,kb=>by
   show F (st k) (fun s'=>yAQ F L s' ka kb) ka kb=_
   by_cases hk:k<l.length
   ·rw[hF k hk]
    cases hq:p l[k] with
    | true=>
      have:l.findIdx? p=some k:=List.findIdx?_eq_some_iff_getElem.2 ⟨hk,hq,fun j hj=>by rw[hp j (by omega) hj];simp⟩
      rw[this];rfl
    | false=>
      exact yHd l p st a b hF hE L (k+1) hk (by omega) (fun j hj hjk=>by
       rcases Nat.lt_or_ge j k with h1 | h1
       ·exact hp j hj h1
       ·obtain rfl:j=k:=by omega
        exact hq) ka kb
   ·obtain rfl:k=l.length:=by omega
    rw[hE]
    have:l.findIdx? p=none:=List.findIdx?_eq_none_iff.2 fun x hx=>by
     obtain⟨j,hj,rfl⟩:=List.getElem_of_mem hx
     exact hp j hj hj
    rw[this]
theorem yPK{F:σ->(σ->Option α)->(A->Option α)->Option α}(l:List β)(f:γ->β->γ)(P:Nat->γ->Prop)(st:Nat->γ->σ)(fin:γ->A)
  (hF:∀(i:Nat) (h:i<l.length) (g:γ),P i g->P (i+1) (f g l[i])/\∀kn ka,F (st i g) kn ka=kn (st (i+1) (f g l[i]))) (hE:∀g,P l.length g->∀kn ka,F (st l.length g) kn ka=ka (fin g)):
  ∀(L k:Nat),k<=l.length->l.length-k<L->∀g,P k g->P l.length ((l.drop k).foldl f g)/\∀ka,yBV F L (st k g) ka=ka (fin ((l.drop k).foldl f g))
 | 0,k,h,hL,_,_=>absurd hL (Nat.not_lt_zero _)
 | L+1,k,h,hL,g,hp=>by
   by_cases hk:k<l.length
   ·obtain⟨h1,h2⟩:=hF k hk g hp
    obtain⟨k1,k2⟩:=yPK l f P st fin hF hE L (k+1) hk (by omega) _ h1
    rw[List.drop_eq_getElem_cons hk,List.foldl_cons]
    refine⟨k1,fun ka=>?_⟩
    show F (st k g) (fun s'=>yBV F L s' ka) ka=_
    rw[h2];exact k2 ka
   ·obtain rfl:k=l.length:=by omega
    rw[List.drop_length]
    exact⟨hp,fun ka=>hE g hp _ ka⟩
theorem yTv{l:List β}{e:β->List V}{ks:List Kc}(hk:∀b,rowIs ks [e b] 0=true){i:Nat}(h:i<l.length){x:Option α}:gI (l.map e) ks (i:Int) x=x:=xMF (by omega) (by rw[List.length_map];omega) (by
 rw[show(i:Int).toNat=i from rfl,xBm ks (show(l.map e)[i]?=some (e l[i]) by rw[List.getElem?_map,List.getElem?_eq_getElem h];rfl)];exact hk _)
theorem yXZ{l:List β}{e:β->List V}{i j:Nat}(h:i<l.length):cell (l.map e) i j=cell [e l[i]] 0 j:=xAm (by rw[List.getElem?_map,List.getElem?_eq_getElem h];rfl)
theorem xGH{l:List β}{e:β->List V}(h:∀b,(e b).all (nmB 20)=true):yCF (l.map e)=true:=List.all_eq_true.2 fun r hr=>by
 obtain⟨a,_,rfl⟩:=List.mem_map.1 hr
 exact h a
theorem xNA{l:List β}{e:β->List V}{n:Nat}(h:∀b,(e b).length=n):((l.map e).all fun r=>Nat.beq r.length n)=true:=List.all_eq_true.2 fun r hr=>by
 obtain⟨a,_,rfl⟩:=List.mem_map.1 hr
 rw[h a];exact Nat.beq_refl n
theorem yQP{l:List β}{e:β->List V}{n:Nat}(h:∀b,(e b).all (nmB 20)=true)(hn:n<=l.length)(hl:l.length<=100000){x:Option α}:gF (l.map e) n x=x:=ySB (by rw[List.length_map];exact hn) (by omega) (xGH h)
theorem yHt{l:List β}{e:β->List V}{n:Nat}(h:∀b,(e b).all (nmB 20)=true)(hn:n=l.length){x:Option α}:gW (l.map e) n x=x:=yHo (by rw[List.length_map];exact hn) (xGH h)
theorem yZE{m b:Nat}(h:m<=100000)(hb:b<=1000){x:Option α}:gM m b x=x:=by
 have:m*b<=100000*1000:=Nat.mul_le_mul h hb
 show(bif _ then(bif _ then x else none) else none)=_
 rw[decide_eq_true (show m*b<=140737488355328 by omega),decide_eq_true (show m<=9223372036854775807 by omega)];rfl
theorem yHl{n m:Nat}(h:n=m){x:Option α}:gd (Nat.beq n m) x=x:=by subst h;rw[Nat.beq_refl];rfl
theorem yDf{n m:Nat}(h:n<=m){x:Option α}:gd (Nat.ble n m) x=x:=by rw[Nat.ble_eq_true_of_le h];rfl
theorem yB9{p:Prop}[Decidable p](h:p){x:Option α}:gd (decide p) x=x:=by rw[decide_eq_true h];rfl
theorem take_len{l:List β}{n:Nat}(h:n=l.length):l.take n=l:=by subst h;exact List.take_length
end
end Go.Proofs.YtakljpcmbpaeaaaGreat

namespace Go.Proofs.YtakljpcmbpaeaaaGreat
set_option maxHeartbeats 4000000
open Go.RowKit
abbrev xCy(k:Int):Prop:=16<=k/\k<=1099511627776
def yQX(c:yAI):Prop:=xCy c.By/\1<=c.Serial/\c.Serial<=2147483648/\
 (((c.Kind=0\/c.Kind=1)/\c.Span.Lo=0/\c.Span.Hi=0/\c.Mode=0/\c.Dead=0/\c.Was=0)\/
  (c.Kind=2/\0<=c.Span.Lo/\c.Span.Lo<=c.Span.Hi/\c.Span.Hi<64/\(c.Mode=1\/c.Mode=2)/\c.Dead=0/\c.Was=0)\/
  (c.Kind=3/\0<=c.Span.Lo/\c.Span.Lo<=c.Span.Hi/\c.Span.Hi<64/\c.Mode=0/\c.Dead=0/\c.Was=0)\/
  (c.Kind=4/\c.Span.Lo=0/\c.Span.Hi=0/\c.Mode=0/\xCy c.Dead/\(c.Was=0\/xCy c.Was))\/
  (c.Kind=5/\c.Span.Lo=0/\c.Span.Hi=0/\c.Mode=0/\xCy c.Dead/\c.Was=0))
instance (c:yAI):Decidable (yQX c):=by unfold yQX;exact inferInstance
theorem xJ9{α:Type}{o:Option α}:(yAA o fun r=>some r)=o:=by cases o <;> rfl
theorem xF9{α:Type}{c:Bool}{x y z:α}(h1:c=true->x=z)(h2:c=false->y=z):(bif c then x else y)=z:=by
 cases c with
 | true=>exact h1 rfl
 | false=>exact h2 rfl
theorem yXH{p:Prop}{inst:Decidable p}{b:Bool}(h:b=true↔p):some b=some (decide p):=by
 congr 1
 cases b with
 | true=>exact(decide_eq_true (h.1 rfl)).symm
 | false=>exact(decide_eq_false fun q=>by have:=h.2 q;cases this).symm
theorem xII{L:Nat}(k:Int):yIc L k=some (decide (xCy k)):=by
 unfold yIc yPF
 repeat' (refine xF9 (fun _=>?_) (fun _=>?_))
 all_goals (refine yXH ?_;simp only[decide_eq_true_eq,decide_eq_false_iff_not] at *;(try simp only[Bool.false_eq_true,false_iff]);unfold xCy;omega)
theorem xMY{L:Nat}(k:Int):yRb L k=some (decide (xCy k)):=by
 unfold yRb yTA
 repeat' (refine xF9 (fun _=>?_) (fun _=>?_))
 all_goals (refine yXH ?_;simp only[decide_eq_true_eq,decide_eq_false_iff_not] at *;(try simp only[Bool.false_eq_true,false_iff]);unfold xCy;omega)
theorem xLz{L:Nat}(c:yAI):yNJ L c=some (decide (yQX c)):=by
 unfold yNJ yPG yDX yId
 obtain⟨kd,by_,ser,dd,ws,⟨lo,hi⟩,md⟩:=c
 simp only[xII,yAB,xJ9]
 unfold yQX xCy
 dsimp only
 repeat' (refine xF9 (fun _=>?_) (fun _=>?_))
 all_goals (refine yXH ?_;simp only[decide_eq_true_eq,beq_iff_eq,Bool.and_eq_true,Bool.not_eq_true',decide_eq_false_iff_not,Bool.and_true,beq_eq_false_iff_ne,ne_eq,Bool.not_eq_false',Bool.and_eq_false_imp] at *;(try simp only[Bool.false_eq_true,false_iff,true_iff]);omega)
theorem yUG{L:Nat}(c:yAI):yRc L c=some (decide (yQX c)):=by
 unfold yRc yTB
 obtain⟨kd,by_,ser,dd,ws,⟨lo,hi⟩,md⟩:=c
 simp only[xMY,yAB]
 unfold yQX xCy
 dsimp only
 repeat' (refine xF9 (fun _=>?_) (fun _=>?_))
 all_goals (refine yXH ?_;simp only[decide_eq_true_eq,beq_iff_eq,Bool.and_eq_true,Bool.not_eq_true',decide_eq_false_iff_not,Bool.and_true,beq_eq_false_iff_ne,ne_eq,Bool.not_eq_false',Bool.and_eq_false_imp,beq_self_eq_true,Bool.true_and,not_and] at *;(try simp only[Bool.false_eq_true,false_iff,true_iff]);omega)
theorem yWW(l:Bs):(mkS l).data.toList=l:=by simp[mkS]
theorem yOK(l:Bs):(mkS l).size=l.length:=by simp[mkS,ByteArray.size]
theorem xMQ{L:Nat}(hL:10<L){l:Bs}{a w:Int}(h:l.length<=1000000):yBX L (mkS l) a w=some ((yOI l a w).1,(yOI l a w).2,()):=by
 rw[yR5 hL (by rw[yOK];omega),yWW]
theorem yNV{L:Nat}(hL:10<L){l:Bs}{a w:Int}(h:l.length<=1000000):yAv L (mkS l) a w=some ((yOI l a w).1,(yOI l a w).2,()):=by
 rw[xJI hL (by rw[yOK];omega),yWW]
theorem yTs{n:Int}{w:Nat}(h1:1<=w)(h6:w<=6)(h0:0<=n)(hn:n<=yQe w):yHn n w=true:=by
 unfold yHn
 exact decide_eq_true ⟨by omega,by omega,h0,by rw[Int.toNat_natCast];exact hn⟩
theorem yXz{L w:Nat}(hL:10<L){n:Int}{t:Bs}(h1:1<=w)(h6:w<=6)(h0:0<=n)(hn:n<=yQe w)(ht:t.length<=1000):yBX L (mkS (leBytes w n.toNat++t)) 0 w=some (n,0,()):=by
 rw[xMQ hL (by rw[List.length_append,yAD];omega)]
 have:=xGE n w t (yTs h1 h6 h0 hn)
 rw[Int.toNat_natCast] at this
 rw[this]
theorem xGB{w n:Nat}{t:Bs}:(mkS (leBytes w n++t)).extract w (mkS (leBytes w n++t)).size=mkS t:=by
 rw[yIe,yWW,List.drop_left' (yAD w n)]
theorem size_le{w n:Nat}{t:Bs}:((mkS (leBytes w n++t)).size:Int)=w+(t.length:Int):=by
 rw[yOK,List.length_append,yAD];omega
theorem xHK:yQe 1=255:=by decide
theorem xC6:yQe 4=4294967295:=by decide
theorem yPU:yQe 6=1099511627776:=by decide
def yHz(c:yAI):Bs:=
 if c.Kind=2 then leBytes 1 c.Span.Lo.toNat++(leBytes 1 c.Span.Hi.toNat++(leBytes 1 c.Mode.toNat++ []))
 else if c.Kind=3 then leBytes 1 c.Span.Lo.toNat++(leBytes 1 c.Span.Hi.toNat++ [])
 else if c.Kind=4 then leBytes 6 c.Dead.toNat++(leBytes 6 c.Was.toNat++ [])
 else if c.Kind=5 then leBytes 6 c.Dead.toNat++ []
 else []
def yGL(c:yAI):Bs:=leBytes 1 c.Kind.toNat++(leBytes 6 c.By.toNat++(leBytes 4 c.Serial.toNat++yHz c))
theorem yR0(c:yAI):(yHz c).length<=12:=by
 unfold yHz
 repeat' split
 all_goals simp[yAD]
theorem yNz(c:yAI):(yGL c).length=11+(yHz c).length:=by
 unfold yGL
 simp only[List.length_append,yAD];omega
theorem xCV{L:Nat}(hL:10<L){c:yAI}(h:yQX c):yCN L (mkS (yGL c))=some (c,0,()):=by
 have hm:=xLz (L:=L) c
 rw[decide_eq_true h] at hm
 have ht:=yR0 c
 obtain⟨⟨h1,h2⟩,h3,h4,h5⟩:=h
 have hk:0<=c.Kind/\c.Kind<=5:=by omega
 have g1:yBX L (mkS (yGL c)) 0 1=some (c.Kind,0,()):=yXz hL (w:=1) (by omega) (by omega) hk.1 (by rw[xHK];omega) (by simp only[List.length_append,yAD];omega)
 have e1:(mkS (yGL c)).extract 1 (mkS (yGL c)).size=mkS (leBytes 6 c.By.toNat++(leBytes 4 c.Serial.toNat++yHz c)):=xGB
 have z1:decide ((1:Int)<=((mkS (yGL c)).size:Int))=true:=decide_eq_true (by rw[yOK,yNz];omega)
 have g2:yBX L (mkS (leBytes 6 c.By.toNat++(leBytes 4 c.Serial.toNat++yHz c))) 0 6=some (c.By,0,()):=yXz hL (w:=6) (by omega) (by omega) (by omega) (by rw[yPU];omega) (by simp only[List.length_append,yAD];omega)
 have e2:(mkS (leBytes 6 c.By.toNat++(leBytes 4 c.Serial.toNat++yHz c))).extract 6 (mkS (leBytes 6 c.By.toNat++(leBytes 4 c.Serial.toNat++yHz c))).size=mkS (leBytes 4 c.Serial.toNat++yHz c):=xGB
 have z2:decide ((6:Int)<=((mkS (leBytes 6 c.By.toNat++(leBytes 4 c.Serial.toNat++yHz c))).size:Int))=true:=decide_eq_true (by rw[size_le];omega)
 have g3:yBX L (mkS (leBytes 4 c.Serial.toNat++yHz c)) 0 4=some (c.Serial,0,()):=yXz hL (w:=4) (by omega) (by omega) (by omega) (by rw[xC6];omega) (by omega)
 have e3:(mkS (leBytes 4 c.Serial.toNat++yHz c)).extract 4 (mkS (leBytes 4 c.Serial.toNat++yHz c)).size=mkS (yHz c):=xGB
 have z3:decide ((4:Int)<=((mkS (leBytes 4 c.Serial.toNat++yHz c)).size:Int))=true:=decide_eq_true (by rw[size_le];omega)
 have hw:IntKind.i8.wrap (yL4 false c.Kind 127)=c.Kind:=by
  obtain⟨q1,q2⟩:=hk
  generalize c.Kind=k at*
  obtain⟨n,rfl⟩:=Int.eq_ofNat_of_zero_le q1
  have:n=0\/n=1\/n=2\/n=3\/n=4\/n=5:=by omega
  rcases this with rfl | rfl | rfl | rfl | rfl | rfl <;> rfl
 have z0:((0:Int) !=0)=false:=rfl
 unfold yCN yOH
 simp only[gd,gI,gB,gL,gF,gW,gA,gM,w64,yGY,g1,yAB,z0,cond_false,cond_true,z1,e1,yGZ,g2,z2,e2,g3,z3,e3,hw]
 have z00:((0:Int)==0)=true:=rfl
 have nn:((mkS []).toList==noS.toList)=true:=beq_self_eq_true (noS.toList)
 obtain⟨kd,by_,ser,dd,ws,⟨lo,hi⟩,md⟩:=c
 dsimp only at*
 have G:∀(wi:Int) (w:Nat) (n:Int) (t:Bs),wi=w->1<=w->w<=6->0<=n->n<=yQe w->t.length<=1000->yBX L (mkS (leBytes w n.toNat++t)) 0 wi=some (n,0,()):=fun wi w n t hw a b c d e=>by subst hw;exact yXz hL a b c d e
 have E:∀{w n:Nat} {t:Bs},(mkS (leBytes w n++t)).extract w (mkS (leBytes w n++t)).size=mkS t:=xGB
 have Z:∀(wi:Int) (w n:Nat) (t:Bs),wi=w->decide (wi<=((mkS (leBytes w n++t)).size:Int))=true:=fun wi w n t hw=>decide_eq_true (by rw[size_le];omega)
 have W:∀{n:Int},0<=n->n<=2->IntKind.i8.wrap (yL4 false n 127)=n:=fun {n} q1 q2=>by
  obtain⟨n,rfl⟩:=Int.eq_ofNat_of_zero_le q1
  have:n=0\/n=1\/n=2:=by omega
  rcases this with rfl | rfl | rfl <;> rfl
 rcases h5 with ⟨q0,rfl,rfl,rfl,rfl,rfl⟩ | ⟨rfl,q1,q2,q3,q4,rfl,rfl⟩ | ⟨rfl,q1,q2,q3,rfl,rfl,rfl⟩ | ⟨rfl,rfl,rfl,rfl,q4,q5⟩ | ⟨rfl,rfl,rfl,rfl,q4,rfl⟩
 ·have e:yHz ⟨kd,by_,ser,0,0,⟨0,0⟩,0⟩= []:=by rcases q0 with rfl | rfl <;> rfl
  rw[e]
  rcases q0 with rfl | rfl
  all_goals
   simp only[gd,gI,gB,gL,gF,gW,gA,gM,w64,yCa,show((0:Int)==2)=false from rfl,show((0:Int)==3)=false from rfl,show((1:Int)==2)=false from rfl,show((1:Int)==3)=false from rfl,cond_false,cond_true,show((0:Int)==4)=false from rfl,show((0:Int)==5)=false from rfl,show((1:Int)==4)=false from rfl,show((1:Int)==5)=false from rfl,nn,Bool.not_true,Bool.not_false,yAK.z,hm,yAB]
 ·have e:yHz ⟨2,by_,ser,0,0,⟨lo,hi⟩,md⟩=leBytes 1 lo.toNat++(leBytes 1 hi.toNat++(leBytes 1 md.toNat++ [])):=rfl
  rw[e]
  have a1:=G 1 1 lo (leBytes 1 hi.toNat++(leBytes 1 md.toNat++ [])) rfl (by omega) (by omega) q1 (by rw[xHK];omega) (by simp[yAD])
  have a2:=G 1 1 hi (leBytes 1 md.toNat++ []) rfl (by omega) (by omega) (by omega) (by rw[xHK];omega) (by simp[yAD])
  have a3:=G 1 1 md [] rfl (by omega) (by omega) (by omega) (by rw[xHK];omega) (by simp)
  have b1:=@E 1 lo.toNat (leBytes 1 hi.toNat++(leBytes 1 md.toNat++ []))
  have b2:=@E 1 hi.toNat (leBytes 1 md.toNat++ [])
  have b3:=@E 1 md.toNat []
  have c1:=Z 1 1 lo.toNat (leBytes 1 hi.toNat++(leBytes 1 md.toNat++ [])) rfl
  have c2:=Z 1 1 hi.toNat (leBytes 1 md.toNat++ []) rfl
  have c3:=Z 1 1 md.toNat [] rfl
  have hwm:=W (n:=md) (by omega) (by omega)
  generalize mkS (leBytes 1 lo.toNat++(leBytes 1 hi.toNat++(leBytes 1 md.toNat++ [])))=s1 at*
  generalize mkS (leBytes 1 hi.toNat++(leBytes 1 md.toNat++ []))=s2 at*
  generalize mkS (leBytes 1 md.toNat++ [])=s3 at*
  simp only[gd,gI,gB,gL,gF,gW,gA,gM,w64,yCa,show((2:Int)==2)=true from rfl,cond_true,cond_false,a1,a2,a3,b1,b2,b3,c1,c2,c3,yAB,z0,nn,Bool.not_true,Bool.not_false,hm,hwm]
 ·have e:yHz ⟨3,by_,ser,0,0,⟨lo,hi⟩,0⟩=leBytes 1 lo.toNat++(leBytes 1 hi.toNat++ []):=rfl
  rw[e]
  have a1:=G 1 1 lo (leBytes 1 hi.toNat++ []) rfl (by omega) (by omega) q1 (by rw[xHK];omega) (by simp[yAD])
  have a2:=G 1 1 hi [] rfl (by omega) (by omega) (by omega) (by rw[xHK];omega) (by simp)
  have b1:=@E 1 lo.toNat (leBytes 1 hi.toNat++ [])
  have b2:=@E 1 hi.toNat []
  have c1:=Z 1 1 lo.toNat (leBytes 1 hi.toNat++ []) rfl
  have c2:=Z 1 1 hi.toNat [] rfl
  generalize mkS (leBytes 1 lo.toNat++(leBytes 1 hi.toNat++ []))=s1 at*
  generalize mkS (leBytes 1 hi.toNat++ [])=s2 at*
  simp only[gd,gI,gB,gL,gF,gW,gA,gM,w64,yCa,show((3:Int)==2)=false from rfl,show((3:Int)==3)=true from rfl,cond_true,cond_false,a1,a2,b1,b2,c1,c2,yAB,z0,nn,Bool.not_true,Bool.not_false,hm]
 ·have e:yHz ⟨4,by_,ser,dd,ws,⟨0,0⟩,0⟩=leBytes 6 dd.toNat++(leBytes 6 ws.toNat++ []):=rfl
  rw[e]
  have a1:=G 6 6 dd (leBytes 6 ws.toNat++ []) rfl (by omega) (by omega) (by omega) (by rw[yPU];omega) (by simp[yAD])
  have a2:=G 6 6 ws [] rfl (by omega) (by omega) (by omega) (by rw[yPU];omega) (by simp)
  have b1:=@E 6 dd.toNat (leBytes 6 ws.toNat++ [])
  have b2:=@E 6 ws.toNat []
  have c1:=Z 6 6 dd.toNat (leBytes 6 ws.toNat++ []) rfl
  have c2:=Z 6 6 ws.toNat [] rfl
  generalize mkS (leBytes 6 dd.toNat++(leBytes 6 ws.toNat++ []))=s1 at*
  generalize mkS (leBytes 6 ws.toNat++ [])=s2 at*
  simp only[gd,gI,gB,gL,gF,gW,gA,gM,w64,yCa,show((4:Int)==2)=false from rfl,show((4:Int)==3)=false from rfl,show((4:Int)==4)=true from rfl,cond_true,cond_false,a1,a2,b1,b2,c1,c2,yAB,z0,nn,Bool.not_true,Bool.not_false,hm,yAK.z]
 ·have e:yHz ⟨5,by_,ser,dd,0,⟨0,0⟩,0⟩=leBytes 6 dd.toNat++ []:=rfl
  rw[e]
  have a1:=G 6 6 dd [] rfl (by omega) (by omega) (by omega) (by rw[yPU];omega) (by simp)
  have b1:=@E 6 dd.toNat []
  have c1:=Z 6 6 dd.toNat [] rfl
  generalize mkS (leBytes 6 dd.toNat++ [])=s1 at*
  simp only[gd,gI,gB,gL,gF,gW,gA,gM,w64,yCa,show((5:Int)==2)=false from rfl,show((5:Int)==3)=false from rfl,show((5:Int)==4)=false from rfl,show((5:Int)==5)=true from rfl,cond_true,cond_false,a1,b1,c1,yAB,z0,nn,Bool.not_true,Bool.not_false,hm,yAK.z]
theorem yRI{L w:Nat}(hL:10<L){n wi:Int}{b:Bs}(hw:wi=w)(h1:1<=w)(h6:w<=6)(h0:0<=n)(hn:n<=yQe w)(hb:b.length<=1000):yCX L (b.map byV) wi [[V.int .i64 n]]=some ((b++leBytes w n.toNat).map byV,0,()):=by
 subst hw
 have hp:yWf b w [n]=(b++leBytes w n.toNat,0):=by
  unfold yWf
  rw[yVH h1 h6 (fun t ht=>by obtain rfl:t=0:=by simpa using ht
                             exact yTs h1 h6 h0 hn)]
  simp[yH2]
 have e: [[V.int .i64 n]]= [n].map inV:=rfl
 rw[e,xBG hL _ (by simp only[List.length_cons,List.length_nil];omega) (by simp only[List.length_cons,List.length_nil];omega),hp]
theorem xAz{k:Int}(h0:0<=k)(h:k<=5): [[V.int .u8 (IntKind.u8.wrap k)]]=(leBytes 1 k.toNat).map byV:=by
 obtain⟨n,rfl⟩:=Int.eq_ofNat_of_zero_le h0
 have:n=0\/n=1\/n=2\/n=3\/n=4\/n=5:=by omega
 rcases this with rfl | rfl | rfl | rfl | rfl | rfl <;> rfl
theorem xAO{L:Nat}(hL:10<L){c:yAI}(h:yQX c)(h2:c.Kind≠2)(h3:c.Kind≠3):yCE L c=some (mkS (yGL c),0,()):=by
 have hm:=yUG (L:=L) c
 rw[decide_eq_true h] at hm
 have hT:yHz c=(if c.Kind=4 then leBytes 6 c.Dead.toNat++(leBytes 6 c.Was.toNat++ []) else if c.Kind=5 then leBytes 6 c.Dead.toNat++ [] else []):=by
  unfold yHz;rw[if_neg h2,if_neg h3]
 have hlen:=yNz c
 have htl:=yR0 c
 obtain⟨⟨g1,g2⟩,g3,g4,h5⟩:=h
 have hk:0<=c.Kind/\c.Kind<=5:=by omega
 have p1:=yRI hL (w:=6) (wi:=6) (n:=c.By) (b:=leBytes 1 c.Kind.toNat) rfl (by omega) (by omega) (by omega) (by rw[yPU];omega) (by rw[yAD];omega)
 have p2:=yRI hL (w:=4) (wi:=4) (n:=c.Serial) (b:=leBytes 1 c.Kind.toNat++leBytes 6 c.By.toNat) rfl (by omega) (by omega) (by omega) (by rw[xC6];omega) (by simp only[List.length_append,yAD];omega)
 have z2:(c.Kind==2)=false:=by simpa using h2
 have z3:(c.Kind==3)=false:=by simpa using h3
 have fin:∀b:Bs,(bytesOf (b.map byV)).isSome=true:=fun b=>by rw[yOk];rfl
 have f1:∀{α:Type} (x:Option α),gF ((leBytes 1 c.Kind.toNat++leBytes 6 c.By.toNat).map byV) (((leBytes 1 c.Kind.toNat++leBytes 6 c.By.toNat).map byV).length) x=x:=fun x=>xKK (by simp only[List.length_append,yAD];omega)
 have f2:∀{α:Type} (x:Option α),gF ((leBytes 1 c.Kind.toNat++leBytes 6 c.By.toNat++leBytes 4 c.Serial.toNat).map byV) (((leBytes 1 c.Kind.toNat++leBytes 6 c.By.toNat++leBytes 4 c.Serial.toNat).map byV).length) x=x:=fun x=>xKK (by simp only[List.length_append,yAD];omega)
 unfold yCE yHW
 simp only[f1,f2,gd,Nat.zero_add,yRx,List.take_length,hm,yAB,Bool.not_true,cond_false,xAz hk.1 hk.2,p1,p2,z2,z3]
 by_cases h4:c.Kind=4
 ·have hp:yWf ((leBytes 1 c.Kind.toNat++leBytes 6 c.By.toNat)++leBytes 4 c.Serial.toNat) (6:Int) [c.Dead,c.Was]=((leBytes 1 c.Kind.toNat++leBytes 6 c.By.toNat)++leBytes 4 c.Serial.toNat++(leBytes 6 c.Dead.toNat++leBytes 6 c.Was.toNat),0):=by
    unfold yWf
    rw[show(6:Int)=((6:Nat):Int) from rfl,yVH (by omega) (by omega) (fun t ht=>by
     match t,ht with
     | 0,_=>exact yTs (by omega) (by omega) (show 0<=c.Dead by omega) (by rw[yPU];show c.Dead<=_;omega)
     | 1,_=>exact yTs (by omega) (by omega) (show 0<=c.Was by omega) (by rw[yPU];show c.Was<=_;omega))]
    simp[yH2]
  have p3:yCX L (((leBytes 1 c.Kind.toNat++leBytes 6 c.By.toNat)++leBytes 4 c.Serial.toNat).map byV) 6 [[V.int .i64 c.Dead],[V.int .i64 c.Was]]=some (((leBytes 1 c.Kind.toNat++leBytes 6 c.By.toNat)++leBytes 4 c.Serial.toNat++(leBytes 6 c.Dead.toNat++leBytes 6 c.Was.toNat)).map byV,0,()):=by
   have e: [[V.int .i64 c.Dead],[V.int .i64 c.Was]]= [c.Dead,c.Was].map inV:=rfl
   rw[e,xBG hL _ (by simp only[List.length_cons,List.length_nil,List.length_append,yAD];omega) (by simp only[List.length_cons,List.length_nil];omega),hp]
  have z4:(c.Kind==4)=true:=by simpa using h4
  simp only[z4,cond_true,p3,yAB,fin,yHx,f2,gd,Nat.zero_add,yRx,List.take_length]
  unfold yGL
  rw[hT,if_pos h4,List.append_nil,List.append_assoc,List.append_assoc]
 ·by_cases h5':c.Kind=5
  ·have p3:=yRI hL (w:=6) (wi:=6) (n:=c.Dead) (b:=(leBytes 1 c.Kind.toNat++leBytes 6 c.By.toNat)++leBytes 4 c.Serial.toNat) rfl (by omega) (by omega) (by omega) (by rw[yPU];omega) (by simp only[List.length_append,yAD];omega)
   have z4:(c.Kind==4)=false:=by simpa using h4
   have z5:(c.Kind==5)=true:=by simpa using h5'
   simp only[z4,z5,cond_false,cond_true,p3,yAB,fin,yHx,f2,gd,Nat.zero_add,yRx,List.take_length]
   rw[show yGL c=_ from rfl]
   unfold yGL
   rw[hT,if_neg h4,if_pos h5',List.append_nil,List.append_assoc,List.append_assoc]
  ·have z4:(c.Kind==4)=false:=by simpa using h4
   have z5:(c.Kind==5)=false:=by simpa using h5'
   simp only[z4,z5,cond_false,cond_true,fin,yHx,gd,Nat.zero_add,yRx,List.take_length]
   unfold yGL
   rw[hT,if_neg h4,if_neg h5',List.append_nil,List.append_assoc]
theorem yJd(p t:Bs){w:Nat}{n a wi:Int}(ha:a=p.length)(hw:wi=w)(h1:1<=w)(h6:w<=6)(h0:0<=n)(hn:n<=yQe w):yOI (p++(leBytes w n.toNat++t)) a wi=(n,0):=by
 subst ha hw
 have hf:=yTs h1 h6 h0 hn
 have hl:n.toNat<256^w:=(yXn (n:=n.toNat) (w:=w) (by rw[Int.toNat_of_nonneg h0];exact hf)).1
 have h2:n.toNat<=1099511627776:=(yXn (n:=n.toNat) (w:=w) (by rw[Int.toNat_of_nonneg h0];exact hf)).2.1
 have e:((p++(leBytes w n.toNat++t)).drop p.length).take w=leBytes w n.toNat:=by
  rw[List.drop_left' rfl,List.take_left' (yAD w _)]
 have el:le (leBytes w n.toNat)=n.toNat:=by rw[yR2,Nat.mod_eq_of_lt hl]
 rw[yU6 ⟨h1,h6⟩ (by simp only[List.length_append,yAD];omega) (by rw[e,el];exact h2),e,el,Int.toNat_of_nonneg h0]
theorem yT0{k:Int}{t:Bs}(h0:0<=k)(h:k<=5):((((mkS (leBytes 1 k.toNat++t))[0]?).getD 0).toNat:Int)=k:=by
 obtain⟨n,rfl⟩:=Int.eq_ofNat_of_zero_le h0
 have:n=0\/n=1\/n=2\/n=3\/n=4\/n=5:=by omega
 rcases this with rfl | rfl | rfl | rfl | rfl | rfl <;> rfl
theorem xHU{L:Nat}(hL:10<L){c:yAI}(h:yQX c)(hk2:c.Kind=0\/c.Kind=1):yCL L (mkS (yGL c))=some (c,0,()):=by
 have hb:=xAO hL h (by omega) (by omega)
 have hlen:=yNz c
 have htl:=yR0 c
 have hT:yHz c= []:=by
  unfold yHz;rw[if_neg (by omega),if_neg (by omega),if_neg (by omega),if_neg (by omega)]
 obtain⟨⟨h1,h2⟩,h3,h4,h5⟩:=h
 have g1:yAv L (mkS (yGL c)) 1 6=some (c.By,0,()):=by
  rw[yNV hL (by omega)]
  unfold yGL
  rw[yJd (leBytes 1 c.Kind.toNat) (leBytes 4 c.Serial.toNat++yHz c) (w:=6) (n:=c.By) (a:=1) (wi:=6) (by rw[yAD];rfl) rfl (by omega) (by omega) (by omega) (by rw[yPU];omega)]
 have g2:yAv L (mkS (yGL c)) 7 4=some (c.Serial,0,()):=by
  rw[yNV hL (by omega)]
  unfold yGL
  rw[←List.append_assoc,yJd (leBytes 1 c.Kind.toNat++leBytes 6 c.By.toNat) (yHz c) (w:=4) (n:=c.Serial) (a:=7) (wi:=4) (by simp[yAD]) rfl (by omega) (by omega) (by omega) (by rw[xC6];omega)]
 have hh:((((mkS (yGL c))[0]?).getD 0).toNat:Int)=c.Kind:=yT0 (by omega) (by omega)
 have hw:IntKind.i8.wrap c.Kind=c.Kind:=by rcases hk2 with e | e <;> rw[e] <;> rfl
 have he:(mkS (yGL c)).extract 11 (mkS (yGL c)).size=mkS []:=by
  rw[yIe,yWW]
  refine congrArg mkS (List.drop_eq_nil_of_le ?_)
  rw[hlen,hT]
  exact Nat.le_of_eq rfl
 have s0:((mkS (yGL c)).size:Int)=11:=by rw[yOK,hlen,hT];rfl
 have z0:((0:Int) !=0)=false:=rfl
 have k2:(c.Kind==2)=false:=by simp;omega
 have k3:(c.Kind==3)=false:=by simp;omega
 have k4:(c.Kind==4)=false:=by simp;omega
 have k5:(c.Kind==5)=false:=by simp;omega
 have k127:decide (127<c.Kind)=false:=decide_eq_false (by omega)
 have se:((mkS []).size:Int)=0:=rfl
 obtain⟨kd,by_,ser,dd,ws,⟨lo,hi⟩,md⟩:=c
 dsimp only at*
 have:lo=0/\hi=0/\md=0/\dd=0/\ws=0:=by omega
 obtain⟨rfl,rfl,rfl,rfl,rfl⟩:=this
 unfold yCL yFR
 simp only[gd,gI,gB,gL,gF,gW,gA,gM,w64,s0,show decide ((11:Int)<11)=false from rfl,show decide ((0:Int)<11)=true from rfl,show decide ((11:Int)<=11)=true from rfl,cond_false,cond_true,g1,g2,yAB,z0,hh,hw,k2,k3,k4,k5,k127,he,yAK.z,hb]
 rw[beq_self_eq_true]
 rfl
end Go.Proofs.YtakljpcmbpaeaaaGreat

namespace Go.Proofs.YtakljpcmbpaeaaaGreat
open Go.RowKit
theorem xLk{l:List ByteArray}{i:Nat}{b:ByteArray}(hi:i<l.length):(l.map txV).set (0+i) (((l.map txV).getD (0+i) []).take 0++([V.str b]++((l.map txV).getD (0+i) []).drop 1))=(l.set i b).map txV:=by
 rw[Nat.zero_add,List.getD_eq_getElem?_getD,List.getElem?_map,List.getElem?_eq_getElem hi,List.map_set]
 rfl
theorem yU5{x:yAR}(h:(yB2 x).may=true):xJ0 x.Wait=true:=by
 have:=(Geo.may_ok h).e3
 have h2:=(Geo.may_ok h).e2
 have h1:=(Geo.may_ok h).e1
 have this:x.Wait<=1048576:=this
 have h2:x.Lease<x.Wait:=h2
 have h1:1<=x.Lease:=h1
 unfold xJ0
 rw[decide_eq_true (by omega),decide_eq_true (by omega)];rfl
set_option maxHeartbeats 1000000 in
theorem xGg{L:Nat}{x:yAR}(hm:(yB2 x).may=true)(hL:200000<L):∃xb xh:Bs,yNv 1 [] xIg (xJz (yB2 x))=(xb,0)/\yNv 2 [] [6] [0]=(xh,0)/\xb.length<=512/\xh.length<=512/\yJB L x=some ((heads (yB2 x) (mkS xb) (mkS xh) x.Slots.toNat).map txV,0,()):=by
 have hok:=Geo.may_ok hm
 obtain⟨xb,hxb,hxl⟩:=xJX hok
 obtain⟨xh,hxh,hhl⟩:=xIo (n:=0) (by omega) (by omega)
 refine⟨xb,xh,hxb,hxh,hxl,hhl,?_⟩
 have hB:yNb L x=some (mkS xb,0,()):=by
  unfold yNb yPe
  rw[yRH,hm,yAB,yAJ (by rfl)]
  have:=xGO (L:=L) (k:=1) (rest:=noS) (ws:=xIg) (l:=xJz (yB2 x)) (by omega) (by show(8:Nat)<L;omega) (by omega) (by show(8:Nat)<=_;omega) (by show(0:Nat)<=_;omega)
  rw[show noS.data.toList= [] from rfl,hxb] at this
  exact(congrArg (fun o=>yAA o fun r2=>some (r2.1,r2.2.1,())) this).trans rfl
 have hH:yO2 L 0=some (mkS xh,0,()):=by
  unfold yO2 yRU
  have:=xGO (L:=L) (k:=2) (rest:=noS) (ws:= [6]) (l:= [0]) (by omega) (by show(1:Nat)<L;omega) (by omega) (by show(1:Nat)<=_;omega) (by show(0:Nat)<=_;omega)
  rw[show noS.data.toList= [] from rfl,hxh] at this
  exact(congrArg (fun o=>yAA o fun r1=>some (r1.1,r1.2.1,())) this).trans rfl
 have hbd:=yUq hok
 have hat:=hok.sj
 have hT:yCt L x=some (yB2 x).total:=by
  rw[xDP]
  unfold Geo.totalS
  rw[if_pos hm]
 have hD0:0<(yB2 x).atD:=by unfold Geo.atD;have:=hok.n1;have:=hok.l1;have:=hok.s1;omega
 generalize hn:(yB2 x).total=t at*
 obtain⟨n,rfl⟩:=Int.eq_ofNat_of_zero_le (show 0<=t by omega)
 have h0n:0<n:=by omega
 unfold yJB yOV
 rw[hB,hH]
 simp only[yAB,hT,show((0:Int) !=0)=false from rfl,cond_false]
 rw[yCM (decide_eq_true (by omega)),yCM (decide_eq_true (by omega)),yCM (decide_eq_true (by omega)),yCM (decide_eq_true (by omega)),yCM (decide_eq_true (by omega))]
 have hr:List.replicate (n:Int).toNat [V.str noS]=(List.replicate n (⟨#[]⟩:ByteArray)).map txV:=by rw[Int.toNat_natCast,List.map_replicate];rfl
 rw[hr]
 have h1:(((List.replicate n (⟨#[]⟩:ByteArray)).map txV).set 0 ((((List.replicate n (⟨#[]⟩:ByteArray)).map txV).getD 0 []).take 0++([V.str (mkS xb)]++(((List.replicate n (⟨#[]⟩:ByteArray)).map txV).getD 0 []).drop 1)))=(heads (yB2 x) (mkS xb) (mkS xh) 0).map txV:=by
  have:=xLk (l:=List.replicate n (⟨#[]⟩:ByteArray)) (i:=0) (b:=mkS xb) (by rw[List.length_replicate];exact h0n)
  rw[this]
  unfold heads
  rw[hn,Int.toNat_natCast]
 rw[h1]
 have hrow:Nat.ble 1 (((List.replicate n (⟨#[]⟩:ByteArray)).map txV).getD 0 []).length=true:=by
  rw[List.getD_eq_getElem?_getD,List.getElem?_map,List.getElem?_replicate,if_pos h0n];rfl
 rw[yCM (decide_eq_true (by rw[List.length_map,List.length_replicate];exact h0n)),yCM hrow,yHo (by rw[List.length_map,yOr,hn]) (yNw _)]
 generalize mkS xb=top
 generalize mkS xh=hd
 obtain⟨s,hs⟩:=Int.eq_ofNat_of_zero_le (show 0<=x.Slots by have:=hok.s1;exact Int.le_trans (by omega) this)
 have hs16:s<=16:=by have h1:=hok.s2;have h2:=hok.n2;have h1:x.Slots<=x.Nodes:=h1;have h2:x.Nodes<=16:=h2;omega
 obtain⟨a,ha,hrun⟩:=yJg (α:=List (List V)×Int×Unit) (F:=yDh (yHF L)) (fun q=>x=q.1/\hd=q.2.1/\∃j:Nat,j<=s/\(j:Int)=q.2.2.2.1/\(heads (yB2 x) top hd j).map txV=q.2.2.1) (fun q=>s-q.2.2.2.1.toNat)
  (fun a=>a.1=(heads (yB2 x) top hd s).map txV) (fun q hq=>by
    obtain⟨q1,q2,q3,q4,q5⟩:=q
    dsimp only at hq
    obtain⟨rfl,rfl,j,hj,rfl,rfl⟩:=hq
    by_cases hlt:j<s
    ·have hh:(yB2 x).headS j=1+2*x.Nodes+x.Log+j*(1+x.Journal):=by
       unfold Geo.headS
       rw[if_pos ⟨hm,by omega,by show(j:Int)<x.Slots;omega⟩]
       rfl
     have hle:(yB2 x).headS j<n:=by
      rw[hh,←hn]
      have hb1:=hok.b1;have hp1:=hok.p1;have hj1:=hok.j1
      have e1:((j:Int)+1)*(1+x.Journal)<=x.Slots*(1+x.Journal):=Int.mul_le_mul_of_nonneg_right (by omega) (by have hj1:x.Per+2<=x.Journal:=hj1;have hp1:1<=x.Per:=hp1;omega)
      rw[Int.add_mul] at e1
      have e2:0<=x.Blocks*x.Per:=Int.mul_nonneg (by have hb1:1<=x.Blocks:=hb1;omega) (by have hp1:1<=x.Per:=hp1;omega)
      show _<1+2*x.Nodes+x.Log+x.Slots*(1+x.Journal)+x.Blocks*x.Per
      have hj1:x.Per+2<=x.Journal:=hj1
      have hp1:1<=x.Per:=hp1
      omega
     have hh0:0<=(yB2 x).headS j:=by
      rw[hh]
      have:0<=(j:Int)*(1+x.Journal):=Int.mul_nonneg (by omega) (by have hj1:=hok.j1;have hp1:=hok.p1;have hj1:x.Per+2<=x.Journal:=hj1;have hp1:1<=x.Per:=hp1;omega)
      have h1:=hok.n1;have h2:=hok.l1;have h3:=hok.s1
      have h1:1<=x.Nodes:=h1
      have h2:8*x.Slots<=x.Log:=h2
      have h3:1<=x.Slots:=h3
      omega
     refine .inl ⟨(x,hd,(heads (yB2 x) top hd (j+1)).map txV,((j+1:Nat):Int),()),⟨rfl,rfl,j+1,hlt,rfl,rfl⟩,by dsimp only;omega,fun kn ka=>?_⟩
     have hlen:((heads (yB2 x) top hd j).map txV).length=n:=by rw[List.length_map,yOr,hn,Int.toNat_natCast]
     have hset:=xLk (l:=heads (yB2 x) top hd j) (i:=((yB2 x).headS j).toNat) (b:=hd) (by rw[yOr,hn];omega)
     have hHd:yHF L x j=some ((yB2 x).headS j):=xKb x j
     unfold yDh
     dsimp only
     rw[yAT (decide_eq_true (by omega)),hHd,yAB,yW9 hh0 (by rw[hlen];exact hle)]
     rw[hset,yCM (decide_eq_true (by rw[hlen];omega)),yCM (Nat.ble_eq_true_of_le (Nat.zero_le _)),yCM (by
      rw[List.getD_eq_getElem?_getD,List.getElem?_map,List.getElem?_eq_getElem (by rw[yOr,hn];omega)];rfl),yHo (by rw[List.length_map,List.length_map,List.length_set]) (yNw _)]
     rw[yAY (by omega) (by omega)]
     rfl
    ·obtain rfl:j=s:=by omega
     refine .inr ⟨((heads (yB2 x) top hd j).map txV,()),rfl,fun kn ka=>?_⟩
     unfold yDh
     dsimp only
     rw[yAJ (decide_eq_false (by omega)),yHo rfl (yNw _)])
  L (x,hd,(heads (yB2 x) top hd 0).map txV,0,()) ⟨rfl,rfl,0,Nat.zero_le _,rfl,rfl⟩ (by dsimp only;omega)
 rw[hrun]
 obtain⟨a1,a2⟩:=a
 dsimp only at ha ⊢
 subst ha
 rw[ySB (by omega) (by rw[List.length_map,yOr,hn];omega) (yNw _),List.take_length]
 rw[show x.Slots.toNat=s by omega]
end Go.Proofs.YtakljpcmbpaeaaaGreat
