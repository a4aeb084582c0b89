/- Tables: asking, mounting; what a command makes of a table, of the program and of the document. -/
import Derived.Test.YtakljpcmbpaeaaaGreatMountJoinsM44
import Derived.Test.YtakljpcmbpaeaaaGreatMountJoinsM43
set_option linter.unusedSimpArgs false
set_option linter.unusedVariables false
namespace Go.Proofs.YtakljpcmbpaeaaaGreat
open Go.RowKit
section
variable {L:Nat} {s:List (Int×Int)} {H Q l:List yAL} {i:Nat}
def xJ3(l:List yAL)(k:Int)(sp:yAK):Bool:=l.any fun o=>o.Key==k&&ovB o.Span sp
theorem sov(a b:yAK):yGs L a b=some (ovB a b):=by
 unfold yGs yOf
 rw[xGF,yAB]
theorem xGX{p:yAL->Bool}{l:List yAL}:(match l.findIdx? p with | none=>false | some _=>true)=l.any p:=by
 cases h:l.findIdx? p with
 | none=>exact(List.any_eq_false.2 fun x hx=>by simpa using List.findIdx?_eq_none_iff.1 h x hx).symm
 | some i=>
   obtain⟨h1,h2,-⟩:=List.findIdx?_eq_some_iff_getElem.1 h
   exact(List.any_eq_true.2 ⟨_,List.getElem_mem h1,h2⟩).symm
theorem xKG(hL:200000<L)(hl:l.length<=10000)(k:Int)(sp:yAK):yAn L (l.map hV) ((((k,()),sp,()),()),())=some (match l.findIdx? (fun o=>o.Key==k&&ovB o.Span sp) with | none=> -1 | some i=>(i:Int)):=by
 unfold yAn yBo
 rw[List.length_map]
 refine(yHd l (fun o=>o.Key==k&&ovB o.Span sp) (fun i=>(l.map hV,((((k,()),sp,()),()),()),(l.length:Int),(i:Int),())) () (fun i=>((i:Int),())) (fun i hi kn ka kb=>?_) (fun kn ka kb=>?_) L 0 (Nat.zero_le _) (by omega) (fun j hj h=>absurd h (Nat.not_lt_zero _)) _ _).trans ?_
 ·show(bif decide ((i:Int)<(l.length:Int)) then _ else _)=_
  dsimp only
  rw[yAT (decide_eq_true (by omega)),yTv yJe hi]
  simp only[Int.toNat_natCast,hK hi,hLo hi,hHi hi,hMo hi]
  rw[sov,yAB,yAY (by omega) (by omega)]
  show(bif !(l[i].Key==k) then _ else _)=_
  rw[xEa]
  cases l[i].Key==k with
  | false=>rfl
  | true=>
    show(bif !!ovB l[i].Span sp then _ else _)=_
    rw[Bool.not_not]
    rfl
 ·show(bif decide ((l.length:Int)<(l.length:Int)) then _ else _)=_
  rw[yAJ (decide_eq_false (by omega))]
 ·cases l.findIdx? (fun o=>o.Key==k&&ovB o.Span sp) <;> rfl
theorem xNw(hL:200000<L)(hl:l.length<=10000)(k:Int)(sp:yAK):yL2 L (l.map hV) k sp=some (xJ3 l k sp):=by
 unfold yL2 yOg yKC yLE yA7 yBZ
 rw[xKG hL hl,yAB,yAB,yAB]
 unfold xJ3
 rw[←xGX]
 cases l.findIdx? (fun o=>o.Key==k&&ovB o.Span sp) with
 | none=>rfl
 | some i=>rw[show decide (0<=(i:Int))=true from decide_eq_true (by omega)];rfl
theorem xMd(hL:200000<L)(hl:l.length<=10000)(k:Int)(sp:yAK):yJv L (l.map hV) k sp=some (xJ3 l k sp):=by
 unfold yJv yNf
 refine(yHd l (fun o=>o.Key==k&&ovB o.Span sp) (fun i=>(l.map hV,k,sp,(i:Int),())) () (fun i=>(true,())) (fun i hi kn ka kb=>?_) (fun kn ka kb=>?_) L 0 (Nat.zero_le _) (by omega) (fun j hj h=>absurd h (Nat.not_lt_zero _)) _ _).trans ?_
 ·show(bif decide ((i:Int)<((l.map hV).length:Int)) then _ else _)=_
  dsimp only
  rw[List.length_map,yAT (decide_eq_true (by omega)),yTv yJe hi,yTv yJe hi]
  simp only[Int.toNat_natCast,hK hi,hLo hi,hHi hi,hMo hi]
  rw[xOn,yAB,yAY (by omega) (by omega)]
  cases l[i].Key==k <;> rfl
 ·show(bif decide ((l.length:Int)<((l.map hV).length:Int)) then _ else _)=_
  rw[List.length_map,yAJ (decide_eq_false (by omega))]
 ·unfold xJ3
  rw[←xGX]
  cases l.findIdx? (fun o=>o.Key==k&&ovB o.Span sp) <;> rfl
theorem xHr{k:Int}{sp:yAK}:xJ3 (l.filter fun h=>h.Key==k) k sp=xJ3 l k sp:=by
 unfold xJ3
 rw[List.any_filter]
 congr 1
 funext o
 cases o.Key==k <;> rfl
def xMK(g:yAR)(h:yAL):Bool:=decide (1<=h.Key)&&(decide (0<=h.Span.Lo)&&(decide (h.Span.Lo<=h.Span.Hi)&&decide (h.Span.Hi<g.Blocks))&&(h.Mode==1 || h.Mode==2))
theorem xKs(g:yAR)(h:yAL):yRs L g h=some (xMK g h):=by
 unfold yRs yTV yXI yVg xMK
 rw[show decide (0<h.Key)=decide (1<=h.Key) by rw[decide_eq_decide];omega,show(!decide (h.Span.Hi<h.Span.Lo))=decide (h.Span.Lo<=h.Span.Hi) by rw[←decide_not,decide_eq_decide];omega]
 cases decide (1<=h.Key) <;> cases decide (0<=h.Span.Lo) <;> cases decide (h.Span.Lo<=h.Span.Hi) <;> cases decide (h.Span.Hi<g.Blocks) <;> cases h.Mode==1 <;> rfl
theorem xKh(g:yAR)(h:yAL):yO5 L g h=some (xMK g h):=by
 unfold yO5 yRZ yUT yS8 xMK
 cases decide (1<=h.Key) <;> cases decide (0<=h.Span.Lo) <;> cases decide (h.Span.Lo<=h.Span.Hi) <;> cases decide (h.Span.Hi<g.Blocks) <;> cases h.Mode==1 <;> rfl
abbrev hC(c:yAI):yAL:=⟨c.By,c.Span,c.Mode⟩
def xN6(x:yAR)(s:List (Int×Int))(H Q:List yAL)(c:yAI):Bool:=(yDt s c.By).2&&(xMK x (hC c)&&(!(xJ3 (H++Q) c.By c.Span)&&decide (((H++Q).filter fun h=>h.Key==c.By).length<64)))
def xIE(x:yAR)(s:List (Int×Int))(H Q:List yAL)(c:yAI):List yAL×List yAL:=bif xN6 x s H Q c then grH H (Q++ [hC c]) else(H,Q)
theorem xG3{p:yAL->Bool}(l:List yAL)(n:Nat):l.foldl (fun n h=>bif p h then n+1 else n) n=n+(l.filter p).length:=by
 induction l generalizing n with
 | nil=>simp
 | cons h l ih=>
   rw[List.foldl_cons,ih]
   cases hp:p h with
   | true=>rw[cond_true,List.filter_cons_of_pos hp,List.length_cons];omega
   | false=>rw[cond_false,List.filter_cons_of_neg (by simp[hp])]
set_option maxHeartbeats 1000000 in
theorem xNC(hL:200000<L)(hs:s.length<=1000)(hl:H.length+Q.length<=9000)(x:yAR)(c:yAI):
  yH9 L (s.map slV,H.map hV,Q.map hV,x.Nodes,x.Slots,x.Blocks,x.Per,x.Journal,x.Log,x.Lease,x.Wait,()) c=some ((),(s.map slV,(xIE x s H Q c).1.map hV,(xIE x s H Q c).2.map hV,x.Nodes,x.Slots,x.Blocks,x.Per,x.Journal,x.Log,x.Lease,x.Wait,())):=by
 unfold yH9 yMf
 dsimp only
 rw[yWN (by rw[List.length_map];omega) (by omega),yQP yAq (by rw[List.length_map];omega) (by omega),yQP yAq (by rw[List.length_map];omega) (by omega),take_len rfl,take_len rfl,take_len rfl,yW5 hL hs rfl,yAB]
 simp only[List.length_map]
 rw[yAY (by omega) (by omega),yAY (by omega) (by omega),yAJ (decide_eq_false (by omega)),yAJ (decide_eq_false (by omega)),yB9 (by omega),yB9 (by omega),yDf (by omega),yCM (xET H),yZE (by omega) (by decide),yDf (by omega),yCM (xET Q),yHl (by omega),yZE (by omega) (by decide),
  yJP rfl,yHt yAq rfl,yHt yAq rfl,←List.map_append,yQP yAq (by rw[List.length_append];omega) (by rw[List.length_append];omega),yQP yAq (by rw[List.length_append];omega) (by rw[List.length_append];omega),take_len (by rw[List.length_map,List.length_append];omega)]
 have R:=yPK (α:=Unit×((List (List V))×(List (List V))×(List (List V))×Int×Int×Int×Int×Int×Int×Int×Int×Unit)) (F:=yFD) (H++Q) (fun(n:Nat) h=>bif h.Key==c.By then n+1 else n) (fun i n=>n<=i)
  (fun i n=>((s.map slV,H.map hV,Q.map hV,x.Nodes,x.Slots,x.Blocks,x.Per,x.Journal,x.Log,x.Lease,x.Wait,()),c,(yDt s c.By).2,hC c,(H++Q).map hV,(n:Int),(H++Q).map hV,(((0+H.length)+Q.length:Nat):Int),(i:Int),()))
  (fun n=>((s.map slV,H.map hV,Q.map hV,x.Nodes,x.Slots,x.Blocks,x.Per,x.Journal,x.Log,x.Lease,x.Wait,()),c,(yDt s c.By).2,hC c,(H++Q).map hV,(n:Int),()))
  (fun i hi n hn=>⟨by cases (H++Q)[i].Key==c.By <;> simp only[cond_true,cond_false] <;> omega,fun kn ka=>by
    have hi2:=hi
    rw[List.length_append] at hi2
    show(bif decide ((i:Int)<(((0+H.length)+Q.length:Nat):Int)) then _ else _)=_
    dsimp only
    rw[yAT (decide_eq_true (by omega)),yTv yJe hi]
    simp only[Int.toNat_natCast,hK hi]
    cases (H++Q)[i].Key==c.By with
    | false=>
      dsimp only[cond_false]
      rw[yJP (by rw[List.length_map]),yHt yAq (by rw[List.length_map]),yHt yAq (by rw[List.length_map]),yAY (by omega) (by omega)]
      rfl
    | true=>
      dsimp only[cond_true]
      rw[yJP (by rw[List.length_map]),yHt yAq (by rw[List.length_map]),yHt yAq (by rw[List.length_map]),yAY (by omega) (by omega),yAY (by omega) (by omega)]
      rfl⟩)
  (fun n hn kn ka=>by
    show(bif decide (((H++Q).length:Int)<(((0+H.length)+Q.length:Nat):Int)) then _ else _)=_
    dsimp only
    rw[List.length_append,yAJ (decide_eq_false (by omega)),yJP (by rw[List.length_map]),yHt yAq (by rw[List.length_map]),yHt yAq (by rw[List.length_map])])
  L 0 (Nat.zero_le _) (by rw[List.length_append];omega) 0 (Nat.le_refl _)
 refine(R.2 _).trans ?_
 rw[List.drop_zero,xG3,Nat.zero_add]
 dsimp only
 rw[show(⟨x.Nodes,x.Slots,x.Blocks,x.Per,x.Journal,x.Log,x.Lease,x.Wait⟩:yAR)=x from rfl,xKs,yAB,xNw hL (by rw[List.length_append];omega),yAB]
 have no:gW (s.map slV) (s.map slV).length (gW (H.map hV) (H.map hV).length (gW (Q.map hV) (Q.map hV).length (some ((),(s.map slV,H.map hV,Q.map hV,x.Nodes,x.Slots,x.Blocks,x.Per,x.Journal,x.Log,x.Lease,x.Wait,())))))=some ((),(s.map slV,H.map hV,Q.map hV,x.Nodes,x.Slots,x.Blocks,x.Per,x.Journal,x.Log,x.Lease,x.Wait,())):=by
  rw[yJP (by rw[List.length_map]),yHt yAq (by rw[List.length_map]),yHt yAq (by rw[List.length_map])]
 rw[no]
 unfold xIE xN6
 cases (yDt s c.By).2 with
 | false=>rfl
 | true=>
   cases xMK x (hC c) with
   | false=>rfl
   | true=>
     cases xJ3 (H++Q) c.By c.Span with
     | true=>rfl
     | false=>
       by_cases h64:((H++Q).filter fun h=>h.Key==c.By).length<64
       ·have e1:decide ((((H++Q).filter fun h=>h.Key==c.By).length:Int)<64)=true:=decide_eq_true (by omega)
        rw[e1,decide_eq_true h64]
        dsimp only[Bool.not_false,cond_true,Bool.true_and]
        rw[show Q.map hV++ [[V.int .i64 c.By,V.int .i64 c.Span.Lo,V.int .i64 c.Span.Hi,V.int .i8 c.Mode]]=(Q++ [hC c]).map hV from yU7 Q (hC c)]
        rw[yHl (by omega),yZE (by rw[List.length_map];omega) (by decide),yJP (by rw[List.length_map]),yHt yAq (by rw[List.length_map]),yHt yAq (by simp),yXB hL hs (by simp only[List.length_append,List.length_cons,List.length_nil];omega),yAB]
        dsimp only
        rw[yJP (by rw[List.length_map]),yHt yAq (by rw[List.length_map]),yHt yAq (by rw[List.length_map])]
        rfl
       ·have e1:decide ((((H++Q).filter fun h=>h.Key==c.By).length:Int)<64)=false:=decide_eq_false (by omega)
        rw[e1,decide_eq_false h64]
        rfl
end
section
variable {L:Nat} {s:List (Int×Int)} {H Q l:List yAL} {i:Nat}
theorem xIa(hL:200000<L)(hs:s.length<=1000):yA6 L (s.map slV) ()=some (match s.findIdx? (fun o=>o.1==0) with | none=> -1 | some i=>(i:Int)):=by
 unfold yA6 yB8
 rw[List.length_map]
 refine(yHd s (fun o=>o.1==0) (fun i=>(s.map slV,(),(s.length:Int),(i:Int),())) () (fun i=>((i:Int),())) (fun i hi kn ka kb=>?_) (fun kn ka kb=>?_) L 0 (Nat.zero_le _) (by omega) (fun j hj h=>absurd h (Nat.not_lt_zero _)) _ _).trans ?_
 ·show(bif decide ((i:Int)<(s.length:Int)) then _ else _)=_
  dsimp only
  rw[yAT (decide_eq_true (by omega)),yTv yRr hi]
  show(bif aI (s.map slV) (i:Int).toNat 0==0 then _ else _)=_
  simp only[Int.toNat_natCast,xM5 hi]
  rw[yAY (by omega) (by omega)]
  rfl
 ·show(bif decide ((s.length:Int)<(s.length:Int)) then _ else _)=_
  rw[yAJ (decide_eq_false (by omega))]
 ·cases s.findIdx? (fun o=>o.1==0) <;> rfl
def xNa(s:List (Int×Int))(k:Int):List (Int×Int):=bif(yDt s k).2 then s else match s.findIdx? (fun o=>o.1==0) with | none=>s | some i=>s.set i (k,(s.getD i (0,0)).2)
theorem xKQ(k:Int):(xNa s k).length=s.length:=by
 unfold xNa
 cases (yDt s k).2 with
 | true=>rfl
 | false=>cases s.findIdx? (fun o=>o.1==0) <;> simp
structure Tb where
 s:List (Int×Int)
 H:List yAL
 Q:List yAL
def Tb.t(a:Tb):yAF:=tbl a.s a.H a.Q
def Tb.ap(x:yAR)(a:Tb)(c:yAI):Tb:=
 bif c.Kind==0 then⟨xNa a.s c.By,a.H,a.Q⟩
 else bif c.Kind==1 then bif(yDt a.s c.By).2 then⟨a.s.set (yDt a.s c.By).1.toNat (0,0),(lvH a.s a.H a.Q (yDt a.s c.By).1.toNat).1,(lvH a.s a.H a.Q (yDt a.s c.By).1.toNat).2⟩ else a
 else⟨a.s,(xIE x a.s a.H a.Q c).1,(xIE x a.s a.H a.Q c).2⟩
theorem Tb.ap_s(x:yAR)(a:Tb)(c:yAI):(a.ap x c).s.length=a.s.length:=by
 unfold Tb.ap
 cases c.Kind==0 with
 | true=>exact xKQ _
 | false=>
   cases c.Kind==1 with
   | true=>cases (yDt a.s c.By).2 <;> simp
   | false=>rfl
theorem Tb.ap_n(x:yAR)(a:Tb)(c:yAI):(a.ap x c).H.length+(a.ap x c).Q.length<=a.H.length+a.Q.length+1:=by
 unfold Tb.ap
 cases c.Kind==0 with
 | true=>exact Nat.le_succ _
 | false=>
   cases c.Kind==1 with
   | true=>
     cases (yDt a.s c.By).2 with
     | true=>
       have:=yVE (s:=a.s) a.H a.Q (yDt a.s c.By).1.toNat
       simp only[cond_false,cond_true];omega
     | false=>exact Nat.le_succ _
   | false=>
     show(xIE x a.s a.H a.Q c).1.length+(xIE x a.s a.H a.Q c).2.length<=_
     unfold xIE
     cases xN6 x a.s a.H a.Q c with
     | true=>
       rw[cond_true,yPR,List.length_append]
       simp only[List.length_cons,List.length_nil];omega
     | false=>exact Nat.le_succ _
theorem xAo(hs:s.length<=1000):yHh L (s.map slV)=some (s.map slV):=xNJ hs
theorem yQu(hl:l.length<=10000):yHg L (l.map hV)=some (l.map hV):=by
 show clR 4 (l.map hV)=_
 unfold clR
 rw[xET,xGH yAq,Nat.ble_eq_true_of_le (by rw[List.length_map];omega)];rfl
theorem ySd{s:List (Int×Int)}{H Q:List yAL}{n:Nat}(hs:s.length<=1000)(hl:H.length+Q.length<=10000)(hn:n=s.length):
  gF (s.map slV) (0+n) (gF (H.map hV) (0+(H.map hV).length) (gF (Q.map hV) (0+(Q.map hV).length) (some (⟨(s.map slV).take n,(H.map hV).take (H.map hV).length,(Q.map hV).take (Q.map hV).length⟩:yAF))))=some (tbl s H Q):=by
 rw[yWN (by omega) (by omega),yQP yAq (by rw[List.length_map];omega) (by omega),yQP yAq (by rw[List.length_map];omega) (by omega),take_len (by rw[List.length_map];exact hn),take_len rfl,take_len rfl]
 rfl
set_option maxHeartbeats 1000000 in
theorem xJ7(hL:200000<L)(x:yAR)(a:Tb)(c:yAI)(hs:a.s.length<=1000)(hl:a.H.length+a.Q.length<=9000)(hk:c.Kind=0\/c.Kind=1\/c.Kind=2):yC0 L x a.t c=some (a.ap x c).t:=by
 obtain⟨s,H,Q⟩:=a
 dsimp only at hs hl
 unfold yC0 yHj Tb.t tbl Tb.ap
 dsimp only
 have ht:∀(n:Nat),n=s.length->gF (s.map slV) (0+n) (gF (H.map hV) (0+(H.map hV).length) (gF (Q.map hV) (0+(Q.map hV).length) (some (⟨(s.map slV).take n,(H.map hV).take (H.map hV).length,(Q.map hV).take (Q.map hV).length⟩:yAF))))=some (tbl s H Q):=fun n hn=>ySd hs (by omega) hn
 rw[xAo hs,yQu (l:=H) (by omega),yQu (l:=Q) (by omega),yAB,yAB,yAB]
 have pre:∀(y:Option yAF),gF (s.map slV) (0+(s.map slV).length) (gF (H.map hV) (0+(H.map hV).length) (gF (Q.map hV) (0+(Q.map hV).length) y))=y:=fun y=>by
  rw[yWN (by rw[List.length_map];omega) (by omega),yQP yAq (by rw[List.length_map];omega) (by omega),yQP yAq (by rw[List.length_map];omega) (by omega)]
 have hslot:=yW5 (L:=L) hL hs (t:=⟨(s.map slV).take (s.map slV).length,(H.map hV).take (H.map hV).length,(Q.map hV).take (Q.map hV).length⟩) (x:=x) (take_len rfl) c.By
 rcases hk with hk | hk | hk
 ·rw[hk,yAJ (by rfl),yAJ (by rfl),yAT (by rfl),pre,hslot,yAB,yWN (by rw[List.length_map];omega) (by omega),take_len rfl,xIa hL hs,yAB]
  dsimp only
  rw[xEa,yAT (show((0:Int)==0)=true from rfl)]
  unfold xNa
  cases (yDt s c.By).2 with
  | true=>
    rw[cond_true,cond_true]
    have:=ht (s.map slV).length (List.length_map _)
    rw[take_len rfl] at this
    exact this
  | false=>
    rw[cond_false,cond_false]
    cases hf:s.findIdx? (fun o=>o.1==0) with
    | none=>
      dsimp only
      rw[yAJ (by rfl)]
      have:=ht (s.map slV).length (List.length_map _)
      rw[take_len rfl] at this
      exact this
    | some i=>
      have hi:=(List.findIdx?_eq_some_iff_getElem.1 hf).1
      dsimp only
      simp only[Int.toNat_natCast]
      rw[yAT (decide_eq_true (by omega)),yW9 (by omega) (by rw[List.length_map];omega),yB9 (by rw[List.length_map];omega),yDf (Nat.zero_le _),yDf (by rw[Nat.zero_add,yDN (yGO hi)];exact Nat.le_succ 1),xLj hi,ySd (by rw[List.length_set];exact hs) (by omega) (by rw[List.length_map,List.length_set]),yQ4 hi]
      rfl
 ·rw[hk,yAJ (by rfl),yAJ (by rfl),yAJ (by rfl),yAT (by rfl),pre,hslot,yAB]
  dsimp only
  rw[yAJ (show((1:Int)==0)=false from rfl),yAT (show((1:Int)==1)=true from rfl)]
  cases hm:(yDt s c.By).2 with
  | false=>
    rw[cond_false,cond_false]
    exact ht (s.map slV).length (List.length_map _)
  | true=>
    obtain⟨i,hi,he⟩:=yR7 hm
    rw[cond_true,cond_true,he,yJP (by rw[List.length_map]),yHt yAq (by rw[List.length_map]),yHt yAq (by rw[List.length_map]),xF4 hL hs (by omega) hi,yAB]
    dsimp only
    simp only[Int.toNat_natCast]
    have:=yVE (s:=s) H Q i
    exact ySd (by rw[List.length_set];exact hs) (by omega) (List.length_map _)
 ·rw[hk,yAJ (by rfl),yAJ (by rfl),yAJ (by rfl),yAJ (by rfl),yAT (by rfl)]
  rw[yAJ (show((2:Int)==0)=false from rfl),yAJ (show((2:Int)==1)=false from rfl),yJP (by rw[List.length_map]),yHt yAq (by rw[List.length_map]),yHt yAq (by rw[List.length_map]),xNC hL hs (by omega),yAB]
  dsimp only
  have:=Tb.ap_n x ⟨s,H,Q⟩ c
  unfold Tb.ap at this
  rw[hk] at this
  dsimp only[cond_false] at this
  exact ySd hs (by
   have h2:(xIE x s H Q c).1.length+(xIE x s H Q c).2.length<=H.length+Q.length+1:=this
   omega) (List.length_map _)
theorem xJG(hL:200000<L)(x:yAR)(a:Tb)(c:yAI)(hs:a.s.length<=1000)(hl:a.H.length+a.Q.length<=9000)(hk:c.Kind=0\/c.Kind=1\/c.Kind=2):yCu L x a.t c=some (a.ap x c).t:=by
 obtain⟨s,H,Q⟩:=a
 dsimp only at hs hl
 unfold yCu yHX Tb.t Tb.ap
 dsimp only
 have ht:∀{s':List (Int×Int)} {H' Q':List yAL},s'.length<=1000->H'.length+Q'.length<=10000->gF (s'.map slV) (0+(s'.map slV).length) (gF (H'.map hV) (0+(H'.map hV).length) (gF (Q'.map hV) (0+(Q'.map hV).length) (some (⟨(s'.map slV).take (s'.map slV).length,(H'.map hV).take (H'.map hV).length,(Q'.map hV).take (Q'.map hV).length⟩:yAF))))=some (tbl s' H' Q'):=fun h1 h2=>ySd h1 h2 (List.length_map _)
 rw[yOB hL hs rfl,yAB,yOB hL hs rfl,yAB]
 rcases hk with hk | hk | hk
 ·rw[hk,yAT (show((0:Int)==0)=true from rfl),yAT (show((0:Int)==0)=true from rfl)]
  unfold xNa
  cases hm:(yDt s c.By).2 with
  | true=>
    obtain⟨n,rfl⟩:∃n,L=n+1:=⟨L-1,by omega⟩
    show(bif decide ((0:Int)<((s.map slV).length:Int)) then _ else _)=_
    cases decide ((0:Int)<((s.map slV).length:Int)) <;> rfl
  | false=>
    rw[cond_false]
    refine(yHd s (fun o=>o.1==0) (fun i=>(tbl s H Q,c,yAF.z,false,(i:Int),())) (tbl s H Q,yAF.z,()) (fun i=>(tbl (s.set i (c.By,(s.getD i (0,0)).2)) H Q,())) (fun i hi kn ka kb=>?_) (fun kn ka kb=>?_) L 0 (Nat.zero_le _) (by omega) (fun j hj h=>absurd h (Nat.not_lt_zero _)) _ _).trans ?_
    ·show(bif decide ((i:Int)<((s.map slV).length:Int)) then _ else _)=_
     rw[List.length_map,yAT (decide_eq_true (by omega))]
     show(gI (s.map slV) yAK.ks (i:Int) (bif aI (s.map slV) (i:Int).toNat 0==0 then _ else _))=_
     rw[yTv yRr hi]
     simp only[Int.toNat_natCast,xM5 hi]
     cases s[i].1==0 with
     | true=>
       rw[cond_true,cond_true,copy_eq hs (by omega),yAB]
       dsimp only
       rw[yW9 (by omega) (by rw[List.length_map];omega),yB9 (by rw[List.length_map];omega),yDf (Nat.zero_le _),yDf (by rw[Nat.zero_add,yDN (yGO hi)];exact Nat.le_succ 1),xLj hi,yWN (by rw[List.length_map,List.length_set];omega) (by rw[List.length_set];omega),yQP yAq (by rw[List.length_map];omega) (by omega),yQP yAq (by rw[List.length_map];omega) (by omega),
        take_len (by rw[List.length_map,List.length_map,List.length_set]),take_len rfl,take_len rfl,yQ4 hi]
       rfl
     | false=>
       rw[cond_false,cond_false]
       rw[yAY (by omega) (by omega)]
       rfl
    ·show(bif decide ((s.length:Int)<((s.map slV).length:Int)) then _ else _)=_
     rw[List.length_map,yAJ (decide_eq_false (by omega))]
    ·cases s.findIdx? (fun o=>o.1==0) <;> rfl
 ·rw[hk,yAJ (show((1:Int)==0)=false from rfl),yAJ (show((1:Int)==0)=false from rfl),yAT (show((1:Int)==1)=true from rfl),yAT (show((1:Int)==1)=true from rfl)]
  cases hm:(yDt s c.By).2 with
  | false=>rfl
  | true=>
    obtain⟨i,hi,he⟩:=yR7 hm
    rw[cond_true,cond_true,he,xDx hL hs (by omega) hi,yAB]
    dsimp only
    simp only[Int.toNat_natCast]
    have:=yVE (s:=s) H Q i
    exact ht (by rw[List.length_set];exact hs) (by omega)
 ·rw[hk,yAJ (show((2:Int)==0)=false from rfl),yAJ (show((2:Int)==0)=false from rfl),yAJ (show((2:Int)==1)=false from rfl),yAJ (show((2:Int)==1)=false from rfl),yAT (show((2:Int)==2)=true from rfl)]
  have hfl:=List.length_filter_le (fun h:yAL=>h.Key==c.By) (H++Q)
  rw[List.length_append] at hfl
  rw[xMa hL (by omega),yAB,xKh,yAB]
  dsimp only
  rw[yQP yAq (by rw[List.length_map];omega) (by omega),take_len rfl,xMd hL (by omega),yAB,xHr,List.length_map,copy_eq hs (by omega),yAB]
  dsimp only
  unfold xIE xN6
  cases (yDt s c.By).2 with
  | false=>rfl
  | true=>
    cases xMK x (hC c) with
    | false=>rfl
    | true=>
      cases xJ3 (H++Q) c.By c.Span with
      | true=>rfl
      | false=>
        by_cases h64:((H++Q).filter fun h=>h.Key==c.By).length<64
        ·have e1:decide ((((H++Q).filter fun h=>h.Key==c.By).length:Int)<64)=true:=decide_eq_true (by omega)
         rw[e1,decide_eq_true h64]
         dsimp only[Bool.not_false,cond_true,Bool.true_and]
         rw[show Q.map hV++ [[V.int .i64 c.By,V.int .i64 c.Span.Lo,V.int .i64 c.Span.Hi,V.int .i8 c.Mode]]=(Q++ [hC c]).map hV from yU7 Q (hC c)]
         have hq1:(Q++ [hC c]).length=Q.length+1:=by simp
         rw[yHl (by omega),yZE (by rw[List.length_map];omega) (by decide),yWN (by rw[List.length_map];omega) (by omega),yQP yAq (by rw[List.length_map];omega) (by omega),yQP yAq (by rw[List.length_map];omega) (by omega),take_len rfl,take_len rfl,take_len (by rw[List.length_map,List.length_map,hq1])]
         rw[show(⟨s.map slV,H.map hV,(Q++ [hC c]).map hV⟩:yAF)=tbl s H (Q++ [hC c]) from rfl,yUH hL hs (by omega),yAB]
         have:=yPR H (Q++ [hC c])
         exact ht hs (by omega)
        ·have e1:decide ((((H++Q).filter fun h=>h.Key==c.By).length:Int)<64)=false:=decide_eq_false (by omega)
         rw[e1,decide_eq_false h64]
         rfl
end
def yW8(k:Int)(sp:yAK)(h:yAL):Bool:=h.Key==k&&(h.Span.Lo==sp.Lo&&(h.Span.Hi==sp.Hi&&true))
section
variable {L:Nat} {s:List (Int×Int)} {H Q l:List yAL} {i:Nat}
theorem xMA(hL:200000<L)(hl:l.length<=10000)(c:yAI):yA3 L (l.map hV) (c,())=some (match l.findIdx? (yW8 c.By c.Span) with | none=> -1 | some i=>(i:Int)):=by
 unfold yA3 yB5
 rw[List.length_map]
 refine(yHd l (yW8 c.By c.Span) (fun i=>(l.map hV,(c,()),(l.length:Int),(i:Int),())) () (fun i=>((i:Int),())) (fun i hi kn ka kb=>?_) (fun kn ka kb=>?_) L 0 (Nat.zero_le _) (by omega) (fun j hj h=>absurd h (Nat.not_lt_zero _)) _ _).trans ?_
 ·show(bif decide ((i:Int)<(l.length:Int)) then _ else _)=_
  dsimp only
  rw[yAT (decide_eq_true (by omega)),yTv yJe hi]
  simp only[Int.toNat_natCast,hK hi,hLo hi,hHi hi]
  unfold yW8
  cases l[i].Key==c.By with
  | false=>rw[Bool.false_and,cond_false,cond_false,yAY (by omega) (by omega)];rfl
  | true=>
    rw[Bool.true_and,cond_true]
    cases (l[i].Span.Lo==c.Span.Lo&&(l[i].Span.Hi==c.Span.Hi&&true)) with
    | true=>rfl
    | false=>rw[cond_false,cond_false,yAY (by omega) (by omega)];rfl
 ·show(bif decide ((l.length:Int)<(l.length:Int)) then _ else _)=_
  rw[yAJ (decide_eq_false (by omega))]
 ·cases l.findIdx? (yW8 c.By c.Span) <;> rfl
theorem xMB(hL:200000<L)(hl:l.length<=10000)(c:yAI):yA4 L (l.map hV) (c,())=some (match l.findIdx? (yW8 c.By c.Span) with | none=> -1 | some i=>(i:Int)):=by
 unfold yA4 yB6
 rw[List.length_map]
 refine(yHd l (yW8 c.By c.Span) (fun i=>(l.map hV,(c,()),(l.length:Int),(i:Int),())) () (fun i=>((i:Int),())) (fun i hi kn ka kb=>?_) (fun kn ka kb=>?_) L 0 (Nat.zero_le _) (by omega) (fun j hj h=>absurd h (Nat.not_lt_zero _)) _ _).trans ?_
 ·show(bif decide ((i:Int)<(l.length:Int)) then _ else _)=_
  dsimp only
  rw[yAT (decide_eq_true (by omega)),yTv yJe hi]
  simp only[Int.toNat_natCast,hK hi,hLo hi,hHi hi]
  unfold yW8
  cases l[i].Key==c.By with
  | false=>rw[Bool.false_and,cond_false,cond_false,yAY (by omega) (by omega)];rfl
  | true=>
    rw[Bool.true_and,cond_true]
    cases (l[i].Span.Lo==c.Span.Lo&&(l[i].Span.Hi==c.Span.Hi&&true)) with
    | true=>rfl
    | false=>rw[cond_false,cond_false,yAY (by omega) (by omega)];rfl
 ·show(bif decide ((l.length:Int)<(l.length:Int)) then _ else _)=_
  rw[yAJ (decide_eq_false (by omega))]
 ·cases l.findIdx? (yW8 c.By c.Span) <;> rfl
theorem xGQ(hL:200000<L)(hl:l.length<=10000)(k:Int)(sp:yAK):yQA L (l.map hV) k sp=some (match l.findIdx? (yW8 k sp) with | none=> -1 | some i=>(i:Int)):=by
 unfold yQA yVc
 refine(yHd l (yW8 k sp) (fun i=>(l.map hV,k,sp,(i:Int),())) () (fun i=>((i:Int),())) (fun i hi kn ka kb=>?_) (fun kn ka kb=>?_) L 0 (Nat.zero_le _) (by omega) (fun j hj h=>absurd h (Nat.not_lt_zero _)) _ _).trans ?_
 ·show(bif decide ((i:Int)<((l.map hV).length:Int)) then _ else _)=_
  dsimp only
  rw[List.length_map,yAT (decide_eq_true (by omega)),yTv yJe hi,yTv yJe hi]
  simp only[Int.toNat_natCast,hK hi,hLo hi,hHi hi]
  unfold yW8
  cases l[i].Key==k with
  | false=>rw[Bool.false_and,cond_false,cond_false,yAY (by omega) (by omega)];rfl
  | true=>
    rw[Bool.true_and,cond_true]
    cases (l[i].Span.Lo==sp.Lo&&(l[i].Span.Hi==sp.Hi&&true)) with
    | true=>rfl
    | false=>rw[cond_false,cond_false,yAY (by omega) (by omega)];rfl
 ·show(bif decide ((l.length:Int)<((l.map hV).length:Int)) then _ else _)=_
  rw[List.length_map,yAJ (decide_eq_false (by omega))]
 ·cases l.findIdx? (yW8 k sp) <;> rfl
theorem xIT(hl:l.length<=10000)(hi:i<l.length):yBm L (l.map hV) (i:Int) ((i:Int)+1)=some ((l.eraseIdx i).map hV):=by
 have hN:((i:Int)+1).toNat=i+1:=by omega
 have hlen:((((l.map hV).drop (0+(i+1))).take ((l.map hV).length-(i+1))).length)=l.length-(i+1):=by
  rw[List.length_take,List.length_drop,List.length_map];omega
 have hrow:∀(A B C:List (List V)) (n:Nat),n=A.length+B.length->((A++(B++C)).take n).take n=A++B:=fun A B C n hn=>by
  rw[List.take_take,Nat.min_self,←List.append_assoc,List.take_append_of_le_length (by rw[List.length_append];omega),List.take_of_length_le (by rw[List.length_append];omega)]
 unfold yBm yCg
 simp only[Int.toNat_natCast,hN,hlen]
 rw[List.length_map] at*
 rw[yB9 (by omega),yB9 (by omega),yB9 (by omega),yB9 (by omega),yB9 (by omega),yB9 (by omega),yAJ (beq_eq_false_iff_ne.2 (by omega)),yB9 (by omega),yB9 (by omega),yB9 (by omega),yB9 (by omega),yDf (by omega)]
 have hb:Nat.beq i l.length=false:=by
  cases h:Nat.beq i l.length with
  | false=>rfl
  | true=>have:=Nat.eq_of_beq_eq_true h;omega
 have hnat:((i:Int)+((l.length-(i+1):Nat):Int)).toNat=i+(l.length-(i+1)):=by omega
 rw[hnat,Nat.zero_add,Nat.zero_add,Nat.zero_add]
 have e1:((l.map hV).take i).length=i:=by rw[List.length_take,List.length_map];omega
 have e2:(((l.map hV).drop (i+1)).take (l.length-(i+1))).length=l.length-(i+1):=by rw[List.length_take,List.length_drop,List.length_map];omega
 have e3:((l.map hV).take i++(((l.map hV).drop (i+1)).take (l.length-(i+1))++(l.map hV).drop (i+(l.length-(i+1))))).length=l.length:=by
  rw[List.length_append,List.length_append,e1,e2,List.length_drop,List.length_map];omega
 rw[hrow _ _ _ _ (by rw[e1,e2]),yCM (List.all_eq_true.2 fun r hr=>by obtain⟨b,_,rfl⟩:=List.mem_map.1 (List.mem_of_mem_drop (List.mem_of_mem_take hr));rfl),yCM (by rw[hb];rfl),yDf (by omega),yDf (by omega),yDf (by omega),yB9 (by omega),yB9 (by omega),yB9 (by omega),yB9 (by omega),yDf (by omega),
  yDf (by rw[List.length_take,e3];omega)]
 have e4:(l.map hV).take i++((l.map hV).drop (i+1)).take (l.length-(i+1))=(l.eraseIdx i).map hV:=by
  rw[List.take_of_length_le (l:=(l.map hV).drop (i+1)) (by rw[List.length_drop,List.length_map];omega),List.eraseIdx_eq_take_drop_succ,List.map_append,List.map_take,List.map_drop]
 rw[e4,yCM (xGH yAq)]
end
end Go.Proofs.YtakljpcmbpaeaaaGreat

namespace Go.Proofs.YtakljpcmbpaeaaaGreat
set_option maxHeartbeats 1000000
open Go.RowKit
def Tb.fre(a:Tb)(c:yAI):Tb:=match a.H.findIdx? (yW8 c.By c.Span) with
 | some i=>⟨a.s,(grH (a.H.eraseIdx i) a.Q).1,(grH (a.H.eraseIdx i) a.Q).2⟩
 | none=>match a.Q.findIdx? (yW8 c.By c.Span) with
   | some i=>⟨a.s,(grH a.H (a.Q.eraseIdx i)).1,(grH a.H (a.Q.eraseIdx i)).2⟩
   | none=>a
def Tb.clm(a:Tb)(c:yAI):Tb:=
 bif(yDt a.s c.Dead).2 then bif(a.s.getD (yDt a.s c.Dead).1.toNat (0,0)).2==c.Was then bif c.By !=c.Dead then⟨a.s.set (yDt a.s c.Dead).1.toNat ((a.s.getD (yDt a.s c.Dead).1.toNat (0,0)).1,c.By),a.H,a.Q⟩ else a else a else a
def Tb.pur(a:Tb)(c:yAI):Tb:=
 bif(yDt a.s c.Dead).2 then bif c.By !=0 then bif(a.s.getD (yDt a.s c.Dead).1.toNat (0,0)).2==c.By then
  ⟨a.s.set (yDt a.s c.Dead).1.toNat (0,0),(lvH a.s a.H a.Q (yDt a.s c.Dead).1.toNat).1,(lvH a.s a.H a.Q (yDt a.s c.Dead).1.toNat).2⟩ else a else a else a
def Tb.ap6(x:yAR)(a:Tb)(c:yAI):Tb:=bif c.Kind==3 then a.fre c else bif c.Kind==4 then a.clm c else bif c.Kind==5 then a.pur c else a.ap x c
section
variable {L:Nat} {s:List (Int×Int)} {H Q l:List yAL} {i:Nat}
theorem yZ8{p:yAL->Bool}(h:l.findIdx? p=some i):i<l.length/\(l.eraseIdx i).length+1=l.length:=by
 have hi:=(List.findIdx?_eq_some_iff_getElem.1 h).1
 refine⟨hi,?_⟩
 rw[List.length_eraseIdx,if_pos hi];omega
theorem Tb.fre_n(a:Tb)(c:yAI):(a.fre c).H.length+(a.fre c).Q.length<=a.H.length+a.Q.length/\(a.fre c).s=a.s:=by
 unfold Tb.fre
 split
 ·rename_i i h
  have:=yZ8 h
  dsimp only
  rw[yPR]
  exact⟨by omega,rfl⟩
 ·split
  ·rename_i i h
   have:=yZ8 h
   dsimp only
   rw[yPR]
   exact⟨by omega,rfl⟩
  ·exact⟨Nat.le_refl _,rfl⟩
theorem Tb.ap6_n(x:yAR)(a:Tb)(c:yAI):(a.ap6 x c).H.length+(a.ap6 x c).Q.length<=a.H.length+a.Q.length+1/\(a.ap6 x c).s.length=a.s.length:=by
 unfold Tb.ap6
 cases c.Kind==3 with
 | true=>
   have:=a.fre_n c
   rw[cond_true,this.2]
   exact⟨by omega,rfl⟩
 | false=>
 cases c.Kind==4 with
 | true=>
   rw[cond_false,cond_true]
   unfold Tb.clm
   cases (yDt a.s c.Dead).2 <;> cases ((a.s.getD (yDt a.s c.Dead).1.toNat (0,0)).2==c.Was) <;> cases (c.By !=c.Dead) <;> exact⟨by simp only[cond_true,cond_false];omega,by simp only[cond_true,cond_false,List.length_set]⟩
 | false=>
 cases c.Kind==5 with
 | true=>
   rw[cond_false,cond_false,cond_true]
   unfold Tb.pur
   have:=yVE (s:=a.s) a.H a.Q (yDt a.s c.Dead).1.toNat
   cases (yDt a.s c.Dead).2 <;> cases (c.By !=0) <;> cases ((a.s.getD (yDt a.s c.Dead).1.toNat (0,0)).2==c.By) <;> exact⟨by simp only[cond_true,cond_false];omega,by simp only[cond_true,cond_false,List.length_set]⟩
 | false=>exact⟨a.ap_n x c,a.ap_s x c⟩
theorem sCl(h:i<s.length):aI (s.map slV) i 1=s[i].2:=congrArg asI (yXZ h)
theorem xLi(h:i<s.length)(b:Int):(s.map slV).set (0+i) (((s.map slV).getD (0+i) []).take 1++([V.int .i64 b]++((s.map slV).getD (0+i) []).drop 2))=(s.set i ((s.getD i (0,0)).1,b)).map slV:=by
 rw[Nat.zero_add,yDN (yGO h),List.map_set,yQ4 h];rfl
theorem g3{α:Type}{n m k:Nat}{y:Option α}(hs:s.length<=1000)(hl:H.length+Q.length<=10000)(hn:n<=s.length)(hm:m<=H.length)(hq:k<=Q.length):gF (s.map slV) n (gF (H.map hV) m (gF (Q.map hV) k y))=y:=by
 rw[yWN hn (by omega),yQP yAq hm (by omega),yQP yAq hq (by omega)]
theorem xIA(hL:200000<L)(x:yAR)(a:Tb)(c:yAI)(hs:a.s.length<=1000)(hl:a.H.length+a.Q.length<=9000)(h0:0<=c.Kind)(h5:c.Kind<=5):yC0 L x a.t c=some (a.ap6 x c).t:=by
 have hk:c.Kind<=2\/c.Kind=3\/c.Kind=4\/c.Kind=5:=by omega
 rcases hk with hk | hk | hk | hk
 ·rw[xJ7 hL x a c hs hl (by omega)]
  unfold Tb.ap6
  rw[show(c.Kind==3)=false from beq_eq_false_iff_ne.2 (by omega),show(c.Kind==4)=false from beq_eq_false_iff_ne.2 (by omega),show(c.Kind==5)=false from beq_eq_false_iff_ne.2 (by omega)]
  rfl
 ·unfold Tb.ap6
  rw[hk,yAT (show((3:Int)==3)=true from rfl)]
  obtain⟨s,H,Q⟩:=a
  dsimp only at hs hl
  unfold yC0 yHj Tb.t tbl Tb.fre
  dsimp only
  rw[xAo hs,yQu (l:=H) (by omega),yQu (l:=Q) (by omega),yAB,yAB,yAB]
  rw[hk,yAJ (by rfl),yAJ (by rfl),yAJ (by rfl),yAJ (by rfl),yAJ (by rfl),yAT (by rfl)]
  rw[yQP yAq (by rw[List.length_map];omega) (by omega),take_len rfl,xMA hL (by omega),yAB]
  cases hf:H.findIdx? (yW8 c.By c.Span) with
  | some i=>
    obtain⟨hi,he⟩:=yZ8 hf
    dsimp only
    rw[yAT (decide_eq_true (by omega)),yHl rfl,yCM (xGH yAq),yAY (by omega) (by omega),xIT (by omega) hi,yAB,yJP (by rw[List.length_map]),yHt yAq (by rw[List.length_map]),yHt yAq (by rw[List.length_map]),yXB hL hs (by omega),yAB]
    dsimp only
    have:=yPR (H.eraseIdx i) Q
    simp only[Nat.zero_add,List.take_length]
    rw[g3 hs (by omega) (by simp) (by simp) (by simp)]
  | none=>
    dsimp only
    rw[yAJ (by decide),yQP yAq (by rw[List.length_map];omega) (by omega),take_len rfl,xMB hL (by omega),yAB]
    cases hg:Q.findIdx? (yW8 c.By c.Span) with
    | some i=>
      obtain⟨hi,he⟩:=yZ8 hg
      dsimp only
      rw[yAT (decide_eq_true (by omega)),yHl rfl,yCM (xGH yAq),yAY (by omega) (by omega),xIT (by omega) hi,yAB,yJP (by rw[List.length_map]),yHt yAq (by rw[List.length_map]),yHt yAq (by rw[List.length_map]),yXB hL hs (by omega),yAB]
      dsimp only
      have:=yPR H (Q.eraseIdx i)
      simp only[Nat.zero_add,List.take_length]
      rw[g3 hs (by omega) (by simp) (by simp) (by simp)]
    | none=>
      dsimp only
      rw[yAJ (by decide)]
      simp only[Nat.zero_add,List.take_length]
      rw[g3 hs (by omega) (by simp) (by simp) (by simp)]
 ·unfold Tb.ap6
  rw[hk,yAJ (show((4:Int)==3)=false from rfl),yAT (show((4:Int)==4)=true from rfl)]
  obtain⟨s,H,Q⟩:=a
  dsimp only at hs hl
  unfold yC0 yHj Tb.t tbl Tb.clm
  dsimp only
  have ht:=ySd hs (show H.length+Q.length<=10000 by omega) (n:=(s.map slV).length) (List.length_map _)
  rw[xAo hs,yQu (l:=H) (by omega),yQu (l:=Q) (by omega),yAB,yAB,yAB]
  rw[hk,yAJ (by rfl),yAJ (by rfl),yAJ (by rfl),yAJ (by rfl),yAJ (by rfl),yAJ (by rfl),yAT (by rfl)]
  rw[yWN (by rw[List.length_map];omega) (by omega),yQP yAq (by rw[List.length_map];omega) (by omega),yQP yAq (by rw[List.length_map];omega) (by omega),yW5 hL hs (take_len rfl),yAB]
  dsimp only
  cases hm:(yDt s c.Dead).2 with
  | false=>
    rw[cond_false,cond_false]
    simp only[Nat.zero_add,List.take_length]
    rw[g3 hs (by omega) (by simp) (by simp) (by simp)]
  | true=>
    obtain⟨i,hi,he⟩:=yR7 hm
    rw[cond_true,cond_true,he]
    dsimp only
    simp only[Int.toNat_natCast]
    rw[yW9 (by omega) (by rw[List.length_map];omega),yYv (by rw[List.length_map];omega) (by rw[yIa (yGO (show 0+i<s.length by omega))];rfl)]
    simp only[Nat.zero_add]
    rw[sCl hi,yQ4 hi]
    cases s[i].2==c.Was with
    | false=>
      rw[cond_false,cond_false]
      simp only[Nat.zero_add,List.take_length]
      rw[g3 hs (by omega) (by simp) (by simp) (by simp)]
    | true=>
      rw[cond_true,cond_true]
      cases c.By !=c.Dead with
      | false=>
        rw[cond_false,cond_false]
        simp only[Nat.zero_add,List.take_length]
        rw[g3 hs (by omega) (by simp) (by simp) (by simp)]
      | true=>
        have hset:=xLi hi c.By
        rw[Nat.zero_add,yQ4 hi] at hset
        rw[cond_true,cond_true,yW9 (by omega) (by rw[List.length_map];omega),yB9 (by rw[List.length_map];omega),yDf (Nat.zero_le _),yDf (by rw[yDN (yGO hi)];exact Nat.le_refl 2),hset]
        simp only[Nat.zero_add,List.take_length]
        rw[g3 (s:=s.set i (s[i].1,c.By)) (by rw[List.length_set];exact hs) (by omega) (by simp) (by simp) (by simp),List.take_of_length_le (by simp)]
 ·unfold Tb.ap6
  rw[hk,yAJ (show((5:Int)==3)=false from rfl),yAJ (show((5:Int)==4)=false from rfl),yAT (show((5:Int)==5)=true from rfl)]
  obtain⟨s,H,Q⟩:=a
  dsimp only at hs hl
  unfold yC0 yHj Tb.t tbl Tb.pur
  dsimp only
  have ht:=ySd hs (show H.length+Q.length<=10000 by omega) (n:=(s.map slV).length) (List.length_map _)
  rw[xAo hs,yQu (l:=H) (by omega),yQu (l:=Q) (by omega),yAB,yAB,yAB]
  rw[hk,yAJ (by rfl),yAJ (by rfl),yAJ (by rfl),yAJ (by rfl),yAJ (by rfl),yAJ (by rfl),yAJ (by rfl),yB9 rfl]
  rw[yWN (by rw[List.length_map];omega) (by omega),yQP yAq (by rw[List.length_map];omega) (by omega),yQP yAq (by rw[List.length_map];omega) (by omega),yW5 hL hs (take_len rfl),yAB]
  dsimp only
  cases hm:(yDt s c.Dead).2 with
  | false=>
    rw[cond_false,cond_false]
    simp only[Nat.zero_add,List.take_length]
    rw[g3 hs (by omega) (by simp) (by simp) (by simp)]
  | true=>
    obtain⟨i,hi,he⟩:=yR7 hm
    rw[cond_true,cond_true,he]
    dsimp only
    simp only[Int.toNat_natCast]
    cases c.By !=0 with
    | false=>
      rw[cond_false,cond_false]
      simp only[Nat.zero_add,List.take_length]
      rw[g3 hs (by omega) (by simp) (by simp) (by simp)]
    | true=>
      rw[cond_true,cond_true,yW9 (by omega) (by rw[List.length_map];omega),yYv (by rw[List.length_map];omega) (by rw[yIa (yGO (show 0+i<s.length by omega))];rfl)]
      simp only[Nat.zero_add]
      rw[sCl hi,yQ4 hi]
      cases s[i].2==c.By with
      | false=>
        rw[cond_false,cond_false]
        simp only[Nat.zero_add,List.take_length]
        rw[g3 hs (by omega) (by simp) (by simp) (by simp)]
      | true=>
        rw[cond_true,cond_true,yJP (by rw[List.length_map]),yHt yAq (by rw[List.length_map]),yHt yAq (by rw[List.length_map]),xF4 hL hs (by omega) hi,yAB]
        dsimp only
        have:=yVE (s:=s) H Q i
        simp only[Nat.zero_add,List.take_length]
        rw[g3 (by rw[List.length_set];exact hs) (by omega) (by simp) (by simp) (by simp)]
theorem frM{l:List yAL}(hl:l.length<=10000)(hi:i<l.length):(l.map hV).take i++(((l.map hV).drop (i+1)).take (l.length-(i+1)))=(l.eraseIdx i).map hV:=by
 rw[List.take_of_length_le (l:=(l.map hV).drop (i+1)) (by rw[List.length_drop,List.length_map];omega),List.eraseIdx_eq_take_drop_succ,List.map_append,List.map_take,List.map_drop]
theorem xKg(hL:200000<L)(a:Tb)(k:Int)(sp:yAK)(hs:a.s.length<=1000)(hl:a.H.length+a.Q.length<=9000)(c:yAI)(hk:c.By=k)(hsp:c.Span=sp)(hany:(a.H.findIdx? (yW8 k sp)).isSome=true\/(a.Q.findIdx? (yW8 k sp)).isSome=true):
  yO8 L a.t k sp=some ((a.fre c).s.map slV,(a.fre c).H.map hV,(a.fre c).Q.map hV,()):=by
 subst hk hsp
 obtain⟨s,H,Q⟩:=a
 dsimp only at hs hl hany
 unfold yO8 yRj Tb.t Tb.fre
 dsimp only
 rw[copy_eq hs (by omega),yAB]
 dsimp only
 rw[yQP yAq (by rw[List.length_map];omega) (by omega),take_len rfl,xGQ hL (by omega),yAB]
 cases hf:H.findIdx? (yW8 c.By c.Span) with
 | some i=>
   obtain⟨hi,he⟩:=yZ8 hf
   have hN:((i:Int)+1).toNat=i+1:=by omega
   have hg:=yPR (H.eraseIdx i) Q
   have e1:((H.map hV).take i).length=i:=by rw[List.length_take,List.length_map];omega
   have e2:((((H.map hV).drop (i+1)).take (H.length-(i+1))).length)=H.length-(i+1):=by rw[List.length_take,List.length_drop,List.length_map];omega
   dsimp only
   simp only[Int.toNat_natCast]
   rw[yAT (decide_eq_true (by omega)),yAY (by omega) (by omega),hN]
   simp only[Nat.zero_add,List.length_map,e1,e2]
   rw[yB9 (by omega),yB9 (by omega),yDf (by omega),yCM (List.all_eq_true.2 fun r hr=>by obtain⟨b,_,rfl⟩:=List.mem_map.1 (List.mem_of_mem_take hr);rfl),yZE (by omega) (by decide),yB9 (by omega),yB9 (by omega),yDf (by omega),yCM (List.all_eq_true.2 fun r hr=>by obtain⟨b,_,rfl⟩:=List.mem_map.1 (List.mem_of_mem_drop (List.mem_of_mem_take hr));rfl),yHl rfl,yZE (by omega) (by decide)]
   rw[frM (by omega) hi,yWN (by omega) (by omega),yQP yAq (by omega) (by omega),yQP yAq (by omega) (by omega),take_len (by rw[List.length_map]),take_len (by rw[List.length_map];omega),take_len (by rw[List.length_map])]
   show(yAA (yDj L (tbl s (H.eraseIdx i) Q)) _)=_
   rw[yUH hL hs (by omega),yAB]
   dsimp only
   rw[yJP (by rw[List.length_map]),yHt yAq (by rw[List.length_map]),yHt yAq (by rw[List.length_map])]
 | none=>
   dsimp only
   rw[yAJ (by decide),yQP yAq (by rw[List.length_map];omega) (by omega),take_len rfl,xGQ hL (by omega),yAB]
   cases hq:Q.findIdx? (yW8 c.By c.Span) with
   | some i=>
     obtain⟨hi,he⟩:=yZ8 hq
     have hN:((i:Int)+1).toNat=i+1:=by omega
     have hg:=yPR H (Q.eraseIdx i)
     have e1:((Q.map hV).take i).length=i:=by rw[List.length_take,List.length_map];omega
     have e2:((((Q.map hV).drop (i+1)).take (Q.length-(i+1))).length)=Q.length-(i+1):=by rw[List.length_take,List.length_drop,List.length_map];omega
     dsimp only
     simp only[Int.toNat_natCast]
     rw[yAT (decide_eq_true (by omega)),yAY (by omega) (by omega),hN]
     simp only[Nat.zero_add,List.length_map,e1,e2]
     rw[yB9 (by omega),yB9 (by omega),yDf (by omega),yCM (List.all_eq_true.2 fun r hr=>by obtain⟨b,_,rfl⟩:=List.mem_map.1 (List.mem_of_mem_take hr);rfl),yZE (by omega) (by decide),yB9 (by omega),yB9 (by omega),yDf (by omega),yCM (List.all_eq_true.2 fun r hr=>by obtain⟨b,_,rfl⟩:=List.mem_map.1 (List.mem_of_mem_drop (List.mem_of_mem_take hr));rfl),yHl rfl,yZE (by omega) (by decide)]
     rw[frM (by omega) hi,yWN (by omega) (by omega),yQP yAq (by omega) (by omega),yQP yAq (by omega) (by omega),List.take_of_length_le (l:=(Q.eraseIdx i).map hV) (by rw[List.length_map];omega),List.take_of_length_le (l:=s.map slV) (by rw[List.length_map];omega)]
     show(yAA (yDj L (tbl s H (Q.eraseIdx i))) _)=_
     rw[yUH hL hs (by omega),yAB]
     dsimp only
     rw[yJP (by rw[List.length_map]),yHt yAq (by rw[List.length_map]),yHt yAq (by rw[List.length_map])]
   | none=>rw[hf,hq] at hany;rcases hany with h | h <;> cases h
theorem xHR(hL:200000<L)(x:yAR)(a:Tb)(c:yAI)(hs:a.s.length<=1000)(hl:a.H.length+a.Q.length<=9000)(h0:0<=c.Kind)(h5:c.Kind<=5):yCu L x a.t c=some (a.ap6 x c).t:=by
 have hk:c.Kind<=2\/c.Kind=3\/c.Kind=4\/c.Kind=5:=by omega
 rcases hk with hk | hk | hk | hk
 ·rw[xJG hL x a c hs hl (by omega)]
  unfold Tb.ap6
  rw[show(c.Kind==3)=false from beq_eq_false_iff_ne.2 (by omega),show(c.Kind==4)=false from beq_eq_false_iff_ne.2 (by omega),show(c.Kind==5)=false from beq_eq_false_iff_ne.2 (by omega)]
  rfl
 ·unfold Tb.ap6
  rw[hk,yAT (show((3:Int)==3)=true from rfl)]
  have hfr:=fun h=>xKg hL a c.By c.Span hs hl c rfl rfl h
  have hn:=a.fre_n c
  have hfe:(a.H.findIdx? (yW8 c.By c.Span)).isSome=false->(a.Q.findIdx? (yW8 c.By c.Span)).isSome=false->a.fre c=a:=fun h1 h2=>by
   unfold Tb.fre
   rw[Option.isSome_eq_false_iff,Option.isNone_iff_eq_none] at h1 h2
   rw[h1,h2]
  have fin:∀b:Tb,b.s=a.s->b.H.length+b.Q.length<=a.H.length+a.Q.length->gF (b.s.map slV) (0+(b.s.map slV).length) (gF (b.H.map hV) (0+(b.H.map hV).length) (gF (b.Q.map hV) (0+(b.Q.map hV).length) (some (⟨(b.s.map slV).take (b.s.map slV).length,(b.H.map hV).take (b.H.map hV).length,(b.Q.map hV).take (b.Q.map hV).length⟩:yAF))))=some b.t:=fun b h1 h2=>
   ySd (by rw[h1];exact hs) (by omega) (List.length_map _)
  unfold yCu yHX Tb.t at*
  unfold tbl at*
  dsimp only at*
  rw[yOB hL hs rfl,yAB,yOB hL hs rfl,yAB]
  rw[hk,yAJ (show((3:Int)==0)=false from rfl),yAJ (show((3:Int)==1)=false from rfl),yAJ (show((3:Int)==2)=false from rfl),yAT (show((3:Int)==3)=true from rfl),xGQ hL (by omega),yAB]
  cases hf:a.H.findIdx? (yW8 c.By c.Span) with
  | some i=>
    show(bif decide (0<=(i:Int)) then _ else _)=_
    rw[yAT (decide_eq_true (by omega)),hfr (.inl (by rw[hf];rfl)),yAB]
    exact fin _ hn.2 hn.1
  | none=>
    dsimp only
    rw[yAJ (by decide),xGQ hL (by omega),yAB]
    cases hq:a.Q.findIdx? (yW8 c.By c.Span) with
    | some i=>
      show(bif decide (0<=(i:Int)) then _ else _)=_
      rw[yAT (decide_eq_true (by omega)),hfr (.inr (by rw[hq];rfl)),yAB]
      exact fin _ hn.2 hn.1
    | none=>
      dsimp only
      rw[yAJ (by decide),hfe (by rw[hf];rfl) (by rw[hq];rfl)]
 ·unfold Tb.ap6
  rw[hk,yAJ (show((4:Int)==3)=false from rfl),yAT (show((4:Int)==4)=true from rfl)]
  obtain⟨s,H,Q⟩:=a
  dsimp only at hs hl
  unfold yCu yHX Tb.t Tb.clm
  dsimp only
  rw[yOB hL hs rfl,yAB,yOB hL hs rfl,yAB]
  rw[hk,yAJ (show((4:Int)==0)=false from rfl),yAJ (show((4:Int)==1)=false from rfl),yAJ (show((4:Int)==2)=false from rfl),yAJ (show((4:Int)==3)=false from rfl),yAT (show((4:Int)==4)=true from rfl)]
  cases hm:(yDt s c.Dead).2 with
  | false=>rfl
  | true=>
    obtain⟨i,hi,he⟩:=yR7 hm
    have hset:=xLi hi c.By
    rw[cond_true,cond_true,he]
    dsimp only
    show(gI (s.map slV) yAK.ks (i:Int) (bif aI (s.map slV) (i:Int).toNat 1==c.Was then _ else _))=_
    rw[yTv yRr hi]
    simp only[Int.toNat_natCast]
    rw[sCl hi,yQ4 hi]
    cases s[i].2==c.Was with
    | false=>rfl
    | true=>
      rw[cond_true,cond_true]
      cases c.By !=c.Dead with
      | false=>rfl
      | true=>
        rw[yQ4 hi] at hset
        rw[cond_true,cond_true,copy_eq hs (by omega),yAB]
        dsimp only
        rw[yW9 (by omega) (by rw[List.length_map];omega),yB9 (by rw[List.length_map];omega),yDf (Nat.zero_le _),yDf (by rw[Nat.zero_add,yDN (yGO hi)];exact Nat.le_refl 2),hset]
        exact ySd (s:=s.set i (s[i].1,c.By)) (by rw[List.length_set];exact hs) (by omega) (by rw[List.length_map,List.length_set])
 ·unfold Tb.ap6
  rw[hk,yAJ (show((5:Int)==3)=false from rfl),yAJ (show((5:Int)==4)=false from rfl),yAT (show((5:Int)==5)=true from rfl)]
  obtain⟨s,H,Q⟩:=a
  dsimp only at hs hl
  unfold yCu yHX Tb.t Tb.pur
  dsimp only
  rw[yOB hL hs rfl,yAB,yOB hL hs rfl,yAB]
  rw[hk,yAJ (show((5:Int)==0)=false from rfl),yAJ (show((5:Int)==1)=false from rfl),yAJ (show((5:Int)==2)=false from rfl),yAJ (show((5:Int)==3)=false from rfl),yAJ (show((5:Int)==4)=false from rfl),yAT (show((5:Int)==5)=true from rfl)]
  cases hm:(yDt s c.Dead).2 with
  | false=>rfl
  | true=>
    obtain⟨i,hi,he⟩:=yR7 hm
    rw[cond_true,cond_true,he]
    dsimp only
    cases c.By !=0 with
    | false=>rfl
    | true=>
      rw[cond_true,cond_true]
      show(gI (s.map slV) yAK.ks (i:Int) (bif aI (s.map slV) (i:Int).toNat 1==c.By then _ else _))=_
      rw[yTv yRr hi]
      simp only[Int.toNat_natCast]
      rw[sCl hi,yQ4 hi]
      cases s[i].2==c.By with
      | false=>rfl
      | true=>
        rw[cond_true,cond_true,xDx hL hs (by omega) hi,yAB]
        dsimp only
        have:=yVE (s:=s) H Q i
        exact ySd (by rw[List.length_set];exact hs) (by omega) (List.length_map _)
end
end Go.Proofs.YtakljpcmbpaeaaaGreat

namespace Go.Proofs.YtakljpcmbpaeaaaGreat
set_option maxHeartbeats 4000000
open Go.RowKit
theorem le1{n:Nat}(h:n<256):leBytes 1 n= [UInt8.ofNat n]:=by
 show [UInt8.ofNat (n%256)]=_
 rw[Nat.mod_eq_of_lt h]
theorem u8n{n:Nat}(h:n<256):(UInt8.ofNat n).toNat=n:=by simp[Nat.mod_eq_of_lt h]
theorem wu8{n:Int}(h0:0<=n)(h:n<256):IntKind.u8.wrap n=n:=by
 unfold IntKind.wrap
 simp[IntKind.bits,IntKind.signed]
 omega
theorem xEH{k:Int}(h0:0<=k)(h:k<64): [[V.int .u8 (IntKind.u8.wrap k)]]=(leBytes 1 k.toNat).map byV:=by
 rw[le1 (by omega),wu8 h0 (by omega)]
 show _= [[V.int .u8 ((UInt8.ofNat k.toNat).toNat:Int)]]
 rw[u8n (by omega),Int.toNat_of_nonneg h0]
theorem xAN{L:Nat}(hL:10<L){c:yAI}(h:yQX c)(h2:c.Kind=2):yCE L c=some (mkS (yGL c),0,()):=by
 have hm:=yUG (L:=L) c
 rw[decide_eq_true h] at hm
 obtain⟨⟨g1,g2⟩,g3,g4,h5⟩:=h
 have q:0<=c.Span.Lo/\c.Span.Lo<=c.Span.Hi/\c.Span.Hi<64/\(c.Mode=1\/c.Mode=2):=by omega
 have p1:=yRI hL (w:=6) (wi:=6) (n:=c.By) (b:=leBytes 1 c.Kind.toNat) rfl (by omega) (by omega) (by omega) (by rw[yPU];omega) (by rw[yAD];omega)
 have p2:=yRI hL (w:=4) (wi:=4) (n:=c.Serial) (b:=leBytes 1 c.Kind.toNat++leBytes 6 c.By.toNat) rfl (by omega) (by omega) (by omega) (by rw[xC6];omega) (by simp only[List.length_append,yAD];omega)
 have z2:(c.Kind==2)=true:=by simpa using h2
 have fin:∀b:Bs,(bytesOf (b.map byV)).isSome=true:=fun b=>by rw[yOk];rfl
 have f1:∀{α:Type} (x:Option α),gF ((leBytes 1 c.Kind.toNat++leBytes 6 c.By.toNat).map byV) (((leBytes 1 c.Kind.toNat++leBytes 6 c.By.toNat).map byV).length) x=x:=fun x=>xKK (by simp only[List.length_append,yAD];omega)
 have tl: [[V.int .u8 (IntKind.u8.wrap c.Span.Lo)],[V.int .u8 (IntKind.u8.wrap c.Span.Hi)],[V.int .u8 (IntKind.u8.wrap c.Mode)]]=(yHz c).map byV:=by
  unfold yHz
  rw[if_pos h2,List.append_nil,List.map_append,List.map_append,←xEH (by omega) (by omega),←xEH (by omega) (by omega),←xEH (by omega) (by omega)]
  rfl
 have ct:(yHz c).length=3:=by unfold yHz;rw[if_pos h2];simp[yAD]
 have hl3:((leBytes 1 c.Kind.toNat++leBytes 6 c.By.toNat++leBytes 4 c.Serial.toNat).map byV).length+3=((leBytes 1 c.Kind.toNat++leBytes 6 c.By.toNat++leBytes 4 c.Serial.toNat++yHz c).map byV).length:=by
  simp only[List.length_map,List.length_append,ct]
 have hM:∀{α:Type} (x:Option α),gM (((leBytes 1 c.Kind.toNat++leBytes 6 c.By.toNat++leBytes 4 c.Serial.toNat).map byV).length+3) 1 x=x:=fun x=>xCG (by simp only[List.length_map,List.length_append,yAD];omega) (by simp only[List.length_map,List.length_append,yAD];omega)
 unfold yCE yHW
 simp only[Nat.zero_add,List.take_length,hm,yAB,Bool.not_true,cond_false,xAz (show 0<=c.Kind by omega) (show c.Kind<=5 by omega),p1,f1,p2,z2,cond_true,tl,←List.map_append]
 rw[yCM (Nat.beq_refl _),hM,hl3,yCM (yRx _),List.take_length,yCM (fin _),yHx]
 unfold yGL
 rw[List.append_assoc,List.append_assoc]
theorem xJL{L:Nat}(hL:10<L){c:yAI}(h:yQX c)(hk2:c.Kind=2):yCL L (mkS (yGL c))=some (c,0,()):=by
 have hb:=xAN hL h hk2
 have hlen:=yNz c
 have ct:(yHz c).length=3:=by unfold yHz;rw[if_pos hk2];simp[yAD]
 obtain⟨⟨h1,h2⟩,h3,h4,h5⟩:=h
 have q:0<=c.Span.Lo/\c.Span.Lo<=c.Span.Hi/\c.Span.Hi<64/\(c.Mode=1\/c.Mode=2)/\c.Dead=0/\c.Was=0:=by omega
 have hT:yHz c= [UInt8.ofNat c.Span.Lo.toNat,UInt8.ofNat c.Span.Hi.toNat,UInt8.ofNat c.Mode.toNat]:=by
  unfold yHz
  rw[if_pos hk2,le1 (by omega),le1 (by omega),le1 (by omega)];rfl
 have g1:yAv L (mkS (yGL c)) 1 6=some (c.By,0,()):=by
  rw[yNV hL (by omega)]
  unfold yGL
  rw[yJd (leBytes 1 c.Kind.toNat) (leBytes 4 c.Serial.toNat++yHz c) (w:=6) (n:=c.By) (a:=1) (wi:=6) (by rw[yAD];rfl) rfl (by omega) (by omega) (by omega) (by rw[yPU];omega)]
 have g2:yAv L (mkS (yGL c)) 7 4=some (c.Serial,0,()):=by
  rw[yNV hL (by omega)]
  unfold yGL
  rw[←List.append_assoc,yJd (leBytes 1 c.Kind.toNat++leBytes 6 c.By.toNat) (yHz c) (w:=4) (n:=c.Serial) (a:=7) (wi:=4) (by simp[yAD]) rfl (by omega) (by omega) (by omega) (by rw[xC6];omega)]
 have hh:((((mkS (yGL c))[0]?).getD 0).toNat:Int)=c.Kind:=yT0 (by omega) (by omega)
 have he:(mkS (yGL c)).extract 11 (mkS (yGL c)).size=mkS (yHz c):=by
  rw[yIe,yWW]
  refine congrArg mkS ?_
  unfold yGL
  rw[←List.append_assoc,←List.append_assoc,List.drop_left' (by simp only[List.length_append,yAD])]
 have s0:((mkS (yGL c)).size:Int)=14:=by rw[yOK,hlen,ct];rfl
 have b0:((((mkS (yHz c))[0]?).getD 0).toNat:Int)=c.Span.Lo:=by
  rw[hT];show((UInt8.ofNat c.Span.Lo.toNat).toNat:Int)=_;rw[u8n (by omega)];omega
 have b1:((((mkS (yHz c))[1]?).getD 0).toNat:Int)=c.Span.Hi:=by
  rw[hT];show((UInt8.ofNat c.Span.Hi.toNat).toNat:Int)=_;rw[u8n (by omega)];omega
 have b2:((((mkS (yHz c))[2]?).getD 0).toNat:Int)=c.Mode:=by
  rw[hT];show((UInt8.ofNat c.Mode.toNat).toNat:Int)=_;rw[u8n (by omega)];omega
 have st:((mkS (yHz c)).size:Int)=3:=by rw[yOK,ct];rfl
 have mo:IntKind.i8.wrap (IntKind.u8.wrap ((BitVec.ofInt IntKind.u8.bits c.Mode &&& BitVec.ofInt IntKind.u8.bits 127).toNat:Int))=c.Mode:=by
  rcases q.2.2.2.1 with e | e <;> rw[e] <;> rfl
 have z0:((0:Int) !=0)=false:=rfl
 obtain⟨kd,by_,ser,dd,ws,⟨lo,hi⟩,md⟩:=c
 dsimp only at*
 obtain⟨q1,q2,q3,q4,rfl,rfl⟩:=q
 subst hk2
 have w1:IntKind.i64.wrap lo=lo:=wrap64 (by omega) (by omega)
 have w2:IntKind.i64.wrap hi=hi:=wrap64 (by omega) (by omega)
 unfold yCL yFR
 simp only[gd,gI,gB,gL,gF,gW,gA,gM,w64,s0,st,show decide ((14:Int)<11)=false from rfl,show decide ((0:Int)<14)=true from rfl,show decide ((11:Int)<=14)=true from rfl,show decide ((3:Int)<2)=false from rfl,show decide ((0:Int)<3)=true from rfl,show decide ((1:Int)<3)=true from rfl,show decide ((2:Int)<3)=true from rfl,show((3:Int)==3)=true from rfl,
  cond_false,cond_true,g1,g2,yAB,z0,hh,show IntKind.i8.wrap 2=2 from rfl,show((2:Int)==2)=true from rfl,show decide (127<(2:Int))=false from rfl,he,b0,b1,b2,w1,w2,mo,hb]
 rw[beq_self_eq_true]
 rfl
theorem yYC{L:Nat}(hL:10<L){c:yAI}(h:yQX c)(hk:c.Kind=0\/c.Kind=1\/c.Kind=2):yCL L (mkS (yGL c))=some (c,0,()):=by
 by_cases h2:c.Kind=2
 ·exact xJL hL h h2
 ·exact xHU hL h (by omega)
end Go.Proofs.YtakljpcmbpaeaaaGreat

namespace Go.Proofs.YtakljpcmbpaeaaaGreat
open Go.RowKit
structure PSt where
 s:List ByteArray
 p:yAP
 t:yAF
 d:Int
structure PGeo (x:yAR) (N:Nat) (s:List ByteArray):Prop where
 may:(yB2 x).may=true
 n:x.Nodes=N
 ok:SecOk s
 len:(s.length:Int)=(yB2 x).total
theorem PGeo.bd{x:yAR}{N:Nat}{s:List ByteArray}(h:PGeo x N s):1<=N/\N<=16/\8<=x.Log/\x.Log<=512/\1<=x.Slots/\x.Slots<=16/\8*x.Slots<=x.Log/\1+2*(N:Int)+x.Log<=s.length:=by
 have hok:=Geo.may_ok h.may
 have n1:1<=x.Nodes:=hok.n1
 have n2:x.Nodes<=16:=hok.n2
 have s1:1<=x.Slots:=hok.s1
 have s2:x.Slots<=x.Nodes:=hok.s2
 have l1:8*x.Slots<=x.Log:=hok.l1
 have l2:x.Log<=512:=hok.l2
 have hn:=h.n
 have ht:=yUq hok
 have hs:=hok.sj
 have e:(yB2 x).atD=1+2*x.Nodes+x.Log+(yB2 x).slots*(1+(yB2 x).journal):=rfl
 have hl:=h.len
 omega
section
variable {L:Nat} [yOD L] {x:yAR} {N:Nat} {a:PSt} {own:yAI} {c:yAI} {t':yAF} {r:yCn}
end
section
variable {L N:Nat} [yOD L] {x:yAR}
end
section
variable {L N:Nat} [yOD L] {x:yAR} {s:List ByteArray} {t:yAF} {d:Int} {n:Nat} {R:Nat->yCn} {cmd:ByteArray} {own:yAI} {r:yCn}
end
theorem yUY(l:List yAI):yCF (l.map yAI.cs)=true:=List.all_eq_true.2 fun r hr=>by
 obtain⟨a,_,rfl⟩:=List.mem_map.1 hr
 rfl
theorem xMV{L:Nat}[yOD L]{c:yAI}(h:yCL L (mkS (yGL c))=some (c,0,())):yF2 L (yXG c)=some (c,mkS (yGL c),true,0,()):=by
 have hp:=xGV c
 have hl:=xBv c
 have hO:yN9 L 5 (yXG c)=some (mkS (yGL c),0,()):=by
  obtain⟨x,h1,h2,h3⟩:=xGU c
  rw[xLe hL3]
  unfold yXG
  rw[h2,yWW,xBD (by omega) h1]
 unfold yF2 yOA
 rw[xLV hp,cond_false,hO,yAB]
 dsimp only
 rw[show((0:Int) !=0)=false from rfl,cond_false,h,yAB]
 rfl
theorem xHQ{L:Nat}[yOD L]:yF2 L noS=some (yAI.z,noS,false,0,()):=by
 unfold yF2 yOA
 rw[beq_self_eq_true];rfl
set_option maxHeartbeats 1000000 in
theorem xNo{L:Nat}[yOD L]{l:List ByteArray}{cs:List yAI}(hL:200000<L)(hl:l.length<=1000)(hc:cs.length<=l.length)(hat:∀i (h:i<cs.length) (h':i<l.length),l[i]=yXG cs[i])(hend:∀h:cs.length<l.length,l[cs.length]=noS)
  (hR:∀c∈cs,yCL L (mkS (yGL c))=some (c,0,())):yRl L (l.map txV)=some (cs.map yAI.cs,0,()):=by
 have H:=yNQ (α:=List (List V)×Int×Unit) (F:=yFT (yF2 L)) (fun s=>∃j:Nat,j<=cs.length/\s.1=l.map txV/\s.2.1=(cs.take j).map yAI.cs/\s.2.2.1=j) (fun s=>l.length-s.2.2.1.toNat) (fun a=>a.1=cs.map yAI.cs) (fun b=>b.1=cs.map yAI.cs/\b.2.1=0) (fun s hs=>by
  obtain⟨s1,s2,s3,s4⟩:=s
  obtain⟨j,hj,rfl,rfl,rfl⟩:=hs
  have hlt:(cs.take j).length=j:=by rw[List.length_take];omega
  by_cases h1:j<cs.length
  ·have hjl:j<l.length:=by omega
   refine .inl ⟨(l.map txV,(cs.take (j+1)).map yAI.cs,((j+1:Nat):Int),()),⟨j+1,h1,rfl,rfl,rfl⟩,by dsimp only;omega,fun kn ka kb=>?_⟩
   have hrd:=xMV (hR _ (List.getElem_mem h1))
   unfold yFT
   dsimp only
   rw[yAT (decide_eq_true (by rw[List.length_map];omega)),xG5 (by omega) (by omega),Int.toNat_natCast,xER hjl,hat j h1 hjl,hrd,yAB,show((0:Int) !=0)=false from rfl,cond_false,Bool.not_true,cond_false]
   have e:(cs.take j).map yAI.cs++ [yAI.cs cs[j]]=(cs.take (j+1)).map yAI.cs:=by rw[List.take_succ_eq_append_getElem h1,List.map_append];rfl
   have e':(cs.take j).map yAI.cs++ [[V.int .i8 cs[j].Kind,V.int .i64 cs[j].By,V.int .i64 cs[j].Serial,V.int .i64 cs[j].Dead,V.int .i64 cs[j].Was,V.int .i64 cs[j].Span.Lo,V.int .i64 cs[j].Span.Hi,V.int .i8 cs[j].Mode]]=(cs.take (j+1)).map yAI.cs:=e
   have hl2:((cs.take (j+1)).map yAI.cs).length=j+1:=by rw[List.length_map,List.length_take];omega
   rw[e',List.length_map,hlt,Nat.zero_add,yCM (Nat.beq_refl _),xCG (by omega) (by omega),xM4 hl2.symm (by omega) (yUY _),yAY (by omega) (by omega)]
   rfl
  ·obtain rfl:j=cs.length:=by omega
   rw[List.take_length]
   by_cases h2:cs.length<l.length
   ·refine .inr (.inr ⟨(cs.map yAI.cs,0,()),⟨rfl,rfl⟩,fun kn ka kb=>?_⟩)
    unfold yFT
    dsimp only
    rw[yAT (decide_eq_true (by rw[List.length_map];omega)),xG5 (by omega) (by omega),Int.toNat_natCast,xER h2,hend h2,xHQ,yAB,show((0:Int) !=0)=false from rfl,cond_false,Bool.not_false,cond_true,List.length_map,Nat.zero_add,ySB (by rw[List.length_map];omega) (by omega) (yUY _)]
    rw[show(cs.map yAI.cs).take cs.length=cs.map yAI.cs from List.take_of_length_le (by rw[List.length_map];exact Nat.le_refl _)]
   ·refine .inr (.inl ⟨(cs.map yAI.cs,()),rfl,fun kn ka kb=>?_⟩)
    unfold yFT
    dsimp only
    rw[yAJ (decide_eq_false (by rw[List.length_map];omega)),xM4 rfl (by rw[List.length_map];omega) (yUY _)]) L (l.map txV,[],0,()) ⟨0,Nat.zero_le _,rfl,rfl,rfl⟩ (by dsimp only;omega)
 unfold yRl yTG
 rcases H with ⟨a,h1,h2⟩ | ⟨b,⟨h1,h3⟩,h2⟩
 ·rw[h2,h1,List.length_map,Nat.zero_add,ySB (by rw[List.length_map];omega) (by omega) (yUY _)]
  rw[show(cs.map yAI.cs).take cs.length=cs.map yAI.cs from List.take_of_length_le (by rw[List.length_map];exact Nat.le_refl _)]
 ·rw[h2,h1,h3]
def xN9(v:ByteArray):yAI:=match yCN 11 v with | some r=>r.1 | none=>yAI.z
theorem xIS{c:yAI}(h:yQX c):xN9 (mkS (yGL c))=c:=by
 unfold xN9
 rw[xCV (by decide) h]
def xLY(v:ByteArray):Int:=(xN9 v).By%16
def xNv(v:ByteArray):Int:=(xN9 v).Serial
structure GoodC (N:Nat) (c:yAI):Prop where
 may:yQX c
 kind:c.Kind=0\/c.Kind=1\/c.Kind=2
 by_:∃j:Nat,j<N/\c.By=17*(j:Int)+16
theorem GoodC.node{N:Nat}(hN:N<=16){c:yAI}(hc:GoodC N c){j:Nat}(h:c.By=17*(j:Int)+16)(hj:j<N):xLY (mkS (yGL c))=j:=by
 unfold xLY
 rw[xIS hc.may,h];omega
theorem GoodC.ser{N:Nat}{c:yAI}(hc:GoodC N c):xNv (mkS (yGL c))=c.Serial:=by
 unfold xNv
 rw[xIS hc.may]
def bhT(x:yAR)(cs:List yAI):Tb:=cs.foldl (Tb.ap x) ⟨List.replicate x.Slots.toNat (0,0),[],[]⟩
section
variable {L:Nat} [yOD L] {x:yAR}
theorem xNb(h0:0<=x.Slots)(h16:x.Slots<=16):yRe L x=some (bhT x []).t:=by
 have hL:200000<L:=yOD.h
 have nm:∀n:Nat,yCF (List.replicate n (slV (0,0)))=true:=fun n=>by
  have:=yUZ (List.replicate n (0,0))
  rwa [List.map_replicate] at this
 obtain⟨s,hs⟩:=Int.eq_ofNat_of_zero_le h0
 obtain⟨a,ha,hrun⟩:=yJg (α:=yAF) (F:=yLx) (fun q=>x=q.1/\∃j:Nat,j<=s/\(j:Int)=q.2.2.2.1/\(List.replicate j (slV (0,0)),([]:List (List V)),([]:List (List V)),())=q.2.2.1) (fun q=>s-q.2.2.2.1.toNat) (fun a=>a.2.1=(List.replicate s (slV (0,0)),[],[],())) (fun q hq=>by
  obtain⟨q1,q2,q3,q4,q5⟩:=q
  obtain⟨rfl,j,hj,rfl,rfl⟩:=hq
  by_cases hlt:j<s
  ·refine .inl ⟨(x,q2,(List.replicate (j+1) (slV (0,0)),[],[],()),((j+1:Nat):Int),()),⟨rfl,j+1,hlt,rfl,rfl⟩,by dsimp only;omega,fun kn ka=>?_⟩
   have e:List.replicate j (slV (0,0))++ [[V.int .i64 0,V.int .i64 0]]=List.replicate (j+1) (slV (0,0)):=by rw[List.replicate_succ'];rfl
   show(bif decide ((j:Int)<x.Slots) then _ else _)=_
   rw[yAT (decide_eq_true (by omega))]
   show(bif decide ((j:Int)<16) then _ else _)=_
   rw[yAT (decide_eq_true (by omega))]
   simp only[gd,gI,gB,gL,gF,gW,gA,gM,List.length_replicate,e,nm,cond_true,Nat.zero_add,Nat.beq_refl,show decide ((j+1)*16<=140737488355328)=true from decide_eq_true (by omega),show decide (j+1<=9223372036854775807)=true from decide_eq_true (by omega),show Nat.ble (j+1) 2000000=true from Nat.ble_eq_true_of_le (by omega)]
   rw[yAY (by omega) (by omega)]
   rfl
  ·obtain rfl:j=s:=by omega
   refine .inr ⟨(q2,(List.replicate j (slV (0,0)),[],[],()),()),rfl,fun kn ka=>?_⟩
   show(bif decide ((j:Int)<x.Slots) then _ else _)=_
   rw[yAJ (decide_eq_false (by omega))]
   simp only[gd,gI,gB,gL,gF,gW,gA,gM,List.length_replicate,nm,cond_true,Nat.beq_refl,show Nat.ble j 2000000=true from Nat.ble_eq_true_of_le (by omega)]) L (x,yAF.z,([],[],[],()),0,()) ⟨rfl,0,Nat.zero_le _,rfl,rfl⟩ (by dsimp only;omega)
 unfold yRe yTC
 rw[hrun]
 obtain⟨a1,a2,a3⟩:=a
 dsimp only at ha
 subst ha
 simp only[gd,gI,gB,gL,gF,gW,gA,gM,List.length_replicate,nm,cond_true,Nat.zero_add,show Nat.ble s s=true from Nat.ble_eq_true_of_le (Nat.le_refl _),show Nat.ble s 2000000=true from Nat.ble_eq_true_of_le (by omega)]
 unfold bhT Tb.t tbl
 rw[hs]
 dsimp only[List.foldl]
 rw[Int.toNat_natCast,List.map_replicate,List.take_of_length_le (by rw[List.length_replicate];exact Nat.le_refl _)]
 rfl
end
end Go.Proofs.YtakljpcmbpaeaaaGreat

namespace Go.Proofs.YtakljpcmbpaeaaaGreat
set_option maxHeartbeats 4000000
open Go.RowKit
theorem yYB{L:Nat}(hL:10<L){c:yAI}(h:yQX c)(h3:c.Kind=3):yCE L c=some (mkS (yGL c),0,()):=by
 have hm:=yUG (L:=L) c
 rw[decide_eq_true h] at hm
 obtain⟨⟨g1,g2⟩,g3,g4,h5⟩:=h
 have q:0<=c.Span.Lo/\c.Span.Lo<=c.Span.Hi/\c.Span.Hi<64:=by omega
 have p1:=yRI hL (w:=6) (wi:=6) (n:=c.By) (b:=leBytes 1 c.Kind.toNat) rfl (by omega) (by omega) (by omega) (by rw[yPU];omega) (by rw[yAD];omega)
 have p2:=yRI hL (w:=4) (wi:=4) (n:=c.Serial) (b:=leBytes 1 c.Kind.toNat++leBytes 6 c.By.toNat) rfl (by omega) (by omega) (by omega) (by rw[xC6];omega) (by simp only[List.length_append,yAD];omega)
 have z2:(c.Kind==2)=false:=beq_eq_false_iff_ne.2 (by omega)
 have z3:(c.Kind==3)=true:=by simpa using h3
 have fin:∀b:Bs,(bytesOf (b.map byV)).isSome=true:=fun b=>by rw[yOk];rfl
 have f1:∀{α:Type} (x:Option α),gF ((leBytes 1 c.Kind.toNat++leBytes 6 c.By.toNat).map byV) (((leBytes 1 c.Kind.toNat++leBytes 6 c.By.toNat).map byV).length) x=x:=fun x=>xKK (by simp only[List.length_append,yAD];omega)
 have tl: [[V.int .u8 (IntKind.u8.wrap c.Span.Lo)],[V.int .u8 (IntKind.u8.wrap c.Span.Hi)]]=(yHz c).map byV:=by
  unfold yHz
  rw[if_neg (by omega),if_pos h3,List.append_nil,List.map_append,←xEH (by omega) (by omega),←xEH (by omega) (by omega)]
  rfl
 have ct:(yHz c).length=2:=by unfold yHz;rw[if_neg (by omega),if_pos h3];simp[yAD]
 have hl3:((leBytes 1 c.Kind.toNat++leBytes 6 c.By.toNat++leBytes 4 c.Serial.toNat).map byV).length+2=((leBytes 1 c.Kind.toNat++leBytes 6 c.By.toNat++leBytes 4 c.Serial.toNat++yHz c).map byV).length:=by
  simp only[List.length_map,List.length_append,ct]
 have hM:∀{α:Type} (x:Option α),gM (((leBytes 1 c.Kind.toNat++leBytes 6 c.By.toNat++leBytes 4 c.Serial.toNat).map byV).length+2) 1 x=x:=fun x=>xCG (by simp only[List.length_map,List.length_append,yAD];omega) (by simp only[List.length_map,List.length_append,yAD];omega)
 unfold yCE yHW
 simp only[Nat.zero_add,List.take_length,hm,yAB,Bool.not_true,cond_false,xAz (show 0<=c.Kind by omega) (show c.Kind<=5 by omega),p1,f1,p2,z2,z3,cond_true,tl,←List.map_append]
 rw[yCM (Nat.beq_refl _),hM,hl3,yCM (yRx _),List.take_length,yCM (fin _),yHx]
 unfold yGL
 rw[List.append_assoc,List.append_assoc]
theorem xAM{L:Nat}(hL:10<L){c:yAI}(h:yQX c):yCE L c=some (mkS (yGL c),0,()):=by
 by_cases h2:c.Kind=2
 ·exact xAN hL h h2
 ·by_cases h3:c.Kind=3
  ·exact yYB hL h h3
  ·exact xAO hL h h2 h3
theorem xJH{L:Nat}{c:yAI}(h:¬yQX c):yCE L c=some (noS,2,()):=by
 have hm:=yUG (L:=L) c
 rw[decide_eq_false h] at hm
 unfold yCE yHW
 rw[hm,yAB];rfl
theorem xHV{L:Nat}(hL:10<L){c:yAI}(h:yQX c)(hk3:c.Kind=3):yCL L (mkS (yGL c))=some (c,0,()):=by
 have hb:=yYB hL h hk3
 have hlen:=yNz c
 have ct:(yHz c).length=2:=by unfold yHz;rw[if_neg (by omega),if_pos hk3];simp[yAD]
 obtain⟨⟨h1,h2⟩,h3,h4,h5⟩:=h
 have q:0<=c.Span.Lo/\c.Span.Lo<=c.Span.Hi/\c.Span.Hi<64/\c.Mode=0/\c.Dead=0/\c.Was=0:=by omega
 have hT:yHz c= [UInt8.ofNat c.Span.Lo.toNat,UInt8.ofNat c.Span.Hi.toNat]:=by
  unfold yHz
  rw[if_neg (by omega),if_pos hk3,le1 (by omega),le1 (by omega)];rfl
 have g1:yAv L (mkS (yGL c)) 1 6=some (c.By,0,()):=by
  rw[yNV hL (by omega)]
  unfold yGL
  rw[yJd (leBytes 1 c.Kind.toNat) (leBytes 4 c.Serial.toNat++yHz c) (w:=6) (n:=c.By) (a:=1) (wi:=6) (by rw[yAD];rfl) rfl (by omega) (by omega) (by omega) (by rw[yPU];omega)]
 have g2:yAv L (mkS (yGL c)) 7 4=some (c.Serial,0,()):=by
  rw[yNV hL (by omega)]
  unfold yGL
  rw[←List.append_assoc,yJd (leBytes 1 c.Kind.toNat++leBytes 6 c.By.toNat) (yHz c) (w:=4) (n:=c.Serial) (a:=7) (wi:=4) (by simp[yAD]) rfl (by omega) (by omega) (by omega) (by rw[xC6];omega)]
 have hh:((((mkS (yGL c))[0]?).getD 0).toNat:Int)=c.Kind:=yT0 (by omega) (by omega)
 have he:(mkS (yGL c)).extract 11 (mkS (yGL c)).size=mkS (yHz c):=by
  rw[yIe,yWW]
  refine congrArg mkS ?_
  unfold yGL
  rw[←List.append_assoc,←List.append_assoc,List.drop_left' (by simp only[List.length_append,yAD])]
 have s0:((mkS (yGL c)).size:Int)=13:=by rw[yOK,hlen,ct];rfl
 have b0:((((mkS (yHz c))[0]?).getD 0).toNat:Int)=c.Span.Lo:=by
  rw[hT];show((UInt8.ofNat c.Span.Lo.toNat).toNat:Int)=_;rw[u8n (by omega)];omega
 have b1:((((mkS (yHz c))[1]?).getD 0).toNat:Int)=c.Span.Hi:=by
  rw[hT];show((UInt8.ofNat c.Span.Hi.toNat).toNat:Int)=_;rw[u8n (by omega)];omega
 have st:((mkS (yHz c)).size:Int)=2:=by rw[yOK,ct];rfl
 have z0:((0:Int) !=0)=false:=rfl
 obtain⟨kd,by_,ser,dd,ws,⟨lo,hi⟩,md⟩:=c
 dsimp only at*
 obtain⟨q1,q2,q3,rfl,rfl,rfl⟩:=q
 subst hk3
 have w1:IntKind.i64.wrap lo=lo:=wrap64 (by omega) (by omega)
 have w2:IntKind.i64.wrap hi=hi:=wrap64 (by omega) (by omega)
 unfold yCL yFR
 simp only[gd,gI,gB,gL,gF,gW,gA,gM,w64,s0,st,show decide ((13:Int)<11)=false from rfl,show decide ((0:Int)<13)=true from rfl,show decide ((11:Int)<=13)=true from rfl,show decide ((2:Int)<2)=false from rfl,show decide ((0:Int)<2)=true from rfl,show decide ((1:Int)<2)=true from rfl,
  cond_false,cond_true,g1,g2,yAB,z0,hh,show IntKind.i8.wrap 3=3 from rfl,show((3:Int)==2)=false from rfl,show((3:Int)==3)=true from rfl,show decide (127<(3:Int))=false from rfl,he,b0,b1,w1,w2,hb]
 rw[beq_self_eq_true]
 rfl
theorem xBp{L m:Nat}{s:ByteArray}{at_ n:Int}{out:List Int}(hlt:at_<s.size)(h0:0<=at_)(h1:at_<=1000000)(ho:out.length<=1000)(hG:yAv L s at_ 6=some (n,0,())){α:Type}(ka:yH3->Option α)(kb):
  yAQ (yCD (yAv L)) (m+1) (s,6,out.map inV,at_,()) ka kb=yAQ (yCD (yAv L)) m (s,6,(out++ [n]).map inV,at_+6,()) ka kb:=by
 have e:out.map inV++ [[V.int .i64 n]]=(out++ [n]).map inV:=by rw[List.map_append];rfl
 have hl2:((out++ [n]).map inV).length=(out.map inV).length+1:=by simp
 show yCD (yAv L) (s,6,out.map inV,at_,()) (fun s'=>yAQ _ m s' ka kb) ka kb=_
 unfold yCD
 dsimp only
 rw[yAT (decide_eq_true hlt),hG,yAB,show((0:Int) !=0)=false from rfl,cond_false,yCM (by rw[Nat.zero_add];exact Nat.beq_refl _),xCG (by rw[List.length_map];omega) (by rw[List.length_map];omega),e,xM4 hl2.symm (by rw[List.length_map];omega) (yKI _),yAY (by omega) (by omega)]
theorem xJR{L m:Nat}{s:ByteArray}{at_:Int}{out:List Int}(hge:¬at_<s.size)(ho:out.length<=1000){α:Type}(ka:yH3->Option α)(kb):
  yAQ (yCD (yAv L)) (m+1) (s,6,out.map inV,at_,()) ka kb=ka (out.map inV,()):=by
 show yCD (yAv L) (s,6,out.map inV,at_,()) (fun s'=>yAQ _ m s' ka kb) ka kb=_
 unfold yCD
 dsimp only
 rw[yAJ (decide_eq_false hge),xM4 rfl (by rw[List.length_map];omega) (yKI _)]
theorem xKe{L:Nat}(hL:10<L){d w:Int}(d0:0<=d)(d1:d<=1099511627776)(w0:0<=w)(w1:w<=1099511627776):yNW L (mkS (leBytes 6 d.toNat++(leBytes 6 w.toNat++ []))) 6=some ([[V.int .i64 d],[V.int .i64 w]],0,()):=by
 have hsz:((mkS (leBytes 6 d.toNat++(leBytes 6 w.toNat++ []))).size:Int)=12:=by rw[yOK];simp[yAD]
 have G1:yAv L (mkS (leBytes 6 d.toNat++(leBytes 6 w.toNat++ []))) 0 6=some (d,0,()):=by
  rw[yNV hL (by simp[yAD])]
  have:=yJd [] (leBytes 6 w.toNat++ []) (w:=6) (n:=d) (a:=0) (wi:=6) rfl rfl (by omega) (by omega) d0 (by rw[yPU];omega)
  rw[List.nil_append] at this
  rw[this]
 have G2:yAv L (mkS (leBytes 6 d.toNat++(leBytes 6 w.toNat++ []))) 6 6=some (w,0,()):=by
  rw[yNV hL (by simp[yAD]),yJd (leBytes 6 d.toNat) [] (w:=6) (n:=w) (a:=6) (wi:=6) (by rw[yAD];rfl) rfl (by omega) (by omega) w0 (by rw[yPU];omega)]
 unfold yNW yPa
 rw[yXy hL,if_pos ⟨by omega,by omega⟩,yAB,yAJ (decide_eq_false (by omega))]
 obtain⟨m,hm⟩:∃m,L=m+1+1+1:=⟨L-3,by omega⟩
 have e1:=xBp (L:=L) (m:=m+1+1) (out:= []) (at_:=0) (s:=mkS (leBytes 6 d.toNat++(leBytes 6 w.toNat++ []))) (by omega) (by omega) (by omega) (by simp) G1 (α:=List (List V)×Int×Unit)
 have e2:=xBp (L:=L) (m:=m+1) (out:= [d]) (at_:=6) (s:=mkS (leBytes 6 d.toNat++(leBytes 6 w.toNat++ []))) (by omega) (by omega) (by omega) (by simp) G2 (α:=List (List V)×Int×Unit)
 have e3:=xJR (L:=L) (m:=m) (out:= [d,w]) (at_:=12) (s:=mkS (leBytes 6 d.toNat++(leBytes 6 w.toNat++ []))) (by omega) (by simp) (α:=List (List V)×Int×Unit)
 rw[show yAQ (α:=List (List V)×Int×Unit) (yCD (yAv L)) L=yAQ (yCD (yAv L)) (m+1+1+1) by rw[←hm]]
 refine(e1 _ _).trans ((e2 _ _).trans ((e3 _ _).trans ?_))
 dsimp only
 rw[ySB (by simp) (by simp) (yKI _),List.take_length]
 rfl
theorem xKd{L:Nat}(hL:10<L){d:Int}(d0:0<=d)(d1:d<=1099511627776):yNW L (mkS (leBytes 6 d.toNat++ [])) 6=some ([[V.int .i64 d]],0,()):=by
 have hsz:((mkS (leBytes 6 d.toNat++ [])).size:Int)=6:=by rw[yOK];simp[yAD]
 have G1:yAv L (mkS (leBytes 6 d.toNat++ [])) 0 6=some (d,0,()):=by
  rw[yNV hL (by simp[yAD])]
  have:=yJd [] [] (w:=6) (n:=d) (a:=0) (wi:=6) rfl rfl (by omega) (by omega) d0 (by rw[yPU];omega)
  rw[List.nil_append] at this
  rw[this]
 unfold yNW yPa
 rw[yXy hL,if_pos ⟨by omega,by omega⟩,yAB,yAJ (decide_eq_false (by omega))]
 obtain⟨m,hm⟩:∃m,L=m+1+1:=⟨L-2,by omega⟩
 have e1:=xBp (L:=L) (m:=m+1) (out:= []) (at_:=0) (s:=mkS (leBytes 6 d.toNat++ [])) (by omega) (by omega) (by omega) (by simp) G1 (α:=List (List V)×Int×Unit)
 have e3:=xJR (L:=L) (m:=m) (out:= [d]) (at_:=6) (s:=mkS (leBytes 6 d.toNat++ [])) (by omega) (by simp) (α:=List (List V)×Int×Unit)
 rw[show yAQ (α:=List (List V)×Int×Unit) (yCD (yAv L)) L=yAQ (yCD (yAv L)) (m+1+1) by rw[←hm]]
 refine(e1 _ _).trans ((e3 _ _).trans ?_)
 dsimp only
 rw[ySB (by simp) (by simp) (yKI _),List.take_length]
 rfl
theorem xGP{L:Nat}(hL:10<L){c:yAI}(h:yQX c)(hk:c.Kind=4\/c.Kind=5):yCL L (mkS (yGL c))=some (c,0,()):=by
 have hb:=xAM hL h
 have hlen:=yNz c
 have hct:=yR0 c
 obtain⟨⟨h1,h2⟩,h3,h4,h5⟩:=h
 have g1:yAv L (mkS (yGL c)) 1 6=some (c.By,0,()):=by
  rw[yNV hL (by omega)]
  unfold yGL
  rw[yJd (leBytes 1 c.Kind.toNat) (leBytes 4 c.Serial.toNat++yHz c) (w:=6) (n:=c.By) (a:=1) (wi:=6) (by rw[yAD];rfl) rfl (by omega) (by omega) (by omega) (by rw[yPU];omega)]
 have g2:yAv L (mkS (yGL c)) 7 4=some (c.Serial,0,()):=by
  rw[yNV hL (by omega)]
  unfold yGL
  rw[←List.append_assoc,yJd (leBytes 1 c.Kind.toNat++leBytes 6 c.By.toNat) (yHz c) (w:=4) (n:=c.Serial) (a:=7) (wi:=4) (by simp[yAD]) rfl (by omega) (by omega) (by omega) (by rw[xC6];omega)]
 have hh:((((mkS (yGL c))[0]?).getD 0).toNat:Int)=c.Kind:=yT0 (by omega) (by omega)
 have he:(mkS (yGL c)).extract 11 (mkS (yGL c)).size=mkS (yHz c):=by
  rw[yIe,yWW]
  refine congrArg mkS ?_
  unfold yGL
  rw[←List.append_assoc,←List.append_assoc,List.drop_left' (by simp only[List.length_append,yAD])]
 have s0:((mkS (yGL c)).size:Int)=11+(yHz c).length:=by rw[yOK,hlen];omega
 have t1:decide (((mkS (yGL c)).size:Int)<11)=false:=decide_eq_false (by omega)
 have t2:decide (0<((mkS (yGL c)).size:Int))=true:=decide_eq_true (by omega)
 have t3:decide (11<=((mkS (yGL c)).size:Int))=true:=decide_eq_true (by omega)
 have z0:((0:Int) !=0)=false:=rfl
 rcases hk with hk | hk
 ·have hr:=xKe hL (d:=c.Dead) (w:=c.Was) (by unfold xCy at h5;omega) (by unfold xCy at h5;omega) (by unfold xCy at h5;omega) (by unfold xCy at h5;omega)
  have hT:yHz c=leBytes 6 c.Dead.toNat++(leBytes 6 c.Was.toNat++ []):=by unfold yHz;rw[if_neg (by omega),if_neg (by omega),if_pos hk]
  rw[←hT] at hr
  have q:c.Span.Lo=0/\c.Span.Hi=0/\c.Mode=0:=by omega
  obtain⟨kd,by_,ser,dd,ws,⟨lo,hi⟩,md⟩:=c
  dsimp only at*
  obtain⟨rfl,rfl,rfl⟩:=q
  subst hk
  unfold yCL yFR
  simp only[gd,gI,gB,gL,gF,gW,gA,gM,w64,t1,t2,t3,cond_false,cond_true,g1,g2,yAB,z0,hh,show IntKind.i8.wrap 4=4 from rfl,show((4:Int)==2)=false from rfl,show((4:Int)==3)=false from rfl,show((4:Int)==4)=true from rfl,show decide (127<(4:Int))=false from rfl,he,hr,
   show(([[V.int .i64 dd],[V.int .i64 ws]]:List (List V)).length:Int)=2 from rfl,show decide ((2:Int)<1)=false from rfl,show decide ((0:Int)<2)=true from rfl,show decide ((1:Int)<2)=true from rfl,show((2:Int)==2)=true from rfl,show rowIs kI [[V.int .i64 dd],[V.int .i64 ws]] 0=true from rfl,show rowIs kI [[V.int .i64 dd],[V.int .i64 ws]] 1=true from rfl,
   show aI [[V.int .i64 dd],[V.int .i64 ws]] 0 0=dd from rfl,show aI [[V.int .i64 dd],[V.int .i64 ws]] 1 0=ws from rfl]
  rw[show yAK.z=(⟨0,0⟩:yAK) from rfl,hb]
  simp only[yAB,z0,cond_false]
  rw[beq_self_eq_true]
  rfl
 ·have hr:=xKd hL (d:=c.Dead) (by unfold xCy at h5;omega) (by unfold xCy at h5;omega)
  have hT:yHz c=leBytes 6 c.Dead.toNat++ []:=by unfold yHz;rw[if_neg (by omega),if_neg (by omega),if_neg (by omega),if_pos hk]
  rw[←hT] at hr
  have q:c.Span.Lo=0/\c.Span.Hi=0/\c.Mode=0/\c.Was=0:=by omega
  obtain⟨kd,by_,ser,dd,ws,⟨lo,hi⟩,md⟩:=c
  dsimp only at*
  obtain⟨rfl,rfl,rfl,rfl⟩:=q
  subst hk
  unfold yCL yFR
  simp only[gd,gI,gB,gL,gF,gW,gA,gM,w64,t1,t2,t3,cond_false,cond_true,g1,g2,yAB,z0,hh,show IntKind.i8.wrap 5=5 from rfl,show((5:Int)==2)=false from rfl,show((5:Int)==3)=false from rfl,show((5:Int)==4)=false from rfl,show((5:Int)==5)=true from rfl,show decide (127<(5:Int))=false from rfl,he,hr,
   show(([[V.int .i64 dd]]:List (List V)).length:Int)=1 from rfl,show decide ((1:Int)<1)=false from rfl,show decide ((0:Int)<1)=true from rfl,show((1:Int)==2)=false from rfl,show rowIs kI [[V.int .i64 dd]] 0=true from rfl,show aI [[V.int .i64 dd]] 0 0=dd from rfl]
  rw[show yAK.z=(⟨0,0⟩:yAK) from rfl,hb]
  simp only[yAB,z0,cond_false]
  rw[beq_self_eq_true]
  rfl
theorem xDO{L:Nat}(hL:10<L){c:yAI}(h:yQX c):yCL L (mkS (yGL c))=some (c,0,()):=by
 have hk:c.Kind=0\/c.Kind=1\/c.Kind=2\/c.Kind=3\/c.Kind=4\/c.Kind=5:=by
  obtain⟨-,-,-,h5⟩:=h
  omega
 rcases hk with e | e | e | e | e | e
 ·exact yYC hL h (.inl e)
 ·exact yYC hL h (.inr (.inl e))
 ·exact yYC hL h (.inr (.inr e))
 ·exact xHV hL h e
 ·exact xGP hL h (.inl e)
 ·exact xGP hL h (.inr e)
end Go.Proofs.YtakljpcmbpaeaaaGreat

namespace Go.Proofs.YtakljpcmbpaeaaaGreat
open Go.RowKit
def bh6(x:yAR)(cs:List yAI):Tb:=cs.foldl (Tb.ap6 x) ⟨List.replicate x.Slots.toNat (0,0),[],[]⟩
theorem xOH(x:yAR)(cs:List yAI)(a:Tb):(cs.foldl (Tb.ap6 x) a).s.length=a.s.length/\(cs.foldl (Tb.ap6 x) a).H.length+(cs.foldl (Tb.ap6 x) a).Q.length<=a.H.length+a.Q.length+cs.length:=by
 induction cs generalizing a with
 | nil=>exact⟨rfl,Nat.le_refl _⟩
 | cons c cs ih=>
   rw[List.foldl_cons,List.length_cons]
   have h1:=ih (a.ap6 x c)
   have h2:=Tb.ap6_n x a c
   exact⟨h1.1.trans h2.2,by omega⟩
theorem xGo(x:yAR)(cs:List yAI):(bh6 x cs).s.length=x.Slots.toNat/\(bh6 x cs).H.length+(bh6 x cs).Q.length<=cs.length:=by
 have:=xOH x cs ⟨List.replicate x.Slots.toNat (0,0),[],[]⟩
 simp only[List.length_nil,Nat.zero_add,List.length_replicate] at this
 exact this
theorem xF2{x:yAR}{cs:List yAI}{k:Nat}(h:k<cs.length):bh6 x (cs.take (k+1))=(bh6 x (cs.take k)).ap6 x cs[k]:=by
 rw[List.take_succ_eq_append_getElem h]
 unfold bh6
 rw[List.foldl_append];rfl
theorem xLx(x:yAR):bh6 x []=bhT x []:=rfl
theorem yQX.kind{c:yAI}(h:yQX c):0<=c.Kind/\c.Kind<=5:=by
 obtain⟨-,-,-,h5⟩:=h
 omega
abbrev cW:yAI->List V:=yAI.cs
theorem xLJ(b:yAI):rowIs yAI.ks [cW b] 0=true:=rfl
theorem cWt{l:List yAI}{i:Nat}(h:i<l.length):(⟨aI (l.map cW) i 0,aI (l.map cW) i 1,aI (l.map cW) i 2,aI (l.map cW) i 3,aI (l.map cW) i 4,⟨aI (l.map cW) i 5,aI (l.map cW) i 6⟩,aI (l.map cW) i 7⟩:yAI)=l[i]:=by
 have e:∀j,aI (l.map cW) i j=aI [cW l[i]] 0 j:=fun j=>congrArg asI (yXZ h)
 simp only[e]
 rfl
section
variable {L:Nat} [yOD L] {x:yAR} {cs:List yAI} {c:yAI}
theorem xIB(hs:x.Slots<=16)(hl:cs.length<=1000)(hc:yQX c):yC0 L x (bh6 x cs).t c=some ((bh6 x cs).ap6 x c).t:=
 xIA yOD.h x _ c (by rw[(xGo x cs).1];omega) (by have:=(xGo x cs).2;omega) hc.kind.1 hc.kind.2
theorem xHS(hs:x.Slots<=16)(hl:cs.length<=1000)(hc:yQX c):yCu L x (bh6 x cs).t c=some ((bh6 x cs).ap6 x c).t:=
 xHR yOD.h x _ c (by rw[(xGo x cs).1];omega) (by have:=(xGo x cs).2;omega) hc.kind.1 hc.kind.2
theorem xGn(h0:0<=x.Slots)(h16:x.Slots<=16)(hl:cs.length<=1000)(hc:∀c∈cs,yQX c):yLz L x (cs.map cW)=some (bh6 x cs).t:=by
 have hL:200000<L:=yOD.h
 unfold yLz yOb
 rw[xNb h0 h16,yAB,←xLx]
 refine(yXw (F:=yGr (yCu L)) (fun k=>(cs.map cW,x,yAF.z,(bh6 x (cs.take k)).t,(k:Int),())) cs.length (yAF.z,(bh6 x cs).t,()) (fun k hk kn ka=>?_) (fun kn ka=>?_) cs.length 0 L (by omega) (by omega) _).trans ?_
 ·show(bif decide ((k:Int)<((cs.map cW).length:Int)) then _ else _)=_
  dsimp only
  rw[List.length_map,yAT (decide_eq_true (by omega)),yTv xLJ hk]
  simp only[Int.toNat_natCast]
  rw[cWt hk,xHS h16 (by rw[List.length_take];omega) (hc _ (List.getElem_mem hk)),yAB,yAY (by omega) (by omega),←xF2 hk]
  rfl
 ·show(bif decide ((cs.length:Int)<((cs.map cW).length:Int)) then _ else _)=_
  dsimp only
  rw[List.length_map,yAJ (decide_eq_false (by omega)),List.take_length]
 ·rfl
end
def dvK(s:List ByteArray)(c:List (List V))(ks:List Int)(nx:Int):yAC:=⟨s.map txV,c,ks.map inV,nx,[]⟩
structure KeysOk (ks:List Int) (N:Nat) (nx:Int):Prop where
 len:ks.length=N
 n0:1<=nx
 n1:nx<=68719476736
 ok:∀i (h:i<ks.length),ks[i]=0\/16<=ks[i]/\ks[i]%16=i/\ks[i]/16<nx
section
variable {s:List ByteArray} {c:List (List V)} {ks:List Int} {nx:Int} {N L:Nat}
theorem KeysOk.lenV(h:KeysOk ks N nx):(ks.map inV).length=N:=by rw[List.length_map];exact h.len
theorem KeysOk.given(h:KeysOk ks N nx)(h2:N<=16){i:Nat}(hi:i<ks.length)(g1:16<=ks[i])(g2:ks[i]%16=i)(g3:ks[i]/16<nx):yBl L (dvK s c ks nx) ks[i]=some true:=by
 have hl:=h.len
 have n1:=h.n1
 unfold yBl yP6 dvK
 dsimp only
 rw[h.lenV,yAT (decide_eq_true (by omega)),Int.tdiv_eq_ediv_of_nonneg (by omega),yAY (by omega) (by omega),yAT (decide_eq_true (by omega)),Int.tmod_eq_emod_of_nonneg (by omega),decide_eq_true (by omega)]
theorem xMb(hs:SecOk s)(hc:CE c N)(hk:KeysOk ks N nx)(h1:1<=N)(h2:N<=16)(hL:200000<L):yCd L (dvK s c ks nx)=some 0:=by
 have hm:=hs.m
 have hn:=hs.n
 have hcl:=hc.1
 have hn0:=hk.n0
 have hn1:=hk.n1
 have l0:=fun ka kb=>yJh (α:=Int) (F:=yEZ) (fun k=>(dvK s c ks nx,(k:Int),())) s.length (dvK s c ks nx,()) (fun k hk' kn ka kb=>by
  unfold yEZ dvK
  dsimp only
  have hz:=hs.z s[k] (List.getElem_mem hk')
  rw[List.length_map,yAT (decide_eq_true (by omega)),xG5 (by omega) (by omega),Int.toNat_natCast,xER hk',yAJ (decide_eq_false (by omega)),yAY (by omega) (by omega)]
  rfl) (fun kn ka kb=>by
  unfold yEZ dvK
  dsimp only
  rw[List.length_map,yAJ (decide_eq_false (by omega))]) s.length 0 L (Nat.zero_add _) (by omega) ka kb
 have l1:=fun ka kb=>yJh (α:=Int) (F:=yEa (yGp L) (yBl L)) (fun k=>(dvK s c ks nx,(k:Int),())) N (dvK s c ks nx,()) (fun k hk' kn ka kb=>by
  have hkl:k<ks.length:=by rw[hk.len];exact hk'
  have hai:aI (ks.map inV) k 0=ks[k]:=yUr hkl
  unfold yEa
  dsimp only
  rw[show(dvK s c ks nx).Keys=ks.map inV from rfl,show(dvK s c ks nx).Cache=c from rfl,hk.lenV,yAT (decide_eq_true (by omega)),hc.gI (by omega) (by omega),Int.toNat_natCast,hc.aR hk',xGq (by omega),yAB,yAJ (by rfl),yQ2 (by omega) (by omega),hai]
  rcases hk.ok k hkl with h0 | ⟨g1,g2,g3⟩
  ·rw[h0,yAJ (by rfl),yAY (by omega) (by omega)]
   rfl
  ·rw[yAT (by rw[bne_iff_ne];omega),yQ2 (by omega) (by omega),hk.given (s:=s) (c:=c) (L:=L) h2 hkl g1 g2 g3,yAB,yAJ (by rfl),yQ2 (by omega) (by omega),
     show(ks[k]).tmod 16=(k:Int) by rw[Int.tmod_eq_emod_of_nonneg (by omega)];exact g2,yAJ (by simp),yAY (by omega) (by omega)]
   rfl) (fun kn ka kb=>by
  unfold yEa
  dsimp only
  rw[show(dvK s c ks nx).Keys=ks.map inV from rfl,hk.lenV,yAJ (decide_eq_false (by omega))]) N 0 L (Nat.zero_add _) (by omega) ka kb
 have l2:=fun ka kb=>yJh (α:=Int) (F:=yH4 (yBl L)) (fun k=>(dvK s c ks nx,(k:Int),())) 0 () (fun k hk'=>absurd hk' (Nat.not_lt_zero _)) (fun kn ka kb=>rfl) 0 0 L rfl (by omega) ka kb
 unfold yCd yPg
 rw[show(dvK s c ks nx).Keys=ks.map inV from rfl,show(dvK s c ks nx).Cache=c from rfl,show(dvK s c ks nx).S=s.map txV from rfl,show(dvK s c ks nx).Next=nx from rfl,hk.lenV,List.length_map,hcl,
  yAJ (decide_eq_false (by omega)),yAJ (decide_eq_false (by omega)),yAJ (decide_eq_false (by omega)),yAJ (by simp),yAJ (decide_eq_false (by omega)),yAJ (decide_eq_false (by omega))]
 exact(l0 _ _).trans ((l1 _ _).trans (l2 _ _))
theorem xOW(hs:SecOk s)(hc:CE c N)(hk:KeysOk ks N nx)(h1:1<=N)(h2:N<=16)(hL:200000<L){q:Int}(hq:1<=q):yGo L (dvK s c ks nx) [[V.int .i64 q]]=some false:=by
 have l1:=fun(α:Type) w (ka:_->Option α) kb=>yJh (α:=α) (F:=yDC) (fun k=>([[V.int .i64 q]],dvK s c ks nx,(w:Int),(k:Int),())) 0 ([[V.int .i64 q]],dvK s c ks nx,(w:Int),()) (fun k hk'=>absurd hk' (Nat.not_lt_zero _)) (fun kn ka kb=>rfl) 0 0 L rfl (by omega) ka kb
 have l0:=fun ka kb=>yJh (α:=Bool) (F:=yEw (yAQ (yDC) L)) (fun k=>([[V.int .i64 q]],dvK s c ks nx,(k:Int),())) 1 () (fun k hk' kn ka kb=>by
  obtain rfl:k=0:=by omega
  unfold yEw
  dsimp only
  rw[yAT (by rfl),xMF (by omega) (by simp) (by rfl),show aI [[V.int .i64 q]] ((0:Nat):Int).toNat 0=q from rfl,yAJ (decide_eq_false (by omega))]
  exact l1 _ 0 _ _) (fun kn ka kb=>rfl) 1 0 L rfl (by omega) ka kb
 exact l0 _ _
theorem xL4(hs:SecOk s)(hc:CE c N)(hk:KeysOk ks N nx)(h1:1<=N)(h2:N<=16)(hL:200000<L):yFQ L (dvK s c ks nx)=some (s.map txV,cE N,ks.map inV,nx,[],()):=by
 have hm:=hs.m
 have hcl:=hc.1
 have l0:=fun ka=>yXw (α:=(List (List V))×(List (List V))×(List (List V))×Int×(List (List V))×Unit) (F:=yDi) (fun k=>(dvK s c ks nx,yAC.z,(s.map txV,cE k,ks.map inV,nx,[],()),(k:Int),())) N
  (yAC.z,(s.map txV,cE N,ks.map inV,nx,[],()),()) (fun k hk' kn ka=>by
    unfold yDi
    dsimp only
    have hl:(cE k).length=k:=(yL9 k).1
    have ex:cE (k+1)=cE k++ [[V.sl [] false]]:=List.replicate_succ'
    have ef:xH6 [(16,[])] (cE k++ [[V.bs 16 0 0 0]])=cE (k+1):=by
     rw[ex]
     unfold xH6
     rw[List.map_append]
     congr 1
     unfold cE
     rw[List.map_replicate];rfl
    have eo:xG4 [(16,[])] (cE k++ [[V.bs 16 0 0 0]])=true:=by
     unfold xG4
     rw[List.all_append]
     have:((cE k).all fun r=>r.all (xKJ [(16,[])]))=true:=List.all_eq_true.2 fun r hr=>by rw[List.eq_of_mem_replicate hr];rfl
     rw[this];rfl
    rw[show(dvK s c ks nx).Cache=c from rfl,hcl,yAT (decide_eq_true (by omega)),hc.gI (by omega) (by omega),Int.toNat_natCast,hc.aR hk',yCM (by rfl),xCG (by decide) (by decide),hl,yCM (by rw[Nat.zero_add];exact Nat.beq_refl _),xCG (by omega) (by omega)]
    rw[yHo rfl (yNw _),show(0+([]:List (List V)).length)=0 from rfl,yCM (by rw[List.length_append,hl];exact Nat.beq_refl _),yCM eo,yHo rfl (yKI _),yHo rfl (by rfl),ef,yAY (by omega) (by omega)]
    rfl) (fun kn ka=>by
    unfold yDi
    dsimp only
    rw[show(dvK s c ks nx).Cache=c from rfl,hcl,yAJ (decide_eq_false (by omega)),yHo rfl (yNw _),yHo rfl (yL9 N).nm,yHo rfl (yKI _),yHo rfl (by rfl)]) N 0 L (Nat.zero_add _) (by omega) ka
 unfold yFQ yOW
 rw[show(dvK s c ks nx).Keys=ks.map inV from rfl,show(dvK s c ks nx).S=s.map txV from rfl,show(dvK s c ks nx).Next=nx from rfl,show(dvK s c ks nx).Fenced= [] from rfl,
  yCM (yYd 1 fun _=>rfl),xCG (by rw[List.length_map];omega) (by rw[List.length_map];omega),yCM (yYd 1 fun _=>rfl),xCG (by rw[hk.lenV];omega) (by rw[hk.lenV];omega),yCM (by rfl),xCG (by decide) (by decide),
  yHo (Nat.zero_add _) (yNw _),yHo (Nat.zero_add _) (yKI _),yHo (by rfl) (by rfl)]
 refine(l0 _).trans ?_
 dsimp only
 rw[yHo rfl (yNw _),yHo rfl (yL9 N).nm,yHo rfl (yKI _),yHo rfl (by rfl)]
end
section
variable {s:List ByteArray} {c:List (List V)} {ks:List Int} {nx:Int} {N L:Nat}
theorem xOE(hs:SecOk s)(hc:CE c N)(hk:KeysOk ks N nx)(h1:1<=N)(h2:N<=16)(hL:200000<L){n:Int}(n0:0<=n)(nN:n<N){a:yAp}(k1:1<=a.Kind)(k2:a.Kind<=6){z:yAC}{α:Type}(k0:_->Option α):
  yKj (yCd L) (n,dvK s c ks nx,a,z,()) k0=k0 (n,dvK s c ks nx,a,z,false,()):=by
 unfold yKj
 dsimp only
 rw[xMb hs hc hk h1 h2 hL,yAB,yAJ (by rfl),yAJ (decide_eq_false (by omega)),show(dvK s c ks nx).Keys=ks.map inV from rfl,hk.lenV,yAJ (decide_eq_false (by omega)),yAJ (decide_eq_false (by omega)),decide_eq_false (by omega:¬6<a.Kind)]
theorem xOi(hs:SecOk s)(hc:CE c N)(hk:KeysOk ks N nx)(h1:1<=N)(h2:N<=16)(hL:200000<L){n:Int}(n0:0<=n)(nN:n<N){a:yAp}(hq:∀h:n.toNat<ks.length,1<=ks[n.toNat])(hkd:(a.Kind !=6)=true){z:yAC}{w:Bool}{α:Type}(k0:_->Option α)(ka):
  yIk (yGo L) (n,dvK s c ks nx,a,z,w,()) k0 ka=k0 (n,dvK s c ks nx,a,z,w,()):=by
 unfold yIk
 dsimp only
 obtain⟨i,rfl⟩:=Int.eq_ofNat_of_zero_le n0
 have hil:i<ks.length:=by rw[hk.len];omega
 have hq':1<=ks[i]:=hq hil
 rw[yAT hkd,show(dvK s c ks nx).Keys=ks.map inV from rfl,yQ2 (by omega) (by rw[hk.len];omega),Int.toNat_natCast,yUr (by rw[hk.len];omega),xOW hs hc hk h1 h2 hL hq',yAB,yAJ (by rfl)]
theorem xOF(hs:SecOk s)(hc:CE c N)(hk:KeysOk ks N nx)(h1:1<=N)(h2:N<=16)(hL:200000<L){n:Int}{a:yAp}{z:yAC}{α:Type}(k0:_->Option α):
  yKk (yFQ L) (n,dvK s c ks nx,a,z,()) k0=k0 (n,a,z,(s.map txV,cE N,ks.map inV,nx,[],()),()):=by
 unfold yKk
 dsimp only
 rw[xL4 hs hc hk h1 h2 hL,yAB,yHo rfl (yNw _),yHo rfl (yL9 N).nm,yHo rfl (yKI _),ySB (by simp) (by simp) (by rfl)]
 rfl
theorem xOG(hs:SecOk s)(hc:CE c N)(hk:KeysOk ks N nx)(h1:1<=N)(h2:N<=16)(hL:200000<L){n:Int}{a:yAp}{z:yAC}{α:Type}(k0:_->Option α):
  yKl (yIm L) (n,a,z,(s.map txV,cE N,ks.map inV,nx,[],()),[],()) k0=k0 (n,a,z,(s.map txV,cE N,ks.map inV,nx,[],()),[],-1,()):=by
 unfold yKl
 dsimp only
 rw[xJD (by omega),yAB,yHo rfl (yNw _),yHo rfl (yL9 N).nm,yHo rfl (yKI _)]
theorem xBI(hs:SecOk s)(hc:CE c N)(hk:KeysOk ks N nx)(h1:1<=N)(h2:N<=16)(hL:200000<L){n:Int}(n0:0<=n)(nN:n<N)(hq:∀h:n.toNat<ks.length,1<=ks[n.toNat]){k:Int}(k0:0<=k)(kl:k<s.length):yFZ L (dvK s c ks nx) n ⟨1,k,noS,0⟩=some (dvK s (cE N) ks nx,s.getD k.toNat noS,0,()):=by
 have hm:=hs.m
 have hcl:=(yL9 N).1
 unfold yFZ yO3
 rw[xOE hs hc hk h1 h2 hL n0 nN (by dsimp only;omega) (by dsimp only;omega)]
 rw[show ∀(α:Type) x ka kb,yIh (α:=α) (n,x,(⟨1,k,noS,0⟩:yAp),yAC.z,false,()) ka kb=ka (n,x,⟨1,k,noS,0⟩,yAC.z,()) from fun _ _ _ _=>rfl]
 rw[show ∀(α:Type) x ka,yIi (α:=α) (n,x,(⟨1,k,noS,0⟩:yAp),yAC.z,()) ka=ka (n,x,⟨1,k,noS,0⟩,yAC.z,false,()) from fun _ _ _=>rfl]
 rw[show ∀(α:Type) x ka,yFa (α:=α) (yBl L) (n,x,(⟨1,k,noS,0⟩:yAp),yAC.z,false,()) ka=ka (n,x,⟨1,k,noS,0⟩,yAC.z,false,false,()) from fun _ _ _=>rfl]
 rw[show ∀(α:Type) x ka kb,yIj (α:=α) (n,x,(⟨1,k,noS,0⟩:yAp),yAC.z,false,false,()) ka kb=ka (n,x,⟨1,k,noS,0⟩,yAC.z,false,()) from fun _ _ _ _=>rfl]
 rw[xOi hs hc hk h1 h2 hL n0 nN hq (by rfl)]
 have p6:∀(α:Type) (ka:_->Option α),yFb (n,dvK s c ks nx,(⟨1,k,noS,0⟩:yAp),yAC.z,false,()) ka=ka (n,dvK s c ks nx,⟨1,k,noS,0⟩,yAC.z,false,()):=fun α ka=>by
  unfold yFb
  dsimp only
  rw[cond_false,yAT (by rfl),yAJ (decide_eq_false (by omega)),show(dvK s c ks nx).S=s.map txV from rfl,List.length_map,decide_eq_false (by omega:¬(s.length:Int)<=k)]
 rw[p6]
 rw[show ∀(α:Type) x ka kb,yIl (α:=α) (n,x,(⟨1,k,noS,0⟩:yAp),yAC.z,false,()) ka kb=ka (n,x,⟨1,k,noS,0⟩,yAC.z,()) from fun _ _ _ _=>rfl]
 rw[xOF hs hc hk h1 h2 hL]
 dsimp only
 obtain⟨i,rfl⟩:=Int.eq_ofNat_of_zero_le n0
 obtain⟨v,rfl⟩:=Int.eq_ofNat_of_zero_le k0
 have hi:i<N:=by omega
 have hv:v<s.length:=by omega
 rw[hcl,yW9 (by omega) (by omega),Nat.zero_add,Int.toNat_natCast,yYv (by rw[hcl];exact hi) (by obtain⟨b,hb⟩:=(yL9 N).at_ hi;rw[yIa hb];rfl),yHo rfl (yNw _),yHo hcl.symm (yL9 N).nm,yHo rfl (yKI _),(yL9 N).aR hi,xOG hs hc hk h1 h2 hL]
 dsimp only
 rw[yAT (by rfl),yAJ (by rfl),List.length_map,yW9 (by omega) (by omega),Nat.zero_add,Int.toNat_natCast,yYv (by rw[List.length_map];exact hv) (by rw[yIa (yGO hv)];rfl),ySB (by rw[List.length_map];omega) (by omega) (yNw _),Nat.zero_add,hcl,ySB (by rw[hcl];omega) (by omega) (yL9 N).nm,Nat.zero_add,hk.lenV,ySB (by rw[hk.lenV];omega) (by omega) (yKI _),xER hv]
 rw[List.take_of_length_le (by rw[List.length_map];omega),List.take_of_length_le (by omega),List.take_of_length_le (by rw[hk.lenV];omega),List.getD_eq_getElem?_getD,List.getElem?_eq_getElem hv]
 rfl
theorem xJM(hs:SecOk s)(hc:CE c N)(hk:KeysOk ks N nx)(h1:1<=N)(h2:N<=16)(hL:200000<L){n:Int}(n0:0<=n)(nN:n<N)(hq:∀h:n.toNat<ks.length,1<=ks[n.toNat]){k:Int}(k0:0<=k)(kl:k<s.length){b:ByteArray}(hb:b.size<=512):yFZ L (dvK s c ks nx) n ⟨2,k,b,0⟩=some (dvK (s.set k.toNat b) (cE N) ks nx,noS,0,()):=by
 have hm:=hs.m
 have hcl:=(yL9 N).1
 unfold yFZ yO3
 rw[xOE hs hc hk h1 h2 hL n0 nN (by dsimp only;omega) (by dsimp only;omega)]
 rw[show ∀(α:Type) x ka kb,yIh (α:=α) (n,x,(⟨2,k,b,0⟩:yAp),yAC.z,false,()) ka kb=ka (n,x,⟨2,k,b,0⟩,yAC.z,()) from fun _ _ _ _=>rfl]
 rw[show ∀(α:Type) x ka,yIi (α:=α) (n,x,(⟨2,k,b,0⟩:yAp),yAC.z,()) ka=ka (n,x,⟨2,k,b,0⟩,yAC.z,true,()) from fun _ _ _=>rfl]
 have p3:∀(α:Type) x (ka:_->Option α),yFa (yBl L) (n,x,(⟨2,k,b,0⟩:yAp),yAC.z,true,()) ka=ka (n,x,⟨2,k,b,0⟩,yAC.z,true,false,()):=fun α x ka=>by
  unfold yFa
  dsimp only
  rw[cond_true,yAJ (decide_eq_false (by omega))]
  rfl
 rw[p3]
 rw[show ∀(α:Type) x ka kb,yIj (α:=α) (n,x,(⟨2,k,b,0⟩:yAp),yAC.z,true,false,()) ka kb=ka (n,x,⟨2,k,b,0⟩,yAC.z,true,()) from fun _ _ _ _=>rfl]
 rw[xOi hs hc hk h1 h2 hL n0 nN hq (by rfl)]
 have p6:∀(α:Type) (ka:_->Option α),yFb (n,dvK s c ks nx,(⟨2,k,b,0⟩:yAp),yAC.z,true,()) ka=ka (n,dvK s c ks nx,⟨2,k,b,0⟩,yAC.z,false,()):=fun α ka=>by
  unfold yFb
  dsimp only
  rw[cond_true,yAJ (decide_eq_false (by omega)),show(dvK s c ks nx).S=s.map txV from rfl,List.length_map,decide_eq_false (by omega:¬(s.length:Int)<=k)]
 rw[p6]
 rw[show ∀(α:Type) x ka kb,yIl (α:=α) (n,x,(⟨2,k,b,0⟩:yAp),yAC.z,false,()) ka kb=ka (n,x,⟨2,k,b,0⟩,yAC.z,()) from fun _ _ _ _=>rfl]
 rw[xOF hs hc hk h1 h2 hL]
 dsimp only
 obtain⟨i,rfl⟩:=Int.eq_ofNat_of_zero_le n0
 obtain⟨v,rfl⟩:=Int.eq_ofNat_of_zero_le k0
 have hi:i<N:=by omega
 have hv:v<s.length:=by omega
 have es:(s.map txV).set v (((s.map txV).getD v []).take 0++([V.str b]++((s.map txV).getD v []).drop 1))=(s.set v b).map txV:=by
  rw[List.map_set,yDN (yGO hv)];rfl
 rw[hcl,yW9 (by omega) (by omega),Nat.zero_add,Int.toNat_natCast,yYv (by rw[hcl];exact hi) (by obtain⟨b,hb⟩:=(yL9 N).at_ hi;rw[yIa hb];rfl),yHo rfl (yNw _),yHo hcl.symm (yL9 N).nm,yHo rfl (yKI _),(yL9 N).aR hi,xOG hs hc hk h1 h2 hL]
 dsimp only
 rw[yAJ (by rfl),yAT (by rfl),List.length_map,yW9 (by omega) (by omega),Nat.zero_add,Int.toNat_natCast,yCM (decide_eq_true hv),yCM (by rfl),yCM (by rw[yDN (yGO hv)];rfl),yAJ (by rfl),es,Nat.zero_add,
  ySB (by rw[List.length_map,List.length_set];omega) (by omega) (yNw _),hcl,Nat.zero_add,ySB (by rw[hcl];omega) (by omega) (yL9 N).nm,hk.lenV,Nat.zero_add,ySB (by rw[hk.lenV];omega) (by omega) (yKI _)]
 rw[List.take_of_length_le (by rw[List.length_map,List.length_set];omega),List.take_of_length_le (by omega),List.take_of_length_le (by rw[hk.lenV];omega)]
 rfl
end
end Go.Proofs.YtakljpcmbpaeaaaGreat
