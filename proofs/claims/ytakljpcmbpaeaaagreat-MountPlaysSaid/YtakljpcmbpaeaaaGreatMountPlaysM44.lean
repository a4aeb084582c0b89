/- Arguments of a statement by their shapes. -/
import Derived.Test.YtakljpcmbpaeaaaGreatMountPlaysM43
import Derived.Test.YtakljpcmbpaeaaaGreatMountPlaysM33
import Derived.Test.YtakljpcmbpaeaaaGreatMountPlaysM42
set_option linter.unusedSimpArgs false
set_option linter.unusedVariables false
namespace Go.Proofs.YtakljpcmbpaeaaaGreat
open Go.RowKit
theorem xKn{s:Sh}{x:V}(h:HasSh s x):Plain x:=by
 induction h with
 | int k n h=>exact .int _ _
 | bool b=>exact .bool _
 | str s h=>exact .str _
 | sl row es h1 h2 h3 ih=>
   refine .sl _ _ fun r hr x hx=>?_
   obtain⟨i,hi,rfl⟩:=List.getElem_of_mem hr
   obtain⟨j,hj,rfl⟩:=List.getElem_of_mem hx
   exact ih i hi j (by rw[←h2 i hi];exact hj) hj
theorem xOD{ss:List Sh}{xs:List V}(h:yI0 ss xs):Plain (.agg xs):= .agg _ fun x hx=>by
 obtain⟨j,hj,rfl⟩:=List.getElem_of_mem hx
 exact xKn (h.2 j (by rw[←h.1];exact hj) hj)
def xPh:List Sh:= [.int .i64,.int .i64,.int .i64,.int .i64,.int .i64,.int .i64,.int .i64,.int .i64]
theorem xO5{xs:List V}(h:yI0 xPh xs):∃g:yAJ,xs=yAJ.cs g/\xLS g.Wait=true:=by
 unfold xPh at h
 have k0:=h
 clear h
 obtain⟨_,_,rfl,q0,k1⟩:=k0.cons_inv
 obtain⟨v0,rfl,-⟩:=q0.int_inv
 obtain⟨_,_,rfl,q1,k2⟩:=k1.cons_inv
 obtain⟨v1,rfl,-⟩:=q1.int_inv
 obtain⟨_,_,rfl,q2,k3⟩:=k2.cons_inv
 obtain⟨v2,rfl,-⟩:=q2.int_inv
 obtain⟨_,_,rfl,q3,k4⟩:=k3.cons_inv
 obtain⟨v3,rfl,-⟩:=q3.int_inv
 obtain⟨_,_,rfl,q4,k5⟩:=k4.cons_inv
 obtain⟨v4,rfl,-⟩:=q4.int_inv
 obtain⟨_,_,rfl,q5,k6⟩:=k5.cons_inv
 obtain⟨v5,rfl,-⟩:=q5.int_inv
 obtain⟨_,_,rfl,q6,k7⟩:=k6.cons_inv
 obtain⟨v6,rfl,-⟩:=q6.int_inv
 obtain⟨_,_,rfl,q7,k8⟩:=k7.cons_inv
 obtain⟨v7,rfl,w⟩:=q7.int_inv
 obtain rfl:=k8.nil_inv
 refine⟨⟨v0,v1,v2,v3,v4,v5,v6,v7⟩,rfl,?_⟩
 have:=wf_i64 w
 show(decide _&&decide _)=true
 rw[decide_eq_true this.1,decide_eq_true this.2];rfl
def xTL:List Sh:= [.int .i64,.int .i8]
theorem xLc{x:V}(h:yI0 [.sl xTL] [x]):∃l:List yAx,x= .sl (l.map kW) false/\l.length<=maxLen:=
 (HasSh.rows (h.2 0 Nat.zero_lt_one Nat.zero_lt_one) kW (fun _=>True) fun r hr=>by
   unfold xTL at hr
   obtain⟨_,_,rfl,q0,k1⟩:=hr.cons_inv
   obtain⟨v0,rfl,-⟩:=q0.int_inv
   obtain⟨_,_,rfl,q1,k2⟩:=k1.cons_inv
   obtain⟨v1,rfl,-⟩:=q1.int_inv
   obtain rfl:=k2.nil_inv
   exact⟨⟨v0,v1⟩,rfl,trivial⟩).imp fun l h=>⟨h.1,h.2.1⟩
end Go.Proofs.YtakljpcmbpaeaaaGreat
