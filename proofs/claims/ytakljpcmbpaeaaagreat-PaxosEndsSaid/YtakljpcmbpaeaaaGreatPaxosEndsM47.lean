/- Arguments of a statement by their shapes. -/
import Derived.Test.YtakljpcmbpaeaaaGreatPaxosEndsM46
import Derived.Test.YtakljpcmbpaeaaaGreatPaxosEndsM34
set_option linter.unusedSimpArgs false
set_option linter.unusedVariables false
namespace Go.Proofs.YtakljpcmbpaeaaaGreat
open Go.RowKit
theorem xEK{s:Sh}{x:V}(h:HasSh s x):Plain x:=by
 induction h with
 | int k n h=>exact .int _ _
 | bool b=>exact .bool _
 | str s h=>exact .str _
 | sl row es h1 h2 h3 ih=>
   refine .sl _ _ fun r hr x hx=>?_
   obtain⟨i,hi,rfl⟩:=List.getElem_of_mem hr
   obtain⟨j,hj,rfl⟩:=List.getElem_of_mem hx
   exact ih i hi j (by rw[←h2 i hi];exact hj) hj
theorem xHV{ss:List Sh}{xs:List V}(h:yHh ss xs):Plain (.agg xs):= .agg _ fun x hx=>by
 obtain⟨j,hj,rfl⟩:=List.getElem_of_mem hx
 exact xEK (h.2 j (by rw[←h.1];exact hj) hj)
def xIq:List Sh:= [.int .i64,.int .i64,.int .i64,.int .i64,.int .i64,.int .i64,.int .i64,.int .i64]
theorem xIN{xs:List V}(h:yHh xIq xs):∃g:yAQ,xs=yAQ.cs g/\xFr g.Wait=true:=by
 unfold xIq at h
 have k0:=h
 clear h
 obtain⟨_,_,rfl,q0,k1⟩:=k0.cons_inv
 obtain⟨v0,rfl,-⟩:=q0.int_inv
 obtain⟨_,_,rfl,q1,k2⟩:=k1.cons_inv
 obtain⟨v1,rfl,-⟩:=q1.int_inv
 obtain⟨_,_,rfl,q2,k3⟩:=k2.cons_inv
 obtain⟨v2,rfl,-⟩:=q2.int_inv
 obtain⟨_,_,rfl,q3,k4⟩:=k3.cons_inv
 obtain⟨v3,rfl,-⟩:=q3.int_inv
 obtain⟨_,_,rfl,q4,k5⟩:=k4.cons_inv
 obtain⟨v4,rfl,-⟩:=q4.int_inv
 obtain⟨_,_,rfl,q5,k6⟩:=k5.cons_inv
 obtain⟨v5,rfl,-⟩:=q5.int_inv
 obtain⟨_,_,rfl,q6,k7⟩:=k6.cons_inv
 obtain⟨v6,rfl,-⟩:=q6.int_inv
 obtain⟨_,_,rfl,q7,k8⟩:=k7.cons_inv
 obtain⟨v7,rfl,w⟩:=q7.int_inv
 obtain rfl:=k8.nil_inv
 refine⟨⟨v0,v1,v2,v3,v4,v5,v6,v7⟩,rfl,?_⟩
 have:=wf_i64 w
 show(decide _&&decide _)=true
 rw[decide_eq_true this.1,decide_eq_true this.2];rfl
theorem xGo{x:V}(h:yHh [.sl [.int .i64]] [x]):∃l:List Int,x= .sl (l.map inV) false/\l.length<=maxLen/\∀a∈l,True:=
 HasSh.rows (h.2 0 Nat.zero_lt_one Nat.zero_lt_one) inV (fun _=>True) fun r hr=>by
  obtain⟨y,ys,rfl,q,k⟩:=hr.cons_inv
  obtain⟨n,rfl,-⟩:=q.int_inv
  obtain rfl:=k.nil_inv
  exact⟨n,rfl,trivial⟩
end Go.Proofs.YtakljpcmbpaeaaaGreat
