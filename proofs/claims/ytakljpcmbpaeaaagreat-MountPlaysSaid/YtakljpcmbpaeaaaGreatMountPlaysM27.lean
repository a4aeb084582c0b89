/- Regions that draw their order, whose order is forced from the first operation on that does not only read. -/
import Derived.Test.YtakljpcmbpaeaaaGreatMountPlaysM26
import Derived.StillTail
set_option linter.unusedSimpArgs false
set_option linter.unusedVariables false
namespace Go.Proofs.YtakljpcmbpaeaaaGreat
open Go.RowKit
def stillB(P:Program):Op->Bool
 | .move _=>true
 | .assign _=>true
 | .pick _ _ _=>true
 | .build _ _=>true
 | .load _ _=>true
 | .nilCheck _=>true
 | .binOp _ _ _ y _=> !(isNilC y)
 | .unOp _ _ _=>true
 | .convert s d _=> !(yVQ P s d)
 | .makeFunc _ _ _=>true
 | .slice _ _ _ _ _=>true
 | .fieldAddr _ _ _=>true
 | .field _ _ _=>true
 | .indexAddr _ _ _=>true
 | .index _ _ _=>true
 | .extract _ _=>true
 | .call c=>match c.callee with
   | .builtin .len=>true
   | .builtin .min=>true
   | .builtin .max=>true
   | _=>false
 | _=>false
def tailN(P:Program):List Oper->Nat
 | []=>0
 | o::r=>bif stillB P o.op then tailN P r+1 else 0
def tlB(P:Program)(ops:Array Oper):Bool:=(ops.toList.any fun o=>yQx o.op)&&Region.lexTailB .any ops (tailN P ops.toList)
theorem xL5{P:Program}{op:Op}{fr:Fr}{st:St}{K:V->St->Prop}(h:stillB P op=true)(hk:aop P op fr st K):∃x,vop P op fr st=some x/\K x st:=by
 have go:xGB (vop P op fr st) (fun x=>K x st)->∃x,vop P op fr st=some x/\K x st:=fun h=>xDE h
 cases op <;> try (simp[stillB] at h;done)
 case binOp o t x y u=>
  simp only[stillB,Bool.not_eq_true'] at h
  unfold aop at hk
  dsimp only at hk
  rw[h] at hk
  exact go hk
 case convert s d x=>
  simp only[stillB,Bool.not_eq_true'] at h
  unfold aop at hk
  dsimp only at hk
  rw[h] at hk
  exact go hk
 case call c=>
  obtain⟨callee,args,ts⟩:=c
  cases callee with
  | builtin b=>cases b <;> first | (simp[stillB] at h;done) | exact go hk
  | value f=>simp[stillB] at h
  | invoke a b=>simp[stillB] at h
 all_goals exact go hk
section
variable {mu0:Mu} {S0:yEn} {B:Dom} {nt:Nat} {w0:World} {P:Program}
theorem AR.drew{fr:Fr}{st:St}{a:Act}{w:World}(h:AR mu0 S0 B w0 nt fr st a w):AR mu0 S0 B w0 nt fr st a {w with drawn:=w.drawn+1 }:=by
 obtain⟨mu,S,h1,h2,h3,h4,h5,h6,h7⟩:=h
 have hb:Off B w {w with drawn:=w.drawn+1 }:=(Off.refl _ _).drew
 exact⟨mu,S,h1.drew,h2,h3.mono (fun _ _ h=>h) (fun _ _ h=>h) (fun _ _ _=>rfl),h4,h5.trans ⟨fun _ _ h=>h,fun _ _ h=>h,fun _ _ h=> .inl h,fun _ _ _=>rfl,hb⟩,h6,h7⟩
theorem yVy{ops:Array Oper}{w:World}{st:St}{K:Fr->St->Prop}{l2:List Oper}:∀(l1:List Oper) (fr:Fr) (a:Act),(∀o∈l1,stillB P o.op=true)->(∀o∈l1,∀t,o.dst=some t->t<nt)->aops P ops (l1++l2) fr st K->AR mu0 S0 B w0 nt fr st a w→
  wpStill P ops w (fun a'=>∃fr',AR mu0 S0 B w0 nt fr' st a' w/\aops P ops l2 fr' st K) l1 a:=by
 intro l1
 induction l1 with
 | nil=>exact fun fr a _ _ hk h=>⟨fr,h,hk⟩
 | cons o r ih=>
   intro fr a hs hd hk h
   have hdo:=hd o (by simp)
   have hso:=hs o (by simp)
   have hsr:∀o∈r,stillB P o.op=true:=fun o' ho'=>hs o' (List.mem_cons_of_mem _ ho')
   have hdr:∀o∈r,∀t,o.dst=some t->t<nt:=fun o' ho'=>hd o' (List.mem_cons_of_mem _ ho')
   unfold wpStill
   rw[List.cons_append] at hk
   unfold aops at hk
   have hexec:aop P o.op fr st (fun x st'=>aops P ops (r++l2) (fr.put o.dst x) st' K)->o.still P a w (wpStill P ops w (fun a'=>∃fr',AR mu0 S0 B w0 nt fr' st a' w/\aops P ops l2 fr' st K) r):=fun hk=>by
    obtain⟨x,hx,hkx⟩:=xL5 hso hk
    obtain⟨mu,S,h1,h2,h3,h4,h5,h6,h7⟩:=h
    obtain⟨u,hu,hur⟩:=xBx h1 h3 hx
    unfold Oper.still
    rw[hu,Oper.stillUpon_value]
    refine ih _ _ hsr hdr hkx ⟨mu,S,h1,h2,h3.put (fun t e=>by rw[h7];exact hdo t e) hur,h4,h5,?_,?_⟩
    ·cases hd':o.dst with
     | none=>exact h6
     | some t=>exact h6
    ·cases hd':o.dst with
     | none=>exact h7
     | some t=>simpa[Act.put] using h7
   split at hk
   ·rename_i hg
    have:Region.wanted o (yielded ops a.tmps)=true:=by unfold Region.wanted;rw[hg]
    rw[if_pos this]
    exact hexec hk
   ·rename_i j want hg
    have hfr:∃mu S,FR mu S w fr a:=by obtain⟨mu,S,_,_,h3,_⟩:=h;exact⟨mu,S,h3⟩
    obtain⟨mu,S,hf⟩:=hfr
    split at hk
    ·rename_i b hb
     have hw:=ySl hg hf hb
     by_cases he:b=want
     ·rw[if_pos (by rw[hw,he];simp)]
      exact hexec (hk.1 he)
     ·have:(b==want)=false:=by simpa using he
      rw[if_neg (by rw[hw,this];simp)]
      exact ih _ _ hsr hdr (hk.2 (by cases b <;> cases want <;> simp_all)) (h.skip o.dst hdo)
    ·exact hk.elim
    ·rename_i h1 h2
     have hw:=ySk hg hf (fun b e=>h1 b e) (fun e=>h2 e)
     rw[if_neg (by rw[hw];simp)]
     exact ih _ _ hsr hdr hk (h.skip o.dst hdo)
theorem xBu:∀(l:List Oper),∀o∈l.take (tailN P l),stillB P o.op=true
 | [],o,ho=>by simp at ho
 | x::r,o,ho=>by
   unfold tailN at ho
   cases hx:stillB P x.op with
   | false=>rw[hx] at ho;simp at ho
   | true=>
     rw[hx,cond_true,List.take_succ_cons] at ho
     rcases List.mem_cons.1 ho with rfl | ho
     ·exact hx
     ·exact xBu r o ho
theorem AW.region_tail{id:Nat}{ops:Array Oper}{Q:AEx->Fr->St->Prop}{fr:Fr}{st:St}(hm:P.follows .mixedOrders=true)(hd:xQE ops nt=true)(ht:tlB P ops=true)(h:aops P ops ops.toList fr st (Q .normal)):AW P nt (.region id ops true) Q fr st:=fun mu0 S0 B w0 a w hA=>by
 have hd':∀o∈ops.toList,∀t,o.dst=some t->t<nt:=fun o ho t ht=>by
  have:=Array.all_eq_true_iff_forall_mem.1 hd o (Array.mem_toList_iff.1 ho)
  rw[ht] at this
  exact Nat.lt_of_succ_le (Nat.le_of_ble_eq_true this)
 obtain⟨-,ht⟩:=yBE ht
 obtain⟨l⟩:=ops
 refine wp_region_still_tail (tailN P l) hm ht ?_
 have key:=yVy (ops:=l.toArray) (st:=st) (K:=Q .normal) (l2:=l.drop (tailN P l)) (l.take (tailN P l)) fr a (xBu l) (fun o ho=>hd' o (List.mem_of_mem_take ho)) (by rw[List.take_append_drop];exact h) hA.drew
 have mono:∀(q:List Oper) (a:Act) (K K':Act->Prop),(∀a,K a->K' a)->wpStill P l.toArray {w with drawn:=w.drawn+1 } K q a->wpStill P l.toArray {w with drawn:=w.drawn+1 } K' q a:=by
  intro q
  induction q with
  | nil=>exact fun a K K' hK h=>hK a h
  | cons o r ih=>
    intro a K K' hK h
    unfold wpStill at h ⊢
    split at h
    ·rename_i hw;rw[if_pos hw];exact Oper.still_mono (fun a h=>ih a K K' hK h) h
    ·rename_i hw;rw[if_neg hw];exact ih _ K K' hK h
 refine mono _ _ _ _ (fun a' ⟨fr',hA',hk'⟩=>?_) key
 exact xDB (fun fr st a w h1 h2=>⟨fr,st,h1,h2⟩) (l.drop (tailN P l)) fr' st a' _ (fun o ho=>hd' o (List.mem_of_mem_drop ho)) hA' hk'
end
section
variable {P:Program} {nt:Nat} {Q:AEx->Fr->St->Prop} {fr:Fr} {st:St}
def xCM(P:Program)(nt:Nat)(c:Code)(Q:AEx->Fr->St->Prop):Nat->Fr->St->Prop
 | 0,_,_=>False
 | n+1,fr,st=>AW P nt c (AEx.then (xCM P nt c Q n) Q) fr st
open Classical in
theorem AW.unroll{c:Code}(n:Nat)(h:xCM P nt c Q n fr st):AW P nt (.loop c) Q fr st:=by
 refine AW.loop (fun fr st=>∃n,xCM P nt c Q n fr st) (fun fr st=>if h:∃n,xCM P nt c Q n fr st then Classical.choose (least h) else 0) ⟨n,h⟩ fun fr st hI=>?_
 have hI':=hI
 obtain⟨hm,hmin⟩:=Classical.choose_spec (least hI)
 generalize hq:Classical.choose (least hI)=q at hm hmin
 cases q with
 | zero=>exact hm.elim
 | succ q=>
   refine AW.mono hm fun e fr' st' h=>?_
   cases e with
   | normal=>
     have h:xCM P nt c Q q fr' st':=h
     have hex:∃n,xCM P nt c Q n fr' st':=⟨q,h⟩
     refine⟨hex,?_⟩
     show(if h:∃n,xCM P nt c Q n fr' st' then Classical.choose (least h) else 0)<(if h:∃n,xCM P nt c Q n fr st then Classical.choose (least h) else 0)
     rw[dif_pos hI,dif_pos hex,hq]
     have:=(Classical.choose_spec (least hex)).2 q h
     omega
   | exit i=>exact h
   | ret=>exact h
end
end Go.Proofs.YtakljpcmbpaeaaaGreat
