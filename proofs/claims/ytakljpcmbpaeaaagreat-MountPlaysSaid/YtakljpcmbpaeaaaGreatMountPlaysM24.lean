/- What the evaluators stand on: trees, partial operations of the store. -/
import Derived.Test.YtakljpcmbpaeaaaGreatMountPlaysM23
import Derived.Test.YtakljpcmbpaeaaaGreatProg
set_option linter.unusedSimpArgs false
set_option linter.unusedVariables false
namespace Go.Proofs.YtakljpcmbpaeaaaGreat
open Go.RowKit
theorem mixed:Tryz.prog.follows .mixedOrders=true:=by kernel_rfl
theorem xNN{a b:Nat}{l:List Nat}:yE3 (a::l) b=bif Nat.beq b a then true else yE3 l b:=by unfold yE3;rw[List.any_cons];cases Nat.beq b a <;> rfl
abbrev mny:Nat->Nat:=fun _=>2000000
inductive Tr (α:Type) where
 | leaf
 | node (l:Tr α) (v:Option α) (r:Tr α)
def Tr.get{α:Type}:Tr α->Nat->Option α
 | .leaf,_=>none
 | .node l v r,n=>bif Nat.beq n 0 then v else bif Nat.beq (n%2) 1 then l.get (n/2) else r.get (n/2-1)
def Tr.set{α:Type}:Nat->Tr α->Nat->Option α->Tr α
 | 0,t,_,_=>t
 | d+1,.leaf,n,v=>bif Nat.beq n 0 then .node .leaf v .leaf else bif Nat.beq (n%2) 1 then .node (Tr.set d .leaf (n/2) v) none .leaf else .node .leaf none (Tr.set d .leaf (n/2-1) v)
 | d+1,.node l u r,n,v=>bif Nat.beq n 0 then .node l v r else bif Nat.beq (n%2) 1 then .node (Tr.set d l (n/2) v) u r else .node l u (Tr.set d r (n/2-1) v)
theorem ySo{a b:Nat}(h:a=b):Nat.beq a b=true:=by subst h;exact Nat.beq_refl _
theorem ySn{a b:Nat}(h:¬a=b):Nat.beq a b=false:=by
 cases hh:Nat.beq a b with
 | false=>rfl
 | true=>exact absurd (Nat.eq_of_beq_eq_true hh) h
theorem Tr.leaf_get{α:Type}(n:Nat):(Tr.leaf:Tr α).get n=none:=rfl
theorem Tr.node_get{α:Type}(l r:Tr α)(v:Option α)(n:Nat):(Tr.node l v r).get n=if n=0 then v else if n%2=1 then l.get (n/2) else r.get (n/2-1):=by
 show(bif Nat.beq n 0 then v else bif Nat.beq (n%2) 1 then l.get (n/2) else r.get (n/2-1))=_
 by_cases h:n=0
 ·rw[ySo h,if_pos h];rfl
 ·rw[ySn h,if_neg h,cond_false]
  by_cases h2:n%2=1
  ·rw[ySo h2,if_pos h2];rfl
  ·rw[ySn h2,if_neg h2];rfl
theorem Tr.set_get{α:Type}:∀(d:Nat) (t:Tr α) (n m:Nat) (v:Option α),n+1<2^d->(Tr.set d t n v).get m=if m=n then v else t.get m
 | 0,t,n,m,v,h=>absurd h (by simp)
 | d+1,.leaf,n,m,v,h=>by
   have hp:2^(d+1)=2^d*2:=Nat.pow_succ 2 d
   show(bif Nat.beq n 0 then Tr.node .leaf v .leaf else bif Nat.beq (n%2) 1 then Tr.node (Tr.set d .leaf (n/2) v) none .leaf else Tr.node .leaf none (Tr.set d .leaf (n/2-1) v)).get m=_
   by_cases h0:n=0
   ·rw[ySo h0,cond_true,Tr.node_get]
    subst h0
    by_cases hm:m=0
    ·rw[if_pos hm,if_pos hm]
    ·rw[if_neg hm,if_neg hm]
     simp only[Tr.leaf_get,ite_self]
   ·rw[ySn h0,cond_false]
    by_cases h2:n%2=1
    ·rw[ySo h2,cond_true,Tr.node_get,Tr.set_get d .leaf (n/2) (m/2) v (by omega)]
     simp only[Tr.leaf_get]
     by_cases hm:m=n
     ·rw[if_neg (by omega),if_pos (by omega),if_pos (by omega),if_pos hm]
     ·rw[if_neg hm]
      by_cases hm0:m=0
      ·rw[if_pos hm0]
      ·rw[if_neg hm0]
       by_cases hm2:m%2=1
       ·rw[if_pos hm2,if_neg (by omega)]
       ·rw[if_neg hm2]
    ·rw[ySn h2,cond_false,Tr.node_get,Tr.set_get d .leaf (n/2-1) (m/2-1) v (by omega)]
     simp only[Tr.leaf_get]
     by_cases hm:m=n
     ·rw[if_neg (by omega),if_neg (by omega),if_pos (by omega),if_pos hm]
     ·rw[if_neg hm]
      by_cases hm0:m=0
      ·rw[if_pos hm0]
      ·rw[if_neg hm0]
       by_cases hm2:m%2=1
       ·rw[if_pos hm2]
       ·rw[if_neg hm2,if_neg (by omega)]
 | d+1,.node l u r,n,m,v,h=>by
   have hp:2^(d+1)=2^d*2:=Nat.pow_succ 2 d
   show(bif Nat.beq n 0 then Tr.node l v r else bif Nat.beq (n%2) 1 then Tr.node (Tr.set d l (n/2) v) u r else Tr.node l u (Tr.set d r (n/2-1) v)).get m=_
   rw[Tr.node_get l r u m]
   by_cases h0:n=0
   ·rw[ySo h0,cond_true,Tr.node_get]
    subst h0
    by_cases hm:m=0
    ·rw[if_pos hm,if_pos hm]
    ·rw[if_neg hm,if_neg hm,if_neg hm]
   ·rw[ySn h0,cond_false]
    by_cases h2:n%2=1
    ·rw[ySo h2,cond_true,Tr.node_get,Tr.set_get d l (n/2) (m/2) v (by omega)]
     by_cases hm:m=n
     ·rw[if_neg (by omega),if_pos (by omega),if_pos (by omega),if_pos hm]
     ·rw[if_neg hm]
      by_cases hm0:m=0
      ·rw[if_pos hm0,if_pos hm0]
      ·rw[if_neg hm0,if_neg hm0]
       by_cases hm2:m%2=1
       ·rw[if_pos hm2,if_pos hm2,if_neg (by omega)]
       ·rw[if_neg hm2,if_neg hm2]
    ·rw[ySn h2,cond_false,Tr.node_get,Tr.set_get d r (n/2-1) (m/2-1) v (by omega)]
     by_cases hm:m=n
     ·rw[if_neg (by omega),if_neg (by omega),if_pos (by omega),if_pos hm]
     ·rw[if_neg hm]
      by_cases hm0:m=0
      ·rw[if_pos hm0,if_pos hm0]
      ·rw[if_neg hm0,if_neg hm0]
       by_cases hm2:m%2=1
       ·rw[if_pos hm2,if_pos hm2]
       ·rw[if_neg hm2,if_neg hm2,if_neg (by omega)]
def yBO(T:Tr V):Fr:=fun t=>(T.get t).getD .undef
def okD:Option Tmp->Bool
 | none=>true
 | some t=>Nat.ble t 4000
def putT(T:Tr V)(d:Option Tmp)(x:V):Tr V:=match d with | none=>T | some t=>Tr.set 12 T t (some x)
theorem xAE{T:Tr V}{d:Option Tmp}{x:V}(h:okD d=true):yBO (putT T d x)=(yBO T).put d x:=by
 cases d with
 | none=>rfl
 | some t=>
   have ht:Nat.le t 4000:=Nat.le_of_ble_eq_true h
   have ht2:Nat.lt (t+1) (2^12):=Nat.lt_of_le_of_lt (Nat.succ_le_succ ht) (by decide)
   funext s
   show((Tr.set 12 T t (some x)).get s).getD .undef=(yBO T).set t x s
   rw[Tr.set_get 12 T t s _ ht2,Fr.set_get]
   by_cases hs:s=t
   ·rw[if_pos hs,if_pos hs];rfl
   ·rw[if_neg hs,if_neg hs];rfl
def frT:List V->Nat->Tr V->Tr V
 | [],_,T=>T
 | x::l,i,T=>frT l (i+1) (Tr.set 12 T i (some x))
theorem xMv:∀(l:List V) (i:Nat) (T:Tr V) (t:Nat),i+l.length<=4000->(frT l i T).get t=if i<=t/\t<i+l.length then l[t-i]? else T.get t
 | [],i,T,t,_=>by
   show T.get t=_
   rw[if_neg (by rintro⟨h1,h2⟩;simp at h2;omega)]
 | x::l,i,T,t,h=>by
   have h':i+1+l.length<=4000:=by rw[List.length_cons] at h;omega
   show(frT l (i+1) (Tr.set 12 T i (some x))).get t=_
   rw[xMv l (i+1) _ t h',Tr.set_get 12 T i t _ (by omega)]
   simp only[List.length_cons] at h ⊢
   by_cases h1:i+1<=t/\t<i+1+l.length
   ·rw[if_pos h1,if_pos (by omega),show t-i=(t-(i+1))+1 by omega,List.getElem?_cons_succ]
   ·rw[if_neg h1]
    by_cases h2:t=i
    ·rw[if_pos h2,if_pos (by omega),show t-i=0 by omega,List.getElem?_cons_zero]
    ·rw[if_neg h2,if_neg (by omega)]
theorem yLb{l:List V}(h:l.length<=4000):yBO (frT l 0 .leaf)=frOf l:=by
 funext t
 show((frT l 0 .leaf).get t).getD .undef=(l[t]?).getD .undef
 rw[xMv l 0 .leaf t (by omega)]
 by_cases ht:t<l.length
 ·rw[if_pos ⟨Nat.zero_le _,by omega⟩,Nat.sub_zero]
 ·rw[if_neg (by omega),List.getElem?_eq_none (by omega),Tr.leaf_get]
def xDh(G:Tr Blk'):List Nat->Gs->Option (Tr Blk')
 | [],_=>some G
 | b::r,u=>bif Nat.ble b 1000000 then xDh (Tr.set 20 G b (u b)) r u else none
theorem yOm:∀(W:List Nat) (G G':Tr Blk') (u:Gs),xDh G W u=some G'->G'.get=ov (yE3 W) u G.get
 | [],G,G',u,h=>by
   injection h with h
   subst h
   rfl
 | b::r,G,G',u,h=>by
   obtain⟨hb,h⟩:=yAN h
   have hb:b<=1000000:=Nat.le_of_ble_eq_true hb
   rw[yOm r _ G' u h]
   funext m
   show cond (yE3 r m) (u m) ((Tr.set 20 G b (u b)).get m)=cond (yE3 (b::r) m) (u m) (G.get m)
   rw[Tr.set_get 20 G b m _ (by omega),xNN]
   by_cases hm:m=b
   ·subst hm
    rw[ySo rfl,if_pos rfl,cond_true]
    cases yE3 r m <;> rfl
   ·rw[ySn hm,if_neg hm,cond_false]
def isMapOp:Op->Bool
 | .makeMap _ _=>true
 | .insert _ _ _ _=>true
 | .mapUpdate _ _ _ _=>true
 | .call c=>match c.callee with | .builtin .clear=>true | _=>false
 | _=>false
def nilOp(P:Program)(op:Op)(fr:Fr):Option (Option V):=match op with
 | .binOp o t x y _=>bif isNilC y then some (match nilB P o t (ev fr x) with | some (some q)=>some (.bool q) | _=>none) else none
 | _=>none
theorem xSh{g:Gs}{n:Nat}{b:Blk'}:ov (yE3 [n]) (St.new ⟨g,n⟩ b).get g=(St.new ⟨g,n⟩ b).get:=by
 funext c
 have hW:yE3 [n] c=Nat.beq c n:=by
  unfold yE3
  rw[List.any_cons,List.any_nil,Bool.or_false]
 unfold ov
 rw[hW]
 unfold St.new
 dsimp only
 cases Nat.beq c n <;> rfl
theorem xAG{G G':Tr Blk'}{n:Nat}{b:Blk'}(h:xDh G [n] (St.new ⟨G.get,n⟩ b).get=some G'):G'.get=(St.new ⟨G.get,n⟩ b).get:=(yOm _ _ _ _ h).trans xSh
def mapOp(op:Op)(G:Tr Blk')(c:Nat):Option (V×Tr Blk'×Nat):=match op with
 | .makeMap _ none=>(xDh G [c] (St.new ⟨G.get,c⟩ ⟨[],2,0⟩).get).map fun G'=>(.mp c,G',c+1)
 | _=>none
theorem xDT{op:Op}{G G':Tr Blk'}{c c':Nat}{x:V}(h:mapOp op G c=some (x,G',c')):(∃t,op= .makeMap t none)/\x= .mp c/\c'=c+1/\G'.get=(St.new ⟨G.get,c⟩ ⟨[],2,0⟩).get:=by
 unfold mapOp at h
 split at h
 ·rename_i t
  obtain⟨G1,hu,h⟩:=Option.map_eq_some_iff.1 h
  simp only[Prod.mk.injEq] at h
  obtain⟨rfl,rfl,rfl⟩:=h
  exact⟨⟨t,rfl⟩,rfl,rfl,xAG hu⟩
 ·cases h
def rop(P:Program)(op:Op)(fr:Fr)(G:Tr Blk')(c:Nat):Option (V×Tr Blk'×Nat):=
 bif opS P op then(sop P op fr ⟨G.get,c⟩).bind fun p=>(xDh G (opW op fr c) p.2.get).map fun G'=>(p.1,G',c+1)
 else bif isMapOp op then mapOp op G c
 else match nilOp P op fr with
  | some r=>r.map fun x=>(x,G,c)
  | none=>(vop P op fr ⟨G.get,c⟩).map fun x=>(x,G,c)
theorem xQo{P:Program}{op:Op}{fr:Fr}{st:St}{K:V->St->Prop}(h:opS P op=true):aop P op fr st K=yVD (sop P op fr st) K:=by
 cases op <;> try (simp[opS] at h;done)
 case convert s d x=>
  have h:yVQ P s d=true:=h
  unfold aop
  dsimp only
  rw[h];rfl
 case call c=>
  obtain⟨callee,args,ts⟩:=c
  cases callee <;> try (simp[opS] at h;done)
  case builtin b=>cases b <;> first | rfl | (simp[opS] at h;done)
 all_goals rfl
theorem xQp{P:Program}{op:Op}{fr:Fr}{st:St}{K:V->St->Prop}{x:V}(h:opS P op=false)(hm:isMapOp op=false)(hn:nilOp P op fr=none)(hv:vop P op fr st=some x)(hk:K x st):aop P op fr st K:=by
 have hb:xGB (vop P op fr st) (fun x=>K x st):=by rw[hv];exact hk
 cases op <;> try (simp[opS] at h;done)
 case binOp o t a b u=>
  unfold aop
  dsimp only
  cases hc:isNilC b with
  | true=>unfold nilOp at hn;dsimp only at hn;rw[hc] at hn;cases hn
  | false=>exact hb
 case convert s d y=>
  have h:yVQ P s d=false:=h
  unfold aop
  dsimp only
  rw[h];exact hb
 case call c=>
  obtain⟨callee,args,ts⟩:=c
  cases callee with
  | builtin b=>cases b <;> first | exact hb | (simp[opS] at h;done) | (simp[isMapOp] at hm;done)
  | value f=>simp[vop] at hv
  | invoke a b=>simp[vop] at hv
 all_goals first | exact hb | (simp[isMapOp] at hm;done)
theorem xQn{P:Program}{op:Op}{fr:Fr}{st:St}{K:V->St->Prop}{x:V}(hn:nilOp P op fr=some (some x))(hk:K x st):aop P op fr st K:=by
 cases op <;> try (simp[nilOp] at hn;done)
 case binOp o t a b u=>
  unfold nilOp at hn
  dsimp only at hn
  cases hc:isNilC b with
  | false=>rw[hc] at hn;cases hn
  | true=>
    rw[hc,cond_true] at hn
    injection hn with hn
    unfold aop
    dsimp only
    rw[hc,cond_true]
    unfold xRy
    cases hq:nilB P o t (ev fr a) with
    | none=>rw[hq] at hn;cases hn
    | some q=>cases q with
      | none=>rw[hq] at hn;cases hn
      | some q=>
        rw[hq] at hn
        injection hn with hn
        subst hn
        exact hk
theorem xNs{P:Program}{op:Op}{fr:Fr}{G G':Tr Blk'}{c c':Nat}{x:V}(h:rop P op fr G c=some (x,G',c')){K:V->St->Prop}(hk:K x ⟨G'.get,c'⟩):aop P op fr ⟨G.get,c⟩ K:=by
 unfold rop at h
 cases hS:opS P op with
 | true=>
   rw[hS,cond_true] at h
   obtain⟨⟨y,s'⟩,hs,h⟩:=Option.bind_eq_some_iff.1 h
   obtain⟨G1,hu,h⟩:=Option.map_eq_some_iff.1 h
   simp only[Prod.mk.injEq] at h
   obtain⟨rfl,rfl,rfl⟩:=h
   rw[xQo hS,hs]
   have he:eff P op fr ⟨G.get,c⟩=some (y,s'):=by
    unfold eff
    rw[hS,cond_true];exact hs
   have h2:=(yQu he).2
   rw[hS,cond_true] at h2
   have hg:G1.get=s'.get:=(yOm _ _ _ _ hu).trans h2
   have hc:s'.c=c+1:=by
    obtain⟨p,_,e⟩:=Option.map_eq_some_iff.1 hs
    rw[Prod.mk.injEq] at e
    rw[←e.2]
   have:s'=⟨G1.get,c+1⟩:=by
    cases s' with
    | mk g n=>dsimp only at hg hc;rw[hg,hc]
   show K y s'
   rw[this]
   exact hk
 | false=>
   rw[hS,cond_false] at h
   cases hmp:isMapOp op with
   | true=>
     rw[hmp,cond_true] at h
     obtain⟨⟨t,rfl⟩,rfl,rfl,hg⟩:=xDT h
     show K (V.mp c) ⟨(St.new ⟨G.get,c⟩ ⟨[],2,0⟩).get,c+1⟩
     rw[←hg]
     exact hk
   | false=>
   have hm:=hmp
   rw[hmp,cond_false] at h
   cases hn:nilOp P op fr with
   | some r=>
     rw[hn] at h
     obtain⟨y,rfl,h⟩:=Option.map_eq_some_iff.1 h
     simp only[Prod.mk.injEq] at h
     obtain⟨rfl,rfl,rfl⟩:=h
     exact xQn hn hk
   | none=>
     rw[hn] at h
     obtain⟨y,hv,h⟩:=Option.map_eq_some_iff.1 h
     simp only[Prod.mk.injEq] at h
     obtain⟨rfl,rfl,rfl⟩:=h
     exact xQp hS hm hn hv hk
def scB:Nat->V->Bool
 | 0,_=>false
 | n+1,x=>match x with
   | .bool _=>true
   | .int _ _=>true
   | .str _=>true
   | .nilp=>true
   | .nilfn=>true
   | .agg cs=>cs.all (scB n)
   | .tup cs=>cs.all (scB n)
   | _=>false
theorem xKl:∀(n:Nat) (x:V),scB n x=true->Sc x
 | 0,_,h=>by cases h
 | n+1,x,h=>by
   have all:∀l:List V,l.all (scB n)=true->∀y∈l,Sc y:=fun l hl y hy=>xKl n y (List.all_eq_true.1 hl y hy)
   cases x <;> simp only[scB,reduceCtorEq,Bool.false_eq_true] at h
   case bool b=>exact .bool b
   case int k i=>exact .int k i
   case str s=>exact .str s
   case nilp=>exact .nilp
   case nilfn=>exact .nilfn
   case agg cs=>exact .agg cs (all cs h)
   case tup cs=>exact .tup cs (all cs h)
def yYj(o:Oper)(acc:Acc)(T W:List Nat):Bool:=acc.all fun p=>(xLC p.2.2 T&&xLC W p.2.1) || (o.after.any fun e=>Region.binds .any e&&Nat.beq e.on p.1)
theorem xNW(o:Oper)(acc:Acc)(T W:List Nat):yYj o acc T W=yLe o acc T W:=by
 unfold yYj yLe
 congr 1
 funext p
 exact Bool.or_comm _ _
def names:Nat->Gs->V->List Nat
 | 0,_,_=> []
 | n+1,g,x=>match x with
   | .agg cs=>cs.flatMap (names n g)
   | .tup cs=>cs.flatMap (names n g)
   | .bs b _ _ _=>b::(match g b with | some k=>k.es.flatMap fun r=>r.flatMap (names n g) | none=> [])
   | .ptr b _ _=>b::(match g b with | some k=>k.es.flatMap fun r=>r.flatMap (names n g) | none=> [])
   | _=> []
end Go.Proofs.YtakljpcmbpaeaaaGreat
