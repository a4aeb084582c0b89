/- The awp calculus, 15: what an operation comes to on a part of the store, it comes to on the whole. -/
import Derived.Test.YtakljpcmbpaeaaaGreatMountPlaysM17
set_option linter.unusedSimpArgs false
set_option linter.unusedVariables false
namespace Go.Proofs.YtakljpcmbpaeaaaGreat
open Go.RowKit
structure Sub (T:Nat->Bool) (s t:St):Prop where
 c:s.c=t.c
 get:∀b,s.get b=cond (T b) (t.get b) none
structure SubO (T:Nat->Bool) (t s' t':St):Prop where
 get:∀b,s'.get b=cond (T b) (t'.get b) none
 off:∀b,T b=false->t'.get b=t.get b
section
variable {T:Nat->Bool} {s t s':St} {P:Program} {fr:Fr}
theorem Sub.le(h:Sub T s t){b:Nat}{k:Blk'}(hk:s.get b=some k):t.get b=some k/\T b=true:=by
 rw[h.get] at hk
 cases hT:T b <;> rw[hT] at hk
 ·cases hk
 ·exact⟨hk,rfl⟩
theorem Sub.bind{α:Type}(h:Sub T s t){b:Nat}{f:Blk'->Option α}{x:α}(e:(s.get b).bind f=some x):(t.get b).bind f=some x:=by
 obtain⟨k,hk,hx⟩:=Option.bind_eq_some_iff.1 e
 rw[(h.le hk).1];exact hx
theorem Sub.refl'(h:Sub T s t):SubO T t s t:=⟨h.get,fun _ _=>rfl⟩
theorem Sub.new(h:Sub T s t)(hT:T s.c=true)(k:Blk'):SubO T t (s.new k) (t.new k):=by
 refine⟨fun b=>?_,fun b hb=>?_⟩
 ·rw[St.get_new,St.get_new,←h.c,h.get]
  by_cases e:b=s.c
  ·subst e;rw[if_pos rfl,if_pos rfl,hT];rfl
  ·rw[if_neg e,if_neg e]
 ·rw[St.get_new,←h.c,if_neg (by rintro rfl;rw[hT] at hb;cases hb)]
theorem Sub.set(h:Sub T s t){b:Nat}(hT:T b=true)(k:Blk'):SubO T t (s.set b k) (t.set b k):=by
 refine⟨fun x=>?_,fun x hx=>?_⟩
 ·rw[St.get_set,St.get_set,h.get]
  by_cases e:x=b
  ·subst e;rw[if_pos rfl,if_pos rfl,hT];rfl
  ·rw[if_neg e,if_neg e]
 ·rw[St.get_set,if_neg (by rintro rfl;rw[hT] at hx;cases hx)]
theorem Sub.delNew(h:Sub T s t){b:Nat}(hT:T b=true)(hc:T s.c=true)(k:Blk'):SubO T t ((s.del b).new k) ((t.del b).new k):=by
 refine⟨fun x=>?_,fun x hx=>?_⟩
 ·rw[St.get_new,St.get_new,St.get_del,St.get_del,h.get]
  show(if x=s.c then _ else _)=cond (T x) (if x=t.c then _ else _) none
  rw[←h.c]
  by_cases e:x=s.c
  ·subst e;rw[if_pos rfl,if_pos rfl,hc];rfl
  ·rw[if_neg e,if_neg e]
   by_cases e2:x=b
   ·subst e2;rw[if_pos rfl,if_pos rfl,hT];rfl
   ·rw[if_neg e2,if_neg e2]
 ·rw[St.get_new,St.get_del]
  show(if x=t.c then _ else _)=_
  rw[←h.c,if_neg (by rintro rfl;rw[hc] at hx;cases hx),if_neg (by rintro rfl;rw[hT] at hx;cases hx)]
theorem xOS(h:Sub T s t){n:Nat}{ag:Bool}{p x:V}(e:vLoad n ag s p=some x):vLoad n ag t p=some x:=by
 unfold vLoad at e ⊢
 cases p with
 | ptr b i j=>
   cases hb:cellsAt s (.ptr b i j) with
   | none=>rw[hb] at e;cases e
   | some cs=>rw[hb] at e;rw[show cellsAt t (.ptr b i j)=some cs from h.bind hb];exact e
 | _=>exact e
theorem xDA(h:Sub T s t){ty:TypeId}{y ix x:V}(e:vIndexAddr P ty s y ix=some x):vIndexAddr P ty t y ix=some x:=by
 cases ix with
 | int k n=>
   unfold vIndexAddr at e ⊢
   dsimp only at e ⊢
   cases h0:decide (n<0) <;> rw[h0] at e
   ·rw[cond_false] at e ⊢
    split at e
    ·obtain⟨ie,hie,e⟩:=Option.bind_eq_some_iff.1 e
     rw[hie,Option.bind_some]
     cases y with
     | bs b i m c=>exact h.bind e
     | _=>exact e
    ·exact e
    ·cases e
   ·cases e
 | _=>exact e
theorem xAd(h:Sub T s t){y:V}{x:List (List V)}(e:elemsOf s y=some x):elemsOf t y=some x:=by
 cases y with
 | bs b i n c=>exact h.bind e
 | _=>exact e
theorem xML(h:Sub T s t){ty:TypeId}{y x:V}{lo hi mx:Option V}(e:vSlice P ty s y lo hi mx=some x):vSlice P ty t y lo hi mx=some x:=by
 unfold vSlice at e ⊢
 split at e
 ·exact e
 ·obtain⟨ie,hie,e⟩:=Option.bind_eq_some_iff.1 e
  rw[hie,Option.bind_some]
  cases h0:(hi.isNone&&mx.isSome) <;> rw[h0] at e
  ·rw[cond_false] at e ⊢
   cases y with
   | bs b i m c=>exact h.bind e
   | _=>exact e
  ·cases e
 ·cases e
theorem xOR(h:Sub T s t){a d:TypeId}{y x:V}(e:vConv P a d s y=some x):vConv P a d t y=some x:=by
 unfold vConv at e ⊢
 split at e
 ·rename_i ua ud ha hd
  split at e
  ·exact e
  ·try dsimp only
   split at e
   ·exact e
   ·rename_i hne
    split at e
    ·obtain⟨es,hes,e⟩:=Option.bind_eq_some_iff.1 e
     rw[xAd h hes];exact e
    ·cases e
   ·cases e
  ·cases e
 ·cases e
theorem xKE(h:Sub T s t){ty:TypeId}{y k x:V}{ok:Bool}(e:vLookup P ty s y k ok=some x):vLookup P ty t y k ok=some x:=by
 unfold vLookup at e ⊢
 split at e
 ·split at e
  ·rename_i kd _
   try dsimp only
   cases hq:isKeyV kd k with
   | false=>rw[hq] at e;cases e
   | true=>
     rw[hq,cond_true] at e
     try dsimp only
     split at e
     ·exact h.bind e
     ·cases e
  ·cases e
 ·cases e
theorem xRr(h:Sub T s t){op:Op}{x:V}(e:vop P op fr s=some x):vop P op fr t=some x:=by
 cases op
 case load ty p=>
  unfold vop at e ⊢
  dsimp only at e ⊢
  split at e
  ·exact xOS h e
  ·cases e
 case convert a d y=>exact xOR h e
 case slice ty y lo hi mx=>exact xML h e
 case indexAddr ty y i=>exact xDA h e
 case lookup ty y i ok=>exact xKE h e
 all_goals exact e
theorem xLu(h:Sub T s t)(hT:T s.c=true){ty:TypeId}{x:V}(e:sAlloc P ty s=some (x,s')):∃t',sAlloc P ty t=some (x,t')/\SubO T t s' t':=by
 unfold sAlloc at e ⊢
 split at e
 ·split at e
  ·rename_i z _
   cases hz:z.cells.toList.all (·.oneCell') <;> rw[hz] at e
   ·cases e
   ·injection e with e;injection e with e1 e;subst e;subst e1
    exact⟨_,by rw[cond_true,h.c],h.new hT _⟩
  ·cases e
 ·cases e
theorem xBj(h:Sub T s t)(hT:T s.c=true){ty:TypeId}{n:Nat}{ps:List (Nat×V)}{x:V}(e:sBuildSlice P ty n ps s=some (x,s')):∃t',sBuildSlice P ty n ps t=some (x,t')/\SubO T t s' t':=by
 unfold sBuildSlice at e ⊢
 split at e
 ·split at e
  ·split at e
   ·cases h0:Nat.beq n 0 <;> rw[h0] at e
    ·rw[cond_false] at e ⊢
     generalize hq:(Nat.ble _ _&&_&&_)=q at e ⊢
     cases q
     ·cases e
     ·obtain⟨es,hes,e⟩:=Option.map_eq_some_iff.1 e
      injection e with e1 e;subst e;subst e1
      exact⟨_,by rw[cond_true,hes,Option.map_some,h.c],h.new hT _⟩
    ·rw[cond_true] at e ⊢
     split at e
     ·injection e with e;injection e with e1 e;subst e;subst e1;exact⟨_,rfl,h.refl'⟩
     ·cases e
   ·cases e
  ·cases e
 ·cases e
theorem xN6(h:Sub T s t)(hT:T s.c=true){ty:TypeId}{l c x:V}(e:sMake P ty l c s=some (x,s')):∃t',sMake P ty l c t=some (x,t')/\SubO T t s' t':=by
 unfold sMake at e ⊢
 split at e
 ·split at e
  ·split at e
   ·split at e
    ·try dsimp only
     generalize hq:(_&&Nat.beq _ _)=q at e ⊢
     cases q
     ·cases e
     ·injection e with e;injection e with e1 e;subst e;subst e1
      exact⟨_,by rw[cond_true,h.c],h.new hT _⟩
    ·cases e
   ·cases e
  ·cases e
 ·cases e
theorem xLx(h:Sub T s t)(hT:T s.c=true){a d:TypeId}{y x:V}(e:sBytes P a d y s=some (x,s')):∃t',sBytes P a d y t=some (x,t')/\SubO T t s' t':=by
 unfold sBytes at e ⊢
 split at e
 ·try dsimp only
  split at e
  ·injection e with e;injection e with e1 e;subst e;subst e1
   exact⟨_,by rw[h.c],h.new hT _⟩
  ·cases e
 ·cases e
theorem xP2(h:Sub T s t){p:V}{cs:List V}(e:wrAt s p cs=some s'):∃t',wrAt t p cs=some t'/\SubO T t s' t':=by
 unfold wrAt at e ⊢
 split at e
 ·obtain⟨k,hk,e⟩:=Option.bind_eq_some_iff.1 e
  obtain⟨row,hr,e⟩:=Option.bind_eq_some_iff.1 e
  obtain⟨hk',hT⟩:=h.le hk
  try dsimp only
  rw[hk',Option.bind_some,hr,Option.bind_some]
  generalize hq:(Nat.ble _ _&&_)=q at e ⊢
  cases q
  ·cases e
  ·injection e with e;subst e
   exact⟨_,rfl,h.set hT _⟩
 ·cases e
theorem xJ5(h:Sub T s t){ty:TypeId}{n:Nat}{y:V}{x:List (List V)}(e:srcRows P ty n y s=some x):srcRows P ty n y t=some x:=by
 unfold srcRows at e ⊢
 split at e
 ·exact e
 ·obtain⟨ns,hns,e⟩:=Option.bind_eq_some_iff.1 e
  try dsimp only
  rw[xAd h hns];exact e
 ·cases e
theorem xJr(h:Sub T s t)(hT:T s.c=true){ta tb:TypeId}{y z x:V}(e:sAppend P ta tb y z s=some (x,s')):∃t',sAppend P ta tb y z t=some (x,t')/\SubO T t s' t':=by
 unfold sAppend at e ⊢
 split at e
 ·split at e
  ·split at e
   ·generalize hq:(Nat.beq _ _)=q at e ⊢
    cases q
    ·cases e
    ·rw[cond_true] at e ⊢
     obtain⟨ns,hns,e⟩:=Option.bind_eq_some_iff.1 e
     rw[xJ5 h hns,Option.bind_some]
     split at e
     ·rename_i b' i n cap _
      obtain⟨k,hk,e⟩:=Option.bind_eq_some_iff.1 e
      obtain⟨hk',hTb⟩:=h.le hk
      try dsimp only
      rw[hk',Option.bind_some]
      generalize hq:(Nat.beq k.sz _)=q at e ⊢
      cases q
      ·cases e
      ·rw[cond_true] at e ⊢
       generalize hq:(Nat.beq (i+n) _)=q at e ⊢
       cases q
       ·rw[cond_false] at e ⊢
        generalize hq:(Nat.ble _ _&&_&&_)=q at e ⊢
        cases q
        ·cases e
        ·injection e with e;injection e with e1 e;subst e;subst e1
         exact⟨_,rfl,h.set hTb _⟩
       ·rw[cond_true] at e ⊢
        rw[Bool.cond_eq_ite] at e ⊢
        split at e
        ·rename_i hc
         injection e with e;injection e with e1 e;subst e;subst e1
         exact⟨_,by rw[if_pos hc,h.c],h.delNew hTb hT _⟩
        ·cases e
     ·try dsimp only
      rw[Bool.cond_eq_ite] at e ⊢
      split at e
      ·rename_i hc
       injection e with e;injection e with e1 e;subst e;subst e1
       exact⟨_,by rw[if_pos hc,h.c],h.new hT _⟩
      ·cases e
     ·cases e
   ·cases e
  ·cases e
 ·cases e
theorem xBl(h:Sub T s t){ty:TypeId}{y k v:V}(e:yGH P ty y k v s=some s'):∃t',yGH P ty y k v t=some t'/\SubO T t s' t':=by
 unfold yGH at e ⊢
 split at e
 ·split at e
  ·rename_i kd _
   try dsimp only
   cases hq:isKeyV kd k with
   | false=>rw[hq] at e;cases e
   | true=>
     rw[hq,cond_true] at e
     try rw[cond_true]
     split at e
     ·rename_i b
      obtain⟨blk,hb,e⟩:=Option.bind_eq_some_iff.1 e
      obtain⟨hb',hTb⟩:=h.le hb
      try dsimp only
      rw[hb',Option.bind_some]
      generalize hq:(blk.es.all (keyRow kd)&&_)=q at e ⊢
      cases q
      ·cases e
      ·injection e with e;subst e
       exact⟨_,rfl,h.set hTb _⟩
     ·cases e
  ·cases e
 ·cases e
theorem xLz(h:Sub T s t){ty:TypeId}{y:V}{s':St}(e:sClear P ty y s=some s'):∃t',sClear P ty y t=some t'/\SubO T t s' t':=by
 unfold sClear at e ⊢
 split at e
 ·split at e
  ·split at e
   ·obtain⟨k,hk,e⟩:=Option.bind_eq_some_iff.1 e
    try dsimp only
    generalize hq:(_&&Nat.ble _ _)=q at e
    cases q
    ·cases e
    ·injection e with e;subst e
     obtain⟨hk',hT⟩:=h.le hk
     exact⟨_,by rw[hk',Option.bind_some,hq];rfl,h.set hT _⟩
   ·cases e
  ·cases e
 ·cases e
theorem xRj(h:Sub T s t)(hT:T s.c=true){op:Op}{x:V}(e:sop P op fr s=some (x,s')):∃t',sop P op fr t=some (x,t')/\SubO T t s' t':=by
 obtain⟨⟨x0,s0⟩,hs,e0⟩:=Option.map_eq_some_iff.1 e
 rw[Prod.mk.injEq] at e0
 obtain⟨rfl,rfl⟩:=e0
 clear e
 suffices hh:∃t',sop0 P op fr t=some (x0,t')/\SubO T t s0 t' by
  obtain⟨t',h1,h2⟩:=hh
  exact⟨⟨t'.get,t.c+1⟩,by unfold sop;rw[h1];rfl,⟨h2.get,h2.off⟩⟩
 cases op
 case alloc ty=>exact xLu h hT hs
 case box ty y=>
  obtain⟨cs,hcs,e⟩:=Option.map_eq_some_iff.1 (show xQb (ev fr y) s=some (x0,s0) from hs)
  injection e with e1 e;subst e;subst e1
  exact⟨_,by show xQb (ev fr y) t=_;unfold xQb;rw[hcs,Option.map_some,h.c],h.new hT _⟩
 case buildSlice ty n ps=>exact xBj h hT hs
 case makeSlice ty l c=>exact xN6 h hT hs
 case store ty p y=>
  obtain⟨s1,hs1,e⟩:=Option.map_eq_some_iff.1 (show(sStore P ty (ev fr p) (ev fr y) s).map (fun st'=>(V.tup [],st'))=some (x0,s0) from hs)
  injection e with e1 e;subst e;subst e1
  show ∃t',(sStore P ty (ev fr p) (ev fr y) t).map (fun st'=>(V.tup [],st'))=_/\_
  unfold sStore at hs1 ⊢
  split at hs1
  ·try dsimp only
   generalize hq:(Nat.beq _ _)=q at hs1 ⊢
   cases q
   ·cases hs1
   ·obtain⟨t',h1,h2⟩:=xP2 h hs1
    exact⟨t',by rw[cond_true,h1];rfl,h2⟩
  ·cases hs1
 case convert a d y=>exact xLx h hT hs
 case makeMap ty r=>
  cases r with
  | some r=>cases hs
  | none=>
    have hs:some (V.mp s.c,s.new ⟨[],2,0⟩)=some (x0,s0):=hs
    injection hs with hs
    injection hs with e1 e2
    subst e1 e2
    exact⟨_,by show some (V.mp t.c,t.new ⟨[],2,0⟩)=_;rw[h.c],h.new hT _⟩
 case insert ty m k y=>
  obtain⟨s1,hs1,e⟩:=Option.map_eq_some_iff.1 (show(yGH P ty (ev fr m) (ev fr k) (ev fr y) s).map (fun st'=>(V.tup [],st'))=some (x0,s0) from hs)
  injection e with e1 e;subst e;subst e1
  obtain⟨t',h1,h2⟩:=xBl h hs1
  exact⟨t',by show(yGH P ty (ev fr m) (ev fr k) (ev fr y) t).map (fun st'=>(V.tup [],st'))=_;rw[h1];rfl,h2⟩
 case mapUpdate ty m k y=>
  obtain⟨s1,hs1,e⟩:=Option.map_eq_some_iff.1 (show(yGH P ty (ev fr m) (ev fr k) (ev fr y) s).map (fun st'=>(V.tup [],st'))=some (x0,s0) from hs)
  injection e with e1 e;subst e;subst e1
  obtain⟨t',h1,h2⟩:=xBl h hs1
  exact⟨t',by show(yGH P ty (ev fr m) (ev fr k) (ev fr y) t).map (fun st'=>(V.tup [],st'))=_;rw[h1];rfl,h2⟩
 case call c=>
  unfold sop0 at hs ⊢
  dsimp only at hs ⊢
  split at hs
  ·split at hs
   ·exact xJr h hT hs
   ·cases hs
  ·split at hs
   ·obtain⟨s1,hs1,e⟩:=Option.map_eq_some_iff.1 hs
    injection e with e1 e;subst e;subst e1
    obtain⟨t',h1,h2⟩:=xLz h hs1
    exact⟨t',by rw[h1];rfl,h2⟩
   ·cases hs
  ·cases hs
 all_goals exact absurd hs (fun hh=>by cases (hh:(none:Option (V×St))=some (x0,s0)))
end
end Go.Proofs.YtakljpcmbpaeaaaGreat
