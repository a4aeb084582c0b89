/- The awp calculus, 22: regions that draw their order, by a walk that simp may run. -/
import Derived.Test.YtakljpcmbpaeaaaGreatMountPlaysM21
set_option linter.unusedSimpArgs false
set_option linter.unusedVariables false
namespace Go.Proofs.YtakljpcmbpaeaaaGreat
open Go.RowKit
abbrev Acc:=List (Nat×List Nat×List Nat)
def ft:V->List Nat
 | .ptr b _ _=> [b]
 | .bs b _ _ _=> [b]
 | .mp b=> [b]
 | _=> []
def opT(op:Op)(fr:Fr):List Nat:=match op with
 | .load _ x=>ft (ev fr x)
 | .indexAddr _ x _=>ft (ev fr x)
 | .lookup _ x _ _=>ft (ev fr x)
 | .slice _ x _ _ _=>ft (ev fr x)
 | .convert _ _ x=>ft (ev fr x)
 | .store _ p _=>ft (ev fr p)
 | .call c=>match c.callee with
   | .builtin .append=>match c.args.toList with | [s,x]=>ft (ev fr s)++ft (ev fr x) | _=> []
   | .builtin .clear=>match c.args.toList with | [s]=>ft (ev fr s) | _=> []
   | _=> []
 | _=> []
def opW(op:Op)(fr:Fr)(n:Nat):List Nat:=match op with
 | .store _ p _=>ft (ev fr p)
 | .call c=>match c.callee with
   | .builtin .append=>match c.args.toList with | [s,_]=>n::ft (ev fr s) | _=> [n]
   | .builtin .clear=>match c.args.toList with | [s]=>ft (ev fr s) | _=> [n]
   | _=> [n]
 | _=> [n]
theorem yAN{α:Type}{c:Bool}{x:Option α}{y:α}(h:(bif c then x else none)=some y):c=true/\x=some y:=by cases c with | true=>exact⟨rfl,h⟩ | false=>cases h
section
variable {P:Program} {fr:Fr} {s t:St}
theorem xK7{v:V}(h:∀b∈ft v,s.get b=t.get b):cellsAt s v=cellsAt t v:=by
 cases v <;> first | rfl | (simp only[cellsAt];rw[h _ (by simp[ft])])
theorem xPu{n:Nat}{ag:Bool}{v:V}(h:∀b∈ft v,s.get b=t.get b):vLoad n ag s v=vLoad n ag t v:=by unfold vLoad;rw[xK7 h]
theorem xDK{v:V}(h:∀b∈ft v,s.get b=t.get b):elemsOf s v=elemsOf t v:=by
 cases v <;> first | rfl | (simp only[elemsOf];rw[h _ (by simp[ft])])
theorem xFs{ty:TypeId}{v i:V}(h:∀b∈ft v,s.get b=t.get b):vIndexAddr P ty s v i=vIndexAddr P ty t v i:=by
 cases v <;> first | rfl | (simp only[vIndexAddr];rw[h _ (by simp[ft])])
theorem xOT{ty:TypeId}{v:V}{lo hi mx:Option V}(h:∀b∈ft v,s.get b=t.get b):vSlice P ty s v lo hi mx=vSlice P ty t v lo hi mx:=by
 cases v <;> first | rfl | (simp only[vSlice];rw[h _ (by simp[ft])])
def xQg(P:Program)(src dst:TypeId)(q:Option (List (List V)))(x:V):Option V:=
 match P.underlying src,P.underlying dst with
 | some s,some d=>match d with
   | .int k'=>match x with | .int _ n=>some (.int k' (k'.wrap n)) | _=>none
   | .string=>match x,s with
     | .str t,_=>some (.str t)
     | _,.slice e=>match P.underlying e with
       | some (.int .u8)=>q.bind fun es=>(bytesOf es).map fun ns=> .str ⟨(ns.map fun n=>UInt8.ofNat n.toNat).toArray⟩
       | _=>none
     | _,_=>none
   | _=>none
 | _,_=>none
theorem xPt{a d:TypeId}{v:V}(h:∀b∈ft v,s.get b=t.get b):vConv P a d s v=vConv P a d t v:=by
 have e:=xDK h
 have k:∀st,vConv P a d st v=xQg P a d (elemsOf st v) v:=fun st=>by
  unfold vConv xQg
  cases P.underlying a with
  | none=>rfl
  | some s=>cases P.underlying d with
    | none=>rfl
    | some d=>cases d <;> first | rfl | (cases v <;> first | rfl | (cases s <;> rfl))
 rw[k,k,e]
theorem xL2{ty:TypeId}{n:Nat}{v:V}(h:∀b∈ft v,s.get b=t.get b):srcRows P ty n v s=srcRows P ty n v t:=by
 have:=xDK h
 cases v <;> first | rfl | (simp only[srcRows,this];done) | (simp only[srcRows,elemsOf];done)
theorem xMH{ty:TypeId}{v i:V}{ok:Bool}(h:∀b∈ft v,s.get b=t.get b):vLookup P ty s v i ok=vLookup P ty t v i ok:=by
 cases v with
 | mp b=>simp only[vLookup];rw[h _ (by simp[ft])]
 | _=>rfl
theorem xS8{op:Op}(h:∀b∈opT op fr,s.get b=t.get b):vop P op fr s=vop P op fr t:=by
 cases op with
 | load ty x=>simp only[vop];cases P.underlying ty <;> cases P.info? ty <;> first | rfl | exact xPu h
 | indexAddr ty x i=>exact xFs h
 | lookup ty x i ok=>exact xMH h
 | slice ty x lo hi mx=>exact xOT h
 | convert a d x=>exact xPt h
 | _=>rfl
def Fp(W:List Nat)(s s' t t':St):Prop:=∀b,(b∈W/\t'.get b=s'.get b)\/(t'.get b=t.get b/\s'.get b=s.get b)
theorem Fp.new{k:Blk'}(hc:s.c=t.c):Fp [s.c] s (s.new k) t (t.new k):=fun b=>by
 rw[St.get_new,St.get_new,←hc]
 by_cases e:b=s.c
 ·exact .inl ⟨by simp[e],by rw[if_pos e,if_pos e]⟩
 ·exact .inr ⟨if_neg e,if_neg e⟩
theorem Fp.same{W:List Nat}:Fp W s s t t:=fun _=> .inr ⟨rfl,rfl⟩
theorem Fp.set{b:Nat}{k:Blk'}:Fp [b] s (s.set b k) t (t.set b k):=fun x=>by
 rw[St.get_set,St.get_set]
 by_cases e:x=b
 ·exact .inl ⟨by simp[e],by rw[if_pos e,if_pos e]⟩
 ·exact .inr ⟨if_neg e,if_neg e⟩
theorem Fp.more{W W':List Nat}{s' t':St}(h:Fp W s s' t t')(hW:∀b∈W,b∈W'):Fp W' s s' t t':=fun b=>(h b).imp (fun h=>⟨hW _ h.1,h.2⟩) id
theorem Fp.delNew{b:Nat}{k:Blk'}(hc:s.c=t.c):Fp [s.c,b] s ((s.del b).new k) t ((t.del b).new k):=fun x=>by
 rw[St.get_new,St.get_new,St.get_del,St.get_del]
 show _\/((if x=t.c then _ else _)=_/\(if x=s.c then _ else _)=_)
 rw[show(s.del b).c=s.c from rfl,show(t.del b).c=t.c from rfl,←hc]
 by_cases e:x=s.c
 ·exact .inl ⟨by simp[e],by rw[if_pos e,if_pos e]⟩
 ·by_cases e2:x=b
  ·exact .inl ⟨by simp[e2],by rw[if_neg e,if_neg e,if_pos e2,if_pos e2]⟩
  ·exact .inr ⟨by rw[if_neg e,if_neg e2],by rw[if_neg e,if_neg e2]⟩
theorem xN7{ty:TypeId}{p x:V}{s':St}(h:∀b∈ft p,s.get b=t.get b)(e:sStore P ty p x s=some s'):∃t',sStore P ty p x t=some t'/\Fp (ft p) s s' t t':=by
 unfold sStore at e ⊢
 split at e
 ·rename_i i cs hi hx
  cases hb:Nat.beq cs.length i.size with
  | false=>rw[hb] at e;cases e
  | true=>
    rw[hb,cond_true] at e
    cases p with
    | ptr b i' j=>
      have hg:=h b (by simp[ft])
      unfold wrAt at e
      dsimp only at e
      obtain⟨k,hk,e⟩:=Option.bind_eq_some_iff.1 e
      obtain⟨row,hr,e⟩:=Option.bind_eq_some_iff.1 e
      cases hb2:(Nat.ble k.lk i'&&Nat.ble (j+cs.length) row.length) with
      | false=>rw[hb2] at e;cases e
      | true=>
        rw[hb2,cond_true,Option.some.injEq] at e
        subst e
        refine⟨_,?_,Fp.set⟩
        rw[cond_true]
        unfold wrAt
        dsimp only
        rw[←hg,hk,Option.bind_some,hr,Option.bind_some,hb2,cond_true]
    | _=>cases e
 ·cases e
theorem xLv{t1 t2:TypeId}{a x y:V}{s':St}(hc:s.c=t.c)(h:∀b∈ft a++ft x,s.get b=t.get b)(e:sAppend P t1 t2 a x s=some (y,s')):∃t',sAppend P t1 t2 a x t=some (y,t')/\Fp (s.c::ft a) s s' t t':=by
 unfold sAppend at e ⊢
 have hx:∀n,srcRows P t2 n x t=srcRows P t2 n x s:=fun n=>(xL2 fun b hb=>h b (List.mem_append_right _ hb)).symm
 split at e
 ·split at e
  ·split at e
   ·rename_i _ ie _ _ z _
    cases hz:Nat.beq z.cells.size ie.size with
    | false=>rw[hz] at e;cases e
    | true=>
      rw[hz,cond_true] at e
      rw[cond_true,hx]
      obtain⟨ns,hn,e⟩:=Option.bind_eq_some_iff.1 e
      rw[hn,Option.bind_some]
      cases a with
      | bs b i n cap=>
        dsimp only at e ⊢
        have hg:=h b (by simp[ft])
        obtain⟨k,hk,e⟩:=Option.bind_eq_some_iff.1 e
        rw[←hg,hk,Option.bind_some]
        cases h1:Nat.beq k.sz ie.size with
        | false=>rw[h1] at e;cases e
        | true=>
          rw[h1,cond_true] at e
          rw[cond_true]
          cases h2:Nat.beq (i+n) k.es.length with
          | true=>
            rw[h2,cond_true] at e
            rw[cond_true]
            cases h3:(decide ((n+ns.length)*ie.bytes<=140737488355328)&&decide (n+ns.length<=9223372036854775807)) with
            | false=>rw[h3] at e;cases e
            | true=>
              rw[h3,cond_true,Option.some.injEq,Prod.mk.injEq] at e
              obtain⟨rfl,rfl⟩:=e
              rw[hc]
              exact⟨_,rfl,hc▸Fp.delNew hc⟩
          | false=>
            rw[h2,cond_false] at e
            rw[cond_false]
            cases h3:(Nat.ble (n+ns.length) cap&&Nat.ble (i+n+ns.length) k.es.length&&Nat.ble k.lk (i+n)) with
            | false=>rw[h3] at e;cases e
            | true=>
              rw[h3,cond_true,Option.some.injEq,Prod.mk.injEq] at e
              obtain⟨rfl,rfl⟩:=e
              exact⟨_,rfl,Fp.set.more (by simp[ft])⟩
      | sl es full=>
        dsimp only at e ⊢
        obtain⟨h3,e⟩:=yAN e
        rw[Option.some.injEq,Prod.mk.injEq] at e
        obtain⟨rfl,rfl⟩:=e
        rw[h3,cond_true,hc]
        exact⟨_,rfl,(hc▸Fp.new hc:Fp [t.c] s _ t _).more (by simp)⟩
      | _=>cases e
   ·cases e
  ·cases e
 ·cases e
theorem xN5{ty:TypeId}{x:V}{s':St}(h:∀b∈ft x,s.get b=t.get b)(e:sClear P ty x s=some s'):∃t',sClear P ty x t=some t'/\Fp (ft x) s s' t t':=by
 unfold sClear at e ⊢
 split at e
 ·rename_i el b i n cap hu
  split at e
  ·split at e
   ·obtain⟨k,hk,e⟩:=Option.bind_eq_some_iff.1 e
    obtain⟨h2,e⟩:=yAN e
    injection e with e
    subst e
    refine⟨_,?_,Fp.set⟩
    rw[←h b (by simp[ft]),hk,Option.bind_some,h2,cond_true]
   ·cases e
  ·cases e
 ·cases e
theorem xRh{op:Op}(hop:opS P op=true){x:V}{s':St}(hc:s.c=t.c)(h:∀b∈opT op fr,s.get b=t.get b)(e:sop0 P op fr s=some (x,s')):∃t',sop0 P op fr t=some (x,t')/\Fp (opW op fr s.c) s s' t t':=by
 cases op with
 | alloc ty=>
   simp only[sop0,sAlloc] at e ⊢
   split at e
   ·split at e
    ·rename_i z hz
     cases hb:z.cells.toList.all (·.oneCell') with
     | false=>rw[hb] at e;cases e
     | true=>
       rw[hb,cond_true,Option.some.injEq,Prod.mk.injEq] at e
       obtain⟨rfl,rfl⟩:=e
       rw[cond_true,hc]
       exact⟨_,rfl,hc▸Fp.new hc⟩
    ·cases e
   ·cases e
 | box ty y=>
   simp only[sop0,xQb] at e ⊢
   obtain⟨cs,h1,e⟩:=Option.map_eq_some_iff.1 e
   rw[Prod.mk.injEq] at e
   obtain⟨rfl,rfl⟩:=e
   rw[h1,hc]
   exact⟨_,rfl,hc▸Fp.new hc⟩
 | buildSlice ty n ps=>
   simp only[sop0,sBuildSlice] at e ⊢
   split at e
   ·split at e
    ·split at e
     ·cases hn:Nat.beq n 0 with
      | true=>
        rw[hn,cond_true] at e
        rw[cond_true]
        split at e
        ·rw[Option.some.injEq,Prod.mk.injEq] at e
         obtain⟨rfl,rfl⟩:=e
         exact⟨_,rfl,Fp.same⟩
        ·cases e
      | false=>
        rw[hn,cond_false] at e
        rw[cond_false]
        rename_i ie _ _ _ _
        cases h3:(Nat.ble (n*ie.size) 16777216&&Nat.ble 1 ie.size&&Nat.beq (ps.toList.map fun p=>(p.1,ev fr p.2)).length n) with
        | false=>rw[h3] at e;cases e
        | true=>
          rw[h3,cond_true] at e
          rw[cond_true]
          obtain⟨es,h1,e⟩:=Option.map_eq_some_iff.1 e
          rw[Prod.mk.injEq] at e
          obtain⟨rfl,rfl⟩:=e
          rw[h1,hc]
          exact⟨_,rfl,hc▸Fp.new hc⟩
     ·cases e
    ·cases e
   ·cases e
 | makeSlice ty l c=>
   simp only[sop0,sMake] at e ⊢
   split at e
   ·split at e
    ·split at e
     ·split at e
      ·obtain⟨h3,e⟩:=yAN e
       rw[Option.some.injEq,Prod.mk.injEq] at e
       obtain⟨rfl,rfl⟩:=e
       rw[h3,cond_true,hc]
       exact⟨_,rfl,hc▸Fp.new hc⟩
      ·cases e
     ·cases e
    ·cases e
   ·cases e
 | store ty p y=>
   simp only[sop0] at e ⊢
   obtain⟨s1,h1,e⟩:=Option.map_eq_some_iff.1 e
   rw[Prod.mk.injEq] at e
   obtain⟨rfl,rfl⟩:=e
   obtain⟨t',h2,h3⟩:=xN7 h h1
   exact⟨t',by rw[h2];rfl,h3⟩
 | convert a d y=>
   simp only[sop0,sBytes] at e ⊢
   split at e
   ·split at e
    ·rw[Option.some.injEq,Prod.mk.injEq] at e
     obtain⟨rfl,rfl⟩:=e
     rw[hc]
     exact⟨_,rfl,hc▸Fp.new hc⟩
    ·cases e
   ·cases e
 | call c=>
   obtain⟨callee,args,ts⟩:=c
   cases callee with
   | builtin b=>
     cases b <;> first
      | cases e
      | (simp only[sop0] at e ⊢
         simp only[opT] at h
         simp only[opW]
         split at e
         ·rename_i e1 e2
          rw[e1] at h ⊢
          exact xLv hc h e
         ·cases e)
      | (simp only[sop0] at e ⊢
         simp only[opT] at h
         simp only[opW]
         split at e
         ·rename_i e1 e2
          rw[e1] at h ⊢
          obtain⟨s1,h1,e⟩:=Option.map_eq_some_iff.1 e
          rw[Prod.mk.injEq] at e
          obtain⟨rfl,rfl⟩:=e
          obtain⟨t',h2,h3⟩:=xN5 h h1
          exact⟨t',by rw[h2];rfl,h3⟩
         ·cases e)
   | _=>cases e
 | makeMap ty r=>cases hop
 | insert ty m k y=>cases hop
 | mapUpdate ty m k y=>cases hop
 | _=>cases e
theorem xSJ{op:Op}{x:V}{s':St}(hc:s.c=t.c)(h:∀b∈opT op fr,s.get b=t.get b)(e:eff P op fr s=some (x,s')):∃t',eff P op fr t=some (x,t')/\Fp (bif opS P op then opW op fr s.c else []) s s' t t':=by
 unfold eff at e ⊢
 cases hop:opS P op with
 | true=>
   rw[hop,cond_true] at e
   obtain⟨⟨x0,s0⟩,h1,e⟩:=Option.map_eq_some_iff.1 e
   rw[Prod.mk.injEq] at e
   obtain⟨rfl,rfl⟩:=e
   obtain⟨t',h2,h3⟩:=xRh hop hc h h1
   exact⟨⟨t'.get,t.c+1⟩,by unfold sop;rw[cond_true,h2];rfl,h3⟩
 | false=>
   rw[hop,cond_false] at e
   obtain⟨x0,h1,e⟩:=Option.map_eq_some_iff.1 e
   rw[Prod.mk.injEq] at e
   obtain⟨rfl,rfl⟩:=e
   exact⟨t,by rw[cond_false,←xS8 h,h1];rfl,Fp.same⟩
theorem xRN{op:Op}{n b:Nat}(h:b∈opW op fr n):b∈n::opT op fr:=by
 cases op with
 | store ty p y=>exact List.mem_cons_of_mem _ h
 | call c=>
   obtain⟨callee,args,ts⟩:=c
   cases callee with
   | builtin q=>
     cases q <;> first
      | exact List.mem_cons.2 (.inl (by simpa[opW] using h))
      | (simp only[opW] at h
         simp only[opT]
         split at h
         ·exact List.mem_cons.2 (.inr h)
         ·exact List.mem_cons.2 (.inl (by simpa using h)))
      | (simp only[opW] at h
         simp only[opT]
         split at h
         ·rcases List.mem_cons.1 h with h | h
          ·exact List.mem_cons.2 (.inl h)
          ·exact List.mem_cons.2 (.inr (List.mem_append_left _ h))
         ·exact List.mem_cons.2 (.inl (by simpa using h)))
   | _=>exact List.mem_cons.2 (.inl (by simpa[opW] using h))
 | _=>exact List.mem_cons.2 (.inl (by simpa[opW] using h))
end
def yQx:Op->Bool
 | .call c=>match c.callee with | .value _=>true | _=>false
 | _=>false
def agd(v:V)(want:Bool)(A B:Prop):Prop:=match v with
 | .bool b=>(b=want->A)/\(b= !want->B)
 | .undef=>False
 | _=>B
def dl(P:Program)(ops:Array Oper)(n0:Nat)(K:Fr->Gs->Prop):List Oper->Nat->Acc->Acc->Fr->Gs->Prop
 | [],_,_,_,fr,g=>K fr g
 | o::r,k,rd,wr,fr,g=>
   agd (match o.guard with | none=> .bool true | some (j,_)=>gval ops fr j) (match o.guard with | none=>true | some (_,w)=>w)
    (bif yQx o.op then(∃T x,yLe o wr T []=true/\yE3 T (n0+k)=true/\dcall P o.op fr ⟨resT (yE3 T) g,n0+k⟩ x/\dl P ops n0 K r (k+1) ((k,T,[])::rd) wr (fr.put o.dst x) g)\/
      ∃T x b,yLe o wr T [n0+k]=true/\yLe o rd T [n0+k]=true/\yE3 T (n0+k)=true/\xMm P o.op fr ⟨resT (yE3 T) g,n0+k⟩ x b/\dl P ops n0 K r (k+1) rd ((k,T,[n0+k])::wr) (fr.put o.dst x) (St.new ⟨g,n0+k⟩ b).get
    else match eff P o.op fr ⟨g,n0+k⟩ with
     | none=>False
     | some p=>bif opS P o.op then yLe o wr ((n0+k)::opT o.op fr) (opW o.op fr (n0+k))=true/\yLe o rd ((n0+k)::opT o.op fr) (opW o.op fr (n0+k))=true/\
       dl P ops n0 K r (k+1) rd ((k,(n0+k)::opT o.op fr,opW o.op fr (n0+k))::wr) (fr.put o.dst p.1) p.2.get
      else yLe o wr ((n0+k)::opT o.op fr) []=true/\dl P ops n0 K r (k+1) ((k,(n0+k)::opT o.op fr,[])::rd) wr (fr.put o.dst p.1) g)
    (dl P ops n0 K r (k+1) rd wr (fr.put o.dst (.tup [])) g)
theorem yZ6{o:Oper}{acc rd wr:Acc}{T W:List Nat}(h:∀p∈acc,p∈wr\/(p∈rd/\p.2.2= []))(hw:yLe o wr T W=true)(hr:W= []\/yLe o rd T W=true):yLe o acc T W=true:=by
 unfold yLe at*
 rw[List.all_eq_true] at*
 intro p hp
 rcases h p hp with h1 | ⟨h1,h2⟩
 ·exact hw p h1
 ·rcases hr with rfl | hr
  ·rw[h2];simp[xLC]
  ·exact hr p h1
theorem yQu{P:Program}{op:Op}{fr:Fr}{n:Nat}{g:Gs}{x:V}{s':St}(e:eff P op fr ⟨g,n⟩=some (x,s')):
  dop P op fr n (yE3 (n::opT op fr)) (yE3 (bif opS P op then opW op fr n else [])) g x s'.get/\ov (yE3 (bif opS P op then opW op fr n else [])) s'.get g=s'.get:=by
 have hT:∀b,yE3 (bif opS P op then opW op fr n else []) b=true->yE3 (n::opT op fr) b=true:=fun b hb=>by
  rw[yE4] at hb ⊢
  cases hS:opS P op with
  | true=>rw[hS] at hb;exact xRN hb
  | false=>rw[hS] at hb;cases hb
 obtain⟨t',h1,h2⟩:=xSJ (s:=⟨g,n⟩) (t:=⟨resT (yE3 (n::opT op fr)) g,n⟩) rfl (fun b hb=>by
  have:yE3 (n::opT op fr) b=true:=yE4.2 (List.mem_cons_of_mem _ hb)
  show g b=cond _ _ _
  rw[this];rfl) e
 have hov:ov (yE3 (bif opS P op then opW op fr n else [])) s'.get g=s'.get:=by
  funext b
  unfold ov
  cases hb:yE3 (bif opS P op then opW op fr n else []) b with
  | true=>rfl
  | false=>
    rcases h2 b with ⟨h3,_⟩ | ⟨_,h3⟩
    ·rw[yE4.2 h3] at hb;cases hb
    ·exact h3.symm
 refine⟨⟨hT,yE4.2 List.mem_cons_self,.inl ⟨t',h1,fun b=>?_⟩⟩,hov⟩
 rw[hov]
 rcases h2 b with ⟨h3,h4⟩ | ⟨h3,h4⟩
 ·rw[h4];unfold resT;rw[hT b (yE4.2 h3)];rfl
 ·rw[h3]
  unfold resT
  rw[h4]
theorem yRc{P:Program}{ops:Array Oper}{n0:Nat}{K:Fr->Gs->Prop}:∀(l:List Oper) (k:Nat) (rd wr acc:Acc) (fr:Fr) (g:Gs),(∀p∈acc,p∈wr\/(p∈rd/\p.2.2= []))→
  dl P ops n0 K l k rd wr fr g->dlist P ops n0 K l k acc fr g
 | [],_,_,_,_,_,_,_,h=>h
 | o::r,k,rd,wr,acc,fr,g,ha,h=>by
   unfold dl at h
   unfold dlist wantedA
   have skip:dl P ops n0 K r (k+1) rd wr (fr.put o.dst (.tup [])) g->dlist P ops n0 K r (k+1) acc (fr.put o.dst (.tup [])) g:=fun h=>yRc r (k+1) rd wr acc _ _ ha h
   have more:∀q:Nat×List Nat×List Nat,q.2.2= []->∀p∈q::acc,p∈wr\/(p∈q::rd/\p.2.2= []):=fun q hq p hp=>by
    rcases List.mem_cons.1 hp with rfl | hp
    ·exact .inr ⟨List.mem_cons_self,hq⟩
    ·exact(ha p hp).imp id (fun h=>⟨List.mem_cons_of_mem _ h.1,h.2⟩)
   have moreW:∀q:Nat×List Nat×List Nat,∀p∈q::acc,p∈q::wr\/(p∈rd/\p.2.2= []):=fun q p hp=>by
    rcases List.mem_cons.1 hp with rfl | hp
    ·exact .inl List.mem_cons_self
    ·exact(ha p hp).imp (fun h=>List.mem_cons_of_mem _ h) id
   have go:∀H:Prop,H=(bif yQx o.op then(∃T x,yLe o wr T []=true/\yE3 T (n0+k)=true/\dcall P o.op fr ⟨resT (yE3 T) g,n0+k⟩ x/\dl P ops n0 K r (k+1) ((k,T,[])::rd) wr (fr.put o.dst x) g)\/
     ∃T x b,yLe o wr T [n0+k]=true/\yLe o rd T [n0+k]=true/\yE3 T (n0+k)=true/\xMm P o.op fr ⟨resT (yE3 T) g,n0+k⟩ x b/\dl P ops n0 K r (k+1) rd ((k,T,[n0+k])::wr) (fr.put o.dst x) (St.new ⟨g,n0+k⟩ b).get
    else match eff P o.op fr ⟨g,n0+k⟩ with
     | none=>False
     | some p=>bif opS P o.op then yLe o wr ((n0+k)::opT o.op fr) (opW o.op fr (n0+k))=true/\yLe o rd ((n0+k)::opT o.op fr) (opW o.op fr (n0+k))=true/\
       dl P ops n0 K r (k+1) rd ((k,(n0+k)::opT o.op fr,opW o.op fr (n0+k))::wr) (fr.put o.dst p.1) p.2.get
      else yLe o wr ((n0+k)::opT o.op fr) []=true/\dl P ops n0 K r (k+1) ((k,(n0+k)::opT o.op fr,[])::rd) wr (fr.put o.dst p.1) g)->H→
     ∃T W x u,yLe o acc T W=true/\dop P o.op fr (n0+k) (yE3 T) (yE3 W) g x u/\dlist P ops n0 K r (k+1) ((k,T,W)::acc) (fr.put o.dst x) (ov (yE3 W) u g):=by
    rintro H rfl h
    cases hcl:yQx o.op with
    | true=>
      rw[hcl,cond_true] at h
      rcases h with ⟨T,x,h1,h2,h3,h4⟩ | ⟨T,x,b,h1,h1',h2,h3,h4⟩
      ·refine⟨T,[],x,g,yZ6 ha h1 (.inl rfl),⟨fun b hb=>(by cases hb),h2,.inr (.inl ⟨h3,fun _=>rfl⟩)⟩,?_⟩
       rw[show ov (yE3 []) g g=g from rfl]
       exact yRc r (k+1) _ wr _ _ _ (more _ rfl) h4
      ·have hW:∀c,yE3 [n0+k] c=Nat.beq c (n0+k):=fun c=>by
         unfold yE3
         rw[List.any_cons,List.any_nil,Bool.or_false]
       have hu:(St.new ⟨g,n0+k⟩ b).get (n0+k)=some b:=by rw[St.get_new,if_pos rfl]
       refine⟨T,[n0+k],x,(St.new ⟨g,n0+k⟩ b).get,yZ6 ha h1 (.inr h1'),⟨fun c hc=>?_,h2,.inr (.inr ⟨b,h3,hW,hu⟩)⟩,?_⟩
       ·rw[hW] at hc
        rw[Nat.eq_of_beq_eq_true hc];exact h2
       ·rw[show ov (yE3 [n0+k]) (St.new ⟨g,n0+k⟩ b).get g=(St.new ⟨g,n0+k⟩ b).get from by
          funext c
          unfold ov
          rw[hW]
          unfold St.new
          dsimp only
          cases Nat.beq c (n0+k) <;> rfl]
        exact yRc r (k+1) rd _ _ _ _ (moreW _) h4
    | false=>
      rw[hcl,cond_false] at h
      cases he:eff P o.op fr ⟨g,n0+k⟩ with
      | none=>rw[he] at h;exact h.elim
      | some p=>
        rw[he] at h
        dsimp only at h
        obtain⟨k1,k2⟩:=yQu he
        cases hS:opS P o.op with
        | true=>
          rw[hS,cond_true] at h k1 k2
          obtain⟨h1,h2,h3⟩:=h
          refine⟨_,_,p.1,p.2.get,yZ6 ha h1 (.inr h2),k1,?_⟩
          rw[k2]
          exact yRc r (k+1) rd _ _ _ _ (moreW _) h3
        | false=>
          rw[hS,cond_false] at h k1 k2
          obtain⟨h1,h3⟩:=h
          refine⟨_,[],p.1,p.2.get,yZ6 ha h1 (.inl rfl),k1,?_⟩
          rw[show ov (yE3 []) p.2.get g=g from rfl]
          exact yRc r (k+1) _ wr _ _ _ (more _ rfl) h3
   cases hg:o.guard with
   | none=>
     rw[hg] at h
     exact go _ rfl (h.1 rfl)
   | some jw=>
     obtain⟨j,w⟩:=jw
     rw[hg] at h
     dsimp only at h ⊢
     unfold agd at h
     split at h
     ·rename_i b hb
      rw[hb]
      cases hbw:(b==w) with
      | true=>
        obtain rfl:b=w:=by simpa using hbw
        dsimp only
        rw[beq_self_eq_true]
        dsimp only
        exact go _ rfl (h.1 rfl)
      | false=>
        dsimp only
        rw[hbw]
        dsimp only
        exact skip (h.2 (by cases b <;> cases w <;> simp_all))
     ·exact h.elim
     ·rename_i n1 n2
      split
      ·rename_i heq
       split at heq
       ·rename_i b hb;exact(n1 b hb).elim
       ·rename_i hb;exact(n2 hb).elim
       ·cases heq
      ·rename_i heq
       split at heq
       ·rename_i b hb;exact(n1 b hb).elim
       ·cases heq
       ·cases heq
      ·exact skip h
end Go.Proofs.YtakljpcmbpaeaaaGreat
