/- The symbolic evaluator, 2: code in the style of continuations; that it is so. -/
import Derived.Test.YtakljpcmbpaeaaaGreatMountPlaysM28
set_option linter.unusedSimpArgs false
set_option linter.unusedVariables false
namespace Go.Proofs.YtakljpcmbpaeaaaGreat
open Go.RowKit
def nmB:Nat->V->Bool
 | 0,_=>false
 | n+1,x=>match x with
   | .bs _ _ _ _=>false
   | .ptr _ _ _=>false
   | .mp _=>false
   | .ptr0 _=>false
   | .agg cs=>cs.all (nmB n)
   | .tup cs=>cs.all (nmB n)
   | .fn _ a b=>a.all (nmB n)&&b.all (nmB n)
   | _=>true
theorem yCg:∀(n:Nat) (x:V),PS x->nmB n x=true->Plain x
 | 0,_,_,h=>by cases h
 | n+1,x,hp,h=>by
   have all:∀l:List V,(∀y∈l,PS y)->l.all (nmB n)=true->∀y∈l,Plain y:=fun l h1 hl y hy=>yCg n y (h1 y hy) (List.all_eq_true.1 hl y hy)
   cases hp with
   | undef=>exact .undef
   | bool b=>exact .bool b
   | int k i=>exact .int k i
   | str s=>exact .str s
   | sl es fl hh=>exact .sl es fl hh
   | tp cs hh=>exact .tp cs hh
   | nilp=>exact .nilp
   | fn f a b h1 h2=>
     have h:(a.all (nmB n)&&b.all (nmB n))=true:=h
     rw[Bool.and_eq_true] at h
     exact .fn f a b (all a h1 h.1) (all b h2 h.2)
   | nilfn=>exact .nilfn
   | agg cs hh=>exact .agg cs (all cs hh h)
   | tup cs hh=>exact .tup cs (all cs hh h)
   | bs=>cases h
   | ptr=>cases h
   | mp=>cases h
   | ptr0=>cases h
def mapC(f:V->Option (List Bool×V)):List V->Option (List Bool×List V)
 | []=>some ([],[])
 | x::l=>match f x with
   | none=>none
   | some (c,y)=>match mapC f l with
     | none=>none
     | some (d,ys)=>some (c++d,y::ys)
theorem xI6{f:V->Option (List Bool×V)}:∀(l:List V) (c:List Bool) (ys:List V),mapC f l=some (c,ys)->(∀b∈c,b=true)->l.length=ys.length/\∀j (hj:j<l.length) (hj':j<ys.length),∃d,f l[j]=some (d,ys[j])/\∀b∈d,b=true
 | [],c,ys,h,hc=>by
   simp only[mapC,Option.some.injEq,Prod.mk.injEq] at h
   obtain⟨rfl,rfl⟩:=h
   exact⟨rfl,fun j hj=>absurd hj (by simp)⟩
 | x::l,c,ys,h,hc=>by
   unfold mapC at h
   split at h
   ·cases h
   ·rename_i c1 y hy
    split at h
    ·cases h
    ·rename_i d zs hz
     simp only[Option.some.injEq,Prod.mk.injEq] at h
     obtain⟨rfl,rfl⟩:=h
     obtain⟨h1,h2⟩:=xI6 l d zs hz fun b hb=>hc b (List.mem_append_right _ hb)
     refine⟨by simp[h1],fun j hj hj'=>?_⟩
     cases j with
     | zero=>exact⟨c1,hy,fun b hb=>hc b (List.mem_append_left _ hb)⟩
     | succ j=>exact h2 j (by simpa using hj) (by simpa using hj')
def yCL(es:List (List V)):Bool:=es.all fun r=>r.all (nmB 20)
def frC(f:Nat->Nat):Nat->Gs->V->Option (List Bool×V)
 | 0,_,_=>none
 | n+1,g,x=>match x with
   | .bool b=>some ([],.bool b)
   | .int k i=>some ([],.int k i)
   | .str s=>some ([],.str s)
   | .nilp=>some ([],.nilp)
   | .nilfn=>some ([],.nilfn)
   | .undef=>some ([],.undef)
   | .sl es fl=>some ([],.sl es false)
   | .tp cs=>some ([],.tp cs)
   | .agg cs=>match mapC (frC f n g) cs with | none=>none | some (c,ys)=>some (c,.agg ys)
   | .tup cs=>match mapC (frC f n g) cs with | none=>none | some (c,ys)=>some (c,.tup ys)
   | .fn q a b=>match mapC (frC f n g) a with
     | none=>none
     | some (c,a')=>match mapC (frC f n g) b with | none=>none | some (d,b')=>some (c++d,.fn q a' b')
   | .bs b i m _=>match g b with
     | none=>none
     | some k=>some ([Nat.ble (i+m) k.es.length,Nat.ble (i+m) (f b),yCL k.es],.sl ((k.es.drop i).take m) false)
   | .ptr b i j=>match g b with
     | none=>none
     | some k=>bif Nat.ble (i+1) (f b) then match k.es[i]? with
       | none=>none
       | some r=>bif Nat.ble j r.length then(match mapC (frC f n g) (r.drop j) with | none=>none | some (c,ys)=>some (c,.tp ys)) else none
       else none
   | _=>none
theorem yWI{f:Nat->Nat}:∀(n:Nat) (st:St) (x:V) (c:List Bool) (y:V),PSg st.get->PS x->frC f n st.get x=some (c,y)->(∀b∈c,b=true)->Fz st f x y/\Plain y
 | 0,_,_,_,_,_,_,h,_=>by cases h
 | n+1,st,x,c,y,hg,hx,h,hc=>by
   have go:∀(cs:List V) (d:List Bool) (ys:List V),(∀z∈cs,PS z)->mapC (frC f n st.get) cs=some (d,ys)->(∀b∈d,b=true)->cs.length=ys.length/\(∀j (hj:j<cs.length) (hj':j<ys.length),Fz st f cs[j] ys[j])/\∀z∈ys,Plain z:=fun cs d ys hp hm hd=>by
    obtain⟨h1,h2⟩:=xI6 cs d ys hm hd
    refine⟨h1,fun j hj hj'=>?_,fun z hz=>?_⟩
    ·obtain⟨e,k1,k2⟩:=h2 j hj hj'
     exact(yWI n st _ _ _ hg (hp _ (List.getElem_mem hj)) k1 k2).1
    ·obtain⟨j,hj,rfl⟩:=List.getElem_of_mem hz
     obtain⟨e,k1,k2⟩:=h2 j (by omega) hj
     exact(yWI n st _ _ _ hg (hp _ (List.getElem_mem (by omega))) k1 k2).2
   cases hx with
   | undef=>simp only[frC,Option.some.injEq,Prod.mk.injEq] at h;obtain⟨rfl,rfl⟩:=h;exact⟨.plain _ .undef,.undef⟩
   | bool b=>simp only[frC,Option.some.injEq,Prod.mk.injEq] at h;obtain⟨rfl,rfl⟩:=h;exact⟨.plain _ (.bool _),.bool _⟩
   | int k i=>simp only[frC,Option.some.injEq,Prod.mk.injEq] at h;obtain⟨rfl,rfl⟩:=h;exact⟨.plain _ (.int _ _),.int _ _⟩
   | str s=>simp only[frC,Option.some.injEq,Prod.mk.injEq] at h;obtain⟨rfl,rfl⟩:=h;exact⟨.plain _ (.str _),.str _⟩
   | nilp=>simp only[frC,Option.some.injEq,Prod.mk.injEq] at h;obtain⟨rfl,rfl⟩:=h;exact⟨.plain _ .nilp,.nilp⟩
   | nilfn=>simp only[frC,Option.some.injEq,Prod.mk.injEq] at h;obtain⟨rfl,rfl⟩:=h;exact⟨.plain _ .nilfn,.nilfn⟩
   | sl es fl hh=>simp only[frC,Option.some.injEq,Prod.mk.injEq] at h;obtain⟨rfl,rfl⟩:=h;exact⟨.weak _ _ (.sl _ _ hh),.sl _ _ hh⟩
   | tp cs hh=>simp only[frC,Option.some.injEq,Prod.mk.injEq] at h;obtain⟨rfl,rfl⟩:=h;exact⟨.plain _ (.tp _ hh),.tp _ hh⟩
   | mp b=>cases h
   | ptr0 b=>cases h
   | agg cs hh=>
     simp only[frC] at h
     split at h
     ·cases h
     ·rename_i d ys hm
      simp only[Option.some.injEq,Prod.mk.injEq] at h
      obtain⟨rfl,rfl⟩:=h
      obtain⟨k1,k2,k3⟩:=go cs d ys hh hm hc
      exact⟨.agg cs ys k1 k2,.agg ys k3⟩
   | tup cs hh=>
     simp only[frC] at h
     split at h
     ·cases h
     ·rename_i d ys hm
      simp only[Option.some.injEq,Prod.mk.injEq] at h
      obtain⟨rfl,rfl⟩:=h
      obtain⟨k1,k2,k3⟩:=go cs d ys hh hm hc
      exact⟨.tup cs ys k1 k2,.tup ys k3⟩
   | fn q a b h1 h2=>
     simp only[frC] at h
     split at h
     ·cases h
     ·rename_i d a' ha
      split at h
      ·cases h
      ·rename_i e b' hb
       simp only[Option.some.injEq,Prod.mk.injEq] at h
       obtain⟨rfl,rfl⟩:=h
       obtain⟨k1,k2,k3⟩:=go a d a' h1 ha fun b hb=>hc b (List.mem_append_left _ hb)
       obtain⟨m1,m2,m3⟩:=go b e b' h2 hb fun b hb=>hc b (List.mem_append_right _ hb)
       exact⟨.fn q a a' b b' k1 k2 m1 m2,.fn q a' b' k3 m3⟩
   | bs b i m cap=>
     simp only[frC] at h
     split at h
     ·cases h
     ·rename_i k hk
      simp only[Option.some.injEq,Prod.mk.injEq] at h
      obtain⟨rfl,rfl⟩:=h
      have l1:=Nat.le_of_ble_eq_true (hc (Nat.ble (i+m) k.es.length) (by simp))
      have l2:=Nat.le_of_ble_eq_true (hc (Nat.ble (i+m) (f b)) (by simp))
      have l3:=hc (yCL k.es) (by simp)
      have hpl:∀r∈k.es,∀z∈r,Plain z:=fun r hr z hz=>yCg 20 z (hg b k hk r hr z hz) (List.all_eq_true.1 (List.all_eq_true.1 l3 r hr) z hz)
      have hlen:((k.es.drop i).take m).length=m:=by rw[List.length_take,List.length_drop];omega
      refine⟨.bs b i m cap k _ hk l1 l2 hlen (fun a ha ha'=>by rw[List.getElem_take,List.getElem_drop]) fun a ha ha' c hc hc'=>?_,.sl _ _ fun r hr z hz=>hpl r (List.mem_of_mem_drop (List.mem_of_mem_take hr)) z hz⟩
      have e:((k.es.drop i).take m)[a]=k.es[i+a]:=by rw[List.getElem_take,List.getElem_drop]
      have e2:((k.es.drop i).take m)[a][c]=k.es[i+a][c]:=by simp only[e]
      rw[e2]
      exact .plain _ (hpl _ (List.getElem_mem _) _ (List.getElem_mem _))
   | ptr b i j=>
     simp only[frC] at h
     split at h
     ·cases h
     ·rename_i k hk
      obtain⟨h1,h2⟩:=yAN h
      have l1:=Nat.le_of_ble_eq_true h1
      split at h2
      ·cases h2
      ·rename_i r hr
       obtain⟨hi,rfl⟩:=List.getElem?_eq_some_iff.1 hr
       obtain⟨h3,h4⟩:=yAN h2
       have l3:=Nat.le_of_ble_eq_true h3
       split at h4
       ·cases h4
       ·rename_i d ys hm
        simp only[Option.some.injEq,Prod.mk.injEq] at h4
        obtain⟨rfl,rfl⟩:=h4
        obtain⟨k1,k2,k3⟩:=go _ d ys (fun z hz=>hg b k hk _ (List.getElem_mem hi) z (List.mem_of_mem_drop hz)) hm hc
        rw[List.length_drop] at k1
        refine⟨.ptr b i j k ys hk hi (by omega) (by omega) fun c hc hc'=>?_,.tp _ k3⟩
        have:=k2 c (by rw[List.length_drop];omega) hc'
        rw[List.getElem_drop] at this
        exact this
theorem yLl{f:Nat->Nat}{n:Nat}{st:St}{l ys:List V}{c:List Bool}(hg:PSg st.get)(hl:∀x∈l,PS x)(h:mapC (frC f n st.get) l=some (c,ys))(hc:∀b∈c,b=true):Fzs st f l ys/\∀y∈ys,Plain y:=by
 obtain⟨h1,h2⟩:=xI6 l c ys h hc
 refine⟨⟨h1,fun j hj hj'=>?_⟩,fun y hy=>?_⟩
 ·obtain⟨d,k1,k2⟩:=h2 j hj hj'
  exact(yWI n st _ _ _ hg (hl _ (List.getElem_mem hj)) k1 k2).1
 ·obtain⟨j,hj,rfl⟩:=List.getElem_of_mem hy
  obtain⟨d,k1,k2⟩:=h2 j (by omega) hj
  exact(yWI n st _ _ _ hg (hl _ (List.getElem_mem (by omega))) k1 k2).2
def xGr:Nat->Gs->V->List Nat
 | 0,_,_=> []
 | n+1,g,x=>match x with
   | .agg cs=>cs.flatMap (xGr n g)
   | .tup cs=>cs.flatMap (xGr n g)
   | .bs b _ _ _=> [b]
   | .ptr b i _=>b::(match g b with | some k=>(match k.es[i]? with | some r=>r.flatMap (xGr n g) | none=> []) | none=> [])
   | .fn _ a b=>a.flatMap (xGr n g)++b.flatMap (xGr n g)
   | _=> []
theorem yCR{α:Type}{l:List Bool}{x:Option α}{r:α}(h:yXO l x none=some r):(∀c∈l,c=true)/\x=some r/\∀{γ:Type} (y:Option γ),yXO l y none=y:=by
 rcases yXP l with ⟨h1,h2⟩ | ⟨_,h2⟩
 ·rw[h2] at h
  exact⟨h1,h,fun y=>h2 y none⟩
 ·rw[h2] at h;cases h
def wkn:Nat->V->V
 | 0,x=>x
 | n+1,x=>match x with
   | .sl es _=> .sl es false
   | .agg cs=> .agg (cs.map (wkn n))
   | .tup cs=> .tup (cs.map (wkn n))
   | x=>x
theorem xKw{mu:Mu}{S:yEn}{w:World}:∀(n:Nat) (x:V) (v:Value),VR mu S w x v->VR mu S w (wkn n x) v
 | 0,_,_,h=>h
 | n+1,x,v,h=>by
   cases h with
   | sl0 full A c hf=>exact .sl0 false A c (by simp)
   | sl1 es full g o c sz vals hne hc hf hlen hS hcell hone hv=>exact .sl1 es false g o c sz vals hne hc (by simp) hlen hS hcell hone hv
   | agg cs vs hl hone hv=>
     exact .agg (cs.map (wkn n)) vs (by simpa using hl) hone fun j hj hj'=>by
      rw[List.getElem_map]
      exact xKw n _ _ (hv j (by simpa using hj) hj')
   | tup cs vs hl hv=>
     exact .tup (cs.map (wkn n)) vs (by simpa using hl) fun j hj hj'=>by
      rw[List.getElem_map]
      exact xKw n _ _ (hv j (by simpa using hj) hj')
   | undef v=>exact .undef v
   | bool b=>exact .bool b
   | int k i=>exact .int k i
   | str s=>exact .str s
   | bs b i m cap L A c h1 h2 h3 h4 h5=>exact .bs b i m cap L A c h1 h2 h3 h4 h5
   | ptr b i j L h1 h2=>exact .ptr b i j L h1 h2
   | tp cs g o vals h1 h2 h3 h4=>exact .tp cs g o vals h1 h2 h3 h4
   | nilp=>exact .nilp
   | fn f a b fv cv h1 h2 h3 h4=>exact .fn f a b fv cv h1 h2 h3 h4
   | nilfn=>exact .nilfn
   | mp b L h1 h2=>exact .mp b L h1 h2
   | ptr0 b L h1 h2 h3=>exact .ptr0 b L h1 h2 h3
theorem Con.wkn{P:Program}{g:FuncId}{n:Nat}{args:List V}{post:V->Prop}(h:Con P g (args.map (Proofs.YtakljpcmbpaeaaaGreat.wkn n)) post):Con P g args post:=
 ⟨h.1,fun w S vargs hS hv=>h.2 w S vargs hS ⟨by simpa using hv.1,fun j hj hj'=>by
  rw[List.getElem_map]
  exact xKw n _ _ (hv.2 j (by simpa using hj) hj')⟩⟩
theorem xBy:∀(n:Nat) (x:V),Plain x->Plain (wkn n x)
 | 0,_,h=>h
 | n+1,x,h=>by
   cases h with
   | sl es fl hh=>exact .sl es false hh
   | agg cs hh=>
     exact .agg _ fun y hy=>by
      obtain⟨z,hz,rfl⟩:=List.mem_map.1 hy
      exact xBy n z (hh z hz)
   | tup cs hh=>
     exact .tup _ fun y hy=>by
      obtain⟨z,hz,rfl⟩:=List.mem_map.1 hy
      exact xBy n z (hh z hz)
   | undef=>exact .undef
   | bool b=>exact .bool b
   | int k i=>exact .int k i
   | str s=>exact .str s
   | tp cs hh=>exact .tp cs hh
   | nilp=>exact .nilp
   | fn f a b h1 h2=>exact .fn f a b h1 h2
   | nilfn=>exact .nilfn
theorem yOG{n:Nat}{args:List V}(h:∀x∈args,Plain x):∀x∈args.map (wkn n),Plain x:=fun x hx=>by
 obtain⟨y,hy,rfl⟩:=List.mem_map.1 hx
 exact xBy n y (h y hy)
def okC(nt:Nat):Code->Bool
 | .seq x y=>okC nt x&&okC nt y
 | .cond _ x y=>okC nt x&&okC nt y
 | .block _ c=>okC nt c
 | .scope c=>okC nt c
 | .loop c=>okC nt c
 | .region _ ops draw=>xQE ops nt&&(!draw || Region.lexB .any ops)
 | _=>true
section
variable {α:Type}
abbrev Kt(α:Type):=AEx->Tr V->Tr Blk'->Nat->Option α
abbrev Ks(α:Type):=Tr V->Tr Blk'->Nat->Option α
abbrev ICk(α:Type):=FuncId->List V->Tr Blk'->Nat->(V->Tr Blk'->Nat->Option α)->Option α
structure CCk (α:Type) where
 run:FuncId->List V->(V->Option α)->Option α
 kd:FuncId->Option Nat
def xFy(P:Program)(call:ICk α):Prop:=∀g args G c K r,(∀x∈args,PS x)->PSg G.get->call g args G c K=some r→
 ∀Kp:V->St->Prop,(∀x G' c',PS x->PSg (Tr.get G')->K x G' c'=some r->Kp x ⟨G'.get,c'⟩)->xMT P g args ⟨G.get,c⟩ Kp
def xDj(P:Program)(call:CCk α):Prop:=∀g args K r,(∀x∈args,Plain x)->call.run g args K=some r->∃x,Con P g args (· = x)/\Plain x/\K x=some r/\∀sz,call.kd g=some sz->xF0 P g args (asR x) sz
def xNu(es:List (List V)):Bool:=es.all fun r=>r.all (scB 20)
theorem xH7{es:List (List V)}(h:xNu es=true):∀r∈es,∀x∈r,Sc x:=fun r hr x hx=>xKl 20 x (List.all_eq_true.1 (List.all_eq_true.1 h r hr) x hx)
theorem xF0.plain{P:Program}{g:FuncId}{args:List V}{es:List (List V)}{sz:Nat}(h:xF0 P g args es sz):PSr es:=fun r hr x hx=>(h.2.2.1 r hr x hx).ps
theorem xQa{P:Program}{op:Op}{fr:Fr}{G G':Tr Blk'}{c c':Nat}{x:V}(hf:PSf fr)(hg:PSg G.get)(h:rop P op fr G c=some (x,G',c')):PS x/\PSg G'.get:=by
 unfold rop at h
 cases hS:opS P op with
 | true=>
   rw[hS,cond_true] at h
   obtain⟨⟨y,s'⟩,hs,h⟩:=Option.bind_eq_some_iff.1 h
   obtain⟨G1,hu,h⟩:=Option.map_eq_some_iff.1 h
   simp only[Prod.mk.injEq] at h
   obtain⟨rfl,rfl,rfl⟩:=h
   obtain⟨h1,h2⟩:=xQe hf hg hs
   have he:eff P op fr ⟨G.get,c⟩=some (y,s'):=by
    unfold eff
    rw[hS,cond_true];exact hs
   have h3:=(yQu he).2
   rw[hS,cond_true] at h3
   have hgt:G1.get=s'.get:=(yOm _ _ _ _ hu).trans h3
   rw[hgt]
   exact⟨h1,h2⟩
 | false=>
   rw[hS,cond_false] at h
   cases hm:isMapOp op with
   | true=>
     rw[hm,cond_true] at h
     obtain⟨-,rfl,rfl,hg'⟩:=xDT h
     refine⟨.mp _,?_⟩
     rw[hg']
     exact PSg.new (st:=⟨G.get,c⟩) hg (fun r hr=>by cases hr)
   | false=>
     rw[hm,cond_false] at h
     cases hn:nilOp P op fr with
     | some r=>
       rw[hn] at h
       obtain⟨y,rfl,h⟩:=Option.map_eq_some_iff.1 h
       simp only[Prod.mk.injEq] at h
       obtain⟨rfl,rfl,rfl⟩:=h
       refine⟨?_,hg⟩
       unfold nilOp at hn
       split at hn
       ·split at hn
        ·rename_i hc
         cases hb:isNilC _ with
         | false=>rw[hb] at hn;cases hn
         | true=>
           rw[hb,cond_true,Option.some.injEq] at hn
           injection hn with hn
           subst hn
           exact .bool _
        ·cases hb:isNilC _ with
         | false=>rw[hb] at hn;cases hn
         | true=>rw[hb,cond_true,Option.some.injEq] at hn;cases hn
       ·cases hn
     | none=>
       rw[hn] at h
       obtain⟨y,hv,h⟩:=Option.map_eq_some_iff.1 h
       simp only[Prod.mk.injEq] at h
       obtain⟨rfl,rfl,rfl⟩:=h
       exact⟨xQh hf hg hv,hg⟩
theorem xRq{P:Program}{op:Op}{fr:Fr}{G:Tr Blk'}{c:Nat}{x:V}(h:VOk P op fr ⟨G.get,c⟩ x):rop P op fr G c=some (x,G,c):=by
 obtain⟨h1,h2,h3,h4⟩:=h
 unfold rop
 rw[h1,cond_false,h2,cond_false,h3]
 dsimp only
 rw[h4];rfl
theorem xRg{P:Program}{op:Op}{fr:Fr}{G G':Tr Blk'}{c:Nat}{p:V×St}(h:SOk P op fr ⟨G.get,c⟩ p)(hu:xDh G (opW op fr c) p.2.get=some G'):rop P op fr G c=some (p.1,G',c+1):=by
 obtain⟨h1,h2⟩:=h
 unfold rop
 rw[h1,cond_true,h2,Option.bind_some,hu];rfl
def ropK(P:Program)(op:Op)(fr:Fr)(G:Tr Blk')(c:Nat)(K:V->Tr Blk'->Nat->Option α):Option α:=
 match cvops P op fr ⟨G.get,c⟩ with
 | some l=>xP8 l fun x=>K x G c
 | none=>match csops P op fr ⟨G.get,c⟩ with
   | some l=>xP8 l fun p=>match xDh G (opW op fr c) p.2.get with
     | none=>none
     | some G'=>K p.1 G' (c+1)
   | none=>match rop P op fr G c with
     | none=>none
     | some p=>K p.1 p.2.1 p.2.2
theorem xH6{P:Program}{op:Op}{fr:Fr}{G:Tr Blk'}{c:Nat}{K:V->Tr Blk'->Nat->Option α}{r:α}(h:ropK P op fr G c K=some r):
  ∃p,rop P op fr G c=some p/\K p.1 p.2.1 p.2.2=some r/\∀K':V->Tr Blk'->Nat->Option α,ropK P op fr G c K'=K' p.1 p.2.1 p.2.2:=by
 unfold ropK at h
 cases hc:cvops P op fr ⟨G.get,c⟩ with
 | some l=>
   rw[hc] at h
   dsimp only at h
   obtain⟨p,hp,h1,h2,h3⟩:=yS6 _ _ _ h
   refine⟨(p.2,G,c),xRq (xKQ hc hp h1),h2,fun K'=>?_⟩
   unfold ropK
   rw[hc]
   exact h3 _
 | none=>
   rw[hc] at h
   dsimp only at h
   cases hs:csops P op fr ⟨G.get,c⟩ with
   | some l=>
     rw[hs] at h
     dsimp only at h
     obtain⟨p,hp,h1,h2,h3⟩:=yS6 _ _ _ h
     cases hu:xDh G (opW op fr c) p.2.2.get with
     | none=>rw[hu] at h2;cases h2
     | some G'=>
       rw[hu] at h2
       refine⟨(p.2.1,G',c+1),xRg (xKP hs hp h1) hu,h2,fun K'=>?_⟩
       unfold ropK
       rw[hc,hs]
       refine(h3 _).trans ?_
       simp only[hu]
   | none=>
     rw[hs] at h
     dsimp only at h
     cases hp:rop P op fr G c with
     | none=>rw[hp] at h;cases h
     | some p=>
       rw[hp] at h
       refine⟨p,rfl,h,fun K'=>?_⟩
       unfold ropK
       rw[hc,hs,hp]
def xQG(P:Program)(op:Op)(fr:Fr)(G:Tr Blk')(n:Nat)(K:V->Tr Blk'->Option α):Option α:=
 match cvops P op fr ⟨G.get,n⟩ with
 | some l=>xP8 l fun x=>K x G
 | none=>match csops P op fr ⟨G.get,n⟩ with
   | some l=>xP8 l fun p=>match xDh G (opW op fr n) p.2.get with
     | none=>none
     | some G'=>K p.1 G'
   | none=>match eff P op fr ⟨G.get,n⟩ with
     | none=>none
     | some p=>bif opS P op then(match xDh G (opW op fr n) p.2.get with
       | none=>none
       | some G'=>K p.1 G') else K p.1 G
theorem xGQ{P:Program}{op:Op}{fr:Fr}{G:Tr Blk'}{n:Nat}{K:V->Tr Blk'->Option α}{r:α}(h:xQG P op fr G n K=some r):
  ∃p G',eff P op fr ⟨G.get,n⟩=some p/\(opS P op=true->xDh G (opW op fr n) p.2.get=some G')/\(opS P op=false->G'=G)/\K p.1 G'=some r/\∀K':V->Tr Blk'->Option α,xQG P op fr G n K'=K' p.1 G':=by
 unfold xQG at h
 cases hc:cvops P op fr ⟨G.get,n⟩ with
 | some l=>
   rw[hc] at h
   dsimp only at h
   obtain⟨p,hp,h1,h2,h3⟩:=yS6 _ _ _ h
   obtain⟨k1,k2,k3,k4⟩:=xKQ hc hp h1
   refine⟨(p.2,⟨G.get,n⟩),G,?_,fun q=>(by rw[k1] at q;cases q),fun _=>rfl,h2,fun K'=>?_⟩
   ·unfold eff
    rw[k1,cond_false,k4];rfl
   ·unfold xQG
    rw[hc]
    exact h3 _
 | none=>
   rw[hc] at h
   dsimp only at h
   cases hs:csops P op fr ⟨G.get,n⟩ with
   | some l=>
     rw[hs] at h
     dsimp only at h
     obtain⟨p,hp,h1,h2,h3⟩:=yS6 _ _ _ h
     obtain⟨k1,k2⟩:=xKP hs hp h1
     cases hu:xDh G (opW op fr n) p.2.2.get with
     | none=>rw[hu] at h2;cases h2
     | some G'=>
       rw[hu] at h2
       refine⟨p.2,G',?_,fun _=>hu,fun q=>(by rw[k1] at q;cases q),h2,fun K'=>?_⟩
       ·unfold eff
        rw[k1,cond_true,k2]
       ·unfold xQG
        rw[hc,hs]
        refine(h3 _).trans ?_
        simp only[hu]
   | none=>
     rw[hs] at h
     dsimp only at h
     cases he:eff P op fr ⟨G.get,n⟩ with
     | none=>rw[he] at h;cases h
     | some p=>
       rw[he] at h
       dsimp only at h
       cases hS:opS P op with
       | true=>
         rw[hS,cond_true] at h
         cases hu:xDh G (opW op fr n) p.2.get with
         | none=>rw[hu] at h;cases h
         | some G'=>
           rw[hu] at h
           refine⟨p,G',rfl,fun _=>hu,fun q=>(by cases q),h,fun K'=>?_⟩
           unfold xQG
           rw[hc,hs,he]
           dsimp only
           rw[hS,cond_true,hu]
       | false=>
         rw[hS,cond_false] at h
         refine⟨p,G,rfl,fun q=>(by cases q),fun _=>rfl,h,fun K'=>?_⟩
         unfold xQG
         rw[hc,hs,he]
         dsimp only
         rw[hS,cond_false]
def stepK(P:Program)(call:ICk α)(op:Op)(fr:Fr)(G:Tr Blk')(c:Nat)(K:V->Tr Blk'->Nat->Option α):Option α:=
 match op with
 | .call q=>match q.callee with
   | .value f=>match ev fr f with
     | .fn (.func g) first caps=>call g (first++(q.args.toList.map (ev fr)++caps)) G c K
     | _=>none
   | _=>ropK P op fr G c K
 | _=>ropK P op fr G c K
theorem xJ6{P:Program}{call:ICk α}(hc:xFy P call){op:Op}{fr:Fr}{G:Tr Blk'}{c:Nat}{K:V->Tr Blk'->Nat->Option α}{r:α}(hf:PSf fr)(hg:PSg G.get)(h:stepK P call op fr G c K=some r)
  {Kp:V->St->Prop} (hk:∀x G' c',PS x->PSg (Tr.get G')->K x G' c'=some r->Kp x ⟨G'.get,c'⟩):aop P op fr ⟨G.get,c⟩ Kp:=by
 have R:ropK P op fr G c K=some r->aop P op fr ⟨G.get,c⟩ Kp:=fun h=>by
  obtain⟨p,hp,h,-⟩:=xH6 h
  obtain⟨h1,h2⟩:=xQa hf hg (x:=p.1) (G':=p.2.1) (c':=p.2.2) hp
  exact xNs (x:=p.1) (G':=p.2.1) (c':=p.2.2) hp (hk _ _ _ h1 h2 h)
 cases op
 case call q=>
  obtain⟨callee,args,ts⟩:=q
  cases callee with
  | value f=>
    unfold stepK at h
    unfold aop
    dsimp only at h ⊢
    split at h
    ·rename_i g first caps he
     rw[he]
     have hfv:=hf.ev f
     rw[he] at hfv
     refine hc _ _ _ _ _ _ (fun x hx=>?_) hg h Kp hk
     rcases List.mem_append.1 hx with hx | hx
     ·exact hfv.fn_inv.1 x hx
     ·rcases List.mem_append.1 hx with hx | hx
      ·exact hf.evs _ x hx
      ·exact hfv.fn_inv.2 x hx
    ·cases h
  | builtin b=>exact R h
  | invoke a b=>exact R h
 all_goals exact R h
def setB(T:Tr V)(ops:Array Oper)(j:Nat)(v:Bool):Tr V:=match (ops[j]?).bind (·.dst) with
 | some d=>bif Nat.ble d 4000 then Tr.set 12 T d (some (.bool v)) else T
 | none=>T
theorem xIR{T:Tr V}{d:Nat}{x:V}(h:Nat.ble d 4000=true)(hv:yBO T d=x):yBO (Tr.set 12 T d (some x))=yBO T:=by
 have ht:Nat.le d 4000:=Nat.le_of_ble_eq_true h
 funext s
 show((Tr.set 12 T d (some x)).get s).getD .undef=yBO T s
 rw[Tr.set_get 12 T d s _ (Nat.lt_of_le_of_lt (Nat.succ_le_succ ht) (by decide))]
 by_cases hs:s=d
 ·rw[if_pos hs,hs,hv];rfl
 ·rw[if_neg hs];rfl
theorem yPu{T:Tr V}{ops:Array Oper}{j:Nat}{v:Bool}(h:gval ops (yBO T) j= .bool v):yBO (setB T ops j v)=yBO T:=by
 unfold setB
 unfold gval at h
 split
 ·rename_i d hd
  rw[hd] at h
  dsimp only at h
  cases hb:Nat.ble d 4000 with
  | false=>rfl
  | true=>exact xIR hb h
 ·rfl
def setQ(T:Tr V)(q:Operand)(v:Bool):Tr V:=match q with
 | .tmp d=>bif Nat.ble d 4000 then Tr.set 12 T d (some (.bool v)) else T
 | _=>T
theorem yRT{T:Tr V}{q:Operand}{v:Bool}(h:ev (yBO T) q= .bool v):yBO (setQ T q v)=yBO T:=by
 unfold setQ
 split
 ·rename_i d
  cases hb:Nat.ble d 4000 with
  | false=>rfl
  | true=>exact xIR hb h
 ·rfl
def opsK(P:Program)(call:ICk α)(ops:Array Oper):List Oper->Tr V->Tr Blk'->Nat->Ks α->Option α
 | [],T,G,c,K=>K T G c
 | o::r,T,G,c,K=>
   bif okD o.dst then
    match o.guard with
    | none=>stepK P call o.op (yBO T) G c fun x G' c'=>opsK P call ops r (putT T o.dst x) G' c' K
    | some (j,want)=>match gval ops (yBO T) j with
      | .bool b=>match want with
        | true=>bif b then stepK P call o.op (yBO (setB T ops j true)) G c fun x G' c'=>opsK P call ops r (putT (setB T ops j true) o.dst x) G' c' K else opsK P call ops r (putT (setB T ops j false) o.dst (.tup [])) G c K
        | false=>bif b then opsK P call ops r (putT (setB T ops j true) o.dst (.tup [])) G c K else stepK P call o.op (yBO (setB T ops j false)) G c fun x G' c'=>opsK P call ops r (putT (setB T ops j false) o.dst x) G' c' K
      | .undef=>none
      | _=>opsK P call ops r (putT T o.dst (.tup [])) G c K
   else none
theorem PSf.putT{T:Tr V}{d:Option Tmp}{x:V}(h:PSf (yBO T))(hd:okD d=true)(hx:PS x):PSf (yBO (putT T d x)):=by
 rw[xAE hd]
 exact h.put hx
theorem PS.nil:PS (.tup []):= .tup _ (by simp)
theorem yQ6{P:Program}{call:ICk α}(hc:xFy P call){ops:Array Oper}:∀(l:List Oper) (T:Tr V) (G:Tr Blk') (c:Nat) (K:Ks α) (r:α),opsK P call ops l T G c K=some r->PSf (yBO T)->PSg G.get→
  ∀Kp:Fr->St->Prop,(∀T' G' c',PSf (yBO T')->PSg (Tr.get G')->K T' G' c'=some r->Kp (yBO T') ⟨G'.get,c'⟩)->aops P ops l (yBO T) ⟨G.get,c⟩ Kp
 | [],T,G,c,K,r,h,hf,hg,Kp,hk=>hk T G c hf hg h
 | o::rest,T,G,c,K,r,h,hf,hg,Kp,hk=>by
   unfold opsK at h
   obtain⟨hd,h⟩:=yAN h
   have step:∀T1:Tr V,yBO T1=yBO T->stepK P call o.op (yBO T1) G c (fun x G' c'=>opsK P call ops rest (putT T1 o.dst x) G' c' K)=some r->aop P o.op (yBO T) ⟨G.get,c⟩ fun x st'=>aops P ops rest ((yBO T).put o.dst x) st' Kp:=fun T1 e h2=>by
    rw[←e] at hf ⊢
    refine xJ6 hc hf hg h2 fun x G' c' hx hg' hr=>?_
    have:=yQ6 hc rest _ _ _ K r hr (hf.putT hd hx) hg' Kp hk
    rw[xAE hd] at this
    exact this
   have skip:∀T1:Tr V,yBO T1=yBO T->opsK P call ops rest (putT T1 o.dst (.tup [])) G c K=some r->aops P ops rest ((yBO T).put o.dst (.tup [])) ⟨G.get,c⟩ Kp:=fun T1 e hr=>by
    rw[←e] at hf ⊢
    have:=yQ6 hc rest _ _ _ K r hr (hf.putT hd .nil) hg Kp hk
    rw[xAE hd] at this
    exact this
   unfold aops
   cases hgd:o.guard with
   | none=>
     rw[hgd] at h
     exact step T rfl h
   | some jw=>
     obtain⟨j,want⟩:=jw
     rw[hgd] at h
     dsimp only at h ⊢
     cases hv:gval ops (yBO T) j <;> rw[hv] at h <;> try (exact skip T rfl h)
     case undef=>cases h
     case bool b=>
      dsimp only at h ⊢
      cases want <;> cases b <;> first | exact⟨fun _=>step _ (yPu hv) h,fun q=>(by cases q)⟩ | exact⟨fun q=>(by cases q),fun _=>skip _ (yPu hv) h⟩
def dcallK(P:Program)(cc:CCk α)(op:Op)(fr:Fr)(g:Gs)(n:Nat)(K:List Nat->V->Option Blk'->Option α):Option α:=
 match op with
 | .call q=>match q.callee with
   | .value f=>match ev fr f with
     | .fn (.func h) first caps=>match cc.kd h with
       | none=>
         bif(first++(q.args.toList.map (ev fr)++caps)).all (nmB 20) then cc.run h (first++(q.args.toList.map (ev fr)++caps)) fun x=>K [n] x none
         else match mapC (frC mny 20 (resT (yE3 (n::(first++(q.args.toList.map (ev fr)++caps)).flatMap (xGr 20 g))) g)) (first++(q.args.toList.map (ev fr)++caps)) with
          | none=>none
          | some p=>yXO p.1 (cc.run h p.2 fun x=>bif scB 20 x then K (n::(first++(q.args.toList.map (ev fr)++caps)).flatMap (xGr 20 g)) x none else none) none
       | some sz=>
         bif(first++(q.args.toList.map (ev fr)++caps)).all (nmB 20) then cc.run h (first++(q.args.toList.map (ev fr)++caps)) fun x=>K [n] (.bs n 0 (asR x).length (asR x).length) (some ⟨asR x,sz,0⟩)
         else match mapC (frC mny 20 (resT (yE3 (n::(first++(q.args.toList.map (ev fr)++caps)).flatMap (xGr 20 g))) g)) (first++(q.args.toList.map (ev fr)++caps)) with
          | none=>none
          | some p=>yXO p.1 (cc.run h p.2 fun x=>bif xNu (asR x) then K (n::(first++(q.args.toList.map (ev fr)++caps)).flatMap (xGr 20 g)) (.bs n 0 (asR x).length (asR x).length) (some ⟨asR x,sz,0⟩) else none) none
     | _=>none
   | _=>none
 | _=>none
theorem PSg.resT{g:Gs}{T:Nat->Bool}(h:PSg g):PSg (resT T g):=fun b k hk=>by
 unfold Proofs.YtakljpcmbpaeaaaGreat.resT at hk
 cases hT:T b with
 | true=>rw[hT] at hk;exact h b k hk
 | false=>rw[hT] at hk;cases hk
theorem xGP{P:Program}{cc:CCk α}(hc:xDj P cc){op:Op}{fr:Fr}{g:Gs}{n:Nat}{K:List Nat->V->Option Blk'->Option α}{r:α}(hf:PSf fr)(hg:PSg g)(h:dcallK P cc op fr g n K=some r):
  ∃T x,yE3 T n=true/\PS x/\((dcall P op fr ⟨resT (yE3 T) g,n⟩ x/\K T x none=some r)\/∃b,xMm P op fr ⟨resT (yE3 T) g,n⟩ x b/\PSr b.es/\K T x (some b)=some r):=by
 cases op <;> try (simp[dcallK] at h;done)
 case call q=>
  obtain⟨callee,args,ts⟩:=q
  cases callee <;> try (simp[dcallK] at h;done)
  case value f=>
   unfold dcallK at h
   unfold dcall xMm
   dsimp only at h ⊢
   split at h
   ·rename_i k first caps he
    rw[he]
    dsimp only
    have hfv:=hf.ev f
    rw[he] at hfv
    have hpa:∀x∈first++(args.toList.map (ev fr)++caps),PS x:=fun x hx=>by
     rcases List.mem_append.1 hx with hx | hx
     ·exact hfv.fn_inv.1 x hx
     ·rcases List.mem_append.1 hx with hx | hx
      ·exact hf.evs _ x hx
      ·exact hfv.fn_inv.2 x hx
    generalize first++(args.toList.map (ev fr)++caps)=as0 at h hpa ⊢
    cases hkd:cc.kd k with
    | none=>
      rw[hkd] at h
      dsimp only at h
      cases hp:as0.all (nmB 20) with
      | true=>
        rw[hp,cond_true] at h
        have hpl:∀z∈as0,Plain z:=fun z hz=>yCg 20 z (hpa z hz) (List.all_eq_true.1 hp z hz)
        obtain⟨x,h1,h2,h3,-⟩:=hc _ _ _ _ hpl h
        exact⟨[n],x,yE4.2 (by simp),h2.ps,.inl ⟨.inl ⟨hpl,h1⟩,h3⟩⟩
      | false=>
        rw[hp,cond_false] at h
        split at h
        ·cases h
        ·rename_i as' ha
         obtain⟨q1,q2,-⟩:=yCR h
         obtain⟨k1,k2⟩:=yLl (st:=⟨Proofs.YtakljpcmbpaeaaaGreat.resT (yE3 (n::as0.flatMap (xGr 20 g))) g,n⟩) (c:=as'.1) (ys:=as'.2) hg.resT hpa ha q1
         obtain⟨x,h1,h2,h3,-⟩:=hc _ _ _ _ k2 q2
         obtain⟨hs,h3⟩:=yAN h3
         exact⟨_,x,yE4.2 (by simp),h2.ps,.inl ⟨.inr (.inl ⟨mny,as'.2,k1,h1,xKl 20 _ hs⟩),h3⟩⟩
    | some sz=>
      rw[hkd] at h
      dsimp only at h
      cases hp:as0.all (nmB 20) with
      | true=>
        rw[hp,cond_true] at h
        have hpl:∀z∈as0,Plain z:=fun z hz=>yCg 20 z (hpa z hz) (List.all_eq_true.1 hp z hz)
        obtain⟨x,-,h2,h3,h4⟩:=hc _ _ _ _ hpl h
        have hN:=h4 sz hkd
        exact⟨[n],_,yE4.2 (by simp),.bs _ _ _ _,.inr ⟨_,⟨mny,as0,asR x,sz,.inl ⟨hpl,rfl⟩,hN,rfl,rfl⟩,hN.plain,h3⟩⟩
      | false=>
        rw[hp,cond_false] at h
        split at h
        ·cases h
        ·rename_i as' ha
         obtain⟨q1,q2,-⟩:=yCR h
         obtain⟨k1,k2⟩:=yLl (st:=⟨Proofs.YtakljpcmbpaeaaaGreat.resT (yE3 (n::as0.flatMap (xGr 20 g))) g,n⟩) (c:=as'.1) (ys:=as'.2) hg.resT hpa ha q1
         obtain⟨x,-,h2,h3,h4⟩:=hc _ _ _ _ k2 q2
         have hN:=h4 sz hkd
         obtain⟨hs,h3⟩:=yAN h3
         exact⟨_,_,yE4.2 (by simp),.bs _ _ _ _,.inr ⟨_,⟨mny,as'.2,asR x,sz,.inr ⟨k1,xH7 hs⟩,hN,rfl,rfl⟩,hN.plain,h3⟩⟩
   ·cases h
def goK(P:Program)(cc:CCk α)(n0:Nat)(o:Oper)(k:Nat)(rd wr:Acc)(T:Tr V)(G:Tr Blk')(R:Acc->Acc->Tr V->Tr Blk'->Option α):Option α:=
 bif yQx o.op then dcallK P cc o.op (yBO T) G.get (n0+k) fun L x ob=>match ob with
  | none=>bif yYj o wr L [] then R ((k,L,[])::rd) wr (putT T o.dst x) G else none
  | some b=>bif yYj o wr L [n0+k]&&yYj o rd L [n0+k] then(match xDh G [n0+k] (St.new ⟨G.get,n0+k⟩ b).get with
   | none=>none
   | some G'=>R rd ((k,L,[n0+k])::wr) (putT T o.dst x) G') else none
 else xQG P o.op (yBO T) G (n0+k) fun x G'=>bif opS P o.op then
   bif yYj o wr ((n0+k)::opT o.op (yBO T)) (opW o.op (yBO T) (n0+k))&&yYj o rd ((n0+k)::opT o.op (yBO T)) (opW o.op (yBO T) (n0+k)) then
    R rd ((k,(n0+k)::opT o.op (yBO T),opW o.op (yBO T) (n0+k))::wr) (putT T o.dst x) G'
   else none
  else bif yYj o wr ((n0+k)::opT o.op (yBO T)) [] then R ((k,(n0+k)::opT o.op (yBO T),[])::rd) wr (putT T o.dst x) G else none
def rdlK(P:Program)(cc:CCk α)(ops:Array Oper)(n0:Nat):List Oper->Nat->Acc->Acc->Tr V->Tr Blk'->(Tr V->Tr Blk'->Option α)->Option α
 | [],_,_,_,T,G,K=>K T G
 | o::r,k,rd,wr,T,G,K=>
   bif okD o.dst then
    match o.guard with
    | none=>goK P cc n0 o k rd wr T G fun rd wr T G=>rdlK P cc ops n0 r (k+1) rd wr T G K
    | some (j,want)=>match gval ops (yBO T) j with
      | .bool b=>match want with
        | true=>bif b then goK P cc n0 o k rd wr (setB T ops j true) G fun rd wr T G=>rdlK P cc ops n0 r (k+1) rd wr T G K else rdlK P cc ops n0 r (k+1) rd wr (putT (setB T ops j false) o.dst (.tup [])) G K
        | false=>bif b then rdlK P cc ops n0 r (k+1) rd wr (putT (setB T ops j true) o.dst (.tup [])) G K else goK P cc n0 o k rd wr (setB T ops j false) G fun rd wr T G=>rdlK P cc ops n0 r (k+1) rd wr T G K
      | .undef=>none
      | _=>rdlK P cc ops n0 r (k+1) rd wr (putT T o.dst (.tup [])) G K
   else none
theorem xMo{P:Program}{op:Op}{fr:Fr}{g:Gs}{n:Nat}{p:V×St}(hf:PSf fr)(hg:PSg g)(h:eff P op fr ⟨g,n⟩=some p):PS p.1/\PSg p.2.get:=by
 unfold eff at h
 cases hS:opS P op with
 | true=>rw[hS,cond_true] at h;exact xQe (x:=p.1) (st':=p.2) hf hg h
 | false=>
   rw[hS,cond_false] at h
   obtain⟨x,hx,rfl⟩:=Option.map_eq_some_iff.1 h
   exact⟨xQh hf hg hx,hg⟩
theorem xM1{P:Program}{cc:CCk α}(hc:xDj P cc){n0:Nat}{o:Oper}{k:Nat}{rd wr:Acc}{T:Tr V}{G:Tr Blk'}{R:Acc->Acc->Tr V->Tr Blk'->Option α}{r:α}(hd:okD o.dst=true)(hf:PSf (yBO T))(hg:PSg G.get)(h2:goK P cc n0 o k rd wr T G R=some r)
  {D:Acc->Acc->Fr->Gs->Prop} (hR:∀(rd' wr':Acc) (x:V) (G1:Tr Blk'),PS x->PSg G1.get->R rd' wr' (putT T o.dst x) G1=some r->D rd' wr' ((yBO T).put o.dst x) G1.get):
  (bif yQx o.op then(∃T1 x,yLe o wr T1 []=true/\yE3 T1 (n0+k)=true/\dcall P o.op (yBO T) ⟨resT (yE3 T1) G.get,n0+k⟩ x/\D ((k,T1,[])::rd) wr ((yBO T).put o.dst x) G.get)\/
     ∃T1 x b,yLe o wr T1 [n0+k]=true/\yLe o rd T1 [n0+k]=true/\yE3 T1 (n0+k)=true/\xMm P o.op (yBO T) ⟨resT (yE3 T1) G.get,n0+k⟩ x b/\D rd ((k,T1,[n0+k])::wr) ((yBO T).put o.dst x) (St.new ⟨G.get,n0+k⟩ b).get
    else match eff P o.op (yBO T) ⟨G.get,n0+k⟩ with
     | none=>False
     | some p=>bif opS P o.op then yLe o wr ((n0+k)::opT o.op (yBO T)) (opW o.op (yBO T) (n0+k))=true/\yLe o rd ((n0+k)::opT o.op (yBO T)) (opW o.op (yBO T) (n0+k))=true/\
       D rd ((k,(n0+k)::opT o.op (yBO T),opW o.op (yBO T) (n0+k))::wr) ((yBO T).put o.dst p.1) p.2.get
      else yLe o wr ((n0+k)::opT o.op (yBO T)) []=true/\D ((k,(n0+k)::opT o.op (yBO T),[])::rd) wr ((yBO T).put o.dst p.1) G.get):=by
 unfold goK at h2
 simp only[xNW] at h2
 cases hcl:yQx o.op with
 | true=>
   rw[hcl,cond_true] at h2
   rw[cond_true]
   obtain⟨L,x,k1,k3,⟨k2,k4⟩ | ⟨b,k2,kb,k4⟩⟩:=xGP hc hf hg h2
   ·obtain⟨k5,k6⟩:=yAN k4
    exact .inl ⟨L,x,k5,k1,k2,hR _ _ _ _ k3 hg k6⟩
   ·obtain⟨k5,k6⟩:=yAN k4
    rw[Bool.and_eq_true] at k5
    split at k6
    ·cases k6
    ·rename_i G1 hu
     have hgt:=xAG hu
     refine .inr ⟨L,x,b,k5.1,k5.2,k1,k2,?_⟩
     rw[←hgt]
     exact hR _ _ _ _ k3 (by rw[hgt];exact PSg.new (st:=⟨G.get,n0+k⟩) hg kb) k6
 | false=>
   rw[hcl,cond_false] at h2
   rw[cond_false]
   obtain⟨p,G1,he,hu,hG,h2,-⟩:=xGQ h2
   rw[he]
   dsimp only
   obtain⟨p1,p2⟩:=xMo hf hg he
   cases hS:opS P o.op with
   | true=>
     rw[hS,cond_true] at h2
     rw[cond_true]
     obtain⟨h3,h4⟩:=yAN h2
     rw[Bool.and_eq_true] at h3
     have hu:=hu hS
     have h5:=(yQu (x:=p.1) (s':=p.2) he).2
     rw[hS,cond_true] at h5
     have hgt:G1.get=p.2.get:=(yOm _ _ _ _ hu).trans h5
     rw[←hgt] at p2 ⊢
     exact⟨h3.1,h3.2,hR _ _ _ _ p1 p2 h4⟩
   | false=>
     rw[hS,cond_false] at h2
     rw[cond_false]
     obtain⟨h3,h4⟩:=yAN h2
     exact⟨h3,hR _ _ _ _ p1 hg h4⟩
theorem yXm{P:Program}{cc:CCk α}(hc:xDj P cc){ops:Array Oper}{n0:Nat}:∀(l:List Oper) (k:Nat) (rd wr:Acc) (T:Tr V) (G:Tr Blk') (K:Tr V->Tr Blk'->Option α) (r:α),rdlK P cc ops n0 l k rd wr T G K=some r->PSf (yBO T)->PSg G.get→
  ∀Kp:Fr->Gs->Prop,(∀T' G',PSf (yBO T')->PSg (Tr.get G')->K T' G'=some r->Kp (yBO T') (Tr.get G'))->dl P ops n0 Kp l k rd wr (yBO T) G.get
 | [],k,rd,wr,T,G,K,r,h,hf,hg,Kp,hk=>hk T G hf hg h
 | o::rest,k,rd,wr,T,G,K,r,h,hf,hg,Kp,hk=>by
   unfold rdlK at h
   obtain⟨hd,h⟩:=yAN h
   have go:∀(T1:Tr V),yBO T1=yBO T->∀(rd' wr':Acc) (x:V) (G1:Tr Blk'),PS x->PSg G1.get->rdlK P cc ops n0 rest (k+1) rd' wr' (putT T1 o.dst x) G1 K=some r->dl P ops n0 Kp rest (k+1) rd' wr' ((yBO T).put o.dst x) G1.get:=fun T1 e rd' wr' x G1 hx hg1 hr=>by
    rw[←e] at hf ⊢
    have:=yXm hc rest (k+1) rd' wr' _ _ K r hr (hf.putT hd hx) hg1 Kp hk
    rw[xAE hd] at this
    exact this
   have step:=fun(T1:Tr V) (e:yBO T1=yBO T) (h2:goK P cc n0 o k rd wr T1 G (fun rd wr T G=>rdlK P cc ops n0 rest (k+1) rd wr T G K)=some r)=>
    xM1 hc (D:=fun rd wr fr g=>dl P ops n0 Kp rest (k+1) rd wr fr g) hd (by rw[e];exact hf) hg h2 (fun rd' wr' x G1 hx hg1 hr=>by rw[e];exact go T1 e rd' wr' x G1 hx hg1 hr)
   unfold dl
   cases hgd:o.guard with
   | none=>
     rw[hgd] at h
     dsimp only at h ⊢
     exact⟨fun _=>step T rfl h,fun q=>by cases q⟩
   | some jw=>
     obtain⟨j,want⟩:=jw
     rw[hgd] at h
     dsimp only at h ⊢
     cases hv:gval ops (yBO T) j <;> rw[hv] at h <;> try (exact go T rfl _ _ _ _ .nil hg h)
     case undef=>cases h
     case bool b=>
      dsimp only at h ⊢
      have e:=fun v (hbv:b=v)=>yPu (T:=T) (ops:=ops) (j:=j) (v:=v) (by rw[hv,hbv])
      cases want <;> cases b
      ·exact⟨fun _=>by have:=step _ (e false rfl) h;rw[e false rfl] at this;exact this,fun q=>(by cases q)⟩
      ·exact⟨fun q=>(by cases q),fun _=>go _ (e true rfl) _ _ _ _ .nil hg h⟩
      ·exact⟨fun q=>(by cases q),fun _=>go _ (e false rfl) _ _ _ _ .nil hg h⟩
      ·exact⟨fun _=>by have:=step _ (e true rfl) h;rw[e true rfl] at this;exact this,fun q=>(by cases q)⟩
def loopK(body:Tr V->Tr Blk'->Nat->Kt α->Option α):Nat->Tr V->Tr Blk'->Nat->Kt α->Option α
 | 0,_,_,_,_=>none
 | m+1,T,G,c,K=>body T G c fun e T' G' c'=>match e with
   | .normal=>loopK body m T' G' c' K
   | e=>K e T' G' c'
def xQv:List Oper->Nat
 | []=>0
 | o::r=>bif yQx o.op then 0 else xQv r+1
def xT4(P:Program)(ops:Array Oper)(n:Nat):Bool:=preB P .any ops n&&Region.lexB .any (yQw ops n)
def xRE:List Oper->Nat->Nat->Nat
 | [],_,m=>m
 | o::r,k,m=>bif yQx o.op then xRE r (k+1) k else xRE r (k+1) m
def xQV(o:Oper):Bool:=o.after.any fun e=>match e.ground with
 | .phase=>true
 | _=>false
def phN:List Oper->Nat
 | []=>0
 | o::r=>bif xQV o then 0 else phN r+1
def mxN(P:Program)(ops:Array Oper):Nat:=bif(ops.toList.any fun o=>yQx o.op) then(bif xT4 P ops (xQv ops.toList) then xQv ops.toList else xRE ops.toList 0 0) else phN ops.toList
def mxB(P:Program)(ops:Array Oper):Bool:=((Nat.ble ops.size 60 || ops.toList.any fun o=> !(stillB P o.op || yQx o.op))&&((ops.toList.any fun o=>yQx o.op) || (ops.toList.any xQV)))&&xT4 P ops (mxN P ops)
def codeK(P:Program)(call:ICk α)(cc:CCk α)(L:Nat):Code->Tr V->Tr Blk'->Nat->Kt α->Option α
 | .skip,T,G,c,K=>K .normal T G c
 | .label _,T,G,c,K=>K .normal T G c
 | .exit i,T,G,c,K=>K (.exit i) T G c
 | .ret,T,G,c,K=>K .ret T G c
 | .seq x y,T,G,c,K=>codeK P call cc L x T G c fun e T' G' c'=>match e with
   | .normal=>codeK P call cc L y T' G' c' K
   | e=>K e T' G' c'
 | .cond q x y,T,G,c,K=>match ev (yBO T) q with
   | .bool b=>bif b then codeK P call cc L x (setQ T q true) G c K else codeK P call cc L y (setQ T q false) G c K
   | _=>none
 | .block id x,T,G,c,K=>codeK P call cc L x T G c fun e T' G' c'=>match e with
   | .exit i=>bif Nat.beq i id then K .normal T' G' c' else K (.exit i) T' G' c'
   | e=>K e T' G' c'
 | .scope x,T,G,c,K=>codeK P call cc L x T G c K
 | .loop x,T,G,c,K=>loopK (codeK P call cc L x) L T G c K
 | .region _ ops draw,T,G,c,K=>bif draw then(bif tlB P ops then opsK P call ops ops.toList T G c (K .normal)
   else bif mxB P ops then rdlK P cc (yQw ops (mxN P ops)) c (yQw ops (mxN P ops)).toList 0 [] [] T G fun T' G'=>opsK P call ops (ops.toList.drop (mxN P ops)) T' G' (c+mxN P ops) (K .normal)
   else rdlK P cc ops c ops.toList 0 [] [] T G fun T' G'=>K .normal T' G' (c+ops.size))
   else opsK P call ops ops.toList T G c (K .normal)
 | _,_,_,_,_=>none
theorem xAU{P:Program}(hm:P.follows .mixedOrders=true){call:ICk α}{cc:CCk α}(hi:xFy P call)(hc:xDj P cc){L nt:Nat}:∀(x:Code) (T:Tr V) (G:Tr Blk') (c:Nat) (K:Kt α) (r:α),okC nt x=true->codeK P call cc L x T G c K=some r->PSf (yBO T)->PSg G.get→
  ∀Q:AEx->Fr->St->Prop,(∀e T' G' c',PSf (yBO T')->PSg (Tr.get G')->K e T' G' c'=some r->Q e (yBO T') ⟨G'.get,c'⟩)->AW P nt x Q (yBO T) ⟨G.get,c⟩:=by
 intro x
 induction x with
 | skip=>exact fun T G c K r ho h hf hg Q hq=>AW.skip (hq _ _ _ _ hf hg h)
 | label i=>exact fun T G c K r ho h hf hg Q hq=>AW.label (hq _ _ _ _ hf hg h)
 | exit i=>exact fun T G c K r ho h hf hg Q hq=>AW.exit (hq _ _ _ _ hf hg h)
 | ret=>exact fun T G c K r ho h hf hg Q hq=>AW.ret (hq _ _ _ _ hf hg h)
 | seq x y ihx ihy=>
   intro T G c K r ho h hf hg Q hq
   simp only[okC,Bool.and_eq_true] at ho
   refine AW.seq (ihx T G c _ r ho.1 h hf hg _ fun e T' G' c' hf' hg' h'=>?_)
   cases e with
   | normal=>exact ihy T' G' c' K r ho.2 h' hf' hg' Q hq
   | exit i=>exact hq _ _ _ _ hf' hg' h'
   | ret=>exact hq _ _ _ _ hf' hg' h'
 | cond q x y ihx ihy=>
   intro T G c K r ho h hf hg Q hq
   simp only[okC,Bool.and_eq_true] at ho
   unfold codeK at h
   split at h
   ·rename_i b hv
    refine AW.cond hv (fun hb=>?_) (fun hb=>?_)
    ·subst hb
     have e:=yRT hv
     rw[←e] at hf ⊢
     exact ihx _ G c K r ho.1 h hf hg Q hq
    ·subst hb
     have e:=yRT hv
     rw[←e] at hf ⊢
     exact ihy _ G c K r ho.2 h hf hg Q hq
   ·cases h
 | block id x ih=>
   intro T G c K r ho h hf hg Q hq
   refine AW.block (ih T G c _ r ho h hf hg _ fun e T' G' c' hf' hg' h'=>?_)
   cases e with
   | exit i=>
     show if i=id then Q .normal (yBO T') ⟨G'.get,c'⟩ else Q (.exit i) (yBO T') ⟨G'.get,c'⟩
     dsimp only at h'
     by_cases hid:i=id
     ·rw[ySo hid,cond_true] at h'
      rw[if_pos hid];exact hq _ _ _ _ hf' hg' h'
     ·rw[ySn hid,cond_false] at h'
      rw[if_neg hid];exact hq _ _ _ _ hf' hg' h'
   | normal=>exact hq _ _ _ _ hf' hg' h'
   | ret=>exact hq _ _ _ _ hf' hg' h'
 | scope x ih=>exact fun T G c K r ho h hf hg Q hq=>AW.scope (ih T G c K r ho h hf hg Q hq)
 | loop x ih=>
   intro T G c K r ho h hf hg Q hq
   refine AW.unroll L ?_
   have key:∀(m:Nat) (T:Tr V) (G:Tr Blk') (c:Nat),loopK (codeK P call cc L x) m T G c K=some r->PSf (yBO T)->PSg G.get->xCM P nt x Q m (yBO T) ⟨G.get,c⟩:=by
    intro m
    induction m with
    | zero=>intro T G c h;cases h
    | succ m ihm=>
      intro T G c h hf hg
      show AW P nt x (AEx.then (xCM P nt x Q m) Q) (yBO T) ⟨G.get,c⟩
      refine ih T G c _ r ho h hf hg _ fun e T' G' c' hf' hg' h'=>?_
      cases e with
      | normal=>exact ihm _ _ _ h' hf' hg'
      | exit i=>exact hq _ _ _ _ hf' hg' h'
      | ret=>exact hq _ _ _ _ hf' hg' h'
   exact key L T G c h hf hg
 | region i ops draw=>
   intro T G c K r ho h hf hg Q hq
   simp only[okC,Bool.and_eq_true] at ho
   unfold codeK at h
   cases draw with
   | true=>
     rw[cond_true] at h
     cases ht:tlB P ops with
     | true=>
       rw[ht,cond_true] at h
       exact AW.region_tail hm ho.1 ht (yQ6 hi _ _ _ _ _ r h hf hg (Q .normal) fun T' G' c' hf' hg' h'=>hq _ _ _ _ hf' hg' h')
     | false=>
       rw[ht,cond_false] at h
       cases hx:mxB P ops with
       | true=>
         rw[hx,cond_true] at h
         obtain⟨-,hx⟩:=yBE hx
         obtain⟨hx1,hx2⟩:=yBE hx
         refine AW.region_mix hm ho.1 hx1 hx2 ?_
         exact yRc _ _ [] [] [] _ _ (fun _ h=>absurd h List.not_mem_nil) (yXm hc _ _ _ _ _ _ _ r h hf hg _ fun T' G' hf' hg' h'=>
          yQ6 hi _ _ _ _ _ r h' hf' hg' (Q .normal) fun T2 G2 c2 hf2 hg2 h2=>hq _ _ _ _ hf2 hg2 h2)
       | false=>
       rw[hx,cond_false] at h
       exact AW.region hm ho.1 ⟨by simpa using ho.2,yRc _ _ [] [] [] _ _ (fun _ h=>absurd h List.not_mem_nil) (yXm hc _ _ _ _ _ _ _ r h hf hg (fun fr g=>Q .normal fr ⟨g,c+ops.size⟩) fun T' G' hf' hg' h'=>hq _ _ _ _ hf' hg' h')⟩
   | false=>
     rw[cond_false] at h
     exact AW.region hm ho.1 (yQ6 hi _ _ _ _ _ r h hf hg (Q .normal) fun T' G' c' hf' hg' h'=>hq _ _ _ _ hf' hg' h')
 | _=>intro T G c K r ho h;cases h
theorem xPv{n:Nat}{ag:Bool}{st:St}{p x:V}(hg:PSg st.get)(hp:PS p)(h:vLoad n ag st p=some x):PS x:=by
 unfold vLoad at h
 split at h
 ·cases h
 ·rename_i cs hc
  have hcs:=xDH hg hp hc
  cases ag with
  | true=>
    rw[cond_true] at h
    obtain⟨_,h⟩:=yAN h
    injection h with h
    subst h
    exact .agg _ fun y hy=>hcs y (List.mem_of_mem_take hy)
  | false=>
    rw[cond_false] at h
    exact hcs x (List.mem_of_mem_head? h)
theorem xNo{P:Program}{fr:Fr}{st:St}(hf:PSf fr)(hg:PSg st.get){a:ResultVar}{x:V}(h:resOne P fr st a=some x):PS x:=by
 cases a with
 | tmp t=>
   injection h with h
   subst h
   exact hf t
 | cell a t=>
   unfold resOne at h
   dsimp only at h
   split at h
   ·exact xPv hg (hf a) h
   ·cases h
theorem xNn{P:Program}{fr:Fr}{st:St}(hf:PSf fr)(hg:PSg st.get):∀(l:List ResultVar) (xs:List V),resL P fr st l=some xs->∀x∈xs,PS x
 | [],xs,h=>by
   unfold resL at h
   injection h with h
   subst h
   simp
 | a::l,xs,h=>by
   unfold resL at h
   obtain⟨v,hv,h⟩:=Option.bind_eq_some_iff.1 h
   obtain⟨ys,hy,rfl⟩:=Option.map_eq_some_iff.1 h
   intro x hx
   rcases List.mem_cons.1 hx with rfl | hx
   ·exact xNo hf hg hv
   ·exact xNn hf hg l ys hy x hx
theorem xBe{P:Program}{fr:Fr}{st:St}(hf:PSf fr)(hg:PSg st.get){l:List ResultVar}{x:V}(h:resV P fr st l=some x):PS x:=by
 obtain⟨xs,hx,h⟩:=Option.map_eq_some_iff.1 h
 have hp:=xNn hf hg l xs hx
 split at h
 ·subst h
  exact hp _ (by simp)
 ·subst h
  exact .tup _ hp
def bodyK(P:Program)(call:ICk α)(cc:CCk α)(L:Nat)(g:FuncId)(args:List V)(G:Tr Blk')(c:Nat)(K:V->Tr Blk'->Nat->Option α):Option α:=
 match P.funcs[g]? with
 | none=>none
 | some fn=>match fn.body with
   | none=>none
   | some x=>bif(fn.name== "runtime.NumGoroutine") then none else
     bif Nat.ble args.length fn.ntmps&&okC fn.ntmps x&&Nat.ble args.length 4000 then
      codeK P call cc L x (frT args 0 .leaf) G c fun e T' G' c'=>match e with
       | .exit _=>none
       | _=>match resV P (yBO T') ⟨G'.get,c'⟩ fn.results.toList with
         | none=>none
         | some r=>K r G' c'
     else none
theorem PSf.frOf{args:List V}(h:∀x∈args,PS x):PSf (Proofs.YtakljpcmbpaeaaaGreat.frOf args):=fun t=>by
 unfold Proofs.YtakljpcmbpaeaaaGreat.frOf
 cases ht:args[t]? with
 | none=>exact .undef
 | some x=>exact h x (List.mem_of_getElem? ht)
theorem xAK{P:Program}(hm:P.follows .mixedOrders=true){call:ICk α}{cc:CCk α}(hi:xFy P call)(hc:xDj P cc){L:Nat}{g:FuncId}{args:List V}{G:Tr Blk'}{c:Nat}{K:V->Tr Blk'->Nat->Option α}{r:α}(ha:∀x∈args,PS x)(hg:PSg G.get)(h:bodyK P call cc L g args G c K=some r):
  ∃fn x,P.funcs[g]?=some fn/\fn.body=some x/\(fn.name== "runtime.NumGoroutine")=false/\Nat.ble args.length fn.ntmps=true/\okC fn.ntmps x=true/\
   ∀Q:AEx->Fr->St->Prop,(∀e fr G' c' v,e= .ret\/e= .normal->resV P fr ⟨Tr.get G',c'⟩ fn.results.toList=some v->PS v->PSg (Tr.get G')->K v G' c'=some r->Q e fr ⟨G'.get,c'⟩)->AW P fn.ntmps x Q (frOf args) ⟨G.get,c⟩:=by
 unfold bodyK at h
 split at h
 ·cases h
 rename_i fn hf
 split at h
 ·cases h
 rename_i x hb
 cases hn:(fn.name== "runtime.NumGoroutine") with
 | true=>rw[hn] at h;cases h
 | false=>
 rw[hn,cond_false] at h
 obtain⟨h1,h2⟩:=yAN h
 rw[Bool.and_eq_true,Bool.and_eq_true] at h1
 have hl:args.length<=4000:=Nat.le_of_ble_eq_true h1.2
 refine⟨fn,x,hf,hb,hn,h1.1.1,h1.1.2,fun Q hq=>?_⟩
 rw[←yLb hl]
 refine xAU hm hi hc x _ G c _ r h1.1.2 h2 (by rw[yLb hl];exact .frOf ha) hg Q fun e T' G' c' hf' hg' h'=>?_
 have fin:e= .ret\/e= .normal->(match resV P (yBO T') ⟨G'.get,c'⟩ fn.results.toList with | none=>none | some v=>K v G' c')=some r->Q e (yBO T') ⟨G'.get,c'⟩:=fun he h3=>by
  split at h3
  ·cases h3
  ·rename_i v hv
   exact hq e _ G' c' v he hv (xBe hf' hg' hv) hg' h3
 cases e with
 | exit i=>cases h'
 | normal=>exact fin (.inr rfl) h'
 | ret=>exact fin (.inl rfl) h'
def xF2(call:ICk α):Prop:=∀g args G c K r,call g args G c K=some r->∃x G' c',(∀K',call g args G c K'=K' x G' c')/\((∀y∈args,PS y)->PSg (Tr.get G)->PS x/\PSg (Tr.get G'))
def xFx(cc:CCk α):Prop:=∀g args K r,cc.run g args K=some r->∃x,(∀K',cc.run g args K'=K' x)/\((∀y∈args,Plain y)->Plain x)
theorem yWb{x:V}(h:Plain x):PSr (asR x):=by
 cases h with
 | sl es fl hh=>exact fun r hr y hy=>(hh r hr y hy).ps
 | _=>exact fun r hr=>by cases hr
theorem xMX{fr:Fr}{f:Operand}{g:Fn}{first caps:List V}(he:ev fr f= .fn g first caps)(args:List Operand)(hf:PSf fr):∀x∈first++(args.map (ev fr)++caps),PS x:=fun x hx=>by
 have hfv:=hf.ev f
 rw[he] at hfv
 rcases List.mem_append.1 hx with hx | hx
 ·exact hfv.fn_inv.1 x hx
 ·rcases List.mem_append.1 hx with hx | hx
  ·exact hf.evs _ x hx
  ·exact hfv.fn_inv.2 x hx
theorem xOG{P:Program}{call:ICk α}(hc:xF2 call){op:Op}{fr:Fr}{G:Tr Blk'}{c:Nat}{K:V->Tr Blk'->Nat->Option α}{r:α}(h:stepK P call op fr G c K=some r):
  ∃x G' c',(∀K',stepK P call op fr G c K'=K' x G' c')/\(PSf fr->PSg G.get->PS x/\PSg (Tr.get G')):=by
 have R:ropK P op fr G c K=some r->∃x G' c',(∀K':V->Tr Blk'->Nat->Option α,ropK P op fr G c K'=K' x G' c')/\(PSf fr->PSg G.get->PS x/\PSg (Tr.get G')):=fun h=>by
  obtain⟨p,hp,_,hk⟩:=xH6 h
  exact⟨p.1,p.2.1,p.2.2,hk,fun hf hg=>xQa hf hg (x:=p.1) (G':=p.2.1) (c':=p.2.2) hp⟩
 cases op
 case call q=>
  obtain⟨callee,args,ts⟩:=q
  cases callee with
  | value f=>
    unfold stepK at h ⊢
    dsimp only at h ⊢
    split at h
    ·rename_i g first caps he
     try simp only[he]
     obtain⟨x,G',c',h1,h2⟩:=hc _ _ _ _ _ _ h
     exact⟨x,G',c',h1,fun hf hg=>h2 (xMX he _ hf) hg⟩
    ·cases h
  | builtin b=>exact R h
  | invoke a b=>exact R h
 all_goals exact R h
theorem yWX{P:Program}{call:ICk α}(hc:xF2 call){ops:Array Oper}:∀(l:List Oper) (T:Tr V) (G:Tr Blk') (c:Nat) (K:Ks α) (r:α),opsK P call ops l T G c K=some r→
  ∃T' G' c',(∀K',opsK P call ops l T G c K'=K' T' G' c')/\(PSf (yBO T)->PSg G.get->PSf (yBO T')/\PSg (Tr.get G'))
 | [],T,G,c,K,r,h=>⟨T,G,c,fun K'=>rfl,fun a b=>⟨a,b⟩⟩
 | o::rest,T,G,c,K,r,h=>by
   unfold opsK at h
   obtain⟨hd,h⟩:=yAN h
   have step:∀T1:Tr V,yBO T1=yBO T->stepK P call o.op (yBO T1) G c (fun x G' c'=>opsK P call ops rest (putT T1 o.dst x) G' c' K)=some r→
     ∃T' G' c',(∀K':Ks α,stepK P call o.op (yBO T1) G c (fun x G' c'=>opsK P call ops rest (putT T1 o.dst x) G' c' K')=K' T' G' c')/\(PSf (yBO T)->PSg G.get->PSf (yBO T')/\PSg (Tr.get G')):=fun T1 e h2=>by
    rw[←e]
    obtain⟨x,G1,c1,hx,hp⟩:=xOG hc h2
    rw[hx] at h2
    obtain⟨T',G',c',hk,hq⟩:=yWX hc rest _ _ _ K r h2
    exact⟨T',G',c',fun K'=>by rw[hx];exact hk K',fun a b=>hq (a.putT hd (hp a b).1) (hp a b).2⟩
   have skip:∀T1:Tr V,yBO T1=yBO T->opsK P call ops rest (putT T1 o.dst (.tup [])) G c K=some r->∃T' G' c',(∀K':Ks α,opsK P call ops rest (putT T1 o.dst (.tup [])) G c K'=K' T' G' c')/\(PSf (yBO T)->PSg G.get->PSf (yBO T')/\PSg (Tr.get G')):=fun T1 e h2=>by
    rw[←e]
    obtain⟨T',G',c',hk,hq⟩:=yWX hc rest _ _ _ K r h2
    exact⟨T',G',c',hk,fun a b=>hq (a.putT hd .nil) b⟩
   simp only[opsK,hd,cond_true]
   cases hgd:o.guard with
   | none=>
     rw[hgd] at h
     exact step T rfl h
   | some jw=>
     obtain⟨j,want⟩:=jw
     rw[hgd] at h
     dsimp only at h ⊢
     cases hv:gval ops (yBO T) j <;> rw[hv] at h <;> try (exact skip T rfl h)
     case undef=>cases h
     case bool b=>
      dsimp only at h ⊢
      cases want <;> cases b <;> first | exact step _ (yPu hv) h | exact skip _ (yPu hv) h
theorem xLB{P:Program}{cc:CCk α}(hc:xFx cc){op:Op}{fr:Fr}{g:Gs}{n:Nat}{K:List Nat->V->Option Blk'->Option α}{r:α}(h:dcallK P cc op fr g n K=some r):
  ∃L x ob,(∀K',dcallK P cc op fr g n K'=K' L x ob)/\(PSf fr->PSg g->PS x/\∀b,ob=some b->PSr b.es):=by
 cases op <;> try (simp[dcallK] at h;done)
 case call q=>
  obtain⟨callee,args,ts⟩:=q
  cases callee <;> try (simp[dcallK] at h;done)
  case value f=>
   unfold dcallK at h ⊢
   dsimp only at h ⊢
   split at h
   ·rename_i k first caps he
    try simp only[he]
    have hpa:=fun hf=>xMX (fr:=fr) he args.toList hf
    generalize first++(args.toList.map (ev fr)++caps)=as0 at h hpa ⊢
    cases hkd:cc.kd k with
    | none=>
      rw[hkd] at h
      dsimp only at h ⊢
      cases hp:as0.all (nmB 20) with
      | true=>
        rw[hp,cond_true] at h
        obtain⟨x,hx,hpx⟩:=hc _ _ _ _ h
        exact⟨[n],x,none,fun K'=>by rw[cond_true,hx],fun hf hg=>⟨(hpx fun z hz=>yCg 20 z (hpa hf z hz) (List.all_eq_true.1 hp z hz)).ps,nofun⟩⟩
      | false=>
        rw[hp,cond_false] at h
        cases hm:mapC (frC mny 20 (resT (yE3 (n::as0.flatMap (xGr 20 g))) g)) as0 with
        | none=>rw[hm] at h;cases h
        | some as'=>
          rw[hm] at h
          dsimp only at h ⊢
          obtain⟨q1,h,q2⟩:=yCR h
          obtain⟨x,hx,hpx⟩:=hc _ _ _ _ h
          rw[hx] at h
          obtain⟨hs,h⟩:=yAN h
          exact⟨n::as0.flatMap (xGr 20 g),x,none,fun K'=>by simp only[cond_false,q2,hx,hs,cond_true],fun hf hg=>⟨(hpx (yLl (st:=⟨Proofs.YtakljpcmbpaeaaaGreat.resT (yE3 (n::as0.flatMap (xGr 20 g))) g,n⟩) (c:=as'.1) (ys:=as'.2) hg.resT (hpa hf) hm q1).2).ps,nofun⟩⟩
    | some sz=>
      rw[hkd] at h
      dsimp only at h ⊢
      cases hp:as0.all (nmB 20) with
      | true=>
        rw[hp,cond_true] at h
        obtain⟨x,hx,hpx⟩:=hc _ _ _ _ h
        exact⟨[n],_,some ⟨asR x,sz,0⟩,fun K'=>by rw[cond_true,hx],fun hf hg=>⟨.bs _ _ _ _,fun b hb=>by
         injection hb with hb
         subst hb
         exact yWb (hpx fun z hz=>yCg 20 z (hpa hf z hz) (List.all_eq_true.1 hp z hz))⟩⟩
      | false=>
        rw[hp,cond_false] at h
        cases hm:mapC (frC mny 20 (resT (yE3 (n::as0.flatMap (xGr 20 g))) g)) as0 with
        | none=>rw[hm] at h;cases h
        | some as'=>
          rw[hm] at h
          dsimp only at h ⊢
          obtain⟨q1,h,q2⟩:=yCR h
          obtain⟨x,hx,hpx⟩:=hc _ _ _ _ h
          rw[hx] at h
          obtain⟨hs,h⟩:=yAN h
          exact⟨n::as0.flatMap (xGr 20 g),.bs n 0 (asR x).length (asR x).length,some ⟨asR x,sz,0⟩,fun K'=>by simp only[cond_false,q2,hx,hs,cond_true],fun hf hg=>⟨.bs _ _ _ _,fun b hb=>by
           injection hb with hb
           subst hb
           exact yWb (hpx (yLl (st:=⟨Proofs.YtakljpcmbpaeaaaGreat.resT (yE3 (n::as0.flatMap (xGr 20 g))) g,n⟩) (c:=as'.1) (ys:=as'.2) hg.resT (hpa hf) hm q1).2)⟩⟩
   ·cases h
theorem xQ9{P:Program}{cc:CCk α}(hc:xFx cc){n0:Nat}{o:Oper}{k:Nat}{rd wr:Acc}{T:Tr V}{G:Tr Blk'}{R:Acc->Acc->Tr V->Tr Blk'->Option α}{r:α}(hd:okD o.dst=true)(h2:goK P cc n0 o k rd wr T G R=some r):
  ∃rd' wr' T' G',R rd' wr' T' G'=some r/\(∀R':Acc->Acc->Tr V->Tr Blk'->Option α,goK P cc n0 o k rd wr T G R'=R' rd' wr' T' G')/\(PSf (yBO T)->PSg G.get->PSf (yBO T')/\PSg (Tr.get G')):=by
 unfold goK at h2 ⊢
 cases hcl:yQx o.op with
 | true=>
   rw[hcl,cond_true] at h2
   obtain⟨L,x,ob,hx,hpx⟩:=xLB hc h2
   rw[hx] at h2
   cases ob with
   | none=>
     obtain⟨k5,k6⟩:=yAN h2
     exact⟨_,_,_,_,k6,fun R'=>by rw[cond_true,hx];dsimp only;rw[k5,cond_true],fun a b=>⟨a.putT hd (hpx a b).1,b⟩⟩
   | some bk=>
     obtain⟨k5,k6⟩:=yAN h2
     cases hu:xDh G [n0+k] (St.new ⟨G.get,n0+k⟩ bk).get with
     | none=>rw[hu] at k6;cases k6
     | some G1=>
       rw[hu] at k6
       exact⟨_,_,_,_,k6,fun R'=>by rw[cond_true,hx];dsimp only;rw[k5,cond_true,hu],fun a b=>⟨a.putT hd (hpx a b).1,by rw[xAG hu];exact PSg.new (st:=⟨G.get,n0+k⟩) b ((hpx a b).2 bk rfl)⟩⟩
 | false=>
   rw[hcl,cond_false] at h2
   simp only[cond_false]
   obtain⟨p,G1,he,hu,hG,h2,hdet⟩:=xGQ h2
   cases hS:opS P o.op with
   | true=>
     rw[hS,cond_true] at h2
     obtain⟨h3,h4⟩:=yAN h2
     have hu:=hu hS
     refine⟨_,_,_,_,h4,fun R'=>?_,fun a b=>?_⟩
     ·rw[hdet,cond_true,h3,cond_true]
     ·obtain⟨p1,p2⟩:=xMo a b he
      have h5:=(yQu (x:=p.1) (s':=p.2) he).2
      rw[hS,cond_true] at h5
      have hgt:G1.get=p.2.get:=(yOm _ _ _ _ hu).trans h5
      exact⟨a.putT hd p1,by rw[hgt];exact p2⟩
   | false=>
     rw[hS,cond_false] at h2
     obtain⟨h3,h4⟩:=yAN h2
     refine⟨_,_,_,_,h4,fun R'=>?_,fun a b=>⟨a.putT hd (xMo a b he).1,b⟩⟩
     rw[hdet,cond_false,h3,cond_true]
theorem yZ8{P:Program}{cc:CCk α}(hc:xFx cc){ops:Array Oper}{n0:Nat}:∀(l:List Oper) (k:Nat) (rd wr:Acc) (T:Tr V) (G:Tr Blk') (K:Tr V->Tr Blk'->Option α) (r:α),rdlK P cc ops n0 l k rd wr T G K=some r→
  ∃T' G',(∀K',rdlK P cc ops n0 l k rd wr T G K'=K' T' G')/\(PSf (yBO T)->PSg G.get->PSf (yBO T')/\PSg (Tr.get G'))
 | [],k,rd,wr,T,G,K,r,h=>⟨T,G,fun K'=>rfl,fun a b=>⟨a,b⟩⟩
 | o::rest,k,rd,wr,T,G,K,r,h=>by
   unfold rdlK at h
   obtain⟨hd,h⟩:=yAN h
   simp only[rdlK,hd,cond_true]
   have skip:∀T1:Tr V,yBO T1=yBO T->rdlK P cc ops n0 rest (k+1) rd wr (putT T1 o.dst (.tup [])) G K=some r->∃T' G',(∀K':Tr V->Tr Blk'->Option α,rdlK P cc ops n0 rest (k+1) rd wr (putT T1 o.dst (.tup [])) G K'=K' T' G')/\(PSf (yBO T)->PSg G.get->PSf (yBO T')/\PSg (Tr.get G')):=fun T1 e h2=>by
    rw[←e]
    obtain⟨T',G',hk,hq⟩:=yZ8 hc rest _ _ _ _ _ K r h2
    exact⟨T',G',hk,fun a b=>hq (a.putT hd .nil) b⟩
   have step:∀T1:Tr V,yBO T1=yBO T->goK P cc n0 o k rd wr T1 G (fun rd wr T G=>rdlK P cc ops n0 rest (k+1) rd wr T G K)=some r->∃T' G',(∀K':Tr V->Tr Blk'->Option α,goK P cc n0 o k rd wr T1 G (fun rd wr T G=>rdlK P cc ops n0 rest (k+1) rd wr T G K')=K' T' G')/\(PSf (yBO T)->PSg G.get->PSf (yBO T')/\PSg (Tr.get G')):=fun T1 e h2=>by
    rw[←e]
    obtain⟨rd',wr',T2,G2,k1,k2,k3⟩:=xQ9 hc hd h2
    obtain⟨T',G',hk,hq⟩:=yZ8 hc rest _ _ _ _ _ K r k1
    exact⟨T',G',fun K'=>(k2 _).trans (hk K'),fun a b=>hq (k3 a b).1 (k3 a b).2⟩
   cases hgd:o.guard with
   | none=>
     rw[hgd] at h
     exact step T rfl h
   | some jw=>
     obtain⟨j,want⟩:=jw
     rw[hgd] at h
     dsimp only at h ⊢
     cases hv:gval ops (yBO T) j <;> rw[hv] at h <;> try (exact skip T rfl h)
     case undef=>cases h
     case bool b=>
      dsimp only at h ⊢
      cases want <;> cases b <;> first | exact step _ (yPu hv) h | exact skip _ (yPu hv) h
theorem yO3{P:Program}{call:ICk α}{cc:CCk α}(hi:xF2 call)(hc:xFx cc){L:Nat}:∀(x:Code) (T:Tr V) (G:Tr Blk') (c:Nat) (K:Kt α) (r:α),codeK P call cc L x T G c K=some r→
  ∃e T' G' c',(∀K',codeK P call cc L x T G c K'=K' e T' G' c')/\(PSf (yBO T)->PSg G.get->PSf (yBO T')/\PSg (Tr.get G')):=by
 intro x
 induction x with
 | skip=>exact fun T G c K r h=>⟨.normal,T,G,c,fun K'=>rfl,fun a b=>⟨a,b⟩⟩
 | label i=>exact fun T G c K r h=>⟨.normal,T,G,c,fun K'=>rfl,fun a b=>⟨a,b⟩⟩
 | exit i=>exact fun T G c K r h=>⟨.exit i,T,G,c,fun K'=>rfl,fun a b=>⟨a,b⟩⟩
 | ret=>exact fun T G c K r h=>⟨.ret,T,G,c,fun K'=>rfl,fun a b=>⟨a,b⟩⟩
 | seq x y ihx ihy=>
   intro T G c K r h
   unfold codeK at h
   obtain⟨e,T1,G1,c1,hx,hp⟩:=ihx T G c _ r h
   rw[hx] at h
   cases e with
   | normal=>
     obtain⟨e2,T2,G2,c2,hy,hq⟩:=ihy T1 G1 c1 K r h
     exact⟨e2,T2,G2,c2,fun K'=>(hx _).trans (hy K'),fun a b=>hq (hp a b).1 (hp a b).2⟩
   | exit i=>exact⟨.exit i,T1,G1,c1,fun K'=>hx _,hp⟩
   | ret=>exact⟨.ret,T1,G1,c1,fun K'=>hx _,hp⟩
 | cond q x y ihx ihy=>
   intro T G c K r h
   unfold codeK at h ⊢
   split at h
   ·rename_i b hv
    try simp only[hv]
    have e:∀v,b=v->yBO (setQ T q v)=yBO T:=fun v hbv=>yRT (by rw[hv,hbv])
    cases b with
    | true=>rw[←e true rfl];exact ihx _ G c K r h
    | false=>rw[←e false rfl];exact ihy _ G c K r h
   ·cases h
 | block id x ih=>
   intro T G c K r h
   unfold codeK at h
   obtain⟨e,T1,G1,c1,hx,hp⟩:=ih T G c _ r h
   cases e with
   | normal=>exact⟨.normal,T1,G1,c1,fun K'=>hx _,hp⟩
   | ret=>exact⟨.ret,T1,G1,c1,fun K'=>hx _,hp⟩
   | exit i=>
     cases hid:Nat.beq i id with
     | true=>exact⟨.normal,T1,G1,c1,fun K'=>(hx _).trans (by dsimp only;rw[hid];rfl),hp⟩
     | false=>exact⟨.exit i,T1,G1,c1,fun K'=>(hx _).trans (by dsimp only;rw[hid];rfl),hp⟩
 | scope x ih=>exact fun T G c K r h=>ih T G c K r h
 | loop x ih=>
   intro T G c K r h
   have key:∀(m:Nat) (T:Tr V) (G:Tr Blk') (c:Nat),loopK (codeK P call cc L x) m T G c K=some r->∃e T' G' c',(∀K',loopK (codeK P call cc L x) m T G c K'=K' e T' G' c')/\(PSf (yBO T)->PSg G.get->PSf (yBO T')/\PSg (Tr.get G')):=by
    intro m
    induction m with
    | zero=>intro T G c h;cases h
    | succ m ihm=>
      intro T G c h
      unfold loopK at h
      obtain⟨e,T1,G1,c1,hx,hp⟩:=ih T G c _ r h
      rw[hx] at h
      cases e with
      | normal=>
        obtain⟨e2,T2,G2,c2,hy,hq⟩:=ihm T1 G1 c1 h
        exact⟨e2,T2,G2,c2,fun K'=>(hx _).trans (hy K'),fun a b=>hq (hp a b).1 (hp a b).2⟩
      | exit i=>exact⟨.exit i,T1,G1,c1,fun K'=>hx _,hp⟩
      | ret=>exact⟨.ret,T1,G1,c1,fun K'=>hx _,hp⟩
   exact key L T G c h
 | region i ops draw=>
   intro T G c K r h
   unfold codeK at h ⊢
   cases draw with
   | true=>
     simp only[cond_true] at h ⊢
     cases ht:tlB P ops with
     | true=>
       rw[ht,cond_true] at h
       simp only[cond_true]
       obtain⟨T',G',c',hk,hp⟩:=yWX hi _ _ _ _ _ r h
       exact⟨.normal,T',G',c',fun K'=>hk _,hp⟩
     | false=>
       rw[ht,cond_false] at h
       simp only[cond_false]
       cases hx:mxB P ops with
       | true=>
         rw[hx,cond_true] at h
         simp only[cond_true]
         obtain⟨T',G',hk,hp⟩:=yZ8 hc _ _ _ _ _ _ _ r h
         rw[hk] at h
         obtain⟨T2,G2,c2,hk2,hp2⟩:=yWX hi _ _ _ _ _ r h
         exact⟨.normal,T2,G2,c2,fun K'=>(hk _).trans (hk2 _),fun a b=>hp2 (hp a b).1 (hp a b).2⟩
       | false=>
       rw[hx,cond_false] at h
       simp only[cond_false]
       obtain⟨T',G',hk,hp⟩:=yZ8 hc _ _ _ _ _ _ _ r h
       exact⟨.normal,T',G',c+ops.size,fun K'=>hk _,hp⟩
   | false=>
     simp only[cond_false] at h ⊢
     obtain⟨T',G',c',hk,hp⟩:=yWX hi _ _ _ _ _ r h
     exact⟨.normal,T',G',c',fun K'=>hk _,hp⟩
 | _=>intro T G c K r h;cases h
theorem xGC{P:Program}{call:ICk α}{cc:CCk α}(hi:xF2 call)(hc:xFx cc){L:Nat}:xF2 (bodyK P call cc L):=by
 intro g args G c K r h
 unfold bodyK at h ⊢
 split at h
 ·cases h
 rename_i fn hf
 split at h
 ·cases h
 rename_i x hb
 cases hn:(fn.name== "runtime.NumGoroutine") with
 | true=>rw[hn] at h;cases h
 | false=>
 rw[hn,cond_false] at h
 obtain⟨h1,h2⟩:=yAN h
 obtain⟨e,T1,G1,c1,hx,hp⟩:=yO3 hi hc x _ _ _ _ r h2
 rw[hx] at h2
 have hl:args.length<=4000:=by
  rw[Bool.and_eq_true] at h1
  exact Nat.le_of_ble_eq_true h1.2
 have ps:(∀y∈args,PS y)->PSg (Tr.get G)->∀v,resV P (yBO T1) ⟨G1.get,c1⟩ fn.results.toList=some v->PS v/\PSg (Tr.get G1):=fun ha hg v hv=>by
  obtain⟨a,b⟩:=hp (by rw[yLb hl];exact .frOf ha) hg
  exact⟨xBe a b hv,b⟩
 cases e with
 | exit i=>cases h2
 | normal=>
   dsimp only at h2
   cases hv:resV P (yBO T1) ⟨G1.get,c1⟩ fn.results.toList with
   | none=>rw[hv] at h2;cases h2
   | some v=>exact⟨v,G1,c1,fun K'=>by simp only[hn,h1,cond_true,cond_false,hx,hv],fun ha hg=>ps ha hg v hv⟩
 | ret=>
   dsimp only at h2
   cases hv:resV P (yBO T1) ⟨G1.get,c1⟩ fn.results.toList with
   | none=>rw[hv] at h2;cases h2
   | some v=>exact⟨v,G1,c1,fun K'=>by simp only[hn,h1,cond_true,cond_false,hx,hv],fun ha hg=>ps ha hg v hv⟩
abbrev ICf(α:Type):=List V->Tr Blk'->Nat->(V->Tr Blk'->Nat->Option α)->Option α
def xRv(P:Program)(g:FuncId)(f:ICf α):Prop:=
 (∀args G c K r,(∀x∈args,PS x)->PSg G.get->f args G c K=some r->∀Kp:V->St->Prop,(∀x G' c',PS x->PSg (Tr.get G')->K x G' c'=some r->Kp x ⟨G'.get,c'⟩)->xMT P g args ⟨G.get,c⟩ Kp)/\
 ∀args G c K r,f args G c K=some r->∃x G' c',(∀K',f args G c K'=K' x G' c')/\((∀y∈args,PS y)->PSg (Tr.get G)->PS x/\PSg (Tr.get G'))
inductive Knd (α:Type) where
 | c
 | f
 | n (sz:Nat)
 | i (run:ICf α)
def Knd.fb:Knd α->Bool
 | .f=>true
 | _=>false
def Knd.sz:Knd α->Option Nat
 | .n s=>some s
 | _=>none
abbrev Spk(α:Type):=FuncId->Option (Knd α×(List V->(V->Option α)->Option α))
def yS5(P:Program)(g:FuncId)(s:Knd α×(List V->(V->Option α)->Option α)):Prop:=
 (∀f,s.1= .i f->xRv P g f)/\∀args K r,s.2 args K=some r->∃x,(∀K',s.2 args K'=K' x)/\((∀y∈args,Plain y)->Con P g args (· = x)/\Plain x/\(s.1.fb=true->xTC P g args x)/\∀sz,s.1.sz=some sz->xF0 P g args (asR x) sz)
def yLc(P:Program)(sp:Spk α):Prop:=∀g s,sp g=some s->yS5 P g s
def xQR(G:Tr Blk')(c sz:Nat)(es:List (List V))(K:V->Tr Blk'->Nat->Option α):Option α:=match xDh G [c] (St.new ⟨G.get,c⟩ ⟨es,sz,0⟩).get with
 | none=>none
 | some G'=>K (.bs c 0 es.length es.length) G' (c+1)
def xGe(P:Program)(sp:Spk α)(body:ICk α)(g:FuncId)(args:List V)(G:Tr Blk')(c:Nat)(K:V->Tr Blk'->Nat->Option α):Option α:=
 match sp g with
 | some s=>match s.1 with
   | .i f=>f args G c K
   | .n sz=>bif args.all (nmB 20) then s.2 (args.map (wkn 20)) fun x=>xQR G c sz (asR x) K
     else(match mapC (frC mny 20 G.get) args with
      | none=>none
      | some p=>yXO p.1 (s.2 p.2 fun x=>bif xNu (asR x) then xQR G c sz (asR x) K else none) none)
   | .f=>bif args.all (nmB 20) then s.2 (args.map (wkn 20)) fun x=>K x G c
     else(match mapC (frC mny 20 G.get) args with
      | none=>none
      | some p=>yXO p.1 (s.2 p.2 fun x=>K x G c) none)
   | .c=>bif args.all (nmB 20) then s.2 (args.map (wkn 20)) fun x=>K x G c
     else(match mapC (frC mny 20 G.get) args with
      | none=>none
      | some p=>yXO p.1 (s.2 p.2 fun x=>bif scB 20 x then K x G c else none) none)
 | none=>body g args G c K
def xGL(sp:Spk α)(body:CCk α):CCk α:=⟨fun g args K=>match sp g with
 | some s=>s.2 (args.map (wkn 20)) K
 | none=>body.run g args K,fun g=>match sp g with
 | some s=>s.1.sz
 | none=>none⟩
def runK(P:Program)(call:ICk α)(cc:CCk α)(L:Nat):CCk α:=⟨fun g args K=>
 bodyK P call cc L g args .leaf 0 fun r G _=>match frC mny 20 G.get r with
  | none=>none
  | some p=>yXO p.1 (K p.2) none,fun _=>none⟩
def yDw(P:Program)(sp:Spk α)(L:Nat):Nat->ICk α×CCk α
 | 0=>(fun _ _ _ _ _=>none,⟨fun _ _ _=>none,fun _=>none⟩)
 | n+1=>(xGe P sp (bodyK P (yDw P sp L n).1 (yDw P sp L n).2 L),xGL sp (runK P (yDw P sp L n).1 (yDw P sp L n).2 L))
theorem xF0.wkn{P:Program}{g:FuncId}{n:Nat}{args:List V}{es:List (List V)}{sz:Nat}(h:xF0 P g (args.map (Proofs.YtakljpcmbpaeaaaGreat.wkn n)) es sz):xF0 P g args es sz:=
 ⟨h.1,h.2.1,h.2.2.1,fun w S vargs hS hv=>h.2.2.2 w S vargs hS ⟨by simpa using hv.1,fun j hj hj'=>by
  rw[List.getElem_map]
  exact xKw n _ _ (hv.2 j (by simpa using hj) hj')⟩⟩
theorem yWU{G:Tr Blk'}{c sz:Nat}{es:List (List V)}{K:V->Tr Blk'->Nat->Option α}{r:α}(h:xQR G c sz es K=some r):
  ∃G',G'.get=(St.new ⟨G.get,c⟩ ⟨es,sz,0⟩).get/\K (.bs c 0 es.length es.length) G' (c+1)=some r/\∀K':V->Tr Blk'->Nat->Option α,xQR G c sz es K'=K' (.bs c 0 es.length es.length) G' (c+1):=by
 unfold xQR at h
 cases hu:xDh G [c] (St.new ⟨G.get,c⟩ ⟨es,sz,0⟩).get with
 | none=>rw[hu] at h;cases h
 | some G'=>
   rw[hu] at h
   exact⟨G',xAG hu,h,fun K'=>by unfold xQR;rw[hu]⟩
theorem xOp{P:Program}(hm:P.follows .mixedOrders=true){call:ICk α}{cc:CCk α}(hi:xFy P call)(hc:xDj P cc){L:Nat}:xFy P (bodyK P call cc L):=by
 intro g args G c K r ha hg h Kp hk
 obtain⟨fn,y,hf,hb,hn,hl,ho,hq⟩:=xAK hm hi hc ha hg h
 refine .inr (.inr (.inr (.inr ⟨fun v st'=>∃G' c',st'=⟨Tr.get G',c'⟩/\PS v/\PSg (Tr.get G')/\K v G' c'=some r,?_,?_⟩)))
 ·refine xLV hf hb hn (Nat.le_of_ble_eq_true hl) (hq _ fun e fr G' c' v he hr h1 h2 h3=>?_)
  rcases he with rfl | rfl <;> exact⟨v,hr,G',c',rfl,h1,h2,h3⟩
 ·rintro v st' ⟨G',c',rfl,h1,h2,h3⟩
  exact hk v G' c' h1 h2 h3
theorem PSg.leaf:PSg (Tr.get (.leaf:Tr Blk')):=fun b k h=>by cases h
theorem xKj{P:Program}{call:ICk α}{cc:CCk α}(hi:xF2 call)(hc:xFx cc){L:Nat}:xFx (runK P call cc L):=by
 intro g args K r h
 unfold runK at h ⊢
 dsimp only at h ⊢
 obtain⟨x,G,c,hx,hp⟩:=xGC hi hc _ _ _ _ _ _ h
 rw[hx] at h
 cases hz:frC mny 20 G.get x with
 | none=>rw[hz] at h;cases h
 | some y=>
   rw[hz] at h
   dsimp only at h
   obtain⟨q1,h,q2⟩:=yCR h
   refine⟨y.2,fun K'=>by simp only[hx,hz,q2],fun ha=>?_⟩
   obtain⟨h1,h2⟩:=hp (fun z hz=>(ha z hz).ps) PSg.leaf
   exact(yWI 20 ⟨G.get,c⟩ x y.1 y.2 h2 h1 hz q1).2
theorem xRZ{P:Program}(hm:P.follows .mixedOrders=true){call:ICk α}{cc:CCk α}(hi:xFy P call)(hc:xDj P cc)(di:xF2 call)(dc:xFx cc){L:Nat}:xDj P (runK P call cc L):=by
 intro g args K r ha h
 obtain⟨x,hx,hpx⟩:=xKj di dc _ _ _ _ h
 have h2:(runK P call cc L).run g args (fun y=>open Classical in if y=x then some r else none)=some r:=by rw[hx,if_pos rfl]
 rw[hx] at h
 refine⟨x,?_,hpx ha,h,fun sz q=>by cases q⟩
 unfold runK at h2
 obtain⟨fn,y,hf,hb,hn,hl,ho,hq⟩:=xAK hm hi hc (fun x hx=>(ha x hx).ps) PSg.leaf h2
 refine xMh hf hb hn (Nat.le_of_ble_eq_true hl) (hq _ fun e fr G' c' v he hr h1 h2 h3=>?_)
 dsimp only at h3
 split at h3
 ·cases h3
 ·rename_i z hz
  obtain⟨q1,h3,-⟩:=yCR h3
  obtain⟨k1,k2⟩:=yWI 20 ⟨Tr.get G',c'⟩ v z.1 z.2 h2 h1 hz q1
  split at h3
  ·rename_i e
   subst e
   rcases he with rfl | rfl <;> exact⟨v,mny,z.2,hr,k1,rfl⟩
  ·cases h3
theorem xLT{P:Program}{sp:Spk α}(hs:yLc P sp){body:ICk α}(hb:xF2 body):xF2 (xGe P sp body):=by
 intro g args G c K r h
 unfold xGe at h ⊢
 cases hg:sp g with
 | none=>rw[hg] at h;exact hb _ _ _ _ _ _ h
 | some s=>
   rw[hg] at h
   obtain⟨hs1,hs2⟩:=hs g s hg
   dsimp only at h ⊢
   cases hk:s.1 with
   | i f=>
     rw[hk] at h
     exact(hs1 f hk).2 _ _ _ _ _ h
   | n sz=>
     rw[hk] at h
     dsimp only at h ⊢
     cases ha:args.all (nmB 20) with
     | true=>
       rw[ha,cond_true] at h
       obtain⟨x,h1,h2⟩:=hs2 _ _ _ h
       rw[h1] at h
       obtain⟨G',m1,m2,m3⟩:=yWU h
       exact⟨_,G',_,fun K'=>by rw[cond_true,h1,m3],fun k1 k2=>⟨.bs _ _ _ _,by rw[m1];exact PSg.new (st:=⟨G.get,c⟩) k2 (yWb (h2 (yOG fun y hy=>yCg 20 y (k1 y hy) (List.all_eq_true.1 ha y hy))).2.1)⟩⟩
     | false=>
       rw[ha,cond_false] at h
       simp only[cond_false]
       cases hm:mapC (frC mny 20 G.get) args with
       | none=>rw[hm] at h;cases h
       | some as'=>
         rw[hm] at h
         dsimp only at h ⊢
         obtain⟨q1,h,q2⟩:=yCR h
         obtain⟨x,h1,h2⟩:=hs2 _ _ _ h
         rw[h1] at h
         obtain⟨h3,h4⟩:=yAN h
         obtain⟨G',m1,m2,m3⟩:=yWU h4
         exact⟨_,G',_,fun K'=>by rw[q2,h1,h3,cond_true,m3],fun k1 k2=>⟨.bs _ _ _ _,by rw[m1];exact PSg.new (st:=⟨G.get,c⟩) k2 (yWb (h2 (yLl (st:=⟨G.get,c⟩) (c:=as'.1) (ys:=as'.2) k2 k1 hm q1).2).2.1)⟩⟩
   | f=>
     rw[hk] at h
     dsimp only at h ⊢
     cases ha:args.all (nmB 20) with
     | true=>
       rw[ha,cond_true] at h
       obtain⟨x,h1,h2⟩:=hs2 _ _ _ h
       exact⟨x,G,c,fun K'=>by rw[cond_true,h1],fun k1 k2=>⟨(h2 (yOG fun y hy=>yCg 20 y (k1 y hy) (List.all_eq_true.1 ha y hy))).2.1.ps,k2⟩⟩
     | false=>
       rw[ha,cond_false] at h
       simp only[cond_false]
       cases hm:mapC (frC mny 20 G.get) args with
       | none=>rw[hm] at h;cases h
       | some as'=>
         rw[hm] at h
         dsimp only at h ⊢
         obtain⟨q1,h,q2⟩:=yCR h
         obtain⟨x,h1,h2⟩:=hs2 _ _ _ h
         exact⟨x,G,c,fun K'=>by rw[q2,h1],fun k1 k2=>⟨(h2 (yLl (st:=⟨G.get,c⟩) (c:=as'.1) (ys:=as'.2) k2 k1 hm q1).2).2.1.ps,k2⟩⟩
   | c=>
     rw[hk] at h
     dsimp only at h ⊢
     cases ha:args.all (nmB 20) with
     | true=>
       rw[ha,cond_true] at h
       obtain⟨x,h1,h2⟩:=hs2 _ _ _ h
       exact⟨x,G,c,fun K'=>by rw[cond_true,h1],fun k1 k2=>⟨(h2 (yOG fun y hy=>yCg 20 y (k1 y hy) (List.all_eq_true.1 ha y hy))).2.1.ps,k2⟩⟩
     | false=>
       rw[ha,cond_false] at h
       simp only[cond_false]
       cases hm:mapC (frC mny 20 G.get) args with
       | none=>rw[hm] at h;cases h
       | some as'=>
         rw[hm] at h
         dsimp only at h ⊢
         obtain⟨q1,h,q2⟩:=yCR h
         obtain⟨x,h1,h2⟩:=hs2 _ _ _ h
         rw[h1] at h
         obtain⟨h3,h4⟩:=yAN h
         exact⟨x,G,c,fun K'=>by rw[q2,h1,h3,cond_true],fun k1 k2=>⟨(h2 (yLl (st:=⟨G.get,c⟩) (c:=as'.1) (ys:=as'.2) k2 k1 hm q1).2).2.1.ps,k2⟩⟩
theorem xNB{P:Program}{sp:Spk α}(hs:yLc P sp){body:ICk α}(hb:xFy P body):xFy P (xGe P sp body):=by
 intro g args G c K r k1 k2 h Kp hk
 unfold xGe at h
 cases hg:sp g with
 | none=>rw[hg] at h;exact hb _ _ _ _ _ _ k1 k2 h Kp hk
 | some s=>
   rw[hg] at h
   obtain⟨hs1,hs2⟩:=hs g s hg
   dsimp only at h
   have hpl:args.all (nmB 20)=true->∀y∈args,Plain y:=fun ha y hy=>yCg 20 y (k1 y hy) (List.all_eq_true.1 ha y hy)
   have new:∀(args':List V) (es:List (List V)) (sz:Nat),xIb ⟨G.get,c⟩ mny args args' es->xF0 P g args' es sz->xQR G c sz es K=some r->xMT P g args ⟨G.get,c⟩ Kp:=fun args' es sz hz hN hn=>by
    obtain⟨G',m1,m2,-⟩:=yWU hn
    refine .inr (.inr (.inr (.inr ⟨_,yYZ hz hN,?_⟩)))
    rintro v st' ⟨rfl,rfl⟩
    have:=hk _ G' (c+1) (.bs _ _ _ _) (by rw[m1];exact PSg.new (st:=⟨G.get,c⟩) k2 hN.plain) m2
    rw[m1] at this
    exact this
   cases hkd:s.1 with
   | i f=>
     rw[hkd] at h
     exact(hs1 f hkd).1 _ _ _ _ _ k1 k2 h Kp hk
   | n sz=>
     rw[hkd] at h
     dsimp only at h
     cases ha:args.all (nmB 20) with
     | true=>
       rw[ha,cond_true] at h
       obtain⟨x,h1,h2⟩:=hs2 _ _ _ h
       rw[h1] at h
       exact new args (asR x) sz (.inl ⟨hpl ha,rfl⟩) ((h2 (yOG (hpl ha))).2.2.2 sz (by rw[hkd];rfl)).wkn h
     | false=>
       rw[ha,cond_false] at h
       cases hm:mapC (frC mny 20 G.get) args with
       | none=>rw[hm] at h;cases h
       | some as'=>
         rw[hm] at h
         dsimp only at h
         obtain⟨q1,h,-⟩:=yCR h
         obtain⟨x,h1,h2⟩:=hs2 _ _ _ h
         rw[h1] at h
         obtain⟨h3,h4⟩:=yAN h
         obtain⟨m1,m2⟩:=yLl (st:=⟨G.get,c⟩) (c:=as'.1) (ys:=as'.2) k2 k1 hm q1
         exact new as'.2 (asR x) sz (.inr ⟨m1,xH7 h3⟩) ((h2 m2).2.2.2 sz (by rw[hkd];rfl)) h4
   | f=>
     rw[hkd] at h
     dsimp only at h
     cases ha:args.all (nmB 20) with
     | true=>
       rw[ha,cond_true] at h
       obtain⟨x,h1,h2⟩:=hs2 _ _ _ h
       rw[h1] at h
       exact .inl ⟨(· = x),hpl ha,(h2 (yOG (hpl ha))).1.wkn,fun v hv=>by rw[hv];exact hk x G c (h2 (yOG (hpl ha))).2.1.ps k2 h⟩
     | false=>
       rw[ha,cond_false] at h
       cases hm:mapC (frC mny 20 G.get) args with
       | none=>rw[hm] at h;cases h
       | some as'=>
         rw[hm] at h
         dsimp only at h
         obtain⟨q1,h,-⟩:=yCR h
         obtain⟨x,h1,h2⟩:=hs2 _ _ _ h
         rw[h1] at h
         obtain⟨m1,m2⟩:=yLl (st:=⟨G.get,c⟩) (c:=as'.1) (ys:=as'.2) k2 k1 hm q1
         exact .inr (.inr (.inr (.inl ⟨mny,as'.2,x,m1,(h2 m2).2.2.1 (by rw[hkd];rfl),hk x G c (h2 m2).2.1.ps k2 h⟩)))
   | c=>
     rw[hkd] at h
     dsimp only at h
     cases ha:args.all (nmB 20) with
     | true=>
       rw[ha,cond_true] at h
       obtain⟨x,h1,h2⟩:=hs2 _ _ _ h
       rw[h1] at h
       exact .inl ⟨(· = x),hpl ha,(h2 (yOG (hpl ha))).1.wkn,fun v hv=>by rw[hv];exact hk x G c (h2 (yOG (hpl ha))).2.1.ps k2 h⟩
     | false=>
       rw[ha,cond_false] at h
       cases hm:mapC (frC mny 20 G.get) args with
       | none=>rw[hm] at h;cases h
       | some as'=>
         rw[hm] at h
         dsimp only at h
         obtain⟨q1,h,-⟩:=yCR h
         obtain⟨x,h1,h2⟩:=hs2 _ _ _ h
         rw[h1] at h
         obtain⟨h3,h4⟩:=yAN h
         obtain⟨m1,m2⟩:=yLl (st:=⟨G.get,c⟩) (c:=as'.1) (ys:=as'.2) k2 k1 hm q1
         exact .inr (.inl ⟨mny,as'.2,(· = x),m1,(h2 m2).1,fun v hv=>by rw[hv];exact⟨xKl 20 _ h3,hk x G c (h2 m2).2.1.ps k2 h4⟩⟩)
theorem xK6{P:Program}{sp:Spk α}(hs:yLc P sp){body:CCk α}(hb:xFx body):xFx (xGL sp body):=by
 intro g args K r h
 unfold xGL at h ⊢
 dsimp only at h ⊢
 cases hg:sp g with
 | none=>rw[hg] at h;exact hb _ _ _ _ h
 | some s=>
   rw[hg] at h
   obtain⟨x,h1,h2⟩:=(hs g s hg).2 _ _ _ h
   exact⟨x,h1,fun ha=>(h2 (yOG ha)).2.1⟩
theorem xMe{P:Program}{sp:Spk α}(hs:yLc P sp){body:CCk α}(hb:xDj P body):xDj P (xGL sp body):=by
 intro g args K r ha h
 unfold xGL at h ⊢
 dsimp only at h ⊢
 cases hg:sp g with
 | none=>
   rw[hg] at h
   obtain⟨x,h1,h2,h3,-⟩:=hb _ _ _ _ ha h
   exact⟨x,h1,h2,h3,fun sz q=>by cases q⟩
 | some s=>
   rw[hg] at h
   dsimp only at h ⊢
   obtain⟨x,h1,h2⟩:=(hs g s hg).2 _ _ _ h
   rw[h1] at h
   exact⟨x,(h2 (yOG ha)).1.wkn,(h2 (yOG ha)).2.1,h,fun sz q=>((h2 (yOG ha)).2.2.2 sz q).wkn⟩
theorem yOO{P:Program}(hm:P.follows .mixedOrders=true){sp:Spk α}(hs:yLc P sp){L:Nat}:∀n,xFy P (yDw P sp L n).1/\xDj P (yDw P sp L n).2/\xF2 (yDw P sp L n).1/\xFx (yDw P sp L n).2
 | 0=>⟨fun g args G c K r _ _ h=>(by cases h),fun g args K r _ h=>(by cases h),fun g args G c K r h=>(by cases h),fun g args K r h=>(by cases h)⟩
 | n+1=>by
   obtain⟨h1,h2,h3,h4⟩:=yOO hm hs (L:=L) n
   exact⟨xNB hs (xOp hm h1 h2),xMe hs (xRZ hm h1 h2 h3 h4),xLT hs (xGC h3 h4),xK6 hs (xKj h3 h4)⟩
end
end Go.Proofs.YtakljpcmbpaeaaaGreat
