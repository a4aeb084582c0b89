/- The awp calculus, 7b: maps: reading, writing. -/
import Derived.Test.YtakljpcmbpaeaaaGreatMountPlaysM08
import Derived.MapKept
set_option linter.unusedSimpArgs false
set_option linter.unusedVariables false
namespace Go.Proofs.YtakljpcmbpaeaaaGreat
open Go.RowKit
def isKeyV:TypeDesc->V->Bool
 | .bool,.bool _=>true
 | .int k,.int k' _=>decide (k'=k)
 | .string,.str _=>true
 | _,_=>false
def keyEq:V->V->Bool
 | .bool a,.bool b=>a==b
 | .int _ a,.int _ b=>decide (a=b)
 | .str a,.str b=>decide (a=b)
 | _,_=>false
def keyRow(d:TypeDesc):List V->Bool
 | [k,_]=>isKeyV d k
 | _=>false
def rowOf(k:V):List (List V)->Option V
 | []=>none
 | [k',v]::l=>bif keyEq k k' then some v else rowOf k l
 | _::l=>rowOf k l
def putRow(k v:V):List (List V)->List (List V)
 | []=> [[k,v]]
 | [k',v']::l=>bif keyEq k k' then [k,v]::l else [k',v']::putRow k v l
 | r::l=>r::putRow k v l
def zeroV(P:Program)(t:TypeId):Option V:=(P.info? t).bind fun i=>i.zero.map vOf
def lkV(r:Option V)(z:Option V)(ok:Bool):Option V:=
 match r with
 | some v=>some (bif ok then .tup [v,.bool true] else v)
 | none=>z.map fun z=>bif ok then .tup [z,.bool false] else z
def vLookup(P:Program)(t:TypeId)(st:St)(x k:V)(ok:Bool):Option V:=
 match P.underlying t with
 | some (.map kt et)=>match P.underlying kt with
   | some kd=>bif isKeyV kd k then match x with
     | .mp b=>(st.get b).bind fun blk=>bif blk.es.all (keyRow kd) then
      lkV (rowOf k blk.es) (zeroV P et) ok else none
     | _=>none
     else none
   | none=>none
 | _=>none
def yGH(P:Program)(t:TypeId)(x k v:V)(st:St):Option St:=
 match P.underlying t with
 | some (.map kt _)=>match P.underlying kt with
   | some kd=>bif isKeyV kd k then match x with
     | .mp b=>(st.get b).bind fun blk=>bif blk.es.all (keyRow kd)&&Nat.beq blk.sz 2 then some (st.set b ⟨putRow k v blk.es,blk.sz,blk.lk⟩) else none
     | _=>none
     else none
   | none=>none
 | _=>none
section
variable {mu:Mu} {S:yEn} {B:Dom} {st:St} {w:World} {fr:Fr} {a:Act} {P:Program}
theorem yTP{d:TypeDesc}{k:V}{u:Value}(h:isKeyV d k=true)(hk:VR mu S w k u):MapKept.IsKey d u:=by
 cases d <;> cases k <;> simp_all[isKeyV]
 case bool.bool b=>obtain rfl:=hk.bool_inv;trivial
 case int.int q q' n=>obtain rfl:=hk.int_inv;simp[MapKept.IsKey]
 case string.str s=>obtain rfl:=hk.str_inv;trivial
theorem xI2{d:TypeDesc}{k k':V}{u u':Value}(h:isKeyV d k=true)(h':isKeyV d k'=true)(hk:VR mu S w k u)(hk':VR mu S w k' u'):Instr.sameNow d u u'=some (keyEq k k')/\(keyEq k k'=true->u'=u):=by
 cases d <;> cases k <;> simp[isKeyV] at h <;> cases k' <;> simp[isKeyV] at h'
 case bool.bool.bool b b'=>
  obtain rfl:=hk.bool_inv
  obtain rfl:=hk'.bool_inv
  simp[Instr.sameNow,keyEq]
  exact Eq.symm
 case int.int.int q q1 n q2 n'=>
  obtain rfl:=hk.int_inv
  obtain rfl:=hk'.int_inv
  subst h h'
  simp[Instr.sameNow,keyEq]
  refine⟨by by_cases e:n=n' <;> simp[e],Eq.symm⟩
 case string.str.str s s'=>
  obtain rfl:=hk.str_inv
  obtain rfl:=hk'.str_inv
  simp[Instr.sameNow,keyEq]
  refine⟨?_,Eq.symm⟩
  by_cases e:s=s'
  ·rw[decide_eq_true e];exact(MapKept.bytes_beq s s').2 e
  ·rw[decide_eq_false e]
   cases hh:s==s' with
   | false=>rfl
   | true=>exact absurd ((MapKept.bytes_beq s s').1 hh) e
def yNY(mu:Mu)(S:yEn)(w:World):List (List V)->List MapEntry->Prop
 | [],[]=>True
 | [k,v]::es,e::l=>VR mu S w k e.key/\VR mu S w v e.val/\yNY mu S w es l
 | _,_=>False
theorem xB3.rows{es:List (List V)}{ents:Array MapEntry}(h:xB3 mu S w es ents):yNY mu S w es ents.toList:=by
 obtain⟨l⟩:=ents
 obtain⟨h1,h2⟩:=h
 simp only at h1 h2 ⊢
 induction es generalizing l with
 | nil=>cases l with
   | nil=>trivial
   | cons e l=>simp at h1
 | cons r es ih=>cases l with
   | nil=>simp at h1
   | cons e l=>
     obtain⟨k,v,e1,h3,h4⟩:=h2 0 (by simp) (by simp)
     obtain rfl:r= [k,v]:=by simpa using e1
     exact⟨h3,h4,ih l (by simpa using h1) fun i hi hi'=>h2 (i+1) (by simpa using hi) (by simpa using hi')⟩
theorem yNY.is:∀{es:List (List V)} {l:List MapEntry},yNY mu S w es l->xB3 mu S w es l.toArray
 | [],[],_=>⟨rfl,fun _ h=>absurd h (by simp)⟩
 | [k,v]::es,e::l,⟨h1,h2,h3⟩=>by
   obtain⟨k1,k2⟩:=yNY.is h3
   refine⟨by simpa using k1,fun i hi hi'=>?_⟩
   cases i with
   | zero=>exact⟨k,v,rfl,h1,h2⟩
   | succ i=>exact k2 i (by simpa using hi) (by simpa using hi')
theorem xBf{d:TypeDesc}{k v:V}{u x:Value}(hk:isKeyV d k=true)(hu:VR mu S w k u)(hx:VR mu S w v x):∀(es:List (List V)) (l:List MapEntry) (i:Nat),yNY mu S w es l->es.all (keyRow d)=true→
  (rowOf k es=none/\Instr.findNow d u l i=some none/\∀b,yNY mu S w (putRow k v es) (l++ [⟨u,x,b⟩]))\/
  ∃j e y,Instr.findNow d u l i=some (some (i+j,e.val))/\l[j]?=some e/\e.key=u/\rowOf k es=some y/\VR mu S w y e.val/\yNY mu S w (putRow k v es) (l.modify j fun e=>{e with key:=u,val:=x })
 | [],[],i,_,_=> .inl ⟨rfl,rfl,fun b=>⟨hu,hx,trivial⟩⟩
 | [k',v']::es,e::l,i,⟨h1,h2,h3⟩,ha=>by
   simp only[List.all_cons,Bool.and_eq_true,keyRow] at ha
   obtain⟨q1,q2⟩:=xI2 hk ha.1 hu h1
   cases he:keyEq k k' with
   | true=>
     rw[he] at q1 q2
     refine .inr ⟨0,e,v',by simp[Instr.findNow,q1],rfl,q2 rfl,by simp[rowOf,he],h2,?_⟩
     simp only[putRow,he,cond_true,List.modify_zero_cons]
     exact⟨hu,hx,h3⟩
   | false=>
     rw[he] at q1 q2
     rcases xBf hk hu hx es l (i+1) h3 ha.2 with ⟨r1,r2,r3⟩ | ⟨j,e',y,r1,r2,r3,r4,r5,r6⟩
     ·refine .inl ⟨by simp[rowOf,he,r1],by simp[Instr.findNow,q1,r2],fun b=>?_⟩
      simp only[putRow,he,cond_false,List.cons_append]
      exact⟨h1,h2,r3 b⟩
     ·refine .inr ⟨j+1,e',y,by simp[Instr.findNow,q1,r1];omega,by simpa using r2,r3,by simp[rowOf,he,r4],r5,?_⟩
      simp only[putRow,he,cond_false,List.modify_succ_cons]
      exact⟨h1,h2,r6⟩
theorem yNY.keys{d:TypeDesc}:∀{es:List (List V)} {l:List MapEntry},yNY mu S w es l->es.all (keyRow d)=true->∀x∈l,MapKept.IsKey d x.key
 | [],[],_,_=>by simp
 | [k,v]::es,e::l,⟨h1,h2,h3⟩,ha=>by
   simp only[List.all_cons,Bool.and_eq_true,keyRow] at ha
   intro x hx
   rcases List.mem_cons.1 hx with rfl | hx
   ·exact yTP ha.1 h1
   ·exact yNY.keys h3 ha.2 x hx
theorem xQO{b:Nat}{v:Value}(hst:SR mu S B st w){k:Blk'}(hk:st.get b=some k)(h:VR mu S w (.mp b) v):
  ∃L ents clock,mu b=some L/\L.mp=true/\v= .map (some L.g)/\B L.g/\L.g<w.heap.size/\w.heap[L.g]?=some (.map ents clock)/\MapKept.Stamped ents clock/\yNY mu S w k.es ents.toList:=by
 cases h with
 | mp _ L hL hm=>
   obtain⟨L',hL',hbr,hg⟩:=hst.loc b k hk
   rw[hL] at hL';injection hL' with hL';subst hL'
   obtain⟨_,ents,clock,h1,hs,h2⟩:=hbr.map hm
   exact⟨L,ents,clock,hL,hm,rfl,(hg (.inr hm)).1,(hg (.inr hm)).2,h1,hs,h2.rows⟩
theorem xKH{et:TypeId}{z:V}(h:zeroV P et=some z):∃zv,(zeroValue et).run P w= .ok zv w/\VR mu S w z zv:=by
 obtain⟨i,hi,h⟩:=Option.bind_eq_some_iff.1 h
 obtain⟨zv,hz,rfl⟩:=Option.map_eq_some_iff.1 h
 exact⟨zv,by simp[zeroValue,typeInfo,hi,hz],.of_vOf _⟩
theorem xFt{t:TypeId}{x k y:V}{x' k':Value}{ok:Bool}(hst:SR mu S B st w)(hx:VR mu S w x x')(hk:VR mu S w k k')(h:vLookup P t st x k ok=some y):∃u,(Instr.lookup t x' k' ok).run P w= .ok u w/\VR mu S w y u:=by
 unfold vLookup at h
 split at h
 ·rename_i kt et hu
  split at h
  ·rename_i kd hkd
   cases hik:isKeyV kd k with
   | false=>rw[hik] at h;cases h
   | true=>
     rw[hik,cond_true] at h
     split at h
     ·rename_i b
      obtain⟨blk,hb,h⟩:=Option.bind_eq_some_iff.1 h
      cases hal:blk.es.all (keyRow kd) with
      | false=>rw[hal] at h;cases h
      | true=>
        rw[hal,cond_true] at h
        obtain⟨L,ents,clock,hL,hm,rfl,hB,hlt,hh,hstm,hr⟩:=xQO hst hb hx
        have hkey:=yTP hik hk
        have pair:∀(y:V) (v:Value) (q:Bool),VR mu S w y v->VR mu S w (bif ok then .tup [y,.bool q] else y) (if ok then .tuple #[v,.bool q] else v):=fun y v q hv=>by
         cases ok with
         | false=>simpa using hv
         | true=>
           simp only[cond_true,if_true]
           exact .tup _ [v,.bool q] rfl fun j hj hj'=>by
            match j,hj with
            | 0,_=>exact hv
            | 1,_=>exact .bool q
        rcases xBf (v:= .undef) (x:=Go.undef) hik hk (.undef _) blk.es ents.toList 0 hr hal with ⟨h1,h2,_⟩ | ⟨j,e,z,h1,h2,h3,h4,h5,_⟩
        ·rw[h1,lkV] at h
         obtain⟨z,hz,rfl⟩:=Option.map_eq_some_iff.1 h
         obtain⟨zv,hz1,hz2⟩:=xKH (mu:=mu) (S:=S) (w:=w) hz
         refine⟨_,?_,pair z zv false hz2⟩
         simp[Instr.lookup,run_underlying hu,MapKept.run_getObj_map hh,MapKept.run_checkKey hkd hkey,MapKept.run_findKey hkd h2,hz1,Result.andThen]
        ·rw[h4,lkV] at h
         injection h with h
         subst h
         refine⟨_,?_,pair z e.val true h5⟩
         simp[Instr.lookup,run_underlying hu,MapKept.run_getObj_map hh,MapKept.run_checkKey hkd hkey,MapKept.run_findKey hkd h1,Result.andThen]
     ·cases h
  ·cases h
 ·cases h
def xLY(w:World)(g:Nat)(o:Obj):World:={w with heap:=w.heap.setIfInBounds g o }
theorem yPD{g:Nat}{o:Obj}(hg:g<w.heap.size)(x:Nat):(xLY w g o).heap[x]?=if x=g then some o else w.heap[x]?:=by
 show(w.heap.setIfInBounds g o)[x]?=_
 by_cases e:x=g
 ·subst e;simp[hg]
 ·rw[if_neg e];simp[Ne.symm e]
theorem yTU{g:Nat}{ents ents':Array MapEntry}{clock clock':Nat}(hh:w.heap[g]?=some (.map ents clock))(p:Addr):(xLY w g (.map ents' clock')).cell? p=w.cell? p:=by
 have hg:=(Array.getElem?_eq_some_iff.1 hh).1
 unfold World.cell?
 rw[yPD hg]
 by_cases e:p.block=g
 ·rw[if_pos e,e,hh]
 ·rw[if_neg e]
theorem xJB{g:Nat}{ents ents':Array MapEntry}{clock clock':Nat}(hh:w.heap[g]?=some (.map ents clock))(p:Addr):(xLY w g (.map ents' clock')).frozen? p=w.frozen? p:=by
 have hg:=(Array.getElem?_eq_some_iff.1 hh).1
 unfold World.frozen?
 rw[yPD hg]
 by_cases e:p.block=g
 ·rw[if_pos e,e,hh]
 ·rw[if_neg e]
theorem xDU{g:Nat}{o:Obj}(hB:B g)(hg:g<w.heap.size):Off B w (xLY w g o):=
 ⟨rfl,rfl,rfl,by simp[xLY],fun k _ hk=>by rw[yPD hg,if_neg (by rintro rfl;exact hk hB)]⟩
theorem SR.setMap{b:Nat}{k:Blk'}{L:Loc}{es':List (List V)}{ents ents':Array MapEntry}{clock clock':Nat}(h:SR mu S B st w)(hk:st.get b=some k)(hL:mu b=some L)(hm:L.mp=true)(hh:w.heap[L.g]?=some (.map ents clock))
  (hrow:∀i (hi:i<es'.length),es'[i].length=k.sz) (hlk:k.lk<=es'.length) (hst':MapKept.Stamped ents' clock') (hes:xB3 mu S w es' ents'):SR mu S B (st.set b ⟨es',k.sz,k.lk⟩) (xLY w L.g (.map ents' clock')):=by
 have hg:=(Array.getElem?_eq_some_iff.1 hh).1
 have hK:yQF S w (xLY w L.g (.map ents' clock')):=fun g i _=>yTU hh _
 obtain⟨L',hL',hbr,hgL⟩:=h.loc b k hk
 rw[hL] at hL';injection hL' with hL';subst hL'
 have hsize:(xLY w L.g (.map ents' clock')).heap.size=w.heap.size:=by simp[xLY]
 refine⟨fun x kx hx=>?_,h.gdis_set hk,fun x kx Lx hx hLx g i he=>?_,fun g i hs=>by rw[hsize];exact h.sb g i hs⟩
 ·rw[St.get_set] at hx
  split at hx
  ·rename_i e
   subst e
   injection hx with hx
   subst hx
   obtain⟨h0,_⟩:=hbr.map hm
   refine⟨L,hL,⟨hbr.sz,fun hm'=>(by rw[hm] at hm';cases hm'),hlk,fun i hi=>(hrow i hi).trans hbr.sz,fun i h1 h2=>(by rw[h0] at h2;dsimp only at h1;omega),fun hm'=>(by rw[hm] at hm';cases hm'),fun _=>⟨h0,ents',clock',?_,hst',hes.mono (fun _ _ h=>h) (fun _ _ h=>h) hK⟩⟩,fun hp=>by rw[hsize];exact hgL hp⟩
   rw[yPD hg,if_pos rfl]
  ·rename_i hne
   obtain⟨Lx,hLx,hbx,hgx⟩:=h.loc _ _ hx
   refine⟨Lx,hLx,⟨hbx.sz,hbx.len,hbx.lk,hbx.row,fun i h1 h2=>?_,fun hm i hi j hj=>?_,fun hmx=>?_⟩,fun hp=>by rw[hsize];exact hgx hp⟩
   ·rw[yTU hh,xJB hh];exact hbx.room i h1 h2
   ·obtain⟨v,h1,h2,h3⟩:=hbx.cell hm i hi j hj
    exact⟨v,by rw[yTU hh];exact h1,h2,h3.mono (fun _ _ h=>h) (fun _ _ h=>h) hK⟩
   ·obtain⟨h0,en,cl,h1,hs1,h2⟩:=hbx.map hmx
    refine⟨h0,en,cl,?_,hs1,h2.mono (fun _ _ h=>h) (fun _ _ h=>h) hK⟩
    rw[yPD hg,if_neg (h.gdis x b kx k Lx L hne hx hk hLx hL (.inr hmx) (.inr hm))]
    exact h1
 ·rw[St.get_set] at hx
  by_cases e:x=b
  ·subst e
   rw[if_pos rfl] at hx;injection hx with hx;subst hx
   exact h.exS x k Lx hk hLx g i he
  ·rw[if_neg e] at hx
   exact h.exS x kx Lx hx hLx g i he
theorem SR.newMap(h:SR mu S B st w)(hf:Fr0 mu st)(hBw:yV2 B w):SR (mu.put st.c ⟨w.heap.size,0,2,0,true⟩) S B (st.new ⟨[],2,0⟩) (w.alloc (.map #[] 0)):=by
 have hB:Below w.heap.size w (w.alloc (.map #[] 0)):=(Below.refl _ _).alloc (Nat.le_refl _) _
 have hk:=h.keep hB (fun _ _ h=>h) (fun _ _ h=> .inl h) (fun g i hs=>Nat.lt_of_lt_of_le (h.sb g i hs) hB.size)
 have hmono:=SR.mono_put hf ⟨w.heap.size,0,2,0,true⟩
 have hnoE:∀g i,¬RgB ⟨w.heap.size,0,2,0,true⟩ g i:=fun g i ⟨_,h2,h3⟩=>by simp at h3
 have hmlt:∀b k L,st.get b=some k->mu b=some L->L.mp=true->L.g<w.heap.size:=fun b k L hb hL hm=>by
  obtain⟨L',hL',_,hg⟩:=h.loc b k hb
  rw[hL] at hL';injection hL' with hL';subst hL'
  exact(hg (.inr hm)).2
 refine⟨fun b k hb=>?_,h.gdis_new fun _=>Nat.le_refl _,fun b k L hb hL g i hx hs=>?_,hk.sb⟩
 ·rw[St.get_new] at hb
  split at hb
  ·rename_i e
   subst e
   injection hb with hb
   subst hb
   refine⟨_,Mu.put_same _ _ _,⟨rfl,fun hm=>(by cases hm),by simp,fun i hi=>absurd hi (by simp),fun i h1 h2=>by simp at h2,fun hm=>(by cases hm),fun _=>⟨rfl,#[],0,?_,MapKept.stamped_empty 0,⟨rfl,fun i hi=>absurd hi (by simp)⟩⟩⟩,fun _=>⟨hBw _ (Nat.le_refl _),by simp⟩⟩
   exact heap_alloc_new w _
  ·obtain⟨L,hL,hbr,hg⟩:=hk.loc b k hb
   exact⟨L,hmono _ _ hL,hbr.mono hmono (fun _ _ h=>h),hg⟩
 ·rw[St.get_new] at hb
  by_cases e:b=st.c
  ·subst e
   rw[Mu.put_same] at hL;injection hL with hL;subst hL
   exact hnoE _ _ hx.rg
  ·rw[if_neg e] at hb
   rw[Mu.put_other e] at hL
   exact h.exS b k L hb hL g i hx hs
theorem xDY{k v:V}:∀(es:List (List V)),(∀r∈es,r.length=2)->∀r∈putRow k v es,r.length=2
 | [],_=>fun r hr=>by
   obtain rfl:r= [k,v]:=by simpa[putRow] using hr
   rfl
 | [k',v']::es,h=>fun r hr=>by
   have hrec:=xDY (k:=k) (v:=v) es (fun r hr=>h r (List.mem_cons_of_mem _ hr))
   unfold putRow at hr
   cases he:keyEq k k' with
   | true=>
     rw[he,cond_true] at hr
     rcases List.mem_cons.1 hr with rfl | hr
     ·rfl
     ·exact h r (List.mem_cons_of_mem _ hr)
   | false=>
     rw[he,cond_false] at hr
     rcases List.mem_cons.1 hr with rfl | hr
     ·rfl
     ·exact hrec r hr
 | []::es,h=>absurd (h [] (by simp)) (by simp)
 | [a]::es,h=>absurd (h [a] (by simp)) (by simp)
 | (a::b::c::r)::es,h=>absurd (h _ (List.mem_cons_self ..)) (by simp)
theorem xJF{k v:V}(es:List (List V))(n:Nat)(h2:n=2)(h:∀i (hi:i<es.length),es[i].length=n):∀i (hi:i<(putRow k v es).length),(putRow k v es)[i].length=n:=fun i hi=>by
 subst h2
 exact xDY es (fun r hr=>by obtain⟨j,hj,rfl⟩:=List.getElem_of_mem hr;exact h j hj) _ (List.getElem_mem hi)
theorem yQ7{k v:V}:∀(es:List (List V)),es.length<=(putRow k v es).length
 | []=>by simp
 | [k',v']::es=>by
   have:=yQ7 (k:=k) (v:=v) es
   unfold putRow
   cases keyEq k k' <;> simp <;> omega
 | []::es=>by have:=yQ7 (k:=k) (v:=v) es;simp[putRow];omega
 | [a]::es=>by have:=yQ7 (k:=k) (v:=v) es;simp[putRow];omega
 | (a::b::c::r)::es=>by have:=yQ7 (k:=k) (v:=v) es;simp[putRow];omega
theorem yW5{t:TypeId}{x k v:V}{x' k' v':Value}{st':St}(h:SR mu S B st w)(hx:VR mu S w x x')(hk:VR mu S w k k')(hv:VR mu S w v v')(hs:yGH P t x k v st=some st'):
  ∃w',(Instr.mapUpdate t x' k' v').run P w= .ok () w'/\SR mu S B st' w'/\yQF S w w'/\Off B w w':=by
 unfold yGH at hs
 split at hs
 ·rename_i kt et hu
  split at hs
  ·rename_i kd hkd
   cases hik:isKeyV kd k with
   | false=>rw[hik] at hs;cases hs
   | true=>
     rw[hik,cond_true] at hs
     split at hs
     ·rename_i b
      obtain⟨blk,hb,hs⟩:=Option.bind_eq_some_iff.1 hs
      cases hal:(blk.es.all (keyRow kd)&&Nat.beq blk.sz 2) with
      | false=>rw[hal] at hs;cases hs
      | true=>
        rw[hal,cond_true] at hs
        injection hs with hs
        subst hs
        rw[Bool.and_eq_true] at hal
        obtain⟨L,ents,clock,hL,hm,rfl,hB,hlt,hh,hstm,hr⟩:=xQO h hb hx
        have hkey:=yTP hik hk
        obtain⟨L',hL',hbr,_⟩:=h.loc b blk hb
        rw[hL] at hL';injection hL' with hL';subst hL'
        have hrow:=xJF (k:=k) (v:=v) blk.es blk.sz (Nat.eq_of_beq_eq_true hal.2) (fun i hi=>(hbr.row i hi).trans hbr.sz.symm)
        have hlen:=Nat.le_trans hbr.lk (yQ7 (k:=k) (v:=v) blk.es)
        rcases xBf hik hk hv blk.es ents.toList 0 hr hal.1 with ⟨h1,h2,h3⟩ | ⟨j,e,z,h1,h2,h3,h4,h5,h6⟩
        ·have hes:xB3 mu S w (putRow k v blk.es) (ents.push ⟨k',v',clock⟩):=by
           have:=(h3 clock).is
           have e2:(ents.toList++ [({key:=k',val:=v',born:=clock }:MapEntry)]).toArray=ents.push ⟨k',v',clock⟩:=by
            apply Array.ext'
            simp
           rw[e2] at this
           exact this
         have hrun:(Instr.mapUpdate t (.map (some L.g)) k' v').run P w= .ok () (xLY w L.g (.map (ents.push ⟨k',v',clock⟩) (clock+1))):=by
          simp[Instr.mapUpdate,run_underlying hu,MapKept.run_getObj_map hh,MapKept.run_checkKey hkd hkey,MapKept.run_findKey hkd h2,MapKept.run_setObj_map _ hh,Result.andThen,xLY]
         obtain⟨es2,cl2,e1,e2,_⟩:=MapKept.mapUpdate_keeps hu hkd hh hstm (hr.keys hal.1) hkey hrun
         rw[yPD hlt,if_pos rfl] at e1
         injection e1 with e1
         injection e1 with e1 e3
         subst e1 e3
         exact⟨_,hrun,h.setMap hb hL hm hh hrow hlen e2 hes,fun g i _=>yTU hh _,xDU hB hlt⟩
        ·have hes:xB3 mu S w (putRow k v blk.es) (ents.modify j fun e=>{e with key:=k',val:=v' }):=by
           have:=h6.is
           have e2:(ents.toList.modify j fun e=>{e with key:=k',val:=v' }).toArray=ents.modify j fun e=>{e with key:=k',val:=v' }:=by
            apply Array.ext'
            simp
           rw[e2] at this
           exact this
         have hj:ents[j]?=some e:=by simpa using h2
         have hold:((ents[j]?).map (·.key)).getD k'=k':=by rw[hj];exact h3
         rw[Nat.zero_add] at h1
         have hrun:(Instr.mapUpdate t (.map (some L.g)) k' v').run P w= .ok () (xLY w L.g (.map (ents.modify j fun e=>{e with key:=k',val:=v' }) clock)):=by
          simp[Instr.mapUpdate,run_underlying hu,MapKept.run_getObj_map hh,MapKept.run_checkKey hkd hkey,MapKept.run_findKey hkd h1,MapKept.run_setObj_map _ hh,hj,h3,MapKept.run_keyThatStays hkey,Result.andThen,xLY]
         obtain⟨es2,cl2,e1,e2,_⟩:=MapKept.mapUpdate_keeps hu hkd hh hstm (hr.keys hal.1) hkey hrun
         rw[yPD hlt,if_pos rfl] at e1
         injection e1 with e1
         injection e1 with e1 e3
         subst e1 e3
         exact⟨_,hrun,h.setMap hb hL hm hh hrow hlen e2 hes,fun g i _=>yTU hh _,xDU hB hlt⟩
     ·cases hs
  ·cases hs
 ·cases hs
end
end Go.Proofs.YtakljpcmbpaeaaaGreat
