/- The awp calculus, 9: operations that turn the store: new variables, literals, make, stores, []byte(s). -/
import Derived.Test.YtakljpcmbpaeaaaGreatMountPlaysM10
import Derived.Laws.MakeOwn
import Derived.Laws.IdiomStrings
set_option linter.unusedSimpArgs false
set_option linter.unusedVariables false
namespace Go.Proofs.YtakljpcmbpaeaaaGreat
open Go.RowKit
structure Out (mu:Mu) (S:yEn) (B:Dom) (w:World) (c:Nat) (mu':Mu) (w':World):Prop where
 mono:∀b L,mu b=some L->mu' b=some L
 oth:∀b,b≠c->mu' b=mu b
 keeps:yQF S w w'
 below:Off B w w'
section
variable {mu mu' mu'':Mu} {S:yEn} {B:Dom} {st:St} {w w' w'':World} {fr:Fr} {a:Act}
theorem Out.refl{c:Nat}:Out mu S B w c mu w:=⟨fun _ _ h=>h,fun _ _=>rfl,fun _ _ _=>rfl,Off.refl _ _⟩
theorem Out.trans{c:Nat}(h:Out mu S B w c mu' w')(k:Out mu' S B w' c mu'' w''):Out mu S B w c mu'' w'':=
 ⟨fun b L hb=>k.mono b L (h.mono b L hb),fun b hb=>(k.oth b hb).trans (h.oth b hb),fun g i hs=>(k.keeps g i hs).trans (h.keeps g i hs),h.below.trans k.below⟩
theorem Out.alloc(h:SR mu S B st w)(hf:Fr0 mu st)(hB:yV2 B w)(L:Loc)(o:Obj):Out mu S B w st.c (mu.put st.c L) (w.alloc o):=
 ⟨SR.mono_put hf L,fun _ hb=>Mu.put_other hb,fun g i hs=>World.cell?_alloc_lt w o _ (h.sb g i hs),(Off.refl _ _).alloc o⟩
theorem Out.drew{c:Nat}:Out mu S B w c mu w.drew:=⟨fun _ _ h=>h,fun _ _=>rfl,fun _ _ _=>rfl,(Off.refl _ _).drew⟩
theorem xNP(h:SR mu S B st w)(hf:Fr0 mu st)(hB:yV2 B w)(t:TypeId){cs:List V}{vs:List Value}(hv:VRs mu S w cs vs)(h1:∀u∈vs,u.oneCell'=true):
  SR (mu.put st.c ⟨w.heap.size,0,cs.length,1,false⟩) S B (st.new ⟨[cs],cs.length,0⟩) (w.alloc (.cells vs.toArray t))/\
  VR (mu.put st.c ⟨w.heap.size,0,cs.length,1,false⟩) S (w.alloc (.cells vs.toArray t)) (.ptr st.c 0 0) (.pointer (some ⟨w.heap.size,0,none⟩)):=by
 refine⟨h.new hf hB [cs] cs.length 1 vs.toArray t (0,0) (by simp) (fun i hi=>?_) (by simp[hv.1]) (fun i _=>by simp) (fun i hi j hj=>?_),?_⟩
 ·obtain rfl:i=0:=by simpa using hi
  rfl
 ·obtain rfl:i=0:=by simpa using hi
  have hj':j<cs.length:=hj
  have hjv:j<vs.length:=hv.1▸hj'
  refine⟨vs[j],?_,h1 _ (List.getElem_mem _),hv.2 j hj' hjv⟩
  rw[Nat.zero_mul,Nat.zero_add];simp[hjv]
 ·have:=VR.ptr (mu:=mu.put st.c ⟨w.heap.size,0,cs.length,1,false⟩) (S:=S) (w:=w.alloc (.cells vs.toArray t)) st.c 0 0 ⟨w.heap.size,0,cs.length,1,false⟩ (Mu.put_same _ _ _) rfl
  simpa using this
theorem xIu(es:List (List V))(sz:Nat)(hr:∀i (hi:i<es.length),es[i].length=sz):es.flatten.length=es.length*sz/\∀i (hi:i<es.length) j (hj:j<es[i].length),es.flatten[i*sz+j]?=some es[i][j]:=by
 induction es with
 | nil=>exact⟨by simp,fun i hi=>absurd hi (by simp)⟩
 | cons r es ih=>
   have h0:r.length=sz:=hr 0 (by simp)
   obtain⟨k1,k2⟩:=ih (fun i hi=>hr (i+1) (by simpa using hi))
   refine⟨by rw[List.flatten_cons,List.length_append,k1,h0,List.length_cons,Nat.succ_mul];omega,fun i hi j hj=>?_⟩
   cases i with
   | zero=>
     have hj':j<r.length:=hj
     rw[Nat.zero_mul,Nat.zero_add,List.flatten_cons,List.getElem?_append_left hj']
     exact List.getElem?_eq_getElem hj'
   | succ i=>
     have hi':i<es.length:=by simpa using hi
     have hj':j<es[i].length:=hj
     rw[List.flatten_cons,List.getElem?_append_right (by rw[h0,Nat.succ_mul];omega),h0,show(i+1)*sz+j-sz=i*sz+j by rw[Nat.succ_mul];omega]
     exact k2 i hi' j hj'
theorem xEQ(h:SR mu S B st w)(hf:Fr0 mu st)(hB:yV2 B w)(t:TypeId)(es:List (List V))(sz n:Nat)(vs:List Value)(fr:Nat×Nat)(hrow:∀i (hi:i<es.length),es[i].length=sz)
  (extra:List Value) (lim:Nat) (hlim:es.length<=lim) (hex:extra.length=(lim-es.length)*sz) (hfr:∀i,i<lim*sz->(decide (fr.1<=i)&&decide (i<fr.2))=false)
  (hv:VRs mu S w es.flatten vs) (h1:∀u∈vs,u.oneCell'=true) (c cap:Nat) (hc:cap<=c) (hnc:n<=cap) (hcl:c<=lim):
  SR (mu.put st.c ⟨w.heap.size,0,sz,lim,false⟩) S B (st.new ⟨es,sz,0⟩) (w.alloc (.cells (vs++extra).toArray t fr))/\
  VR (mu.put st.c ⟨w.heap.size,0,sz,lim,false⟩) S (w.alloc (.cells (vs++extra).toArray t fr)) (.bs st.c 0 n cap) (.slice (some ⟨w.heap.size,0,none⟩) n c):=by
 obtain⟨f1,f2⟩:=xIu es sz hrow
 have hvl:vs.length=es.length*sz:=by have:=hv.1;omega
 have hlz:lim*sz=es.length*sz+(lim-es.length)*sz:=by rw[←Nat.add_mul,show es.length+(lim-es.length)=lim by omega]
 refine⟨h.new hf hB es sz lim _ t fr hlim hrow (by simp[hvl,hex,hlz]) hfr (fun i hi j hj=>?_),?_⟩
 ·obtain⟨v,h2,h3⟩:=hv.get (f2 i hi j hj)
  have hlt:i*sz+j<vs.length:=(List.getElem?_eq_some_iff.1 h2).1
  refine⟨v,?_,h1 v (List.mem_of_getElem? h2),h3⟩
  rw[List.getElem?_toArray,List.getElem?_append_left hlt];exact h2
 ·refine .bs _ _ _ _ _ _ _ (Mu.put_same _ _ _) hnc hc (.inr ⟨?_,by simp;omega⟩) rfl
  simp
def sAlloc(P:Program)(t:TypeId)(st:St):Option (V×St):=
 match P.info? t with
 | some i=>match i.zero with
   | some z=>bif z.cells.toList.all (·.oneCell') then some (.ptr st.c 0 0,st.new ⟨[z.cells.toList.map vOf],z.cells.size,0⟩) else none
   | none=>none
 | none=>none
theorem xIA{P:Program}{t:TypeId}{x:V}{st':St}(h:SR mu S B st w)(hf:Fr0 mu st)(hB:yV2 B w)(hs:sAlloc P t st=some (x,st')):
  ∃u mu' w',(Instr.alloc t true (.tuple #[])).run P w= .ok u w'/\SR mu' S B st' w'/\VR mu' S w' x u/\Out mu S B w st.c mu' w':=by
 unfold sAlloc at hs
 split at hs
 ·rename_i i hi
  split at hs
  ·rename_i z hz
   cases hb:z.cells.toList.all (·.oneCell') with
   | false=>rw[hb] at hs;cases hs
   | true=>
     rw[hb,cond_true,Option.some.injEq,Prod.mk.injEq] at hs
     obtain⟨rfl,rfl⟩:=hs
     obtain⟨k1,k2⟩:=xNP h hf hB t (VRs.of_vOf z.cells.toList) (fun u hu=>List.all_eq_true.1 hb u hu)
     rw[List.length_map,Array.length_toList] at k1 k2
     refine⟨_,_,_,?_,k1,k2,Out.alloc h hf hB _ _⟩
     simp[Instr.alloc,zeroValue,typeInfo,hi,hz,newVar,newRow]
  ·cases hs
 ·cases hs
def xQb(x:V)(st:St):Option (V×St):=x.cells?.map fun cs=>(.ptr st.c 0 0,st.new ⟨[cs],cs.length,0⟩)
theorem xLw{P:Program}{t:TypeId}{x y:V}{v:Value}{st':St}(h:SR mu S B st w)(hf:Fr0 mu st)(hB:yV2 B w)(hx:VR mu S w x v)(hs:xQb x st=some (y,st')):
  ∃u mu' w',(Instr.box t v).run P w= .ok u w'/\SR mu' S B st' w'/\VR mu' S w' y u/\Out mu S B w st.c mu' w':=by
 obtain⟨cs,hcs,e⟩:=Option.map_eq_some_iff.1 hs
 rw[Prod.mk.injEq] at e
 obtain⟨rfl,rfl⟩:=e
 obtain⟨hv,h1⟩:=hx.cells hcs
 obtain⟨k1,k2⟩:=xNP h hf hB t hv h1
 refine⟨_,_,_,?_,k1,k2,Out.alloc h hf hB _ _⟩
 simp[Instr.box,newVar,newRow]
def denseRows(sz:Nat):Nat->List (Nat×V)->Option (List (List V))
 | _,[]=>some []
 | i,(j,x)::r=>bif Nat.beq i j then x.cells?.bind fun cs=>bif Nat.beq cs.length sz then(denseRows sz (i+1) r).map (cs:: ·) else none else none
theorem xAb{sz i:Nat}{parts:List (Nat×V)}{es:List (List V)}{parts':List (Nat×Value)}(h:denseRows sz i parts=some es)
  (hp:parts.length=parts'.length/\∀j (hj:j<parts.length) (hj':j<parts'.length),parts[j].1=parts'[j].1/\VR mu S w parts[j].2 parts'[j].2):
  es.length=parts.length/\(∀i (hi:i<es.length),es[i].length=sz)/\∃vs:List Value,parts'=(vs.zipIdx i).map (fun x=>(x.2,x.1))/\(∀v∈vs,v.cells.size=sz)/\
   VRs mu S w es.flatten (vs.flatMap fun v=>v.cells.toList)/\∀u∈(vs.flatMap fun v=>v.cells.toList),u.oneCell'=true:=by
 induction parts generalizing i es parts' with
 | nil=>
   have:parts'= []:=List.eq_nil_of_length_eq_zero hp.1.symm
   subst this
   simp only[denseRows,Option.some.injEq] at h
   subst h
   exact⟨rfl,fun i hi=>absurd hi (by simp),[],rfl,by simp,by simpa using VRs.nil,by simp⟩
 | cons p parts ih=>
   cases parts' with
   | nil=>have:=hp.1;simp at this
   | cons p' parts'=>
     obtain⟨j,x⟩:=p
     obtain⟨j',x'⟩:=p'
     obtain⟨e1,hx⟩:=hp.2 0 (by simp) (by simp)
     simp only[List.getElem_cons_zero] at e1 hx
     subst e1
     unfold denseRows at h
     cases hb:Nat.beq i j with
     | false=>rw[hb] at h;cases h
     | true=>
       rw[hb,cond_true] at h
       obtain rfl:=Nat.eq_of_beq_eq_true hb
       obtain⟨cs,hcs,h⟩:=Option.bind_eq_some_iff.1 h
       cases hl:Nat.beq cs.length sz with
       | false=>rw[hl] at h;cases h
       | true=>
         rw[hl,cond_true] at h
         have hsz:=Nat.eq_of_beq_eq_true hl
         obtain⟨es',h',rfl⟩:=Option.map_eq_some_iff.1 h
         obtain⟨k1,k2,vs,rfl,k3,k4,k5⟩:=ih (parts':=parts') h' ⟨by have:=hp.1;simpa using this,fun j hj hj'=>hp.2 (j+1) (by simpa using hj) (by simpa using hj')⟩
         obtain⟨hv,h1⟩:=hx.cells hcs
         refine⟨by simp[k1],fun i hi=>?_,x'::vs,by simp[List.zipIdx_cons],fun v hv'=>?_,?_,fun u hu=>?_⟩
         ·cases i with
          | zero=>exact hsz
          | succ i=>exact k2 i (by simpa using hi)
         ·rcases List.mem_cons.1 hv' with rfl | hv'
          ·have:=hv.1;simp at this;omega
          ·exact k3 v hv'
         ·rw[List.flatten_cons,List.flatMap_cons];exact hv.append k4
         ·rw[List.flatMap_cons] at hu
          rcases List.mem_append.1 hu with hu | hu
          ·exact h1 u hu
          ·exact k5 u hu
def sBuildSlice(P:Program)(t:TypeId)(n:Nat)(parts:List (Nat×V))(st:St):Option (V×St):=
 match P.underlying t with
 | some (.slice e)=>match P.info? e with
   | some ie=>match ie.zero with
     | some _=>bif Nat.beq n 0 then(match parts with | []=>some (.sl [] true,st) | _=>none) else
      bif Nat.ble (n*ie.size) 16777216&&Nat.ble 1 ie.size&&Nat.beq parts.length n then(denseRows ie.size 0 parts).map fun es=>(.bs st.c 0 n n,st.new ⟨es,ie.size,0⟩) else none
     | none=>none
   | none=>none
 | _=>none
theorem SR.alloc_other(h:SR mu S B st w)(o:Obj):SR mu S B st (w.alloc o):=
 h.keep ((Below.refl _ _).alloc (Nat.le_refl _) o) (fun _ _ h=>h) (fun _ _ h=> .inl h) (fun g i hs=>by have:=h.sb g i hs;simp;omega)
theorem yYG{P:Program}{t:TypeId}{n:Nat}{parts:List (Nat×V)}{parts':Array (Nat×Value)}{y:V}{st':St}(h:SR mu S B st w)(hf:Fr0 mu st)(hB:yV2 B w)
  (hp:parts.length=parts'.toList.length/\∀j (hj:j<parts.length) (hj':j<parts'.toList.length),parts[j].1=parts'.toList[j].1/\VR mu S w parts[j].2 parts'.toList[j].2) (hs:sBuildSlice P t n parts st=some (y,st')):
  ∃u mu' w',(Instr.buildSlice t n parts').run P w= .ok u w'/\SR mu' S B st' w'/\VR mu' S w' y u/\Out mu S B w st.c mu' w':=by
 unfold sBuildSlice at hs
 split at hs
 ·rename_i e hu
  split at hs
  ·rename_i ie hie
   split at hs
   ·rename_i z hz
    cases h0:Nat.beq n 0 with
    | true=>
      rw[h0,cond_true] at hs
      obtain rfl:=Nat.eq_of_beq_eq_true h0
      split at hs
      ·rw[Option.some.injEq,Prod.mk.injEq] at hs
       obtain⟨rfl,rfl⟩:=hs
       have hpe:parts'.toList= []:=List.eq_nil_of_length_eq_zero hp.1.symm
       have hpe':parts'=#[]:=Array.ext' hpe
       subst hpe'
       refine⟨.slice (some ⟨w.heap.size,0,none⟩) 0 0,mu,w.alloc (.cells ((Array.range 0).map fun _=>default) e),?_,h.alloc_other _,.sl0 _ _ _ (fun _=>rfl),⟨fun _ _ h=>h,fun _ _=>rfl,fun g i hs=>World.cell?_alloc_lt w _ _ (h.sb g i hs),(Off.refl _ _).alloc _⟩⟩
       simp[Instr.buildSlice,run_underlying hu,sizeOf,typeInfo,hie,Instr.fill,newRow]
      ·cases hs
    | false=>
      rw[h0,cond_false] at hs
      cases hb:(Nat.ble (n*ie.size) 16777216&&Nat.ble 1 ie.size&&Nat.beq parts.length n) with
      | false=>rw[hb] at hs;cases hs
      | true=>
        rw[hb,cond_true] at hs
        rw[Bool.and_eq_true,Bool.and_eq_true] at hb
        have b1:=Nat.le_of_ble_eq_true hb.1.1
        have b2:=Nat.le_of_ble_eq_true hb.1.2
        have b3:=Nat.eq_of_beq_eq_true hb.2
        have hn0:n≠0:=fun e=>by rw[e] at h0;cases h0
        obtain⟨es,hes,e⟩:=Option.map_eq_some_iff.1 hs
        rw[Prod.mk.injEq] at e
        obtain⟨rfl,rfl⟩:=e
        obtain⟨k1,k2,vs,hvs,k3,k4,k5⟩:=xAb hes hp
        have hvl:vs.length=n:=by
         have:=congrArg List.length hvs
         simp at this
         have h2:=hp.1
         simp at h2
         omega
        have hel:es.length=n:=by omega
        have hfill:Instr.fill (fun i=>some (i*ie.size,ie.size)) ((Array.range (n*ie.size)).map (z.cells[· % z.cells.size]!)) parts'.toList=some (vs.flatMap fun v=>v.cells.toList).toArray:=by
         rw[hvs]
         exact Go.Great.fill_whole (by omega) vs _ k3 (by simp[hvl])
        have hrun:=run_buildSlice w t e n parts' _ ie z hu hie hz (by omega) (by
         have:=Nat.mul_ne_zero hn0 (show ie.size≠0 by omega);omega) hfill
        obtain⟨s1,s2⟩:=xEQ h hf hB e es ie.size n (vs.flatMap fun v=>v.cells.toList) (0,0) k2 [] n (by omega) (by simp[hel]) (fun i _=>by simp) k4 k5 n n (Nat.le_refl _) (Nat.le_refl _) (Nat.le_refl _)
        rw[List.append_nil] at s1 s2
        exact⟨_,_,_,hrun,s1,s2,Out.alloc h hf hB _ _⟩
   ·cases hs
  ·cases hs
 ·cases hs
def sMake(P:Program)(t:TypeId)(l c:V)(st:St):Option (V×St):=
 match P.underlying t with
 | some (.slice e)=>match P.info? e with
   | some ie=>match ie.zero with
     | some z=>match l,c with
       | .int _ l,.int _ c=>bif decide (0<=l)&&decide (l<=c)&&decide (ie.bytes*c.toNat<=281474976710656)&&decide (c<=9223372036854775807)&&z.cells.toList.all (·.oneCell')&&Nat.beq z.cells.size ie.size then
        some (.bs st.c 0 l.toNat c.toNat,st.new ⟨List.replicate c.toNat (z.cells.toList.map vOf),ie.size,0⟩) else none
       | _,_=>none
     | none=>none
   | none=>none
 | _=>none
theorem xJs{P:Program}{t:TypeId}{l c y:V}{l' c':Value}{st':St}(h:SR mu S B st w)(hf:Fr0 mu st)(hB:yV2 B w)(hl:VR mu S w l l')(hc:VR mu S w c c')(hs:sMake P t l c st=some (y,st')):
  ∃u mu' w',(Instr.makeSlice t l' c').run P w= .ok u w'/\SR mu' S B st' w'/\VR mu' S w' y u/\Out mu S B w st.c mu' w':=by
 unfold sMake at hs
 split at hs
 ·rename_i e hu
  split at hs
  ·rename_i ie hie
   split at hs
   ·rename_i z hz
    split at hs
    ·rename_i kl nl kc nc
     obtain rfl:=hl.int_inv
     obtain rfl:=hc.int_inv
     cases hb:(decide (0<=nl)&&decide (nl<=nc)&&decide (ie.bytes*nc.toNat<=281474976710656)&&decide (nc<=9223372036854775807)&&z.cells.toList.all (·.oneCell')&&Nat.beq z.cells.size ie.size) with
     | false=>rw[hb] at hs;cases hs
     | true=>
       rw[hb,cond_true,Option.some.injEq,Prod.mk.injEq] at hs
       obtain⟨rfl,rfl⟩:=hs
       simp only[Bool.and_eq_true,decide_eq_true_eq] at hb
       obtain⟨⟨⟨⟨⟨b1,b2⟩,b3⟩,b4⟩,b5⟩,b6⟩:=hb
       have hsz:=Nat.eq_of_beq_eq_true b6
       obtain⟨L,rfl⟩:∃L:Nat,nl=L:=⟨nl.toNat,by omega⟩
       obtain⟨C,rfl⟩:∃C:Nat,nc=C:=⟨nc.toNat,by omega⟩
       simp only[Int.toNat_natCast] at b3 ⊢
       have hrun:=yW3 (P:=P) t e ie z hu hie hz kl kc L C (by omega) b3 (by omega) w
       have hzl:(z.cells.toList.map vOf).length=ie.size:=by simp[hsz]
       refine⟨_,_,_,hrun,h.new hf hB (List.replicate C (z.cells.toList.map vOf)) ie.size C _ e (0,0) (by simp) (fun i hi=>by rw[List.getElem_replicate];exact hzl) (by rw[size_madeCells];exact Nat.le_refl _) (fun i _=>by simp) (fun i hi j hj=>?_),?_,Out.alloc h hf hB _ _⟩
       ·rw[List.length_replicate] at hi
        have hj':j<ie.size:=by rw[←hzl];rwa [List.getElem_replicate] at hj
        have hlt:i*ie.size+j<C*ie.size:=by
         have:(i+1)*ie.size<=C*ie.size:=Nat.mul_le_mul_right _ (by omega)
         rw[Nat.succ_mul] at this;omega
        have hjz:j<z.cells.size:=by omega
        refine⟨z.cells[j],?_,List.all_eq_true.1 b5 _ (by simp),?_⟩
        ·unfold madeCells
         rw[Array.getElem?_map,Array.getElem?_range,if_pos hlt]
         simp only[Option.map_some,hsz]
         rw[show(i*ie.size+j)%ie.size=j by rw[Nat.mul_comm,Nat.mul_add_mod,Nat.mod_eq_of_lt hj']]
         rw[getElem!_pos z.cells j hjz]
        ·have:(List.replicate C (z.cells.toList.map vOf))[i][j]=vOf z.cells[j]:=by simp
         rw[this];exact .of_vOf _
       ·refine .bs _ _ _ _ ⟨w.heap.size,0,ie.size,C,false⟩ _ _ (Mu.put_same _ _ _) (by omega) (Nat.le_refl _) (.inr ⟨by simp,by simp⟩) rfl
    ·cases hs
   ·cases hs
  ·cases hs
 ·cases hs
end
end Go.Proofs.YtakljpcmbpaeaaaGreat
