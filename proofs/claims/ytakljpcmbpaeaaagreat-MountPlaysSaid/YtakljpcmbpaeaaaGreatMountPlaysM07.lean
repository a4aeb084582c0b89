/- The awp calculus, 6: elements of slices, conversions, min and max, struct literals. -/
import Derived.Test.YtakljpcmbpaeaaaGreatMountPlaysM06
import Derived.Great.BuildSlice
set_option linter.unusedSimpArgs false
set_option linter.unusedVariables false
namespace Go.Proofs.YtakljpcmbpaeaaaGreat
open Go.RowKit
section
variable {mu:Mu} {S:yEn} {B:Dom} {st:St} {w:World} {fr:Fr} {a:Act}
def elemsOf(st:St):V->Option (List (List V))
 | .sl es _=>some es
 | .bs b i n _=>(st.get b).bind fun k=>bif Nat.ble (i+n) k.es.length then some ((k.es.drop i).take n) else none
 | _=>none
def xF3(mu:Mu)(S:yEn)(w:World)(es:List (List V))(sz:Nat)(g o:Nat):Prop:=
 ∀i (hi:i<es.length) j (hj:j<es[i].length),∃u,w.cell? ⟨g,o+i*sz+j,none⟩=some u/\u.oneCell'=true/\VR mu S w es[i][j] u
theorem yVL{x:V}{v:Value}{es:List (List V)}(hst:SR mu S B st w)(hx:VR mu S w x v)(h:elemsOf st x=some es):
  ∃A c sz,v= .slice A es.length c/\es.length<=c/\(∀i (hi:i<es.length),es[i].length=sz)/\(0<es.length->∃g o,A=some ⟨g,o,none⟩/\xF3 mu S w es sz g o):=by
 cases x <;> simp only[elemsOf,Option.some.injEq,reduceCtorEq] at h
 case sl es' full=>
  subst h
  cases hx with
  | sl0 _ A c hf=>exact⟨A,c,0,rfl,by simp,by simp,by simp⟩
  | sl1 _ _ g o c sz vals hne hc hf hlen hS hcell hone hv=>
    exact⟨_,c,sz,rfl,hc,hlen,fun _=>⟨g,o,rfl,fun i hi j hj=>⟨_,hcell i j hi (hlen i hi▸hj),hone i j hi (hlen i hi▸hj),hv i hi j hj⟩⟩⟩
 case bs b i n cap=>
  obtain⟨k,hk,h⟩:=Option.bind_eq_some_iff.1 h
  cases hb:Nat.ble (i+n) k.es.length with
  | false=>rw[hb] at h;cases h
  | true=>
    rw[hb,cond_true,Option.some.injEq] at h
    subst h
    have hle:=Nat.le_of_ble_eq_true hb
    obtain⟨L,A,c,hL,rfl,hn,hc,hA⟩:=hx.bs_inv
    have hm:=hx.bs_reg hL
    obtain⟨L',hL',hbr,hg⟩:=hst.loc b k hk
    rw[hL] at hL';injection hL' with hL';subst hL'
    have hlen:((k.es.drop i).take n).length=n:=by simp;omega
    refine⟨A,c,L.sz,by rw[hlen],by rw[hlen];omega,fun j hj=>?_,fun hp=>?_⟩
    ·rw[List.getElem_take,List.getElem_drop];exact hbr.row _ _
    ·rw[hlen] at hp
     rcases hA with h0 | ⟨rfl,hlim⟩
     ·omega
     ·refine⟨_,_,rfl,fun j hj l hl=>?_⟩
      rw[hlen] at hj
      have hj2:i+j<k.es.length:=by omega
      have hl2:l<k.es[i+j].length:=by simpa[List.getElem_take,List.getElem_drop] using hl
      obtain⟨u,h1,h2,h3⟩:=hbr.cell hm (i+j) hj2 l hl2
      refine⟨u,?_,h2,?_⟩
      ·rw[show L.o+i*L.sz+j*L.sz+l=L.o+(i+j)*L.sz+l by rw[Nat.add_mul];omega];exact h1
      ·simpa[List.getElem_take,List.getElem_drop] using h3
theorem xPc(cs:List V)(g o:Nat)(h:∀j (hj:j<cs.length),∃u,w.cell? ⟨g,o+j,none⟩=some u/\u.oneCell'=true/\VR mu S w cs[j] u):
  ∃us:List Value,w.rangeAt g o us/\(∀u∈us,u.oneCell'=true)/\VRs mu S w cs us:=by
 induction cs generalizing o with
 | nil=>exact⟨[],fun j v hv=>by simp at hv,by simp,VRs.nil⟩
 | cons c cs ih=>
   obtain⟨u,h1,h2,h3⟩:=h 0 (by simp)
   obtain⟨us,k1,k2,k3⟩:=ih (o+1) (fun j hj=>by
    have:=h (j+1) (by simpa using hj)
    rw[show o+(j+1)=o+1+j by omega] at this
    simpa using this)
   refine⟨u::us,fun j v hv=>?_,fun x hx=>?_,VRs.cons h3 k3⟩
   ·cases j with
    | zero=>simp at hv;subst hv;simpa using h1
    | succ j=>rw[List.getElem?_cons_succ] at hv;rw[show o+(j+1)=o+1+j by omega];exact k1 j v hv
   ·rcases List.mem_cons.1 hx with rfl | hx
    ·exact h2
    ·exact k2 x hx
theorem xCQ{us vs:List Value}{g o:Nat}(h:w.rangeAt g o us)(k:w.rangeAt g (o+us.length) vs):w.rangeAt g o (us++vs):=fun j v hv=>by
 rcases Nat.lt_or_ge j us.length with hl | hl
 ·rw[List.getElem?_append_left hl] at hv;exact h j v hv
 ·rw[List.getElem?_append_right hl] at hv
  have:=k _ v hv
  rwa [show o+us.length+(j-us.length)=o+j by omega] at this
theorem xBg(es:List (List V))(sz g o:Nat)(hrow:∀i (hi:i<es.length),es[i].length=sz)(h:xF3 mu S w es sz g o):
  ∃us:List Value,w.rangeAt g o us/\us.length=es.length*sz/\(∀u∈us,u.oneCell'=true)/\VRs mu S w es.flatten us:=by
 induction es generalizing o with
 | nil=>exact⟨[],fun j v hv=>by simp at hv,by simp,by simp,VRs.nil⟩
 | cons r es ih=>
   obtain⟨us,h1,h2,h3⟩:=xPc (w:=w) r g o (fun j hj=>by have:=h 0 (by simp) j hj;rw[Nat.zero_mul,Nat.add_zero] at this;exact this)
   have hr:r.length=sz:=hrow 0 (by simp)
   obtain⟨vs,k1,k2,k3,k4⟩:=ih (o+sz) (fun i hi=>hrow (i+1) (by simpa using hi)) (fun i hi j hj=>by
    have:=h (i+1) (by simpa using hi) j hj
    rw[show o+(i+1)*sz+j=o+sz+i*sz+j by rw[Nat.succ_mul];omega] at this
    exact this)
   have hul:us.length=sz:=by have:=h3.1;omega
   refine⟨us++vs,xCQ h1 (by rw[hul];exact k1),?_,fun u hu=>?_,?_⟩
   ·rw[List.length_append,k2,hul,List.length_cons,Nat.succ_mul];omega
   ·rcases List.mem_append.1 hu with hu | hu
    ·exact h2 u hu
    ·exact k3 u hu
   ·rw[List.flatten_cons];exact h3.append k4
def bytesOf:List (List V)->Option (List Int)
 | []=>some []
 | [.int .u8 n]::r=>(bytesOf r).map (n:: ·)
 | _=>none
theorem xDy{es:List (List V)}{ns:List Int}(h:bytesOf es=some ns):es=ns.map fun n=> [V.int .u8 n]:=by
 induction es generalizing ns with
 | nil=>simp only[bytesOf,Option.some.injEq] at h;subst h;rfl
 | cons r es ih=>
   unfold bytesOf at h
   split at h
   ·rename_i e;cases e
   ·rename_i e
    injection e with e1 e2
    subst e1 e2
    obtain⟨ns',h',rfl⟩:=Option.map_eq_some_iff.1 h
    rw[ih h'];rfl
   ·cases h
theorem xGX(ns:List Int):(ns.map fun n=> [V.int .u8 n]).flatten=ns.map (V.int .u8):=by
 induction ns with
 | nil=>rfl
 | cons n ns ih=>simp[ih]
def vConv(P:Program)(src dst:TypeId)(st:St)(x:V):Option V:=
 match P.underlying src,P.underlying dst with
 | some s,some d=>match d with
   | .int k'=>match x with | .int _ n=>some (.int k' (k'.wrap n)) | _=>none
   | .string=>match x,s with
     | .str t,_=>some (.str t)
     | x,.slice e=>match P.underlying e with
       | some (.int .u8)=>(elemsOf st x).bind fun es=>(bytesOf es).map fun ns=> .str ⟨(ns.map fun n=>UInt8.ofNat n.toNat).toArray⟩
       | _=>none
     | _,_=>none
   | _=>none
 | _,_=>none
theorem xKD{P:Program}{src dst:TypeId}{x z:V}{x':Value}(hst:SR mu S B st w)(hx:VR mu S w x x')(h:vConv P src dst st x=some z):
  ∃u,(convert src dst x').run P w= .ok u w/\VR mu S w z u:=by
 unfold vConv at h
 split at h
 ·rename_i s d hs hd
  split at h
  ·rename_i k'
   split at h
   ·rename_i k n
    injection h with h;subst h
    obtain rfl:=hx.int_inv
    refine⟨_,?_,.int _ _⟩
    simp[convert,run_underlying hs,run_underlying hd,Conv.intToInt]
   ·cases h
  ·split at h
   ·rename_i t
    injection h with h;subst h
    obtain rfl:=hx.str_inv
    refine⟨_,?_,.str _⟩
    simp[convert,run_underlying hs,run_underlying hd]
   ·rename_i e hnot
    split at h
    ·rename_i he
     obtain⟨es,hes,h⟩:=Option.bind_eq_some_iff.1 h
     obtain⟨ns,hns,rfl⟩:=Option.map_eq_some_iff.1 h
     have hee:=xDy hns
     obtain⟨A,c,sz,rfl,hlc,hrow,hat⟩:=yVL hst hx hes
     refine⟨_,?_,.str _⟩
     rw[run_convert_bytes_string w src dst e _ es.length c hs he hd]
     by_cases h0:es.length=0
     ·have hn0:ns= []:=by
        have:ns.length=0:=by rw[hee] at h0;simpa using h0
        exact List.eq_nil_of_length_eq_zero this
      subst hn0
      cases A with
      | none=>simp[Conv.bytesToString];rfl
      | some ad=>
        have hl:(loadCells ad es.length).run P w= .ok (([]:List Int).map (Value.int .u8)).toArray w:=by rw[h0];rfl
        rw[run_bytesToString w ad es.length c _ hl]
        rfl
     ·obtain⟨g,o,rfl,hra⟩:=hat (by omega)
      have hsz:sz=1:=by
       have:=hrow 0 (by omega)
       subst hee
       simpa using this.symm
      subst hsz
      obtain⟨us,h1,h2,h3,h4⟩:=xBg es 1 g o hrow hra
      have hfl:es.flatten=ns.map (V.int .u8):=by rw[hee];exact xGX ns
      have hus:us=ns.map (Value.int .u8):=by
       rw[hfl] at h4
       apply List.ext_getElem
       ·have:=h4.1;simpa using this.symm
       ·intro j hj hj'
        have:=h4.2 j (by simpa using hj') hj
        simp only[List.getElem_map] at this ⊢
        exact this.int_inv
      have hl:(loadCells ⟨g,o,none⟩ es.length).run P w= .ok (ns.map (Value.int .u8)).toArray w:=by
       rw[←hus]
       have:=run_loadCells_list (P:=P) w ⟨g,o,none⟩ us (fun j v hv=>by rw[Addr.add_mid];exact h1 j v hv)
       rwa [h2,Nat.mul_one] at this
      rw[run_bytesToString w _ es.length c _ hl,foldl_push_bytes]
      congr 2
      rw[show ByteArray.empty.data=#[] from rfl,Array.empty_append]
    ·cases h
   ·cases h
  ·cases h
 ·cases h
def vMinL(mx:Bool):V->List V->Option V
 | x,[]=>some x
 | .int k x,.int _ y::r=>vMinL mx (.int k (if(if mx then y>x else y<x) then y else x)) r
 | _,_=>none
theorem xMJ{P:Program}{x z:V}{xs:List V}{v:Value}{vs:List Value}(hx:VR mu S w x v)(hs:VRs mu S w xs vs)(h:vMinL false x xs=some z):∃u,(vs.foldlM Builtin.min2 v).run P w= .ok u w/\VR mu S w z u:=by
 induction xs generalizing x v vs with
 | nil=>
   have:vs= []:=List.eq_nil_of_length_eq_zero hs.1.symm
   subst this
   simp only[vMinL,Option.some.injEq] at h
   subst h
   exact⟨v,rfl,hx⟩
 | cons y xs ih=>
   cases vs with
   | nil=>have:=hs.1;simp at this
   | cons v' vs=>
     have h0:=hs.2 0 (by simp) (by simp)
     simp only[List.getElem_cons_zero] at h0
     have hr:VRs mu S w xs vs:=⟨by have:=hs.1;simpa using this,fun j hj hj'=>hs.2 (j+1) (by simpa using hj) (by simpa using hj')⟩
     cases x <;> cases y <;> simp only[vMinL,reduceCtorEq] at h
     case int.int k a k' b=>
      obtain rfl:=hx.int_inv
      obtain rfl:=h0.int_inv
      simp only[if_false] at h
      obtain⟨u,hu,hur⟩:=ih (v:= .int k (if b<a then b else a)) (.int _ _) hr h
      exact⟨u,by simp[List.foldlM_cons,Builtin.min2,hu],hur⟩
theorem xMI{P:Program}{x z:V}{xs:List V}{v:Value}{vs:List Value}(hx:VR mu S w x v)(hs:VRs mu S w xs vs)(h:vMinL true x xs=some z):∃u,(vs.foldlM Builtin.max2 v).run P w= .ok u w/\VR mu S w z u:=by
 induction xs generalizing x v vs with
 | nil=>
   have:vs= []:=List.eq_nil_of_length_eq_zero hs.1.symm
   subst this
   simp only[vMinL,Option.some.injEq] at h
   subst h
   exact⟨v,rfl,hx⟩
 | cons y xs ih=>
   cases vs with
   | nil=>have:=hs.1;simp at this
   | cons v' vs=>
     have h0:=hs.2 0 (by simp) (by simp)
     simp only[List.getElem_cons_zero] at h0
     have hr:VRs mu S w xs vs:=⟨by have:=hs.1;simpa using this,fun j hj hj'=>hs.2 (j+1) (by simpa using hj) (by simpa using hj')⟩
     cases x <;> cases y <;> simp only[vMinL,reduceCtorEq] at h
     case int.int k a k' b=>
      obtain rfl:=hx.int_inv
      obtain rfl:=h0.int_inv
      simp only[if_true] at h
      obtain⟨u,hu,hur⟩:=ih (v:= .int k (if b>a then b else a)) (.int _ _) hr h
      exact⟨u,by simp[List.foldlM_cons,Builtin.max2,hu],hur⟩
def vFill(place:Nat->Option (Nat×Nat)):List V->List (Nat×V)->Option (List V)
 | cs,[]=>some cs
 | cs,(i,x)::rest=>match place i,x.cells? with
   | some (off,size),some ys=>bif Nat.beq ys.length size&&Nat.ble (off+ys.length) cs.length then vFill place (cs.take off++(ys++cs.drop (off+ys.length))) rest else none
   | _,_=>none
theorem yY4(off:Nat)(ys:List Value):∀(s:Nat) (cs:Array Value),off+s+ys.length<=cs.size→
  ((ys.zipIdx s).foldl (fun cs (x:Value×Nat)=>cs.setIfInBounds (off+x.2) x.1) cs).toList=cs.toList.take (off+s)++(ys++cs.toList.drop (off+s+ys.length)):=by
 induction ys with
 | nil=>intro s cs h;simp
 | cons y ys ih=>
   intro s cs h
   simp only[List.length_cons] at h
   rw[List.zipIdx_cons,List.foldl_cons,ih (s+1) _ (by simp;omega)]
   simp only[Array.toList_setIfInBounds,List.length_cons]
   have hlt:off+s<cs.toList.length:=by simp;omega
   rw[show off+(s+1)=off+s+1 by omega,show off+s+1+ys.length=off+s+(ys.length+1) by omega,List.drop_set_of_lt (by omega),
    List.take_succ_eq_append_getElem (by simpa using hlt),List.take_set_of_le (Nat.le_refl _)]
   simp
theorem xIt(off:Nat)(ys:List Value)(cs:Array Value)(h:off+ys.length<=cs.size):
  ((ys.zipIdx 0).foldl (fun cs (x:Value×Nat)=>cs.setIfInBounds (off+x.2) x.1) cs).toList=cs.toList.take off++(ys++cs.toList.drop (off+ys.length)):=by
 have:=yY4 off ys 0 cs (by omega)
 simpa using this
theorem xBv{place:Nat->Option (Nat×Nat)}{cs zs:List V}{parts:List (Nat×V)}{cs':Array Value}{parts':List (Nat×Value)}(hc:VRs mu S w cs cs'.toList)(h1:∀u∈cs'.toList,u.oneCell'=true)
  (hp:parts.length=parts'.length/\∀j (hj:j<parts.length) (hj':j<parts'.length),parts[j].1=parts'[j].1/\VR mu S w parts[j].2 parts'[j].2) (h:vFill place cs parts=some zs):
  ∃zs',Instr.fill place cs' parts'=some zs'/\VRs mu S w zs zs'.toList/\∀u∈zs'.toList,u.oneCell'=true:=by
 induction parts generalizing cs cs' parts' with
 | nil=>
   have:parts'= []:=List.eq_nil_of_length_eq_zero hp.1.symm
   subst this
   simp only[vFill,Option.some.injEq] at h
   subst h
   exact⟨cs',rfl,hc,h1⟩
 | cons p parts ih=>
   cases parts' with
   | nil=>have:=hp.1;simp at this
   | cons p' parts'=>
     obtain⟨i,x⟩:=p
     obtain⟨i',x'⟩:=p'
     obtain⟨e1,hx⟩:=hp.2 0 (by simp) (by simp)
     simp only[List.getElem_cons_zero] at e1 hx
     subst e1
     unfold vFill at h
     split at h
     ·rename_i off size ys hpl hys
      cases hb:(Nat.beq ys.length size&&Nat.ble (off+ys.length) cs.length) with
      | false=>rw[hb] at h;cases h
      | true=>
        rw[hb,cond_true] at h
        rw[Bool.and_eq_true] at hb
        have hsz:=Nat.eq_of_beq_eq_true hb.1
        have hle:=Nat.le_of_ble_eq_true hb.2
        obtain⟨hxs,hx1⟩:=hx.cells hys
        have hyl:ys.length=x'.cells.size:=by have:=hxs.1;simpa using this
        have hcl:cs.length=cs'.size:=by have:=hc.1;simpa using this
        have hsp:=xIt off x'.cells.toList cs' (by simp;omega)
        have hz:x'.cells.zipIdx.toList=x'.cells.toList.zipIdx 0:=by simp
        obtain⟨zs',hz1,hz2,hz3⟩:=ih (cs:=cs.take off++(ys++cs.drop (off+ys.length))) (cs':=(x'.cells.toList.zipIdx 0).foldl (fun cs (x:Value×Nat)=>cs.setIfInBounds (off+x.2) x.1) cs') (parts':=parts')
         (by rw[hsp];refine(hc.take off).append (hxs.append ?_);rw[show off+x'.cells.toList.length=off+ys.length by simp;omega];exact hc.drop _)
         (by
           rw[hsp];intro u hu
           rcases List.mem_append.1 hu with hu | hu
           ·exact h1 u (List.mem_of_mem_take hu)
           ·rcases List.mem_append.1 hu with hu | hu
            ·exact hx1 u hu
            ·exact h1 u (List.mem_of_mem_drop hu))
         ⟨by have:=hp.1;simpa using this,fun j hj hj'=>hp.2 (j+1) (by simpa using hj) (by simpa using hj')⟩ h
        refine⟨zs',?_,hz2,hz3⟩
        unfold Instr.fill
        rw[hpl]
        dsimp only
        have hcond:¬((decide (x'.cells.size≠size) || decide (off+x'.cells.size>cs'.size))=true):=by simp;omega
        rw[if_neg hcond,←Array.foldl_toList,hz]
        exact hz1
     ·cases h
def vBuild(P:Program)(t:TypeId)(parts:List (Nat×V)):Option V:=
 match P.info? t,P.underlying t with
 | some it,some (.array _ e)=>
   match it.zero,P.info? e with
   | some z,some ie=>bif z.cells.toList.all (·.oneCell') then(vFill (fun i=>some (i*ie.size,ie.size)) (z.cells.toList.map vOf) parts).map .agg else none
   | _,_=>none
 | some it,some (.struct fields)=>
   match it.zero,fields.toList.mapM (fun f=>(P.info? f.type).map fun i=>(f.offset,i.size)) with
   | some z,some places=>bif z.cells.toList.all (·.oneCell') then(vFill (fun i=>places[i]?) (z.cells.toList.map vOf) parts).map .agg else none
   | _,_=>none
 | _,_=>none
theorem VRs.of_vOf(vs:List Value):VRs mu S w (vs.map vOf) vs:=⟨by simp,fun j hj hj'=>by rw[List.getElem_map];exact .of_vOf _⟩
theorem xIS{P:Program}{t:TypeId}{parts:List (Nat×V)}{parts':Array (Nat×Value)}{z:V}
  (hp:parts.length=parts'.toList.length/\∀j (hj:j<parts.length) (hj':j<parts'.toList.length),parts[j].1=parts'.toList[j].1/\VR mu S w parts[j].2 parts'.toList[j].2) (h:vBuild P t parts=some z):
  ∃u,(Instr.build t parts').run P w= .ok u w/\VR mu S w z u:=by
 unfold vBuild at h
 have hall:∀v:Value,v.cells.toList.all (·.oneCell')=true->∀u∈v.cells.toList,u.oneCell'=true:=fun v hv u hu=>List.all_eq_true.1 hv u hu
 split at h
 ·rename_i it n e hit hu
  split at h
  ·rename_i zv ie hz hie
   cases hb:zv.cells.toList.all (·.oneCell') with
   | false=>rw[hb] at h;cases h
   | true=>
     rw[hb,cond_true] at h
     obtain⟨zs,hzs,rfl⟩:=Option.map_eq_some_iff.1 h
     obtain⟨zs',h1,h2,h3⟩:=xBv (cs':=zv.cells) (VRs.of_vOf _) (hall _ hb) hp hzs
     refine⟨.agg zs',run_build w t parts' zs' ?_,?_⟩
     ·unfold Program.built
      rw[hit,hu]
      dsimp only
      rw[hz,hie]
      exact h1
     ·have:=VR.of_agg h2 h3;simpa using this
  ·cases h
 ·rename_i it fields hit hu
  split at h
  ·rename_i zv places hz hpl
   cases hb:zv.cells.toList.all (·.oneCell') with
   | false=>rw[hb] at h;cases h
   | true=>
     rw[hb,cond_true] at h
     obtain⟨zs,hzs,rfl⟩:=Option.map_eq_some_iff.1 h
     obtain⟨zs',h1,h2,h3⟩:=xBv (cs':=zv.cells) (VRs.of_vOf _) (hall _ hb) hp hzs
     refine⟨.agg zs',run_build w t parts' zs' ?_,?_⟩
     ·unfold Program.built
      rw[hit,hu]
      dsimp only
      rw[hz,hpl]
      dsimp only
      rw[←h1]
      congr 1
      funext i
      simp
     ·have:=VR.of_agg h2 h3;simpa using this
  ·cases h
 ·cases h
end
end Go.Proofs.YtakljpcmbpaeaaaGreat
