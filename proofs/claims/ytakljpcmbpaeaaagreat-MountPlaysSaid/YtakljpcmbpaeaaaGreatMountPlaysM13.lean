/- The awp calculus, 11: append, []byte(s), and all operations that turn the store under one word. -/
import Derived.Test.YtakljpcmbpaeaaaGreatMountPlaysM12
set_option linter.unusedSimpArgs false
set_option linter.unusedVariables false
namespace Go.Proofs.YtakljpcmbpaeaaaGreat
open Go.RowKit
section
variable {mu mu' mu'':Mu} {S:yEn} {B:Dom} {st:St} {w w' w'':World} {fr:Fr} {a:Act}
theorem SR.virt(h:SR mu S B st w)(hf:Fr0 mu st)(sz:Nat):SR (mu.put st.c ⟨0,0,sz,0,false⟩) S B (st.new ⟨[],sz,0⟩) w:=by
 have hmono:=SR.mono_put hf ⟨0,0,sz,0,false⟩
 have hold:∀b k,st.get b=some k->b≠st.c:=fun b k hk hb=>by rw[hb,hf.2] at hk;cases hk
 have hnoE:∀g i,¬RgB ⟨0,0,sz,0,false⟩ g i:=fun g i ⟨_,h2,h3⟩=>by simp at h3
 refine⟨fun b k hb=>?_,h.gdis_new fun hp=>absurd hp (by simp),fun b k L hb hL g i hx hs=>?_,h.sb⟩
 ·rw[St.get_new] at hb
  split at hb
  ·rename_i e
   subst e
   injection hb with hb
   subst hb
   exact⟨_,Mu.put_same _ _ _,⟨rfl,fun _=>by simp,by simp,fun i hi=>absurd hi (by simp),fun i h1 h2=>by simp at h2,fun _ i hi=>absurd hi (by simp),fun hm=>by cases hm⟩,fun hp=>absurd hp (by simp)⟩
  ·obtain⟨L,hL,hbr,hg⟩:=h.loc b k hb
   exact⟨L,hmono _ _ hL,hbr.mono hmono (fun _ _ h=>h),hg⟩
 ·rw[St.get_new] at hb
  by_cases e:b=st.c
  ·subst e
   rw[Mu.put_same] at hL;injection hL with hL;subst hL
   exact hnoE _ _ hx.rg
  ·rw[if_neg e] at hb
   rw[Mu.put_other e] at hL
   exact h.exS b k L hb hL g i hx hs
def srcRows(P:Program)(t2:TypeId)(sz:Nat)(x:V)(st:St):Option (List (List V)):=
 match P.underlying t2 with
 | some .string=>match x with
   | .str s=>bif Nat.beq sz 1 then some (s.data.toList.map fun c=> [.int .u8 (c.toNat:Int)]) else none
   | _=>none
 | some (.slice _)=>(elemsOf st x).bind fun ns=>bif ns.all fun r=>Nat.beq r.length sz then some ns else none
 | _=>none
theorem yWH(l:List UInt8):(l.map fun c=> [V.int .u8 (c.toNat:Int)]).flatten=l.map fun c=>V.int .u8 (c.toNat:Int):=by
 induction l with
 | nil=>rfl
 | cons c l ih=>simp[ih]
theorem xFm{P:Program}{t2:TypeId}{sz:Nat}{x:V}{x':Value}{ns:List (List V)}(h:SR mu S B st w)(hx:VR mu S w x x')(hs:srcRows P t2 sz x st=some ns):
  (∀i (hi:i<ns.length),ns[i].length=sz)/\∃news,Src P sz t2 x' ns.length news w/\VRs mu S w ns.flatten news:=by
 unfold srcRows at hs
 split at hs
 ·rename_i hu
  split at hs
  ·rename_i s
   cases hb:Nat.beq sz 1 with
   | false=>rw[hb] at hs;cases hs
   | true=>
     rw[hb,cond_true,Option.some.injEq] at hs
     obtain rfl:=Nat.eq_of_beq_eq_true hb
     subst hs
     obtain rfl:=hx.str_inv
     refine⟨fun i hi=>by simp,byteCells s,?_,?_⟩
     ·have:=Src.ofString (P:=P) w hu s
      have e:s.size=(s.data.toList.map fun c=> [V.int .u8 (c.toNat:Int)]).length:=by rw[List.length_map,Array.length_toList];rfl
      rw[←e];exact this
     ·rw[yWH]
      refine⟨by simp[byteCells],fun j hj hj'=>?_⟩
      simp only[byteCells,List.getElem_map]
      exact .int _ _
  ·cases hs
 ·rename_i e' hu
  obtain⟨ns',hn,hs⟩:=Option.bind_eq_some_iff.1 hs
  cases hb:(ns'.all fun r=>Nat.beq r.length sz) with
  | false=>rw[hb] at hs;cases hs
  | true=>
    rw[hb,cond_true,Option.some.injEq] at hs
    subst hs
    have hrow:∀i (hi:i<ns'.length),ns'[i].length=sz:=fun i hi=>Nat.eq_of_beq_eq_true (List.all_eq_true.1 hb _ (List.getElem_mem hi))
    refine⟨hrow,?_⟩
    obtain⟨A,c,sz',rfl,hlc,hrow',hat⟩:=yVL h hx hn
    by_cases h0:ns'.length=0
    ·have:ns'= []:=List.eq_nil_of_length_eq_zero h0
     subst this
     refine⟨[],?_,by simpa using VRs.nil⟩
     cases A with
     | none=>exact Src.ofNil w hu c
     | some ad=>exact Src.ofSlice w hu ad 0 c [] (by simp) (fun j u hu=>by simp at hu) (by simp)
    ·obtain⟨g,o,rfl,hra⟩:=hat (by omega)
     obtain rfl:sz'=sz:=by rw[←hrow' 0 (by omega),hrow 0 (by omega)]
     obtain⟨us,h1,h2,h3,h4⟩:=xBg ns' sz' g o hrow hra
     exact⟨us,Src.ofSlice w hu ⟨g,o,none⟩ ns'.length c us h2 (fun j u hu=>by rw[Addr.add_mid];exact h1 j u hu) h3,h4⟩
 ·cases hs
def sAppend(P:Program)(t t2:TypeId)(s x:V)(st:St):Option (V×St):=
 match P.underlying t with
 | some (.slice e)=>match P.info? e with
   | some ie=>match ie.zero with
     | some z=>bif Nat.beq z.cells.size ie.size then(srcRows P t2 ie.size x st).bind fun ns=>
       match s with
       | .bs b i n cap=>(st.get b).bind fun k=>bif Nat.beq k.sz ie.size then
         bif Nat.beq (i+n) k.es.length then
          bif decide ((n+ns.length)*ie.bytes<=140737488355328)&&decide (n+ns.length<=9223372036854775807) then
           some (.bs st.c 0 (n+ns.length) (n+ns.length),(st.del b).new ⟨k.es.drop i++ns,k.sz,k.lk-i⟩) else none
         else bif Nat.ble (n+ns.length) cap&&Nat.ble (i+n+ns.length) k.es.length&&Nat.ble k.lk (i+n) then
          some (.bs b i (n+ns.length) cap,st.set b ⟨k.es.take (i+n)++(ns++k.es.drop (i+n+ns.length)),k.sz,k.lk⟩) else none
         else none
       | .sl es full=>bif full&&(Nat.beq es.length 0 || Nat.ble 1 ns.length)&&(es.all fun r=>Nat.beq r.length ie.size)&&decide ((es.length+ns.length)*ie.bytes<=140737488355328)&&decide (es.length+ns.length<=9223372036854775807) then
        some (.bs st.c 0 (es.length+ns.length) (es.length+ns.length),st.new ⟨es++ns,ie.size,0⟩) else none
       | _=>none
       else none
     | none=>none
   | none=>none
 | _=>none
theorem yGR(z:Array Value)(n:Nat):(Builtin.zeroCells z n).size=n*z.size:=by simp[Builtin.zeroCells]
theorem xAg{P:Program}{es:List (List V)}{A:Option Addr}{c sz:Nat}(hrow:∀i (hi:i<es.length),es[i].length=sz)(hat:0<es.length->∃g o,A=some ⟨g,o,none⟩/\xF3 mu S w es sz g o):
  ∃olds,(Builtin.firstCells sz es.length (.slice A es.length c)).run P w= .ok olds.toArray w/\(∀u∈olds,u.oneCell'=true)/\VRs mu S w es.flatten olds:=by
 by_cases h0:es.length=0
 ·have:es= []:=List.eq_nil_of_length_eq_zero h0
  subst this
  refine⟨[],?_,by simp,by simpa using VRs.nil⟩
  cases A with
  | none=>exact run_firstCells_none w sz 0 0 c
  | some ad=>exact run_firstCells_some w sz 0 ad 0 c [] (by simp) (fun j u hu=>by simp at hu)
 ·obtain⟨g,o,rfl,hra⟩:=hat (by omega)
  obtain⟨us,h1,h2,h3,h4⟩:=xBg es sz g o hrow hra
  exact⟨us,run_firstCells_some w sz es.length ⟨g,o,none⟩ es.length c us h2 (fun j u hu=>by rw[Addr.add_mid];exact h1 j u hu),h3,h4⟩
theorem VRs.drew{cs:List V}{vs:List Value}(h:VRs mu S w cs vs):VRs mu S w.drew cs vs:=h.mono (fun _ _ h=>h) (fun _ _ h=>h) (fun _ _ _=>rfl)
theorem VR.drew{x:V}{v:Value}(h:VR mu S w x v):VR mu S w.drew x v:=h.mono (fun _ _ h=>h) (fun _ _ h=>h) (fun _ _ _=>rfl)
theorem xDP{P:Program}{t t2 ty e:TypeId}{ie:TypeInfo}{z:Value}{x':Value}{ns es:List (List V)}{news:List Value}{A:Option Addr}{c:Nat}(h:SR mu S B st w)(hf:Fr0 mu st)(hB:yV2 B w)
  (hu:P.underlying t=some (.slice e)) (hi:P.info? e=some ie) (hz:ie.zero=some z) (hzs:z.cells.size=ie.size) (hsrc:Src P ie.size t2 x' ns.length news w) (hnv:VRs mu S w ns.flatten news) (hnrow:∀i (hi:i<ns.length),ns[i].length=ie.size)
  (hrow:∀i (hi:i<es.length),es[i].length=ie.size) (hat:0<es.length->∃g o,A=some ⟨g,o,none⟩/\xF3 mu S w es ie.size g o) (hg:c<es.length+ns.length)
  (hby:(es.length+ns.length)*ie.bytes<=140737488355328) (h63:es.length+ns.length<=9223372036854775807):
  ∃u mu' w',(Builtin.append_ #[t,t2] ty #[.slice A es.length c,x']).run P w= .ok u w'/\SR mu' S B (st.new ⟨es++ns,ie.size,0⟩) w'/\VR mu' S w' (.bs st.c 0 (es.length+ns.length) (es.length+ns.length)) u/\Out mu S B w st.c mu' w':=by
 obtain⟨olds,ho,ho1,hov⟩:=xAg (P:=P) (w:=w.drew) (A:=A) (c:=c) (mu:=mu) (S:=S) hrow (fun hp=>by
  obtain⟨g,o,e1,h2⟩:=hat hp
  exact⟨g,o,e1,fun i hi j hj=>by
   obtain⟨u,k1,k2,k3⟩:=h2 i hi j hj
   exact⟨u,k1,k2,k3.drew⟩⟩)
 have hrun:=run_append_grow_src w t t2 ty e ie z hu hi hz A es.length c olds ho x' ns.length news hsrc hg (by omega) (growslice_fits hg hby)
 have hge:=grownCap_ge w (es.length+ns.length) c e
 have hrows:∀i (hi:i<(es++ns).length),(es++ns)[i].length=ie.size:=fun i hi=>by
  rw[List.getElem_append]
  split
  ·exact hrow _ _
  ·exact hnrow _ _
 have hd:SR mu S B st w.drew:=h.drew
 obtain⟨s1,s2⟩:=xEQ hd hf hB e (es++ns) ie.size (es.length+ns.length) (olds++news) (0,0) hrows (Builtin.zeroCells z.cells (grownCap w (es.length+ns.length) c e-(es.length+ns.length))).toList
  (grownCap w (es.length+ns.length) c e) (by simpa using hge) (by simp[yGR,hzs]) (fun i _=>by simp) (by rw[List.flatten_append];exact hov.append hnv.drew) (fun u hu=>by
    rcases List.mem_append.1 hu with hu | hu
    ·exact ho1 u hu
    ·exact hsrc.one u hu) (grownCap w (es.length+ns.length) c e) (es.length+ns.length) hge (Nat.le_refl _) (Nat.le_refl _)
 have harr:((olds++news)++(Builtin.zeroCells z.cells (grownCap w (es.length+ns.length) c e-(es.length+ns.length))).toList).toArray=(olds++news).toArray++Builtin.zeroCells z.cells (grownCap w (es.length+ns.length) c e-(es.length+ns.length)):=by
  apply Array.ext';simp
 rw[harr] at s1 s2
 refine⟨_,_,_,hrun,s1,s2,?_⟩
 exact Out.trans Out.drew (Out.alloc hd hf hB _ _)
theorem xFe{P:Program}{t t2 ty:TypeId}{s x y:V}{s' x':Value}{st':St}(h:SR mu S B st w)(hf:Fr0 mu st)(hB:yV2 B w)(hs':VR mu S w s s')(hx:VR mu S w x x')(hs:sAppend P t t2 s x st=some (y,st')):
  ∃u mu' w',(Builtin.append_ #[t,t2] ty #[s',x']).run P w= .ok u w'/\SR mu' S B st' w'/\VR mu' S w' y u/\Out mu S B w st.c mu' w':=by
 unfold sAppend at hs
 split at hs
 ·rename_i e hu
  split at hs
  ·rename_i ie hi
   split at hs
   ·rename_i z hz
    cases hzb:Nat.beq z.cells.size ie.size with
    | false=>rw[hzb] at hs;cases hs
    | true=>
      rw[hzb,cond_true] at hs
      have hzs:=Nat.eq_of_beq_eq_true hzb
      obtain⟨ns,hns,hs⟩:=Option.bind_eq_some_iff.1 hs
      obtain⟨hnrow,news,hsrc,hnv⟩:=xFm h hx hns
      have hnl:news.length=ns.length*ie.size:=hsrc.newsLen
      cases s <;> simp only[reduceCtorEq] at hs
      case sl es full _=>
       cases hb:(full&&(Nat.beq es.length 0 || Nat.ble 1 ns.length)&&(es.all fun r=>Nat.beq r.length ie.size)&&decide ((es.length+ns.length)*ie.bytes<=140737488355328)&&decide (es.length+ns.length<=9223372036854775807)) with
       | false=>rw[hb] at hs;cases hs
       | true=>
         rw[hb,cond_true,Option.some.injEq,Prod.mk.injEq] at hs
         obtain⟨rfl,rfl⟩:=hs
         simp only[Bool.and_eq_true,decide_eq_true_eq] at hb
         obtain⟨⟨⟨⟨b1,b2⟩,b3⟩,b4⟩,b5⟩:=hb
         have hrow:∀i (hi:i<es.length),es[i].length=ie.size:=fun i hi=>Nat.eq_of_beq_eq_true (List.all_eq_true.1 b3 _ (List.getElem_mem hi))
         obtain⟨A,c,sz,rfl,hlc,hrow',hat⟩:=yVL (es:=es) h hs' rfl
         obtain⟨A2,c2,e2,_,hfull⟩:=hs'.sl_inv
         injection e2 with e2 _ e3
         subst e2 e3
         have hce:=hfull b1
         by_cases hm:ns.length=0
         ·have hn0:ns= []:=List.eq_nil_of_length_eq_zero hm
          subst hn0
          have he0:es= []:=by
           rw[Bool.or_eq_true] at b2
           rcases b2 with b2 | b2
           ·exact List.eq_nil_of_length_eq_zero (Nat.eq_of_beq_eq_true b2)
           ·have:=Nat.le_of_ble_eq_true b2;simp at this
          subst he0
          have hne:news= []:=List.eq_nil_of_length_eq_zero (by simpa using hnl)
          subst hne
          refine⟨_,_,_,run_append_nothing w t t2 ty e ie hu hi A 0 c (by simp) x' hsrc,h.virt hf ie.size,?_,⟨SR.mono_put hf _,fun _ hb=>Mu.put_other hb,fun _ _ _=>rfl,Off.refl _ _⟩⟩
          exact .bs _ _ _ _ _ _ _ (Mu.put_same _ _ _) (by simp) (by simp) (.inl (by simpa using hce)) rfl
         ·refine xDP h hf hB hu hi hz hzs hsrc hnv hnrow hrow (fun hp=>?_) (by omega) b4 b5
          obtain⟨g,o,e1,h2⟩:=hat hp
          obtain rfl:sz=ie.size:=by rw[←hrow' 0 hp,hrow 0 hp]
          exact⟨g,o,e1,h2⟩
      case bs b i n cap _=>
       obtain⟨k,hk,hs⟩:=Option.bind_eq_some_iff.1 hs
       cases hkb:Nat.beq k.sz ie.size with
       | false=>rw[hkb] at hs;cases hs
       | true=>
         rw[hkb,cond_true] at hs
         have hksz:=Nat.eq_of_beq_eq_true hkb
         obtain⟨L,A,c,hL,rfl,hn,hc,hA⟩:=hs'.bs_inv
         have hrg:=hs'.bs_reg hL
         obtain⟨L',hL',hbr,hg⟩:=h.loc b k hk
         rw[hL] at hL';injection hL' with hL';subst hL'
         have hLsz:L.sz=ie.size:=by rw[←hbr.sz];exact hksz
         cases hfb:Nat.beq (i+n) k.es.length with
         | true=>
           rw[hfb,cond_true] at hs
           have hfr:=Nat.eq_of_beq_eq_true hfb
           cases hb:(decide ((n+ns.length)*ie.bytes<=140737488355328)&&decide (n+ns.length<=9223372036854775807)) with
           | false=>rw[hb] at hs;cases hs
           | true=>
             rw[hb,cond_true,Option.some.injEq,Prod.mk.injEq] at hs
             obtain⟨rfl,rfl⟩:=hs
             simp only[Bool.and_eq_true,decide_eq_true_eq] at hb
             obtain⟨b4,b5⟩:=hb
             have hdl:(k.es.drop i).length=n:=by simp;omega
             have hdrow:∀j (hj:j<(k.es.drop i).length),(k.es.drop i)[j].length=ie.size:=fun j hj=>by
              rw[List.getElem_drop,←hLsz];exact hbr.row _ _
             by_cases hroom:n+ns.length<=c
             ·have hmv:=h.move hf hk hL hrg (i:=i) (by omega)
              have hout:Out mu S B w st.c (mu.put st.c ⟨L.g,L.o+i*L.sz,L.sz,L.lim-i,false⟩) w:=⟨SR.mono_put hf _,fun _ hb=>Mu.put_other hb,fun _ _ _=>rfl,Off.refl _ _⟩
              by_cases hm:ns.length=0
              ·have hn0:ns= []:=List.eq_nil_of_length_eq_zero hm
               subst hn0
               have hne:news= []:=List.eq_nil_of_length_eq_zero (by simpa using hnl)
               subst hne
               refine⟨_,_,_,run_append_nothing w t t2 ty e ie hu hi A n c (by simpa using hroom) x' hsrc,by simpa using hmv,?_,hout⟩
               refine .bs _ _ _ _ _ _ _ (Mu.put_same _ _ _) (by simp) (by simpa using hroom) ?_ rfl
               rcases hA with h0 | ⟨rfl,hlim⟩
               ·exact .inl h0
               ·exact .inr ⟨by simp,by simp;omega⟩
              ·rcases hA with h0 | ⟨rfl,hlim⟩
               ·omega
               ·have hget:((st.del b).new ⟨k.es.drop i,k.sz,k.lk-i⟩).get st.c=some ⟨k.es.drop i,k.sz,k.lk-i⟩:=by
                  rw[St.get_new];exact if_pos rfl
                have hlim2:n*L.sz+news.length<=(L.lim-i)*L.sz:=by
                 rw[hnl,hLsz,←Nat.add_mul]
                 exact Nat.mul_le_mul_right _ (by omega)
                have hdd:∀j (hj:j<(k.es.drop i).length),(k.es.drop i)[j].length=L.sz:=fun j hj=>by rw[hLsz];exact hdrow j hj
                obtain⟨s1,s2,s3⟩:=hmv.setCells (k':=⟨k.es.drop i++ns,k.sz,k.lk-i⟩) hget (Mu.put_same _ _ _) rfl news (n*L.sz) (show(k.lk-i)*L.sz<=n*L.sz from Nat.mul_le_mul_right _ (by have:=hbr.lk;omega)) hlim2 hsrc.one rfl rfl
                 (by simp;omega) (by have:=hbr.lk;simp;omega) (fun j hj=>by
                   dsimp only at hj ⊢
                   rw[List.getElem_append]
                   split
                   ·exact hdd _ _
                   ·rw[hLsz];exact hnrow _ _)
                 (fun j l q hq=>by
                   unfold cellOf at hq
                   dsimp only at hq ⊢
                   rcases Nat.lt_or_ge j n with hj | hj
                   ·right
                    rw[List.getElem?_append_left (by omega)] at hq
                    have hq':cellOf (k.es.drop i) j l=some q:=hq
                    obtain⟨hi2,hj2,_⟩:=yJq hq'
                    have hl2:l<L.sz:=by rw[←hdd j hi2];exact hj2
                    have:=xJn hj hl2
                    exact⟨by omega,hq'⟩
                   ·left
                    rw[List.getElem?_append_right (by omega),hdl] at hq
                    have hq':cellOf ns (j-n) l=some q:=hq
                    obtain⟨hi2,hj2,rfl⟩:=yJq hq'
                    have hl2:l<L.sz:=by rw[hLsz,←hnrow _ hi2];exact hj2
                    have hmul:n*L.sz<=j*L.sz:=Nat.mul_le_mul_right _ hj
                    refine⟨by omega,?_⟩
                    have hfl:ns.flatten[(j-n)*L.sz+l]?=some ns[j-n][l]:=by
                     rw[hLsz];exact(xIu ns ie.size hnrow).2 _ hi2 _ hj2
                    obtain⟨u,hu1,hu2⟩:=hnv.get hfl
                    refine⟨u,?_,hu2.mono (SR.mono_put hf _) (fun _ _ h=>h) (fun _ _ _=>rfl)⟩
                    rw[←hu1];congr 1
                    rw[Nat.sub_mul];omega)
                have hs4:(((st.del b).new ⟨k.es.drop i,k.sz,k.lk-i⟩).set st.c ⟨k.es.drop i++ns,k.sz,k.lk-i⟩)=(st.del b).new ⟨k.es.drop i++ns,k.sz,k.lk-i⟩:=St.new_set (st.del b) _ _
                rw[hs4] at s1
                have hrun:=run_append_room_src w t t2 ty e ie hu hi L.g (L.o+i*L.sz) n c x' ns.length news hsrc hroom (fun j hj=>by rw[←hLsz];exact(s3 j hj).1) (fun j hj=>by rw[←hLsz];exact(s3 j hj).2)
                rw[←hLsz] at hrun
                refine⟨_,_,_,hrun,s1,?_,hout.trans ⟨s2.mono,fun _ _=>rfl,s2.keeps,s2.below⟩⟩
                exact .bs _ _ _ _ _ _ _ (Mu.put_same _ _ _) (Nat.le_refl _) hroom (.inr ⟨by simp,by simp;omega⟩) rfl
             ·have hd:=h.del b
              have hfd:Fr0 mu (st.del b):=⟨hf.1,by show(st.del b).get st.c=none;rw[St.get_del];split;rfl;exact hf.2⟩
              have hat:0<(k.es.drop i).length->∃g o,A=some ⟨g,o,none⟩/\xF3 mu S w (k.es.drop i) ie.size g o:=fun hp=>by
               rw[hdl] at hp
               rcases hA with h0 | ⟨rfl,hlim⟩
               ·omega
               ·refine⟨_,_,rfl,fun j hj l hl=>?_⟩
                have hj2:i+j<k.es.length:=by omega
                have hl2:l<k.es[i+j].length:=by simpa[List.getElem_drop] using hl
                obtain⟨u,q1,q2,q3⟩:=hbr.cell hrg (i+j) hj2 l hl2
                refine⟨u,?_,q2,by simpa[List.getElem_drop] using q3⟩
                rw[←hLsz,show L.o+i*L.sz+j*L.sz+l=L.o+(i+j)*L.sz+l by rw[Nat.add_mul];omega];exact q1
              obtain⟨u,mu',w',r1,r2,r3,r4⟩:=xDP (es:=k.es.drop i) (A:=A) (c:=c) (ty:=ty) hd hfd hB hu hi hz hzs hsrc hnv hnrow hdrow hat (by omega) (by rw[hdl];exact b4) (by rw[hdl];exact b5)
              rw[hdl] at r1 r3
              have hget:((st.del b).new ⟨k.es.drop i++ns,ie.size,0⟩).get st.c=some ⟨k.es.drop i++ns,ie.size,0⟩:=by
               rw[St.get_new];exact if_pos rfl
              have r5:=r2.relock hget (n:=k.lk-i) (by have:=hbr.lk;simp;omega) (Nat.zero_le _)
              have hs4:(((st.del b).new ⟨k.es.drop i++ns,ie.size,0⟩).set st.c ⟨k.es.drop i++ns,ie.size,k.lk-i⟩)=(st.del b).new ⟨k.es.drop i++ns,ie.size,k.lk-i⟩:=St.new_set (st.del b) _ _
              rw[hs4] at r5
              rw[hksz]
              exact⟨u,mu',w',r1,r5,r3,r4⟩
         | false=>
           rw[hfb,cond_false] at hs
           cases hb:(Nat.ble (n+ns.length) cap&&Nat.ble (i+n+ns.length) k.es.length&&Nat.ble k.lk (i+n)) with
           | false=>rw[hb] at hs;cases hs
           | true=>
             rw[hb,cond_true,Option.some.injEq,Prod.mk.injEq] at hs
             obtain⟨rfl,rfl⟩:=hs
             rw[Bool.and_eq_true,Bool.and_eq_true] at hb
             have b1:=Nat.le_of_ble_eq_true hb.1.1
             have b2:=Nat.le_of_ble_eq_true hb.1.2
             have b3:=Nat.le_of_ble_eq_true hb.2
             have hroom:n+ns.length<=c:=by omega
             have htl:(k.es.take (i+n)).length=i+n:=by simp;omega
             have hlim2:(i+n)*L.sz+news.length<=L.lim*L.sz:=by
              rw[hnl,hLsz,←Nat.add_mul]
              exact Nat.mul_le_mul_right _ (by have:=hbr.len hrg;omega)
             obtain⟨s1,s2,s3⟩:=h.setCells (k':=⟨k.es.take (i+n)++(ns++k.es.drop (i+n+ns.length)),k.sz,k.lk⟩) hk hL hrg news ((i+n)*L.sz) (Nat.mul_le_mul_right _ b3) hlim2 hsrc.one rfl rfl
              (by have:=hbr.len hrg;simp;omega) (by have:=hbr.lk;simp;omega) (fun j hj=>by
                dsimp only at hj ⊢
                rw[List.getElem_append]
                split
                ·rw[List.getElem_take];exact hbr.row _ _
                ·rw[List.getElem_append]
                 split
                 ·rw[hLsz];exact hnrow _ _
                 ·rw[List.getElem_drop];exact hbr.row _ _)
              (fun j l q hq=>by
                unfold cellOf at hq
                dsimp only at hq
                rcases Nat.lt_or_ge j (i+n) with hj | hj
                ·right
                 rw[List.getElem?_append_left (by omega),List.getElem?_take_of_lt hj] at hq
                 have hq':cellOf k.es j l=some q:=hq
                 obtain⟨hi2,hj2,_⟩:=yJq hq'
                 have hl2:l<L.sz:=by rw[←hbr.row j hi2];exact hj2
                 have:=xJn hj hl2
                 exact⟨by omega,hq'⟩
                ·rw[List.getElem?_append_right (by omega),htl] at hq
                 have hmul:(i+n)*L.sz<=j*L.sz:=Nat.mul_le_mul_right _ hj
                 rcases Nat.lt_or_ge (j-(i+n)) ns.length with hj' | hj'
                 ·left
                  rw[List.getElem?_append_left hj'] at hq
                  have hq':cellOf ns (j-(i+n)) l=some q:=hq
                  obtain⟨hi2,hj2,rfl⟩:=yJq hq'
                  refine⟨by omega,?_⟩
                  have hfl:ns.flatten[(j-(i+n))*L.sz+l]?=some ns[j-(i+n)][l]:=by
                   rw[hLsz];exact(xIu ns ie.size hnrow).2 _ hi2 _ hj2
                  obtain⟨u,hu1,hu2⟩:=hnv.get hfl
                  refine⟨u,?_,hu2⟩
                  rw[←hu1];congr 1
                  rw[Nat.sub_mul];omega
                 ·right
                  rw[List.getElem?_append_right hj',List.getElem?_drop,show i+n+ns.length+(j-(i+n)-ns.length)=j by omega] at hq
                  refine⟨?_,hq⟩
                  have hm2:(i+n+ns.length)*L.sz<=j*L.sz:=Nat.mul_le_mul_right _ (by omega)
                  rw[Nat.add_mul _ ns.length,hLsz,←hnl,←hLsz] at hm2
                  omega)
             by_cases h0:c=0
             ·have hm:ns.length=0:=by omega
              have hn0:ns= []:=List.eq_nil_of_length_eq_zero hm
              subst hn0
              have hne:news= []:=List.eq_nil_of_length_eq_zero (by simpa using hnl)
              subst hne
              refine⟨_,mu,w,run_append_nothing w t t2 ty e ie hu hi A n c (by omega) x' hsrc,s1,?_,Out.refl⟩
              exact .bs _ _ _ _ L _ _ hL (by simpa using hn) hc (.inl h0) hrg
             ·rcases hA with h0' | ⟨rfl,hlim⟩
              ·omega
              ·have e1:L.o+i*L.sz+n*ie.size=L.o+(i+n)*L.sz:=by rw[←hLsz,Nat.add_mul];omega
               have hrun:=run_append_room_src w t t2 ty e ie hu hi L.g (L.o+i*L.sz) n c x' ns.length news hsrc hroom (fun j hj=>by rw[e1];exact(s3 j hj).1) (fun j hj=>by rw[e1];exact(s3 j hj).2)
               rw[e1] at hrun
               exact⟨_,mu,_,hrun,s1,.bs _ _ _ _ L _ _ hL b1 hc (.inr ⟨rfl,hlim⟩) hrg,s2⟩
   ·cases hs
  ·cases hs
 ·cases hs
end
end Go.Proofs.YtakljpcmbpaeaaaGreat
