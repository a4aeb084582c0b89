/- The awp calculus, 10: cells of a block are written: stores, appends. -/
import Derived.Test.YtakljpcmbpaeaaaGreatMountPlaysM11
import Derived.Deep.AppendSrc
import Derived.Deep.Upon
set_option linter.unusedSimpArgs false
set_option linter.unusedVariables false
namespace Go.Proofs.YtakljpcmbpaeaaaGreat
open Go.RowKit
section
variable {mu mu' mu'':Mu} {S:yEn} {B:Dom} {st:St} {w w' w'':World} {fr:Fr} {a:Act}
theorem yXD(b:Nat):∀(vs:List Value) (o:Nat) (w:World),(w.setCells b o vs).heap.size=w.heap.size
 | [],_,_=>rfl
 | v::r,o,w=>by rw[World.setCells,yXD b r];simp[World.setCell]
theorem yUy{B:Dom}{b:Nat}(hb:B b):∀(vs:List Value) (o:Nat) (w:World),Off B w (w.setCells b o vs)
 | [],_,_=>Off.refl _ _
 | v::r,o,w=>by rw[World.setCells];exact((Off.refl _ _).setCell (p:=⟨b,o,none⟩) hb v).trans (yUy hb r _ _)
def cellOf(es:List (List V))(i j:Nat):Option V:=(es[i]?).bind (·[j]?)
theorem yJq{es:List (List V)}{i j:Nat}{x:V}(h:cellOf es i j=some x):∃(hi:i<es.length) (hj:j<es[i].length),es[i][j]=x:=by
 obtain⟨row,hr,hx⟩:=Option.bind_eq_some_iff.1 h
 obtain⟨hi,rfl⟩:=List.getElem?_eq_some_iff.1 hr
 obtain⟨hj,rfl⟩:=List.getElem?_eq_some_iff.1 hx
 exact⟨hi,hj,rfl⟩
theorem xMf{es:List (List V)}{i j:Nat}(hi:i<es.length)(hj:j<es[i].length):cellOf es i j=some es[i][j]:=by
 unfold cellOf
 rw[List.getElem?_eq_getElem hi,Option.bind_some,List.getElem?_eq_getElem hj]
theorem yYe{b:Nat}:∀(vs:List Value) (o:Nat) (w:World) (g:Nat) (ents:Array MapEntry) (clock:Nat),w.heap[g]?=some (Obj.map ents clock)->(w.setCells b o vs).heap[g]?=some (Obj.map ents clock)
 | [],_,_,_,_,_,h=>h
 | v::r,o,w,g,ents,clock,h=>by
   rw[World.setCells]
   refine yYe r _ _ g ents clock ?_
   unfold World.setCell
   dsimp only
   rw[Array.getElem?_modify]
   split
   ·rename_i e;subst e;rw[h];rfl
   ·exact h
theorem SR.setCells(h:SR mu S B st w){b:Nat}{k k':Blk'}{L:Loc}(hk:st.get b=some k)(hL:mu b=some L)(hLm:L.mp=false)(us:List Value)(p:Nat)(hp:k.lk*L.sz<=p)(hp2:p+us.length<=L.lim*L.sz)
  (h1:∀u∈us,u.oneCell'=true) (hsz:k'.sz=k.sz) (hlk:k'.lk=k.lk) (hlen:k'.es.length<=L.lim) (hlk':k.lk<=k'.es.length) (hrow:∀i (hi:i<k'.es.length),k'.es[i].length=L.sz)
  (hc:∀i j x,cellOf k'.es i j=some x->(p<=i*L.sz+j/\∃u,us[i*L.sz+j-p]?=some u/\VR mu S w x u)\/(¬(p<=i*L.sz+j/\i*L.sz+j<p+us.length)/\cellOf k.es i j=some x)):
  SR mu S B (st.set b k') (w.setCells L.g (L.o+p) us)/\Out mu S B w st.c mu (w.setCells L.g (L.o+p) us)/\
  (∀j,j<us.length->(w.cell? ⟨L.g,L.o+p+j,none⟩).isSome=true/\w.frozen? ⟨L.g,L.o+p+j,none⟩=false):=by
 obtain⟨L',hL',hbr,hg⟩:=h.loc b k hk
 rw[hL] at hL';injection hL' with hL';subst hL'
 have hroom:∀j,j<us.length->(∃v,w.cell? ⟨L.g,L.o+p+j,none⟩=some v)/\w.frozen? ⟨L.g,L.o+p+j,none⟩=false:=fun j hj=>hbr.room _ (by omega) (by omega)
 have hin:=World.cell?_setCells_in L.g us (L.o+p) w (fun j hj=>by obtain⟨v,hv⟩:=(hroom j hj).1;rw[hv];rfl)
 have hout:=fun g i (hgi:g=L.g->i<L.o+p\/L.o+p+us.length<=i)=>World.cell?_setCells_out L.g us (L.o+p) w ⟨g,i,none⟩ (fun e _=>hgi e)
 have hupd:=h.upd (w':=w.setCells L.g (L.o+p) us) (k':=k') hk hL (fun g i hx=>hout g i (fun e=>by
   by_cases h2:i<L.o+p
   ·exact .inl h2
   ·right
    rcases Nat.lt_or_ge i (L.o+p+us.length) with h3 | h3
    ·exact absurd ⟨e,by omega,by omega⟩ hx
    ·exact h3))
  (fun g i ⟨v,hv⟩=>by
    by_cases hgi:g=L.g/\L.o+p<=i/\i<L.o+p+us.length
    ·obtain⟨rfl,h2,h3⟩:=hgi
     have:=hin (i-(L.o+p)) (by omega)
     rw[show L.o+p+(i-(L.o+p))=i by omega] at this
     exact⟨_,this⟩
    ·rw[hout g i (fun e=>by
       by_cases h2:i<L.o+p
       ·exact .inl h2
       ·exact .inr (by
         rcases Nat.lt_or_ge i (L.o+p+us.length) with h3 | h3
         ·exact absurd ⟨e,by omega,h3⟩ hgi
         ·exact h3))]
     exact⟨v,hv⟩)
  (fun g i=>World.frozen?_setCells L.g us _ w ⟨g,i,none⟩) (Nat.le_of_eq (yXD _ _ _ _).symm) (yYe us _ w) hLm hsz hlk hlen hlk' hrow (fun hK i hi j hj=>by
    rcases hc i j _ (xMf hi hj) with ⟨h2,u,hu,hv⟩ | ⟨h2,hcell⟩
    ·obtain⟨hlt,rfl⟩:=List.getElem?_eq_some_iff.1 hu
     have:=hin _ hlt
     rw[show L.o+p+(i*L.sz+j-p)=L.o+i*L.sz+j by omega] at this
     exact⟨_,this,h1 _ (List.getElem_mem _),hv.mono (fun _ _ h=>h) (fun _ _ h=>h) hK⟩
    ·obtain⟨hi',hj',e⟩:=yJq hcell
     obtain⟨v,k1,k2,k3⟩:=hbr.cell hLm i hi' j hj'
     refine⟨v,?_,k2,?_⟩
     ·rw[hout _ _ (fun _=>by omega)];exact k1
     ·rw[←e];exact k3.mono (fun _ _ h=>h) (fun _ _ h=>h) hK)
 refine⟨hupd.1,⟨fun _ _ h=>h,fun _ _=>rfl,hupd.2,?_⟩,fun j hj=>⟨by obtain⟨v,hv⟩:=(hroom j hj).1;rw[hv];rfl,(hroom j hj).2⟩⟩
 by_cases h0:us.length=0
 ·rw[List.eq_nil_of_length_eq_zero h0];exact Off.refl _ _
 ·refine yUy (hg (.inl ?_)).1 _ _ _
  rcases Nat.eq_zero_or_pos L.lim with hz | hz
  ·rw[hz,Nat.zero_mul] at hp2;omega
  ·exact hz
def wrAt(st:St)(p:V)(cs:List V):Option St:=
 match p with
 | .ptr b i j=>(st.get b).bind fun k=>(k.es[i]?).bind fun row=>bif Nat.ble k.lk i&&Nat.ble (j+cs.length) row.length then
  some (st.set b ⟨k.es.set i (row.take j++(cs++row.drop (j+cs.length))),k.sz,k.lk⟩) else none
 | _=>none
def sStore(P:Program)(t:TypeId)(p x:V)(st:St):Option St:=
 match P.info? t,x.cells? with
 | some i,some cs=>bif Nat.beq cs.length i.size then wrAt st p cs else none
 | _,_=>none
theorem xJn{i i' sz j':Nat}(h:i<i')(hj:j'<sz):i*sz+j'<i'*sz:=by
 have:(i+1)*sz<=i'*sz:=Nat.mul_le_mul_right _ h
 rw[Nat.succ_mul] at this;omega
theorem xID{P:Program}{t:TypeId}{p x:V}{p' x':Value}{st':St}(h:SR mu S B st w)(hp:VR mu S w p p')(hx:VR mu S w x x')(hs:sStore P t p x st=some st'):
  ∃w',(Instr.storeAt t p' x').run P w= .ok () w'/\SR mu S B st' w'/\Out mu S B w st.c mu w':=by
 unfold sStore at hs
 split at hs
 ·rename_i ti cs hti hcs
  cases hb:Nat.beq cs.length ti.size with
  | false=>rw[hb] at hs;cases hs
  | true=>
    rw[hb,cond_true] at hs
    have hsize:=Nat.eq_of_beq_eq_true hb
    obtain⟨hvs,h1⟩:=hx.cells hcs
    cases p <;> simp only[wrAt,reduceCtorEq] at hs
    case ptr b i j=>
     obtain⟨k,hk,hs⟩:=Option.bind_eq_some_iff.1 hs
     obtain⟨row,hr,hs⟩:=Option.bind_eq_some_iff.1 hs
     cases hb2:(Nat.ble k.lk i&&Nat.ble (j+cs.length) row.length) with
     | false=>rw[hb2] at hs;cases hs
     | true=>
       rw[hb2,cond_true,Option.some.injEq] at hs
       subst hs
       rw[Bool.and_eq_true] at hb2
       have b1:=Nat.le_of_ble_eq_true hb2.1
       have b2:=Nat.le_of_ble_eq_true hb2.2
       obtain⟨hi,rfl⟩:=List.getElem?_eq_some_iff.1 hr
       obtain⟨L,hL,rfl⟩:=hp.ptr_inv
       have hm:=hp.ptr_reg hL
       obtain⟨L',hL',hbr,hg⟩:=h.loc b k hk
       rw[hL] at hL';injection hL' with hL';subst hL'
       have hrl:=hbr.row i hi
       have hul:x'.cells.toList.length=cs.length:=hvs.1.symm
       have hend:i*L.sz+j+cs.length<=L.lim*L.sz:=by
        have:(i+1)*L.sz<=L.lim*L.sz:=Nat.mul_le_mul_right _ (by have:=hbr.len hm;omega)
        rw[Nat.succ_mul] at this;omega
       have hlo:k.lk*L.sz<=i*L.sz:=Nat.mul_le_mul_right _ b1
       have hrow':(k.es[i].take j++(cs++k.es[i].drop (j+cs.length))).length=L.sz:=by simp;omega
       obtain⟨s1,s2,s3⟩:=h.setCells (k':=⟨k.es.set i (k.es[i].take j++(cs++k.es[i].drop (j+cs.length))),k.sz,k.lk⟩) hk hL hm x'.cells.toList (i*L.sz+j) (by omega) (by omega) h1 rfl rfl
        (by simpa using hbr.len hm) (by simpa using hbr.lk) (fun i' hi'=>by
          rw[List.getElem_set]
          split
          ·exact hrow'
          ·exact hbr.row _ _)
        (fun i' j' y hy=>by
          unfold cellOf at hy
          dsimp only at hy
          rw[List.getElem?_set] at hy
          by_cases e:i=i'
          ·subst e
           rw[if_pos rfl,if_pos hi,Option.bind_some] at hy
           have hj':j'<L.sz:=by rw[←hrow'];exact(List.getElem?_eq_some_iff.1 hy).1
           rcases Nat.lt_or_ge j' j with h2 | h2
           ·right
            rw[List.getElem?_append_left (by simp;omega),List.getElem?_take_of_lt h2] at hy
            refine⟨by omega,?_⟩
            unfold cellOf
            rw[List.getElem?_eq_getElem hi,Option.bind_some];exact hy
           ·rw[List.getElem?_append_right (by simp;omega)] at hy
            simp only[List.length_take] at hy
            rw[show min j k.es[i].length=j by omega] at hy
            rcases Nat.lt_or_ge (j'-j) cs.length with h3 | h3
            ·left
             rw[List.getElem?_append_left h3] at hy
             refine⟨by omega,?_⟩
             rw[show i*L.sz+j'-(i*L.sz+j)=j'-j by omega]
             exact hvs.get hy
            ·right
             rw[List.getElem?_append_right h3,List.getElem?_drop,show j+cs.length+(j'-j-cs.length)=j' by omega] at hy
             refine⟨by omega,?_⟩
             unfold cellOf
             rw[List.getElem?_eq_getElem hi,Option.bind_some];exact hy
          ·right
           rw[if_neg e] at hy
           have hy':cellOf k.es i' j'=some y:=hy
           obtain⟨hi2,hj2,_⟩:=yJq hy'
           have hj3:j'<L.sz:=by rw[←hbr.row i' hi2];exact hj2
           refine⟨?_,hy'⟩
           rintro⟨q1,q2⟩
           rcases Nat.lt_or_gt_of_ne e with h2 | h2
           ·have hjc:j+cs.length<=L.sz:=by omega
            have:(i+1)*L.sz<=i'*L.sz:=Nat.mul_le_mul_right _ h2
            rw[Nat.succ_mul] at this
            omega
           ·have:=xJn h2 hj3
            omega)
       refine⟨_,?_,s1,s2⟩
       have hst:=run_storeCells_cells (P:=P) L.g (L.o+(i*L.sz+j)) x'.cells.toList 0 w (fun j hj=>by simpa using (s3 j hj).1) (fun j hj=>by simpa using (s3 j hj).2) h1
       have hss:x'.cells.size=ti.size:=by have:=hul;simp at this;omega
       rw[show L.o+i*L.sz+j=L.o+(i*L.sz+j) by omega]
       simpa[Instr.storeAt,Instr.sureAddr,storeVar,sizeOf,typeInfo,hti,hss] using hst
 ·cases hs
end
end Go.Proofs.YtakljpcmbpaeaaaGreat
