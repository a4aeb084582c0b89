/- The awp calculus, 4: addresses, slices, lengths, conversions, literals. -/
import Derived.Test.YtakljpcmbpaeaaaGreatMountPlaysM04
set_option linter.unusedSimpArgs false
set_option linter.unusedVariables false
namespace Go.Proofs.YtakljpcmbpaeaaaGreat
open Go.RowKit
section
variable {mu:Mu} {S:yEn} {B:Dom} {st:St} {w:World} {fr:Fr} {a:Act}
def vFieldAddr(P:Program)(s:TypeId)(f:Nat)(x:V):Option V:=
 match P.underlying s with
 | some (.struct fs)=>(fs[f]?).bind fun g=>(P.info? g.type).bind fun i=>bif Nat.beq i.size 0 then none else
   match x with
   | .ptr b i j=>some (.ptr b i (j+g.offset))
   | .tp cs=>some (.tp (cs.drop g.offset))
   | _=>none
 | _=>none
theorem VR.tp_drop{cs:List V}{g o n:Nat}(h:VR mu S w (.tp cs) (.pointer (some ⟨g,o,none⟩))):VR mu S w (.tp (cs.drop n)) (.pointer (some ⟨g,o+n,none⟩)):=by
 cases h with
 | tp _ _ _ vals hS hc h1 hv=>
   refine .tp _ _ _ (fun j=>vals (n+j)) (fun j hj=>?_) (fun j hj=>?_) (fun j hj=>?_) (fun j hj=>?_)
   ·rw[Nat.add_assoc];exact hS _ (by simp at hj;omega)
   ·rw[Nat.add_assoc];exact hc _ (by simp at hj;omega)
   ·exact h1 _ (by simp at hj;omega)
   ·rw[List.getElem_drop];exact hv _ _
theorem VR.ptr_add{b i j n:Nat}{A:Addr}(h:VR mu S w (.ptr b i j) (.pointer (some A))):VR mu S w (.ptr b i (j+n)) (.pointer (some (A.add n))):=by
 cases h with
 | ptr _ _ _ L hL hm=>
   rw[Addr.add_mid,Nat.add_assoc]
   exact .ptr b i (j+n) L hL hm
theorem VR.ptr_inv{b i j:Nat}{v:Value}(h:VR mu S w (.ptr b i j) v):∃L,mu b=some L/\v= .pointer (some ⟨L.g,L.o+i*L.sz+j,none⟩):=by
 cases h with
 | ptr _ _ _ L hL=>exact⟨L,hL,rfl⟩
theorem VR.ptr_reg{b i j:Nat}{v:Value}{L:Loc}(h:VR mu S w (.ptr b i j) v)(hL:mu b=some L):L.mp=false:=by
 cases h with
 | ptr _ _ _ L' hL' hm=>rw[hL] at hL';injection hL' with hL';subst hL';exact hm
theorem VR.tp_inv{cs:List V}{v:Value}(h:VR mu S w (.tp cs) v):∃g o,v= .pointer (some ⟨g,o,none⟩):=by
 cases h with
 | tp _ g o=>exact⟨g,o,rfl⟩
theorem yZx{P:Program}{s:TypeId}{f:Nat}{x z:V}{x':Value}(hx:VR mu S w x x')(h:vFieldAddr P s f x=some z):∃u,(Instr.fieldAt s x' f).run P w= .ok u w/\VR mu S w z u:=by
 unfold vFieldAddr at h
 split at h
 ·rename_i fs hu
  obtain⟨g,hg,h⟩:=Option.bind_eq_some_iff.1 h
  obtain⟨i,hi,h⟩:=Option.bind_eq_some_iff.1 h
  cases hb:Nat.beq i.size 0 with
  | true=>rw[hb] at h;cases h
  | false=>
    rw[hb] at h
    have hne:¬i.size=0:=fun h0=>by rw[h0] at hb;cases hb
    have hrun:∀A:Addr,(Instr.fieldAt s (.pointer (some A)) f).run P w= .ok (.pointer (some (A.add g.offset))) w:=fun A=>by
     simp[Instr.fieldAt,run_underlying hu,hg,Instr.sureAddr,fieldPlace,sizeOf,typeInfo,hi,hne]
    cases x <;> simp only[cond_false,Option.some.injEq,reduceCtorEq] at h
    case ptr b i' j=>
     subst h
     obtain⟨L,hL,rfl⟩:=hx.ptr_inv
     exact⟨_,hrun _,hx.ptr_add⟩
    case tp cs=>
     subst h
     obtain⟨g',o,rfl⟩:=hx.tp_inv
     refine⟨_,hrun _,?_⟩
     rw[Addr.add_mid]
     exact hx.tp_drop
 ·cases h
def vIndexAddr(P:Program)(t:TypeId)(st:St)(x ix:V):Option V:=
 match ix with
 | .int _ n=>bif decide (n<0) then none else
   match P.underlying t with
   | some (.slice e)=>(P.info? e).bind fun ie=>
     match x with
     | .sl es _=>(es[n.toNat]?).bind fun row=>bif Nat.beq row.length ie.size then some (.tp row) else none
     | .bs b i m _=>(st.get b).bind fun k=>bif Nat.beq k.sz ie.size&&decide (n.toNat<m) then some (.ptr b (i+n.toNat) 0) else none
     | _=>none
   | some (.array len e)=>(P.info? e).bind fun ie=>bif decide (n.toNat<len) then
     (match x with
     | .ptr b i j=>some (.ptr b i (j+n.toNat*ie.size))
     | .tp cs=>some (.tp (cs.drop (n.toNat*ie.size)))
     | _=>none) else none
   | _=>none
 | _=>none
theorem VR.sl_inv{es:List (List V)}{full:Bool}{v:Value}(h:VR mu S w (.sl es full) v):∃A c,v= .slice A es.length c/\es.length<=c/\(full=true->c=es.length):=by
 cases h with
 | sl0 _ A c hf=>exact⟨A,c,rfl,by simp,by simpa using hf⟩
 | sl1 _ _ g o c sz vals hne hc hf=>exact⟨_,c,rfl,hc,hf⟩
theorem VR.sl_at{es:List (List V)}{full:Bool}{A:Option Addr}{n c:Nat}(h:VR mu S w (.sl es full) (.slice A n c)){i:Nat}{row:List V}(hr:es[i]?=some row):
  ∃ad,A=some ad/\VR mu S w (.tp row) (.pointer (some (ad.add (i*row.length)))):=by
 obtain⟨hi,rfl⟩:=List.getElem?_eq_some_iff.1 hr
 cases h with
 | sl0=>simp at hi
 | sl1 _ _ g o c sz vals hne hc hf hlen hS hcell hone hv=>
   refine⟨_,rfl,?_⟩
   rw[Addr.add_mid]
   have hz:=hlen i hi
   rw[hz]
   exact .tp _ _ _ (fun j=>vals i j) (fun j hj=>hS i j hi (hz▸hj)) (fun j hj=>hcell i j hi (hz▸hj)) (fun j hj=>hone i j hi (hz▸hj)) (fun j hj=>hv i hi j hj)
theorem VR.bs_inv{b i n cap:Nat}{v:Value}(h:VR mu S w (.bs b i n cap) v):∃L A c,mu b=some L/\v= .slice A n c/\n<=cap/\cap<=c/\(c=0\/(A=some ⟨L.g,L.o+i*L.sz,none⟩/\i+c<=L.lim)):=by
 cases h with
 | bs _ _ _ _ L A c hL hn hc hA=>exact⟨L,A,c,hL,rfl,hn,hc,hA⟩
theorem VR.bs_reg{b i n cap:Nat}{v:Value}{L:Loc}(h:VR mu S w (.bs b i n cap) v)(hL:mu b=some L):L.mp=false:=by
 cases h with
 | bs _ _ _ _ L' A c hL' hn hc hA hm=>rw[hL] at hL';injection hL' with hL';subst hL';exact hm
theorem xD8{P:Program}{t e:TypeId}(h:P.underlying t=some (.slice e)):P.elem t=e:=by unfold Program.elem;rw[h]
theorem yU8{P:Program}{t e:TypeId}{ie:TypeInfo}(hu:P.underlying t=some (.slice e))(hi:P.info? e=some ie)(w:World)(ad:Addr)(n c:Nat)(k:IntKind)(i:Int)(h0:0<=i)(h1:i.toNat<n):
  (Instr.indexAt t (.slice (some ad) n c) (.int k i)).run P w= .ok (.pointer (some (ad.add (i.toNat*ie.size)))) w:=by
 rw[run_indexAt_slice w t ad n c k i (by rw[xD8 hu];exact hu),if_pos ⟨h0,by omega⟩,xD8 hu]
 simp[sizeOf,typeInfo,hi]
theorem yZy{P:Program}{t:TypeId}{x ix z:V}{x' ix':Value}(hst:SR mu S B st w)(hx:VR mu S w x x')(hix:VR mu S w ix ix')(h:vIndexAddr P t st x ix=some z):
  ∃u,(Instr.indexAt t x' ix').run P w= .ok u w/\VR mu S w z u:=by
 cases ix <;> simp only[vIndexAddr,reduceCtorEq] at h
 case int kd n=>
  obtain rfl:=hix.int_inv
  cases hn:decide (n<0) with
  | true=>rw[hn] at h;cases h
  | false=>
    rw[hn,cond_false] at h
    have hn0:0<=n:=by have:=of_decide_eq_false hn;omega
    split at h
    ·rename_i e hu
     obtain⟨ie,hi,h⟩:=Option.bind_eq_some_iff.1 h
     cases x <;> simp only[reduceCtorEq] at h
     case sl es full _=>
      obtain⟨row,hr,h⟩:=Option.bind_eq_some_iff.1 h
      cases hb:Nat.beq row.length ie.size with
      | false=>rw[hb] at h;cases h
      | true=>
        rw[hb,cond_true,Option.some.injEq] at h
        subst h
        obtain⟨A,c,rfl,_,_⟩:=hx.sl_inv
        obtain⟨ad,rfl,hv⟩:=hx.sl_at hr
        have hlt:n.toNat<es.length:=(List.getElem?_eq_some_iff.1 hr).1
        have he:row.length=ie.size:=Nat.eq_of_beq_eq_true hb
        refine⟨_,yU8 hu hi w ad _ c kd n hn0 hlt,?_⟩
        rw[←he];exact hv
     case bs b i m cap _=>
      obtain⟨k,hk,h⟩:=Option.bind_eq_some_iff.1 h
      cases hb:(Nat.beq k.sz ie.size&&decide (n.toNat<m)) with
      | false=>rw[hb] at h;cases h
      | true=>
        rw[hb,cond_true,Option.some.injEq] at h
        subst h
        rw[Bool.and_eq_true,decide_eq_true_eq] at hb
        obtain⟨L,A,c,hL,rfl,h1,h2,hA⟩:=hx.bs_inv
        have hm:=hx.bs_reg hL
        obtain⟨L',hL',hbr,_⟩:=hst.loc b k hk
        rw[hL] at hL';injection hL' with hL';subst hL'
        rcases hA with h0 | ⟨rfl,h3⟩
        ·omega
        ·have hsz:ie.size=L.sz:=by rw[←hbr.sz];exact(Nat.eq_of_beq_eq_true hb.1).symm
         refine⟨_,yU8 hu hi w _ _ c kd n hn0 hb.2,?_⟩
         rw[Addr.add_mid,hsz,show L.o+i*L.sz+n.toNat*L.sz=L.o+(i+n.toNat)*L.sz+0 by rw[Nat.add_mul];omega]
         exact .ptr _ _ _ L hL hm
    ·rename_i len e hu
     obtain⟨ie,hi,h⟩:=Option.bind_eq_some_iff.1 h
     cases hl:decide (n.toNat<len) with
     | false=>rw[hl] at h;cases h
     | true=>
       rw[hl,cond_true] at h
       have hlt:=of_decide_eq_true hl
       have ha:P.arrayLen t=len:=by unfold Program.arrayLen;rw[hu]
       have hel:P.elem t=e:=by unfold Program.elem;rw[hu]
       have hrun:∀A:Addr,(Instr.indexAt t (.pointer (some A)) (.int kd n)).run P w= .ok (.pointer (some (A.add (n.toNat*ie.size)))) w:=fun A=>by
        rw[run_indexAt_array w t A kd n (by rw[ha,hel];exact hu),if_pos ⟨hn0,by omega⟩,hel]
        simp[sizeOf,typeInfo,hi]
       cases x <;> simp only[Option.some.injEq,reduceCtorEq] at h
       case ptr b i' j _=>
        subst h
        obtain⟨L,hL,rfl⟩:=hx.ptr_inv
        exact⟨_,hrun _,hx.ptr_add⟩
       case tp cs _=>
        subst h
        obtain⟨g',o,rfl⟩:=hx.tp_inv
        refine⟨_,hrun _,?_⟩
        rw[Addr.add_mid]
        exact hx.tp_drop
    ·cases h
def vIndex(P:Program)(t:TypeId)(x ix:V):Option V:=
 match ix with
 | .int _ n=>bif decide (n<0) then none else
   match x with
   | .str s=>match P.underlying t with
     | some .string=>(s[n.toNat]?).map fun b=> .int .u8 b.toNat
     | _=>none
   | .agg cs=>match P.underlying t with
     | some (.array len e)=>(P.info? e).bind fun ie=>bif decide (n.toNat<len) then partOf P e cs (n.toNat*ie.size) else none
     | _=>none
   | _=>none
 | _=>none
theorem xIU{P:Program}{t:TypeId}{x ix z:V}{x' ix':Value}(hx:VR mu S w x x')(hix:VR mu S w ix ix')(h:vIndex P t x ix=some z):
  ∃u,(Instr.index t x' ix').run P w= .ok u w/\VR mu S w z u:=by
 cases ix <;> simp only[vIndex,reduceCtorEq] at h
 case int kd n=>
  obtain rfl:=hix.int_inv
  cases hn:decide (n<0) with
  | true=>rw[hn] at h;cases h
  | false=>
    rw[hn,cond_false] at h
    have hn0:0<=n:=by have:=of_decide_eq_false hn;omega
    cases x <;> simp only[reduceCtorEq] at h
    case str s=>
     obtain rfl:=hx.str_inv
     split at h
     ·rename_i hu
      obtain⟨b,hb,rfl⟩:=Option.map_eq_some_iff.1 h
      refine⟨_,?_,.int _ _⟩
      simp[Instr.index,asIntOf,run_underlying hu,hn0,hb]
     ·cases h
    case agg cs=>
     obtain⟨vs,rfl,hr,h1⟩:=hx.agg_inv
     split at h
     ·rename_i len e hu
      obtain⟨ie,hi,h⟩:=Option.bind_eq_some_iff.1 h
      cases hl:decide (n.toNat<len) with
      | false=>rw[hl] at h;cases h
      | true=>
        rw[hl,cond_true] at h
        have hlt:=of_decide_eq_true hl
        obtain⟨u,hu',hur⟩:=yYk (P:=P) hr h1 h
        refine⟨u,?_,hur⟩
        have hlt':n<(len:Int):=by omega
        simp[Instr.index,asIntOf,run_underlying hu,hn0,hlt',sizeOf,typeInfo,hi,hu']
     ·cases h
def vLen(P:Program)(t:TypeId)(x:V):Option V:=
 match x with
 | .str s=>match P.underlying t with | some .string=>some (.int .i64 s.size) | _=>none
 | .sl es _=>match P.underlying t with | some (.slice _)=>some (.int .i64 es.length) | _=>none
 | .bs _ _ n _=>match P.underlying t with | some (.slice _)=>some (.int .i64 n) | _=>none
 | .agg _=>match P.underlying t with | some (.array n _)=>some (.int .i64 n) | _=>none
 | _=>none
theorem xMG{P:Program}{t ty:TypeId}{x z:V}{x':Value}(hx:VR mu S w x x')(h:vLen P t x=some z):∃u,(Builtin.len_ #[t] ty #[x']).run P w= .ok u w/\VR mu S w z u:=by
 cases x <;> simp only[vLen,reduceCtorEq] at h
 case str s=>
  obtain rfl:=hx.str_inv
  split at h
  ·rename_i hu
   injection h with h;subst h
   exact⟨_,by simp[Builtin.len_,run_underlying hu,goInt],.int _ _⟩
  ·cases h
 case sl es full=>
  obtain⟨A,c,rfl,_,_⟩:=hx.sl_inv
  split at h
  ·rename_i hu
   injection h with h;subst h
   exact⟨_,by simp[Builtin.len_,run_underlying hu,goInt],.int _ _⟩
  ·cases h
 case bs b i n cap=>
  obtain⟨L,A,c,_,rfl,_⟩:=hx.bs_inv
  split at h
  ·rename_i hu
   injection h with h;subst h
   exact⟨_,by simp[Builtin.len_,run_underlying hu,goInt],.int _ _⟩
  ·cases h
 case agg cs=>
  obtain⟨vs,rfl,_⟩:=hx.agg_inv
  split at h
  ·rename_i hu
   injection h with h;subst h
   exact⟨_,by simp[Builtin.len_,run_underlying hu,goInt],.int _ _⟩
  ·cases h
def vCap(P:Program)(t:TypeId)(x:V):Option V:=
 match P.underlying t,x with
 | some (.slice _),.sl es true=>some (.int .i64 (es.length:Int))
 | _,_=>none
theorem xME{P:Program}{t ty:TypeId}{x z:V}{x':Value}(hx:VR mu S w x x')(h:vCap P t x=some z):∃u,(Builtin.cap_ #[t] ty #[x']).run P w= .ok u w/\VR mu S w z u:=by
 unfold vCap at h
 split at h
 ·rename_i e es hu
  injection h with h;subst h
  obtain⟨A,c,rfl,_,hf⟩:=hx.sl_inv
  have hf:=hf rfl
  subst hf
  exact⟨_,by simp[Builtin.cap_,run_underlying hu,goInt],.int _ _⟩
 ·cases h
end
end Go.Proofs.YtakljpcmbpaeaaaGreat
