/- The awp calculus, 5: slices of slices, elements, conversions, min and max, struct literals; one word for all operations that leave the store alone. -/
import Derived.Test.YtakljpcmbpaeaaaGreatMountPlaysM05
set_option linter.unusedSimpArgs false
set_option linter.unusedVariables false
namespace Go.Proofs.YtakljpcmbpaeaaaGreat
open Go.RowKit
section
variable {mu:Mu} {S:yEn} {B:Dom} {st:St} {w:World} {fr:Fr} {a:Act}
def bnd(x:Option V)(dflt y:Nat):Option Nat:=
 match x with
 | none=>some dflt
 | some (.int _ n)=>bif decide (0<=n)&&decide (n<=(y:Int)) then some n.toNat else none
 | _=>none
def VRo(mu:Mu)(S:yEn)(w:World):Option V->Option Value->Prop
 | none,none=>True
 | some x,some v=>VR mu S w x v
 | _,_=>False
theorem yMV{x:V}{v:Value}{d y n:Nat}(hx:VR mu S w x v)(h:bnd (some x) d y=some n):
  n<=y/\∀(P:Program) (code:BoundsCode) (y':Nat),y<=y'->(Instr.sliceBound v y' code).run P w= .ok n w:=by
 cases x <;> simp only[bnd,reduceCtorEq] at h
 case int k i=>
  obtain rfl:=VR.int_inv hx
  cases hb:(decide (0<=i)&&decide (i<=(y:Int))) with
  | false=>rw[hb] at h;cases h
  | true=>
    rw[hb,cond_true,Option.some.injEq] at h
    rw[Bool.and_eq_true,decide_eq_true_eq,decide_eq_true_eq] at hb
    subst h
    exact⟨by omega,fun P code y' hy=>run_sliceBound w k i y' code hb.1 (by omega)⟩
theorem yUP{d y n:Nat}(h:bnd none d y=some n):n=d:=by simp only[bnd,Option.some.injEq] at h;exact h.symm
def xPg(mx:Option V)(full:Bool)(q n m:Nat):Bool:=match mx with | none=>full&&Nat.beq q n | some _=>Nat.beq m q
def vSlice(P:Program)(t:TypeId)(st:St)(x:V)(lo hi mx:Option V):Option V:=
 match P.underlying t with
 | some .string=>match x,mx with
   | .str s,none=>(bnd hi s.size s.size).bind fun h=>(bnd lo 0 h).map fun l=> .str (s.extract l h)
   | _,_=>none
 | some (.slice e)=>(P.info? e).bind fun ie=>bif hi.isNone&&mx.isSome then none else
   match x with
   | .sl es full=>(bnd mx es.length es.length).bind fun m=>(bnd hi es.length m).bind fun h=>(bnd lo 0 h).bind fun l=>
     bif es.all fun r=>Nat.beq r.length ie.size then
      some (.sl ((es.drop l).take (h-l)) (xPg mx full h es.length m)) else none
   | .bs b i n cap=>(st.get b).bind fun k=>bif Nat.beq k.sz ie.size then
    (bnd mx cap cap).bind fun m=>(bnd hi n m).bind fun h=>(bnd lo 0 h).bind fun l=>some (.bs b (i+l) (h-l) (m-l)) else none
   | _=>none
 | _=>none
theorem yMP{P:Program}{lo hi mx:Option V}{lo' hi' mx':Option Value}{len cap cap' m h l:Nat}(isS:Bool)(hlo:VRo mu S w lo lo')(hhi:VRo mu S w hi hi')(hmx:VRo mu S w mx mx')
  (hc:cap<=cap') (hhm:hi.isNone=true->mx.isSome=true->False) (h1:bnd mx cap cap=some m) (h2:bnd hi len m=some h) (h3:bnd lo 0 h=some l):
  ∃m',(Instr.sliceBounds isS len cap' lo' hi' mx').run P w= .ok (l,h,m') w/\m<=m'/\(mx=none->m'=cap'/\m=cap)/\(mx≠none->m'=m/\m<=cap)/\(hi≠none->h<=m)/\(hi=none->h=len)/\l<=h:=by
 have hl:l<=h:=by
  cases lo with
  | none=>have:=yUP h3;omega
  | some y=>
    cases lo' with
    | none=>exact hlo.elim
    | some v=>exact(yMV hlo h3).1
 cases mx with
 | none=>
   cases mx' with
   | some v=>exact hmx.elim
   | none=>
     obtain rfl:=yUP h1
     cases hi with
     | none=>
       cases hi' with
       | some v=>exact hhi.elim
       | none=>
         obtain rfl:=yUP h2
         refine⟨cap',?_,hc,fun _=>⟨rfl,rfl⟩,fun h=>absurd rfl h,fun h=>absurd rfl h,fun _=>rfl,hl⟩
         cases lo with
         | none=>
           cases lo' with
           | some v=>exact hlo.elim
           | none=>obtain rfl:=yUP h3;simp[Instr.sliceBounds]
         | some y=>
           cases lo' with
           | none=>exact hlo.elim
           | some v=>have hb:=fun code=>(yMV hlo h3).2 P code _ (Nat.le_refl _);simp[Instr.sliceBounds,hb]
     | some y=>
       cases hi' with
       | none=>exact hhi.elim
       | some v=>
         have hq:=(yMV hhi h2).1
         have hb2:=fun code=>(yMV hhi h2).2 P code cap' hc
         refine⟨cap',?_,hc,fun _=>⟨rfl,rfl⟩,fun h=>absurd rfl h,fun _=>hq,(fun h=>by cases h),hl⟩
         cases lo with
         | none=>
           cases lo' with
           | some v=>exact hlo.elim
           | none=>obtain rfl:=yUP h3;simp[Instr.sliceBounds,hb2]
         | some y=>
           cases lo' with
           | none=>exact hlo.elim
           | some v=>have hb:=fun code=>(yMV hlo h3).2 P code _ (Nat.le_refl _);simp[Instr.sliceBounds,hb,hb2]
 | some x=>
   cases mx' with
   | none=>exact hmx.elim
   | some u=>
     have hm:=(yMV hmx h1).1
     have hb1:=fun code=>(yMV hmx h1).2 P code cap' hc
     cases hi with
     | none=>exact(hhm rfl rfl).elim
     | some y=>
       cases hi' with
       | none=>exact hhi.elim
       | some v=>
         have hq:=(yMV hhi h2).1
         have hb2:=fun code=>(yMV hhi h2).2 P code m (Nat.le_refl _)
         refine⟨m,?_,Nat.le_refl _,(fun h=>by cases h),fun _=>⟨rfl,hm⟩,fun _=>hq,(fun h=>by cases h),hl⟩
         cases lo with
         | none=>
           cases lo' with
           | some v=>exact hlo.elim
           | none=>obtain rfl:=yUP h3;simp[Instr.sliceBounds,hb1,hb2]
         | some y=>
           cases lo' with
           | none=>exact hlo.elim
           | some v=>have hb:=fun code=>(yMV hlo h3).2 P code _ (Nat.le_refl _);simp[Instr.sliceBounds,hb,hb1,hb2]
theorem xIV{P:Program}{t:TypeId}{x z:V}{lo hi mx:Option V}{x':Value}{lo' hi' mx':Option Value}(hst:SR mu S B st w)(hx:VR mu S w x x')(hlo:VRo mu S w lo lo')(hhi:VRo mu S w hi hi')(hmx:VRo mu S w mx mx')
  (h:vSlice P t st x lo hi mx=some z):∃u,(Instr.sliceAt t x' lo' hi' mx').run P w= .ok u w/\VR mu S w z u:=by
 unfold vSlice at h
 split at h
 ·rename_i hu
  split at h
  ·rename_i s
   obtain rfl:=hx.str_inv
   obtain⟨n,hn,h⟩:=Option.bind_eq_some_iff.1 h
   obtain⟨l,hl,rfl⟩:=Option.map_eq_some_iff.1 h
   cases mx' with
   | some v=>exact hmx.elim
   | none=>
     obtain⟨m',hr,_⟩:=yMP (P:=P) (mx:=none) (mx':=none) (cap:=s.size) (cap':=s.size) (m:=s.size) false hlo hhi hmx (Nat.le_refl _) (fun _ h=>by cases h) rfl hn hl
     refine⟨.string (s.extract l n),?_,.str _⟩
     rw[run_sliceAt_string w t _ _ _ _ hu]
     simp[Instr.slice,run_underlying hu,hr]
  ·cases h
 ·rename_i e hu
  obtain⟨ie,hie,h⟩:=Option.bind_eq_some_iff.1 h
  cases hnb:(hi.isNone&&mx.isSome) with
  | true=>rw[hnb] at h;cases h
  | false=>
    rw[hnb,cond_false] at h
    have hhm:hi.isNone=true->mx.isSome=true->False:=fun h1 h2=>by rw[h1,h2] at hnb;cases hnb
    have hue:P.underlying t=some (.slice (P.elem t)):=by rw[xD8 hu];exact hu
    have hrun:∀(A:Option Addr) (n c l q m:Nat),(Instr.sliceBounds true n c lo' hi' mx').run P w= .ok (l,q,m) w->(Instr.sliceAt t (.slice A n c) lo' hi' mx').run P w= .ok (sliced A l q m ie.size) w:=fun A n c l q m hb=>by
     rw[run_sliceAt_slice w t _ _ _ _ hue,run_slice_any w t A n c hue,hb,Result.andThen_ok,xD8 hu]
     simp[sizeOf,typeInfo,hie]
    cases x <;> simp only[reduceCtorEq] at h
    case sl es full _=>
     obtain⟨m,hm,h⟩:=Option.bind_eq_some_iff.1 h
     obtain⟨q,hq,h⟩:=Option.bind_eq_some_iff.1 h
     obtain⟨l,hl,h⟩:=Option.bind_eq_some_iff.1 h
     cases hall:(es.all fun r=>Nat.beq r.length ie.size) with
     | false=>rw[hall] at h;cases h
     | true=>
       rw[hall,cond_true,Option.some.injEq] at h
       subst h
       obtain⟨A,c,rfl,hc,hf⟩:=hx.sl_inv
       obtain⟨m',hr,h1,h2,h3,h4,h5,h6⟩:=yMP (P:=P) (cap':=c) true hlo hhi hmx hc hhm hm hq hl
       refine⟨_,hrun _ _ _ _ _ _ hr,?_⟩
       have hqe:q<=es.length:=by
        cases hi with
        | none=>rw[h5 rfl];exact Nat.le_refl _
        | some y=>
          have:=h4 (by simp)
          cases mx with
          | none=>have:=(h2 rfl).2;omega
          | some y=>have:=(h3 (by simp)).2;omega
       have hlen:((es.drop l).take (q-l)).length=q-l:=by simp;omega
       have hqm:q<=m':=by
        cases mx with
        | none=>have:=(h2 rfl).1;omega
        | some y=>
          obtain⟨e1,e2⟩:=h3 (by simp)
          cases hi with
          | none=>exact(hhm rfl rfl).elim
          | some y=>have:=h4 (by simp);omega
       have hfull:xPg mx full q es.length m=true->m'-l=q-l:=by
        intro hfl
        unfold xPg at hfl
        cases mx with
        | none=>
          simp only[Bool.and_eq_true] at hfl
          have h7:=hf hfl.1
          have h8:=Nat.eq_of_beq_eq_true hfl.2
          have:=(h2 rfl).1
          omega
        | some y=>
          have h8:=Nat.eq_of_beq_eq_true hfl
          have:=(h3 (by simp)).1
          omega
       by_cases h0:q-l=0
       ·have hnil:(es.drop l).take (q-l)= []:=by rw[h0];simp
        rw[hnil]
        unfold sliced
        rw[h0]
        exact .sl0 _ _ _ (fun hfl=>by rw[hfull hfl,h0])
       ·cases hx with
        | sl0=>simp at hqe;omega
        | sl1 _ _ g o _ sz vals hne _ _ hrow hS hcell hone hv=>
          have hsz:ie.size=sz:=by
           have h9:=hrow 0 hne
           have h10:=List.all_eq_true.1 hall es[0] (List.getElem_mem _)
           rw[←h9];exact(Nat.eq_of_beq_eq_true h10).symm
          have hsl:sliced (some ⟨g,o,none⟩) l q m' ie.size= .slice (some ⟨g,o+l*sz,none⟩) ((es.drop l).take (q-l)).length (m'-l):=by
           unfold sliced
           rw[if_neg (by omega),hlen,hsz]
           simp only[Option.map_some,Addr.add_mid]
          rw[hsl]
          have hadr:∀i j,o+l*sz+i*sz+j=o+(l+i)*sz+j:=fun i j=>by rw[Nat.add_mul];omega
          refine .sl1 _ _ _ _ _ sz (fun i j=>vals (l+i) j) (by omega) (by omega) (fun hfl=>by rw[hlen];exact hfull hfl) (fun i hi=>?_) (fun i j hi hj=>?_) (fun i j hi hj=>?_) (fun i j hi hj=>?_) (fun i hi j hj=>?_)
          ·rw[List.getElem_take,List.getElem_drop];exact hrow _ _
          ·rw[hadr];exact hS _ _ (by omega) hj
          ·rw[hadr];exact hcell _ _ (by omega) hj
          ·exact hone _ _ (by omega) hj
          ·have hi2:l+i<es.length:=by omega
           have hj2:j<es[l+i].length:=by simpa[List.getElem_take,List.getElem_drop] using hj
           have:=hv (l+i) hi2 j hj2
           simpa[List.getElem_take,List.getElem_drop] using this
    case bs b i n cap _=>
     obtain⟨k,hk,h⟩:=Option.bind_eq_some_iff.1 h
     cases hsz:Nat.beq k.sz ie.size with
     | false=>rw[hsz] at h;cases h
     | true=>
       rw[hsz,cond_true] at h
       obtain⟨m,hm,h⟩:=Option.bind_eq_some_iff.1 h
       obtain⟨q,hq,h⟩:=Option.bind_eq_some_iff.1 h
       obtain⟨l,hl,h⟩:=Option.bind_eq_some_iff.1 h
       injection h with h
       subst h
       obtain⟨L,A,c,hL,rfl,hn,hc,hA⟩:=hx.bs_inv
       have hrg:=hx.bs_reg hL
       obtain⟨L',hL',hbr,_⟩:=hst.loc b k hk
       rw[hL] at hL';injection hL' with hL';subst hL'
       obtain⟨m',hr,h1,h2,h3,h4,h5,h6⟩:=yMP (P:=P) (cap':=c) true hlo hhi hmx hc hhm hm hq hl
       refine⟨_,hrun _ _ _ _ _ _ hr,?_⟩
       have hqm:q<=m:=by
        cases hi with
        | none=>
          cases mx with
          | none=>have:=(h2 rfl).2;have:=h5 rfl;omega
          | some y=>exact(hhm rfl rfl).elim
        | some y=>exact h4 (by simp)
       have hmc:m'<=c:=by
        cases mx with
        | none=>exact Nat.le_of_eq (h2 rfl).1
        | some y=>have:=h3 (by simp);omega
       have hse:ie.size=L.sz:=by rw[←hbr.sz];exact(Nat.eq_of_beq_eq_true hsz).symm
       unfold sliced
       refine .bs _ _ _ _ L _ _ hL (by omega) (by omega) ?_ hrg
       by_cases hml:m'=l
       ·left;omega
       ·right
        rw[if_neg hml]
        rcases hA with h0 | ⟨rfl,hlim⟩
        ·omega
        ·refine⟨?_,by omega⟩
         simp only[Option.map_some,Addr.add_mid,hse]
         rw[show L.o+i*L.sz+l*L.sz=L.o+(i+l)*L.sz by rw[Nat.add_mul];omega]
 ·cases h
end
end Go.Proofs.YtakljpcmbpaeaaaGreat
