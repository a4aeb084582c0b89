/- The symbolic evaluator, 1b: operations that ask for something, with what they ask for. -/
import Derived.Test.YtakljpcmbpaeaaaGreatMountPlaysM25
set_option linter.unusedSimpArgs false
set_option linter.unusedVariables false
namespace Go.Proofs.YtakljpcmbpaeaaaGreat
set_option maxHeartbeats 1000000
open Go.RowKit
inductive Kc where
 | i (k:IntKind)
 | s
 | b
 | l
 | m
 | r
def cell(es:List (List V))(i j:Nat):V:=(es.getD i []).getD j .undef
def asI:V->Int
 | .int _ n=>n
 | _=>0
def asS:V->ByteArray
 | .str s=>s
 | _=>⟨#[]⟩
def asB:V->Bool
 | .bool b=>b
 | _=>false
def asR:V->List (List V)
 | .sl es _=>es
 | _=> []
def asF:V->Bool
 | .sl _ f=>f
 | _=>false
def etaC:Kc->V->V
 | .i k,x=> .int k (asI x)
 | .s,x=> .str (asS x)
 | .b,x=> .bool (asB x)
 | .l,x=> .sl (asR x) (asF x)
 | .m,x=> .sl (asR x) false
 | .r,x=>x
def isC:Kc->V->Bool
 | .i k,x=>match x with | .int k' _=>decide (k=k') | _=>false
 | .s,x=>match x with | .str _=>true | _=>false
 | .b,x=>match x with | .bool _=>true | _=>false
 | .l,x=>match x with | .sl _ _=>true | _=>false
 | .m,x=>match x with | .sl _ f=> !f | _=>false
 | .r,_=>true
theorem xMp{k:Kc}{x:V}(h:isC k x=true):etaC k x=x:=by
 cases k with
 | i k=>cases x <;> first | (simp[isC] at h;done) | (simp only[isC,decide_eq_true_eq] at h;subst h;rfl)
 | s=>cases x <;> first | (simp[isC] at h;done) | rfl
 | b=>cases x <;> first | (simp[isC] at h;done) | rfl
 | l=>cases x <;> first | (simp[isC] at h;done) | rfl
 | m=>cases x <;> first | (simp[isC] at h;done) | (simp only[isC,Bool.not_eq_true'] at h;subst h;rfl)
 | r=>rfl
def etaSeg:List Kc->List (List V)->Nat->Nat->List V
 | [],_,_,_=> []
 | k::ks,es,i,j=>etaC k (cell es i j)::etaSeg ks es i (j+1)
def yW9:List Kc->List (List V)->Nat->Nat->Bool
 | [],es,i,j=>Nat.ble j (es.getD i []).length
 | k::ks,es,i,j=>isC k (cell es i j)&&yW9 ks es i (j+1)
def rowIs(ks:List Kc)(es:List (List V))(i:Nat):Bool:=yW9 ks es i 0&&Nat.beq (es.getD i []).length ks.length
theorem yBE{a b:Bool}(h:(a&&b)=true):a=true/\b=true:=by cases a <;> cases b <;> simp_all
theorem xFg:∀(ks:List Kc) (es:List (List V)) (i j:Nat),yW9 ks es i j=true->j+ks.length<=(es.getD i []).length/\((es.getD i []).drop j).take ks.length=etaSeg ks es i j
 | [],es,i,j,h=>⟨Nat.le_of_ble_eq_true h,rfl⟩
 | k::ks,es,i,j,h=>by
   obtain⟨h1,h2⟩:=yBE h
   obtain⟨h3,h4⟩:=xFg ks es i (j+1) h2
   refine⟨by simp only[List.length_cons];omega,?_⟩
   unfold etaSeg
   rw[←h4,xMp h1]
   have hj:j<(es.getD i []).length:=by omega
   rw[List.length_cons,List.drop_eq_getElem_cons hj,List.take_succ_cons]
   congr 1
   unfold cell
   generalize es.getD i []=row at hj
   rw[List.getD_eq_getElem?_getD,List.getElem?_eq_getElem hj];rfl
theorem xFY{ks:List Kc}{es:List (List V)}{i:Nat}(h:rowIs ks es i=true)(hi:i<es.length):es[i]?=some (etaSeg ks es i 0)/\(etaSeg ks es i 0).length=ks.length:=by
 obtain⟨h1,h2⟩:=yBE h
 obtain⟨h3,h4⟩:=xFg ks es i 0 h1
 have hl:=Nat.eq_of_beq_eq_true h2
 have hg:es.getD i []=es[i]:=by rw[List.getD_eq_getElem?_getD,List.getElem?_eq_getElem hi];rfl
 have:etaSeg ks es i 0=es[i]:=by
  rw[←h4,List.drop_zero,←hl,List.take_length,hg]
 rw[this,List.getElem?_eq_getElem hi]
 exact⟨rfl,by rw[←hg,hl]⟩
def kOf(sl:Bool):Value->Kc
 | .int k _=> .i k
 | .string _=> .s
 | .bool _=> .b
 | .slice _ _ _=>bif sl then .l else .r
 | _=> .r
def kinds(sl:Bool)(P:Program)(t:TypeId):Option (List Kc):=match P.info? t with
 | some i=>match i.zero with
   | some z=>some (z.cells.toList.map (kOf sl))
   | none=>none
 | none=>none
def xTe:List Nat:= [59,110,67]
def xTd(P:Program)(t:TypeId):Bool:=xTe.any fun x=>Nat.beq x t
section
variable {α β:Type}
def yXO:List Bool->Option α->Option α->Option α
 | [],x,_=>x
 | c::l,x,e=>bif c then yXO l x e else e
def xP8:List (List Bool×β)->(β->Option α)->Option α
 | [],_=>none
 | p::r,K=>yXO p.1 (K p.2) (xP8 r K)
theorem yXP:∀(l:List Bool),((∀c∈l,c=true)/\∀{α:Type} (x e:Option α),yXO l x e=x)\/((∃c∈l,c=false)/\∀{α:Type} (x e:Option α),yXO l x e=e)
 | []=> .inl ⟨by simp,fun x e=>rfl⟩
 | c::l=>by
   cases c with
   | false=>exact .inr ⟨⟨false,by simp,rfl⟩,fun x e=>rfl⟩
   | true=>
     rcases yXP l with ⟨h1,h2⟩ | ⟨⟨c,hc,e⟩,h2⟩
     ·refine .inl ⟨fun c hc=>?_,fun x e=>h2 x e⟩
      rcases List.mem_cons.1 hc with rfl | hc
      ·rfl
      ·exact h1 c hc
     ·exact .inr ⟨⟨c,List.mem_cons_of_mem _ hc,e⟩,fun x e=>h2 x e⟩
theorem yS6:∀(l:List (List Bool×β)) (K:β->Option α) (r:α),xP8 l K=some r->∃p∈l,(∀c∈p.1,c=true)/\K p.2=some r/\∀{γ:Type} (K':β->Option γ),xP8 l K'=K' p.2
 | [],K,r,h=>by cases h
 | p::l,K,r,h=>by
   have h:yXO p.1 (K p.2) (xP8 l K)=some r:=h
   rcases yXP p.1 with ⟨h1,h2⟩ | ⟨_,h2⟩
   ·rw[h2] at h
    exact⟨p,by simp,h1,h,fun K'=>h2 _ _⟩
   ·rw[h2] at h
    obtain⟨q,hq,k1,k2,k3⟩:=yS6 l K r h
    exact⟨q,List.mem_cons_of_mem _ hq,k1,k2,fun K'=>(h2 _ _).trans (k3 K')⟩
end
def yTO(n:Int):Nat->List V->List (List Bool×V)
 | _,[]=> []
 | j,x::l=>([decide (n=(j:Int))],x)::yTO n (j+1) l
def bndC(x:Option V)(dflt y:Nat):Option (List Bool×Nat):=match x with
 | none=>some ([],dflt)
 | some (.int _ n)=>some ([decide (0<=n),decide (n<=(y:Int))],n.toNat)
 | _=>none
def arrPs(mk:Nat->V):Nat->Nat->List V
 | 0,_=> []
 | k+1,m=>mk m::arrPs mk k (m+1)
theorem xDq{mk:Nat->V}{y:V}:∀(k s m:Nat),(arrPs mk k s)[m]?=some y->m<k/\y=mk (s+m)
 | 0,s,m,h=>by simp[arrPs] at h
 | k+1,s,0,h=>by
   simp only[arrPs,List.getElem?_cons_zero,Option.some.injEq] at h
   exact⟨Nat.succ_pos _,h.symm⟩
 | k+1,s,m+1,h=>by
   simp only[arrPs,List.getElem?_cons_succ] at h
   obtain⟨h1,h2⟩:=xDq k (s+1) m h
   exact⟨by omega,by rw[h2,show s+1+m=s+(m+1) by omega]⟩
def cvops(P:Program)(op:Op)(fr:Fr)(st:St):Option (List (List Bool×V)):=
 match op with
 | .pick c x y=>match ev fr c with
   | .bool b=>some [([b],ev fr x),([!b],ev fr y)]
   | _=>none
 | .binOp o t x y _=>match o with
   | .rem=>match ev fr x,ev fr y with
     | .int k a,.int k' b=>some [([decide (k=k'),!decide (b=0)],.int k (a.tmod b))]
     | _,_=>none
   | .quo=>match ev fr x,ev fr y with
     | .int k a,.int k' b=>some [([decide (k=k'),!decide (b=0)],.int k (k.wrap (a.tdiv b)))]
     | _,_=>none
   | .add=>match ev fr x,ev fr y with
     | .str a,.str b=>some [([decide (a.size+b.size<=9223372036854775807)],.str (a++b))]
     | _,_=>none
   | .shl=>match ev fr x,ev fr y with
     | .int k a,.int _ b=>some [([!decide (b<0)],.int k (k.wrap (a*2^(min b.toNat k.bits))))]
     | _,_=>none
   | .shr=>match ev fr x,ev fr y with
     | .int k a,.int _ b=>some [([!decide (b<0)],.int k (a.fdiv (2^(min b.toNat k.bits))))]
     | _,_=>none
   | _=>none
 | .indexAddr t x ix=>match P.underlying t with
   | some (.slice e)=>match P.info? e,kinds true P e,ev fr ix with
     | some ie,some ks,.int _ n=>match ev fr x with
       | .sl es _=>some [([Nat.beq ks.length ie.size,decide (0<=n),decide (n<(es.length:Int)),rowIs ks es n.toNat],.tp (etaSeg ks es n.toNat 0))]
       | .bs b i m _=>match st.get b with
         | some k=>some [([Nat.beq k.sz ie.size,decide (0<=n),decide (n<(m:Int))],.ptr b (i+n.toNat) 0)]
         | none=>none
       | _=>none
     | _,_,_=>none
   | some (.array len e)=>match P.info? e,ev fr ix with
     | some ie,.int _ n=>match ev fr x with
       | .ptr b i j=>some (yTO n 0 (arrPs (fun m=> .ptr b i (j+m*ie.size)) len 0))
       | .tp cs=>some (yTO n 0 (arrPs (fun m=> .tp (cs.drop (m*ie.size))) len 0))
       | _=>none
     | _,_=>none
   | _=>none
 | .load t x=>match ev fr x with
   | .ptr b i j=>match P.underlying t,P.info? t,kinds (xTd P t) P t,st.get b with
     | some d,some ie,some ks,some k=>match d.isRow with
       | true=>some [([Nat.beq ks.length ie.size,decide (i<k.es.length),yW9 ks k.es i j],.agg (etaSeg ks k.es i j))]
       | false=>match ks with
         | [q]=>some [([decide (i<k.es.length),yW9 [q] k.es i j],etaC q (cell k.es i j))]
         | _=>none
     | _,_,_,_=>none
   | _=>none
 | .index t x ix=>match P.underlying t with
   | some .string=>match ev fr x,ev fr ix with
     | .str s,.int _ n=>some [([decide (0<=n),decide (n<(s.size:Int))],.int .u8 (((s[n.toNat]?).getD 0).toNat:Int))]
     | _,_=>none
   | some (.array len e)=>match P.info? e,kinds false P e,ev fr x,ev fr ix with
     | some ie,some [q],.agg cs,.int _ n=>match P.underlying e with
       | some (.struct _)=>none
       | some (.array _ _)=>none
       | some _=>bif Nat.beq ie.size 1&&Nat.beq cs.length len then some (yTO n 0 cs) else none
       | none=>none
     | some ie,some (_::_::_),.agg cs,.int _ n=>match P.underlying e with
       | some (.struct _)=>bif Nat.beq (len*ie.size) cs.length then some (yTO n 0 (arrPs (fun m=> .agg ((cs.drop (m*ie.size)).take ie.size)) len 0)) else none
       | _=>none
     | _,_,_,_=>none
   | _=>none
 | .slice t x lo hi mx=>match mx with
   | none=>match P.underlying t with
     | some .string=>match ev fr x with
       | .str s=>match bndC (hi.map (ev fr)) s.size s.size with
         | some (c1,h)=>match bndC (lo.map (ev fr)) 0 h with
           | some (c2,l)=>some [(c1++c2,.str (s.extract l h))]
           | none=>none
         | none=>none
       | _=>none
     | some (.slice e)=>match P.info? e with
       | some ie=>match ev fr x with
         | .sl es full=>match bndC (hi.map (ev fr)) es.length es.length with
           | some (c1,h)=>match bndC (lo.map (ev fr)) 0 h with
             | some (c2,l)=>some [(c1++(c2++ [es.all fun r=>Nat.beq r.length ie.size]),.sl ((es.drop l).take (h-l)) (xPg none full h es.length es.length))]
             | none=>none
           | none=>none
         | .bs b i n cap=>match st.get b with
           | some k=>match bndC (hi.map (ev fr)) n cap with
             | some (c1,h)=>match bndC (lo.map (ev fr)) 0 h with
               | some (c2,l)=>some [(c1++(c2++ [Nat.beq k.sz ie.size]),.bs b (i+l) (h-l) (cap-l))]
               | none=>none
             | none=>none
           | none=>none
         | _=>none
       | none=>none
     | _=>none
   | some mx=>match hi with
     | none=>none
     | some hi=>match P.underlying t with
       | some (.slice e)=>match P.info? e with
         | some ie=>match ev fr x with
           | .sl es full=>match bndC (some (ev fr mx)) es.length es.length with
             | some (c0,m)=>match bndC (some (ev fr hi)) es.length m with
               | some (c1,h)=>match bndC (lo.map (ev fr)) 0 h with
                 | some (c2,l)=>some [(c0++(c1++(c2++ [es.all fun r=>Nat.beq r.length ie.size])),.sl ((es.drop l).take (h-l)) (Nat.beq m h))]
                 | none=>none
               | none=>none
             | none=>none
           | .bs b i n cap=>match st.get b with
             | some k=>match bndC (some (ev fr mx)) cap cap with
               | some (c0,m)=>match bndC (some (ev fr hi)) n m with
                 | some (c1,h)=>match bndC (lo.map (ev fr)) 0 h with
                   | some (c2,l)=>some [(c0++(c1++(c2++ [Nat.beq k.sz ie.size])),.bs b (i+l) (h-l) (m-l))]
                   | none=>none
                 | none=>none
               | none=>none
             | none=>none
           | _=>none
         | none=>none
       | _=>none
 | .convert s d x=>match P.underlying d with
   | some .string=>match P.underlying s with
     | some (.slice e)=>match P.underlying e with
       | some (.int .u8)=>match ev fr x with
         | .sl es _=>some [([(bytesOf es).isSome],.str ⟨(((bytesOf es).getD []).map fun n=>UInt8.ofNat n.toNat).toArray⟩)]
         | .bs b i n _=>match st.get b with
           | some k=>some [([Nat.ble (i+n) k.es.length,(bytesOf ((k.es.drop i).take n)).isSome],.str ⟨(((bytesOf ((k.es.drop i).take n)).getD []).map fun n=>UInt8.ofNat n.toNat).toArray⟩)]
           | none=>none
         | _=>none
       | _=>none
     | _=>none
   | _=>none
 | _=>none
def VOk(P:Program)(op:Op)(fr:Fr)(st:St)(x:V):Prop:=opS P op=false/\isMapOp op=false/\nilOp P op fr=none/\vop P op fr st=some x
theorem yNb{x:Option V}{d y h:Nat}{c:List Bool}(hb:bndC x d y=some (c,h))(hc:∀b∈c,b=true):bnd x d y=some h:=by
 unfold bndC at hb
 unfold bnd
 split at hb
 ·simp only[Option.some.injEq,Prod.mk.injEq] at hb
  rw[hb.2]
 ·simp only[Option.some.injEq,Prod.mk.injEq] at hb
  obtain⟨rfl,rfl⟩:=hb
  rename_i k n
  have h1:=hc (decide (0<=n)) (by simp)
  have h2:=hc (decide (n<=(y:Int))) (by simp)
  dsimp only
  rw[h1,h2];rfl
 ·cases hb
theorem yUT{n:Int}:∀(l:List V) (j:Nat) (p:List Bool×V),p∈yTO n j l->(∀c∈p.1,c=true)->∃m,n=((j+m:Nat):Int)/\l[m]?=some p.2
 | [],j,p,h,hc=>by cases h
 | x::l,j,p,h,hc=>by
   rcases List.mem_cons.1 h with rfl | h
   ·have:=hc _ (List.mem_singleton_self _)
    exact⟨0,by simpa using this,rfl⟩
   ·obtain⟨m,h1,h2⟩:=yUT l (j+1) p h hc
    exact⟨m+1,by rw[h1];congr 1;omega,by simpa using h2⟩
theorem xKQ{P:Program}{op:Op}{fr:Fr}{st:St}{l:List (List Bool×V)}(h:cvops P op fr st=some l){p:List Bool×V}(hp:p∈l)(hc:∀c∈p.1,c=true):VOk P op fr st p.2:=by
 cases op <;> simp only[cvops,reduceCtorEq] at h
 case pick c x y=>
  split at h
  ·rename_i b hb
   injection h with h
   subst h
   refine⟨rfl,rfl,rfl,?_⟩
   show vPick (ev fr c) (ev fr x) (ev fr y)=_
   rw[hb]
   simp only[List.mem_cons,List.not_mem_nil,or_false] at hp
   rcases hp with rfl | rfl
   ·have:=hc _ (List.mem_singleton_self _)
    subst this;rfl
   ·have:=hc _ (List.mem_singleton_self _)
    cases b <;> first | rfl | cases this
  ·cases h
 case binOp o t x y u=>
  have hnil:∀{k n},ev fr y= .int k n->isNilC y=false:=fun {k n} hy=>by
   cases y <;> first | rfl | skip
   rename_i v
   cases v <;> first | rfl | skip
   rename_i A _ _
   cases A <;> first | rfl | skip
   exfalso
   simp only[ev,vOf] at hy
   split at hy <;> first | (cases hy;done) | (rename_i he;cases he)
  have hnilO:∀{o:BinOp},isNilC y=false->nilOp P (.binOp o t x y u) fr=none:=fun {o} h=>by
   unfold nilOp
   dsimp only
   rw[h,cond_false]
  have hnilS:∀{b},ev fr y= .str b->isNilC y=false:=fun {b} hy=>by
   cases y <;> first | rfl | skip
   rename_i v
   cases v <;> first | rfl | skip
   rename_i A _ _
   cases A <;> first | rfl | skip
   exfalso
   simp only[ev,vOf] at hy
   split at hy <;> first | (cases hy;done) | (rename_i he;cases he)
  split at h
  ·split at h
   ·rename_i k a k' b hx hy
    injection h with h
    subst h
    simp only[List.mem_singleton] at hp
    subst hp
    have h1:=of_decide_eq_true (hc (decide (k=k')) (by simp))
    have h2:=hc (!decide (b=0)) (by simp)
    have h2:¬b=0:=by simpa using h2
    subst h1
    refine⟨rfl,rfl,hnilO (hnil hy),?_⟩
    show vBin2 P .rem t (ev fr x) (ev fr y)=_
    rw[hx,hy]
    simp[vBin2,vBin,yVP,intBin,h2]
   ·cases h
  ·split at h
   ·rename_i k a k' b hx hy
    injection h with h
    subst h
    simp only[List.mem_singleton] at hp
    subst hp
    have h1:=of_decide_eq_true (hc (decide (k=k')) (by simp))
    have h2:=hc (!decide (b=0)) (by simp)
    have h2:¬b=0:=by simpa using h2
    subst h1
    refine⟨rfl,rfl,hnilO (hnil hy),?_⟩
    show vBin2 P .quo t (ev fr x) (ev fr y)=_
    rw[hx,hy]
    simp[vBin2,vBin,yVP,intBin,h2]
   ·cases h
  ·split at h
   ·rename_i a b hx hy
    injection h with h
    subst h
    simp only[List.mem_singleton] at hp
    subst hp
    have h1:=of_decide_eq_true (hc (decide (a.size+b.size<=9223372036854775807)) (by simp))
    refine⟨rfl,rfl,hnilO (hnilS hy),?_⟩
    show vBin2 P .add t (ev fr x) (ev fr y)=_
    rw[hx,hy]
    simp[vBin2,vBin,strBin,h1]
   ·cases h
  ·split at h
   ·rename_i k a k' b hx hy
    injection h with h
    subst h
    simp only[List.mem_singleton] at hp
    subst hp
    have h1:=hc (!decide (b<0)) (by simp)
    have h1:¬b<0:=by simpa using h1
    refine⟨rfl,rfl,hnilO (hnil hy),?_⟩
    show vBin2 P .shl t (ev fr x) (ev fr y)=_
    rw[hx,hy]
    simp[vBin2,vBin,yVP,intShift,h1]
   ·cases h
  ·split at h
   ·rename_i k a k' b hx hy
    injection h with h
    subst h
    simp only[List.mem_singleton] at hp
    subst hp
    have h1:=hc (!decide (b<0)) (by simp)
    have h1:¬b<0:=by simpa using h1
    refine⟨rfl,rfl,hnilO (hnil hy),?_⟩
    show vBin2 P .shr t (ev fr x) (ev fr y)=_
    rw[hx,hy]
    simp[vBin2,vBin,yVP,intShift,h1]
   ·cases h
  ·cases h
 case indexAddr t x ix=>
  split at h
  ·rename_i e ht
   split at h
   ·rename_i ie ks kd n hie hks hix
    split at h
    ·rename_i es fl hx
     injection h with h
     subst h
     simp only[List.mem_singleton] at hp
     subst hp
     have h0:=Nat.eq_of_beq_eq_true (hc (Nat.beq ks.length ie.size) (by simp))
     have h1:=of_decide_eq_true (hc (decide (0<=n)) (by simp))
     have h2:=of_decide_eq_true (hc (decide (n<(es.length:Int))) (by simp))
     have h3:=hc (rowIs ks es n.toNat) (by simp)
     have hi:n.toNat<es.length:=by omega
     obtain⟨k1,k2⟩:=xFY h3 hi
     refine⟨rfl,rfl,rfl,?_⟩
     show vIndexAddr P t st (ev fr x) (ev fr ix)=_
     rw[hx,hix]
     unfold vIndexAddr
     dsimp only
     rw[decide_eq_false (show ¬n<0 by omega),cond_false,ht]
     dsimp only
     rw[hie]
     simp only[Option.bind_some]
     rw[k1,Option.bind_some,k2,h0,Nat.beq_refl];rfl
    ·rename_i b i m cap hx
     split at h
     ·rename_i k hk
      injection h with h
      subst h
      simp only[List.mem_singleton] at hp
      subst hp
      have h0:=hc (Nat.beq k.sz ie.size) (by simp)
      have h1:=of_decide_eq_true (hc (decide (0<=n)) (by simp))
      have h2:=of_decide_eq_true (hc (decide (n<(m:Int))) (by simp))
      refine⟨rfl,rfl,rfl,?_⟩
      show vIndexAddr P t st (ev fr x) (ev fr ix)=_
      rw[hx,hix]
      unfold vIndexAddr
      dsimp only
      rw[decide_eq_false (show ¬n<0 by omega),cond_false,ht]
      dsimp only
      rw[hie]
      simp only[Option.bind_some]
      rw[hk,Option.bind_some,h0,decide_eq_true (show n.toNat<m by omega)];rfl
     ·cases h
    ·cases h
   ·cases h
  ·rename_i len e ht
   split at h
   ·rename_i ie kd n hie hix
    have one:∀mk:Nat->V,p∈yTO n 0 (arrPs mk len 0)->0<=n/\n.toNat<len/\p.2=mk n.toNat:=fun mk hm=>by
     obtain⟨m,h1,h2⟩:=yUT _ _ _ hm hc
     obtain⟨h3,h4⟩:=xDq _ _ _ h2
     have e1:n.toNat=m:=by omega
     exact⟨by omega,by omega,by rw[h4,e1,Nat.zero_add]⟩
    have fin:∀y:V,0<=n->n.toNat<len->((match ev fr x with
      | .ptr b i j=>some (V.ptr b i (j+n.toNat*ie.size))
      | .tp cs=>some (V.tp (cs.drop (n.toNat*ie.size)))
      | _=>none)=some y)->vIndexAddr P t st (ev fr x) (ev fr ix)=some y:=fun y h0 h1 h2=>by
     rw[hix]
     unfold vIndexAddr
     dsimp only
     rw[decide_eq_false (show ¬n<0 by omega),cond_false,ht]
     dsimp only
     rw[hie]
     simp only[Option.bind_some]
     rw[decide_eq_true h1,cond_true]
     exact h2
    split at h
    ·rename_i b i j hx
     injection h with h
     subst h
     obtain⟨k1,k2,k3⟩:=one _ hp
     refine⟨rfl,rfl,rfl,?_⟩
     exact fin _ k1 k2 (by rw[hx,k3])
    ·rename_i cs hx
     injection h with h
     subst h
     obtain⟨k1,k2,k3⟩:=one _ hp
     refine⟨rfl,rfl,rfl,?_⟩
     exact fin _ k1 k2 (by rw[hx,k3])
    ·cases h
   ·cases h
  ·cases h
 case load t x=>
  split at h
  ·rename_i b i j hx
   split at h
   ·rename_i d ie ks k hd hie hks hk
    have go:∀(qs:List Kc),decide (i<k.es.length)=true->yW9 qs k.es i j=true->(k.es[i]?).map (·.drop j)=some ((k.es.getD i []).drop j)/\j+qs.length<=(k.es.getD i []).length/\((k.es.getD i []).drop j).take qs.length=etaSeg qs k.es i j:=fun qs h1 h2=>by
     have h1:=of_decide_eq_true h1
     refine⟨?_,xFg qs k.es i j h2⟩
     rw[List.getD_eq_getElem?_getD,List.getElem?_eq_getElem h1];rfl
    split at h
    ·rename_i hr
     injection h with h
     subst h
     simp only[List.mem_singleton] at hp
     subst hp
     have h0:=Nat.eq_of_beq_eq_true (hc (Nat.beq ks.length ie.size) (by simp))
     obtain⟨k1,k2,k3⟩:=go ks (hc _ (by simp)) (hc _ (by simp))
     refine⟨rfl,rfl,rfl,?_⟩
     show(match P.underlying t,P.info? t with | some d,some i=>vLoad i.size d.isRow st (ev fr x) | _,_=>none)=_
     rw[hd,hie,hx]
     dsimp only
     unfold vLoad cellsAt
     dsimp only
     rw[hk,Option.bind_some,k1]
     dsimp only
     rw[hr,cond_true,←h0,show Nat.ble ks.length ((k.es.getD i []).drop j).length=true from Nat.ble_eq▸(by rw[List.length_drop];omega),cond_true,k3]
    ·rename_i hr
     split at h
     ·rename_i q
      injection h with h
      subst h
      simp only[List.mem_singleton] at hp
      subst hp
      obtain⟨k1,k2,k3⟩:=go [q] (hc _ (by simp)) (hc _ (by simp))
      refine⟨rfl,rfl,rfl,?_⟩
      show(match P.underlying t,P.info? t with | some d,some i=>vLoad i.size d.isRow st (ev fr x) | _,_=>none)=_
      rw[hd,hie,hx]
      dsimp only
      unfold vLoad cellsAt
      dsimp only
      rw[hk,Option.bind_some,k1]
      dsimp only
      rw[hr,cond_false]
      generalize (k.es.getD i []).drop j=row at k3
      cases row with
      | nil=>simp[etaSeg] at k3
      | cons y row=>
        simp only[List.length_singleton,List.take_succ_cons,List.take_zero,etaSeg,List.cons.injEq,and_true] at k3
        rw[List.head?_cons,k3]
     ·cases h
   ·cases h
  ·cases h
 case index t x ix=>
  split at h
  ·rename_i ht
   split at h
   ·rename_i s kd n hx hix
    injection h with h
    subst h
    simp only[List.mem_singleton] at hp
    subst hp
    have h1:=of_decide_eq_true (hc (decide (0<=n)) (by simp))
    have h2:=of_decide_eq_true (hc (decide (n<(s.size:Int))) (by simp))
    refine⟨rfl,rfl,rfl,?_⟩
    show vIndex P t (ev fr x) (ev fr ix)=_
    rw[hx,hix]
    unfold vIndex
    dsimp only
    rw[decide_eq_false (show ¬n<0 by omega),cond_false,ht]
    dsimp only
    have h3:s[n.toNat]?=some (s[n.toNat]'(by omega)):=getElem?_pos s n.toNat (by omega)
    rw[h3];rfl
   ·cases h
  ·rename_i len e ht
   split at h
   ·rename_i ie q cs kd n hie hks hx hix
    have one:∀d,P.underlying e=some d->d.isRow=false->(bif Nat.beq ie.size 1&&Nat.beq cs.length len then some (yTO n 0 cs) else none)=some l->VOk P (.index t x ix) fr st p.2:=fun d hd hnr h=>by
     obtain⟨h1,h⟩:=yAN h
     obtain⟨h1,h2⟩:=yBE h1
     have h1:=Nat.eq_of_beq_eq_true h1
     have h2:=Nat.eq_of_beq_eq_true h2
     injection h with h
     subst h
     obtain⟨m,hm,hg⟩:=yUT _ _ _ hp hc
     rw[Nat.zero_add] at hm
     subst hm
     have hml:m<cs.length:=(List.getElem?_eq_some_iff.1 hg).1
     refine⟨rfl,rfl,rfl,?_⟩
     show vIndex P t (ev fr x) (ev fr ix)=_
     rw[hx,hix]
     unfold vIndex
     dsimp only
     rw[decide_eq_false (show ¬(m:Int)<0 by omega),cond_false,ht]
     dsimp only
     rw[hie]
     simp only[Option.bind_some,Int.toNat_natCast]
     rw[decide_eq_true (show m<len by omega),cond_true,h1,Nat.mul_one]
     unfold partOf
     rw[hd,Option.bind_some,hie,Option.bind_some,hnr,cond_false,hg]
    split at h
    ·cases h
    ·cases h
    ·rename_i d hd1 hd2 hd
     refine one d hd ?_ h
     cases d <;> first | rfl | exact absurd rfl (hd1 _) | exact absurd rfl (hd2 _ _)
    ·cases h
   ·rename_i ie q q' qs cs kd n hie hks hx hix
    split at h
    ·rename_i fs hd
     obtain⟨h1,h⟩:=yAN h
     have h1:=Nat.eq_of_beq_eq_true h1
     injection h with h
     subst h
     obtain⟨m,hm,hg⟩:=yUT _ _ _ hp hc
     rw[Nat.zero_add] at hm
     subst hm
     obtain⟨hml,hg⟩:=xDq _ _ _ hg
     refine⟨rfl,rfl,rfl,?_⟩
     show vIndex P t (ev fr x) (ev fr ix)=_
     rw[hx,hix]
     unfold vIndex
     dsimp only
     rw[decide_eq_false (show ¬(m:Int)<0 by omega),cond_false,ht]
     dsimp only
     rw[hie]
     simp only[Option.bind_some,Int.toNat_natCast]
     rw[decide_eq_true hml,cond_true]
     unfold partOf
     have hle:m*ie.size+ie.size<=cs.length:=by
      rw[←h1,←Nat.succ_mul];exact Nat.mul_le_mul_right _ hml
     rw[hd,Option.bind_some,hie,Option.bind_some]
     show(bif true then(bif Nat.ble (m*ie.size+ie.size) cs.length then some (V.agg ((cs.drop (m*ie.size)).take ie.size)) else none) else _)=_
     rw[cond_true,Nat.ble_eq_true_of_le hle,cond_true,hg,Nat.zero_add]
    ·cases h
   ·cases h
  ·cases h
 case slice t x lo hi mx=>
  cases mx with
  | some mx=>
    cases hi with
    | none=>cases h
    | some hi=>
    have ho:opS P (.slice t x lo (some hi) (some mx))=false:=rfl
    dsimp only at h
    split at h
    ·rename_i e ht
     split at h
     ·rename_i ie hie
      split at h
      ·rename_i es full hx
       split at h
       ·rename_i c0 m hb0
        split at h
        ·rename_i c1 hh hb1
         split at h
         ·rename_i c2 ll hb2
          injection h with h
          subst h
          simp only[List.mem_singleton] at hp
          subst hp
          have e0:=yNb hb0 fun b hb=>hc b (List.mem_append_left _ hb)
          have e1:=yNb hb1 fun b hb=>hc b (List.mem_append_right _ (List.mem_append_left _ hb))
          have e2:=yNb hb2 fun b hb=>hc b (List.mem_append_right _ (List.mem_append_right _ (List.mem_append_left _ hb)))
          have e3:=hc _ (List.mem_append_right _ (List.mem_append_right _ (List.mem_append_right _ (List.mem_singleton_self _))))
          refine⟨ho,rfl,rfl,?_⟩
          show vSlice P t st (ev fr x) (lo.map (ev fr)) (some (ev fr hi)) (some (ev fr mx))=_
          unfold vSlice
          rw[ht,hx]
          dsimp only
          rw[hie]
          simp only[Option.bind_some,Option.isNone_some,Option.isSome_some,Bool.false_and,cond_false]
          rw[e0,Option.bind_some,e1,Option.bind_some,e2,Option.bind_some,e3];rfl
         ·cases h
        ·cases h
       ·cases h
      ·rename_i b i n cap hx
       split at h
       ·rename_i k hk
        split at h
        ·rename_i c0 m hb0
         split at h
         ·rename_i c1 hh hb1
          split at h
          ·rename_i c2 ll hb2
           injection h with h
           subst h
           simp only[List.mem_singleton] at hp
           subst hp
           have e0:=yNb hb0 fun b hb=>hc b (List.mem_append_left _ hb)
           have e1:=yNb hb1 fun b hb=>hc b (List.mem_append_right _ (List.mem_append_left _ hb))
           have e2:=yNb hb2 fun b hb=>hc b (List.mem_append_right _ (List.mem_append_right _ (List.mem_append_left _ hb)))
           have e3:=hc _ (List.mem_append_right _ (List.mem_append_right _ (List.mem_append_right _ (List.mem_singleton_self _))))
           refine⟨ho,rfl,rfl,?_⟩
           show vSlice P t st (ev fr x) (lo.map (ev fr)) (some (ev fr hi)) (some (ev fr mx))=_
           unfold vSlice
           rw[ht,hx]
           dsimp only
           rw[hie]
           simp only[Option.bind_some,Option.isNone_some,Option.isSome_some,Bool.false_and,cond_false]
           rw[hk,Option.bind_some,e3,cond_true,e0,Option.bind_some,e1,Option.bind_some,e2];rfl
          ·cases h
         ·cases h
        ·cases h
       ·cases h
      ·cases h
     ·cases h
    ·cases h
  | none=>
  have ho:opS P (.slice t x lo hi none)=false:=rfl
  dsimp only at h
  split at h
  ·rename_i ht
   split at h
   ·rename_i s hx
    split at h
    ·rename_i c1 hh hb1
     split at h
     ·rename_i c2 ll hb2
      injection h with h
      subst h
      simp only[List.mem_singleton] at hp
      subst hp
      have e1:=yNb hb1 fun b hb=>hc b (List.mem_append_left _ hb)
      have e2:=yNb hb2 fun b hb=>hc b (List.mem_append_right _ hb)
      refine⟨ho,rfl,rfl,?_⟩
      show vSlice P t st (ev fr x) (lo.map (ev fr)) (hi.map (ev fr)) none=_
      unfold vSlice
      rw[ht,hx]
      dsimp only
      rw[e1,Option.bind_some,e2];rfl
     ·cases h
    ·cases h
   ·cases h
  ·rename_i e ht
   split at h
   ·rename_i ie hie
    split at h
    ·rename_i es full hx
     split at h
     ·rename_i c1 hh hb1
      split at h
      ·rename_i c2 ll hb2
       injection h with h
       subst h
       simp only[List.mem_singleton] at hp
       subst hp
       have e1:=yNb hb1 fun b hb=>hc b (List.mem_append_left _ hb)
       have e2:=yNb hb2 fun b hb=>hc b (List.mem_append_right _ (List.mem_append_left _ hb))
       have e3:=hc _ (List.mem_append_right _ (List.mem_append_right _ (List.mem_singleton_self _)))
       refine⟨ho,rfl,rfl,?_⟩
       show vSlice P t st (ev fr x) (lo.map (ev fr)) (hi.map (ev fr)) none=_
       unfold vSlice
       rw[ht,hx]
       dsimp only
       rw[hie]
       simp only[Option.bind_some,Option.isSome_none,Bool.and_false,cond_false]
       rw[show bnd none es.length es.length=some es.length from rfl,Option.bind_some,e1,Option.bind_some,e2,Option.bind_some,e3];rfl
      ·cases h
     ·cases h
    ·rename_i b i n cap hx
     split at h
     ·rename_i k hk
      split at h
      ·rename_i c1 hh hb1
       split at h
       ·rename_i c2 ll hb2
        injection h with h
        subst h
        simp only[List.mem_singleton] at hp
        subst hp
        have e1:=yNb hb1 fun b hb=>hc b (List.mem_append_left _ hb)
        have e2:=yNb hb2 fun b hb=>hc b (List.mem_append_right _ (List.mem_append_left _ hb))
        have e3:=hc _ (List.mem_append_right _ (List.mem_append_right _ (List.mem_singleton_self _)))
        refine⟨ho,rfl,rfl,?_⟩
        show vSlice P t st (ev fr x) (lo.map (ev fr)) (hi.map (ev fr)) none=_
        unfold vSlice
        rw[ht,hx]
        dsimp only
        rw[hie]
        simp only[Option.bind_some,Option.isSome_none,Bool.and_false,cond_false]
        rw[hk,Option.bind_some,e3,cond_true,show bnd none cap cap=some cap from rfl,Option.bind_some,e1,Option.bind_some,e2];rfl
       ·cases h
      ·cases h
     ·cases h
    ·cases h
   ·cases h
  ·cases h
 case convert sT dT y=>
  split at h
  ·rename_i hd
   split at h
   ·rename_i e hs
    split at h
    ·rename_i he
     have hmk:opS P (.convert sT dT y)=false:=by
      show yVQ P sT dT=false
      unfold yVQ
      rw[hs,hd]
     have go:∀es,elemsOf st (ev fr y)=some es->(bytesOf es).isSome=true->vop P (.convert sT dT y) fr st=some (.str ⟨(((bytesOf es).getD []).map fun n=>UInt8.ofNat n.toNat).toArray⟩):=fun es h1 h2=>by
      obtain⟨ns,hns⟩:=Option.isSome_iff_exists.1 h2
      show vConv P sT dT st (ev fr y)=_
      unfold vConv
      rw[hs,hd]
      dsimp only
      cases hv:ev fr y with
      | str t=>rw[hv] at h1;cases h1
      | _=>
        rw[hv] at h1
        dsimp only
        rw[he]
        dsimp only
        rw[h1,Option.bind_some,hns];rfl
     split at h
     ·rename_i es fl hx
      injection h with h
      subst h
      simp only[List.mem_singleton] at hp
      subst hp
      exact⟨hmk,rfl,rfl,go es (by rw[hx];rfl) (hc _ (by simp))⟩
     ·rename_i b i n cap hx
      split at h
      ·rename_i k hk
       injection h with h
       subst h
       simp only[List.mem_singleton] at hp
       subst hp
       refine⟨hmk,rfl,rfl,go _ ?_ (hc _ (by simp))⟩
       rw[hx]
       show(st.get b).bind _=_
       rw[hk,Option.bind_some,hc (Nat.ble (i+n) k.es.length) (by simp)];rfl
      ·cases h
     ·cases h
    ·cases h
   ·cases h
  ·cases h
def xTx(P:Program)(t2:TypeId)(sz:Nat)(x:V)(st:St):Option (List Bool×List (List V)):=match P.underlying t2 with
 | some .string=>match x with
   | .str s=>some ([Nat.beq sz 1],s.data.toList.map fun c=> [.int .u8 (c.toNat:Int)])
   | _=>none
 | some (.slice _)=>match x with
   | .sl es _=>some ([es.all fun r=>Nat.beq r.length sz],es)
   | .bs b i n _=>match st.get b with
     | some k=>some ([Nat.ble (i+n) k.es.length,((k.es.drop i).take n).all fun r=>Nat.beq r.length sz],(k.es.drop i).take n)
     | none=>none
   | _=>none
 | _=>none
theorem xJ4{P:Program}{t2:TypeId}{sz:Nat}{x:V}{st:St}{c:List Bool}{ns:List (List V)}(h:xTx P t2 sz x st=some (c,ns))(hc:∀b∈c,b=true):srcRows P t2 sz x st=some ns:=by
 unfold xTx at h
 unfold srcRows
 split at h
 ·rename_i ht
  rw[ht]
  split at h
  ·simp only[Option.some.injEq,Prod.mk.injEq] at h
   obtain⟨rfl,rfl⟩:=h
   dsimp only
   rw[hc _ (List.mem_singleton_self _)];rfl
  ·cases h
 ·rename_i e ht
  rw[ht]
  dsimp only
  split at h
  ·simp only[Option.some.injEq,Prod.mk.injEq] at h
   obtain⟨rfl,rfl⟩:=h
   show(bif _ then _ else _)=_
   rw[hc _ (List.mem_singleton_self _)];rfl
  ·split at h
   ·rename_i k hk
    simp only[Option.some.injEq,Prod.mk.injEq] at h
    obtain⟨rfl,rfl⟩:=h
    rename_i b i n cap _
    show((st.get b).bind fun k=>bif Nat.ble (i+n) k.es.length then some ((k.es.drop i).take n) else none).bind (fun ns=>bif ns.all fun r=>Nat.beq r.length sz then some ns else none)=_
    rw[hk,Option.bind_some,hc (Nat.ble (i+n) k.es.length) (by simp),cond_true,Option.bind_some,hc (((k.es.drop i).take n).all fun r=>Nat.beq r.length sz) (by simp)];rfl
   ·cases h
  ·cases h
 ·cases h
def sameBlk(x:V)(b:Nat):Bool:=match x with
 | .bs b' _ _ _=>Nat.beq b' b
 | _=>false
def csops(P:Program)(op:Op)(fr:Fr)(st:St):Option (List (List Bool×(V×St))):=
 match op with
 | .store t p x=>match ev fr p with
   | .ptr b i j=>match st.get b,P.info? t,(ev fr x).cells? with
     | some k,some ie,some cs=>some [([Nat.beq cs.length ie.size,decide (i<k.es.length),Nat.ble k.lk i,Nat.ble (j+cs.length) (k.es.getD i []).length],
      (.tup [],⟨(st.set b ⟨k.es.set i ((k.es.getD i []).take j++(cs++(k.es.getD i []).drop (j+cs.length))),k.sz,k.lk⟩).get,st.c+1⟩))]
     | _,_,_=>none
   | _=>none
 | .makeSlice t l c=>match P.underlying t with
   | some (.slice e)=>match P.info? e with
     | some ie=>match ie.zero with
       | some z=>match ev fr l,ev fr c with
         | .int _ l,.int _ c=>some [([decide (0<=l),decide (l<=c),decide (ie.bytes*c.toNat<=281474976710656),decide (c<=9223372036854775807),z.cells.toList.all (·.oneCell'),Nat.beq z.cells.size ie.size],
          (.bs st.c 0 l.toNat c.toNat,⟨(st.new ⟨List.replicate c.toNat (z.cells.toList.map vOf),ie.size,0⟩).get,st.c+1⟩))]
         | _,_=>none
       | none=>none
     | none=>none
   | _=>none
 | .call c=>match c.callee with
   | .builtin .append=>match c.args.toList,c.argTypes.toList with
     | [s,x],[t,t2]=>match P.underlying t with
       | some (.slice e)=>match P.info? e with
         | some ie=>match ie.zero with
           | some z=>match xTx P t2 ie.size (ev fr x) st with
             | some (cx,ns)=>match ev fr s with
               | .bs b i n cap=>match st.get b with
                 | some k=>bif sameBlk (ev fr x) b then
                   some [(Nat.beq z.cells.size ie.size::(cx++ [Nat.beq k.sz ie.size,!Nat.beq (i+n) k.es.length,Nat.ble (n+ns.length) cap,Nat.ble (i+n+ns.length) k.es.length,Nat.ble k.lk (i+n)]),
                    (.bs b i (n+ns.length) cap,⟨(st.set b ⟨k.es.take (i+n)++(ns++k.es.drop (i+n+ns.length)),k.sz,k.lk⟩).get,st.c+1⟩))]
                   else some [(Nat.beq z.cells.size ie.size::(cx++ [Nat.beq k.sz ie.size,Nat.beq (i+n) k.es.length,decide ((n+ns.length)*ie.bytes<=140737488355328),decide (n+ns.length<=9223372036854775807)]),
                    (.bs st.c 0 (n+ns.length) (n+ns.length),⟨((st.del b).new ⟨k.es.drop i++ns,k.sz,k.lk-i⟩).get,st.c+1⟩))]
                 | none=>none
               | .sl es full=>some [(Nat.beq z.cells.size ie.size::(cx++ [full,Nat.beq es.length 0 || Nat.ble 1 ns.length,es.all fun r=>Nat.beq r.length ie.size,decide ((es.length+ns.length)*ie.bytes<=140737488355328),decide (es.length+ns.length<=9223372036854775807)]),
                (.bs st.c 0 (es.length+ns.length) (es.length+ns.length),⟨(st.new ⟨es++ns,ie.size,0⟩).get,st.c+1⟩))]
               | _=>none
             | none=>none
           | none=>none
         | none=>none
       | _=>none
     | _,_=>none
   | .builtin .clear=>match c.args.toList,c.argTypes.toList with
     | [s],[t]=>match P.underlying t with
       | some (.slice e)=>match P.info? e with
         | some ie=>match ie.zero with
           | some z=>match ev fr s with
             | .bs b i _ _=>match st.get b with
               | some k=>some [([Nat.beq z.cells.size k.sz,z.cells.toList.all (·.oneCell'),Nat.ble k.lk i],(.tup [],⟨(st.set b ⟨k.es.take i,k.sz,k.lk⟩).get,st.c+1⟩))]
               | none=>none
             | _=>none
           | none=>none
         | none=>none
       | _=>none
     | _,_=>none
   | _=>none
 | _=>none
def SOk(P:Program)(op:Op)(fr:Fr)(st:St)(p:V×St):Prop:=opS P op=true/\sop P op fr st=some p
theorem xKP{P:Program}{op:Op}{fr:Fr}{st:St}{l:List (List Bool×(V×St))}(h:csops P op fr st=some l){p:List Bool×(V×St)}(hp:p∈l)(hc:∀c∈p.1,c=true):SOk P op fr st p.2:=by
 cases op <;> simp only[csops,reduceCtorEq] at h
 case store t q x=>
  split at h
  ·rename_i b i j hq
   split at h
   ·rename_i k ie cs hk hie hcs
    injection h with h
    subst h
    simp only[List.mem_singleton] at hp
    subst hp
    have h0:=hc (Nat.beq cs.length ie.size) (by simp)
    have h1:=of_decide_eq_true (hc (decide (i<k.es.length)) (by simp))
    have h2:=hc (Nat.ble k.lk i) (by simp)
    have h3:=hc (Nat.ble (j+cs.length) (k.es.getD i []).length) (by simp)
    refine⟨rfl,?_⟩
    have hg:k.es[i]?=some (k.es.getD i []):=by rw[List.getD_eq_getElem?_getD,List.getElem?_eq_getElem h1];rfl
    show((sStore P t (ev fr q) (ev fr x) st).map fun st'=>(V.tup [],st')).map _=_
    unfold sStore
    rw[hie,hcs]
    dsimp only
    rw[h0,cond_true,hq]
    unfold wrAt
    dsimp only
    rw[hk,Option.bind_some,hg,Option.bind_some,h2,h3];rfl
   ·cases h
  ·cases h
 case makeSlice t ll cc=>
  split at h
  ·rename_i e ht
   split at h
   ·rename_i ie hie
    split at h
    ·rename_i z hz
     split at h
     ·rename_i k1 lv k2 cv hl hcv
      injection h with h
      subst h
      simp only[List.mem_singleton] at hp
      subst hp
      refine⟨rfl,?_⟩
      show(sMake P t (ev fr ll) (ev fr cc) st).map _=_
      unfold sMake
      rw[ht]
      dsimp only
      rw[hie]
      dsimp only
      rw[hz]
      dsimp only
      rw[hl,hcv]
      dsimp only
      rw[hc (decide (0<=lv)) (by simp),hc (decide (lv<=cv)) (by simp),hc (decide (ie.bytes*cv.toNat<=281474976710656)) (by simp),hc (decide (cv<=9223372036854775807)) (by simp),hc (z.cells.toList.all (·.oneCell')) (by simp),hc (Nat.beq z.cells.size ie.size) (by simp)]
      rfl
     ·cases h
    ·cases h
   ·cases h
  ·cases h
 case call c=>
  obtain⟨callee,args,ts⟩:=c
  dsimp only at h
  split at h
  ·rename_i hcal
   split at h
   ·rename_i s x t t2 has hts
    split at h
    ·rename_i e ht
     split at h
     ·rename_i ie hie
      split at h
      ·rename_i z hz
       split at h
       ·rename_i cx ns hsrc
        have body:∀y,sAppend P t t2 (ev fr s) (ev fr x) st=some y->sop P (.call ⟨.builtin .append,args,ts⟩) fr st=some (y.1,⟨y.2.get,st.c+1⟩):=fun y hy=>by
         show(match args.toList,ts.toList with | [s,x],[t,t2]=>sAppend P t t2 (ev fr s) (ev fr x) st | _,_=>none).map _=_
         rw[has,hts]
         dsimp only
         rw[hy];rfl
        split at h
        ·rename_i b i n cap hs
         split at h
         ·rename_i k hk
          cases hsb:sameBlk (ev fr x) b with
          | true=>
            rw[hsb,cond_true] at h
            injection h with h
            subst h
            simp only[List.mem_singleton] at hp
            subst hp
            refine⟨rfl,?_⟩
            refine body (_,st.set b ⟨k.es.take (i+n)++(ns++k.es.drop (i+n+ns.length)),k.sz,k.lk⟩) ?_
            have hno:Nat.beq (i+n) k.es.length=false:=by
             have:=hc (!Nat.beq (i+n) k.es.length) (by simp)
             cases hq:Nat.beq (i+n) k.es.length with
             | false=>rfl
             | true=>rw[hq] at this;cases this
            unfold sAppend
            rw[ht]
            dsimp only
            rw[hie]
            dsimp only
            rw[hz]
            dsimp only
            rw[hc (Nat.beq z.cells.size ie.size) (by simp),cond_true,xJ4 hsrc (fun b hb=>hc b (by simp[hb])),Option.bind_some,hs]
            dsimp only
            rw[hk,Option.bind_some,hc (Nat.beq k.sz ie.size) (by simp),cond_true,hno,cond_false,hc (Nat.ble (n+ns.length) cap) (by simp),hc (Nat.ble (i+n+ns.length) k.es.length) (by simp),hc (Nat.ble k.lk (i+n)) (by simp)]
            rfl
          | false=>
          rw[hsb,cond_false] at h
          injection h with h
          subst h
          simp only[List.mem_singleton] at hp
          subst hp
          refine⟨rfl,?_⟩
          refine body (_,(st.del b).new ⟨k.es.drop i++ns,k.sz,k.lk-i⟩) ?_
          unfold sAppend
          rw[ht]
          dsimp only
          rw[hie]
          dsimp only
          rw[hz]
          dsimp only
          rw[hc (Nat.beq z.cells.size ie.size) (by simp),cond_true,xJ4 hsrc (fun b hb=>hc b (by simp[hb])),Option.bind_some,hs]
          dsimp only
          rw[hk,Option.bind_some,hc (Nat.beq k.sz ie.size) (by simp),cond_true,hc (Nat.beq (i+n) k.es.length) (by simp),cond_true,hc (decide ((n+ns.length)*ie.bytes<=140737488355328)) (by simp),hc (decide (n+ns.length<=9223372036854775807)) (by simp)]
          rfl
         ·cases h
        ·rename_i es full hs
         injection h with h
         subst h
         simp only[List.mem_singleton] at hp
         subst hp
         refine⟨rfl,?_⟩
         refine body (_,st.new ⟨es++ns,ie.size,0⟩) ?_
         unfold sAppend
         rw[ht]
         dsimp only
         rw[hie]
         dsimp only
         rw[hz]
         dsimp only
         rw[hc (Nat.beq z.cells.size ie.size) (by simp),cond_true,xJ4 hsrc (fun b hb=>hc b (by simp[hb])),Option.bind_some,hs]
         dsimp only
         rw[hc full (by simp),hc (Nat.beq es.length 0 || Nat.ble 1 ns.length) (by simp),hc (es.all fun r=>Nat.beq r.length ie.size) (by simp),hc (decide ((es.length+ns.length)*ie.bytes<=140737488355328)) (by simp),hc (decide (es.length+ns.length<=9223372036854775807)) (by simp)]
         rfl
        ·cases h
       ·cases h
      ·cases h
     ·cases h
    ·cases h
   ·cases h
  ·rename_i hcal
   split at h
   ·rename_i s t has hts
    split at h
    ·rename_i e ht
     split at h
     ·rename_i ie hie
      split at h
      ·rename_i z hz
       split at h
       ·rename_i b i n cap hs
        split at h
        ·rename_i k hk
         injection h with h
         subst h
         simp only[List.mem_singleton] at hp
         subst hp
         refine⟨rfl,?_⟩
         show(match args.toList,ts.toList with | [s],[t]=>(sClear P t (ev fr s) st).map fun st'=>(V.tup [],st') | _,_=>none).map _=_
         rw[has,hts]
         dsimp only
         unfold sClear
         rw[ht,hs]
         dsimp only
         rw[hie]
         dsimp only
         rw[hz]
         dsimp only
         rw[hk,Option.bind_some,hc (Nat.beq z.cells.size k.sz) (by simp),hc (z.cells.toList.all (·.oneCell')) (by simp),hc (Nat.ble k.lk i) (by simp)]
         rfl
        ·cases h
       ·cases h
      ·cases h
     ·cases h
    ·cases h
   ·cases h
  ·cases h
end Go.Proofs.YtakljpcmbpaeaaaGreat
