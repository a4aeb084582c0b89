/- The awp calculus, 3: operations that only compute or read: what they come to, and that the model's operation comes to it. -/
import Derived.Test.YtakljpcmbpaeaaaGreatMountPlaysM03
import Derived.Laws.Tables
set_option linter.unusedSimpArgs false
set_option linter.unusedVariables false
namespace Go.Proofs.YtakljpcmbpaeaaaGreat
open Go.RowKit
abbrev Fr:=Nat->V
def Fr.set(f:Fr)(t:Nat)(v:V):Fr:=fun s=>cond (Nat.beq s t) v (f s)
def Fr.put(f:Fr)(d:Option Tmp)(v:V):Fr:=match d with | some t=>f.set t v | none=>f
theorem Fr.set_get(f:Fr)(t:Nat)(v:V)(s:Nat):f.set t v s=if s=t then v else f s:=by
 unfold Fr.set
 by_cases h:s=t
 ·subst h;simp[Nat.beq_refl]
 ·have hb:Nat.beq s t=false:=by
    rcases hh:Nat.beq s t with _ | _
    ·rfl
    ·exact absurd (Nat.eq_of_beq_eq_true hh) h
  simp[hb,h]
def FR(mu:Mu)(S:yEn)(w:World)(fr:Fr)(a:Act):Prop:=∀t,VR mu S w (fr t) (a.tmps.getD t undef)
def vOf:Value->V
 | .bool b=> .bool b
 | .int k n=> .int k n
 | .string s=> .str s
 | .pointer none=> .nilp
 | .slice none 0 0=> .sl [] true
 | .nilFunc=> .nilfn
 | _=> .undef
def ev(fr:Fr):Operand->V
 | .tmp t=>fr t
 | .const v=>vOf v
 | .func f=> .fn (.func f) [] []
 | .global _=> .undef
def V.cells?:V->Option (List V)
 | .agg cs=>some cs
 | .tup _=>none
 | .undef=>none
 | x=>some [x]
section
variable {mu:Mu} {S:yEn} {B:Dom} {st:St} {w:World} {fr:Fr} {a:Act}
theorem VR.of_vOf(v:Value):VR mu S w (vOf v) v:=by
 unfold vOf
 split
 ·exact .bool _
 ·exact .int _ _
 ·exact .str _
 ·exact .nilp
 ·exact .sl0 _ _ _ (fun _=>rfl)
 ·exact .nilfn
 ·exact .undef _
theorem FR.at_(h:FR mu S w fr a)(x:Operand):VR mu S w (ev fr x) (a.eval x):=by
 cases x with
 | tmp t=>exact h t
 | const v=>exact .of_vOf v
 | global g=>exact .undef _
 | func f=>exact .fn (.func f) [] [] [] [] rfl rfl (fun _ h=>absurd h (by simp)) (fun _ h=>absurd h (by simp))
theorem FR.put(h:FR mu S w fr a){d:Option Tmp}{x:V}{v:Value}(hd:∀t,d=some t->t<a.tmps.size)(hv:VR mu S w x v):FR mu S w (fr.put d x) (a.put d v):=by
 cases d with
 | none=>exact h
 | some t=>
   intro s
   have ht:=hd t rfl
   show VR mu S w (fr.set t x s) _
   rw[Fr.set_get]
   by_cases e:s=t
   ·subst e
    rw[if_pos rfl]
    simpa[Act.put,ht] using hv
   ·rw[if_neg e]
    have:=h s
    simpa[Act.put,Array.getElem?_setIfInBounds_ne (Ne.symm e)] using this
theorem FR.mono{mu':Mu}{S':yEn}{w':World}(h:FR mu S w fr a)(hmu:∀b L,mu b=some L->mu' b=some L)(hS:∀g i,S g i->S' g i)(hw:yQF S w w'):FR mu' S' w' fr a:=
 fun t=>(h t).mono hmu hS hw
theorem VR.cells{x:V}{v:Value}{cs:List V}(h:VR mu S w x v)(hc:x.cells?=some cs):VRs mu S w cs v.cells.toList/\∀u∈v.cells.toList,u.oneCell'=true:=by
 cases h <;> simp only[V.cells?,Option.some.injEq,reduceCtorEq] at hc
 case agg cs' vs hl hone hv=>
  subst hc
  exact⟨⟨by simpa[Value.cells] using hl,by simpa[Value.cells] using hv⟩,by simpa[Value.cells] using hone⟩
 all_goals
  subst hc
  refine⟨?_,by simp[Value.cells,Value.oneCell']⟩
  simp only[Value.cells]
  refine VRs.cons ?_ VRs.nil
  constructor <;> assumption
theorem VR.bool_inv{b:Bool}{v:Value}(h:VR mu S w (.bool b) v):v= .bool b:=by cases h;rfl
theorem VR.int_inv{k:IntKind}{n:Int}{v:Value}(h:VR mu S w (.int k n) v):v= .int k n:=by cases h;rfl
theorem VR.str_inv{s:ByteArray}{v:Value}(h:VR mu S w (.str s) v):v= .string s:=by cases h;rfl
theorem VR.agg_inv{cs:List V}{v:Value}(h:VR mu S w (.agg cs) v):∃vs,v= .agg vs.toArray/\VRs mu S w cs vs/\∀u∈vs,u.oneCell'=true:=by
 cases h with
 | agg _ vs hl hone hv=>exact⟨vs,rfl,⟨hl,hv⟩,hone⟩
theorem VR.tup_inv{cs:List V}{v:Value}(h:VR mu S w (.tup cs) v):∃vs,v= .tuple vs.toArray/\VRs mu S w cs vs:=by
 cases h with
 | tup _ vs hl hv=>exact⟨vs,rfl,⟨hl,hv⟩⟩
theorem VR.of_agg{cs:List V}{vs:List Value}(h:VRs mu S w cs vs)(h1:∀u∈vs,u.oneCell'=true):VR mu S w (.agg cs) (.agg vs.toArray):= .agg cs vs h.1 h1 h.2
def cellsAt(st:St):V->Option (List V)
 | .tp cs=>some cs
 | .ptr b i j=>(st.get b).bind fun k=>(k.es[i]?).map (·.drop j)
 | _=>none
theorem xD3{p:V}{v:Value}{cs:List V}(hst:SR mu S B st w)(hp:VR mu S w p v)(h:cellsAt st p=some cs):
  ∃g o,v= .pointer (some ⟨g,o,none⟩)/\∀j (hj:j<cs.length),∃u,w.cell? ⟨g,o+j,none⟩=some u/\u.oneCell'=true/\VR mu S w cs[j] u:=by
 cases hp <;> simp only[cellsAt,Option.some.injEq,reduceCtorEq] at h
 case tp cs' g o vals hS hc h1 hv=>
  subst h
  exact⟨g,o,rfl,fun j hj=>⟨_,hc j hj,h1 j hj,hv j hj⟩⟩
 case ptr b i j L hL hm=>
  obtain⟨k,hk,h⟩:=Option.bind_eq_some_iff.1 h
  obtain⟨row,hr,rfl⟩:=Option.map_eq_some_iff.1 h
  obtain⟨hi,rfl⟩:=List.getElem?_eq_some_iff.1 hr
  obtain⟨L',hL',hbr,_⟩:=hst.loc b k hk
  rw[hL] at hL';injection hL' with hL';subst hL'
  refine⟨_,_,rfl,fun j' hj'=>?_⟩
  have hjj:j+j'<k.es[i].length:=by simp at hj';omega
  obtain⟨u,h1,h2,h3⟩:=hbr.cell hm i hi (j+j') hjj
  refine⟨u,by rw[Nat.add_assoc];exact h1,h2,?_⟩
  rw[List.getElem_drop];exact h3
def vLoad(n:Nat)(ag:Bool)(st:St)(p:V):Option V:=
 match cellsAt st p with
 | none=>none
 | some cs=>bif ag then(bif Nat.ble n cs.length then some (.agg (cs.take n)) else none) else cs.head?
theorem xBw{P:Program}{t:TypeId}{d:TypeDesc}{i:TypeInfo}{p x:V}{v:Value}(hd:P.underlying t=some d)(hi:P.info? t=some i)(hst:SR mu S B st w)(hp:VR mu S w p v)
  (h:vLoad i.size d.isRow st p=some x):∃u,(Instr.loadAt t v).run P w= .ok u w/\VR mu S w x u:=by
 unfold vLoad at h
 cases hc:cellsAt st p with
 | none=>rw[hc] at h;cases h
 | some cs=>
   rw[hc] at h
   dsimp only at h
   obtain⟨g,o,rfl,hcell⟩:=xD3 hst hp hc
   cases hr:d.isRow with
   | true=>
     rw[hr] at h
     cases hb:Nat.ble i.size cs.length with
     | false=>rw[hb] at h;cases h
     | true=>
       rw[hb] at h
       simp only[cond_true,Option.some.injEq] at h
       subst h
       have hle:i.size<=cs.length:=Nat.le_of_ble_eq_true hb
       have hvs:∀n,n<=cs.length->∃vs:List Value,vs.length=n/\w.rangeAt g o vs/\(∀u∈vs,u.oneCell'=true)/\VRs mu S w (cs.take n) vs:=by
        intro n
        induction n with
        | zero=>intro _;exact⟨[],rfl,fun j v hv=>by simp at hv,by simp,by simpa using VRs.nil⟩
        | succ n ih=>
          intro hn
          obtain⟨vs,h1,h2,h3,h4⟩:=ih (by omega)
          obtain⟨u,k1,k2,k3⟩:=hcell n (by omega)
          refine⟨vs++ [u],by simp[h1],fun j v hv=>?_,?_,?_⟩
          ·rcases Nat.lt_or_ge j vs.length with hl | hl
           ·rw[List.getElem?_append_left hl] at hv;exact h2 j v hv
           ·rw[List.getElem?_append_right hl] at hv
            obtain rfl:j=n:=by
             rcases Nat.lt_or_ge (j-vs.length) 1 with h | h
             ·omega
             ·rw[List.getElem?_eq_none (by simpa using h)] at hv;cases hv
            rw[h1,Nat.sub_self] at hv
            simp at hv;subst hv;exact k1
          ·intro x hx;rcases List.mem_append.1 hx with hx | hx
           ·exact h3 x hx
           ·simp at hx;subst hx;exact k2
          ·rw[List.take_succ_eq_append_getElem (by omega)]
           exact h4.append (VRs.cons k3 VRs.nil)
       obtain⟨vs,h1,h2,h3,h4⟩:=hvs i.size hle
       refine⟨.agg vs.toArray,?_,.of_agg h4 h3⟩
       have:=run_loadVar_mid (P:=P) w g o t vs d h2 hd hr (by rw[hi,h1];rfl)
       simpa[Instr.loadAt,Instr.sureAddr] using this
   | false=>
     rw[hr] at h
     simp only[cond_false] at h
     cases cs with
     | nil=>cases h
     | cons c cs=>
       simp only[List.head?_cons,Option.some.injEq] at h
       subst h
       obtain⟨u,k1,k2,k3⟩:=hcell 0 (by simp)
       refine⟨u,?_,k3⟩
       have hag:(isAgg t).run P w= .ok false w:=by
        unfold isAgg
        rw[Sem.run_bind,run_underlying hd w]
        cases d <;> simp_all[TypeDesc.isRow]
       rw[Nat.add_zero] at k1
       simp[Instr.loadAt,Instr.sureAddr,loadVar,hag,k1]
def vPick:V->V->V->Option V
 | .bool c,x,y=>some (cond c x y)
 | _,_,_=>none
theorem xKF{P:Program}{c x y z:V}{c' x' y':Value}(hc:VR mu S w c c')(hx:VR mu S w x x')(hy:VR mu S w y y')(h:vPick c x y=some z):
  ∃u,((do pure (.value (if ←asBool c' then x' else y')):Sem Next)).run P w= .ok (.value u) w/\VR mu S w z u:=by
 cases c <;> simp only[vPick,Option.some.injEq,reduceCtorEq] at h
 case bool b=>
  subst h
  obtain rfl:=hc.bool_inv
  cases b
  ·exact⟨y',by simp[asBool],hy⟩
  ·exact⟨x',by simp[asBool],hx⟩
def vNil:V->Option V
 | .ptr b i j=>some (.ptr b i j)
 | .tp cs=>some (.tp cs)
 | _=>none
theorem xMK{P:Program}{o:Oper}{ρ:Operand->Value}{e:Operand}{x z:V}(ho:o.op= .nilCheck e)(hx:VR mu S w x (ρ e))(h:vNil x=some z):
  ∃u,(execOp ρ o).run P w= .ok (.value u) w/\VR mu S w z u:=by
 refine⟨ρ e,?_,?_⟩
 ·have hv:∃A,ρ e= .pointer (some A):=by
    cases x <;> simp only[vNil,reduceCtorEq] at h
    ·generalize ρ e=v at hx ⊢;cases hx;exact⟨_,rfl⟩
    ·generalize ρ e=v at hx ⊢;cases hx;exact⟨_,rfl⟩
  obtain⟨A,hA⟩:=hv
  simp[execOp,ho,hA]
 ·cases x <;> simp only[vNil,Option.some.injEq,reduceCtorEq] at h <;> subst h <;> exact hx
def intBin(op:BinOp)(k:IntKind)(a b:Int):Option V:=
 match op with
 | .add=>some (.int k (k.wrap (a+b)))
 | .sub=>some (.int k (k.wrap (a-b)))
 | .mul=>some (.int k (k.wrap (a*b)))
 | .quo=>if b=0 then none else some (.int k (k.wrap (a.tdiv b)))
 | .rem=>if b=0 then none else some (.int k (a.tmod b))
 | .and=>some (.int k (k.wrap ((BitVec.ofInt k.bits a &&& BitVec.ofInt k.bits b).toNat)))
 | .or=>some (.int k (k.wrap ((BitVec.ofInt k.bits a ||| BitVec.ofInt k.bits b).toNat)))
 | .xor=>some (.int k (k.wrap ((BitVec.ofInt k.bits a ^^^ BitVec.ofInt k.bits b).toNat)))
 | .eql=>some (.bool (a==b))
 | .neq=>some (.bool (a !=b))
 | .lss=>some (.bool (decide (a<b)))
 | .leq=>some (.bool (decide (a<=b)))
 | .gtr=>some (.bool (decide (b<a)))
 | .geq=>some (.bool (decide (b<=a)))
 | _=>none
def intShift(op:BinOp)(k:IntKind)(a b:Int):Option V:=
 if b<0 then none else match op with
 | .shl=>some (.int k (k.wrap (a*2^(min b.toNat k.bits))))
 | .shr=>some (.int k (a.fdiv (2^(min b.toNat k.bits))))
 | _=>none
def strBin(op:BinOp)(a b:ByteArray):Option V:=
 match op with
 | .add=>if a.size+b.size<=9223372036854775807 then some (.str (a++b)) else none
 | .eql=>some (.bool (a.toList==b.toList))
 | .neq=>some (.bool (!(a.toList==b.toList)))
 | _=>none
def yVP:BinOp->Bool
 | .shl | .shr=>true
 | _=>false
def vBin(P:Program)(op:BinOp)(t:TypeId)(x y:V):Option V:=
 match x,y with
 | .int k a,.int k' b=>bif yVP op then intShift op k a b else if k=k' then intBin op k a b else none
 | .str a,.str b=>strBin op a b
 | .bool a,.bool b=>match P.underlying t,op with
   | some .bool,.eql=>some (.bool (a==b))
   | some .bool,.neq=>some (.bool (!(a==b)))
   | _,_=>none
 | _,_=>none
theorem xMD{P:Program}{op:BinOp}{t:TypeId}{x y z:V}{e f:Operand}{x' y':Value}(hx:VR mu S w x x')(hy:VR mu S w y y')(h:vBin P op t x y=some z):
  ∃u,((do eqGuard op t e f x' y';binOp op t x' y':Sem Value)).run P w= .ok u w/\VR mu S w z u:=by
 cases x <;> cases y <;> simp only[vBin,reduceCtorEq] at h
 case int.int k a k' b=>
  obtain rfl:=hx.int_inv
  obtain rfl:=hy.int_inv
  have hg:(eqGuard op t e f (.int k a) (.int k' b)).run P w= .ok () w:=by
   unfold eqGuard
   cases op <;> simp
  rw[Sem.run_bind,hg,Result.andThen_ok]
  cases op <;> simp only[yVP,cond_true,cond_false] at h
  case shl | shr=>
   unfold intShift at h
   split at h
   ·cases h
   ·rename_i hb
    injection h with h
    subst h
    refine⟨_,?_,.int _ _⟩
    simp[binOp,Op.shift,hb]
  all_goals
   by_cases hk:k=k'
   case neg=>rw[if_neg hk] at h;cases h
   rw[if_pos hk] at h
   subst hk
   unfold intBin at h
   first
    | (dsimp only at h;done)
    | (injection h with h;subst h;first
        | (refine⟨_,?_,.int _ _⟩;simp[binOp,Op.intArith,Op.intBits];done)
        | (refine⟨_,?_,.bool _⟩;simp[binOp,Op.intCmp];done))
    | (dsimp only at h
       split at h
       ·cases h
       ·rename_i hb
        injection h with h;subst h;refine⟨_,?_,.int _ _⟩;simp[binOp,Op.intDiv,hb])
    | cases h
 case str.str a b=>
  obtain rfl:=hx.str_inv
  obtain rfl:=hy.str_inv
  have hg:(eqGuard op t e f (.string a) (.string b)).run P w= .ok () w:=by
   unfold eqGuard
   cases op <;> simp
  rw[Sem.run_bind,hg,Result.andThen_ok]
  cases op <;> simp only[strBin,reduceCtorEq] at h
  case add=>
   split at h
   ·rename_i hs
    injection h with h
    subst h
    have hmax:IntKind.i64.max=9223372036854775807:=by rfl
    refine⟨.string (a++b),?_,.str _⟩
    simp only[binOp,Op.stringOp]
    rw[if_neg (by rw[hmax];omega)]
    rfl
   ·cases h
  case eql=>injection h with h;subst h;refine⟨_,?_,.bool _⟩;simp[binOp,Op.stringOp]
  case neq=>injection h with h;subst h;refine⟨_,?_,.bool _⟩;simp[binOp,Op.stringOp]
 case bool.bool a b=>
  obtain rfl:=hx.bool_inv
  obtain rfl:=hy.bool_inv
  have hg:(eqGuard op t e f (.bool a) (.bool b)).run P w= .ok () w:=by
   unfold eqGuard
   cases op <;> simp
  rw[Sem.run_bind,hg,Result.andThen_ok]
  split at h
  ·rename_i hu
   injection h with h
   subst h
   refine⟨_,?_,.bool _⟩
   have hq:∀d:Nat,(Op.equalIn (d+1) t (.bool a) (.bool b)).run P w= .ok (a==b) w:=fun d=>by simp[Op.equalIn,run_underlying hu]
   show((do pure (.bool (←Op.equalIn (9999+1) t (.bool a) (.bool b)))):Sem Value).run P w=_
   rw[Sem.run_bind,hq 9999]
   rfl
  ·rename_i hu
   injection h with h
   subst h
   refine⟨_,?_,.bool _⟩
   have hq:∀d:Nat,(Op.equalIn (d+1) t (.bool a) (.bool b)).run P w= .ok (a==b) w:=fun d=>by simp[Op.equalIn,run_underlying hu]
   show((do pure (.bool (!(←Op.equalIn (9999+1) t (.bool a) (.bool b))))):Sem Value).run P w=_
   rw[Sem.run_bind,hq 9999]
   rfl
  ·cases h
def vUn(op:UnOp):V->Option V
 | .bool b=>match op with | .not=>some (.bool (!b)) | _=>none
 | .int k n=>match op with | .neg=>some (.int k (k.wrap (0-n))) | _=>none
 | _=>none
theorem xOU{P:Program}{op:UnOp}{x z:V}{x':Value}(hx:VR mu S w x x')(h:vUn op x=some z):∃u,(Op.unary op x').run P w= .ok u w/\VR mu S w z u:=by
 cases x <;> simp only[vUn,reduceCtorEq] at h
 case bool b=>
  obtain rfl:=hx.bool_inv
  cases op <;> simp only[Option.some.injEq,reduceCtorEq] at h
  subst h
  refine⟨_,?_,.bool _⟩;simp[Op.unary]
 case int k n=>
  obtain rfl:=hx.int_inv
  cases op <;> simp only[Option.some.injEq,reduceCtorEq] at h
  subst h
  refine⟨_,?_,.int _ _⟩;simp[Op.unary,Op.intArith]
def vExt(i:Nat):V->Option V
 | .tup vs=>vs[i]?
 | _=>none
theorem xMF{P:Program}{i:Nat}{x z:V}{x':Value}(hx:VR mu S w x x')(h:vExt i x=some z):∃u,(Instr.extract x' i).run P w= .ok u w/\VR mu S w z u:=by
 cases x <;> simp only[vExt,reduceCtorEq] at h
 case tup vs=>
  obtain⟨us,rfl,hr⟩:=hx.tup_inv
  obtain⟨v,hv,hvr⟩:=hr.get h
  refine⟨v,?_,hvr⟩
  simp[Instr.extract,hv]
def partOf(P:Program)(t:TypeId)(cs:List V)(off:Nat):Option V:=
 (P.underlying t).bind fun d=>(P.info? t).bind fun i=>bif d.isRow then(bif Nat.ble (off+i.size) cs.length then some (.agg ((cs.drop off).take i.size)) else none) else cs[off]?
theorem yYk{P:Program}{t:TypeId}{cs:List V}{vs:List Value}{off:Nat}{z:V}(hx:VRs mu S w cs vs)(h1:∀u∈vs,u.oneCell'=true)(h:partOf P t cs off=some z):
  ∃u,(part t vs.toArray off).run P w= .ok u w/\VR mu S w z u:=by
 unfold partOf at h
 obtain⟨d,hd,h⟩:=Option.bind_eq_some_iff.1 h
 obtain⟨i,hi,h⟩:=Option.bind_eq_some_iff.1 h
 have hag:(isAgg t).run P w= .ok d.isRow w:=by
  unfold isAgg
  rw[Sem.run_bind,run_underlying hd w]
  cases d <;> simp[TypeDesc.isRow]
 cases hr:d.isRow with
 | true=>
   rw[hr] at h hag
   cases hb:Nat.ble (off+i.size) cs.length with
   | false=>rw[hb] at h;cases h
   | true=>
     rw[hb] at h
     simp only[cond_true,Option.some.injEq] at h
     subst h
     refine⟨.agg ((vs.drop off).take i.size).toArray,?_,.of_agg ((hx.drop off).take _) (fun u hu=>h1 u (List.mem_of_mem_drop (List.mem_of_mem_take hu)))⟩
     simp[part,hag,sizeOf,typeInfo,hi]
 | false=>
   rw[hr] at h hag
   simp only[cond_false] at h
   obtain⟨v,hv,hvr⟩:=hx.get h
   refine⟨v,?_,hvr⟩
   simp[part,hag,hv]
def vField(P:Program)(t:TypeId)(f:Nat):V->Option V
 | .agg cs=>match P.underlying t with
   | some (.struct fs)=>(fs[f]?).bind fun g=>partOf P g.type cs g.offset
   | _=>none
 | _=>none
theorem xIT{P:Program}{t:TypeId}{f:Nat}{x z:V}{x':Value}(hx:VR mu S w x x')(h:vField P t f x=some z):∃u,(Instr.field t x' f).run P w= .ok u w/\VR mu S w z u:=by
 cases x <;> simp only[vField,reduceCtorEq] at h
 case agg cs=>
  obtain⟨vs,rfl,hr,h1⟩:=hx.agg_inv
  split at h
  ·rename_i fs hu
   obtain⟨g,hg,h⟩:=Option.bind_eq_some_iff.1 h
   obtain⟨u,hu',hur⟩:=yYk (P:=P) hr h1 h
   refine⟨u,?_,hur⟩
   simp[Instr.field,run_underlying hu,hg,asAgg,hu']
  ·cases h
end
end Go.Proofs.YtakljpcmbpaeaaaGreat
