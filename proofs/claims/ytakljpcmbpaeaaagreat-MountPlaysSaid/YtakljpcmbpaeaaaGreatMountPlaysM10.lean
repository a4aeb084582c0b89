/- The awp calculus, 8: one word for all operations that leave the store alone. -/
import Derived.Test.YtakljpcmbpaeaaaGreatMountPlaysM09
set_option linter.unusedSimpArgs false
set_option linter.unusedVariables false
namespace Go.Proofs.YtakljpcmbpaeaaaGreat
open Go.RowKit
section
variable {mu:Mu} {S:yEn} {B:Dom} {st:St} {w:World} {fr:Fr} {a:Act}
def vop(P:Program)(op:Op)(fr:Fr)(st:St):Option V:=
 match op with
 | .move x=>some (ev fr x)
 | .assign x=>some (ev fr x)
 | .pick c x y=>vPick (ev fr c) (ev fr x) (ev fr y)
 | .build t ps=>vBuild P t (ps.toList.map fun p=>(p.1,ev fr p.2))
 | .load t x=>match P.underlying t,P.info? t with
   | some d,some i=>vLoad i.size d.isRow st (ev fr x)
   | _,_=>none
 | .nilCheck x=>vNil (ev fr x)
 | .binOp o t x y _=>vBin2 P o t (ev fr x) (ev fr y)
 | .unOp o _ x=>vUn o (ev fr x)
 | .convert s d x=>vConv P s d st (ev fr x)
 | .makeFunc f first caps=>some (.fn f (first.toList.map (ev fr)) (caps.toList.map (ev fr)))
 | .slice t x lo hi mx=>vSlice P t st (ev fr x) (lo.map (ev fr)) (hi.map (ev fr)) (mx.map (ev fr))
 | .fieldAddr s x f=>vFieldAddr P s f (ev fr x)
 | .field t x f=>vField P t f (ev fr x)
 | .indexAddr t x i=>vIndexAddr P t st (ev fr x) (ev fr i)
 | .index t x i=>vIndex P t (ev fr x) (ev fr i)
 | .extract x i=>vExt i (ev fr x)
 | .lookup t x k ok=>vLookup P t st (ev fr x) (ev fr k) ok
 | .call c=>match c.callee with
   | .builtin .len=>match c.args.toList,c.argTypes.toList with
     | [x],[t]=>vLen P t (ev fr x)
     | _,_=>none
   | .builtin .min=>match c.args.toList with
     | x::r=>vMinL false (ev fr x) (r.map (ev fr))
     | _=>none
   | .builtin .max=>match c.args.toList with
     | x::r=>vMinL true (ev fr x) (r.map (ev fr))
     | _=>none
   | .builtin .cap=>match c.args.toList,c.argTypes.toList with
     | [x],[t]=>vCap P t (ev fr x)
     | _,_=>none
   | _=>none
 | _=>none
theorem FR.evs(h:FR mu S w fr a)(l:List Operand):VRs mu S w (l.map (ev fr)) (l.map a.eval):=
 ⟨by simp,fun j hj hj'=>by rw[List.getElem_map,List.getElem_map];exact h.at_ _⟩
theorem FR.evo(h:FR mu S w fr a)(o:Option Operand):VRo mu S w (o.map (ev fr)) (o.map a.eval):=by
 cases o with
 | none=>trivial
 | some x=>exact h.at_ x
theorem xBx{P:Program}{o:Oper}{x:V}(hst:SR mu S B st w)(hf:FR mu S w fr a)(h:vop P o.op fr st=some x):
  ∃u,(execOp a.eval o).run P w= .ok (.value u) w/\VR mu S w x u:=by
 obtain⟨dst,op,ty,pos,after,guard⟩:=o
 dsimp only at h
 have lift:∀(s:Sem Value) (u:Value),s.run P w= .ok u w->((do pure (.value (←s)):Sem Next)).run P w= .ok (.value u) w:=fun s u h=>by
  rw[Sem.run_bind,h];rfl
 cases op <;> simp only[vop,reduceCtorEq] at h
 case move x=>injection h with h;subst h;exact⟨_,rfl,hf.at_ _⟩
 case assign x=>injection h with h;subst h;exact⟨_,rfl,hf.at_ _⟩
 case pick c y z=>exact xKF (hf.at_ _) (hf.at_ _) (hf.at_ _) h
 case build t ps=>
  obtain⟨u,hu,hur⟩:=xIS (P:=P) (parts':=ps.map fun(i,x)=>(i,a.eval x)) (by
   refine⟨by simp,fun j hj hj'=>?_⟩
   simp only[List.getElem_map,Array.toList_map]
   exact⟨trivial,hf.at_ _⟩) h
  exact⟨u,lift _ _ hu,hur⟩
 case load t y=>
  split at h
  ·rename_i d i hd hi
   obtain⟨u,hu,hur⟩:=xBw hd hi hst (hf.at_ y) h
   exact⟨u,lift _ _ hu,hur⟩
  ·cases h
 case nilCheck y=>exact xMK (o:=⟨dst,.nilCheck y,ty,pos,after,guard⟩) rfl (hf.at_ y) h
 case binOp o t y z _=>
  obtain⟨u,hu,hur⟩:=xKC (P:=P) (e:=y) (f:=z) (hf.at_ y) (hf.at_ z) h
  exact⟨u,lift _ _ hu,hur⟩
 case unOp o t y=>
  obtain⟨u,hu,hur⟩:=xOU (P:=P) (hf.at_ y) h
  exact⟨u,lift _ _ hu,hur⟩
 case convert s d y=>
  obtain⟨u,hu,hur⟩:=xKD hst (hf.at_ y) h
  exact⟨u,lift _ _ hu,hur⟩
 case makeFunc f first caps=>
  injection h with h;subst h
  refine⟨_,rfl,?_⟩
  have h1:=hf.evs first.toList
  have h2:=hf.evs caps.toList
  have e1:(first.map a.eval)=(first.toList.map a.eval).toArray:=Array.ext' (by rw[Array.toList_map])
  have e2:(caps.map a.eval)=(caps.toList.map a.eval).toArray:=Array.ext' (by rw[Array.toList_map])
  rw[e1,e2]
  exact .fn _ _ _ _ _ h1.1 h2.1 h1.2 h2.2
 case slice t y lo hi mx=>
  obtain⟨u,hu,hur⟩:=xIV hst (hf.at_ y) (hf.evo lo) (hf.evo hi) (hf.evo mx) h
  exact⟨u,lift _ _ hu,hur⟩
 case fieldAddr s y f=>
  obtain⟨u,hu,hur⟩:=yZx (P:=P) (hf.at_ y) h
  exact⟨u,lift _ _ hu,hur⟩
 case field t y f=>
  obtain⟨u,hu,hur⟩:=xIT (P:=P) (hf.at_ y) h
  exact⟨u,lift _ _ hu,hur⟩
 case indexAddr t y i=>
  obtain⟨u,hu,hur⟩:=yZy hst (hf.at_ y) (hf.at_ i) h
  exact⟨u,lift _ _ hu,hur⟩
 case index t y i=>
  obtain⟨u,hu,hur⟩:=xIU (P:=P) (hf.at_ y) (hf.at_ i) h
  exact⟨u,lift _ _ hu,hur⟩
 case extract y i=>
  obtain⟨u,hu,hur⟩:=xMF (P:=P) (hf.at_ y) h
  exact⟨u,lift _ _ hu,hur⟩
 case lookup t y z ok=>
  obtain⟨u,hu,hur⟩:=xFt hst (hf.at_ y) (hf.at_ z) h
  exact⟨u,lift _ _ hu,hur⟩
 case call c=>
  obtain⟨callee,args,argTypes⟩:=c
  dsimp only at h
  have hb:∀(b:Builtin) (s:Sem Value) (u:Value),builtin b argTypes ty (args.map fun | .const _=>true | _=>false) (args.map a.eval)=(do pure (.value (←s)))->s.run P w= .ok u w→
    (execOp a.eval ⟨dst,.call ⟨.builtin b,args,argTypes⟩,ty,pos,after,guard⟩).run P w= .ok (.value u) w:=fun b s u hb hs=>by
   show((do let d ←resolve a.eval ⟨.builtin b,args,argTypes⟩ ty;invoke d.target d.args):Sem Next).run P w=_
   rw[Sem.run_bind]
   show(builtin b argTypes ty (args.map fun | .const _=>true | _=>false) (args.map a.eval)).run P w=_
   rw[hb,Sem.run_bind,hs]
   rfl
  split at h
  ·split at h
   ·rename_i y t e1 e2
    obtain⟨u,hu,hur⟩:=xMG (P:=P) (ty:=ty) (hf.at_ y) h
    refine⟨u,hb _ (Builtin.len_ argTypes ty (args.map a.eval)) u rfl ?_,hur⟩
    have ha:args=#[y]:=by apply Array.ext';simpa using e1
    have ht:argTypes=#[t]:=by apply Array.ext';simpa using e2
    rw[ha,ht];simpa using hu
   ·cases h
  ·split at h
   ·rename_i y r e1
    obtain⟨u,hu,hur⟩:=xMJ (P:=P) (hf.at_ y) (hf.evs r) h
    refine⟨u,hb _ (Builtin.min_ argTypes ty (args.map a.eval)) u rfl ?_,hur⟩
    have ha:(args.map a.eval).toList=a.eval y::r.map a.eval:=by rw[Array.toList_map,e1];rfl
    unfold Builtin.min_
    rw[ha];exact hu
   ·cases h
  ·split at h
   ·rename_i y r e1
    obtain⟨u,hu,hur⟩:=xMI (P:=P) (hf.at_ y) (hf.evs r) h
    refine⟨u,hb _ (Builtin.max_ argTypes ty (args.map a.eval)) u rfl ?_,hur⟩
    have ha:(args.map a.eval).toList=a.eval y::r.map a.eval:=by rw[Array.toList_map,e1];rfl
    unfold Builtin.max_
    rw[ha];exact hu
   ·cases h
  ·split at h
   ·rename_i y t e1 e2
    obtain⟨u,hu,hur⟩:=xME (P:=P) (ty:=ty) (hf.at_ y) h
    refine⟨u,hb _ (Builtin.cap_ argTypes ty (args.map a.eval)) u rfl ?_,hur⟩
    have ha:args=#[y]:=by apply Array.ext';simpa using e1
    have ht:argTypes=#[t]:=by apply Array.ext';simpa using e2
    rw[ha,ht];simpa using hu
   ·cases h
  ·cases h
end
end Go.Proofs.YtakljpcmbpaeaaaGreat
