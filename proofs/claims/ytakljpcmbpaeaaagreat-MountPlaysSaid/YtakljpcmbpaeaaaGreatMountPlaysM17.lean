/- The awp calculus, 14: an operation, a region in the text's order. -/
import Derived.Test.YtakljpcmbpaeaaaGreatMountPlaysM16
import Derived.Lib.SliceRun
set_option linter.unusedSimpArgs false
set_option linter.unusedVariables false
namespace Go.Proofs.YtakljpcmbpaeaaaGreat
open Go.RowKit
def AR(mu0:Mu)(S0:yEn)(B:Dom)(w0:World)(nt:Nat)(fr:Fr)(st:St)(a:Act)(w:World):Prop:=
 ∃mu S,SR mu S B st w/\FrA mu st/\FR mu S w fr a/\yV2 B w/\Ev mu0 S0 B w0 mu S w/\a.defers= []/\a.tmps.size=nt
def xGB(o:Option V)(K:V->Prop):Prop:=match o with | some x=>K x | none=>False
def yVD(o:Option (V×St))(K:V->St->Prop):Prop:=match o with | some p=>K p.1 p.2 | none=>False
theorem xDE{o:Option V}{K:V->Prop}(h:xGB o K):∃x,o=some x/\K x:=by
 cases o with
 | none=>exact h.elim
 | some x=>exact⟨x,rfl,h⟩
theorem xK4{o:Option (V×St)}{K:V->St->Prop}(h:yVD o K):∃x st',o=some (x,st')/\K x st':=by
 cases o with
 | none=>exact h.elim
 | some p=>exact⟨p.1,p.2,rfl,h⟩
def yVQ(P:Program)(s d:TypeId):Bool:=match P.underlying s,P.underlying d with | some .string,some (.slice _)=>true | _,_=>false
def isNilC:Operand->Bool
 | .const (.slice none _ _)=>true
 | _=>false
def nilB(P:Program)(o:BinOp)(t:TypeId)(x:V):Option (Option Bool):=
 match P.underlying t,o with
 | some (.slice _),.eql=>(match x with
   | .sl es _=>some (bif Nat.beq es.length 0 then none else some false)
   | .bs _ _ n _=>some (bif Nat.beq n 0 then none else some false)
   | _=>none)
 | _,_=>none
def anK(b:Option (Option Bool))(K:V->Prop):Prop:=match b with
 | none=>False
 | some none=>K (.bool true)/\K (.bool false)
 | some (some q)=>K (.bool q)
def xRy(P:Program)(o:BinOp)(t:TypeId)(x:V)(K:V->Prop):Prop:=anK (nilB P o t x) K
def aop(P:Program)(op:Op)(fr:Fr)(st:St)(K:V->St->Prop):Prop:=
 match op with
 | .alloc _=>yVD (sop P op fr st) K
 | .box _ _=>yVD (sop P op fr st) K
 | .buildSlice _ _ _=>yVD (sop P op fr st) K
 | .makeSlice _ _ _=>yVD (sop P op fr st) K
 | .store _ _ _=>yVD (sop P op fr st) K
 | .binOp o t x y _=>bif isNilC y then xRy P o t (ev fr x) fun v=>K v st else xGB (vop P op fr st) fun x=>K x st
 | .makeMap _ _=>yVD (sop P op fr st) K
 | .insert _ _ _ _=>yVD (sop P op fr st) K
 | .mapUpdate _ _ _ _=>yVD (sop P op fr st) K
 | .convert s d _=>bif yVQ P s d then yVD (sop P op fr st) K else xGB (vop P op fr st) fun x=>K x st
 | .call c=>match c.callee with
   | .builtin .append=>yVD (sop P op fr st) K
   | .builtin .clear=>yVD (sop P op fr st) K
   | .builtin _=>xGB (vop P op fr st) fun x=>K x st
   | .value f=>match ev fr f with
     | .fn (.func g) first caps=>xMT P g (first++(c.args.toList.map (ev fr)++caps)) st K
     | _=>False
   | .invoke _ _=>False
 | _=>xGB (vop P op fr st) fun x=>K x st
def gval(ops:Array Oper)(fr:Fr)(j:Nat):V:=match (ops[j]?).bind (·.dst) with | some d=>fr d | none=> .tup []
def aops(P:Program)(ops:Array Oper):List Oper->Fr->St->(Fr->St->Prop)->Prop
 | [],fr,st,K=>K fr st
 | o::r,fr,st,K=>match o.guard with
   | none=>aop P o.op fr st fun x st'=>aops P ops r (fr.put o.dst x) st' K
   | some (j,want)=>match gval ops fr j with
     | .bool b=>(b=want->aop P o.op fr st fun x st'=>aops P ops r (fr.put o.dst x) st' K)/\(b= !want->aops P ops r (fr.put o.dst (.tup [])) st K)
     | .undef=>False
     | _=>aops P ops r (fr.put o.dst (.tup [])) st K
section
variable {mu0:Mu} {S0:yEn} {B:Dom} {nt:Nat} {w0 w:World} {fr:Fr} {st:St} {a:Act} {P:Program}
theorem VR.undef_{mu:Mu}{S:yEn}:VR mu S w (.tup []) Go.undef:= .tup [] [] rfl (fun _ h=>absurd h (by simp))
theorem AR.skip(h:AR mu0 S0 B w0 nt fr st a w)(d:Option Tmp)(hd:∀t,d=some t->t<nt):AR mu0 S0 B w0 nt (fr.put d (.tup [])) st (a.put d Go.undef) w:=by
 obtain⟨mu,S,h1,h2,h3,h4,h5,h6,h7⟩:=h
 refine⟨mu,S,h1,h2,h3.put (fun t e=>by rw[h7];exact hd t e) .undef_,h4,h5,?_,?_⟩
 ·cases d <;> exact h6
 ·cases d with
  | none=>exact h7
  | some t=>simpa[Act.put] using h7
theorem AR.put{mu:Mu}{S:yEn}{w':World}{mu':Mu}{S':yEn}{st':St}{x:V}{u:Value}(hf:FR mu S w fr a)(hdf:a.defers= [])(hsz:a.tmps.size=nt)(h0:Ev mu0 S0 B w0 mu S w)(hev:Ev mu S B w mu' S' w')(hB:yV2 B w)
  (hs:SR mu' S' B st' w') (hfa:FrA mu' st') (hv:VR mu' S' w' x u) (d:Option Tmp) (hd:∀t,d=some t->t<nt):AR mu0 S0 B w0 nt (fr.put d x) st' (a.put d u) w':=by
 refine⟨mu',S',hs,hfa,(hf.mono hev.mono hev.sub hev.keeps).put (fun t e=>by rw[hsz];exact hd t e) hv,hB.off hev.below,h0.trans hev,?_,?_⟩
 ·cases d <;> exact hdf
 ·cases d with
  | none=>exact hsz
  | some t=>simpa[Act.put] using hsz
theorem xRi{mu mu':Mu}{S:yEn}{w':World}{op:Op}{x:V}{st':St}(hs:sop P op fr st=some (x,st'))(hf:FrA mu st)(ho:Out mu S B w st.c mu' w')(hc:st'.c=st.c+1):FrA mu' st':=fun b hb=>by
 rw[hc] at hb
 obtain⟨h1,h2⟩:=hf b (by omega)
 exact⟨by rw[ho.oth b (by omega)];exact h1,xOF hs (by omega) h2⟩
theorem xKy{mu:Mu}{S:yEn}{o:BinOp}{t:TypeId}{x:V}{x':Value}{y:Operand}{e:Operand}{K:V->Prop}(hy:isNilC y=true)(hx:VR mu S w x x')(hk:xRy P o t x K):
  ∃b,((do eqGuard o t e y x' (a.eval y);binOp o t x' (a.eval y):Sem Value)).run P w= .ok (.bool b) w/\K (.bool b):=by
 unfold xRy at hk
 cases hn:nilB P o t x with
 | none=>rw[hn] at hk;exact hk.elim
 | some q=>
   rw[hn] at hk
   have hyv:∃n c,a.eval y= .slice none n c:=by
    unfold isNilC at hy
    split at hy
    ·exact⟨_,_,rfl⟩
    ·cases hy
   obtain⟨n,c,hyv⟩:=hyv
   rw[hyv]
   unfold nilB at hn
   split at hn
   ·rename_i e' hu
    have run:∀(A:Option Addr) (m k:Nat),((do eqGuard .eql t e y (.slice A m k) (.slice none n c);binOp .eql t (.slice A m k) (.slice none n c):Sem Value)).run P w= .ok (.bool A.isNone) w:=fun A m k=>by
     have hg:(eqGuard .eql t e y (.slice A m k) (.slice none n c)).run P w= .ok () w:=by simp[eqGuard]
     rw[Sem.run_bind,hg,Result.andThen_ok]
     exact Lib.run_eql_slice_nil w t e' A m k n c hu
    have fin:∀(A:Option Addr) (m:Nat),(0<m->A.isNone=false)->q=(bif Nat.beq m 0 then none else some false)->anK (some q) K->K (.bool A.isNone):=fun A m hA hq hk=>by
     subst hq
     cases hb:Nat.beq m 0 with
     | true=>
       rw[hb,cond_true] at hk
       cases A.isNone with
       | true=>exact hk.1
       | false=>exact hk.2
     | false=>
       rw[hb,cond_false] at hk
       have h0:0<m:=by
        rcases Nat.eq_zero_or_pos m with h | h
        ·rw[h] at hb;cases hb
        ·exact h
       rw[hA h0];exact hk
    split at hn
    ·rename_i es fl
     injection hn with hn
     have hh:∃A c,x'= .slice A es.length c/\(0<es.length->A.isNone=false):=by
      cases hx with
      | sl0 _ A c _=>exact⟨A,c,rfl,fun h=>absurd h (by simp)⟩
      | sl1 _ _ g o c=>exact⟨_,c,rfl,fun _=>rfl⟩
     obtain⟨A,c',rfl,hA⟩:=hh
     exact⟨_,run _ _ _,fin A es.length hA hn.symm hk⟩
    ·rename_i b i m cap
     injection hn with hn
     obtain⟨L,A,c',hL,rfl,hn1,hc,hA⟩:=hx.bs_inv
     refine⟨_,run _ _ _,fin A m (fun h0=>?_) hn.symm hk⟩
     rcases hA with hA | ⟨rfl,_⟩
     ·omega
     ·rfl
    ·cases hn
   ·cases hn
theorem xF4{o:Oper}{K:V->St->Prop}{Q:Exit->Act->World->Prop}(h:AR mu0 S0 B w0 nt fr st a w)(hd:∀t,o.dst=some t->t<nt)(hk:aop P o.op fr st K):
  o.wp P a w (fun a' w'=>∃x st',AR mu0 S0 B w0 nt (fr.put o.dst x) st' a' w'/\K x st') Q:=by
 obtain⟨mu,S,h1,h2,h3,h4,h5,h6,h7⟩:=h
 have hV:xGB (vop P o.op fr st) (fun x=>K x st)->o.wp P a w (fun a' w'=>∃x st',AR mu0 S0 B w0 nt (fr.put o.dst x) st' a' w'/\K x st') Q:=fun hk=>by
  obtain⟨x,hx,hkx⟩:=xDE hk
  obtain⟨u,hu,hur⟩:=xBx h1 h3 hx
  exact xDl.wp (.inl hu) ⟨x,st,AR.put h3 h6 h7 h5 Ev.refl h4 h1 h2 hur o.dst hd,hkx⟩
 have hS:yVD (sop P o.op fr st) K->o.wp P a w (fun a' w'=>∃x st',AR mu0 S0 B w0 nt (fr.put o.dst x) st' a' w'/\K x st') Q:=fun hk=>by
  obtain⟨x,st',hx,hkx⟩:=xK4 hk
  obtain⟨u,mu',w',k1,k2,k3,k4,k5⟩:=xII h1 h2.fr0 h4 h3 hx
  exact xDl.wp k1 ⟨x,st',AR.put h3 h6 h7 h5 k4.ev h4 k2 (xRi hx h2 k4 k5) k3 o.dst hd,hkx⟩
 unfold aop at hk
 split at hk
 ·exact hS hk
 ·exact hS hk
 ·exact hS hk
 ·exact hS hk
 ·exact hS hk
 ·rename_i o' t x y u e
  rw[Bool.cond_eq_ite] at hk
  split at hk
  ·rename_i hy
   obtain⟨b,hrun,hkb⟩:=xKy (a:=a) (w:=w) (e:=x) hy (h3.at_ x) hk
   refine xDl.wp (u:= .bool b) (w':=w) (.inl ?_) ⟨.bool b,st,AR.put h3 h6 h7 h5 Ev.refl h4 h1 h2 (.bool b) o.dst hd,hkb⟩
   obtain⟨dst,op,ty,pos,after,guard⟩:=o
   dsimp only at e
   subst e
   show((do pure (.value (←(do eqGuard o' t x y (a.eval x) (a.eval y);binOp o' t (a.eval x) (a.eval y):Sem Value))):Sem Next)).run P w=_
   rw[Sem.run_bind,hrun];rfl
  ·exact hV hk
 ·exact hS hk
 ·exact hS hk
 ·exact hS hk
 ·rename_i e
  rw[Bool.cond_eq_ite] at hk
  split at hk
  ·exact hS hk
  ·exact hV hk
 ·rename_i c e
  split at hk
  ·exact hS hk
  ·exact hS hk
  ·exact hV hk
  ·rename_i f hc
   obtain⟨callee,args,ats⟩:=c
   dsimp only at hc hk
   subst hc
   split at hk
   ·rename_i g first caps hfn
    have hfv:=h3.at_ f
    rw[hfn] at hfv
    generalize hav:a.eval f=av at hfv
    cases hfv with
    | fn _ _ _ fv cv hl1 hl2 hv1 hv2=>
      have hargs:VRs mu S w (first++(args.toList.map (ev fr)++caps)) (fv++(args.toList.map a.eval++cv)):=
       VRs.append ⟨hl1,hv1⟩ (VRs.append (h3.evs args.toList) ⟨hl2,hv2⟩)
      obtain⟨hcall,hcalls⟩:=xIe h1 h2 h4 hargs hk
      have hrun:=xFd (w:=w) hcall e hav
      unfold Oper.wp
      rw[hrun]
      have harr:(fv++(args.toList.map a.eval++cv)).toArray=fv.toArray++args.map a.eval++cv.toArray:=by
       apply Array.ext';simp
      rw[harr] at hcalls
      refine Calls.mono hcalls ?_
      rintro en w' ⟨v,r,st',mu',S',rfl,hkr,k1,k2,k3,k4⟩
      exact⟨r,st',AR.put h3 h6 h7 h5 k4 h4 k1 k2 k3 o.dst hd,hkr⟩
   ·exact hk.elim
  ·exact hk.elim
 ·exact hV hk
theorem ySl{o:Oper}{ops:Array Oper}{j:Nat}{want b:Bool}{mu:Mu}{S:yEn}(hg:o.guard=some (j,want))(hf:FR mu S w fr a)(hv:gval ops fr j= .bool b):Region.wanted o (yielded ops a.tmps)=(b==want):=by
 unfold Region.wanted
 rw[hg]
 dsimp only
 unfold gval at hv
 unfold yielded
 split at hv
 ·rename_i d hd
  have:=hf d
  rw[hv] at this
  have e:=this.bool_inv
  rw[hd,Option.bind_some]
  have hlt:d<a.tmps.size:=by
   rcases Nat.lt_or_ge d a.tmps.size with h | h
   ·exact h
   ·simp[h,Go.undef] at e
  have e2:a.tmps[d]?=some (.bool b):=by
   rw[Array.getElem?_eq_getElem hlt]
   congr 1
   simpa[hlt] using e
  rw[e2]
  cases b <;> cases want <;> rfl
 ·cases hv
theorem ySk{o:Oper}{ops:Array Oper}{j:Nat}{want:Bool}{mu:Mu}{S:yEn}(hg:o.guard=some (j,want))(hf:FR mu S w fr a)(hv:∀b,gval ops fr j≠ .bool b)(hu:gval ops fr j≠ .undef):Region.wanted o (yielded ops a.tmps)=false:=by
 unfold Region.wanted
 rw[hg]
 dsimp only
 unfold gval at hv hu
 unfold yielded
 split at hv
 ·rename_i d hd
  rw[hd] at hu
  dsimp only at hu
  have:=hf d
  rw[hd,Option.bind_some]
  cases he:a.tmps[d]? with
  | none=>cases want <;> rfl
  | some v=>
    have e:a.tmps.getD d Go.undef=v:=by
     obtain⟨hlt,e⟩:=Array.getElem?_eq_some_iff.1 he
     simp[hlt,e]
    rw[e] at this
    cases v with
    | bool q=>
      exfalso
      generalize hx:fr d=x at this hv hu
      cases this
      ·exact hu rfl
      ·exact hv _ rfl
    | _=>cases want <;> rfl
 ·rename_i hd
  rw[hd]
  cases want <;> rfl
theorem xDB{ops:Array Oper}{K:Fr->St->Prop}{Q:Exit->Act->World->Prop}(hQ:∀fr st a w,AR mu0 S0 B w0 nt fr st a w->K fr st->Q .normal a w):
  ∀(l:List Oper) (fr:Fr) (st:St) (a:Act) (w:World),(∀o∈l,∀t,o.dst=some t->t<nt)->AR mu0 S0 B w0 nt fr st a w->aops P ops l fr st K->wpList P ops Q l a w:=by
 intro l
 induction l with
 | nil=>intro fr st a w _ h hk;exact hQ _ _ _ _ h hk
 | cons o r ih=>
   intro fr st a w hd h hk
   have hdo:=hd o (by simp)
   have hdr:∀o∈r,∀t,o.dst=some t->t<nt:=fun o' ho'=>hd o' (List.mem_cons_of_mem _ ho')
   unfold wpList
   unfold aops at hk
   have hexec:aop P o.op fr st (fun x st'=>aops P ops r (fr.put o.dst x) st' K)->o.wp P a w (wpList P ops Q r) Q:=fun hk=>
    Oper.wp_mono (fun a' w' ⟨x,st',hA,hkx⟩=>ih _ _ _ _ hdr hA hkx) (xF4 h hdo hk)
   split at hk
   ·rename_i hg
    have:Region.wanted o (yielded ops a.tmps)=true:=by unfold Region.wanted;rw[hg]
    rw[if_pos this]
    exact .inl (hexec hk)
   ·rename_i j want hg
    have hfr:∃mu S,FR mu S w fr a:=by obtain⟨mu,S,_,_,h3,_⟩:=h;exact⟨mu,S,h3⟩
    obtain⟨mu,S,hf⟩:=hfr
    split at hk
    ·rename_i b hb
     have hw:=ySl hg hf hb
     by_cases he:b=want
     ·rw[if_pos (by rw[hw,he];simp)]
      exact .inl (hexec (hk.1 he))
     ·have:(b==want)=false:=by simpa using he
      rw[if_neg (by rw[hw,this];simp)]
      exact ih _ _ _ _ hdr (h.skip o.dst hdo) (hk.2 (by cases b <;> cases want <;> simp_all))
    ·exact hk.elim
    ·rename_i h1 h2
     have hw:=ySk hg hf (fun b e=>h1 b e) (fun e=>h2 e)
     rw[if_neg (by rw[hw];simp)]
     exact ih _ _ _ _ hdr (h.skip o.dst hdo) hk
end
end Go.Proofs.YtakljpcmbpaeaaaGreat
