/- The awp calculus, 12: all operations that turn the store; contracts; calls. -/
import Derived.Test.YtakljpcmbpaeaaaGreatMountPlaysM13
set_option linter.unusedSimpArgs false
set_option linter.unusedVariables false
namespace Go.Proofs.YtakljpcmbpaeaaaGreat
open Go.RowKit
section
variable {mu mu' mu'':Mu} {S S' S'':yEn} {B:Dom} {st:St} {w w' w'':World} {fr:Fr} {a:Act}
def sBytes(P:Program)(s d:TypeId)(x:V)(st:St):Option (V×St):=
 match P.underlying s,P.underlying d,x with
 | some .string,some (.slice e),.str b=>match P.underlying e with
   | some (.int .u8)=>some (.bs st.c 0 b.size b.size,st.new ⟨b.data.toList.map fun c=> [.int .u8 (c.toNat:Int)],1,0⟩)
   | _=>none
 | _,_,_=>none
theorem xIB{P:Program}{s d:TypeId}{x y:V}{x':Value}{st':St}(h:SR mu S B st w)(hf:Fr0 mu st)(hB:yV2 B w)(hx:VR mu S w x x')(hs:sBytes P s d x st=some (y,st')):
  ∃u mu' w',(convert s d x').run P w= .ok u w'/\SR mu' S B st' w'/\VR mu' S w' y u/\Out mu S B w st.c mu' w':=by
 unfold sBytes at hs
 split at hs
 ·rename_i e b hus hud
  split at hs
  ·rename_i hue
   rw[Option.some.injEq,Prod.mk.injEq] at hs
   obtain⟨rfl,rfl⟩:=hs
   obtain rfl:=hx.str_inv
   have hrun:=run_bytes_of_string (P:=P) w s d e b hus hud hue
   have hge:b.size<=grownCap w b.size 0 e:=grownCap_ge w b.size 0 e
   have hlen:(b.data.toList.map fun c=> [V.int .u8 (c.toNat:Int)]).length=b.size:=by rw[List.length_map,Array.length_toList];rfl
   have hsz:(bytesRow b (grownCap w b.size 0 e)).size=grownCap w b.size 0 e:=by
    unfold bytesRow
    rw[Array.size_append,Array.size_map,Array.size_replicate]
    show b.size+_=_
    omega
   have harr:bytesRow b (grownCap w b.size 0 e)=(byteCells b++List.replicate (grownCap w b.size 0 e-b.size) (Value.int .u8 0)).toArray:=by
    apply Array.ext'
    simp[bytesRow,byteCells]
   obtain⟨s1,s2⟩:=xEQ (h.drew) hf hB e (b.data.toList.map fun c=> [V.int .u8 (c.toNat:Int)]) 1 b.size (byteCells b) ((bytesRow b (grownCap w b.size 0 e)).size,(bytesRow b (grownCap w b.size 0 e)).size+1) (fun i hi=>by simp)
    (List.replicate (grownCap w b.size 0 e-b.size) (Value.int .u8 0)) (grownCap w b.size 0 e) (by rw[hlen];exact hge) (by rw[hlen];simp) (fun i hi=>by rw[hsz,Bool.and_eq_false_iff];left;exact decide_eq_false (by omega))
    (by rw[yWH];exact⟨by simp[byteCells],fun j hj hj'=>by simp only[byteCells,List.getElem_map];exact .int _ _⟩) (fun u hu=>by obtain⟨_,_,rfl⟩:=List.mem_map.1 hu;rfl) (grownCap w b.size 0 e) b.size hge (Nat.le_refl _) (Nat.le_refl _)
   rw[←harr] at s1 s2
   exact⟨_,_,_,hrun,s1,s2,Out.trans Out.drew (Out.alloc h.drew hf hB _ _)⟩
  ·cases hs
 ·cases hs
theorem xAR{es:List (List V)}{n i j:Nat}{x:V}(h:cellOf (es.take n) i j=some x):i<n/\cellOf es i j=some x:=by
 unfold cellOf at h ⊢
 rw[List.getElem?_take] at h
 by_cases e:i<n
 ·rw[if_pos e] at h;exact⟨e,h⟩
 ·rw[if_neg e] at h;cases h
def sClear(P:Program)(t:TypeId)(x:V)(st:St):Option St:=
 match P.underlying t,x with
 | some (.slice e),.bs b i _ _=>match P.info? e with
   | some ie=>match ie.zero with
     | some z=>(st.get b).bind fun k=>bif Nat.beq z.cells.size k.sz&&z.cells.toList.all (·.oneCell')&&Nat.ble k.lk i then some (st.set b ⟨k.es.take i,k.sz,k.lk⟩) else none
     | none=>none
   | none=>none
 | _,_=>none
theorem xIC{P:Program}{t ty:TypeId}{x:V}{x':Value}{st':St}(h:SR mu S B st w)(hx:VR mu S w x x')(hs:sClear P t x st=some st'):
  ∃w',(Builtin.clear_ #[t] ty #[x']).run P w= .ok (.tuple #[]) w'/\SR mu S B st' w'/\Out mu S B w st.c mu w':=by
 unfold sClear at hs
 split at hs
 ·rename_i e b i n cap hu
  split at hs
  ·rename_i ie hi
   split at hs
   ·rename_i z hz
    obtain⟨k,hk,hs⟩:=Option.bind_eq_some_iff.1 hs
    rw[Bool.cond_eq_ite] at hs
    split at hs
    ·rename_i hq
     rw[Bool.and_eq_true,Bool.and_eq_true] at hq
     obtain⟨⟨q1,q2⟩,q3⟩:=hq
     injection hs with hs
     subst hs
     have q1:=Nat.eq_of_beq_eq_true q1
     have q3:=Nat.le_of_ble_eq_true q3
     obtain⟨L,A,c,hL,rfl,hn,hc,hA⟩:=hx.bs_inv
     have hm:=hx.bs_reg hL
     obtain⟨L',hL',hbr,hg⟩:=h.loc b k hk
     rw[hL] at hL';injection hL' with hL';subst hL'
     have hLs:k.sz=L.sz:=hbr.sz
     have hlen:=hbr.len hm
     have hlk:=hbr.lk
     have hrow:∀i' (hi':i'<(k.es.take i).length),(k.es.take i)[i'].length=L.sz:=fun i' hi'=>by
      rw[List.getElem_take];exact hbr.row i' (by simp only[List.length_take] at hi';omega)
     have hl1:(k.es.take i).length<=L.lim:=by simp only[List.length_take];omega
     have hl2:k.lk<=(k.es.take i).length:=by simp only[List.length_take];omega
     rcases Nat.eq_zero_or_pos n with rfl | hpos
     ·obtain⟨s1,s2,-⟩:=h.setCells (k':=⟨k.es.take i,k.sz,k.lk⟩) hk hL hm [] (k.lk*L.sz) (Nat.le_refl _) (by simp only[List.length_nil,Nat.add_zero];exact Nat.mul_le_mul_right _ (by omega)) (fun u hu=>absurd hu (by simp)) rfl rfl hl1 hl2 hrow
        (fun i' j' y hy=> .inr ⟨by simp only[List.length_nil];omega,(xAR hy).2⟩)
      refine⟨w,?_,s1,s2⟩
      cases A <;> simp[Builtin.clear_,run_underlying hu]
     ·rcases hA with hA | ⟨rfl,hlim⟩
      ·omega
      ·have hul:(Builtin.zeroCells z.cells n).toList.length=n*L.sz:=by rw[Array.length_toList,yGR,q1,hLs]
       have hone:∀u∈(Builtin.zeroCells z.cells n).toList,u.oneCell'=true:=fun u hu=>by
        obtain⟨j,hj,rfl⟩:=List.getElem_of_mem hu
        have hj':j<n*z.cells.size:=by rw[←yGR];simpa using hj
        have hp:0<z.cells.size:=Nat.pos_of_mul_pos_left (by omega:0<n*z.cells.size)
        have hm':j%z.cells.size<z.cells.size:=Nat.mod_lt _ hp
        have:(Builtin.zeroCells z.cells n).toList[j]=z.cells[j%z.cells.size]:=by simp[Builtin.zeroCells,hm']
        rw[this]
        exact List.all_eq_true.1 q2 _ (by simp)
       obtain⟨s1,s2,s3⟩:=h.setCells (k':=⟨k.es.take i,k.sz,k.lk⟩) hk hL hm (Builtin.zeroCells z.cells n).toList (i*L.sz) (Nat.mul_le_mul_right _ q3) (by
         rw[hul,←Nat.add_mul];exact Nat.mul_le_mul_right _ (by omega)) hone rfl rfl hl1 hl2 hrow
        (fun i' j' y hy=>by
          right
          obtain⟨k1,k2⟩:=xAR hy
          refine⟨?_,k2⟩
          obtain⟨hi2,hj2,_⟩:=yJq k2
          have hj3:j'<L.sz:=by rw[←hbr.row i' hi2];exact hj2
          have:(i'+1)*L.sz<=i*L.sz:=Nat.mul_le_mul_right _ k1
          rw[Nat.succ_mul] at this
          omega)
       refine⟨_,?_,s1,s2⟩
       obtain⟨m,rfl⟩:∃m,n=m+1:=⟨n-1,by omega⟩
       have hst:=run_storeCells_cells (P:=P) L.g (L.o+i*L.sz) (Builtin.zeroCells z.cells (m+1)).toList 0 w (fun j hj=>by rw[Nat.add_zero];exact(s3 j hj).1) (fun j hj=>by rw[Nat.add_zero];exact(s3 j hj).2) hone
       rw[Nat.add_zero] at hst
       simp[Builtin.clear_,run_underlying hu,zeroValue,typeInfo,hi,hz,hst,Result.andThen]
    ·cases hs
   ·cases hs
  ·cases hs
 ·cases hs
theorem xLy{P:Program}{t:TypeId}{x:V}{st':St}(hs:sClear P t x st=some st'){b:Nat}(h:st.get b=none):st'.get b=none:=by
 unfold sClear at hs
 split at hs
 ·split at hs
  ·split at hs
   ·obtain⟨k,hk,hs⟩:=Option.bind_eq_some_iff.1 hs
    rw[Bool.cond_eq_ite] at hs
    split at hs
    ·injection hs with hs;subst hs
     rw[St.get_set]
     split
     ·rename_i e;subst e;rw[hk] at h;cases h
     ·exact h
    ·cases hs
   ·cases hs
  ·cases hs
 ·cases hs
def sop0(P:Program)(op:Op)(fr:Fr)(st:St):Option (V×St):=
 match op with
 | .alloc t=>sAlloc P t st
 | .box _ x=>xQb (ev fr x) st
 | .buildSlice t n ps=>sBuildSlice P t n (ps.toList.map fun p=>(p.1,ev fr p.2)) st
 | .makeSlice t l c=>sMake P t (ev fr l) (ev fr c) st
 | .store t p x=>(sStore P t (ev fr p) (ev fr x) st).map fun st'=>(.tup [],st')
 | .convert s d x=>sBytes P s d (ev fr x) st
 | .makeMap _ r=>match r with | none=>some (.mp st.c,st.new ⟨[],2,0⟩) | some _=>none
 | .insert t m k x=>(yGH P t (ev fr m) (ev fr k) (ev fr x) st).map fun st'=>(.tup [],st')
 | .mapUpdate t m k x=>(yGH P t (ev fr m) (ev fr k) (ev fr x) st).map fun st'=>(.tup [],st')
 | .call c=>match c.callee with
   | .builtin .append=>match c.args.toList,c.argTypes.toList with
     | [s,x],[t,t2]=>sAppend P t t2 (ev fr s) (ev fr x) st
     | _,_=>none
   | .builtin .clear=>match c.args.toList,c.argTypes.toList with
     | [s],[t]=>(sClear P t (ev fr s) st).map fun st'=>(.tup [],st')
     | _,_=>none
   | _=>none
 | _=>none
def sop(P:Program)(op:Op)(fr:Fr)(st:St):Option (V×St):=(sop0 P op fr st).map fun p=>(p.1,⟨p.2.get,st.c+1⟩)
def xDl(P:Program)(o:Oper)(a:Act)(w:World)(u:Value)(w':World):Prop:=
 (execOp a.eval o).run P w= .ok (.value u) w'\/((execOp a.eval o).run P w= .ok .skip w'/\u=Go.undef)
theorem xDl.wp{P:Program}{o:Oper}{u:Value}{K:Act->World->Prop}{Q:Exit->Act->World->Prop}(h:xDl P o a w u w')(hK:K (a.put o.dst u) w'):o.wp P a w K Q:=by
 unfold Oper.wp
 rcases h with h | ⟨h,rfl⟩
 ·rw[h];exact hK
 ·rw[h];exact hK
theorem SR.c(h:SR mu S B st w)(n:Nat):SR mu S B ⟨st.get,n⟩ w:=⟨h.loc,h.gdis,h.exS,h.sb⟩
theorem xII{P:Program}{o:Oper}{x:V}{st':St}(h:SR mu S B st w)(hf:Fr0 mu st)(hB:yV2 B w)(hfr:FR mu S w fr a)(hs0:sop P o.op fr st=some (x,st')):
  ∃u mu' w',xDl P o a w u w'/\SR mu' S B st' w'/\VR mu' S w' x u/\Out mu S B w st.c mu' w'/\st'.c=st.c+1:=by
 obtain⟨⟨x0,st0⟩,hs,e⟩:=Option.map_eq_some_iff.1 hs0
 rw[Prod.mk.injEq] at e
 obtain⟨rfl,rfl⟩:=e
 clear hs0
 suffices hh:∃u mu' w',xDl P o a w u w'/\SR mu' S B st0 w'/\VR mu' S w' x0 u/\Out mu S B w st.c mu' w' by
  obtain⟨u,mu',w',h1,h2,h3,h4⟩:=hh
  exact⟨u,mu',w',h1,h2.c _,h3,h4,rfl⟩
 obtain⟨dst,op,ty,pos,after,guard⟩:=o
 dsimp only at hs
 have lift:∀(s:Sem Value) (u:Value) (w':World),s.run P w= .ok u w'->((do pure (.value (←s)):Sem Next)).run P w= .ok (.value u) w':=fun s u w' h=>by
  rw[Sem.run_bind,h];rfl
 cases op
 case alloc t=>
  have hs:sAlloc P t st=some (x0,st0):=hs
  obtain⟨u,mu',w',h1,h2⟩:=xIA (P:=P) h hf hB hs
  exact⟨u,mu',w',.inl (lift _ _ _ h1),h2⟩
 case box t y=>
  have hs:xQb (ev fr y) st=some (x0,st0):=hs
  obtain⟨u,mu',w',h1,h2⟩:=xLw (P:=P) (t:=t) h hf hB (hfr.at_ y) hs
  exact⟨u,mu',w',.inl (lift _ _ _ h1),h2⟩
 case buildSlice t n ps=>
  have hs:sBuildSlice P t n (ps.toList.map fun p=>(p.1,ev fr p.2)) st=some (x0,st0):=hs
  obtain⟨u,mu',w',h1,h2⟩:=yYG (P:=P) (parts':=ps.map fun(i,x)=>(i,a.eval x)) h hf hB (by
   refine⟨by simp,fun j hj hj'=>?_⟩
   simp only[List.getElem_map,Array.toList_map]
   exact⟨trivial,hfr.at_ _⟩) hs
  exact⟨u,mu',w',.inl (lift _ _ _ h1),h2⟩
 case makeSlice t l c=>
  have hs:sMake P t (ev fr l) (ev fr c) st=some (x0,st0):=hs
  obtain⟨u,mu',w',h1,h2⟩:=xJs (P:=P) h hf hB (hfr.at_ l) (hfr.at_ c) hs
  exact⟨u,mu',w',.inl (lift _ _ _ h1),h2⟩
 case store t p y=>
  have hs:(sStore P t (ev fr p) (ev fr y) st).map (fun st'=>(V.tup [],st'))=some (x0,st0):=hs
  obtain⟨st1,hs1,e⟩:=Option.map_eq_some_iff.1 hs
  rw[Prod.mk.injEq] at e
  obtain⟨rfl,rfl⟩:=e
  obtain⟨w',h1,h2,h3⟩:=xID (P:=P) h (hfr.at_ p) (hfr.at_ y) hs1
  refine⟨Go.undef,mu,w',.inr ⟨?_,rfl⟩,h2,.tup [] [] rfl (fun _ h=>absurd h (by simp)),h3⟩
  show((do Instr.storeAt t (a.eval p) (a.eval y);pure .skip:Sem Next)).run P w=_
  rw[Sem.run_bind,h1];rfl
 case convert s d y=>
  have hs:sBytes P s d (ev fr y) st=some (x0,st0):=hs
  obtain⟨u,mu',w',h1,h2⟩:=xIB (P:=P) h hf hB (hfr.at_ y) hs
  exact⟨u,mu',w',.inl (lift _ _ _ h1),h2⟩
 case makeMap t r=>
  cases r with
  | some r=>cases hs
  | none=>
    have hs:some (V.mp st.c,st.new ⟨[],2,0⟩)=some (x0,st0):=hs
    injection hs with hs
    injection hs with e1 e2
    subst e1 e2
    exact⟨.map (some w.heap.size),_,w.alloc (.map #[] 0),.inl (lift _ _ _ rfl),h.newMap hf hB,.mp _ _ (Mu.put_same _ _ _) rfl,Out.alloc h hf hB _ _⟩
 case insert t m k y=>
  have hs:(yGH P t (ev fr m) (ev fr k) (ev fr y) st).map (fun st'=>(V.tup [],st'))=some (x0,st0):=hs
  obtain⟨st1,hs1,e⟩:=Option.map_eq_some_iff.1 hs
  rw[Prod.mk.injEq] at e
  obtain⟨rfl,rfl⟩:=e
  obtain⟨w',h1,h2,h3,h4⟩:=yW5 (P:=P) h (hfr.at_ m) (hfr.at_ k) (hfr.at_ y) hs1
  refine⟨Go.undef,mu,w',.inr ⟨?_,rfl⟩,h2,.tup [] [] rfl (fun _ h=>absurd h (by simp)),⟨fun _ _ h=>h,fun _ _=>rfl,h3,h4⟩⟩
  show((do Instr.mapUpdate t (a.eval m) (a.eval k) (a.eval y);pure .skip:Sem Next)).run P w=_
  rw[Sem.run_bind,h1];rfl
 case mapUpdate t m k y=>
  have hs:(yGH P t (ev fr m) (ev fr k) (ev fr y) st).map (fun st'=>(V.tup [],st'))=some (x0,st0):=hs
  obtain⟨st1,hs1,e⟩:=Option.map_eq_some_iff.1 hs
  rw[Prod.mk.injEq] at e
  obtain⟨rfl,rfl⟩:=e
  obtain⟨w',h1,h2,h3,h4⟩:=yW5 (P:=P) h (hfr.at_ m) (hfr.at_ k) (hfr.at_ y) hs1
  refine⟨Go.undef,mu,w',.inr ⟨?_,rfl⟩,h2,.tup [] [] rfl (fun _ h=>absurd h (by simp)),⟨fun _ _ h=>h,fun _ _=>rfl,h3,h4⟩⟩
  show((do Instr.mapUpdate t (a.eval m) (a.eval k) (a.eval y);pure .skip:Sem Next)).run P w=_
  rw[Sem.run_bind,h1];rfl
 case call c=>
  obtain⟨callee,args,argTypes⟩:=c
  unfold sop0 at hs
  dsimp only at hs
  split at hs
  ·split at hs
   ·rename_i s y t t2 e1 e2
    obtain⟨u,mu',w',h1,h2⟩:=xFe (P:=P) (ty:=ty) h hf hB (hfr.at_ s) (hfr.at_ y) hs
    refine⟨u,mu',w',.inl ?_,h2⟩
    have ha:args=#[s,y]:=by apply Array.ext';simpa using e1
    have ht:argTypes=#[t,t2]:=by apply Array.ext';simpa using e2
    subst ha ht
    show((do pure (.value (←Builtin.append_ #[t,t2] ty (#[s,y].map a.eval))):Sem Next)).run P w=_
    exact lift _ _ _ (by simpa using h1)
   ·cases hs
  ·split at hs
   ·rename_i s t e1 e2
    obtain⟨st1,hs1,e⟩:=Option.map_eq_some_iff.1 hs
    rw[Prod.mk.injEq] at e
    obtain⟨rfl,rfl⟩:=e
    obtain⟨w',h1,h2,h3⟩:=xIC (P:=P) (ty:=ty) h (hfr.at_ s) hs1
    refine⟨.tuple #[],mu,w',.inl ?_,h2,.tup [] [] rfl (fun _ h=>absurd h (by simp)),h3⟩
    have ha:args=#[s]:=by apply Array.ext';simpa using e1
    have ht:argTypes=#[t]:=by apply Array.ext';simpa using e2
    subst ha ht
    show((do pure (.value (←Builtin.clear_ #[t] ty (#[s].map a.eval))):Sem Next)).run P w=_
    exact lift _ _ _ (by simpa using h1)
   ·cases hs
  ·cases hs
 all_goals exact absurd hs (fun hh=>by cases (hh:(none:Option (V×St))=some (x0,st0)))
theorem St.get_new_gt{k:Blk'}{b:Nat}(hb:b≠st.c)(h:st.get b=none):(st.new k).get b=none:=by rw[St.get_new,if_neg hb];exact h
theorem xBk{P:Program}{t:TypeId}{x k v:V}{st':St}(hs:yGH P t x k v st=some st'){b:Nat}(h:st.get b=none):st'.get b=none:=by
 unfold yGH at hs
 split at hs
 ·split at hs
  ·rename_i kd _
   cases hq:isKeyV kd k with
   | false=>rw[hq] at hs;cases hs
   | true=>
     rw[hq,cond_true] at hs
     split at hs
     ·rename_i b'
      obtain⟨blk,hb,hs⟩:=Option.bind_eq_some_iff.1 hs
      generalize hq:(blk.es.all (keyRow kd)&&_)=q at hs
      cases q
      ·cases hs
      ·injection hs with hs;subst hs
       rw[St.get_set]
       split
       ·rename_i e;subst e;rw[hb] at h;cases h
       ·exact h
     ·cases hs
  ·cases hs
 ·cases hs
theorem xOF{P:Program}{op:Op}{x:V}{st':St}(hs0:sop P op fr st=some (x,st')){b:Nat}(hb:b≠st.c)(h:st.get b=none):st'.get b=none:=by
 obtain⟨⟨x0,st0⟩,hs,e⟩:=Option.map_eq_some_iff.1 hs0
 rw[Prod.mk.injEq] at e
 obtain⟨rfl,rfl⟩:=e
 clear hs0
 show st0.get b=none
 cases op
 case alloc t=>
  have hs:sAlloc P t st=some (x0,st0):=hs
  unfold sAlloc at hs
  split at hs
  ·split at hs
   ·rename_i z _
    cases hz:z.cells.toList.all (·.oneCell') <;> rw[hz] at hs
    ·cases hs
    ·injection hs with hs;injection hs with _ hs;subst hs;exact St.get_new_gt hb h
   ·cases hs
  ·cases hs
 case box t y=>
  have hs:xQb (ev fr y) st=some (x0,st0):=hs
  obtain⟨cs,_,e⟩:=Option.map_eq_some_iff.1 hs
  injection e with _ e;subst e;exact St.get_new_gt hb h
 case buildSlice t n ps=>
  have hs:sBuildSlice P t n (ps.toList.map fun p=>(p.1,ev fr p.2)) st=some (x0,st0):=hs
  unfold sBuildSlice at hs
  split at hs
  ·split at hs
   ·split at hs
    ·cases h0:Nat.beq n 0 <;> rw[h0] at hs
     ·rw[cond_false] at hs
      generalize hq:(Nat.ble _ _&&_&&_)=q at hs
      cases q
      ·cases hs
      ·obtain⟨es,_,e⟩:=Option.map_eq_some_iff.1 hs
       injection e with _ e;subst e;exact St.get_new_gt hb h
     ·rw[cond_true] at hs
      split at hs
      ·injection hs with hs;injection hs with _ hs;subst hs;exact h
      ·cases hs
    ·cases hs
   ·cases hs
  ·cases hs
 case makeSlice t l c=>
  have hs:sMake P t (ev fr l) (ev fr c) st=some (x0,st0):=hs
  unfold sMake at hs
  split at hs
  ·split at hs
   ·split at hs
    ·split at hs
     ·generalize hq:(_&&Nat.beq _ _)=q at hs
      cases q
      ·cases hs
      ·injection hs with hs;injection hs with _ hs;subst hs;exact St.get_new_gt hb h
     ·cases hs
    ·cases hs
   ·cases hs
  ·cases hs
 case makeMap t r=>
  cases r with
  | some r=>cases hs
  | none=>
    have hs:some (V.mp st.c,st.new ⟨[],2,0⟩)=some (x0,st0):=hs
    injection hs with hs
    injection hs with _ e;subst e;exact St.get_new_gt hb h
 case insert t m k y=>
  obtain⟨st1,hs1,e⟩:=Option.map_eq_some_iff.1 (show(yGH P t (ev fr m) (ev fr k) (ev fr y) st).map (fun st'=>(V.tup [],st'))=some (x0,st0) from hs)
  injection e with _ e;subst e
  exact xBk hs1 h
 case mapUpdate t m k y=>
  obtain⟨st1,hs1,e⟩:=Option.map_eq_some_iff.1 (show(yGH P t (ev fr m) (ev fr k) (ev fr y) st).map (fun st'=>(V.tup [],st'))=some (x0,st0) from hs)
  injection e with _ e;subst e
  exact xBk hs1 h
 case store t p y=>
  have hs:(sStore P t (ev fr p) (ev fr y) st).map (fun st'=>(V.tup [],st'))=some (x0,st0):=hs
  obtain⟨st1,hs1,e⟩:=Option.map_eq_some_iff.1 hs
  injection e with _ e;subst e
  clear hs
  unfold sStore at hs1
  split at hs1
  ·generalize hq:(Nat.beq _ _)=q at hs1
   cases q
   ·cases hs1
   ·rw[cond_true] at hs1
    unfold wrAt at hs1
    split at hs1
    ·rename_i b' i j
     obtain⟨k,hk,hs1⟩:=Option.bind_eq_some_iff.1 hs1
     obtain⟨row,_,hs1⟩:=Option.bind_eq_some_iff.1 hs1
     generalize hq:(Nat.ble _ _&&_)=q at hs1
     cases q
     ·cases hs1
     ·injection hs1 with hs1;subst hs1
      rw[St.get_set,if_neg (by rintro rfl;rw[hk] at h;cases h)];exact h
    ·cases hs1
  ·cases hs1
 case convert s d y=>
  have hs:sBytes P s d (ev fr y) st=some (x0,st0):=hs
  unfold sBytes at hs
  split at hs
  ·split at hs
   ·injection hs with hs;injection hs with _ hs;subst hs;exact St.get_new_gt hb h
   ·cases hs
  ·cases hs
 case call c=>
  unfold sop0 at hs
  dsimp only at hs
  split at hs
  ·split at hs
   ·unfold sAppend at hs
    split at hs
    ·split at hs
     ·split at hs
      ·generalize hq:(Nat.beq _ _)=q at hs
       cases q
       ·cases hs
       ·rw[cond_true] at hs
        obtain⟨ns,_,hs⟩:=Option.bind_eq_some_iff.1 hs
        split at hs
        ·rename_i b' i n cap _
         obtain⟨k,hk,hs⟩:=Option.bind_eq_some_iff.1 hs
         generalize hq:(Nat.beq k.sz _)=q at hs
         cases q
         ·cases hs
         ·rw[cond_true] at hs
          generalize hq:(Nat.beq (i+n) _)=q at hs
          cases q
          ·rw[cond_false] at hs
           generalize hq:(Nat.ble _ _&&_&&_)=q at hs
           cases q
           ·cases hs
           ·injection hs with hs;injection hs with _ hs;subst hs
            rw[St.get_set,if_neg (by rintro rfl;rw[hk] at h;cases h)];exact h
          ·rw[cond_true] at hs
           rw[Bool.cond_eq_ite] at hs
           split at hs
           ·injection hs with hs;injection hs with _ hs;subst hs
            refine St.get_new_gt (st:=st.del b') hb ?_
            rw[St.get_del];split
            ·rfl
            ·exact h
           ·cases hs
        ·rw[Bool.cond_eq_ite] at hs
         split at hs
         ·injection hs with hs;injection hs with _ hs;subst hs;exact St.get_new_gt hb h
         ·cases hs
        ·cases hs
      ·cases hs
     ·cases hs
    ·cases hs
   ·cases hs
  ·split at hs
   ·obtain⟨st1,hs1,e⟩:=Option.map_eq_some_iff.1 hs
    injection e with _ e;subst e
    exact xLy hs1 h
   ·cases hs
  ·cases hs
 all_goals exact absurd hs (fun hh=>by cases (hh:(none:Option (V×St))=some (x0,st0)))
end
end Go.Proofs.YtakljpcmbpaeaaaGreat
