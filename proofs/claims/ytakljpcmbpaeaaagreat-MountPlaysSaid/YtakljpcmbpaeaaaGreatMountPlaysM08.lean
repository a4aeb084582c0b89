/- The awp calculus, 7: structs are compared cell by cell. -/
import Derived.Test.YtakljpcmbpaeaaaGreatMountPlaysM07
import Derived.Laws.StructEq
set_option linter.unusedSimpArgs false
set_option linter.unusedVariables false
namespace Go.Proofs.YtakljpcmbpaeaaaGreat
open Go.RowKit
section
variable {mu:Mu} {S:yEn} {B:Dom} {st:St} {w:World} {fr:Fr} {a:Act}
inductive Kd where
 | b | i | s
def veq:List Kd->List V->List V->Option Bool
 | [],[],[]=>some true
 | .i::ks,.int k a::xs,.int k' b::ys=>if k=k' then(veq ks xs ys).map fun q=>(a==b)&&q else none
 | .b::ks,.bool a::xs,.bool b::ys=>(veq ks xs ys).map fun q=>(a==b)&&q
 | .s::ks,.str a::xs,.str b::ys=>(veq ks xs ys).map fun q=>(a.toList==b.toList)&&q
 | _,_,_=>none
theorem yUg{ks:List Kd}{xs ys:List V}{q:Bool}(h:veq ks xs ys=some q):xs.length=ks.length/\ys.length=ks.length:=by
 fun_induction veq generalizing q with
 | case1=>exact⟨rfl,rfl⟩
 | case2 ks k a xs b ys ih=>obtain⟨q',h',_⟩:=Option.map_eq_some_iff.1 h;simp[ih h']
 | case3=>cases h
 | case4 ks a xs b ys ih=>obtain⟨q',h',_⟩:=Option.map_eq_some_iff.1 h;simp[ih h']
 | case5 ks a xs b ys ih=>obtain⟨q',h',_⟩:=Option.map_eq_some_iff.1 h;simp[ih h']
 | case6=>cases h
theorem xOV{ks ls:List Kd}{xs ys:List V}{q:Bool}(h:veq (ks++ls) xs ys=some q):
  ∃q1 q2,veq ks (xs.take ks.length) (ys.take ks.length)=some q1/\veq ls (xs.drop ks.length) (ys.drop ks.length)=some q2/\q=(q1&&q2):=by
 induction ks generalizing xs ys q with
 | nil=>exact⟨true,q,by simp[veq],by simpa using h,by simp⟩
 | cons k ks ih=>
   rw[List.cons_append] at h
   unfold veq at h
   split at h
   ·rename_i e;cases e
   ·rename_i ks' k a xs k' b ys e
    injection e with e1 e2
    subst e1 e2
    split at h
    ·rename_i hk
     obtain⟨q',h',rfl⟩:=Option.map_eq_some_iff.1 h
     obtain⟨q1,q2,e1,e2,rfl⟩:=ih h'
     exact⟨(a==b)&&q1,q2,by simp[veq,hk,e1],by simpa using e2,by rw[Bool.and_assoc]⟩
    ·cases h
   ·rename_i ks' a xs b ys e
    injection e with e1 e2
    subst e1 e2
    obtain⟨q',h',rfl⟩:=Option.map_eq_some_iff.1 h
    obtain⟨q1,q2,e1,e2,rfl⟩:=ih h'
    exact⟨(a==b)&&q1,q2,by simp[veq,e1],by simpa using e2,by rw[Bool.and_assoc]⟩
   ·rename_i ks' a xs b ys e
    injection e with e1 e2
    subst e1 e2
    obtain⟨q',h',rfl⟩:=Option.map_eq_some_iff.1 h
    obtain⟨q1,q2,e1,e2,rfl⟩:=ih h'
    exact⟨(a.toList==b.toList)&&q1,q2,by simp[veq,e1],by simpa using e2,by rw[Bool.and_assoc]⟩
   ·cases h
theorem xFw{xs ys:List V}{q:Bool}(h:veq [] xs ys=some q):q=true:=by
 unfold veq at h
 split at h
 ·injection h with h;exact h.symm
 ·rename_i e;cases e
 ·rename_i e;cases e
 ·rename_i e;cases e
 ·cases h
theorem xTy{xs ys:List V}{q:Bool}(h:veq [Kd.b] xs ys=some q):∃a b,xs= [.bool a]/\ys= [.bool b]/\q=(a==b):=by
 have hl:=yUg h
 unfold veq at h
 split at h
 ·rename_i e;cases e
 ·rename_i e;cases e
 ·rename_i ks a xs b ys e
  injection e with _ e
  subst e
  obtain⟨q',h',rfl⟩:=Option.map_eq_some_iff.1 h
  have e1:xs= []:=List.eq_nil_of_length_eq_zero (by simpa using hl.1)
  have e2:ys= []:=List.eq_nil_of_length_eq_zero (by simpa using hl.2)
  subst e1 e2
  rw[xFw h',Bool.and_true]
  exact⟨a,b,rfl,rfl,rfl⟩
 ·rename_i e;cases e
 ·cases h
theorem xTz{xs ys:List V}{q:Bool}(h:veq [Kd.i] xs ys=some q):∃k a b,xs= [.int k a]/\ys= [.int k b]/\q=(a==b):=by
 have hl:=yUg h
 unfold veq at h
 split at h
 ·rename_i e;cases e
 ·rename_i ks k a xs k' b ys e
  injection e with _ e
  subst e
  split at h
  ·rename_i hk
   subst hk
   obtain⟨q',h',rfl⟩:=Option.map_eq_some_iff.1 h
   have e1:xs= []:=List.eq_nil_of_length_eq_zero (by simpa using hl.1)
   have e2:ys= []:=List.eq_nil_of_length_eq_zero (by simpa using hl.2)
   subst e1 e2
   rw[xFw h',Bool.and_true]
   exact⟨k,a,b,rfl,rfl,rfl⟩
  ·cases h
 ·rename_i e;cases e
 ·rename_i e;cases e
 ·cases h
theorem xT0{xs ys:List V}{q:Bool}(h:veq [Kd.s] xs ys=some q):∃a b,xs= [.str a]/\ys= [.str b]/\q=(a.toList==b.toList):=by
 have hl:=yUg h
 unfold veq at h
 split at h
 ·rename_i e;cases e
 ·rename_i e;cases e
 ·rename_i e;cases e
 ·rename_i ks a xs b ys e
  injection e with _ e
  subst e
  obtain⟨q',h',rfl⟩:=Option.map_eq_some_iff.1 h
  have e1:xs= []:=List.eq_nil_of_length_eq_zero (by simpa using hl.1)
  have e2:ys= []:=List.eq_nil_of_length_eq_zero (by simpa using hl.2)
  subst e1 e2
  rw[xFw h',Bool.and_true]
  exact⟨a,b,rfl,rfl,rfl⟩
 ·cases h
def eqF(rec:TypeId->Option (List Kd)):List Field->Nat->Option (List Kd)
 | [],_=>some []
 | f::fs,off=>bif(f.name != "_")&&Nat.beq f.offset off then(rec f.type).bind fun ks=>(eqF rec fs (off+ks.length)).map (ks++ ·) else none
def eqN(P:Program):Nat->TypeId->Option (List Kd)
 | 0,_=>none
 | d+1,t=>(match P.underlying t with
   | some .bool=>(some [Kd.b]:Option (List Kd))
   | some (.int _)=>some [Kd.i]
   | some .string=>some [Kd.s]
   | some (.struct fs)=>bif P.stoodInHeld t then none else eqF (eqN P d) fs.toList 0
   | _=>none).bind fun ks=>(P.info? t).bind fun i=>bif Nat.beq i.size ks.length then some ks else none
def mkV(P:Program)(t:TypeId)(vs:List Value):Value:=
 match P.underlying t with
 | some (.struct _)=> .agg vs.toArray
 | _=>vs.headD undef
theorem xBi{P:Program}{t:TypeId}{ks:List Kd}{d:Nat}(h:eqN P d t=some ks){vs:List Value}{off:Nat}(hle:off+ks.length<=vs.length)(w:World):
  (part t vs.toArray off).run P w= .ok (mkV P t ((vs.drop off).take ks.length)) w:=by
 cases d with
 | zero=>cases h
 | succ d=>
   unfold eqN at h
   obtain⟨n',h1,h⟩:=Option.bind_eq_some_iff.1 h
   obtain⟨i,hi,h⟩:=Option.bind_eq_some_iff.1 h
   cases hb:Nat.beq i.size n'.length with
   | false=>rw[hb] at h;cases h
   | true=>
     rw[hb,cond_true,Option.some.injEq] at h
     subst h
     have hsz:=Nat.eq_of_beq_eq_true hb
     have one:∀dd,P.underlying t=some dd->dd.isRow=false->n'.length=1->(part t vs.toArray off).run P w= .ok (((vs.drop off).take n'.length).headD undef) w:=by
      intro dd hu hr hn
      rw[hn]
      have hag:(isAgg t).run P w= .ok false w:=by
       unfold isAgg
       rw[Sem.run_bind,run_underlying hu w]
       cases dd <;> simp_all[TypeDesc.isRow]
      have hlt:off<vs.length:=by omega
      have e:(vs.drop off).take 1= [vs[off]]:=by
       rw[List.drop_eq_getElem_cons hlt];rfl
      rw[e]
      simp[part,hag,List.getElem?_eq_getElem hlt]
     split at h1
     ·rename_i hu
      injection h1 with h1
      have:=one _ hu rfl (by rw[←h1];rfl)
      rw[this];unfold mkV;rw[hu]
     ·rename_i k hu
      injection h1 with h1
      have:=one _ hu rfl (by rw[←h1];rfl)
      rw[this];unfold mkV;rw[hu]
     ·rename_i hu
      injection h1 with h1
      have:=one _ hu rfl (by rw[←h1];rfl)
      rw[this];unfold mkV;rw[hu]
     ·rename_i fs hu
      have hag:(isAgg t).run P w= .ok true w:=by
       unfold isAgg
       rw[Sem.run_bind,run_underlying hu w]
       rfl
      unfold mkV
      rw[hu]
      simp[part,hag,sizeOf,typeInfo,hi,hsz]
     ·cases h1
theorem xIs{P:Program}:∀(d:Nat) (t:TypeId) (ks:List Kd) (D:Nat) (cx cy:List V) (vx vy:List Value) (q:Bool) (w:World),eqN P d t=some ks->d<=D->VRs mu S w cx vx->VRs mu S w cy vy→
  veq ks cx cy=some q->(Op.equalIn D t (mkV P t vx) (mkV P t vy)).run P w= .ok q w:=by
 intro d
 induction d with
 | zero=>intro t n D cx cy vx vy q w h;cases h
 | succ d ih=>
   intro t n D cx cy vx vy q w h hD hx hy hq
   obtain⟨D,rfl⟩:∃D',D=D'+1:=⟨D-1,by omega⟩
   unfold eqN at h
   obtain⟨n',h1,h⟩:=Option.bind_eq_some_iff.1 h
   obtain⟨i,hi,h⟩:=Option.bind_eq_some_iff.1 h
   cases hb:Nat.beq i.size n'.length with
   | false=>rw[hb] at h;cases h
   | true=>
     rw[hb,cond_true,Option.some.injEq] at h
     subst h
     have hlen:=yUg hq
     have one:∀x y,cx= [x]->cy= [y]->∃u v,vx= [u]/\vy= [v]/\VR mu S w x u/\VR mu S w y v:=by
      rintro x y rfl rfl
      match vx,vy,hx,hy with
      | [u],[v],hx,hy=>exact⟨u,v,rfl,rfl,hx.2 0 (by simp) (by simp),hy.2 0 (by simp) (by simp)⟩
     split at h1
     ·rename_i hu
      injection h1 with h1
      subst h1
      obtain⟨a,b,rfl,rfl,rfl⟩:=xTy hq
      obtain⟨u,v,rfl,rfl,hxu,hyv⟩:=one _ _ rfl rfl
      obtain rfl:=hxu.bool_inv
      obtain rfl:=hyv.bool_inv
      have:=run_equalIn_bool' (P:=P) w D t a b hu
      unfold mkV;rw[hu];exact this
     ·rename_i k hu
      injection h1 with h1
      subst h1
      obtain⟨k1,a,b,rfl,rfl,rfl⟩:=xTz hq
      obtain⟨u,v,rfl,rfl,hxu,hyv⟩:=one _ _ rfl rfl
      obtain rfl:=hxu.int_inv
      obtain rfl:=hyv.int_inv
      have:=run_equalIn_int (P:=P) w D t k1 k a b hu
      unfold mkV;rw[hu];exact this
     ·rename_i hu
      injection h1 with h1
      subst h1
      obtain⟨a,b,rfl,rfl,rfl⟩:=xT0 hq
      obtain⟨u,v,rfl,rfl,hxu,hyv⟩:=one _ _ rfl rfl
      obtain rfl:=hxu.str_inv
      obtain rfl:=hyv.str_inv
      have:=run_equalIn_string (P:=P) w D t a b hu
      unfold mkV;rw[hu];exact this
     ·rename_i fs hu
      cases hsi:P.stoodInHeld t with
      | true=>rw[hsi] at h1;cases h1
      | false=>
        rw[hsi,cond_false] at h1
        have hfo:P.fieldsOf t=fs:=by unfold Program.fieldsOf;rw[hu]
        have hmk:∀vs,mkV P t vs= .agg vs.toArray:=fun vs=>by unfold mkV;rw[hu]
        rw[hmk,hmk,run_equalIn_struct w D t _ _ (by rw[hfo];exact hu) hsi,hfo]
        have key:∀(l:List Field) (off:Nat) (ms:List Kd) (q:Bool),eqF (eqN P d) l off=some ms->off+ms.length<=cx.length->veq ms (cx.drop off) (cy.drop off)=some q→
          (Op.eqFields D vx.toArray vy.toArray l).run P w= .ok q w:=by
         intro l
         induction l with
         | nil=>
           intro off ms q h1 h2 h3
           simp only[eqF,Option.some.injEq] at h1
           subst h1
           rw[xFw h3]
           rfl
         | cons f l ihl=>
           intro off ms q h1 h2 h3
           unfold eqF at h1
           cases hb:((f.name != "_")&&Nat.beq f.offset off) with
           | false=>rw[hb] at h1;cases h1
           | true=>
             rw[hb,cond_true] at h1
             rw[Bool.and_eq_true,bne_iff_ne] at hb
             obtain⟨ks,hks,h1⟩:=Option.bind_eq_some_iff.1 h1
             obtain⟨ls,hls,rfl⟩:=Option.map_eq_some_iff.1 h1
             have hoff:=Nat.eq_of_beq_eq_true hb.2
             obtain⟨q1,q2,hq1,hq2,rfl⟩:=xOV h3
             rw[List.length_append] at h2
             have hxl:=hx.1
             have hyl:=hy.1
             have p1:=xBi hks (vs:=vx) (off:=off) (by omega) w
             have p2:=xBi hks (vs:=vy) (off:=off) (by omega) w
             have e:=ih f.type ks D _ _ _ _ q1 w hks (by omega) ((hx.drop off).take ks.length) ((hy.drop off).take ks.length) hq1
             have r:=ihl (off+ks.length) ls q2 hls (by omega) (by rw[List.drop_drop,List.drop_drop] at hq2;exact hq2)
             unfold Op.eqFields
             rw[if_pos hb.1,hoff]
             simp only[Sem.run_bind,p1,Result.andThen_ok,p2,e]
             cases q1
             ·simp
             ·simp[r]
        exact key fs.toList 0 n' q h1 (by omega) (by simpa using hq)
     ·cases h1
def vBin2(P:Program)(op:BinOp)(t:TypeId)(x y:V):Option V:=
 match x,y with
 | .agg xs,.agg ys=>bif P.eqGuardType P.depth t then none else
   match P.underlying t with
   | some (.struct _)=>(eqN P 50 t).bind fun ks=>(veq ks xs ys).bind fun q=>match op with | .eql=>some (.bool q) | .neq=>some (.bool (!q)) | _=>none
   | _=>none
 | _,_=>vBin P op t x y
theorem xKC{P:Program}{op:BinOp}{t:TypeId}{x y z:V}{e f:Operand}{x' y':Value}(hx:VR mu S w x x')(hy:VR mu S w y y')(h:vBin2 P op t x y=some z):
  ∃u,((do eqGuard op t e f x' y';binOp op t x' y':Sem Value)).run P w= .ok u w/\VR mu S w z u:=by
 unfold vBin2 at h
 split at h
 ·rename_i xs ys
  obtain⟨vx,rfl,hvx,_⟩:=hx.agg_inv
  obtain⟨vy,rfl,hvy,_⟩:=hy.agg_inv
  cases hg:P.eqGuardType P.depth t with
  | true=>rw[hg] at h;cases h
  | false=>
    rw[hg,cond_false] at h
    split at h
    ·rename_i fs hu
     obtain⟨ks,hks,h⟩:=Option.bind_eq_some_iff.1 h
     obtain⟨q,hq,h⟩:=Option.bind_eq_some_iff.1 h
     have hmk:∀vs,mkV P t vs= .agg vs.toArray:=fun vs=>by unfold mkV;rw[hu]
     have he:=xIs (P:=P) 50 t ks 10000 xs ys vx vy q w hks (by omega) hvx hvy hq
     rw[hmk,hmk] at he
     rw[Sem.run_bind,run_eqGuard_agg w op t e f _ _ hg,Result.andThen_ok]
     split at h
     ·injection h with h;subst h
      refine⟨.bool q,?_,.bool _⟩
      rw[run_eql_struct,he];rfl
     ·injection h with h;subst h
      refine⟨.bool (!q),?_,.bool _⟩
      rw[run_neq_struct,he];rfl
     ·cases h
    ·cases h
 ·exact xMD hx hy h
end
end Go.Proofs.YtakljpcmbpaeaaaGreat
