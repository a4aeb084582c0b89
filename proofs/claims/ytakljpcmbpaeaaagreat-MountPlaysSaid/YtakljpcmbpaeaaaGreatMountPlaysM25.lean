/- The symbolic evaluator, 1: slices in a state that bear no names stay so. -/
import Derived.Test.YtakljpcmbpaeaaaGreatMountPlaysM24
set_option linter.unusedSimpArgs false
set_option linter.unusedVariables false
namespace Go.Proofs.YtakljpcmbpaeaaaGreat
open Go.RowKit
inductive PS:V->Prop
 | undef:PS .undef
 | bool (b:Bool):PS (.bool b)
 | int (k:IntKind) (n:Int):PS (.int k n)
 | str (s:ByteArray):PS (.str s)
 | sl (es:List (List V)) (full:Bool) (h:∀r∈es,∀x∈r,Plain x):PS (.sl es full)
 | tp (cs:List V) (h:∀x∈cs,Plain x):PS (.tp cs)
 | nilp:PS .nilp
 | fn (f:Fn) (first caps:List V) (h:∀x∈first,PS x) (h':∀x∈caps,PS x):PS (.fn f first caps)
 | nilfn:PS .nilfn
 | agg (cs:List V) (h:∀x∈cs,PS x):PS (.agg cs)
 | tup (cs:List V) (h:∀x∈cs,PS x):PS (.tup cs)
 | bs (b i n cap:Nat):PS (.bs b i n cap)
 | ptr (b i j:Nat):PS (.ptr b i j)
 | mp (b:Nat):PS (.mp b)
 | ptr0 (b:Nat):PS (.ptr0 b)
theorem Plain.ps{x:V}(h:Plain x):PS x:=by
 induction h with
 | undef=>exact .undef
 | bool b=>exact .bool b
 | int k n=>exact .int k n
 | str s=>exact .str s
 | sl es full h _=>exact .sl es full h
 | tp cs h _=>exact .tp cs h
 | nilp=>exact .nilp
 | fn f a b _ _ h1 h2=>exact .fn f a b h1 h2
 | nilfn=>exact .nilfn
 | agg cs _ h=>exact .agg cs h
 | tup cs _ h=>exact .tup cs h
theorem PS.agg_inv{cs:List V}(h:PS (.agg cs)):∀x∈cs,PS x:=by cases h;assumption
theorem PS.tup_inv{cs:List V}(h:PS (.tup cs)):∀x∈cs,PS x:=by cases h;assumption
theorem PS.tp_inv{cs:List V}(h:PS (.tp cs)):∀x∈cs,Plain x:=by cases h;assumption
theorem PS.sl_inv{es:List (List V)}{fl:Bool}(h:PS (.sl es fl)):∀r∈es,∀x∈r,Plain x:=by cases h;assumption
theorem PS.fn_inv{f:Fn}{a b:List V}(h:PS (.fn f a b)):(∀x∈a,PS x)/\∀x∈b,PS x:=by cases h;exact⟨by assumption,by assumption⟩
def PSr(es:List (List V)):Prop:=∀r∈es,∀x∈r,PS x
def PSg(g:Nat->Option Blk'):Prop:=∀b k,g b=some k->PSr k.es
def PSf(fr:Fr):Prop:=∀t,PS (fr t)
theorem PS.of_vOf(v:Value):PS (vOf v):=by
 unfold vOf
 split
 ·exact .bool _
 ·exact .int _ _
 ·exact .str _
 ·exact .nilp
 ·exact .sl _ _ (by simp)
 ·exact .nilfn
 ·exact .undef
theorem PSf.ev{fr:Fr}(h:PSf fr)(x:Operand):PS (ev fr x):=by
 cases x with
 | tmp t=>exact h t
 | const v=>exact .of_vOf v
 | global g=>exact .undef
 | func f=>exact .fn _ _ _ (by simp) (by simp)
theorem PSf.evs{fr:Fr}(h:PSf fr)(l:List Operand):∀x∈l.map (Proofs.YtakljpcmbpaeaaaGreat.ev fr),PS x:=fun x hx=>by
 obtain⟨y,_,rfl⟩:=List.mem_map.1 hx
 exact h.ev y
theorem PSf.put{fr:Fr}(h:PSf fr){d:Option Tmp}{x:V}(hx:PS x):PSf (fr.put d x):=by
 cases d with
 | none=>exact h
 | some t=>
   intro s
   show PS (fr.set t x s)
   rw[Fr.set_get]
   split
   ·exact hx
   ·exact h s
section
variable {P:Program} {g:Nat->Option Blk'} {c:Nat} {fr:Fr}
theorem PS.cells{x:V}{cs:List V}(h:PS x)(hc:x.cells?=some cs):∀y∈cs,PS y:=by
 cases x <;> simp only[V.cells?,Option.some.injEq,reduceCtorEq] at hc <;> subst hc
 case agg cs=>exact h.agg_inv
 all_goals (intro y hy;obtain rfl:y=_:=(by simpa using hy);exact h)
theorem xDH{st:St}{p:V}{cs:List V}(hg:PSg st.get)(hp:PS p)(h:cellsAt st p=some cs):∀y∈cs,PS y:=by
 cases p <;> simp only[cellsAt,Option.some.injEq,reduceCtorEq] at h
 case tp ds=>subst h;exact fun y hy=>(hp.tp_inv y hy).ps
 case ptr b i j=>
  obtain⟨k,hk,h⟩:=Option.bind_eq_some_iff.1 h
  obtain⟨r,hr,rfl⟩:=Option.map_eq_some_iff.1 h
  exact fun y hy=>hg b k hk r (List.mem_of_getElem? hr) y (List.mem_of_mem_drop hy)
theorem xGy{t:TypeId}{cs:List V}{off:Nat}{z:V}(hc:∀y∈cs,PS y)(h:partOf P t cs off=some z):PS z:=by
 unfold partOf at h
 obtain⟨d,hd,h⟩:=Option.bind_eq_some_iff.1 h
 obtain⟨i,hi,h⟩:=Option.bind_eq_some_iff.1 h
 cases hr:d.isRow with
 | true=>
   rw[hr,cond_true] at h
   obtain⟨_,h⟩:=yAN h
   injection h with h
   subst h
   exact .agg _ fun y hy=>hc y (List.mem_of_mem_drop (List.mem_of_mem_take hy))
 | false=>
   rw[hr,cond_false] at h
   exact hc z (List.mem_of_getElem? h)
theorem xFr{place:Nat->Option (Nat×Nat)}:∀(ps:List (Nat×V)) (cs zs:List V),(∀y∈cs,PS y)->(∀p∈ps,PS p.2)->vFill place cs ps=some zs->∀y∈zs,PS y
 | [],cs,zs,hc,_,h=>by
   injection h with h
   subst h
   exact hc
 | (i,x)::r,cs,zs,hc,hp,h=>by
   unfold vFill at h
   split at h
   ·rename_i off size ys h1 h2
    obtain⟨_,h⟩:=yAN h
    refine xFr r _ zs ?_ (fun p hp'=>hp p (by simp[hp'])) h
    intro y hy
    rcases List.mem_append.1 hy with hy | hy
    ·exact hc y (List.mem_of_mem_take hy)
    ·rcases List.mem_append.1 hy with hy | hy
     ·exact PS.cells (hp (i,x) (by simp)) h2 y hy
     ·exact hc y (List.mem_of_mem_drop hy)
   ·cases h
theorem xFu{mx:Bool}:∀(l:List V) (x z:V),PS x->vMinL mx x l=some z->PS z
 | [],x,z,hx,h=>by
   injection h with h
   subst h
   exact hx
 | y::l,x,z,hx,h=>by
   cases x <;> cases y <;> simp only[vMinL,reduceCtorEq] at h
   exact xFu l _ z (.int _ _) h
theorem xFv(z:Value):∀y∈z.cells.toList.map vOf,PS y:=fun y hy=>by
 obtain⟨v,_,rfl⟩:=List.mem_map.1 hy
 exact .of_vOf v
theorem xFZ{k:V}:∀(l:List (List V)) (x:V),PSr l->rowOf k l=some x->PS x
 | [],_,_,h=>by cases h
 | r::l,x,hl,h=>by
   unfold rowOf at h
   split at h
   ·cases h
   ·rename_i k' v l' e
    injection e with e1 e2
    subst e1 e2
    cases hk:keyEq k k' with
    | true=>
      rw[hk] at h
      injection h with h
      subst h
      exact hl [k',v] (by simp) v (by simp)
    | false=>
      rw[hk] at h
      exact xFZ _ x (fun r hr=>hl r (by simp[hr])) h
   ·rename_i l' _ e
    injection e with e1 e2
    subst e2
    exact xFZ _ x (fun r hr=>hl r (by simp[hr])) h
theorem yWd{k v:V}(hk:PS k)(hv:PS v):∀(l:List (List V)),PSr l->PSr (putRow k v l)
 | [],_=>fun r hr x hx=>by
   obtain rfl:r=_:=by simpa[putRow] using hr
   rcases List.mem_cons.1 hx with rfl | hx
   ·exact hk
   ·obtain rfl:x=_:=by simpa using hx
    exact hv
 | r::l,hl=>by
   unfold putRow
   split
   ·rename_i e;cases e
   ·rename_i k' v' l' e
    injection e with e1 e2
    subst e1 e2
    cases hq:keyEq k k' with
    | true=>
      intro r hr x hx
      rcases List.mem_cons.1 hr with rfl | hr
      ·rcases List.mem_cons.1 hx with rfl | hx
       ·exact hk
       ·obtain rfl:x=_:=by simpa using hx
        exact hv
      ·exact hl r (by simp[hr]) x hx
    | false=>
      intro r hr x hx
      rcases List.mem_cons.1 hr with rfl | hr
      ·exact hl _ (by simp) x hx
      ·exact yWd hk hv _ (fun r hr=>hl r (by simp[hr])) r hr x hx
   ·rename_i e
    injection e with e1 e2
    subst e1 e2
    intro r hr x hx
    rcases List.mem_cons.1 hr with rfl | hr
    ·exact hl _ (by simp) x hx
    ·exact yWd hk hv _ (fun r hr=>hl r (by simp[hr])) r hr x hx
theorem xNC{op:BinOp}{k:IntKind}{a b:Int}{z:V}(h:intBin op k a b=some z):PS z:=by
 unfold intBin at h
 split at h <;> first
  | (injection h with h;subst h;first | exact .int _ _ | exact .bool _)
  | (split at h <;> first | (injection h with h;subst h;exact .int _ _) | cases h)
  | cases h
theorem xRp{op:BinOp}{t:TypeId}{x y z:V}(h:vBin P op t x y=some z):PS z:=by
 unfold vBin at h
 split at h
 ·rename_i k a k' b
  cases hs:yVP op with
  | true=>
    rw[hs,cond_true] at h
    unfold intShift at h
    split at h
    ·cases h
    ·split at h <;> first | (injection h with h;subst h;exact .int _ _) | cases h
  | false=>
    rw[hs,cond_false] at h
    split at h
    ·exact xNC h
    ·cases h
 ·unfold strBin at h
  split at h
  ·split at h
   ·injection h with h;subst h;exact .str _
   ·cases h
  ·injection h with h;subst h;exact .bool _
  ·injection h with h;subst h;exact .bool _
  ·cases h
 ·split at h <;> first | (injection h with h;subst h;exact .bool _) | cases h
 ·cases h
theorem xPs{op:BinOp}{t:TypeId}{x y z:V}(h:vBin2 P op t x y=some z):PS z:=by
 unfold vBin2 at h
 split at h
 ·cases hg:P.eqGuardType P.depth t with
  | true=>rw[hg] at h;cases h
  | false=>
    rw[hg,cond_false] at h
    split at h
    ·obtain⟨ks,_,h⟩:=Option.bind_eq_some_iff.1 h
     obtain⟨q,_,h⟩:=Option.bind_eq_some_iff.1 h
     split at h <;> first | (injection h with h;subst h;exact .bool _) | cases h
    ·cases h
 ·exact xRp h
theorem xPw{c x y z:V}(hx:PS x)(hy:PS y)(h:vPick c x y=some z):PS z:=by
 cases c <;> simp only[vPick,reduceCtorEq,Option.some.injEq] at h
 subst h
 rename_i b
 cases b
 ·exact hy
 ·exact hx
theorem xQh{op:Op}{x:V}(hf:PSf fr)(hg:PSg g)(h:vop P op fr ⟨g,c⟩=some x):PS x:=by
 cases op <;> simp only[vop,reduceCtorEq] at h
 case move y=>injection h with h;subst h;exact hf.ev _
 case assign y=>injection h with h;subst h;exact hf.ev _
 case pick a b d=>
  exact xPw (hf.ev b) (hf.ev d) h
 case build t ps=>
  have hp:∀p∈ps.toList.map (fun p=>(p.1,ev fr p.2)),PS p.2:=fun p hp=>by
   obtain⟨q,_,rfl⟩:=List.mem_map.1 hp
   exact hf.ev _
  unfold vBuild at h
  split at h
  ·split at h
   ·obtain⟨_,h⟩:=yAN h
    obtain⟨zs,hz,rfl⟩:=Option.map_eq_some_iff.1 h
    exact .agg _ (xFr _ _ _ (xFv _) hp hz)
   ·cases h
  ·split at h
   ·obtain⟨_,h⟩:=yAN h
    obtain⟨zs,hz,rfl⟩:=Option.map_eq_some_iff.1 h
    exact .agg _ (xFr _ _ _ (xFv _) hp hz)
   ·cases h
  ·cases h
 case load t y=>
  split at h
  ·rename_i d i hd hi
   unfold vLoad at h
   split at h
   ·cases h
   ·rename_i cs hc
    have hcs:=xDH hg (hf.ev y) hc
    cases hr:d.isRow with
    | true=>
      rw[hr,cond_true] at h
      obtain⟨_,h⟩:=yAN h
      injection h with h
      subst h
      exact .agg _ fun y hy=>hcs y (List.mem_of_mem_take hy)
    | false=>
      rw[hr,cond_false] at h
      exact hcs x (List.mem_of_mem_head? h)
  ·cases h
 case nilCheck y=>
  have h1:=hf.ev y
  generalize ev fr y=y1 at h h1
  unfold vNil at h
  split at h <;> first | (injection h with h;subst h;exact h1) | cases h
 case binOp o t y z w=>exact xPs h
 case unOp o t y=>
  unfold vUn at h
  split at h
  ·split at h <;> first | (injection h with h;subst h;exact .bool _) | cases h
  ·split at h <;> first | (injection h with h;subst h;exact .int _ _) | cases h
  ·cases h
 case convert s d y=>
  unfold vConv at h
  split at h
  ·split at h
   ·split at h <;> first | (injection h with h;subst h;exact .int _ _) | cases h
   ·split at h
    ·injection h with h;subst h;exact .str _
    ·split at h
     ·obtain⟨es,_,h⟩:=Option.bind_eq_some_iff.1 h
      obtain⟨ns,_,rfl⟩:=Option.map_eq_some_iff.1 h
      exact .str _
     ·cases h
    ·cases h
   ·cases h
  ·cases h
 case makeFunc f a b=>
  injection h with h;subst h
  exact .fn _ _ _ (hf.evs _) (hf.evs _)
 case slice t y lo hi mx=>
  have h1:=hf.ev y
  generalize ev fr y=y1 at h h1
  unfold vSlice at h
  split at h
  ·split at h
   ·obtain⟨q,_,h⟩:=Option.bind_eq_some_iff.1 h
    obtain⟨l,_,rfl⟩:=Option.map_eq_some_iff.1 h
    exact .str _
   ·cases h
  ·obtain⟨ie,_,h⟩:=Option.bind_eq_some_iff.1 h
   cases hb:((hi.map (ev fr)).isNone&&(mx.map (ev fr)).isSome) with
   | true=>rw[hb] at h;cases h
   | false=>
     rw[hb,cond_false] at h
     split at h
     ·rename_i es full
      obtain⟨m,_,h⟩:=Option.bind_eq_some_iff.1 h
      obtain⟨q,_,h⟩:=Option.bind_eq_some_iff.1 h
      obtain⟨l,_,h⟩:=Option.bind_eq_some_iff.1 h
      obtain⟨_,h⟩:=yAN h
      injection h with h
      subst h
      exact .sl _ _ fun r hr=>h1.sl_inv r (List.mem_of_mem_drop (List.mem_of_mem_take hr))
     ·obtain⟨k,_,h⟩:=Option.bind_eq_some_iff.1 h
      obtain⟨_,h⟩:=yAN h
      obtain⟨m,_,h⟩:=Option.bind_eq_some_iff.1 h
      obtain⟨q,_,h⟩:=Option.bind_eq_some_iff.1 h
      obtain⟨l,_,h⟩:=Option.bind_eq_some_iff.1 h
      injection h with h
      subst h
      exact .bs _ _ _ _
     ·cases h
  ·cases h
 case fieldAddr s y f=>
  have h1:=hf.ev y
  generalize ev fr y=y1 at h h1
  unfold vFieldAddr at h
  split at h
  ·obtain⟨q,_,h⟩:=Option.bind_eq_some_iff.1 h
   obtain⟨i,_,h⟩:=Option.bind_eq_some_iff.1 h
   cases hb:Nat.beq i.size 0 with
   | true=>rw[hb] at h;cases h
   | false=>
     rw[hb,cond_false] at h
     split at h
     ·injection h with h;subst h;exact .ptr _ _ _
     ·injection h with h;subst h
      exact .tp _ fun y hy=>h1.tp_inv y (List.mem_of_mem_drop hy)
     ·cases h
  ·cases h
 case field t y f=>
  have h1:=hf.ev y
  generalize ev fr y=y1 at h h1
  unfold vField at h
  split at h
  ·split at h
   ·obtain⟨q,_,h⟩:=Option.bind_eq_some_iff.1 h
    exact xGy h1.agg_inv h
   ·cases h
  ·cases h
 case indexAddr t y i=>
  have h1:=hf.ev y
  generalize ev fr y=y1 at h h1
  unfold vIndexAddr at h
  split at h
  ·rename_i k n _
   cases hn:decide (n<0) with
   | true=>rw[hn] at h;cases h
   | false=>
     rw[hn,cond_false] at h
     split at h
     ·obtain⟨ie,_,h⟩:=Option.bind_eq_some_iff.1 h
      split at h
      ·obtain⟨row,hr,h⟩:=Option.bind_eq_some_iff.1 h
       obtain⟨_,h⟩:=yAN h
       injection h with h;subst h
       exact .tp _ (h1.sl_inv row (List.mem_of_getElem? hr))
      ·obtain⟨k,_,h⟩:=Option.bind_eq_some_iff.1 h
       obtain⟨_,h⟩:=yAN h
       injection h with h;subst h
       exact .ptr _ _ _
      ·cases h
     ·obtain⟨ie,_,h⟩:=Option.bind_eq_some_iff.1 h
      obtain⟨_,h⟩:=yAN h
      split at h
      ·injection h with h;subst h;exact .ptr _ _ _
      ·injection h with h;subst h
       exact .tp _ fun y hy=>h1.tp_inv y (List.mem_of_mem_drop hy)
      ·cases h
     ·cases h
  ·cases h
 case index t y i=>
  have h1:=hf.ev y
  generalize ev fr y=y1 at h h1
  unfold vIndex at h
  split at h
  ·rename_i k n _
   cases hn:decide (n<0) with
   | true=>rw[hn] at h;cases h
   | false=>
     rw[hn,cond_false] at h
     split at h
     ·split at h
      ·obtain⟨b,_,rfl⟩:=Option.map_eq_some_iff.1 h
       exact .int _ _
      ·cases h
     ·split at h
      ·obtain⟨ie,_,h⟩:=Option.bind_eq_some_iff.1 h
       obtain⟨_,h⟩:=yAN h
       exact xGy h1.agg_inv h
      ·cases h
     ·cases h
  ·cases h
 case extract y i=>
  have h1:=hf.ev y
  generalize ev fr y=y1 at h h1
  unfold vExt at h
  split at h
  ·exact h1.tup_inv x (List.mem_of_getElem? h)
  ·cases h
 case lookup t y k ok=>
  have h1:=hf.ev y
  generalize ev fr y=y1 at h h1
  unfold vLookup at h
  split at h
  ·split at h
   ·obtain⟨_,h⟩:=yAN h
    split at h
    ·rename_i b
     obtain⟨blk,hb,h⟩:=Option.bind_eq_some_iff.1 h
     obtain⟨_,h⟩:=yAN h
     have hz:∀t' z,zeroV P t'=some z->PS z:=fun t' z hz=>by
      unfold zeroV at hz
      obtain⟨i,_,hz⟩:=Option.bind_eq_some_iff.1 hz
      obtain⟨v,_,rfl⟩:=Option.map_eq_some_iff.1 hz
      exact .of_vOf v
     unfold lkV at h
     split at h
     ·rename_i v hv
      have hpv:=xFZ _ _ (hg _ blk hb) hv
      injection h with h;subst h
      cases ok
      ·exact hpv
      ·exact .tup _ fun y hy=>by
        rcases List.mem_cons.1 hy with rfl | hy
        ·exact hpv
        ·obtain rfl:y=_:=by simpa using hy
         exact .bool _
     ·obtain⟨z,hz',rfl⟩:=Option.map_eq_some_iff.1 h
      have hpz:=hz _ _ hz'
      cases ok
      ·exact hpz
      ·exact .tup _ fun y hy=>by
        rcases List.mem_cons.1 hy with rfl | hy
        ·exact hpz
        ·obtain rfl:y=_:=by simpa using hy
         exact .bool _
    ·cases h
   ·cases h
  ·cases h
 case call q=>
  split at h
  ·split at h
   ·unfold vLen at h
    split at h <;> first | (split at h <;> first | (injection h with h;subst h;exact .int _ _) | cases h) | cases h
   ·cases h
  ·split at h
   ·rename_i y r _
    exact xFu _ _ _ (hf.ev _) h
   ·cases h
  ·split at h
   ·rename_i y r _
    exact xFu _ _ _ (hf.ev _) h
   ·cases h
  ·split at h
   ·unfold vCap at h
    split at h <;> first | (injection h with h;subst h;exact .int _ _) | cases h
   ·cases h
  ·cases h
theorem PSg.set{st:St}(hg:PSg st.get){b:Nat}{k:Blk'}(hk:PSr k.es):PSg (st.set b k).get:=fun x q hq=>by
 rw[St.get_set] at hq
 split at hq
 ·injection hq with hq;subst hq;exact hk
 ·exact hg x q hq
theorem PSg.new{st:St}(hg:PSg st.get){k:Blk'}(hk:PSr k.es):PSg (st.new k).get:=fun x q hq=>by
 rw[St.get_new] at hq
 split at hq
 ·injection hq with hq;subst hq;exact hk
 ·exact hg x q hq
theorem PSg.del{st:St}(hg:PSg st.get){b:Nat}:PSg (st.del b).get:=fun x q hq=>by
 unfold St.del at hq
 dsimp only at hq
 cases hb:Nat.beq x b with
 | true=>rw[hb] at hq;cases hq
 | false=>rw[hb] at hq;exact hg x q hq
theorem yYX{sz:Nat}:∀(ps:List (Nat×V)) (i:Nat) (es:List (List V)),(∀p∈ps,PS p.2)->denseRows sz i ps=some es->PSr es
 | [],i,es,_,h=>by
   injection h with h
   subst h
   exact fun r hr=>absurd hr (by simp)
 | (j,x)::r,i,es,hp,h=>by
   unfold denseRows at h
   obtain⟨_,h⟩:=yAN h
   obtain⟨cs,hc,h⟩:=Option.bind_eq_some_iff.1 h
   obtain⟨_,h⟩:=yAN h
   obtain⟨es',he,rfl⟩:=Option.map_eq_some_iff.1 h
   intro q hq
   rcases List.mem_cons.1 hq with rfl | hq
   ·exact PS.cells (hp (j,x) (by simp)) hc
   ·exact yYX r _ es' (fun p hp'=>hp p (by simp[hp'])) he q hq
theorem xLF{st:St}{x:V}{es:List (List V)}(hg:PSg st.get)(hx:PS x)(h:elemsOf st x=some es):PSr es:=by
 cases x <;> simp only[elemsOf,Option.some.injEq,reduceCtorEq] at h
 case sl es' fl=>subst h;exact fun r hr y hy=>(hx.sl_inv r hr y hy).ps
 case bs b i n cap=>
  obtain⟨k,hk,h⟩:=Option.bind_eq_some_iff.1 h
  obtain⟨_,h⟩:=yAN h
  injection h with h
  subst h
  exact fun r hr=>hg b k hk r (List.mem_of_mem_drop (List.mem_of_mem_take hr))
theorem xL3{st:St}{t2:TypeId}{sz:Nat}{x:V}{es:List (List V)}(hg:PSg st.get)(hx:PS x)(h:srcRows P t2 sz x st=some es):PSr es:=by
 unfold srcRows at h
 split at h
 ·split at h
  ·obtain⟨_,h⟩:=yAN h
   injection h with h
   subst h
   intro r hr y hy
   obtain⟨q,_,rfl⟩:=List.mem_map.1 hr
   obtain rfl:y=_:=by simpa using hy
   exact .int _ _
  ·cases h
 ·obtain⟨ns,hn,h⟩:=Option.bind_eq_some_iff.1 h
  obtain⟨_,h⟩:=yAN h
  injection h with h
  subst h
  exact xLF hg hx hn
 ·cases h
theorem PSr.append{a b:List (List V)}(ha:PSr a)(hb:PSr b):PSr (a++b):=fun r hr=>by
 rcases List.mem_append.1 hr with hr | hr
 ·exact ha r hr
 ·exact hb r hr
theorem PSr.drop{a:List (List V)}(ha:PSr a)(n:Nat):PSr (a.drop n):=fun r hr=>ha r (List.mem_of_mem_drop hr)
theorem PSr.take{a:List (List V)}(ha:PSr a)(n:Nat):PSr (a.take n):=fun r hr=>ha r (List.mem_of_mem_take hr)
theorem xQe{op:Op}{x:V}{st':St}(hf:PSf fr)(hg:PSg g)(h:sop P op fr ⟨g,c⟩=some (x,st')):PS x/\PSg st'.get:=by
 obtain⟨⟨x0,st0⟩,h0,e⟩:=Option.map_eq_some_iff.1 h
 clear h
 rw[Prod.mk.injEq] at e
 obtain⟨rfl,rfl⟩:=e
 show PS x0/\PSg st0.get
 have h:=h0
 clear h0
 cases op <;> simp only[sop0,reduceCtorEq] at h
 case alloc t=>
  unfold sAlloc at h
  split at h
  ·split at h
   ·obtain⟨_,h⟩:=yAN h
    rw[Option.some.injEq,Prod.mk.injEq] at h
    obtain⟨rfl,rfl⟩:=h
    refine⟨.ptr _ _ _,PSg.new hg fun r hr=>?_⟩
    obtain rfl:r=_:=by simpa using hr
    exact xFv _
   ·cases h
  ·cases h
 case box t y=>
  obtain⟨cs,hc,e⟩:=Option.map_eq_some_iff.1 h
  rw[Prod.mk.injEq] at e
  obtain⟨rfl,rfl⟩:=e
  refine⟨.ptr _ _ _,PSg.new hg fun r hr=>?_⟩
  obtain rfl:r=_:=by simpa using hr
  exact PS.cells (hf.ev y) hc
 case buildSlice t n ps=>
  have hp:∀p∈ps.toList.map (fun p=>(p.1,ev fr p.2)),PS p.2:=fun p hp=>by
   obtain⟨q,_,rfl⟩:=List.mem_map.1 hp
   exact hf.ev _
  unfold sBuildSlice at h
  split at h
  ·split at h
   ·split at h
    ·cases hb:Nat.beq n 0 with
     | true=>
       rw[hb,cond_true] at h
       split at h
       ·rw[Option.some.injEq,Prod.mk.injEq] at h
        obtain⟨rfl,rfl⟩:=h
        exact⟨.sl _ _ (by simp),hg⟩
       ·cases h
     | false=>
       rw[hb,cond_false] at h
       obtain⟨_,h⟩:=yAN h
       obtain⟨es,he,e⟩:=Option.map_eq_some_iff.1 h
       rw[Prod.mk.injEq] at e
       obtain⟨rfl,rfl⟩:=e
       exact⟨.bs _ _ _ _,PSg.new hg (yYX _ _ _ hp he)⟩
    ·cases h
   ·cases h
  ·cases h
 case makeSlice t l q=>
  unfold sMake at h
  split at h
  ·split at h
   ·split at h
    ·split at h
     ·obtain⟨_,h⟩:=yAN h
      rw[Option.some.injEq,Prod.mk.injEq] at h
      obtain⟨rfl,rfl⟩:=h
      refine⟨.bs _ _ _ _,PSg.new hg fun r hr=>?_⟩
      obtain⟨_,rfl⟩:=List.mem_replicate.1 hr
      exact xFv _
     ·cases h
    ·cases h
   ·cases h
  ·cases h
 case store t p y=>
  obtain⟨st1,hq,e⟩:=Option.map_eq_some_iff.1 h
  clear h
  have h:=hq
  clear hq
  rw[Prod.mk.injEq] at e
  obtain⟨rfl,rfl⟩:=e
  refine⟨.tup _ (by simp),?_⟩
  unfold sStore at h
  split at h
  ·rename_i i cs hi hc
   obtain⟨_,h⟩:=yAN h
   have hcs:=PS.cells (hf.ev y) hc
   unfold wrAt at h
   split at h
   ·rename_i b i j
    obtain⟨k,hk,h⟩:=Option.bind_eq_some_iff.1 h
    obtain⟨row,hr,h⟩:=Option.bind_eq_some_iff.1 h
    obtain⟨_,h⟩:=yAN h
    injection h with h
    subst h
    refine PSg.set hg fun r hr'=>?_
    have hrow:=hg _ k hk row (List.mem_of_getElem? hr)
    rcases List.mem_or_eq_of_mem_set hr' with hr' | rfl
    ·exact hg _ k hk r hr'
    ·intro y hy
     rcases List.mem_append.1 hy with hy | hy
     ·exact hrow y (List.mem_of_mem_take hy)
     ·rcases List.mem_append.1 hy with hy | hy
      ·exact hcs y hy
      ·exact hrow y (List.mem_of_mem_drop hy)
   ·cases h
  ·cases h
 case convert s d y=>
  unfold sBytes at h
  split at h
  ·split at h
   ·rw[Option.some.injEq,Prod.mk.injEq] at h
    obtain⟨rfl,rfl⟩:=h
    refine⟨.bs _ _ _ _,PSg.new hg fun r hr y hy=>?_⟩
    obtain⟨q,_,rfl⟩:=List.mem_map.1 hr
    obtain rfl:y=_:=by simpa using hy
    exact .int _ _
   ·cases h
  ·cases h
 case makeMap t r=>
  split at h
  ·rw[Option.some.injEq,Prod.mk.injEq] at h
   obtain⟨rfl,rfl⟩:=h
   exact⟨.mp _,PSg.new hg fun r hr=>absurd hr (by simp)⟩
  ·cases h
 case insert t m k y=>
  obtain⟨st1,hq,e⟩:=Option.map_eq_some_iff.1 h
  clear h
  have h:=hq
  clear hq
  rw[Prod.mk.injEq] at e
  obtain⟨rfl,rfl⟩:=e
  refine⟨.tup _ (by simp),?_⟩
  unfold yGH at h
  split at h
  ·split at h
   ·obtain⟨_,h⟩:=yAN h
    split at h
    ·obtain⟨blk,hb,h⟩:=Option.bind_eq_some_iff.1 h
     obtain⟨_,h⟩:=yAN h
     injection h with h
     subst h
     exact PSg.set hg (yWd (hf.ev _) (hf.ev _) _ (hg _ _ hb))
    ·cases h
   ·cases h
  ·cases h
 case mapUpdate t m k y=>
  obtain⟨st1,hq,e⟩:=Option.map_eq_some_iff.1 h
  clear h
  have h:=hq
  clear hq
  rw[Prod.mk.injEq] at e
  obtain⟨rfl,rfl⟩:=e
  refine⟨.tup _ (by simp),?_⟩
  unfold yGH at h
  split at h
  ·split at h
   ·obtain⟨_,h⟩:=yAN h
    split at h
    ·obtain⟨blk,hb,h⟩:=Option.bind_eq_some_iff.1 h
     obtain⟨_,h⟩:=yAN h
     injection h with h
     subst h
     exact PSg.set hg (yWd (hf.ev _) (hf.ev _) _ (hg _ _ hb))
    ·cases h
   ·cases h
  ·cases h
 case call q=>
  split at h
  ·split at h
   ·rename_i s y t t2 _ _
    have hy:=hf.ev y
    unfold sAppend at h
    split at h
    ·split at h
     ·split at h
      ·obtain⟨_,h⟩:=yAN h
       obtain⟨ns,hn,h⟩:=Option.bind_eq_some_iff.1 h
       have hns:=xL3 (st:=⟨g,c⟩) hg hy hn
       have hs:=hf.ev s
       generalize ev fr s=y1 at h hs
       split at h
       ·obtain⟨k,hk,h⟩:=Option.bind_eq_some_iff.1 h
        obtain⟨_,h⟩:=yAN h
        have hke:=hg _ k hk
        generalize hbq:Nat.beq _ k.es.length=bq at h
        cases bq with
        | true=>
          obtain⟨_,h⟩:=yAN h
          rw[Option.some.injEq,Prod.mk.injEq] at h
          obtain⟨rfl,rfl⟩:=h
          exact⟨.bs _ _ _ _,PSg.new (PSg.del hg) (PSr.append (PSr.drop hke _) hns)⟩
        | false=>
          obtain⟨_,h⟩:=yAN h
          rw[Option.some.injEq,Prod.mk.injEq] at h
          obtain⟨rfl,rfl⟩:=h
          exact⟨.bs _ _ _ _,PSg.set hg (PSr.append (PSr.take hke _) (PSr.append hns (PSr.drop hke _)))⟩
       ·obtain⟨_,h⟩:=yAN h
        rw[Option.some.injEq,Prod.mk.injEq] at h
        obtain⟨rfl,rfl⟩:=h
        exact⟨.bs _ _ _ _,PSg.new hg (PSr.append (fun r hr y hy=>(hs.sl_inv r hr y hy).ps) hns)⟩
       ·cases h
      ·cases h
     ·cases h
    ·cases h
   ·cases h
  ·split at h
   ·obtain⟨st1,hq,e⟩:=Option.map_eq_some_iff.1 h
    rw[Prod.mk.injEq] at e
    obtain⟨rfl,rfl⟩:=e
    refine⟨.tup _ (by simp),?_⟩
    clear h
    unfold sClear at hq
    split at hq
    ·split at hq
     ·split at hq
      ·obtain⟨k,hk,h⟩:=Option.bind_eq_some_iff.1 hq
       obtain⟨_,h⟩:=yAN h
       injection h with h
       subst h
       exact PSg.set hg (PSr.take (hg _ k hk) _)
      ·cases hq
     ·cases hq
    ·cases hq
   ·cases h
  ·cases h
end
end Go.Proofs.YtakljpcmbpaeaaaGreat
