/- The awp calculus, 1: values over trees, what they say of a world, a store of blocks of the call's own. -/
import Derived.Test.YtakljpcmbpaeaaaGreatMountPlaysM01
import Derived.Deep.MidRow
import Derived.Laws.IdiomCopy
import Derived.MapKept
set_option linter.unusedSimpArgs false
set_option linter.unusedVariables false
namespace Go.Proofs.YtakljpcmbpaeaaaGreat
open Go.RowKit
inductive V where
 | undef
 | bool (b:Bool)
 | int (k:IntKind) (n:Int)
 | str (s:ByteArray)
 | sl (es:List (List V)) (full:Bool)
 | bs (b i n cap:Nat)
 | ptr (b i j:Nat)
 | tp (cs:List V)
 | nilp
 | fn (f:Fn) (first caps:List V)
 | nilfn
 | agg (cs:List V)
 | tup (vs:List V)
 | mp (b:Nat)
 | ptr0 (b:Nat)
structure Loc where
 g:Nat
 o:Nat
 sz:Nat
 lim:Nat
 mp:Bool
abbrev Mu:=Nat->Option Loc
abbrev yEn:=Nat->Nat->Prop
inductive VR (mu:Mu) (S:yEn) (w:World):V->Value->Prop
 | undef (v:Value):VR mu S w .undef v
 | bool (b:Bool):VR mu S w (.bool b) (.bool b)
 | int (k:IntKind) (n:Int):VR mu S w (.int k n) (.int k n)
 | str (s:ByteArray):VR mu S w (.str s) (.string s)
 | sl0 (full:Bool) (A:Option Addr) (c:Nat) (hf:full=true->c=0):VR mu S w (.sl [] full) (.slice A 0 c)
 | sl1 (es:List (List V)) (full:Bool) (g o c sz:Nat) (vals:Nat->Nat->Value) (hne:0<es.length) (hc:es.length<=c) (hf:full=true->c=es.length)
  (hlen:∀i (h:i<es.length),es[i].length=sz)
  (hS:∀i j,i<es.length->j<sz->S g (o+i*sz+j))
  (hcell:∀i j,i<es.length->j<sz->w.cell? ⟨g,o+i*sz+j,none⟩=some (vals i j))
  (hone:∀i j,i<es.length->j<sz->(vals i j).oneCell'=true)
  (hv:∀i (hi:i<es.length) j (hj:j<es[i].length),VR mu S w es[i][j] (vals i j)):
  VR mu S w (.sl es full) (.slice (some ⟨g,o,none⟩) es.length c)
 | bs (b i n cap:Nat) (L:Loc) (A:Option Addr) (c:Nat) (hL:mu b=some L) (hn:n<=cap) (hc:cap<=c)
  (hA:c=0\/(A=some ⟨L.g,L.o+i*L.sz,none⟩/\i+c<=L.lim)) (hm:L.mp=false):VR mu S w (.bs b i n cap) (.slice A n c)
 | ptr (b i j:Nat) (L:Loc) (hL:mu b=some L) (hm:L.mp=false):VR mu S w (.ptr b i j) (.pointer (some ⟨L.g,L.o+i*L.sz+j,none⟩))
 | tp (cs:List V) (g o:Nat) (vals:Nat->Value)
  (hS:∀j,j<cs.length->S g (o+j))
  (hcell:∀j,j<cs.length->w.cell? ⟨g,o+j,none⟩=some (vals j))
  (hone:∀j,j<cs.length->(vals j).oneCell'=true)
  (hv:∀j (hj:j<cs.length),VR mu S w cs[j] (vals j)):VR mu S w (.tp cs) (.pointer (some ⟨g,o,none⟩))
 | nilp:VR mu S w .nilp (.pointer none)
 | fn (f:Fn) (first caps:List V) (fv cv:List Value) (hf:first.length=fv.length) (hc:caps.length=cv.length)
  (h1:∀j (hj:j<first.length) (hj':j<fv.length),VR mu S w first[j] fv[j])
  (h2:∀j (hj:j<caps.length) (hj':j<cv.length),VR mu S w caps[j] cv[j]):VR mu S w (.fn f first caps) (.func f fv.toArray cv.toArray)
 | nilfn:VR mu S w .nilfn .nilFunc
 | agg (cs:List V) (vs:List Value) (hl:cs.length=vs.length) (hone:∀v∈vs,v.oneCell'=true)
  (hv:∀j (hj:j<cs.length) (hj':j<vs.length),VR mu S w cs[j] vs[j]):VR mu S w (.agg cs) (.agg vs.toArray)
 | tup (cs:List V) (vs:List Value) (hl:cs.length=vs.length)
  (hv:∀j (hj:j<cs.length) (hj':j<vs.length),VR mu S w cs[j] vs[j]):VR mu S w (.tup cs) (.tuple vs.toArray)
 | mp (b:Nat) (L:Loc) (hL:mu b=some L) (hm:L.mp=true):VR mu S w (.mp b) (.map (some L.g))
 | ptr0 (b:Nat) (L:Loc) (hL:mu b=some L) (hm:L.mp=false) (h0:L.o=0):VR mu S w (.ptr0 b) (.pointer (some ⟨L.g,0,none⟩))
def VRs(mu:Mu)(S:yEn)(w:World)(cs:List V)(vs:List Value):Prop:=
 cs.length=vs.length/\∀j (hj:j<cs.length) (hj':j<vs.length),VR mu S w cs[j] vs[j]
section
variable {mu mu':Mu} {S S':yEn} {w w':World}
def yQF(S:yEn)(w w':World):Prop:=∀g i,S g i->w'.cell? ⟨g,i,none⟩=w.cell? ⟨g,i,none⟩
theorem VR.mono{x:V}{v:Value}(h:VR mu S w x v)(hmu:∀b L,mu b=some L->mu' b=some L)(hS:∀g i,S g i->S' g i)(hw:yQF S w w'):VR mu' S' w' x v:=by
 induction h with
 | undef v=>exact .undef v
 | bool b=>exact .bool b
 | int k n=>exact .int k n
 | str s=>exact .str s
 | sl0 full A c hf=>exact .sl0 full A c hf
 | sl1 es full g o c sz vals hne hc hf hlen h1 h2 h3 _ ih=>
   exact .sl1 es full g o c sz vals hne hc hf hlen (fun i j hi hj=>hS _ _ (h1 i j hi hj)) (fun i j hi hj=>(hw _ _ (h1 i j hi hj)).trans (h2 i j hi hj)) h3 ih
 | bs b i n cap L A c hL hn hc hA hm=>exact .bs b i n cap L A c (hmu _ _ hL) hn hc hA hm
 | ptr b i j L hL hm=>exact .ptr b i j L (hmu _ _ hL) hm
 | mp b L hL hm=>exact .mp b L (hmu _ _ hL) hm
 | ptr0 b L hL hm h0=>exact .ptr0 b L (hmu _ _ hL) hm h0
 | tp cs g o vals h1 h2 h3 _ ih=>exact .tp cs g o vals (fun j hj=>hS _ _ (h1 j hj)) (fun j hj=>(hw _ _ (h1 j hj)).trans (h2 j hj)) h3 ih
 | nilp=>exact .nilp
 | fn f first caps fv cv hf hc _ _ ih1 ih2=>exact .fn f first caps fv cv hf hc ih1 ih2
 | nilfn=>exact .nilfn
 | agg cs vs hl h1 _ ih=>exact .agg cs vs hl h1 ih
 | tup cs vs hl _ ih=>exact .tup cs vs hl ih
theorem VRs.mono{cs:List V}{vs:List Value}(h:VRs mu S w cs vs)(hmu:∀b L,mu b=some L->mu' b=some L)(hS:∀g i,S g i->S' g i)(hw:yQF S w w'):VRs mu' S' w' cs vs:=
 ⟨h.1,fun j hj hj'=>(h.2 j hj hj').mono hmu hS hw⟩
theorem VRs.nil:VRs mu S w [] []:=⟨rfl,fun _ h=>absurd h (by simp)⟩
theorem VRs.cons{x:V}{v:Value}{cs:List V}{vs:List Value}(h:VR mu S w x v)(hs:VRs mu S w cs vs):VRs mu S w (x::cs) (v::vs):=
 ⟨by simp[hs.1],fun j hj hj'=>by
  cases j with
  | zero=>exact h
  | succ j=>exact hs.2 j (by simpa using hj) (by simpa using hj')⟩
theorem VRs.append{cs ds:List V}{vs us:List Value}(h:VRs mu S w cs vs)(k:VRs mu S w ds us):VRs mu S w (cs++ds) (vs++us):=by
 refine⟨by simp[h.1,k.1],fun j hj hj'=>?_⟩
 by_cases hlt:j<cs.length
 ·rw[List.getElem_append_left hlt,List.getElem_append_left (h.1▸hlt)]
  exact h.2 j hlt (h.1▸hlt)
 ·rw[List.getElem_append_right (by omega),List.getElem_append_right (by have:=h.1;omega)]
  have e:=h.1
  have:=k.2 (j-cs.length) (by simp at hj;omega) (by simp at hj';omega)
  simpa only[e] using this
theorem VRs.drop{cs:List V}{vs:List Value}(h:VRs mu S w cs vs)(n:Nat):VRs mu S w (cs.drop n) (vs.drop n):=by
 refine⟨by simp[h.1],fun j hj hj'=>?_⟩
 rw[List.getElem_drop,List.getElem_drop]
 exact h.2 _ _ _
theorem VRs.take{cs:List V}{vs:List Value}(h:VRs mu S w cs vs)(n:Nat):VRs mu S w (cs.take n) (vs.take n):=by
 refine⟨by simp[h.1],fun j hj hj'=>?_⟩
 rw[List.getElem_take,List.getElem_take]
 exact h.2 _ _ _
theorem VRs.get{cs:List V}{vs:List Value}(h:VRs mu S w cs vs){j:Nat}{x:V}(hx:cs[j]?=some x):∃v,vs[j]?=some v/\VR mu S w x v:=by
 obtain⟨hj,rfl⟩:=List.getElem?_eq_some_iff.1 hx
 have hj':j<vs.length:=h.1▸hj
 exact⟨vs[j],List.getElem?_eq_getElem hj',h.2 j hj hj'⟩
end
structure Blk' where
 es:List (List V)
 sz:Nat
 lk:Nat
structure St where
 get:Nat->Option Blk'
 c:Nat
def St.set(st:St)(b:Nat)(k:Blk'):St:=⟨fun x=>cond (Nat.beq x b) (some k) (st.get x),st.c⟩
def St.new(st:St)(k:Blk'):St:=⟨fun x=>cond (Nat.beq x st.c) (some k) (st.get x),st.c+1⟩
def St.del(st:St)(b:Nat):St:=⟨fun x=>cond (Nat.beq x b) none (st.get x),st.c⟩
theorem St.get_set(st:St)(b:Nat)(k:Blk')(x:Nat):(st.set b k).get x=if x=b then some k else st.get x:=by
 unfold St.set
 by_cases h:x=b
 ·subst h;simp[Nat.beq_refl]
 ·have hb:Nat.beq x b=false:=by
    rcases hh:Nat.beq x b with _ | _
    ·rfl
    ·exact absurd (Nat.eq_of_beq_eq_true hh) h
  simp[hb,h]
theorem St.get_new(st:St)(k:Blk')(x:Nat):(st.new k).get x=if x=st.c then some k else st.get x:=by
 unfold St.new
 by_cases h:x=st.c
 ·subst h;simp[Nat.beq_refl]
 ·have hb:Nat.beq x st.c=false:=by
    rcases hh:Nat.beq x st.c with _ | _
    ·rfl
    ·exact absurd (Nat.eq_of_beq_eq_true hh) h
  simp[hb,h]
theorem St.get_del(st:St)(b:Nat)(x:Nat):(st.del b).get x=if x=b then none else st.get x:=by
 unfold St.del
 by_cases h:x=b
 ·subst h;simp[Nat.beq_refl]
 ·have hb:Nat.beq x b=false:=by
    rcases hh:Nat.beq x b with _ | _
    ·rfl
    ·exact absurd (Nat.eq_of_beq_eq_true hh) h
  simp[hb,h]
def Ex(k:Blk')(L:Loc)(g i:Nat):Prop:=g=L.g/\L.o+k.lk*L.sz<=i/\i<L.o+L.lim*L.sz
def RgB(L:Loc)(g i:Nat):Prop:=g=L.g/\L.o<=i/\i<L.o+L.lim*L.sz
theorem Ex.rg{k:Blk'}{L:Loc}{g i:Nat}(h:Ex k L g i):RgB L g i:=⟨h.1,by have:=h.2.1;omega,h.2.2⟩
def xB3(mu:Mu)(S:yEn)(w:World)(es:List (List V))(ents:Array MapEntry):Prop:=
 es.length=ents.size/\∀i (hi:i<es.length) (hi':i<ents.size),∃k v,es[i]= [k,v]/\VR mu S w k ents[i].key/\VR mu S w v ents[i].val
theorem xB3.mono{mu mu':Mu}{S S':yEn}{w w':World}{es:List (List V)}{ents:Array MapEntry}(h:xB3 mu S w es ents)(hmu:∀b L,mu b=some L->mu' b=some L)(hS:∀g i,S g i->S' g i)(hw:yQF S w w'):xB3 mu' S' w' es ents:=
 ⟨h.1,fun i hi hi'=>by
  obtain⟨k,v,e,h1,h2⟩:=h.2 i hi hi'
  exact⟨k,v,e,h1.mono hmu hS hw,h2.mono hmu hS hw⟩⟩
structure BR (mu:Mu) (S:yEn) (w:World) (k:Blk') (L:Loc):Prop where
 sz:k.sz=L.sz
 len:L.mp=false->k.es.length<=L.lim
 lk:k.lk<=k.es.length
 row:∀i (h:i<k.es.length),k.es[i].length=L.sz
 room:∀i,L.o+k.lk*L.sz<=i->i<L.o+L.lim*L.sz->(∃v,w.cell? ⟨L.g,i,none⟩=some v)/\w.frozen? ⟨L.g,i,none⟩=false
 cell:L.mp=false->∀i (hi:i<k.es.length) j (hj:j<k.es[i].length),∃v,w.cell? ⟨L.g,L.o+i*L.sz+j,none⟩=some v/\v.oneCell'=true/\VR mu S w k.es[i][j] v
 map:L.mp=true->L.lim=0/\∃ents clock,w.heap[L.g]?=some (.map ents clock)/\MapKept.Stamped ents clock/\xB3 mu S w k.es ents
abbrev Dom:=Nat->Prop
def yV2(B:Dom)(w:World):Prop:=∀g,w.heap.size<=g->B g
structure Off (B:Dom) (w w':World):Prop where
 os:w'.os=w.os
 tape:w'.tape=w.tape
 output:w'.output=w.output
 size:w.heap.size<=w'.heap.size
 block:∀k,k<w.heap.size->¬B k->w'.heap[k]?=w.heap[k]?
theorem Off.refl(B:Dom)(w:World):Off B w w:=⟨rfl,rfl,rfl,Nat.le_refl _,fun _ _ _=>rfl⟩
theorem Off.trans{B:Dom}{a b c:World}(h:Off B a b)(k:Off B b c):Off B a c:=
 ⟨k.os.trans h.os,k.tape.trans h.tape,k.output.trans h.output,Nat.le_trans h.size k.size,fun i hi hB=>(k.block i (Nat.lt_of_lt_of_le hi h.size) hB).trans (h.block i hi hB)⟩
theorem Off.mono{B B':Dom}{w w':World}(h:Off B w w')(hB:∀g,B g->B' g):Off B' w w':=⟨h.os,h.tape,h.output,h.size,fun k hk hn=>h.block k hk fun hb=>hn (hB k hb)⟩
theorem Off.of_below{B:Dom}{w w':World}(h:Below w.heap.size w w'):Off B w w':=⟨h.os,h.tape,h.output,h.size,fun k hk _=>h.block k hk⟩
theorem Off.below{w w':World}(h:Off (fun g=>w.heap.size<=g) w w'):Below w.heap.size w w':=⟨h.os,h.tape,h.output,h.size,fun k hk=>h.block k hk (Nat.not_le.2 hk)⟩
theorem Off.drew{B:Dom}{a w:World}(h:Off B a w):Off B a w.drew:=⟨h.os,h.tape,h.output,h.size,h.block⟩
theorem Off.alloc{B:Dom}{a w:World}(h:Off B a w)(o:Obj):Off B a (w.alloc o):=h.trans ⟨rfl,rfl,rfl,by simp,fun k hk _=>Below.heap_alloc _ _ _ hk⟩
theorem Off.setCell{B:Dom}{a w:World}(h:Off B a w){p:Addr}(hp:B p.block)(u:Value):Off B a (w.setCell p u):=
 h.trans ⟨rfl,rfl,rfl,by simp[World.setCell],fun k _ hk=>Below.heap_setCell _ _ _ _ (fun e=>hk (e▸hp))⟩
theorem yV2.off{B:Dom}{w w':World}(h:yV2 B w)(k:Off B w w'):yV2 B w':=fun g hg=>h g (Nat.le_trans k.size hg)
structure SR (mu:Mu) (S:yEn) (B:Dom) (st:St) (w:World):Prop where
 loc:∀b k,st.get b=some k->∃L,mu b=some L/\BR mu S w k L/\(0<L.lim\/L.mp=true->B L.g/\L.g<w.heap.size)
 gdis:∀b b' k k' L L',b≠b'->st.get b=some k->st.get b'=some k'->mu b=some L->mu b'=some L'->(0<L.lim\/L.mp=true)->(0<L'.lim\/L'.mp=true)->L.g≠L'.g
 exS:∀b k L,st.get b=some k->mu b=some L->∀g i,Ex k L g i->¬S g i
 sb:∀g i,S g i->g<w.heap.size
theorem RgB.pos{L:Loc}{g i:Nat}(h:RgB L g i):0<L.lim:=by
 obtain⟨_,h2,h3⟩:=h
 rcases Nat.eq_zero_or_pos L.lim with h0 | h0
 ·rw[h0] at h3;simp at h3;omega
 ·exact h0
theorem SR.dis{mu:Mu}{S:yEn}{B:Dom}{st:St}{w:World}(h:SR mu S B st w):∀b b' k k' L L',b≠b'->st.get b=some k->st.get b'=some k'->mu b=some L->mu b'=some L'->∀g i,RgB L g i->¬RgB L' g i:=
 fun b b' k k' L L' hne hk hk' hL hL' g i h1 h2=>h.gdis b b' k k' L L' hne hk hk' hL hL' (.inl h1.pos) (.inl h2.pos) (h1.1.symm.trans h2.1)
theorem SR.own{mu:Mu}{S:yEn}{B:Dom}{st:St}{w:World}(h:SR mu S B st w){b:Nat}{k:Blk'}{L:Loc}(hk:st.get b=some k)(hL:mu b=some L)(hp:0<L.lim\/L.mp=true):B L.g/\L.g<w.heap.size:=by
 obtain⟨L',hL',_,hg⟩:=h.loc b k hk
 rw[hL] at hL';injection hL' with hL';subst hL'
 exact hg hp
theorem SR.gdis_set{mu:Mu}{S:yEn}{B:Dom}{st:St}{w:World}(h:SR mu S B st w){b:Nat}{k k':Blk'}(hk:st.get b=some k):∀x x' kx kx' L L',x≠x'->(st.set b k').get x=some kx->(st.set b k').get x'=some kx'->mu x=some L->mu x'=some L'->(0<L.lim\/L.mp=true)->(0<L'.lim\/L'.mp=true)->L.g≠L'.g:=by
 intro x x' kx kx' L L' hne hx hx' hL hL' hp hp'
 rw[St.get_set] at hx hx'
 obtain⟨k1,h1⟩:∃k1,st.get x=some k1:=by by_cases e:x=b <;> first | (subst e;exact⟨k,hk⟩) | (rw[if_neg e] at hx;exact⟨kx,hx⟩)
 obtain⟨k2,h2⟩:∃k2,st.get x'=some k2:=by by_cases e:x'=b <;> first | (subst e;exact⟨k,hk⟩) | (rw[if_neg e] at hx';exact⟨kx',hx'⟩)
 exact h.gdis x x' k1 k2 L L' hne h1 h2 hL hL' hp hp'
def Fr0(mu:Mu)(st:St):Prop:=mu st.c=none/\st.get st.c=none
def FrA(mu:Mu)(st:St):Prop:=∀b,st.c<=b->mu b=none/\st.get b=none
theorem FrA.fr0{mu:Mu}{st:St}(h:FrA mu st):Fr0 mu st:=h _ (Nat.le_refl _)
end Go.Proofs.YtakljpcmbpaeaaaGreat
