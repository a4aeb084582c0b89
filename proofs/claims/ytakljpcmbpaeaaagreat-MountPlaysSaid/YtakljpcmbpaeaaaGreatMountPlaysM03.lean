/- The awp calculus, 2: the steps of a store: a new block, a write, a lock, an append, what a callee leaves. -/
import Derived.Test.YtakljpcmbpaeaaaGreatMountPlaysM02
set_option linter.unusedSimpArgs false
set_option linter.unusedVariables false
namespace Go.Proofs.YtakljpcmbpaeaaaGreat
open Go.RowKit
section
variable {mu mu':Mu} {S S':yEn} {B:Dom} {st:St} {w w':World}
theorem BR.lim_pos{k:Blk'}{L:Loc}(h:BR mu S w k L)(hm:L.mp=false){i:Nat}(hi:i<k.es.length):0<L.lim:=by have:=h.len hm;omega
theorem BR.mono{k:Blk'}{L:Loc}(h:BR mu S w k L)(hmu:∀b L,mu b=some L->mu' b=some L)(hS:∀g i,S g i->S' g i):BR mu' S' w k L:=
 ⟨h.sz,h.len,h.lk,h.row,h.room,fun hm i hi j hj=>by
  obtain⟨v,h1,h2,h3⟩:=h.cell hm i hi j hj
  exact⟨v,h1,h2,h3.mono hmu hS (fun _ _ _=>rfl)⟩,fun hm=>by
  obtain⟨h0,ents,clock,h1,hst,h2⟩:=h.map hm
  exact⟨h0,ents,clock,h1,hst,h2.mono hmu hS (fun _ _ _=>rfl)⟩⟩
theorem xSe{L:Loc}{i j n:Nat}(hi:i<n)(hn:n<=L.lim)(hj:j<L.sz):L.o+i*L.sz+j<L.o+L.lim*L.sz:=by
 have h1:(i+1)*L.sz<=L.lim*L.sz:=Nat.mul_le_mul_right _ (by omega)
 rw[Nat.succ_mul] at h1
 omega
theorem SR.keep(h:SR mu S B st w)(hB:Below w.heap.size w w')(hS:∀g i,S g i->S' g i)(hn:∀g i,S' g i->S g i\/w.heap.size<=g)(hb:∀g i,S' g i->g<w'.heap.size):SR mu S' B st w':=by
 have hK:yQF S w w':=fun g i hs=>hB.cell (p:=⟨g,i,none⟩) (h.sb _ _ hs)
 refine⟨fun b k hk=>?_,h.gdis,fun b k L hk hL g i hx hs=>?_,hb⟩
 ·obtain⟨L,hL,hbr,hg⟩:=h.loc b k hk
  refine⟨L,hL,⟨hbr.sz,hbr.len,hbr.lk,hbr.row,fun i h1 h2=>?_,fun hm i hi j hj=>?_,fun hm=>?_⟩,fun hp=>⟨(hg hp).1,Nat.lt_of_lt_of_le (hg hp).2 hB.size⟩⟩
  ·have hp:0<L.lim:=by
     rcases Nat.eq_zero_or_pos L.lim with h0 | h0
     ·rw[h0] at h2;simp at h2;omega
     ·exact h0
   rw[hB.cell (p:=⟨L.g,i,none⟩) (hg (.inl hp)).2,hB.frozen (p:=⟨L.g,i,none⟩) (hg (.inl hp)).2]
   exact hbr.room i h1 h2
  ·obtain⟨v,hv,h1,h2⟩:=hbr.cell hm i hi j hj
   have hp:=hbr.lim_pos hm hi
   exact⟨v,(hB.cell (p:=⟨L.g,_,none⟩) (hg (.inl hp)).2).trans hv,h1,h2.mono (fun _ _ h=>h) hS hK⟩
  ·obtain⟨h0,ents,clock,hh,hst,hes⟩:=hbr.map hm
   exact⟨h0,ents,clock,(hB.block _ (hg (.inr hm)).2).trans hh,hst,hes.mono (fun _ _ h=>h) hS hK⟩
 ·rcases hn g i hs with h1 | h1
  ·exact h.exS b k L hk hL g i hx h1
  ·obtain⟨L',hL',hbr,hg⟩:=h.loc b k hk
   rw[hL] at hL';injection hL' with hL';subst hL'
   obtain⟨rfl,h2,h3⟩:=hx
   have hp:0<L.lim:=by
    rcases Nat.eq_zero_or_pos L.lim with h0 | h0
    ·rw[h0] at h3;simp at h3;omega
    ·exact h0
   have:=(hg (.inl hp)).2
   omega
theorem SR.drew(h:SR mu S B st w):SR mu S B st w.drew:=
 h.keep ((Below.refl _ _).drew) (fun _ _ h=>h) (fun _ _ h=> .inl h) (fun g i hs=>h.sb g i hs)
def Mu.put(mu:Mu)(b:Nat)(L:Loc):Mu:=fun x=>if x=b then some L else mu x
theorem Mu.put_same(mu:Mu)(b:Nat)(L:Loc):mu.put b L b=some L:=if_pos rfl
theorem Mu.put_other{mu:Mu}{b x:Nat}{L:Loc}(h:x≠b):mu.put b L x=mu x:=if_neg h
theorem SR.mono_put(hf:Fr0 mu st)(L:Loc):∀b L',mu b=some L'->mu.put st.c L b=some L':=fun b L' hb=>by
 rw[Mu.put_other]
 ·exact hb
 ·rintro rfl;rw[hf.1] at hb;cases hb
theorem SR.gdis_new(h:SR mu S B st w){k:Blk'}{L0:Loc}(hg:0<L0.lim\/L0.mp=true->w.heap.size<=L0.g):∀b b' k1 k2 L L',b≠b'->(st.new k).get b=some k1->(st.new k).get b'=some k2->mu.put st.c L0 b=some L->mu.put st.c L0 b'=some L'→
  (0<L.lim\/L.mp=true)->(0<L'.lim\/L'.mp=true)->L.g≠L'.g:=by
 intro b b' k1 k2 L L' hne hb hb' hL hL' hp hp'
 rw[St.get_new] at hb hb'
 by_cases e:b=st.c
 ·subst e
  rw[Mu.put_same] at hL;injection hL with hL;subst hL
  rw[if_neg (Ne.symm hne)] at hb'
  rw[Mu.put_other (Ne.symm hne)] at hL'
  have h1:=(h.own hb' hL' hp').2
  have h2:=hg hp
  omega
 ·rw[if_neg e] at hb
  rw[Mu.put_other e] at hL
  by_cases e':b'=st.c
  ·subst e'
   rw[Mu.put_same] at hL';injection hL' with hL';subst hL'
   have h1:=(h.own hb hL hp).2
   have h2:=hg hp'
   omega
  ·rw[if_neg e'] at hb'
   rw[Mu.put_other e'] at hL'
   exact h.gdis b b' k1 k2 L L' hne hb hb' hL hL' hp hp'
theorem yY5(w:World)(arr:Array Value)(t:TypeId)(fr:Nat×Nat)(i:Nat):(w.alloc (.cells arr t fr)).frozen? ⟨w.heap.size,i,none⟩=(decide (fr.1<=i)&&decide (i<fr.2)):=by
 have h:=heap_alloc_new w (.cells arr t fr)
 obtain⟨lo,hi⟩:=fr
 unfold World.frozen?
 dsimp only
 rw[h]
theorem yUz(w:World)(arr:Array Value)(t:TypeId)(fr:Nat×Nat)(i:Nat):(w.alloc (.cells arr t fr)).cell? ⟨w.heap.size,i,none⟩=arr[i]?:=by
 have h:=heap_alloc_new w (.cells arr t fr)
 unfold World.cell?
 dsimp only
 rw[h]
 rfl
theorem SR.new(h:SR mu S B st w)(hf:Fr0 mu st)(hBw:yV2 B w)(es:List (List V))(sz lim:Nat)(arr:Array Value)(t:TypeId)(fr:Nat×Nat)(hlen:es.length<=lim)(hrow:∀i (hi:i<es.length),es[i].length=sz)
  (harr:lim*sz<=arr.size) (hfr:∀i,i<lim*sz->(decide (fr.1<=i)&&decide (i<fr.2))=false)
  (hc:∀i (hi:i<es.length) j (hj:j<es[i].length),∃v,arr[i*sz+j]?=some v/\v.oneCell'=true/\VR mu S w es[i][j] v):
  SR (mu.put st.c ⟨w.heap.size,0,sz,lim,false⟩) S B (st.new ⟨es,sz,0⟩) (w.alloc (.cells arr t fr)):=by
 have hB:Below w.heap.size w (w.alloc (.cells arr t fr)):=(Below.refl _ _).alloc (Nat.le_refl _) _
 have hk:=h.keep hB (fun _ _ h=>h) (fun _ _ h=> .inl h) (fun g i hs=>Nat.lt_of_lt_of_le (h.sb g i hs) hB.size)
 have hmono:=SR.mono_put hf ⟨w.heap.size,0,sz,lim,false⟩
 have hK:yQF S w (w.alloc (.cells arr t fr)):=fun g i hs=>hB.cell (p:=⟨g,i,none⟩) (h.sb _ _ hs)
 have hold:∀b k,st.get b=some k->b≠st.c:=fun b k hk hb=>by rw[hb,hf.2] at hk;cases hk
 have hexg:∀b k L g i,st.get b=some k->mu b=some L->RgB L g i->g<w.heap.size:=fun b k L g i hb hL ⟨e,h2,h3⟩=>by
  obtain⟨L',hL',_,hg⟩:=h.loc b k hb
  rw[hL] at hL';injection hL' with hL';subst hL'
  have hp:0<L.lim:=by
   rcases Nat.eq_zero_or_pos L.lim with h0 | h0
   ·rw[h0] at h3;simp at h3;omega
   ·exact h0
  rw[e];exact(hg (.inl hp)).2
 refine⟨fun b k hb=>?_,h.gdis_new fun _=>Nat.le_refl _,fun b k L hb hL g i hx hs=>?_,hk.sb⟩
 ·rw[St.get_new] at hb
  split at hb
  ·rename_i e
   subst e
   injection hb with hb
   subst hb
   refine⟨_,Mu.put_same _ _ _,⟨rfl,fun _=>hlen,Nat.zero_le _,hrow,fun i h1 h2=>?_,fun _ i hi j hj=>?_,fun hm=>by cases hm⟩,fun _=>⟨hBw _ (Nat.le_refl _),by simp⟩⟩
   ·dsimp only at h2
    rw[yUz,yY5]
    have hlt:i<arr.size:=by omega
    exact⟨⟨arr[i],Array.getElem?_eq_getElem hlt⟩,hfr i (by omega)⟩
   ·dsimp only at hi hj
    obtain⟨v,h1,h2,h3⟩:=hc i hi j hj
    refine⟨v,?_,h2,h3.mono hmono (fun _ _ h=>h) hK⟩
    dsimp only
    rw[yUz,Nat.zero_add];exact h1
  ·obtain⟨L,hL,hbr,hg⟩:=hk.loc b k hb
   exact⟨L,hmono _ _ hL,hbr.mono hmono (fun _ _ h=>h),hg⟩
 ·rw[St.get_new] at hb
  by_cases e:b=st.c
  ·subst e
   rw[Mu.put_same] at hL;injection hL with hL;subst hL
   have h1:=h.sb _ _ hs
   have h2:g=w.heap.size:=hx.1
   omega
  ·rw[if_neg e] at hb
   rw[Mu.put_other e] at hL
   exact h.exS b k L hb hL g i hx hs
theorem SR.upd(h:SR mu S B st w){b:Nat}{k k':Blk'}{L:Loc}(hk:st.get b=some k)(hL:mu b=some L)
  (hw:∀g i,¬Ex k L g i->w'.cell? ⟨g,i,none⟩=w.cell? ⟨g,i,none⟩) (hex:∀g i,(∃v,w.cell? ⟨g,i,none⟩=some v)->∃v,w'.cell? ⟨g,i,none⟩=some v)
  (hfz:∀g i,w'.frozen? ⟨g,i,none⟩=w.frozen? ⟨g,i,none⟩) (hsize:w.heap.size<=w'.heap.size) (hmp:∀(g:Nat) (ents:Array MapEntry) (clock:Nat),w.heap[g]?=some (Obj.map ents clock)->w'.heap[g]?=some (Obj.map ents clock)) (hLm:L.mp=false) (hsz:k'.sz=k.sz) (hlk:k'.lk=k.lk) (hlen:k'.es.length<=L.lim) (hlk':k.lk<=k'.es.length)
  (hrow:∀i (hi:i<k'.es.length),k'.es[i].length=L.sz)
  (hcell:yQF S w w'->∀i (hi:i<k'.es.length) j (hj:j<k'.es[i].length),∃v,w'.cell? ⟨L.g,L.o+i*L.sz+j,none⟩=some v/\v.oneCell'=true/\VR mu S w' k'.es[i][j] v):
  SR mu S B (st.set b k') w'/\yQF S w w':=by
 have hK:yQF S w w':=fun g i hs=>hw g i (fun hx=>h.exS b k L hk hL g i hx hs)
 have hexE:∀g i,Ex k' L g i↔Ex k L g i:=fun g i=>by unfold Ex;rw[hlk]
 refine⟨⟨fun x kx hx=>?_,h.gdis_set hk,fun x kx Lx hx hLx g i he hs=>?_,fun g i hs=>Nat.lt_of_lt_of_le (h.sb g i hs) hsize⟩,hK⟩
 ·rw[St.get_set] at hx
  split at hx
  ·rename_i e
   subst e
   injection hx with hx
   subst hx
   obtain⟨L',hL',hbr,hg⟩:=h.loc _ _ hk
   rw[hL] at hL';injection hL' with hL';subst hL'
   refine⟨L,hL,⟨hsz.trans hbr.sz,fun _=>hlen,by rw[hlk];exact hlk',hrow,fun i h1 h2=>?_,fun _=>hcell hK,fun hm=>by rw[hLm] at hm;cases hm⟩,fun hp=>⟨(hg hp).1,Nat.lt_of_lt_of_le (hg hp).2 hsize⟩⟩
   rw[hlk] at h1
   obtain⟨hc,hf⟩:=hbr.room i h1 h2
   exact⟨hex _ _ hc,(hfz _ _).trans hf⟩
  ·rename_i hne
   obtain⟨Lx,hLx,hbr,hg⟩:=h.loc _ _ hx
   refine⟨Lx,hLx,⟨hbr.sz,hbr.len,hbr.lk,hbr.row,fun i h1 h2=>?_,fun hm i hi j hj=>?_,fun hm=>?_⟩,fun hp=>⟨(hg hp).1,Nat.lt_of_lt_of_le (hg hp).2 hsize⟩⟩
   ·obtain⟨hc,hf⟩:=hbr.room i h1 h2
    exact⟨hex _ _ hc,(hfz _ _).trans hf⟩
   ·obtain⟨v,h1,h2,h3⟩:=hbr.cell hm i hi j hj
    refine⟨v,?_,h2,h3.mono (fun _ _ h=>h) (fun _ _ h=>h) hK⟩
    have hjz:j<Lx.sz:=by rw[←hbr.row i hi];exact hj
    rw[hw]
    ·exact h1
    ·intro he
     exact h.dis b x k kx L Lx (Ne.symm hne) hk hx hL hLx _ _ he.rg ⟨rfl,by omega,xSe hi (hbr.len hm) hjz⟩
   ·obtain⟨h0,ents,clock,hh,hst,hes⟩:=hbr.map hm
    exact⟨h0,ents,clock,hmp _ _ _ hh,hst,hes.mono (fun _ _ h=>h) (fun _ _ h=>h) hK⟩
 ·rw[St.get_set] at hx
  by_cases e:x=b
  ·subst e
   rw[if_pos rfl] at hx;injection hx with hx;subst hx
   rw[hL] at hLx;injection hLx with hLx;subst hLx
   exact h.exS x k L hk hL g i ((hexE g i).1 he) hs
  ·rw[if_neg e] at hx
   exact h.exS x kx Lx hx hLx g i he hs
theorem SR.del(h:SR mu S B st w)(b:Nat):SR mu S B (st.del b) w:=by
 have hget:∀x k,(st.del b).get x=some k->st.get x=some k:=fun x k hx=>by
  rw[St.get_del] at hx
  split at hx
  ·cases hx
  ·exact hx
 exact⟨fun x k hx=>h.loc x k (hget _ _ hx),fun x x' k k' L L' hne hx hx'=>h.gdis x x' k k' L L' hne (hget _ _ hx) (hget _ _ hx'),fun x k L hx=>h.exS x k L (hget _ _ hx),h.sb⟩
theorem SR.relock(h:SR mu S B st w){b:Nat}{k:Blk'}(hk:st.get b=some k){n:Nat}(hn:n<=k.es.length)(hn0:k.lk<=n):SR mu S B (st.set b ⟨k.es,k.sz,n⟩) w:=by
 obtain⟨L,hL,hbr,hg⟩:=h.loc b k hk
 have hmul:k.lk*L.sz<=n*L.sz:=Nat.mul_le_mul_right _ hn0
 refine⟨fun x kx hx=>?_,h.gdis_set hk,fun x kx Lx hx hLx g i he hs=>?_,h.sb⟩
 ·rw[St.get_set] at hx
  split at hx
  ·rename_i e
   subst e
   injection hx with hx
   subst hx
   exact⟨L,hL,⟨hbr.sz,hbr.len,hn,hbr.row,fun i h1 h2=>hbr.room i (by dsimp only at h1;omega) h2,hbr.cell,hbr.map⟩,hg⟩
  ·exact h.loc _ _ hx
 ·rw[St.get_set] at hx
  by_cases e:x=b
  ·subst e
   rw[if_pos rfl] at hx;injection hx with hx;subst hx
   rw[hL] at hLx;injection hLx with hLx;subst hLx
   exact h.exS x k L hk hL g i ⟨he.1,by have:=he.2.1;dsimp only at this;omega,he.2.2⟩ hs
  ·rw[if_neg e] at hx
   exact h.exS x kx Lx hx hLx g i he hs
theorem St.new_set(st:St)(k k':Blk'):(st.new k).set st.c k'=st.new k':=by
 unfold St.new St.set
 congr 1
 funext x
 dsimp only
 cases Nat.beq x st.c <;> rfl
theorem SR.move(h:SR mu S B st w)(hf:Fr0 mu st){b:Nat}{k:Blk'}{L:Loc}(hk:st.get b=some k)(hL:mu b=some L)(hLm:L.mp=false){i:Nat}(hi:i<=k.es.length):
  SR (mu.put st.c ⟨L.g,L.o+i*L.sz,L.sz,L.lim-i,false⟩) S B ((st.del b).new ⟨k.es.drop i,k.sz,k.lk-i⟩) w:=by
 obtain⟨L0,hL0,hbr,hg⟩:=h.loc b k hk
 rw[hL] at hL0;injection hL0 with hL0;subst hL0
 have hbl:=hbr.len hLm
 have hmono:=SR.mono_put hf ⟨L.g,L.o+i*L.sz,L.sz,L.lim-i,false⟩
 have hlimE:L.o+i*L.sz+(L.lim-i)*L.sz=L.o+L.lim*L.sz:=by
  rw[Nat.add_assoc,←Nat.add_mul,show i+(L.lim-i)=L.lim by omega]
 have hlkE:L.o+k.lk*L.sz<=L.o+i*L.sz+(k.lk-i)*L.sz:=by
  rw[Nat.add_assoc,←Nat.add_mul]
  exact Nat.add_le_add_left (Nat.mul_le_mul_right _ (by omega)) _
 have hexE:∀g x,Ex ⟨k.es.drop i,k.sz,k.lk-i⟩ ⟨L.g,L.o+i*L.sz,L.sz,L.lim-i,false⟩ g x->Ex k L g x:=fun g x ⟨h1,h2,h3⟩=>by
  dsimp only at h1 h2 h3
  exact⟨h1,by omega,by omega⟩
 have hpp:(0<(⟨L.g,L.o+i*L.sz,L.sz,L.lim-i,false⟩:Loc).lim\/(⟨L.g,L.o+i*L.sz,L.sz,L.lim-i,false⟩:Loc).mp=true)->(0<L.lim\/L.mp=true):=fun hp=> .inl (by rcases hp with hp | hp <;> first | (dsimp only at hp;omega) | cases hp)
 have hd:=h.del b
 have hne:∀x kx,(st.del b).get x=some kx->x≠st.c/\x≠b/\st.get x=some kx:=fun x kx hx=>by
  rw[St.get_del] at hx
  split at hx
  ·cases hx
  ·rename_i hxb
   refine⟨?_,hxb,hx⟩
   rintro rfl;rw[hf.2] at hx;cases hx
 refine⟨fun x kx hx=>?_,fun x x' kx kx' Lx Lx' hnn hx hx' hLx hLx' hp hp'=>?_,fun x kx Lx hx hLx g y he hs=>?_,h.sb⟩
 ·rw[St.get_new] at hx
  split at hx
  ·rename_i e
   have e':x=st.c:=e
   subst e'
   injection hx with hx
   subst hx
   refine⟨_,Mu.put_same _ _ _,⟨hbr.sz,fun _=>by simp;omega,by have:=hbr.lk;simp;omega,fun a ha=>?_,fun a h1 h2=>hbr.room a ?_ ?_,fun _ a ha j hj=>?_,fun hm=>by cases hm⟩,fun hp=>hg (.inl (by rcases hp with hp | hp <;> first | (dsimp only at hp;omega) | cases hp))⟩
   ·dsimp only;rw[List.getElem_drop];exact hbr.row _ _
   ·dsimp only at h1;omega
   ·dsimp only at h2;omega
   ·have ha':i+a<k.es.length:=by simp at ha;omega
    have hj':j<k.es[i+a].length:=by simpa[List.getElem_drop] using hj
    obtain⟨v,h1,h2,h3⟩:=hbr.cell hLm (i+a) ha' j hj'
    refine⟨v,?_,h2,?_⟩
    ·dsimp only
     rw[show L.o+i*L.sz+a*L.sz+j=L.o+(i+a)*L.sz+j by rw[Nat.add_mul];omega];exact h1
    ·have h4:=h3.mono hmono (fun _ _ h=>h) (fun _ _ _=>rfl:yQF S w w)
     simpa[List.getElem_drop] using h4
  ·obtain⟨Lx,hLx,hbx,hgx⟩:=hd.loc _ _ hx
   exact⟨Lx,hmono _ _ hLx,hbx.mono hmono (fun _ _ h=>h),hgx⟩
 ·rw[St.get_new] at hx hx'
  by_cases e:x=st.c
  ·subst e
   rw[if_pos (show st.c=(st.del b).c from rfl)] at hx;injection hx with hx;subst hx
   rw[Mu.put_same] at hLx;injection hLx with hLx;subst hLx
   rw[if_neg (show ¬x'=(st.del b).c from Ne.symm hnn)] at hx'
   rw[Mu.put_other (Ne.symm hnn)] at hLx'
   obtain⟨_,h2,h3⟩:=hne _ _ hx'
   exact h.gdis b x' k kx' L Lx' (Ne.symm h2) hk h3 hL hLx' (hpp hp) hp'
  ·rw[if_neg (show ¬x=(st.del b).c from e)] at hx
   rw[Mu.put_other e] at hLx
   obtain⟨_,h2,h3⟩:=hne _ _ hx
   by_cases e':x'=st.c
   ·subst e'
    rw[if_pos (show st.c=(st.del b).c from rfl)] at hx';injection hx' with hx';subst hx'
    rw[Mu.put_same] at hLx';injection hLx' with hLx';subst hLx'
    exact h.gdis x b kx k Lx L h2 h3 hk hLx hL hp (hpp hp')
   ·rw[if_neg (show ¬x'=(st.del b).c from e')] at hx'
    rw[Mu.put_other e'] at hLx'
    obtain⟨_,_,h5⟩:=hne _ _ hx'
    exact h.gdis x x' kx kx' Lx Lx' hnn h3 h5 hLx hLx' hp hp'
 ·rw[St.get_new] at hx
  by_cases e:x=st.c
  ·subst e
   rw[if_pos (show st.c=(st.del b).c from rfl)] at hx;injection hx with hx;subst hx
   rw[Mu.put_same] at hLx;injection hLx with hLx;subst hLx
   exact h.exS b k L hk hL g y (hexE _ _ he) hs
  ·rw[if_neg (show ¬x=(st.del b).c from e)] at hx
   rw[Mu.put_other e] at hLx
   exact h.exS x kx Lx (hne _ _ hx).2.2 hLx g y he hs
end
end Go.Proofs.YtakljpcmbpaeaaaGreat
