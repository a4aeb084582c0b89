/- The awp calculus, 13b: calls whose value is a new row, which the caller may write. -/
import Derived.Test.YtakljpcmbpaeaaaGreatMountPlaysM15
set_option linter.unusedSimpArgs false
set_option linter.unusedVariables false
namespace Go.Proofs.YtakljpcmbpaeaaaGreat
open Go.RowKit
def xF0(P:Program)(g:FuncId)(args:List V)(es:List (List V))(sz:Nat):Prop:=
 yKl P g/\(∀i (hi:i<es.length),es[i].length=sz)/\(∀r∈es,∀x∈r,Plain x)/\
 ∀(w:World) (S:yEn) (vargs:List Value),(∀g i,S g i->g<w.heap.size)->VRs yOr S w args vargs→
  Calls P g vargs.toArray w fun e w'=>∃(A:Option Addr) (c:Nat) (S':yEn),e= .returned (.slice A es.length c)/\es.length<=c/\Below w.heap.size w w'/\
   (∀g i,S g i->S' g i)/\(∀g i,S' g i->S g i\/w.heap.size<=g)/\(∀g i,S' g i->g<w'.heap.size)/\
   ((es= []/\c=0)\/∃b o,A=some ⟨b,o,none⟩/\w.heap.size<=b/\b<w'.heap.size/\(∀i,o<=i->i<o+c*sz->¬S' b i)/\
     (∀i,o<=i->i<o+c*sz->(∃v,w'.cell? ⟨b,i,none⟩=some v)/\w'.frozen? ⟨b,i,none⟩=false)/\
     ∀i (hi:i<es.length) j (hj:j<es[i].length),∃u,w'.cell? ⟨b,o+i*sz+j,none⟩=some u/\u.oneCell'=true/\VR yOr S' w' es[i][j] u)
def xIb(st:St)(f:Nat->Nat)(args args':List V)(es:List (List V)):Prop:=
 ((∀x∈args,Plain x)/\args'=args)\/(Fzs st f args args'/\∀r∈es,∀x∈r,Sc x)
section
variable {mu mu' mu'':Mu} {S S' S'':yEn} {B:Dom} {st:St} {w w' w'':World} {fr:Fr} {a:Act}
theorem SR.adopt(h:SR mu S B st w)(hf:Fr0 mu st)(hBw:yV2 B w)(hB:Below w.heap.size w w')(hs1:∀g i,S g i->S' g i)(hs2:∀g i,S' g i->S g i\/w.heap.size<=g)(hs3:∀g i,S' g i->g<w'.heap.size)
  {b o c sz:Nat} {es:List (List V)} (hb1:w.heap.size<=b) (hb2:b<w'.heap.size) (hlen:es.length<=c)
  (hrow:∀i (hi:i<es.length),es[i].length=sz) (hSx:∀i,o<=i->i<o+c*sz->¬S' b i) (hroom:∀i,o<=i->i<o+c*sz->(∃v,w'.cell? ⟨b,i,none⟩=some v)/\w'.frozen? ⟨b,i,none⟩=false)
  (hc:∀i (hi:i<es.length) j (hj:j<es[i].length),∃u,w'.cell? ⟨b,o+i*sz+j,none⟩=some u/\u.oneCell'=true/\VR mu S' w' es[i][j] u):
  SR (mu.put st.c ⟨b,o,sz,c,false⟩) S' B (st.new ⟨es,sz,0⟩) w':=by
 have hk:=h.keep hB hs1 hs2 hs3
 have hmono:=SR.mono_put hf ⟨b,o,sz,c,false⟩
 have hexg:∀b k L g i,st.get b=some k->mu b=some L->RgB L g i->g<w.heap.size:=fun b k L g i hb hL ⟨e,h2,h3⟩=>by
  obtain⟨L',hL',_,hg⟩:=h.loc b k hb
  rw[hL] at hL';injection hL' with hL';subst hL'
  have hp:0<L.lim:=by
   rcases Nat.eq_zero_or_pos L.lim with h0 | h0
   ·rw[h0] at h3;simp at h3;omega
   ·exact h0
  rw[e];exact(hg (.inl hp)).2
 refine⟨fun x k hx=>?_,h.gdis_new fun _=>hb1,fun x k L hx hL g i hr hs=>?_,hs3⟩
 ·rw[St.get_new] at hx
  split at hx
  ·rename_i e
   subst e
   injection hx with hx
   subst hx
   refine⟨_,Mu.put_same _ _ _,⟨rfl,fun _=>hlen,Nat.zero_le _,hrow,fun i h1 h2=>?_,fun _ i hi j hj=>?_,fun hm=>by cases hm⟩,fun _=>⟨hBw _ hb1,hb2⟩⟩
   ·dsimp only at h1 h2
    exact hroom i (by omega) h2
   ·dsimp only at hi hj
    obtain⟨v,h1,h2,h3⟩:=hc i hi j hj
    exact⟨v,h1,h2,h3.mono hmono (fun _ _ h=>h) (fun _ _ _=>rfl)⟩
  ·obtain⟨L,hL,hbr,hg⟩:=hk.loc x k hx
   exact⟨L,hmono _ _ hL,hbr.mono hmono (fun _ _ h=>h),hg⟩
 ·rw[St.get_new] at hx
  by_cases e:x=st.c
  ·subst e
   rw[Mu.put_same] at hL;injection hL with hL;subst hL
   obtain⟨h1,h2,h3⟩:=hr.rg
   dsimp only at h1 h2 h3
   subst h1
   exact hSx i h2 h3 hs
  ·rw[if_neg e] at hx
   rw[Mu.put_other e] at hL
   rcases hs2 g i hs with hs | hg
   ·exact h.exS x k L hx hL g i hr hs
   ·have:=hexg _ _ _ _ _ hx hL hr.rg
    omega
structure OutN (mu:Mu) (S:yEn) (B:Dom) (w:World) (c:Nat) (mu':Mu) (S':yEn) (w':World):Prop where
 ev:Ev mu S B w mu' S' w'
 oth:∀b,b≠c->mu' b=mu b
theorem xDV{P:Program}{g:FuncId}{args args':List V}{es:List (List V)}{sz:Nat}{vargs:List Value}{f:Nat->Nat}(h:SR mu S B st w)(hf:Fr0 mu st)(hB:yV2 B w)(hx:VRs mu S w args vargs)(hz:xIb st f args args' es)(hc:xF0 P g args' es sz):
  Calls P g vargs.toArray w fun e w'=>∃v mu' S',e= .returned v/\SR mu' S' B (st.new ⟨es,sz,0⟩) w'/\VR mu' S' w' (.bs st.c 0 es.length es.length) v/\OutN mu S B w st.c mu' S' w':=by
 obtain⟨_,hrow,hpl,hcon⟩:=hc
 have key:∀(S1:yEn),(∀g i,S1 g i->g<w.heap.size)->VRs yOr S1 w args' vargs→
   (∀(S2:yEn) (w':World),(∀g i,S1 g i->S2 g i)->(∀g i,S2 g i->S1 g i\/w.heap.size<=g)->(∀g i,S2 g i->g<w'.heap.size)->∃S':yEn,(∀g i,S g i->S' g i)/\(∀g i,S' g i->S g i\/w.heap.size<=g)/\(∀g i,S' g i->S2 g i)/\
     ∀(i:Nat) (hi:i<es.length) (j:Nat) (hj:j<es[i].length) (u:Value),VR yOr S2 w' es[i][j] u->VR mu S' w' es[i][j] u)→
   Calls P g vargs.toArray w fun e w'=>∃v mu' S',e= .returned v/\SR mu' S' B (st.new ⟨es,sz,0⟩) w'/\VR mu' S' w' (.bs st.c 0 es.length es.length) v/\OutN mu S B w st.c mu' S' w':=by
  intro S1 hb hv hconv
  refine(hcon w S1 vargs hb hv).mono ?_
  rintro e w' ⟨A,c,S2,rfl,hlc,hbel,t1,t2,t3,hcase⟩
  obtain⟨S',q1,q2,q3,q4⟩:=hconv S2 w' t1 t2 t3
  have q5:∀g i,S' g i->g<w'.heap.size:=fun g i hs=>t3 g i (q3 g i hs)
  have out:∀L:Loc,OutN mu S B w st.c (mu.put st.c L) S' w':=fun L=>⟨⟨SR.mono_put hf L,q1,fun g i hs=>(q2 g i hs).imp id fun h1=>hB _ h1,fun g i hs=>hbel.cell (p:=⟨g,i,none⟩) (h.sb g i hs),Off.of_below hbel⟩,fun _ hb=>Mu.put_other hb⟩
  rcases hcase with ⟨rfl,rfl⟩ | ⟨b,o,rfl,hb1,hb2,hSx,hroom,hcell⟩
  ·have sr:=h.keep hbel q1 q2 q5
   exact⟨_,_,S',rfl,sr.virt hf sz,.bs st.c 0 0 0 _ A 0 (Mu.put_same _ _ _) (Nat.le_refl _) (Nat.le_refl _) (.inl rfl) rfl,out _⟩
  ·refine⟨_,_,S',rfl,h.adopt hf hB hbel q1 q2 q5 hb1 hb2 hlc hrow (fun i h1 h2 hs=>hSx i h1 h2 (q3 _ _ hs)) hroom fun i hi j hj=>?_,.bs st.c 0 es.length es.length _ _ c (Mu.put_same _ _ _) (Nat.le_refl _) hlc (.inr ⟨by simp,by simp⟩) rfl,out _⟩
   obtain⟨u,h1,h2,h3⟩:=hcell i hi j hj
   exact⟨u,h1,h2,q4 i hi j hj u h3⟩
 rcases hz with ⟨hp,rfl⟩ | ⟨hz,hsc⟩
 ·exact key S h.sb ⟨hx.1,fun j hj hj'=>(hx.2 j hj hj').plain (hp _ (List.getElem_mem hj))⟩ fun S2 w' t1 t2 t3=>⟨S2,t1,t2,fun _ _ h=>h,fun i hi j hj u hu=>hu.plain (hpl _ (List.getElem_mem hi) _ (List.getElem_mem hj))⟩
 ·have hall:∀g i,S g i->g<w.heap.size:=h.sb
  have hLall:∀b k L,st.get b=some k->mu b=some L->L.mp=false->∀i,L.o<=i->i<L.o+min (f b) k.es.length*L.sz->L.g<w.heap.size:=fun b k L hk hL hm i h1 h2=>
   (h.lockF f).sb L.g i (.inr ⟨b,k,L,hk,hL,hm,rfl,h1,h2⟩)
  exact key (fun g _=>g<w.heap.size) (fun _ _ h=>h) (Fzs.sound h hz hx hall (fun b k L hk hL hm i h1 h2=>hLall b k L hk hL hm i h1 h2)) fun S2 w' t1 t2 t3=>
   ⟨S,fun _ _ h=>h,fun _ _ h=> .inl h,fun g i hs=>t1 g i (h.sb g i hs),fun i hi j hj u hu=>hu.sc (hsc _ (List.getElem_mem hi) _ (List.getElem_mem hj))⟩
theorem yYZ{P:Program}{g:FuncId}{args args':List V}{es:List (List V)}{sz:Nat}{f:Nat->Nat}(hz:xIb st f args args' es)(hc:xF0 P g args' es sz):
  xOf P g args st (fun r st'=>r= .bs st.c 0 es.length es.length/\st'=st.new ⟨es,sz,0⟩):=by
 refine⟨hc.1,fun mu S B w vargs h hf hB hx=>(xDV h hf.fr0 hB hx hz hc).mono ?_⟩
 rintro e w' ⟨v,mu',S',rfl,h1,h2,h3⟩
 refine⟨v,_,_,mu',S',rfl,⟨rfl,rfl⟩,h1,fun b hb=>?_,h2,h3.ev⟩
 have hb':st.c+1<=b:=hb
 obtain⟨k1,k2⟩:=hf b (by omega)
 exact⟨by rw[h3.oth b (by omega)];exact k1,by rw[St.get_new,if_neg (by omega)];exact k2⟩
end
end Go.Proofs.YtakljpcmbpaeaaaGreat
