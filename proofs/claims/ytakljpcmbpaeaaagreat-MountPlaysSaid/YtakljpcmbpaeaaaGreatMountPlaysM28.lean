/- Regions that draw their order up to a call that all wait for, and whose order is forced from there on. -/
import Derived.Test.YtakljpcmbpaeaaaGreatMountPlaysM27
set_option linter.unusedSimpArgs false
set_option linter.unusedVariables false
namespace Go.Proofs.YtakljpcmbpaeaaaGreat
open Go.RowKit
def yQw(ops:Array Oper)(n:Nat):Array Oper:=(ops.toList.take n).toArray
def xAQ(m n:Nat):Array Bool:=((List.range m).map fun i=>decide (i<n)).toArray
def xOl(ops:Array Oper)(n:Nat):Bool:=(List.range n).all fun i=>match ops[i]? with
 | some o=>o.after.all (fun e=>decide (e.on<i))&&(match o.guard with | some (j,_)=>decide (j<i) | none=>true)
 | none=>true
def chB(md:Region.Mode)(ops:Array Oper)(n:Nat):Bool:=(List.range ops.size).all fun t=>decide (t<=n) || (List.range t).any fun s=>decide (n<=s)&&Region.waitsFor md ops t s
theorem xED{ops:Array Oper}{n i:Nat}(h:i<n):(yQw ops n)[i]?=ops[i]?:=by
 unfold yQw
 simp[h]
def xSi(P:Program)(ops:Array Oper)(k:Nat):Bool:=match ops[k]?,ops[k+1]? with
 | some a,some b=>stillB P a.op&&(stillB P b.op&&(a.guard.isNone&&(b.guard.isNone&&a.apart ops b)))
 | _,_=>false
def xTp(P:Program)(ops:Array Oper)(k:Nat):Bool:=Region.noSelect ops&&(ops.toList.drop k).all fun o=>stillB P o.op
def semB(P:Program)(md:Region.Mode)(ops:Array Oper):Nat->Nat->Array Bool->Bool
 | 0,_,listed=>(Region.ready md ops listed).isEmpty
 | g+1,k,listed=>bif decide (Region.ready md ops listed= [k]) then semB P md ops g (k+1) (listed.setIfInBounds k true) else(xTp P ops k&&Region.lexFrom md ops (g+1) k listed) || match g with
   | 0=>false
   | g'+1=>decide (Region.ready md ops listed= [k,k+1])&&(xSi P ops k&&(decide (Region.ready md ops (listed.setIfInBounds k true)= [k+1])&&(decide (Region.ready md ops (listed.setIfInBounds (k+1) true)= [k])&&semB P md ops g' (k+2) ((listed.setIfInBounds k true).setIfInBounds (k+1) true))))
section
variable {mu0:Mu} {S0:yEn} {B:Dom} {nt:Nat} {w0:World} {P:Program} {ops:Array Oper} {md:Region.Mode} {K:Fr->St->Prop} {Q:Exit->Act->World->Prop}
theorem xMU{o:Oper}{r:List Oper}{i:Nat}{fr:Fr}{st:St}{a:Act}{w:World}{next:Act->World->Prop}(hi:ops[i]?=some o)(hdo:∀t,o.dst=some t->t<nt)(h:AR mu0 S0 B w0 nt fr st a w)(hk:aops P ops (o::r) fr st K)
  (ih:∀fr st a w,AR mu0 S0 B w0 nt fr st a w->aops P ops r fr st K->next a w):wpOp P ops Q i next a w:=by
 unfold wpOp
 simp only[hi]
 unfold aops at hk
 have hexec:aop P o.op fr st (fun x st'=>aops P ops r (fr.put o.dst x) st' K)->o.wp P a w next Q:=fun hk=>
  Oper.wp_mono (fun a' w' ⟨x,st',hA,hkx⟩=>ih _ _ _ _ hA hkx) (xF4 h hdo hk)
 split at hk
 ·rename_i hg
  have:Region.wanted o (yielded ops a.tmps)=true:=by unfold Region.wanted;rw[hg]
  rw[if_pos this]
  exact .inl (hexec hk)
 ·rename_i j want hg
  have hfr:∃mu S,FR mu S w fr a:=by obtain⟨mu,S,_,_,h3,_⟩:=h;exact⟨mu,S,h3⟩
  obtain⟨mu,S,hf⟩:=hfr
  split at hk
  ·rename_i b hb
   have hw:=ySl hg hf hb
   by_cases he:b=want
   ·rw[if_pos (by rw[hw,he];simp)]
    exact .inl (hexec (hk.1 he))
   ·have:(b==want)=false:=by simpa using he
    rw[if_neg (by rw[hw,this];simp)]
    exact ih _ _ _ _ (h.skip o.dst hdo) (hk.2 (by cases b <;> cases want <;> simp_all))
  ·exact hk.elim
  ·rename_i h1 h2
   have hw:=ySk hg hf (fun b e=>h1 b e) (fun e=>h2 e)
   rw[if_neg (by rw[hw];simp)]
   exact ih _ _ _ _ (h.skip o.dst hdo) hk
theorem xDg{op:Op}(h:stillB P op=true):∀cs b,op≠ .select cs b:=fun cs b e=>by
 rw[e] at h
 simp[stillB] at h
theorem xSg{a b:Bool}(h:(a || b)=true):a=true\/b=true:=by cases a <;> simp_all
theorem xIX(hQ:∀fr st a w,AR mu0 S0 B w0 nt fr st a w->K fr st->Q .normal a w):∀(g:Nat) (l:List Oper) (k:Nat) (listed:Array Bool) (fr:Fr) (st:St) (a:Act) (w:World),l.length=g->(∀j,l[j]?=ops[k+j]?)->(∀o∈l,∀t,o.dst=some t->t<nt)→
  semB P md ops l.length k listed=true->AR mu0 S0 B w0 nt fr st a w->aops P ops l fr st K->wpAny P md ops Q l.length listed a w:=by
 intro g
 induction g using Nat.strongRecOn with
 | _ g ihg=>
   intro l k listed fr st a w hg hl hd hB h hk
   cases l with
   | nil=>exact⟨by simpa[semB] using hB,hQ _ _ _ _ h hk⟩
   | cons o r=>
     have h0:ops[k]?=some o:=by simpa using (hl 0).symm
     have hl1:∀j,r[j]?=ops[k+1+j]?:=fun j=>by have:=hl (j+1);simpa[Nat.add_assoc,Nat.add_comm 1 j] using this
     have hdo:=hd o (by simp)
     have hdr:∀o∈r,∀t,o.dst=some t->t<nt:=fun o' ho'=>hd o' (List.mem_cons_of_mem _ ho')
     simp only[List.length_cons] at hB hg ⊢
     unfold semB at hB
     by_cases hr:Region.ready md ops listed= [k]
     ·rw[decide_eq_true hr,cond_true] at hB
      refine⟨fun h1=>(by rw[hr] at h1;cases h1),fun i hi=>?_⟩
      rw[hr] at hi
      obtain rfl:i=k:=by simpa using hi
      exact xMU h0 hdo h hk fun fr st a w h hk=>ihg r.length (by omega) r (i+1) _ fr st a w rfl hl1 hdr hB h hk
     ·rw[decide_eq_false hr,cond_false] at hB
      rcases xSg hB with hB | hB
      ·obtain⟨h1,h2⟩:=yBE hB
       obtain⟨h3,h4⟩:=yBE h1
       have H:=yVy (K:=K) (l2:= []) (o::r) fr a (fun q hq=>List.all_eq_true.1 h4 q (by
        obtain⟨j,hj⟩:=List.mem_iff_getElem?.1 hq
        refine List.mem_iff_getElem?.2 ⟨j,?_⟩
        rw[List.getElem?_drop,←hj,hl j,Array.getElem?_toList])) hd (by rw[List.append_nil];exact hk) h
       exact wpAny_of_still (fun a' ⟨fr',h1,h2⟩=>hQ _ _ _ _ h1 h2) _ _ _ (wpAnyS_lex h3 (o::r) k listed a hl h2 H)
      cases r with
      | nil=>simp at hB
      | cons o2 r=>
        simp only[List.length_cons] at hB hg ⊢
        have h1:ops[k+1]?=some o2:=by simpa using (hl1 0).symm
        obtain⟨hr,hB⟩:=yBE hB
        obtain⟨hp,hB⟩:=yBE hB
        obtain⟨hra,hB⟩:=yBE hB
        obtain⟨hrb,hB⟩:=yBE hB
        have hr:=of_decide_eq_true hr
        have hra:=of_decide_eq_true hra
        have hrb:=of_decide_eq_true hrb
        unfold xSi at hp
        rw[h0,h1] at hp
        dsimp only at hp
        obtain⟨hs1,hp⟩:=yBE hp
        obtain⟨hs2,hp⟩:=yBE hp
        obtain⟨-,hp⟩:=yBE hp
        obtain⟨-,hap⟩:=yBE hp
        have H:=yVy (K:=K) (l2:=r) [o,o2] fr a (fun q hq=>by
         rcases List.mem_cons.1 hq with rfl | hq
         ·exact hs1
         ·rw[List.mem_singleton.1 hq];exact hs2) (fun q hq=>hd q (by
         rcases List.mem_cons.1 hq with rfl | hq
         ·simp
         ·rw[List.mem_singleton.1 hq];simp)) hk h
        generalize hL:(fun a'=>∃fr',AR mu0 S0 B w0 nt fr' st a' w/\aops P ops r fr' st K)=L at H
        have H1:stOp P ops w k (stOp P ops w (k+1) L) a:=by
         have e:∀a,wpStill P ops w L [o2] a->stOp P ops w (k+1) L a:=fun a h=>by unfold stOp;simp only[h1];exact h
         exact stOp_mono e (by unfold stOp;simp only[h0];exact H)
        have hfin:∀a',L a'->wpAny P md ops Q r.length ((listed.setIfInBounds k true).setIfInBounds (k+1) true) a' w:=fun a' ha=>by
         rw[←hL] at ha
         obtain⟨fr',hA,hk'⟩:=ha
         exact ihg r.length (by omega) r (k+2) _ fr' st a' w rfl (fun j=>by have:=hl1 (j+1);rw[show k+2+j=k+1+(j+1) by omega];simpa using this) (fun o' ho'=>hdr o' (List.mem_cons_of_mem _ ho')) hB hA hk'
        obtain⟨v,hy,hK⟩:=yieldsAt_of_stOp h0 H1
        have H2:=stOp_put h1 hap (xDg hs1) (xDg hs2) hy hK
        refine⟨fun h=>(by rw[hr] at h;cases h),fun i hi=>?_⟩
        rw[hr] at hi
        rcases List.mem_cons.1 hi with rfl | hi
        ·refine wpOp_of_stOp (fun a' h'=>?_) H1
         refine⟨fun h=>(by rw[hra] at h;cases h),fun j hj=>?_⟩
         rw[hra] at hj
         obtain rfl:j=i+1:=by simpa using hj
         exact wpOp_of_stOp (fun a'' h''=>hfin a'' h'') h'
        ·obtain rfl:i=k+1:=by simpa using hi
         refine wpOp_of_stOp (fun a' h'=>?_) H2
         refine⟨fun h=>(by rw[hrb] at h;cases h),fun j hj=>?_⟩
         rw[hrb] at hj
         obtain rfl:j=k:=by simpa using hj
         rw[Array.setIfInBounds_comm _ _ (by omega)]
         exact wpOp_of_stOp (fun a'' h''=>hfin a'' h'') (h'.1.stOp h0 h'.2)
end
def preB(P:Program)(md:Region.Mode)(ops:Array Oper)(n:Nat):Bool:=decide (n<ops.size)&&Region.sinkB md ops n&&chB md ops n&&xOl ops n&&semB P md ops (ops.size-n) n (xAQ ops.size n)
theorem xKA{ops:Array Oper}{md:Region.Mode}{n:Nat}{listed:Array Bool}(hs:Region.sinkB md ops n=true)(hc:chB md ops n=true)(hn:n<ops.size)(inv:HeadInv md ops n listed):
  ∀(d i:Nat),n-i=d->i<n->listed.getD i true=false->∀t,n<=t->t ∉ Region.ready md ops listed:=by
 intro d
 induction d using Nat.strongRecOn with
 | _ d ih=>
   intro i hd hi hun t ht hr
   obtain⟨_,ot,hot,hall⟩:=mem_ready.1 hr
   have htlt:t<ops.size:=(Array.getElem?_eq_some_iff.1 hot).1
   by_cases htn:t=n
   ·subst htn
    have h1:=List.all_eq_true.1 hs i (List.mem_range.2 hi)
    obtain⟨j,hj,hj2⟩:=List.any_eq_true.1 h1
    simp only[Bool.and_eq_true,decide_eq_true_eq] at hj2
    obtain⟨oj,hoj,e,he,hb,hon⟩:=Region.waitsFor_spec hj2.2
    have hjle:j<=t:=by have:=List.mem_range.1 hj;omega
    by_cases hjt:j=t
    ·subst hjt
     have:oj=ot:=Option.some.inj (hoj.symm.trans hot)
     subst this
     have h2:=hall e he hb
     rw[hon,getD_both hun] at h2
     cases h2
    ·cases hl:listed.getD j false with
     | true=>
       have h2:=inv.closed j oj hoj hl e he hb
       rw[hon,getD_both hun] at h2
       cases h2
     | false=>
       have hjs:j<listed.size:=by rw[inv.size];omega
       exact ih (t-j) (by omega) j rfl (by omega) (getD_in hjs hl) t (Nat.le_refl _) hr
   ·have h1:=List.all_eq_true.1 hc t (List.mem_range.2 htlt)
    simp only[Bool.or_eq_true,decide_eq_true_eq] at h1
    rcases h1 with h1 | h1
    ·omega
    ·obtain⟨s,hs',h1⟩:=List.any_eq_true.1 h1
     obtain⟨h0,h1⟩:=yBE h1
     have h0:=of_decide_eq_true h0
     have hst:=List.mem_range.1 hs'
     obtain⟨o',ho',e,he,hb,hon⟩:=Region.waitsFor_spec h1
     have:o'=ot:=Option.some.inj (ho'.symm.trans hot)
     subst this
     have h2:=hall e he hb
     rw[hon,getD_both (inv.tail s (by omega) (by omega))] at h2
     cases h2
section
variable {P:Program} {ops:Array Oper} {md:Region.Mode} {n:Nat} {listed listed0:Array Bool}
theorem xM8(hn:n<ops.size):(yQw ops n).size=n:=by
 unfold yQw
 simp;omega
structure Lk (ops:Array Oper) (n:Nat) (listed listed0:Array Bool):Prop where
 size:listed.size=ops.size
 size0:listed0.size=n
 same:∀j,j<n->listed.getD j true=listed0.getD j true
 tail:∀j,n<=j->j<ops.size->listed.getD j true=false
theorem xIz{l:Array Bool}{j:Nat}(h:j<l.size):l.getD j false=l.getD j true:=by simp[h]
theorem Lk.ready(hn:n<ops.size)(hb:xOl ops n=true)(h:Lk ops n listed listed0){i:Nat}(hi:i<n):i∈Region.ready md ops listed↔i∈Region.ready md (yQw ops n) listed0:=by
 rw[mem_ready,mem_ready,xED hi,h.same i hi]
 refine and_congr_right fun _=>exists_congr fun o=>and_congr_right fun ho=>forall_congr' fun e=>forall_congr' fun he=>?_
 have h1:=List.all_eq_true.1 hb i (List.mem_range.2 (by omega))
 rw[ho] at h1
 obtain⟨h1,-⟩:=yBE h1
 have h2:=of_decide_eq_true (Array.all_eq_true'.1 h1 e he)
 rw[xIz (by rw[h.size];omega),xIz (by rw[h.size0];omega),h.same e.on (by omega)]
theorem Lk.set(h:Lk ops n listed listed0){i:Nat}(hi:i<n)(hn:n<ops.size):Lk ops n (listed.setIfInBounds i true) (listed0.setIfInBounds i true):=by
 refine⟨by simp[h.size],by simp[h.size0],fun j hj=>?_,fun j hj hj'=>?_⟩
 ·by_cases hij:i=j
  ·subst hij
   have h1:i<listed.size:=by rw[h.size];omega
   have h2:i<listed0.size:=by rw[h.size0];exact hi
   simp[h1,h2]
  ·rw[getD_set_ne true hij,getD_set_ne true hij];exact h.same j hj
 ·rw[getD_set_ne true (by omega)];exact h.tail j hj hj'
theorem wait(hs:Region.sinkB md ops n=true)(hc:chB md ops n=true)(hn:n<ops.size)(hb:xOl ops n=true){listed listed0:Array Bool}(h:Lk ops n listed listed0)(inv:∀j oj,ops[j]?=some oj->listed.getD j false=true->∀e∈oj.after,Region.binds md e=true->listed.getD e.on false=true){i:Nat}(hi:i<n)(hu:listed.getD i true=false):∀t,n<=t->t ∉ Region.ready md ops listed:=
 xKA hs hc hn ⟨h.size,inv,h.tail⟩ _ i rfl hi hu
def left(listed:Array Bool)(n:Nat):Nat:=((List.range n).filter fun i=> !listed.getD i true).length
theorem xO9{listed:Array Bool}{i n:Nat}(hi:i<n)(hl:i<listed.size)(hu:listed.getD i true=false):left listed n=left (listed.setIfInBounds i true) n+1:=by
 unfold left
 induction n with
 | zero=>omega
 | succ n ih=>
   rw[List.range_succ,List.filter_append,List.filter_append,List.length_append,List.length_append]
   by_cases hin:i=n
   ·subst hin
    have e:((List.range i).filter fun j=> !listed.getD j true)=(List.range i).filter fun j=> !(listed.setIfInBounds i true).getD j true:=by
     refine List.filter_congr fun j hj=>?_
     rw[getD_set_ne true (by have:=List.mem_range.1 hj;omega)]
    rw[e,List.filter_cons,List.filter_cons,hu,show(listed.setIfInBounds i true).getD i true=true by simp[hl]]
    simp
   ·rw[ih (by omega)]
    have e:(listed.setIfInBounds i true).getD n true=listed.getD n true:=getD_set_ne true hin
    simp only[List.filter_cons,List.filter_nil,e]
    omega
theorem xNF{listed:Array Bool}{n:Nat}(h:left listed n=0):∀j,j<n->listed.getD j true=true:=fun j hj=>by
 have:=List.eq_nil_of_length_eq_zero h
 rcases hb:listed.getD j true with _ | _
 ·exfalso
  have:j∈(List.range n).filter fun i=> !listed.getD i true:=List.mem_filter.2 ⟨List.mem_range.2 hj,by rw[hb];rfl⟩
  rw[List.eq_nil_of_length_eq_zero h] at this
  cases this
 ·rfl
theorem xPN{listed:Array Bool}{n:Nat}(h:left listed n≠0):∃i,i<n/\listed.getD i true=false/\∀j,j<i->listed.getD j true=true:=by
 have hex:∃i,i<n/\listed.getD i true=false:=by
  cases hl:(List.range n).filter fun i=> !listed.getD i true with
  | nil=>exact absurd (by unfold left;rw[hl];rfl) h
  | cons x r=>
    have hx:x∈(List.range n).filter fun i=> !listed.getD i true:=by rw[hl];simp
    obtain⟨h1,h2⟩:=List.mem_filter.1 hx
    exact⟨x,List.mem_range.1 h1,by simpa using h2⟩
 obtain⟨i,⟨hi1,hi2⟩,hmin⟩:=least hex
 refine⟨i,hi1,hi2,fun j hj=>?_⟩
 rcases hb:listed.getD j true with _ | _
 ·have:=hmin j ⟨by omega,hb⟩;omega
 ·rfl
theorem xKG{o:Oper}{i:Nat}(hn:n<ops.size)(hb:xOl ops n=true)(ho:ops[i]?=some o)(hi:i<n)(tmps:Array Value):Region.wanted o (yielded (yQw ops n) tmps)=Region.wanted o (yielded ops tmps):=by
 have h1:=List.all_eq_true.1 hb i (List.mem_range.2 (by omega))
 rw[ho] at h1
 obtain⟨-,h1⟩:=yBE h1
 unfold Region.wanted
 cases hg:o.guard with
 | none=>rfl
 | some jw=>
   obtain⟨j,w⟩:=jw
   rw[hg] at h1
   have hj:=of_decide_eq_true h1
   dsimp only
   unfold yielded
   rw[xED (by omega)]
theorem wpAny_head{Q:Exit->Act->World->Prop}{T:Act->World->Prop}{m:Nat}(hp:preB P md ops n=true)(hT:∀a w,T a w->wpAny P md ops Q m (xAQ ops.size n) a w):
  ∀(f:Nat) (listed listed0:Array Bool) (a:Act) (w:World),Lk ops n listed listed0->(∀j oj,ops[j]?=some oj->listed.getD j false=true->∀e∈oj.after,Region.binds md e=true->listed.getD e.on false=true)->left listed n=f→
   wpAny P md (yQw ops n) (fun ex a w=>match ex with | .normal=>T a w | ex=>Q ex a w) f listed0 a w->wpAny P md ops Q (f+m) listed a w:=by
 unfold preB at hp
 obtain⟨hp,hseq⟩:=yBE hp
 obtain⟨hp,hb⟩:=yBE hp
 obtain⟨hp,hc⟩:=yBE hp
 obtain⟨hn,hs⟩:=yBE hp
 have hn:=of_decide_eq_true hn
 intro f
 induction f with
 | zero=>
   intro listed listed0 a w hk inv hf h
   have hz:=xNF hf
   have e:listed=xAQ ops.size n:=by
    apply Array.ext
    ·rw[hk.size];simp[xAQ]
    ·intro i h1 h2
     have hi:i<ops.size:=by rw[←hk.size];exact h1
     have:listed.getD i true=decide (i<n):=by
      by_cases hin:i<n
      ·rw[hz i hin,decide_eq_true hin]
      ·rw[hk.tail i (by omega) hi,decide_eq_false hin]
     simpa[h1,xAQ] using this
   rw[Nat.zero_add,e]
   exact hT a w h.2
 | succ f ih=>
   intro listed listed0 a w hk inv hf h
   obtain⟨i0,hi0,hu0,hmin⟩:=xPN (listed:=listed) (n:=n) (by omega)
   have hw:=wait hs hc hn hb hk inv hi0 hu0
   rw[show f+1+m=(f+m)+1 by omega]
   refine⟨fun h0=>?_,fun i hi=>?_⟩
   ·exfalso
    have:i0∈Region.ready md ops listed:=by
     rw[mem_ready]
     have hlt:i0<ops.size:=by omega
     refine⟨hu0,ops[i0],Array.getElem?_eq_getElem hlt,fun e he _=>?_⟩
     have h1:=List.all_eq_true.1 hb i0 (List.mem_range.2 hi0)
     rw[Array.getElem?_eq_getElem hlt] at h1
     obtain⟨h1,-⟩:=yBE h1
     have h2:=of_decide_eq_true (Array.all_eq_true'.1 h1 e he)
     rw[xIz (by rw[hk.size];omega)]
     exact hmin e.on h2
    rw[h0] at this
    cases this
   ·have hin:i<n:=by
      rcases Nat.lt_or_ge i n with h | h
      ·exact h
      ·exact absurd hi (hw i h)
    have hi2:=(hk.ready hn hb hin).1 hi
    obtain⟨hiu,oi,hoi,hall⟩:=mem_ready.1 hi
    have hst:=h.2 i hi2
    have hlt:i<listed.size:=by rw[hk.size];omega
    have step:∀a w,wpAny P md (yQw ops n) (fun ex a w=>match ex with | .normal=>T a w | ex=>Q ex a w) f (listed0.setIfInBounds i true) a w->wpAny P md ops Q (f+m) (listed.setIfInBounds i true) a w:=fun a w h=>
     ih _ _ a w (hk.set hin hn) (fun j oj hj hl e he hbd=>by
      by_cases hij:i=j
      ·subst hij
       rw[hoi] at hj;injection hj with hj;subst hj
       have:=hall e he hbd
       by_cases hie:i=e.on
       ·rw[←hie];simp[hlt]
       ·rw[getD_set_ne false hie];exact this
      ·rw[getD_set_ne false hij] at hl
       have:=inv j oj hj hl e he hbd
       by_cases hie:i=e.on
       ·rw[←hie];simp[hlt]
       ·rw[getD_set_ne false hie];exact this) (by have:=xO9 hin hlt hiu;omega) h
    unfold wpOp at hst ⊢
    rw[xED hin,hoi] at hst
    rw[hoi]
    dsimp only at hst ⊢
    rw[xKG hn hb hoi hin] at hst
    split
    ·rename_i hw
     rw[if_pos hw] at hst
     rcases hst with hst | ⟨h1,h2⟩
     ·left
      unfold Oper.wp at hst ⊢
      generalize (execOp a.eval oi).run P w=r at hst ⊢
      cases r with
      | ok nx w'=>
        cases nx <;> simp only[Oper.upon] at hst ⊢ <;>
         first
          | exact step _ _ hst
          | exact Calls.mono hst (fun e w'' he=>by cases e <;> first | exact step _ _ he | exact he)
          | exact Rows.mono hst (fun _ _ he=>step _ _ he)
      | halt x w'=>cases x <;> simp only[Oper.upon] at hst ⊢ <;> exact hst
     ·exact .inr ⟨h1,h2⟩
    ·rename_i hw
     rw[if_neg hw] at hst
     exact step _ _ hst
end
theorem AW.region_mix{P:Program}{nt id n:Nat}{ops:Array Oper}{Q:AEx->Fr->St->Prop}{fr:Fr}{st:St}(hm:P.follows .mixedOrders=true)(hd:xQE ops nt=true)(hp:preB P .any ops n=true)(hlex:Region.lexB .any (yQw ops n)=true)
  (h:dlist P (yQw ops n) st.c (fun fr g=>aops P ops (ops.toList.drop n) fr ⟨g,st.c+n⟩ (Q .normal)) (yQw ops n).toList 0 [] fr st.get):AW P nt (.region id ops true) Q fr st:=fun mu0 S0 B w0 a w hA=>by
 have hn:n<ops.size:=by
  unfold preB at hp
  obtain⟨hp,_⟩:=yBE hp
  obtain⟨hp,_⟩:=yBE hp
  obtain⟨hp,_⟩:=yBE hp
  exact of_decide_eq_true (yBE hp).1
 have hd':∀o∈ops.toList,∀t,o.dst=some t->t<nt:=fun o ho t ht=>by
  have:=Array.all_eq_true_iff_forall_mem.1 hd o (Array.mem_toList_iff.1 ho)
  rw[ht] at this
  exact Nat.lt_of_succ_le (Nat.le_of_ble_eq_true this)
 have hdh:∀o∈yQw ops n,∀t,o.dst=some t->t<nt:=fun o ho=>hd' o (by
  unfold yQw at ho
  exact List.mem_of_mem_take (by simpa using ho))
 obtain⟨TT,WW,hk⟩:=yWF hlex h
 obtain⟨mu,S,h1,h2,h3,h4,h5,h6,h7⟩:=hA
 refine wp_region_any hm ?_
 have hsz:=xM8 hn
 have key:wpAny P .any (yQw ops n) (fun ex a w=>match ex with | .normal=>(∃fr' g,AR mu0 S0 B w0 nt fr' ⟨g,st.c+n⟩ a w/\aops P ops (ops.toList.drop n) fr' ⟨g,st.c+n⟩ (Q .normal)) | ex=>QR mu0 S0 B w0 nt Q ex a w) (yQw ops n).size (Array.replicate (yQw ops n).size false) a {w with drawn:=w.drawn+1 }:=by
  refine yXW (mu0:=mu0) (S0:=S0) (B:=B) (w0:=w0) (nt:=nt) (n0:=st.c) hdh ?_ (yQw ops n).size _ fr st.get a _ ?_ hk
  ·rintro listed fr' g a' w' ⟨mu',S',k1,k2,k3,k4,k5,k6,k7,k8⟩ hK
   refine⟨fr',g,⟨mu',S',k1.c _,fun b hb=>?_,k4,k5,k6,k7,k8⟩,hK⟩
   exact k3 b (by rw[hsz];exact hb)
  ·have hb:Off B w {w with drawn:=w.drawn+1 }:=(Off.refl _ _).drew
   exact⟨mu,S,h1.drew.c _,fun i _=>h2 _ (by omega),fun b hb=>h2 _ (by omega),h3.mono (fun _ _ h=>h) (fun _ _ h=>h) (fun _ _ _=>rfl),h4,h5.trans ⟨fun _ _ h=>h,fun _ _ h=>h,fun _ _ h=> .inl h,fun _ _ _=>rfl,hb⟩,h6,h7⟩
 rw[hsz] at key
 have hlf:left (Array.replicate ops.size false) n=n:=by
  unfold left
  have:(List.range n).filter (fun i=> !(Array.replicate ops.size false).getD i true)=List.range n:=List.filter_eq_self.2 fun i hi=>by
   have hi:=List.mem_range.1 hi
   have:i<ops.size:=by omega
   simp[this]
  rw[this,List.length_range]
 have hsplit:ops.size=n+(ops.toList.drop n).length:=by simp;omega
 have hsem:semB P .any ops (ops.size-n) n (xAQ ops.size n)=true:=by
  unfold preB at hp
  exact(yBE hp).2
 have hT:∀a w,(∃fr' g,AR mu0 S0 B w0 nt fr' ⟨g,st.c+n⟩ a w/\aops P ops (ops.toList.drop n) fr' ⟨g,st.c+n⟩ (Q .normal))->wpAny P .any ops (QR mu0 S0 B w0 nt Q) (ops.toList.drop n).length (xAQ ops.size n) a w:=fun a w ⟨fr',g,hA,hK⟩=>
  xIX (K:=Q .normal) (fun fr st a w h1 h2=>⟨fr,st,h1,h2⟩) _ (ops.toList.drop n) n _ fr' ⟨g,st.c+n⟩ a w rfl (fun j=>by simp[List.getElem?_drop]) (fun o ho=>hd' o (List.mem_of_mem_drop ho)) (by rw[show(ops.toList.drop n).length=ops.size-n by simp];exact hsem) hA hK
 have:=wpAny_head (Q:=QR mu0 S0 B w0 nt Q) (m:=(ops.toList.drop n).length) hp hT n (Array.replicate ops.size false) (Array.replicate n false) a _ ⟨by simp,by simp,fun j hj=>by
  have:j<ops.size:=by omega
  simp[hj,this],fun j hj hj'=>by simp[hj']⟩ (fun j oj hj hl=>by
  rw[getD_replicate_false] at hl;cases hl) hlf key
 rw[←hsplit] at this
 exact this
end Go.Proofs.YtakljpcmbpaeaaaGreat
