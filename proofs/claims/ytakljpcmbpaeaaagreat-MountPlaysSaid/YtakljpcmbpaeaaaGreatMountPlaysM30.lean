/- Loops by their rounds: what lives on at a loop's head, under new names. -/
import Derived.Test.YtakljpcmbpaeaaaGreatMountPlaysM29
set_option linter.unusedSimpArgs false
set_option linter.unusedVariables false
namespace Go.Proofs.YtakljpcmbpaeaaaGreat
open Go.RowKit
inductive Md where
 | p
 | a (sz:Nat)
 | w (sz:Nat)
 | f (sz:Nat) (L:List Nat)
 | o (ms:List Md)
 | r (ms:List Md)
 | q (sz:Nat)
abbrev Bl:=List Blk'
def xOz:List (Nat×Md)->List V->Tr V->Tr V
 | (t,_)::l,v::vs,T=>xOz l vs (Tr.set 12 T t (some v))
 | _,_,T=>T
def blT:Bl->Nat->Tr Blk'->Tr Blk'
 | p::l,n,G=>blT l (n+1) (Tr.set 20 G n (some p))
 | [],_,G=>G
inductive AV0 where
 | p (y:V)
 | a (es:List (List V)) (sz:Nat)
 | w (es:List (List V)) (sz:Nat)
inductive AV where
 | v (x:AV0)
 | o (cs:List AV0) (sz:Nat)
 | r (cs:List AV0) (sz:Nat)
 | q (es:List (List V)) (sz:Nat)
def av0:AV0->Nat->V×Bl
 | .p y,_=>(y,[])
 | .a es sz,n=>(.bs n 0 es.length es.length,[⟨es,sz,es.length⟩])
 | .w es sz,n=>(.bs n 0 es.length es.length,[⟨es,sz,0⟩])
def av0s:List AV0->Nat->List V×Bl
 | [],_=>([],[])
 | x::l,n=>((av0 x n).1::(av0s l (n+(av0 x n).2.length)).1,(av0 x n).2++(av0s l (n+(av0 x n).2.length)).2)
def av1:AV->Nat->V×Bl
 | .v x,n=>av0 x n
 | .o cs sz,n=>(.ptr n 0 0,⟨[(av0s cs (n+1)).1],sz,0⟩::(av0s cs (n+1)).2)
 | .r cs _,n=>(.ptr 0 0 0,(av0s cs n).2)
 | .q es _,_=>(.bs 0 0 es.length es.length,[])
def avs:List AV->Nat->List V×Bl
 | [],_=>([],[])
 | x::l,n=>((av1 x n).1::(avs l (n+(av1 x n).2.length)).1,(av1 x n).2++(avs l (n+(av1 x n).2.length)).2)
def avR:List AV->Tr Blk'
 | .r cs sz::_=>Tr.set 20 .leaf 0 (some ⟨[(av0s cs 1).1],sz,0⟩)
 | .q es sz::_=>Tr.set 20 .leaf 0 (some ⟨es,sz,0⟩)
 | _=> .leaf
def look(b:Nat):List (Nat×List (List V))->Option (List (List V))
 | []=>none
 | p::A=>bif Nat.beq b p.1 then some p.2 else look b A
def fz1(A:List (Nat×List (List V)))(x:V):V:=match x with
 | .bs b i m c=>match look b A with
   | some es=> .sl ((es.drop i).take m) false
   | none=> .bs b i m c
 | x=>x
def xO0(A:List (Nat×List (List V)))(x:V):Bool:=match x with
 | .bs b i m _=>match look b A with
   | some es=>Nat.ble (i+m) es.length&&(Nat.ble (i+m) 2000000&&yCL es)
   | none=>false
 | x=>nmB 20 x
def xMR(A:List (Nat×List (List V)))(es:List (List V)):List (List V):=es.map fun r=>r.map (fz1 A)
def xLH(A:List (Nat×List (List V)))(es:List (List V)):Bool:=es.all fun r=>r.all (xO0 A)
def fzA(G:Tr Blk'):List Nat->List (Nat×List (List V))
 | []=> []
 | b::L=>match G.get b with
   | some k=>(b,k.es)::fzA G L
   | none=>fzA G L
def canV(G:Tr Blk')(f:Nat->Nat)(m:Md)(x:V):Option (List Bool×AV0×List (Option Nat)):=match m with
 | .p=>match frC f 20 G.get x with
   | none=>none
   | some (c,y)=>some (c,.p y,[])
 | .a sz=>match x with
   | .bs b i m cap=>match G.get b with
     | none=>none
     | some k=>some ([Nat.beq (f b) 2000000,Nat.beq k.sz sz,Nat.beq i 0,Nat.beq m k.es.length,Nat.ble k.es.length 2000000,yCL k.es],.a k.es sz,[some b])
   | .sl es fl=>some ([fl,Nat.beq es.length 0],.a [] sz,[none])
   | _=>none
 | .w sz=>match x with
   | .bs b i m cap=>match G.get b with
     | none=>none
     | some k=>some ([Nat.beq (f b) 0,Nat.beq k.lk 0,Nat.beq k.sz sz,Nat.beq i 0,Nat.beq m k.es.length,yCL k.es],.w k.es sz,[some b])
   | .sl es fl=>some ([fl,Nat.beq es.length 0],.w [] sz,[none])
   | _=>none
 | .f sz L=>match x with
   | .bs b i m cap=>match G.get b with
     | none=>none
     | some k=>match fzA G L with
       | []=>some ([Nat.beq (f b) 0,Nat.beq k.lk 0,Nat.beq k.sz sz,Nat.beq i 0,Nat.beq m k.es.length,yCL k.es],.w k.es sz,[some b])
       | A=>some ([Nat.beq (f b) 0,Nat.beq k.lk 0,Nat.beq k.sz sz,Nat.beq i 0,L.all (fun b=>Nat.beq (f b) 2000000),Nat.beq m k.es.length,xLH A k.es],.w (xMR A k.es) sz,[some b])
   | .sl es fl=>some ([fl,Nat.beq es.length 0],.w [] sz,[none])
   | _=>none
 | .o _=>none
 | .r _=>none
 | .q _=>none
def canVs(G:Tr Blk')(f:Nat->Nat):List Md->List V->Option (List Bool×List AV0×List (Option Nat))
 | [],[]=>some ([],[],[])
 | m::ms,x::xs=>match canV G f m x with
   | none=>none
   | some (c,y,ns)=>match canVs G f ms xs with
     | none=>none
     | some (d,ys,ns')=>some (c++d,y::ys,ns++ns')
 | _,_=>none
def canS(T:Tr V)(G:Tr Blk')(f:Nat->Nat):List (Nat×Md)->Option (List Bool×List AV×List (Option Nat))
 | []=>some ([],[],[])
 | (t,m)::l=>match m with
   | .o ms=>match (T.get t).getD .undef with
     | .ptr b i j=>match G.get b with
       | some k=>match k.es with
         | [row]=>match canVs G f ms row with
           | none=>none
           | some (c,row',ns)=>match canS T G f l with
             | none=>none
             | some (d,ys,ns')=>some (Nat.ble t 4000::Nat.beq i 0::Nat.beq j 0::Nat.beq (f b) 0::Nat.beq k.lk 0::(c++d),.o row' k.sz::ys,some b::(ns++ns'))
         | _=>none
       | none=>none
     | _=>none
   | _=>match canV G f m ((T.get t).getD .undef) with
     | none=>none
     | some (c,y,ns)=>match canS T G f l with
       | none=>none
       | some (d,ys,ns')=>some (Nat.ble t 4000::(c++d),.v y::ys,ns++ns')
def wN:List Md->List V->List Nat
 | .w _::ms,.bs b _ _ _::xs=>b::wN ms xs
 | .f _ _::ms,.bs b _ _ _::xs=>b::wN ms xs
 | _::ms,_::xs=>wN ms xs
 | _,_=> []
def xB1(T:Tr V)(G:Tr Blk'):List (Nat×Md)->List Nat
 | []=> []
 | (t,.o ms)::l=>match (T.get t).getD .undef with
   | .ptr b _ _=>b::((match G.get b with | some k=>wN ms (k.es.headD []) | none=> [])++xB1 T G l)
   | _=>xB1 T G l
 | (t,.r ms)::l=>match (T.get t).getD .undef with
   | .ptr b _ _=>b::((match G.get b with | some k=>wN ms (k.es.headD []) | none=> [])++xB1 T G l)
   | _=>xB1 T G l
 | (t,.w _)::l=>match (T.get t).getD .undef with
   | .bs b _ _ _=>b::xB1 T G l
   | _=>xB1 T G l
 | (t,.q _)::l=>match (T.get t).getD .undef with
   | .bs b _ _ _=>b::xB1 T G l
   | _=>xB1 T G l
 | (t,.f _ _)::l=>match (T.get t).getD .undef with
   | .bs b _ _ _=>b::xB1 T G l
   | _=>xB1 T G l
 | _::l=>xB1 T G l
def fOf(os:List Nat)(b:Nat):Nat:=bif yE3 os b then 0 else 2000000
def noDup:List (Option Nat)->Bool
 | []=>true
 | none::l=>noDup l
 | some b::l=> !(l.any fun x=>match x with | some c=>Nat.beq b c | none=>false)&&noDup l
def canC(T:Tr V)(G:Tr Blk')(l:List (Nat×Md)):Option (List Bool×List AV):=match l with
 | []=>some ([],[])
 | (t,m)::l'=>match m with
   | .r ms=>match (T.get t).getD .undef with
     | .ptr b i j=>match G.get 0 with
       | some k=>match k.es with
         | [row]=>match canVs G (fOf (xB1 T G l)) ms row with
           | none=>none
           | some (c,row',ns)=>match canS T G (fOf (xB1 T G l)) l' with
             | none=>none
             | some (d,ys,ns')=>some (noDup (some 0::(ns++ns'))::Nat.ble t 4000::Nat.beq b 0::Nat.beq i 0::Nat.beq j 0::Nat.beq (fOf (xB1 T G l) 0) 0::Nat.beq k.lk 0::(c++d),.r row' k.sz::ys)
         | _=>none
       | none=>none
     | _=>none
   | .q sz=>match (T.get t).getD .undef with
     | .bs b i m cap=>match G.get 0 with
       | some k=>match canS T G (fOf (xB1 T G l)) l' with
         | none=>none
         | some (d,ys,ns')=>some (noDup (some 0::ns')::Nat.ble t 4000::Nat.beq b 0::Nat.beq i 0::Nat.beq m k.es.length::Nat.beq k.sz sz::Nat.beq (fOf (xB1 T G l) 0) 0::Nat.beq k.lk 0::yCL k.es::d,.q k.es sz::ys)
       | none=>none
     | _=>none
   | _=>match canS T G (fOf (xB1 T G l)) l with
     | none=>none
     | some (c,vs,ns)=>some (noDup (some 0::ns)::c,vs)
def FzR(st:St)(f:Nat->Nat)(es es':List (List V)):Prop:=es.length=es'.length/\∀i (hi:i<es.length) (hi':i<es'.length),es[i].length=es'[i].length/\∀j (hj:j<es[i].length) (hj':j<es'[i].length),Fz st f es[i][j] es'[i][j]/\Plain es'[i][j]
theorem FzR.pl{st:St}{f:Nat->Nat}{es es':List (List V)}(h:FzR st f es es'):∀r∈es',∀x∈r,Plain x:=fun r hr x hx=>by
 obtain⟨i,hi,rfl⟩:=List.getElem_of_mem hr
 obtain⟨j,hj,rfl⟩:=List.getElem_of_mem hx
 have hi0:i<es.length:=by rw[h.1];exact hi
 exact((h.2 i hi0 hi).2 j (by rw[(h.2 i hi0 hi).1];exact hj) hj).2
theorem FzR.same{st:St}{f:Nat->Nat}{es:List (List V)}(h:∀r∈es,∀x∈r,Plain x):FzR st f es es:=⟨rfl,fun i hi _=>⟨rfl,fun j hj _=>⟨.plain _ (h _ (List.getElem_mem hi) _ (List.getElem_mem hj)),h _ (List.getElem_mem hi) _ (List.getElem_mem hj)⟩⟩⟩
inductive CV (g:Gs) (c:Nat) (f:Nat->Nat):V->Nat->V->Bl->List (Option Nat)->Prop
 | p {x y:V} {n:Nat} (h:Fz ⟨g,c⟩ f x y) (hp:Plain y):CV g c f x n y [] []
 | a {n b cap:Nat} {k:Blk'} (hk:g b=some k) (hl:k.es.length<=2000000) (hf:f b=2000000) (hp:∀r∈k.es,∀x∈r,Plain x):CV g c f (.bs b 0 k.es.length cap) n (.bs n 0 k.es.length k.es.length) [⟨k.es,k.sz,k.es.length⟩] [some b]
 | z {n sz:Nat}:CV g c f (.sl [] true) n (.bs n 0 0 0) [⟨[],sz,0⟩] [none]
 | w {n b cap:Nat} {k:Blk'} {es':List (List V)} (hk:g b=some k) (hl:k.lk=0) (hf:f b=0) (hp:FzR ⟨g,c⟩ f k.es es'):CV g c f (.bs b 0 k.es.length cap) n (.bs n 0 es'.length es'.length) [⟨es',k.sz,0⟩] [some b]
inductive CVs (g:Gs) (c:Nat) (f:Nat->Nat):List V->Nat->List V->Bl->List (Option Nat)->Prop
 | nil {n:Nat}:CVs g c f [] n [] [] []
 | cons {x y:V} {xs ys:List V} {n:Nat} {bs bs':Bl} {ns ns':List (Option Nat)} (h:CV g c f x n y bs ns) (r:CVs g c f xs (n+bs.length) ys bs' ns'):CVs g c f (x::xs) n (y::ys) (bs++bs') (ns++ns')
inductive CS (fr:Fr) (g:Gs) (c:Nat) (f:Nat->Nat):List (Nat×Md)->Nat->List V->Bl->List (Option Nat)->Prop
 | nil {n:Nat}:CS fr g c f [] n [] [] []
 | v {t:Nat} {m:Md} {l:List (Nat×Md)} {y:V} {ys:List V} {n:Nat} {bs bs':Bl} {ns ns':List (Option Nat)} (ht:t<=4000) (h:CV g c f (fr t) n y bs ns) (r:CS fr g c f l (n+bs.length) ys bs' ns'):CS fr g c f ((t,m)::l) n (y::ys) (bs++bs') (ns++ns')
 | o {t b sz:Nat} {m:Md} {row row':List V} {l:List (Nat×Md)} {ys:List V} {n:Nat} {bs bs':Bl} {ns ns':List (Option Nat)} (ht:t<=4000) (hx:fr t= .ptr b 0 0) (hk:g b=some ⟨[row],sz,0⟩) (hf:f b=0) (h:CVs g c f row (n+1) row' bs ns) (r:CS fr g c f l (n+1+bs.length) ys bs' ns'):
  CS fr g c f ((t,m)::l) n (.ptr n 0 0::ys) (⟨[row'],sz,0⟩::(bs++bs')) (some b::(ns++ns'))
inductive CR (fr:Fr) (g:Gs) (c:Nat) (f:Nat->Nat):List (Nat×Md)->List V->Bl->List (Option Nat)->Tr Blk'->Prop
 | no {l:List (Nat×Md)} {vs:List V} {bs:Bl} {ns:List (Option Nat)} (h:CS fr g c f l 1 vs bs ns):CR fr g c f l vs bs ns .leaf
 | r {t sz:Nat} {m:Md} {row row':List V} {l:List (Nat×Md)} {ys:List V} {bs bs':Bl} {ns ns':List (Option Nat)} (ht:t<=4000) (hx:fr t= .ptr 0 0 0) (hk:g 0=some ⟨[row],sz,0⟩) (hf:f 0=0) (h:CVs g c f row 1 row' bs ns) (r:CS fr g c f l (1+bs.length) ys bs' ns'):
  CR fr g c f ((t,m)::l) (.ptr 0 0 0::ys) (bs++bs') (ns++ns') (Tr.set 20 .leaf 0 (some ⟨[row'],sz,0⟩))
 | q {t cap:Nat} {m:Md} {k:Blk'} {l:List (Nat×Md)} {ys:List V} {bs:Bl} {ns:List (Option Nat)} (ht:t<=4000) (hx:fr t= .bs 0 0 k.es.length cap) (hk:g 0=some k) (hl:k.lk=0) (hf:f 0=0) (hp:∀r∈k.es,∀x∈r,Plain x) (r:CS fr g c f l 1 ys bs ns):
  CR fr g c f ((t,m)::l) (.bs 0 0 k.es.length k.es.length::ys) bs ns (Tr.set 20 .leaf 0 (some ⟨k.es,k.sz,0⟩))
theorem xEG{G:Tr Blk'}{b:Nat}{es:List (List V)}:∀L,look b (fzA G L)=some es->b∈L/\∃k,G.get b=some k/\k.es=es
 | [],h=>by cases h
 | x::L,h=>by
   unfold fzA at h
   split at h
   ·rename_i k hk
    unfold look at h
    cases hb:Nat.beq b x with
    | true=>
      rw[hb,cond_true] at h
      injection h with h
      have:=Nat.eq_of_beq_eq_true hb
      subst this
      exact⟨by simp,k,hk,h⟩
    | false=>
      rw[hb,cond_false] at h
      obtain⟨h1,h2⟩:=xEG L h
      exact⟨by simp[h1],h2⟩
   ·obtain⟨h1,h2⟩:=xEG L h
    exact⟨by simp[h1],h2⟩
theorem xSO{G:Tr Blk'}{f:Nat->Nat}{c:Nat}{L:List Nat}(hg:PSg G.get)(hL:(L.all fun b=>Nat.beq (f b) 2000000)=true){x:V}(hx:PS x)(h:xO0 (fzA G L) x=true):Fz ⟨G.get,c⟩ f x (fz1 (fzA G L) x)/\Plain (fz1 (fzA G L) x):=by
 have nm:∀y,PS y->nmB 20 y=true->Fz ⟨G.get,c⟩ f y y/\Plain y:=fun y hy h=>⟨.plain _ (yCg 20 y hy h),yCg 20 y hy h⟩
 cases x
 case bs b i m cap=>
  unfold xO0 at h
  unfold fz1
  dsimp only at h ⊢
  cases hlk:look b (fzA G L) with
  | none=>rw[hlk] at h;cases h
  | some es=>
    rw[hlk] at h
    dsimp only at h ⊢
    obtain⟨hb,k,hk,rfl⟩:=xEG L hlk
    rw[Bool.and_eq_true,Bool.and_eq_true] at h
    have l1:=Nat.le_of_ble_eq_true h.1
    have l2:=Nat.le_of_ble_eq_true h.2.1
    have hfb:=Nat.eq_of_beq_eq_true (List.all_eq_true.1 hL b hb)
    have hpl:∀r∈k.es,∀z∈r,Plain z:=fun r hr z hz=>yCg 20 z (hg b k hk r hr z hz) (List.all_eq_true.1 (List.all_eq_true.1 h.2.2 r hr) z hz)
    have hlen:((k.es.drop i).take m).length=m:=by rw[List.length_take,List.length_drop];omega
    refine⟨.bs b i m cap k _ hk l1 (by rw[hfb];exact l2) hlen (fun a ha ha'=>by rw[List.getElem_take,List.getElem_drop]) fun a ha ha' c hc hc'=>?_,.sl _ _ fun r hr z hz=>hpl r (List.mem_of_mem_drop (List.mem_of_mem_take hr)) z hz⟩
    have e:((k.es.drop i).take m)[a]=k.es[i+a]:=by rw[List.getElem_take,List.getElem_drop]
    have e2:((k.es.drop i).take m)[a][c]=k.es[i+a][c]:=by simp only[e]
    rw[e2]
    exact .plain _ (hpl _ (List.getElem_mem _) _ (List.getElem_mem _))
 all_goals exact nm _ hx h
theorem xQ6{G:Tr Blk'}{f:Nat->Nat}{c:Nat}{L:List Nat}{es:List (List V)}(hg:PSg G.get)(he:PSr es)(hL:(L.all fun b=>Nat.beq (f b) 2000000)=true)(h:xLH (fzA G L) es=true):FzR ⟨G.get,c⟩ f es (xMR (fzA G L) es):=by
 refine⟨by unfold xMR;rw[List.length_map],fun i hi hi'=>?_⟩
 have e:(xMR (fzA G L) es)[i]=es[i].map (fz1 (fzA G L)):=List.getElem_map _
 have el:(xMR (fzA G L) es)[i].length=es[i].length:=by rw[e,List.length_map]
 refine⟨el.symm,fun j hj hj'=>?_⟩
 have e2:(xMR (fzA G L) es)[i][j]=fz1 (fzA G L) es[i][j]:=by simp only[e,List.getElem_map]
 rw[e2]
 exact xSO hg hL (he _ (List.getElem_mem hi) _ (List.getElem_mem hj)) (List.all_eq_true.1 (List.all_eq_true.1 h _ (List.getElem_mem hi)) _ (List.getElem_mem hj))
theorem xIm{G:Tr Blk'}{f:Nat->Nat}{c:Nat}(hg:PSg G.get){m:Md}{x:V}{n:Nat}{cs:List Bool}{y:AV0}{ns:List (Option Nat)}(hx:PS x)(h:canV G f m x=some (cs,y,ns))(hc:∀b∈cs,b=true):CV G.get c f x n (av0 y n).1 (av0 y n).2 ns:=by
 cases m with
 | p=>
   simp only[canV] at h
   split at h
   ·cases h
   ·rename_i c1 y1 hy
    simp only[Option.some.injEq,Prod.mk.injEq] at h
    obtain⟨rfl,rfl,rfl⟩:=h
    obtain⟨k1,k2⟩:=yWI 20 ⟨G.get,c⟩ _ c1 y1 hg hx hy hc
    exact .p k1 k2
 | a sz=>
   simp only[canV] at h
   split at h
   ·rename_i b i m cap
    split at h
    ·cases h
    ·rename_i k hk
     simp only[Option.some.injEq,Prod.mk.injEq] at h
     obtain⟨rfl,rfl,rfl⟩:=h
     have e1:=Nat.eq_of_beq_eq_true (hc (Nat.beq (f b) 2000000) (by simp))
     have e2:=Nat.eq_of_beq_eq_true (hc (Nat.beq k.sz sz) (by simp))
     have e3:=Nat.eq_of_beq_eq_true (hc (Nat.beq i 0) (by simp))
     have e4:=Nat.eq_of_beq_eq_true (hc (Nat.beq m k.es.length) (by simp))
     have e5:=Nat.le_of_ble_eq_true (hc (Nat.ble k.es.length 2000000) (by simp))
     have e6:=hc (yCL k.es) (by simp)
     subst e2 e3 e4
     exact .a hk e5 e1 fun r hr z hz=>yCg 20 z (hg b k hk r hr z hz) (List.all_eq_true.1 (List.all_eq_true.1 e6 r hr) z hz)
   ·rename_i es fl
    simp only[Option.some.injEq,Prod.mk.injEq] at h
    obtain⟨rfl,rfl,rfl⟩:=h
    have e1:=hc fl (by simp)
    have e2:=Nat.eq_of_beq_eq_true (hc (Nat.beq es.length 0) (by simp))
    have e3:=List.eq_nil_of_length_eq_zero e2
    subst e1 e3
    exact .z
   ·cases h
 | w sz=>
   simp only[canV] at h
   split at h
   ·rename_i b i m cap
    split at h
    ·cases h
    ·rename_i k hk
     simp only[Option.some.injEq,Prod.mk.injEq] at h
     obtain⟨rfl,rfl,rfl⟩:=h
     have e1:=Nat.eq_of_beq_eq_true (hc (Nat.beq (f b) 0) (by simp))
     have e2:=Nat.eq_of_beq_eq_true (hc (Nat.beq k.sz sz) (by simp))
     have e3:=Nat.eq_of_beq_eq_true (hc (Nat.beq i 0) (by simp))
     have e4:=Nat.eq_of_beq_eq_true (hc (Nat.beq m k.es.length) (by simp))
     have e5:=Nat.eq_of_beq_eq_true (hc (Nat.beq k.lk 0) (by simp))
     have e6:=hc (yCL k.es) (by simp)
     subst e2 e3 e4
     exact .w hk e5 e1 (.same fun r hr z hz=>yCg 20 z (hg b k hk r hr z hz) (List.all_eq_true.1 (List.all_eq_true.1 e6 r hr) z hz))
   ·rename_i es fl
    simp only[Option.some.injEq,Prod.mk.injEq] at h
    obtain⟨rfl,rfl,rfl⟩:=h
    have e1:=hc fl (by simp)
    have e2:=Nat.eq_of_beq_eq_true (hc (Nat.beq es.length 0) (by simp))
    have e3:=List.eq_nil_of_length_eq_zero e2
    subst e1 e3
    exact .z
   ·cases h
 | f sz L=>
   simp only[canV] at h
   split at h
   ·rename_i b i m cap
    split at h
    ·cases h
    ·rename_i k hk
     split at h
     ·simp only[Option.some.injEq,Prod.mk.injEq] at h
      obtain⟨rfl,rfl,rfl⟩:=h
      have e1:=Nat.eq_of_beq_eq_true (hc (Nat.beq (f b) 0) (by simp))
      have e2:=Nat.eq_of_beq_eq_true (hc (Nat.beq k.sz sz) (by simp))
      have e3:=Nat.eq_of_beq_eq_true (hc (Nat.beq i 0) (by simp))
      have e4:=Nat.eq_of_beq_eq_true (hc (Nat.beq m k.es.length) (by simp))
      have e5:=Nat.eq_of_beq_eq_true (hc (Nat.beq k.lk 0) (by simp))
      have e6:=hc (yCL k.es) (by simp)
      subst e2 e3 e4
      exact .w hk e5 e1 (.same fun r hr z hz=>yCg 20 z (hg b k hk r hr z hz) (List.all_eq_true.1 (List.all_eq_true.1 e6 r hr) z hz))
     ·simp only[Option.some.injEq,Prod.mk.injEq] at h
      obtain⟨rfl,rfl,rfl⟩:=h
      have e1:=Nat.eq_of_beq_eq_true (hc (Nat.beq (f b) 0) (by simp))
      have e2:=Nat.eq_of_beq_eq_true (hc (Nat.beq k.sz sz) (by simp))
      have e3:=Nat.eq_of_beq_eq_true (hc (Nat.beq i 0) (by simp))
      have e4:=Nat.eq_of_beq_eq_true (hc (Nat.beq m k.es.length) (by simp))
      have e5:=Nat.eq_of_beq_eq_true (hc (Nat.beq k.lk 0) (by simp))
      have e6:=hc (xLH (fzA G L) k.es) (by simp)
      have e7:=hc (L.all fun b=>Nat.beq (f b) 2000000) (by simp)
      subst e2 e3 e4
      have key:=xQ6 (c:=c) hg (hg b k hk) e7 e6
      have hl:(xMR (fzA G L) k.es).length=k.es.length:=by unfold xMR;rw[List.length_map]
      exact .w (es':=xMR (fzA G L) k.es) hk e5 e1 key
   ·rename_i es fl
    simp only[Option.some.injEq,Prod.mk.injEq] at h
    obtain⟨rfl,rfl,rfl⟩:=h
    have e1:=hc fl (by simp)
    have e2:=Nat.eq_of_beq_eq_true (hc (Nat.beq es.length 0) (by simp))
    have e3:=List.eq_nil_of_length_eq_zero e2
    subst e1 e3
    exact .z
   ·cases h
 | o ms=>cases h
 | r ms=>cases h
 | q sz=>cases h
theorem yUR{G:Tr Blk'}{f:Nat->Nat}{c:Nat}(hg:PSg G.get):∀(ms:List Md) (xs:List V) (n:Nat) (cs:List Bool) (ys:List AV0) (ns:List (Option Nat)),(∀x∈xs,PS x)->canVs G f ms xs=some (cs,ys,ns)->(∀b∈cs,b=true)->CVs G.get c f xs n (av0s ys n).1 (av0s ys n).2 ns
 | [],[],n,cs,ys,ns,hx,h,hc=>by
   simp only[canVs,Option.some.injEq,Prod.mk.injEq] at h
   obtain⟨rfl,rfl,rfl⟩:=h
   exact .nil
 | m::ms,x::xs,n,cs,ys,ns,hx,h,hc=>by
   unfold canVs at h
   split at h
   ·cases h
   ·rename_i c1 y1 ns1 h1
    split at h
    ·cases h
    ·rename_i d2 ys2 ns2 h2
     simp only[Option.some.injEq,Prod.mk.injEq] at h
     obtain⟨rfl,rfl,rfl⟩:=h
     exact .cons (xIm hg (hx x (by simp)) h1 fun b hb=>hc b (List.mem_append_left _ hb)) (yUR hg ms xs _ _ _ _ (fun z hz=>hx z (by simp[hz])) h2 fun b hb=>hc b (List.mem_append_right _ hb))
 | [],_::_,_,_,_,_,_,h,_=>by cases h
 | _::_,[],_,_,_,_,_,h,_=>by cases h
theorem xAP{T:Tr V}{G:Tr Blk'}{f:Nat->Nat}{c:Nat}(hf:PSf (yBO T))(hg:PSg G.get):∀(l:List (Nat×Md)) (n:Nat) (cs:List Bool) (vs:List AV) (ns:List (Option Nat)),canS T G f l=some (cs,vs,ns)->(∀b∈cs,b=true)->CS (yBO T) G.get c f l n (avs vs n).1 (avs vs n).2 ns
 | [],n,cs,vs,ns,h,hc=>by
   simp only[canS,Option.some.injEq,Prod.mk.injEq] at h
   obtain⟨rfl,rfl,rfl⟩:=h
   exact .nil
 | (t,m)::l,n,cs,vs,ns,h,hc=>by
   have go:(match canV G f m ((T.get t).getD .undef) with
    | none=>none
    | some (c,y,ns)=>match canS T G f l with
      | none=>none
      | some (d,ys,ns')=>some (Nat.ble t 4000::(c++d),AV.v y::ys,ns++ns'))=some (cs,vs,ns)->CS (yBO T) G.get c f ((t,m)::l) n (avs vs n).1 (avs vs n).2 ns:=fun h=>by
    split at h
    ·cases h
    ·rename_i c1 y1 ns1 h1
     split at h
     ·cases h
     ·rename_i d2 ys2 ns2 h2
      simp only[Option.some.injEq,Prod.mk.injEq] at h
      obtain⟨rfl,rfl,rfl⟩:=h
      exact .v (Nat.le_of_ble_eq_true (hc (Nat.ble t 4000) (by simp))) (xIm hg (hf t) h1 fun b hb=>hc b (by simp[hb])) (xAP hf hg l _ _ _ _ h2 fun b hb=>hc b (by simp[hb]))
   unfold canS at h
   split at h
   ·rename_i ms
    split at h
    ·rename_i b i j hx
     split at h
     ·rename_i k hk
      split at h
      ·rename_i row hrow
       split at h
       ·cases h
       ·rename_i c1 row' ns1 h1
        split at h
        ·cases h
        ·rename_i d2 ys2 ns2 h2
         simp only[Option.some.injEq,Prod.mk.injEq] at h
         obtain⟨rfl,rfl,rfl⟩:=h
         have e1:=Nat.eq_of_beq_eq_true (hc (Nat.beq i 0) (by simp))
         have e2:=Nat.eq_of_beq_eq_true (hc (Nat.beq j 0) (by simp))
         have e3:=Nat.eq_of_beq_eq_true (hc (Nat.beq (f b) 0) (by simp))
         have e4:=Nat.eq_of_beq_eq_true (hc (Nat.beq k.lk 0) (by simp))
         subst e1 e2
         obtain⟨es,sz,lk⟩:=k
         dsimp only at hrow e4
         subst hrow e4
         have hh:=CS.o (fr:=yBO T) (g:=G.get) (c:=c) (f:=f) (n:=n) (m:= .o ms) (Nat.le_of_ble_eq_true (hc (Nat.ble t 4000) (by simp))) hx hk e3 (yUR (n:=n+1) hg ms row _ _ _ (fun z hz=>hg b _ hk row (by simp) z hz) h1 fun b hb=>hc b (by simp[hb])) (xAP hf hg l _ _ _ _ h2 fun b hb=>hc b (by simp[hb]))
         have e:n+((av0s row' (n+1)).2.length+1)=n+1+(av0s row' (n+1)).2.length:=by omega
         simpa only[avs,av1,List.length_cons,e,List.cons_append] using hh
      ·cases h
     ·cases h
    ·cases h
   ·exact go h
theorem xOu{T:Tr V}{G:Tr Blk'}{f:Nat->Nat}:∀(l:List (Nat×Md)) (cs:List Bool) (vs:List AV) (ns:List (Option Nat)),canS T G f l=some (cs,vs,ns)->avR vs= .leaf
 | [],cs,vs,ns,h=>by
   simp only[canS,Option.some.injEq,Prod.mk.injEq] at h
   obtain⟨rfl,rfl,rfl⟩:=h
   rfl
 | (t,m)::l,cs,vs,ns,h=>by
   unfold canS at h
   repeat' split at h
   all_goals first | (cases h;done) | (simp only[Option.some.injEq,Prod.mk.injEq] at h;obtain⟨-,rfl,-⟩:=h;rfl)
theorem xQw{T:Tr V}{G:Tr Blk'}(hf:PSf (yBO T))(hg:PSg G.get){l:List (Nat×Md)}{cs:List Bool}{vs:List AV}(h:canC T G l=some (cs,vs))(hc:∀b∈cs,b=true):
  ∃ns,noDup (some 0::ns)=true/\∀c,CR (yBO T) G.get c (fOf (xB1 T G l)) l (avs vs 1).1 (avs vs 1).2 ns (avR vs):=by
 have go:∀l:List (Nat×Md),(match canS T G (fOf (xB1 T G l)) l with
   | none=>none
   | some (c,vs,ns)=>some (noDup (some 0::ns)::c,vs))=some (cs,vs)->∃ns,noDup (some 0::ns)=true/\∀c,CR (yBO T) G.get c (fOf (xB1 T G l)) l (avs vs 1).1 (avs vs 1).2 ns (avR vs):=fun l h=>by
  split at h
  ·cases h
  ·rename_i c1 vs1 ns1 hcs
   simp only[Option.some.injEq,Prod.mk.injEq] at h
   obtain⟨rfl,rfl⟩:=h
   refine⟨ns1,hc (noDup (some 0::ns1)) (by simp),fun c=>?_⟩
   rw[xOu _ _ _ _ hcs]
   exact .no (xAP hf hg l 1 c1 vs1 ns1 hcs fun b hb=>hc b (by simp[hb]))
 unfold canC at h
 split at h
 ·simp only[Option.some.injEq,Prod.mk.injEq] at h
  obtain⟨rfl,rfl⟩:=h
  exact⟨[],rfl,fun c=> .no .nil⟩
 ·rename_i t m l'
  split at h
  ·rename_i ms
   split at h
   ·rename_i b i j hx
    split at h
    ·rename_i k hk
     split at h
     ·rename_i row hrow
      split at h
      ·cases h
      ·rename_i c1 row' ns1 h1
       split at h
       ·cases h
       ·rename_i d2 ys2 ns2 h2
        simp only[Option.some.injEq,Prod.mk.injEq] at h
        obtain⟨rfl,rfl⟩:=h
        have e0:=Nat.eq_of_beq_eq_true (hc (Nat.beq b 0) (by simp))
        have e1:=Nat.eq_of_beq_eq_true (hc (Nat.beq i 0) (by simp))
        have e2:=Nat.eq_of_beq_eq_true (hc (Nat.beq j 0) (by simp))
        have e3:=Nat.eq_of_beq_eq_true (hc (Nat.beq (fOf (xB1 T G ((t,.r ms)::l')) 0) 0) (by simp))
        have e4:=Nat.eq_of_beq_eq_true (hc (Nat.beq k.lk 0) (by simp))
        subst e0 e1 e2
        obtain⟨es,sz,lk⟩:=k
        dsimp only at hrow e4
        subst hrow e4
        refine⟨ns1++ns2,hc (noDup (some 0::(ns1++ns2))) (by simp),fun c=>?_⟩
        exact CR.r (m:= .r ms) (Nat.le_of_ble_eq_true (hc (Nat.ble t 4000) (by simp))) hx hk e3 (yUR (n:=1) hg ms row _ _ _ (fun z hz=>hg 0 _ hk row (by simp) z hz) h1 fun b hb=>hc b (by simp[hb])) (xAP hf hg l' _ _ _ _ h2 fun b hb=>hc b (by simp[hb]))
     ·cases h
    ·cases h
   ·cases h
  ·rename_i sz
   split at h
   ·rename_i b i m cap hx
    split at h
    ·rename_i k hk
     split at h
     ·cases h
     ·rename_i d2 ys2 ns2 h2
      simp only[Option.some.injEq,Prod.mk.injEq] at h
      obtain⟨rfl,rfl⟩:=h
      have e0:=Nat.eq_of_beq_eq_true (hc (Nat.beq b 0) (by simp))
      have e1:=Nat.eq_of_beq_eq_true (hc (Nat.beq i 0) (by simp))
      have e2:=Nat.eq_of_beq_eq_true (hc (Nat.beq m k.es.length) (by simp))
      have e3:=Nat.eq_of_beq_eq_true (hc (Nat.beq (fOf (xB1 T G ((t,.q sz)::l')) 0) 0) (by simp))
      have e4:=Nat.eq_of_beq_eq_true (hc (Nat.beq k.lk 0) (by simp))
      have e5:=Nat.eq_of_beq_eq_true (hc (Nat.beq k.sz sz) (by simp))
      have e6:=hc (yCL k.es) (by simp)
      subst e0 e1 e2 e5
      refine⟨ns2,hc (noDup (some 0::ns2)) (by simp),fun c=>?_⟩
      exact CR.q (m:= .q k.sz) (Nat.le_of_ble_eq_true (hc (Nat.ble t 4000) (by simp))) hx hk e4 e3 (fun r hr z hz=>yCg 20 z (hg 0 k hk r hr z hz) (List.all_eq_true.1 (List.all_eq_true.1 e6 r hr) z hz)) (xAP hf hg l' _ _ _ _ h2 fun b hb=>hc b (by simp[hb]))
    ·cases h
   ·cases h
  ·exact go _ h
def xNG(sz:Nat):Loc:=⟨0,0,sz,0,false⟩
def NewMu(mu mu':Mu)(n:Nat)(bs:Bl)(ns:List (Option Nat)):Prop:=∀j,j<ns.length->mu' (n+j)=match ns[j]? with | some (some b)=>mu b | _=>some (xNG (((bs[j]?).map Blk'.sz).getD 0))
theorem NewMu.left{mu mu':Mu}{n:Nat}{bs bs':Bl}{ns ns':List (Option Nat)}(h:NewMu mu mu' n (bs++bs') (ns++ns'))(hl:ns.length=bs.length):NewMu mu mu' n bs ns:=fun j hj=>by
 have:=h j (by simp;omega)
 rw[List.getElem?_append_left hj,List.getElem?_append_left (by omega)] at this
 exact this
theorem NewMu.right{mu mu':Mu}{n:Nat}{bs bs':Bl}{ns ns':List (Option Nat)}(h:NewMu mu mu' n (bs++bs') (ns++ns'))(hl:ns.length=bs.length):NewMu mu mu' (n+bs.length) bs' ns':=fun j hj=>by
 have:=h (bs.length+j) (by simp;omega)
 rw[List.getElem?_append_right (by omega),List.getElem?_append_right (by omega),hl,show bs.length+j-bs.length=j by omega] at this
 rw[Nat.add_assoc]
 exact this
theorem NewMu.tail{mu mu':Mu}{n:Nat}{p:Blk'}{q:Option Nat}{bs:Bl}{ns:List (Option Nat)}(h:NewMu mu mu' n (p::bs) (q::ns)):NewMu mu mu' (n+1) bs ns:=fun j hj=>by
 have:=h (j+1) (by simp;omega)
 rw[show n+(j+1)=n+1+j by omega] at this
 simpa using this
section
variable {mu mu':Mu} {S:yEn} {B:Dom} {w:World} {fr:Fr} {g:Gs} {c:Nat} {f:Nat->Nat} {a:Act}
theorem CV.len{x y:V}{n:Nat}{bs:Bl}{ns:List (Option Nat)}(h:CV g c f x n y bs ns):ns.length=bs.length:=by cases h <;> rfl
theorem CVs.len{xs ys:List V}{n:Nat}{bs:Bl}{ns:List (Option Nat)}(h:CVs g c f xs n ys bs ns):ns.length=bs.length:=by
 induction h with
 | nil=>rfl
 | cons h r ih=>simp[h.len,ih]
theorem CS.len{l:List (Nat×Md)}{n:Nat}{vs:List V}{bs:Bl}{ns:List (Option Nat)}(h:CS fr g c f l n vs bs ns):ns.length=bs.length:=by
 induction h with
 | nil=>rfl
 | v ht h r ih=>simp[h.len,ih]
 | o ht hx hk hf h r ih=>simp[h.len,ih]
theorem CV.vr{x y:V}{n:Nat}{bs:Bl}{ns:List (Option Nat)}{v:Value}(h:CV g c f x n y bs ns)(hst:SR mu S B ⟨g,c⟩ w)(hv:VR mu S w x v)(hmu:NewMu mu mu' n bs ns):VR mu' (yFE mu S ⟨g,c⟩ f) w y v:=by
 cases h with
 | p hz hp=>exact(Fz.sound (mu':=mu') hst hz hv (fun _ _ h=> .inl h) (fun b k L hk hL hm i h1 h2=> .inr ⟨b,k,L,hk,hL,hm,rfl,h1,h2⟩)).1
 | a hk hl hf hp=>
   have h0:=hmu 0 (by simp)
   simp only[Nat.add_zero,List.getElem?_cons_zero] at h0
   cases hv with
   | bs _ _ _ _ L A cc hL hn hc hA hm=>exact .bs _ 0 _ _ L A cc (by rw[h0];exact hL) (Nat.le_refl _) (by omega) hA hm
 | w hk hl hf hp=>
   have h0:=hmu 0 (by simp)
   simp only[Nat.add_zero,List.getElem?_cons_zero] at h0
   have hle:=hp.1
   rw[←hle]
   cases hv with
   | bs _ _ _ _ L A cc hL hn hc hA hm=>exact .bs _ 0 _ _ L A cc (by rw[h0];exact hL) (Nat.le_refl _) (by omega) hA hm
 | z=>
   have h0:=hmu 0 (by simp)
   simp only[Nat.add_zero,List.getElem?_cons_zero,Option.map_some,Option.getD_some] at h0
   cases hv with
   | sl0 _ A cc hf=>exact .bs _ 0 0 0 (xNG _) A cc h0 (Nat.le_refl _) (Nat.zero_le _) (.inl (hf rfl)) rfl
   | sl1 _ _ g' o c' sz' vals hne=>exact absurd hne (by simp)
theorem CVs.vr{xs ys:List V}{n:Nat}{bs:Bl}{ns:List (Option Nat)}(h:CVs g c f xs n ys bs ns)(hst:SR mu S B ⟨g,c⟩ w)(hmu:NewMu mu mu' n bs ns):
  xs.length=ys.length/\∀j (hj:j<xs.length) (hj':j<ys.length) v,VR mu S w xs[j] v->VR mu' (yFE mu S ⟨g,c⟩ f) w ys[j] v:=by
 induction h with
 | nil=>exact⟨rfl,fun j hj=>absurd hj (by simp)⟩
 | cons h r ih=>
   obtain⟨i1,i2⟩:=ih (hmu.right h.len)
   refine⟨by simp[i1],fun j hj hj' v hv=>?_⟩
   cases j with
   | zero=>exact h.vr hst hv (hmu.left h.len)
   | succ j=>exact i2 j (by simpa using hj) (by simpa using hj') v hv
theorem xAF{T:Tr V}{t:Nat}{v:V}(ht:t<=4000)(s:Nat):yBO (Tr.set 12 T t (some v)) s=if s=t then v else yBO T s:=by
 show((Tr.set 12 T t (some v)).get s).getD .undef=_
 rw[Tr.set_get 12 T t s _ (Nat.lt_of_le_of_lt (Nat.succ_le_succ ht) (by decide))]
 by_cases h:s=t
 ·rw[if_pos h,if_pos h];rfl
 ·rw[if_neg h,if_neg h];rfl
theorem CS.frv{l:List (Nat×Md)}{n:Nat}{vs:List V}{bs:Bl}{ns:List (Option Nat)}(h:CS fr g c f l n vs bs ns)(hst:SR mu S B ⟨g,c⟩ w)(hfr:FR mu S w fr a)(hmu:NewMu mu mu' n bs ns):
  ∀T:Tr V,FR mu' (yFE mu S ⟨g,c⟩ f) w (yBO T) a->FR mu' (yFE mu S ⟨g,c⟩ f) w (yBO (xOz l vs T)) a:=by
 have put:∀(T:Tr V) (t:Nat) (v:V),t<=4000->VR mu' (yFE mu S ⟨g,c⟩ f) w v (a.tmps.getD t undef)->FR mu' (yFE mu S ⟨g,c⟩ f) w (yBO T) a->FR mu' (yFE mu S ⟨g,c⟩ f) w (yBO (Tr.set 12 T t (some v))) a:=fun T t v ht hv hT s=>by
  rw[xAF ht]
  by_cases hs:s=t
  ·subst hs;rw[if_pos rfl];exact hv
  ·rw[if_neg hs];exact hT s
 induction h with
 | nil=>exact fun T h=>h
 | v ht h r ih=>exact fun T hT=>ih (hmu.right h.len) _ (put T _ _ ht (h.vr hst (hfr _) (hmu.left h.len)) hT)
 | @o t b sz m row row' l ys n bs bs' ns ns' ht hx hk hf h r ih=>
   intro T hT
   refine ih (hmu.tail.right h.len) _ (put T t _ ht ?_ hT)
   have hv:=hfr t
   rw[hx] at hv
   have h0:=hmu 0 (by simp)
   simp only[Nat.add_zero,List.getElem?_cons_zero] at h0
   generalize a.tmps.getD t undef=val at hv ⊢
   cases hv with
   | ptr _ _ _ L hL hm=>exact .ptr n 0 0 L (by rw[h0];exact hL) hm
def Src(mu:Mu)(g:Gs)(c:Nat)(f:Nat->Nat)(m0:Nat)(bs0:Bl)(ns0:List (Option Nat))(k':Blk'):Option Nat->Prop
 | none=>∃sz,k'=⟨[],sz,0⟩
 | some b=>(∃k,g b=some k/\k'=⟨k.es,k.sz,k.es.length⟩/\k.es.length<=2000000/\f b=2000000/\(∀r∈k.es,∀x∈r,Plain x)/\∀L,mu b=some L->L.mp=false)\/
  (∃row row' sz n bs ns,g b=some ⟨[row],sz,0⟩/\k'=⟨[row'],sz,0⟩/\f b=0/\CVs g c f row n row' bs ns/\(∀mu',NewMu mu mu' m0 bs0 ns0->NewMu mu mu' n bs ns)/\∀L,mu b=some L->L.mp=false)\/
  ∃k es',g b=some k/\k'=⟨es',k.sz,0⟩/\k.lk=0/\f b=0/\FzR ⟨g,c⟩ f k.es es'/\∀L,mu b=some L->L.mp=false
theorem Src.sub{m0 m1:Nat}{bs0 bs1:Bl}{ns0 ns1:List (Option Nat)}{k':Blk'}{q:Option Nat}(h:Src mu g c f m0 bs0 ns0 k' q)(hs:∀mu',NewMu mu mu' m1 bs1 ns1->NewMu mu mu' m0 bs0 ns0):Src mu g c f m1 bs1 ns1 k' q:=by
 cases q with
 | none=>exact h
 | some b=>
   rcases h with h | ⟨row,row',sz,n,bs,ns,h1,h2,h3,h4,h5,h6⟩ | h
   ·exact .inl h
   ·exact .inr (.inl ⟨row,row',sz,n,bs,ns,h1,h2,h3,h4,fun mu' hm=>h5 mu' (hs mu' hm),h6⟩)
   ·exact .inr (.inr h)
theorem CV.src{x y:V}{v:Value}{n:Nat}{bs:Bl}{ns:List (Option Nat)}(h:CV g c f x n y bs ns)(hv:VR mu S w x v):∀j (hj:j<bs.length) (hj':j<ns.length),Src mu g c f n bs ns bs[j] ns[j]:=by
 cases h with
 | p _ _=>exact fun j hj=>absurd hj (by simp)
 | a hk hl hf hp=>
   intro j hj hj'
   have:j=0:=by simp at hj;omega
   subst this
   exact .inl ⟨_,hk,rfl,hl,hf,hp,fun L hL=>hv.bs_reg hL⟩
 | w hk hl hf hp=>
   intro j hj hj'
   have:j=0:=by simp at hj;omega
   subst this
   exact .inr (.inr ⟨_,_,hk,rfl,hl,hf,hp,fun L hL=>hv.bs_reg hL⟩)
 | z=>
   intro j hj hj'
   have:j=0:=by simp at hj;omega
   subst this
   exact⟨_,rfl⟩
theorem xDp{m0 n1:Nat}{bs0:Bl}{ns0:List (Option Nat)}{bs bs':Bl}{ns ns':List (Option Nat)}(hl:ns.length=bs.length)(h1:∀j (hj:j<bs.length) (hj':j<ns.length),Src mu g c f m0 bs0 ns0 bs[j] ns[j])(h2:∀j (hj:j<bs'.length) (hj':j<ns'.length),Src mu g c f m0 bs0 ns0 bs'[j] ns'[j]):
  ∀j (hj:j<(bs++bs').length) (hj':j<(ns++ns').length),Src mu g c f m0 bs0 ns0 (bs++bs')[j] (ns++ns')[j]:=fun j hj hj'=>by
 by_cases hlt:j<bs.length
 ·rw[List.getElem_append_left hlt,List.getElem_append_left (by omega)]
  exact h1 j hlt (by omega)
 ·rw[List.getElem_append_right (by omega),List.getElem_append_right (by omega)]
  have e:j-bs.length=j-ns.length:=by omega
  have:=h2 (j-bs.length) (by simp at hj;omega) (by simp at hj';omega)
  simpa only[e] using this
theorem CVs.src{xs ys:List V}{n:Nat}{bs:Bl}{ns:List (Option Nat)}(h:CVs g c f xs n ys bs ns)(hv:∀x∈xs,∃v,VR mu S w x v):∀j (hj:j<bs.length) (hj':j<ns.length),Src mu g c f n bs ns bs[j] ns[j]:=by
 induction h with
 | nil=>exact fun j hj=>absurd hj (by simp)
 | cons h r ih=>
   obtain⟨v,hx⟩:=hv _ (List.mem_cons_self ..)
   exact xDp (n1:=0) h.len (fun j hj hj'=>(h.src hx j hj hj').sub fun mu' hm=>hm.left h.len) (fun j hj hj'=>(ih (fun x hx=>hv x (by simp[hx])) j hj hj').sub fun mu' hm=>hm.right h.len)
theorem CS.src{l:List (Nat×Md)}{n:Nat}{vs:List V}{bs:Bl}{ns:List (Option Nat)}(h:CS fr g c f l n vs bs ns)(hst:SR mu S B ⟨g,c⟩ w)(hfr:FR mu S w fr a):∀j (hj:j<bs.length) (hj':j<ns.length),Src mu g c f n bs ns bs[j] ns[j]:=by
 induction h with
 | nil=>exact fun j hj=>absurd hj (by simp)
 | v ht h r ih=>exact xDp (n1:=0) h.len (fun j hj hj'=>(h.src (hfr _) j hj hj').sub fun mu' hm=>hm.left h.len) (fun j hj hj'=>(ih j hj hj').sub fun mu' hm=>hm.right h.len)
 | @o t b sz m row row' l ys n bs bs' ns ns' ht hx hk hf h r ih=>
   have hv:=hfr t
   rw[hx] at hv
   obtain⟨L,hL,hbr,-⟩:=hst.loc b _ hk
   have hLm:=hv.ptr_reg hL
   have hrow:∀x∈row,∃v,VR mu S w x v:=fun x hx=>by
    obtain⟨j,hj,rfl⟩:=List.getElem_of_mem hx
    obtain⟨v,_,_,h3⟩:=hbr.cell hLm 0 (by simp) j (by simpa using hj)
    exact⟨v,h3⟩
   have rest:=xDp (n1:=0) (m0:=n) (bs0:=⟨[row'],sz,0⟩::(bs++bs')) (ns0:=some b::(ns++ns')) h.len (fun j hj hj'=>(h.src hrow j hj hj').sub fun mu' hm=>hm.tail.left h.len) (fun j hj hj'=>(ih j hj hj').sub fun mu' hm=>hm.tail.right h.len)
   intro j hj hj'
   cases j with
   | zero=>exact .inr (.inl ⟨row,row',sz,n+1,bs,ns,hk,rfl,hf,h,fun mu' hm=>hm.tail.left h.len,fun L' hL'=>hv.ptr_reg hL'⟩)
   | succ j=>exact rest j (by simpa using hj) (by simpa using hj')
theorem xER:∀(ns:List (Option Nat)),noDup ns=true->∀(i j b:Nat),ns[i]?=some (some b)->ns[j]?=some (some b)->i=j
 | [],_,i,j,b,hi,_=>by simp at hi
 | none::l,h,i,j,b,hi,hj=>by
   cases i with
   | zero=>simp at hi
   | succ i=>cases j with
     | zero=>simp at hj
     | succ j=>rw[xER l h i j b (by simpa using hi) (by simpa using hj)]
 | some q::l,h,i,j,b,hi,hj=>by
   unfold noDup at h
   obtain⟨h1,h2⟩:=yBE h
   have hno:∀m,l[m]?=some (some q)->False:=fun m hm=>by
    have:(l.any fun x=>match x with | some c=>Nat.beq q c | none=>false)=true:=List.any_eq_true.2 ⟨some q,List.mem_of_getElem? hm,Nat.beq_refl q⟩
    rw[this] at h1;cases h1
   cases i with
   | zero=>
     simp only[List.getElem?_cons_zero,Option.some.injEq] at hi
     subst hi
     cases j with
     | zero=>rfl
     | succ j=>exact(hno j (by simpa using hj)).elim
   | succ i=>
     cases j with
     | zero=>
       simp only[List.getElem?_cons_zero,Option.some.injEq] at hj
       subst hj
       exact(hno i (by simpa using hi)).elim
     | succ j=>rw[xER l h2 i j b (by simpa using hi) (by simpa using hj)]
theorem yXR:∀(bs:Bl) (n:Nat) (G:Tr Blk') (m:Nat),n+bs.length<=1000000->(blT bs n G).get m=if n<=m/\m<n+bs.length then bs[m-n]? else G.get m
 | [],n,G,m,_=>by
   show G.get m=_
   rw[if_neg (by rintro⟨h1,h2⟩;simp at h2;omega)]
 | p::bs,n,G,m,h=>by
   simp only[List.length_cons] at h ⊢
   show(blT bs (n+1) (Tr.set 20 G n _)).get m=_
   rw[yXR bs (n+1) _ m (by omega),Tr.set_get 20 G n m _ (by omega)]
   by_cases h1:n+1<=m/\m<n+1+bs.length
   ·rw[if_pos h1,if_pos (by omega),show m-n=(m-(n+1))+1 by omega,List.getElem?_cons_succ]
   ·rw[if_neg h1]
    by_cases h2:m=n
    ·rw[if_pos h2,if_pos (by omega),show m-n=0 by omega,List.getElem?_cons_zero]
    ·rw[if_neg h2,if_neg (by omega)]
end
def yUl(mu:Mu)(q:Nat)(bs:Bl)(ns:List (Option Nat)):Mu:=fun x=>if x<bs.length+1 then(match (some q::ns)[x]? with | some (some b)=>mu b | _=>some (xNG ((((⟨[],0,0⟩:Blk')::bs)[x]?.map Blk'.sz).getD 0))) else none
def Oth(B:Dom)(mu:Mu)(g:Gs)(ns:List (Option Nat)):Dom:=fun x=>B x/\∀b k L,g b=some k->mu b=some L->(0<L.lim\/L.mp=true)->(∀j:Nat,ns[j]?≠some (some b))->x≠L.g
theorem SR.weaken{mu:Mu}{S:yEn}{B B':Dom}{st:St}{w:World}(h:SR mu S B st w)(hB:∀g,B g->B' g):SR mu S B' st w:=
 ⟨fun b k hk=>by obtain⟨L,h1,h2,h3⟩:=h.loc b k hk;exact⟨L,h1,h2,fun hp=>⟨hB _ (h3 hp).1,(h3 hp).2⟩⟩,h.gdis,h.exS,h.sb⟩
theorem xGK{mu:Mu}{S:yEn}{B:Dom}{w:World}{g:Gs}{c q:Nat}{f:Nat->Nat}{bs:Bl}{ns:List (Option Nat)}{base:Tr Blk'}(h1:SR mu S B ⟨g,c⟩ w)(hnd:noDup (some q::ns)=true)(hlen:bs.length<=1000)(hnl:ns.length=bs.length)
  (hsrc:∀j (hj:j<bs.length) (hj':j<ns.length),Src mu g c f 1 bs ns bs[j] ns[j]) (hbase:base= .leaf\/∃k',base=Tr.set 20 .leaf 0 (some k')/\Src mu g c f 1 bs ns k' (some q)):
  NewMu mu (yUl mu q bs ns) 1 bs ns/\SR (yUl mu q bs ns) (yFE mu S ⟨g,c⟩ f) (Oth B mu g (some q::ns)) ⟨(blT bs 1 base).get,bs.length+1⟩ w/\FrA (yUl mu q bs ns) ⟨(blT bs 1 base).get,bs.length+1⟩:=by
 have hb2:=xER (some q::ns) hnd
 have hbg:∀m,m≠0->base.get m=none:=fun m hm=>by
  rcases hbase with rfl | ⟨k',rfl,_⟩
  ·exact Tr.leaf_get _
  ·rw[Tr.set_get 20 .leaf 0 m _ (by decide),if_neg hm];exact Tr.leaf_get _
 generalize hmd:yUl mu q bs ns=mu'
 have hsm:∀x,x<bs.length+1->mu' x=(match (some q::ns)[x]? with | some (some b)=>mu b | _=>some (xNG ((((⟨[],0,0⟩:Blk')::bs)[x]?.map Blk'.sz).getD 0))):=fun x hx=>by rw[←hmd];exact if_pos hx
 have hmu':NewMu mu mu' 1 bs ns:=fun j hj=>by
  rw[hsm (1+j) (by omega),Nat.add_comm 1 j,List.getElem?_cons_succ,List.getElem?_cons_succ]
 have hl:=h1.lockF f
 have hget:∀x k',(blT bs 1 base).get x=some k'->x<bs.length+1/\∃o,(some q::ns)[x]?=some o/\Src mu g c f 1 bs ns k' o/\(o=none->((⟨[],0,0⟩:Blk')::bs)[x]?=some k'):=fun x k' hk=>by
  rw[yXR bs 1 base x (by omega)] at hk
  by_cases hx:1<=x/\x<1+bs.length
  ·rw[if_pos hx] at hk
   have hx1:x-1<bs.length:=by omega
   have hx2:x-1<ns.length:=by omega
   rw[List.getElem?_eq_getElem hx1] at hk
   injection hk with hk
   obtain⟨y,rfl⟩:∃y,x=y+1:=⟨x-1,by omega⟩
   simp only[Nat.add_sub_cancel] at hk hx1 hx2
   refine⟨by omega,ns[y],by rw[List.getElem?_cons_succ];exact List.getElem?_eq_getElem hx2,?_,fun _=>by rw[List.getElem?_cons_succ,List.getElem?_eq_getElem hx1,hk]⟩
   rw[←hk];exact hsrc y hx1 hx2
  ·rw[if_neg hx] at hk
   by_cases h0:x=0
   ·subst h0
    rcases hbase with rfl | ⟨k2,rfl,hs⟩
    ·rw[Tr.leaf_get] at hk;cases hk
    ·rw[Tr.set_get 20 .leaf 0 0 _ (by decide),if_pos rfl] at hk
     injection hk with hk
     subst hk
     exact⟨by omega,some q,rfl,hs,fun e=>by cases e⟩
   ·rw[hbg x h0] at hk;cases hk
 -- a block of the new store,in the old one
 have key:∀x k',(blT bs 1 base).get x=some k'->(∃b k0 k L,(some q::ns)[x]?=some (some b)/\g b=some k0/\(St.lockF ⟨g,c⟩ f).get b=some k/\k'.sz=k.sz/\k'.lk=k.lk/\mu b=some L/\mu' x=some L/\L.mp=false/\BR mu' (yFE mu S ⟨g,c⟩ f) w k' L/\(0<L.lim\/L.mp=true->B L.g/\L.g<w.heap.size))\/
   (∃sz,k'=⟨[],sz,0⟩/\mu' x=some (xNG sz)):=fun x k' hk=>by
  obtain⟨hx,o,hnx,hs,hno⟩:=hget x k' hk
  cases o with
  | none=>
    obtain⟨sz,e⟩:=hs
    right
    refine⟨sz,e,?_⟩
    rw[hsm x hx,hnx]
    dsimp only
    rw[hno rfl,e];rfl
  | some b=>
    left
    have hmx:mu' x=mu b:=by rw[hsm x hx,hnx]
    rcases hs with ⟨k,q2,q3,q4,q5,q6,q7⟩ | ⟨row,row',sz,n,bs1,ns1,q2,q3,q4,q5,q6,q7⟩ | ⟨k,es',q2,q3,q4,q5,q6,q7⟩
    ·have hgl:(St.lockF ⟨g,c⟩ f).get b=some ⟨k.es,k.sz,max k.lk (min (f b) k.es.length)⟩:=by
       show(g b).map _=_
       rw[q2];rfl
     obtain⟨L,hL,hbr,hgg⟩:=hl.loc b _ hgl
     have hlk:=hbr.lk
     dsimp only at hlk
     have he:max k.lk (min (f b) k.es.length)=k.es.length:=by rw[q5] at hlk ⊢;omega
     rw[he] at hgl hbr
     refine⟨b,k,_,L,hnx,q2,hgl,by rw[q3],by rw[q3],hL,hmx.trans hL,q7 L hL,?_,hgg⟩
     rw[q3]
     exact⟨hbr.sz,hbr.len,hbr.lk,hbr.row,hbr.room,fun hm i hi j hj=>by
      obtain⟨v,e1,e2,e3⟩:=hbr.cell hm i hi j hj
      exact⟨v,e1,e2,e3.plain (q6 _ (List.getElem_mem _) _ (List.getElem_mem _))⟩,fun hm=>by rw[q7 L hL] at hm;cases hm⟩
    ·have hgl:(St.lockF ⟨g,c⟩ f).get b=some ⟨[row],sz,0⟩:=by
       show(g b).map _=_
       rw[q2]
       simp[q4]
     obtain⟨L,hL,hbr,hgg⟩:=hl.loc b _ hgl
     obtain⟨L0,hL0,hbr0,_⟩:=h1.loc b _ q2
     rw[hL] at hL0;injection hL0 with hL0;subst hL0
     obtain⟨v1,v2⟩:=q5.vr h1 (q6 mu' hmu')
     refine⟨b,_,_,L,hnx,q2,hgl,by rw[q3],by rw[q3],hL,hmx.trans hL,q7 L hL,?_,hgg⟩
     rw[q3]
     have hr0:row.length=L.sz:=hbr.row 0 (by simp)
     refine⟨hbr.sz,hbr.len,hbr.lk,fun i hi=>?_,hbr.room,fun hm i hi j hj=>?_,fun hm=>by rw[q7 L hL] at hm;cases hm⟩
     ·have:i=0:=by simpa using hi
      subst this
      show row'.length=L.sz
      omega
     ·have:i=0:=by simpa using hi
      subst this
      have hj':j<row'.length:=hj
      obtain⟨v,e1,e2,e3⟩:=hbr0.cell hm 0 (by simp) j (by show j<row.length;omega)
      exact⟨v,e1,e2,v2 j (by omega) hj' v e3⟩
    ·have hgl:(St.lockF ⟨g,c⟩ f).get b=some ⟨k.es,k.sz,0⟩:=by
       show(g b).map _=_
       rw[q2]
       simp[q4,q5]
     obtain⟨L,hL,hbr,hgg⟩:=hl.loc b _ hgl
     obtain⟨L0,hL0,hbr0,_⟩:=h1.loc b _ q2
     rw[hL] at hL0;injection hL0 with hL0;subst hL0
     refine⟨b,k,_,L,hnx,q2,hgl,by rw[q3],by rw[q3],hL,hmx.trans hL,q7 L hL,?_,hgg⟩
     rw[q3]
     have hlen:es'.length=k.es.length:=q6.1.symm
     refine⟨hbr.sz,fun hm=>by have:=hbr.len hm;dsimp only at this ⊢;rw[hlen];exact this,Nat.zero_le _,fun i hi=>?_,fun i e1 e2=>hbr.room i e1 e2,fun hm i hi j hj=>?_,fun hm=>by rw[q7 L hL] at hm;cases hm⟩
     ·dsimp only at hi ⊢
      rw[←(q6.2 i (by omega) hi).1]
      exact hbr0.row i (by omega)
     ·dsimp only at hi hj ⊢
      have hi0:i<k.es.length:=by omega
      obtain⟨e0,e1⟩:=q6.2 i hi0 hi
      obtain⟨v,d1,d2,d3⟩:=hbr0.cell hm i hi0 j (by rw[e0];exact hj)
      exact⟨v,d1,d2,(Fz.sound (mu':=mu') h1 (e1 j (by rw[e0];exact hj) hj).1 d3 (fun _ _ h=> .inl h) (fun b k L hk hL hm i h1 h2=> .inr ⟨b,k,L,hk,hL,hm,rfl,h1,h2⟩)).1⟩
 refine⟨hmu',⟨fun x k' hk=>?_,fun x x' k k' L L' hne hk hk' hL hL' hp hp'=>?_,fun x k L hk hL gg i hx hs=>?_,hl.sb⟩,fun x hx=>⟨by rw[←hmd];exact if_neg (by show ¬x<bs.length+1;exact Nat.not_lt.2 hx),?_⟩⟩
 ·rcases key x k' hk with ⟨b,k0,k,L,q1,q0,q2,q3,q4,q5,q6,q7,q8,q9⟩ | ⟨sz,rfl,qz⟩
  ·refine⟨L,q6,q8,fun hp=>⟨⟨(q9 hp).1,fun b' k2 L' hk' hL' hp' hno e=>?_⟩,(q9 hp).2⟩⟩
   have hbb:b≠b':=fun e=>hno x (by rw[q1,e])
   exact h1.gdis b b' k0 k2 L L' hbb q0 hk' q5 hL' hp hp' e
  ·refine⟨xNG sz,qz,⟨rfl,fun _=>Nat.le_refl _,Nat.le_refl _,fun i hi=>absurd hi (by simp),fun i e1 e2=>?_,fun _ i hi=>absurd hi (by simp),fun hm=>by cases hm⟩,fun hp=>?_⟩
   ·simp[xNG] at e1 e2
   ·rcases hp with hp | hp
    ·simp[xNG] at hp
    ·cases hp
 ·rcases key x k hk with ⟨b,k0,k1,L1,q1,q0,q2,q3,q4,q5,q6,q7,q8,q9⟩ | ⟨sz,rfl,qz⟩
  ·rcases key x' k' hk' with ⟨b',k0',k2,L2,r1,r0,r2,r3,r4,r5,r6,r7,r8,r9⟩ | ⟨sz,rfl,qz⟩
   ·rw[q6] at hL;injection hL with hL;subst hL
    rw[r6] at hL';injection hL' with hL';subst hL'
    have hbb:b≠b':=fun e=>hne (hb2 x x' b q1 (by rw[e];exact r1))
    exact h1.gdis b b' _ _ L1 L2 hbb q0 r0 q5 r5 hp hp'
   ·rw[qz] at hL';injection hL' with hL';subst hL'
    simp[xNG] at hp'
  ·rw[qz] at hL;injection hL with hL;subst hL
   simp[xNG] at hp
 ·rcases key x k hk with ⟨b,k0,k1,L1,q1,q0,q2,q3,q4,q5,q6,q7,q8,q9⟩ | ⟨sz,rfl,qz⟩
  ·rw[q6] at hL;injection hL with hL;subst hL
   exact hl.exS b _ L1 q2 q5 gg i ⟨hx.1,by rw[←q4];exact hx.2.1,hx.2.2⟩ hs
  ·rw[qz] at hL;injection hL with hL;subst hL
   have:=hx.2;simp[xNG] at this
 ·show(blT bs 1 base).get x=none
  have hx:bs.length+1<=x:=hx
  rw[yXR bs 1 base x (by omega),if_neg (by omega)]
  exact hbg x (by omega)
def Rcv(mu0:Mu):Prop:=∀b L,mu0 b=some L->b=0
theorem CR.len{fr:Fr}{g:Gs}{c:Nat}{f:Nat->Nat}{l:List (Nat×Md)}{vs:List V}{bs:Bl}{ns:List (Option Nat)}{base:Tr Blk'}(h:CR fr g c f l vs bs ns base):ns.length=bs.length:=by
 cases h with
 | no h=>exact h.len
 | r ht hx hk hf h r=>simp[h.len,r.len]
 | q ht hx hk hl hf hp r=>exact r.len
theorem xSE{nt:Nat}{T:Tr V}{G:Tr Blk'}{c:Nat}{f:Nat->Nat}{l:List (Nat×Md)}{vs:List V}{bs:Bl}{ns:List (Option Nat)}{base:Tr Blk'}(h:CR (yBO T) G.get c f l vs bs ns base)(hnd:noDup (some 0::ns)=true)(hlen:bs.length<=1000){mu0:Mu}{S0:yEn}{B:Dom}{w0 w:World}{a:Act}(h0:Rcv mu0)
  (hA:AR mu0 S0 B w0 nt (yBO T) ⟨G.get,c⟩ a w):AR mu0 S0 B w0 nt (yBO (xOz l vs .leaf)) ⟨(blT bs 1 base).get,bs.length+1⟩ a w:=by
 obtain⟨mu,S,h1,h2,h3,h4,h5,h6,h7⟩:=hA
 have hnl:=h.len
 have leafF:∀mu':Mu,FR mu' (yFE mu S ⟨G.get,c⟩ f) w (yBO (.leaf:Tr V)) a:=fun mu' t=>by
  show VR _ _ _ (((Tr.leaf:Tr V).get t).getD .undef) _
  rw[Tr.leaf_get]
  exact .undef _
 have main:(∀j (hj:j<bs.length) (hj':j<ns.length),Src mu G.get c f 1 bs ns bs[j] ns[j])->(base= .leaf\/∃k',base=Tr.set 20 .leaf 0 (some k')/\Src mu G.get c f 1 bs ns k' (some 0))→
   (∀mu',NewMu mu mu' 1 bs ns->mu' 0=mu 0->FR mu' (yFE mu S ⟨G.get,c⟩ f) w (yBO (xOz l vs .leaf)) a)->AR mu0 S0 B w0 nt (yBO (xOz l vs .leaf)) ⟨(blT bs 1 base).get,bs.length+1⟩ a w:=fun hsrc hbase hfr=>by
  obtain⟨k1,k2,k3⟩:=xGK h1 hnd hlen hnl hsrc hbase
  have hz:yUl mu 0 bs ns 0=mu 0:=by unfold yUl;rw[if_pos (by omega)];rfl
  refine⟨_,_,k2.weaken fun g hg=>hg.1,k3,hfr _ k1 hz,h4,⟨fun b L hb=>?_,fun gg i hs=> .inl (h5.sub gg i hs),fun gg i hs=>?_,h5.keeps,h5.below⟩,h6,h7⟩
  ·have:=h0 b L hb
   subst this
   rw[hz];exact h5.mono 0 L hb
  ·rcases yH2 h1 f gg i hs with q | q
   ·exact h5.new gg i q
   ·exact .inr q
 cases h with
 | no h=>exact main (h.src h1 h3) (.inl rfl) fun mu' hm _=>h.frv h1 h3 hm .leaf (leafF mu')
 | @r t sz m row row' l ys bs bs' ns ns' ht hx hk hf hcv r=>
   have hv:=h3 t
   rw[hx] at hv
   obtain⟨L,hL,hbr,-⟩:=h1.loc 0 _ hk
   have hLm:=hv.ptr_reg hL
   have hrow:∀x∈row,∃v,VR mu S w x v:=fun x hx=>by
    obtain⟨j,hj,rfl⟩:=List.getElem_of_mem hx
    obtain⟨v,_,_,h3⟩:=hbr.cell hLm 0 (by simp) j (by simpa using hj)
    exact⟨v,h3⟩
   refine main (xDp (n1:=0) hcv.len (fun j hj hj'=>(hcv.src hrow j hj hj').sub fun mu' hm=>hm.left hcv.len) (fun j hj hj'=>(r.src h1 h3 j hj hj').sub fun mu' hm=>hm.right hcv.len)) (.inr ⟨_,rfl,.inr (.inl ⟨row,row',sz,1,bs,ns,hk,rfl,hf,hcv,fun mu' hm=>hm.left hcv.len,fun L' hL'=>hv.ptr_reg hL'⟩)⟩) fun mu' hm hz=>?_
   refine r.frv h1 h3 (hm.right hcv.len) _ fun s=>?_
   rw[xAF ht]
   by_cases hs:s=t
   ·subst hs
    rw[if_pos rfl]
    generalize a.tmps.getD s undef=val at hv ⊢
    cases hv with
    | ptr _ _ _ L hL hm=>exact .ptr 0 0 0 L (by rw[hz];exact hL) hm
   ·rw[if_neg hs];exact leafF mu' s
 | @q t cap m k l ys bs ns ht hx hk hl hf hp r=>
   have hv:=h3 t
   rw[hx] at hv
   refine main (fun j hj hj'=>r.src h1 h3 j hj hj') (.inr ⟨_,rfl,.inr (.inr ⟨k,k.es,hk,rfl,hl,hf,.same hp,fun L' hL'=>hv.bs_reg hL'⟩)⟩) fun mu' hm hz=>?_
   refine r.frv h1 h3 hm _ fun s=>?_
   rw[xAF ht]
   by_cases hs:s=t
   ·subst hs
    rw[if_pos rfl]
    generalize a.tmps.getD s undef=val at hv ⊢
    cases hv with
    | bs _ _ _ _ L A cc hL hn hc hA hm=>exact .bs 0 0 _ _ L A cc (by rw[hz];exact hL) (Nat.le_refl _) (by omega) hA hm
   ·rw[if_neg hs];exact leafF mu' s
theorem xMu:∀(l:List (Nat×Md)) (vs:List V) (T:Tr V),(∀p∈l,p.1<=4000)->(∀v∈vs,PS v)->PSf (yBO T)->PSf (yBO (xOz l vs T))
 | [],vs,T,_,_,hT=>by
   show PSf (yBO (xOz [] vs T))
   have:xOz [] vs T=T:=by cases vs <;> rfl
   rw[this];exact hT
 | (t,m)::l,[],T,_,_,hT=>hT
 | (t,m)::l,v::vs,T,hl,hv,hT=>by
   refine xMu l vs _ (fun p hp=>hl p (by simp[hp])) (fun x hx=>hv x (by simp[hx])) fun s=>?_
   rw[xAF (hl (t,m) (by simp))]
   split
   ·exact hv v (by simp)
   ·exact hT s
theorem PSf.leaf:PSf (yBO (.leaf:Tr V)):=fun t=>by
 show PS (((Tr.leaf:Tr V).get t).getD .undef)
 rw[Tr.leaf_get];exact .undef
theorem xR9{bs:Bl}{base:Tr Blk'}(hl:bs.length<=1000)(h:∀p∈bs,PSr p.es)(hb:PSg base.get):PSg (blT bs 1 base).get:=fun b k hk=>by
 rw[yXR bs 1 base b (by omega)] at hk
 split at hk
 ·exact h k (List.mem_of_getElem? hk)
 ·exact hb b k hk
theorem CV.ps{g:Gs}{c:Nat}{f:Nat->Nat}{x y:V}{n:Nat}{bs:Bl}{ns:List (Option Nat)}(h:CV g c f x n y bs ns):PS y/\∀p∈bs,PSr p.es:=by
 cases h with
 | p _ hp=>exact⟨hp.ps,by simp⟩
 | a hk hl hf hp=>
   refine⟨.bs _ _ _ _,fun q hq=>?_⟩
   rw[List.mem_singleton] at hq
   subst hq
   exact fun r hr x hx=>(hp r hr x hx).ps
 | w hk hl hf hp=>
   refine⟨.bs _ _ _ _,fun q hq=>?_⟩
   rw[List.mem_singleton] at hq
   subst hq
   exact fun r hr x hx=>(hp.pl r hr x hx).ps
 | z=>
   refine⟨.bs _ _ _ _,fun q hq=>?_⟩
   rw[List.mem_singleton] at hq
   subst hq
   exact fun r hr=>by cases hr
theorem CVs.ps{g:Gs}{c:Nat}{f:Nat->Nat}{xs ys:List V}{n:Nat}{bs:Bl}{ns:List (Option Nat)}(h:CVs g c f xs n ys bs ns):(∀y∈ys,PS y)/\∀p∈bs,PSr p.es:=by
 induction h with
 | nil=>exact⟨by simp,by simp⟩
 | cons h r ih=>
   refine⟨fun y hy=>?_,fun p hp=>?_⟩
   ·rcases List.mem_cons.1 hy with rfl | hy
    ·exact h.ps.1
    ·exact ih.1 y hy
   ·rcases List.mem_append.1 hp with hp | hp
    ·exact h.ps.2 p hp
    ·exact ih.2 p hp
theorem CS.ps{fr:Fr}{g:Gs}{c:Nat}{f:Nat->Nat}{l:List (Nat×Md)}{n:Nat}{vs:List V}{bs:Bl}{ns:List (Option Nat)}(h:CS fr g c f l n vs bs ns):(∀p∈l,p.1<=4000)/\(∀v∈vs,PS v)/\∀p∈bs,PSr p.es:=by
 induction h with
 | nil=>exact⟨by simp,by simp,by simp⟩
 | v ht h r ih=>
   refine⟨fun q hq=>?_,fun v hv=>?_,fun p hp=>?_⟩
   ·rcases List.mem_cons.1 hq with rfl | hq
    ·exact ht
    ·exact ih.1 q hq
   ·rcases List.mem_cons.1 hv with rfl | hv
    ·exact h.ps.1
    ·exact ih.2.1 v hv
   ·rcases List.mem_append.1 hp with hp | hp
    ·exact h.ps.2 p hp
    ·exact ih.2.2 p hp
 | o ht hx hk hf h r ih=>
   refine⟨fun q hq=>?_,fun v hv=>?_,fun p hp=>?_⟩
   ·rcases List.mem_cons.1 hq with rfl | hq
    ·exact ht
    ·exact ih.1 q hq
   ·rcases List.mem_cons.1 hv with rfl | hv
    ·exact .ptr _ _ _
    ·exact ih.2.1 v hv
   ·rcases List.mem_cons.1 hp with rfl | hp
    ·intro r hr x hx
     rw[List.mem_singleton] at hr
     subst hr
     exact h.ps.1 x hx
    ·rcases List.mem_append.1 hp with hp | hp
     ·exact h.ps.2 p hp
     ·exact ih.2.2 p hp
theorem CR.ps{fr:Fr}{g:Gs}{c:Nat}{f:Nat->Nat}{l:List (Nat×Md)}{vs:List V}{bs:Bl}{ns:List (Option Nat)}{base:Tr Blk'}(h:CR fr g c f l vs bs ns base):(∀p∈l,p.1<=4000)/\(∀v∈vs,PS v)/\(∀p∈bs,PSr p.es)/\PSg base.get:=by
 cases h with
 | no h=>exact⟨h.ps.1,h.ps.2.1,h.ps.2.2,fun b k hk=>by rw[Tr.leaf_get] at hk;cases hk⟩
 | r ht hx hk hf h r=>
   refine⟨fun q hq=>?_,fun v hv=>?_,fun p hp=>?_,fun b k hk=>?_⟩
   ·rcases List.mem_cons.1 hq with rfl | hq
    ·exact ht
    ·exact r.ps.1 q hq
   ·rcases List.mem_cons.1 hv with rfl | hv
    ·exact .ptr _ _ _
    ·exact r.ps.2.1 v hv
   ·rcases List.mem_append.1 hp with hp | hp
    ·exact h.ps.2 p hp
    ·exact r.ps.2.2 p hp
   ·rw[Tr.set_get 20 .leaf 0 b _ (by decide)] at hk
    split at hk
    ·injection hk with hk
     subst hk
     intro r' hr x hx
     rw[List.mem_singleton] at hr
     subst hr
     exact h.ps.1 x hx
    ·rw[Tr.leaf_get] at hk;cases hk
 | q ht hx hk hl hf hp r=>
   refine⟨fun q hq=>?_,fun v hv=>?_,r.ps.2.2,fun b k' hk=>?_⟩
   ·rcases List.mem_cons.1 hq with rfl | hq
    ·exact ht
    ·exact r.ps.1 q hq
   ·rcases List.mem_cons.1 hv with rfl | hv
    ·exact .bs _ _ _ _
    ·exact r.ps.2.1 v hv
   ·rw[Tr.set_get 20 .leaf 0 b _ (by decide)] at hk
    split at hk
    ·injection hk with hk
     subst hk
     exact fun r' hr x hx=>(hp r' hr x hx).ps
    ·rw[Tr.leaf_get] at hk;cases hk
def AW0(P:Program)(nt:Nat)(c:Code)(Q:AEx->Fr->St->Prop)(fr:Fr)(st:St):Prop:=
 ∀(mu0:Mu) (S0:yEn) (B:Dom) (w0:World) (a:Act) (w:World),Rcv mu0->AR mu0 S0 B w0 nt fr st a w->c.wp P (QR mu0 S0 B w0 nt Q) a w
def Wk(nt:Nat)(fr:Fr)(st:St)(fr':Fr)(st':St):Prop:=∀(mu0:Mu) (S0:yEn) (B:Dom) (w0:World) (a:Act) (w:World),Rcv mu0->AR mu0 S0 B w0 nt fr st a w->AR mu0 S0 B w0 nt fr' st' a w
section
variable {P:Program} {nt:Nat} {Q Q':AEx->Fr->St->Prop} {fr fr':Fr} {st st':St}
theorem AW.aw0{c:Code}(h:AW P nt c Q fr st):AW0 P nt c Q fr st:=fun mu0 S0 B w0 a w _ hA=>h mu0 S0 B w0 a w hA
theorem AW0.wk{c:Code}(hw:Wk nt fr st fr' st')(h:AW0 P nt c Q fr' st'):AW0 P nt c Q fr st:=fun mu0 S0 B w0 a w h0 hA=>h mu0 S0 B w0 a w h0 (hw _ _ _ _ _ _ h0 hA)
theorem AW0.mono{c:Code}(h:AW0 P nt c Q fr st)(hq:∀e fr st,Q e fr st->∃fr' st',Wk nt fr st fr' st'/\Q' e fr' st'):AW0 P nt c Q' fr st:=fun mu0 S0 B w0 a w h0 hA=>
 Code.wp_mono (fun e a w h=>by
  cases e <;> first | exact h.elim | (obtain⟨fr,st,h1,h2⟩:=h;obtain⟨fr',st',h3,h4⟩:=hq _ _ _ h2;exact⟨fr',st',h3 _ _ _ _ _ _ h0 h1,h4⟩)) (h mu0 S0 B w0 a w h0 hA)
theorem Wk.refl:Wk nt fr st fr st:=fun _ _ _ _ _ _ _ h=>h
theorem AW0.mono'{c:Code}(h:AW0 P nt c Q fr st)(hq:∀e fr st,Q e fr st->Q' e fr st):AW0 P nt c Q' fr st:=h.mono fun e fr st hh=>⟨fr,st,.refl,hq e fr st hh⟩
theorem AW0.seq{x y:Code}(h:AW0 P nt x (AEx.then (AW0 P nt y Q) Q) fr st):AW0 P nt (.seq x y) Q fr st:=fun mu0 S0 B w0 a w h0 hA=>
 wp_seq (Code.wp_mono (fun e a w h=>by
  cases e with
  | normal=>obtain⟨fr,st,h1,h2⟩:=h;exact h2 mu0 S0 B w0 a w h0 h1
  | exit i=>exact h
  | ret=>exact h
  | _=>exact h.elim) (h mu0 S0 B w0 a w h0 hA))
theorem AW0.cond{c:Operand}{x y:Code}{b:Bool}(hc:ev fr c= .bool b)(ht:b=true->AW0 P nt x Q fr st)(hf:b=false->AW0 P nt y Q fr st):AW0 P nt (.cond c x y) Q fr st:=fun mu0 S0 B w0 a w h0 hA=>by
 have he:a.eval c= .bool b:=by
  obtain⟨mu,S,_,_,h3,_⟩:=hA
  have:=h3.at_ c
  rw[hc] at this
  exact this.bool_inv
 exact wp_cond_split he (fun h=>ht h mu0 S0 B w0 a w h0 hA) (fun h=>hf h mu0 S0 B w0 a w h0 hA)
theorem AW0.block{id:Nat}{c:Code}(h:AW0 P nt c (AEx.inBlock id Q) fr st):AW0 P nt (.block id c) Q fr st:=fun mu0 S0 B w0 a w h0 hA=>
 wp_block (Code.wp_mono (fun e a w h=>by
  cases e with
  | normal=>exact h
  | exit i=>
    obtain⟨fr,st,h1,h2⟩:=h
    unfold AEx.inBlock at h2
    unfold Exit.inBlock
    dsimp only at h2 ⊢
    split
    ·rename_i e;rw[if_pos e] at h2;exact⟨fr,st,h1,h2⟩
    ·rename_i e;rw[if_neg e] at h2;exact⟨fr,st,h1,h2⟩
  | ret=>exact h
  | _=>exact h.elim) (h mu0 S0 B w0 a w h0 hA))
theorem AW0.scope{c:Code}(h:AW0 P nt c Q fr st):AW0 P nt (.scope c) Q fr st:=fun mu0 S0 B w0 a w h0 hA=>
 wp_scope_straight (Code.wp_mono (fun e a w h=>by cases e <;> first | exact h | exact h.elim) (h mu0 S0 B w0 a w h0 hA))
open Classical in
theorem AW0.loop{c:Code}(I:Fr->St->Prop)(m:Fr->St->Nat)(h0:I fr st)(hr:∀fr st,I fr st->AW0 P nt c (AEx.then (fun fr' st'=>I fr' st'/\m fr' st'<m fr st) Q) fr st):
  AW0 P nt (.loop c) Q fr st:=fun mu0 S0 B w0 a w hR hA=>by
 have hmin:∀a w,(∃fr st,AR mu0 S0 B w0 nt fr st a w/\I fr st)->∃n,∃fr st,AR mu0 S0 B w0 nt fr st a w/\I fr st/\m fr st=n:=fun a w ⟨fr,st,h1,h2⟩=>⟨_,fr,st,h1,h2,rfl⟩
 refine wp_loop (fun a w=>∃fr st,AR mu0 S0 B w0 nt fr st a w/\I fr st)
  (fun a w=>if h:∃n,∃fr st,AR mu0 S0 B w0 nt fr st a w/\I fr st/\m fr st=n then Classical.choose (least h) else 0) ⟨fr,st,hA,h0⟩ fun a w hI=>?_
 have hn:=hmin a w hI
 obtain⟨fr,st,h1,h2,h3⟩:=(Classical.choose_spec (least hn)).1
 refine Code.wp_mono (fun e a' w' h=>?_) (hr fr st h2 mu0 S0 B w0 a w hR h1)
 cases e with
 | normal=>
   obtain⟨fr',st',k1,k2,k3⟩:=h
   refine⟨⟨fr',st',k1,k2⟩,?_⟩
   have hn':=hmin a' w' ⟨fr',st',k1,k2⟩
   rw[dif_pos hn,dif_pos hn']
   have:=(Classical.choose_spec (least hn')).2 (m fr' st') ⟨fr',st',k1,k2,rfl⟩
   omega
 | exit i=>exact h
 | ret=>exact h
 | _=>exact h.elim
def yXi(P:Program)(nt:Nat)(c:Code)(Q:AEx->Fr->St->Prop):Nat->Fr->St->Prop
 | 0,_,_=>False
 | n+1,fr,st=>AW0 P nt c (AEx.then (yXi P nt c Q n) Q) fr st
theorem yXi.wk{c:Code}{n:Nat}(hw:Wk nt fr st fr' st')(h:yXi P nt c Q n fr' st'):yXi P nt c Q n fr st:=by
 cases n with
 | zero=>exact h
 | succ n=>exact AW0.wk hw h
open Classical in
theorem AW0.unroll{c:Code}(n:Nat)(h:yXi P nt c Q n fr st):AW0 P nt (.loop c) Q fr st:=by
 refine AW0.loop (fun fr st=>∃n,yXi P nt c Q n fr st) (fun fr st=>if h:∃n,yXi P nt c Q n fr st then Classical.choose (least h) else 0) ⟨n,h⟩ fun fr st hI=>?_
 have hI':=hI
 obtain⟨hm,hmin⟩:=Classical.choose_spec (least hI)
 generalize hq:Classical.choose (least hI)=q at hm hmin
 cases q with
 | zero=>exact hm.elim
 | succ q=>
   refine AW0.mono' hm fun e fr' st' h=>?_
   cases e with
   | normal=>
     have h:yXi P nt c Q q fr' st':=h
     have hex:∃n,yXi P nt c Q n fr' st':=⟨q,h⟩
     refine⟨hex,?_⟩
     show(if h:∃n,yXi P nt c Q n fr' st' then Classical.choose (least h) else 0)<(if h:∃n,yXi P nt c Q n fr st then Classical.choose (least h) else 0)
     rw[dif_pos hI,dif_pos hex,hq]
     have:=(Classical.choose_spec (least hex)).2 q h
     omega
   | exit i=>exact h
   | ret=>exact h
end
section
variable {α:Type}
abbrev xP6(α:Type):=List AV->(AEx->List AV->Option α)->Option α
def xMQ(l:List AV):Prop:=(∀v∈(avs l 1).1,PS v)/\(∀p∈(avs l 1).2,PSr p.es)/\(avs l 1).2.length<=1000/\PSg (avR l).get
def avT(l:List (Nat×Md))(x:List AV):Tr V:=xOz l (avs x 1).1 .leaf
def avG(x:List AV):Tr Blk':=blT (avs x 1).2 1 (avR x)
def avN(x:List AV):Nat:=(avs x 1).2.length+1
structure LSpec (α:Type) where
 live:List (Nat×Md)
 outs:AEx->List (Nat×Md)
 run:xP6 α
inductive LT (α:Type) where
 | no
 | two (l r:LT α)
 | one (l:LT α)
 | lp (s:LSpec α)
 | pt (s:LSpec α)
def okL(l:List (Nat×Md)):Prop:=∀p∈l,p.1<=4000
def LOk(P:Program)(nt:Nat)(x:Code)(s:LSpec α):Prop:=∀(vs:List AV) (K:AEx->List AV->Option α) (r:α),xMQ vs->s.run vs K=some r→
 ∃e vs',(∀K',s.run vs K'=K' e vs')/\xMQ vs'/\okL (s.outs e)/\
  ∀Q:AEx->Fr->St->Prop,Q e (yBO (avT (s.outs e) vs')) ⟨(avG vs').get,avN vs'⟩->AW0 P nt (.loop x) Q (yBO (avT s.live vs)) ⟨(avG vs).get,avN vs⟩
def POk(P:Program)(nt:Nat)(x:Code)(s:LSpec α):Prop:=∀(vs:List AV) (K:AEx->List AV->Option α) (r:α),xMQ vs->s.run vs K=some r→
 ∃e vs',(∀K',s.run vs K'=K' e vs')/\xMQ vs'/\okL (s.outs e)/\
  ∀Q:AEx->Fr->St->Prop,Q e (yBO (avT (s.outs e) vs')) ⟨(avG vs').get,avN vs'⟩->AW0 P nt x Q (yBO (avT s.live vs)) ⟨(avG vs).get,avN vs⟩
def yUh(P:Program)(nt:Nat):Code->LT α->Prop
 | _,.no=>True
 | .seq x y,.two l r=>yUh P nt x l/\yUh P nt y r
 | .cond _ x y,.two l r=>yUh P nt x l/\yUh P nt y r
 | .block _ x,.one l=>yUh P nt x l
 | .scope x,.one l=>yUh P nt x l
 | .loop x,.lp s=>LOk P nt x s
 | x,.pt s=>POk P nt x s
 | _,_=>False
def xGJ(T:Tr V)(G:Tr Blk')(l:List (Nat×Md))(K:List AV->Option α):Option α:=match canC T G l with
 | none=>none
 | some p=>yXO p.1 (bif Nat.ble (avN p.2) 1000 then K p.2 else none) none
def codeL(P:Program)(call:ICk α)(cc:CCk α)(L:Nat):Code->LT α->Tr V->Tr Blk'->Nat->Kt α->Option α
 | .seq x y,.two l r,T,G,c,K=>codeL P call cc L x l T G c fun e T' G' c'=>match e with
   | .normal=>codeL P call cc L y r T' G' c' K
   | e=>K e T' G' c'
 | .cond q x y,.two l r,T,G,c,K=>match ev (yBO T) q with
   | .bool b=>bif b then codeL P call cc L x l (setQ T q true) G c K else codeL P call cc L y r (setQ T q false) G c K
   | _=>none
 | .block id x,.one l,T,G,c,K=>codeL P call cc L x l T G c fun e T' G' c'=>match e with
   | .exit i=>bif Nat.beq i id then K .normal T' G' c' else K (.exit i) T' G' c'
   | e=>K e T' G' c'
 | .scope x,.one l,T,G,c,K=>codeL P call cc L x l T G c K
 | .loop x,.lp s,T,G,c,K=>xGJ T G s.live fun vs=>s.run vs fun e vs'=>K e (avT (s.outs e) vs') (avG vs') (avN vs')
 | _,.pt s,T,G,c,K=>xGJ T G s.live fun vs=>s.run vs fun e vs'=>K e (avT (s.outs e) vs') (avG vs') (avN vs')
 | x,.no,T,G,c,K=>codeK P call cc L x T G c K
 | _,_,_,_,_,_=>none
theorem xMQ.T{l:List (Nat×Md)}{vs:List AV}(hl:okL l)(h:xMQ vs):PSf (yBO (avT l vs))/\PSg (avG vs).get:=⟨xMu _ _ _ hl h.1 .leaf,xR9 h.2.2.1 h.2.1 h.2.2.2⟩
theorem yHM{T:Tr V}{G:Tr Blk'}{l:List (Nat×Md)}{K:List AV->Option α}{r:α}(h:xGJ T G l K=some r):
  ∃vs,K vs=some r/\(∀{γ:Type} (K':List AV->Option γ),xGJ T G l K'=K' vs)/\
   (PSf (yBO T)->PSg G.get->xMQ vs/\okL l/\∀nt c,Wk nt (yBO T) ⟨G.get,c⟩ (yBO (avT l vs)) ⟨(avG vs).get,avN vs⟩):=by
 unfold xGJ at h
 cases hc:canC T G l with
 | none=>rw[hc] at h;cases h
 | some p=>
   rw[hc] at h
   dsimp only at h
   obtain⟨h1,h2,h3⟩:=yCR h
   obtain⟨h4,h5⟩:=yAN h2
   refine⟨p.2,h5,fun K'=>?_,fun hf hg=>?_⟩
   ·unfold xGJ
    rw[hc]
    dsimp only
    rw[h3,h4];rfl
   ·obtain⟨ns1,h6,h7⟩:=xQw hf hg (cs:=p.1) (vs:=p.2) hc h1
    have hle:(avs p.2 1).2.length<=1000:=by have:=Nat.le_of_ble_eq_true h4;unfold avN at this;omega
    obtain⟨k1,k2,k3,k4⟩:=(h7 0).ps
    exact⟨⟨k2,k3,hle,k4⟩,k1,fun nt c mu0 S0 B w0 a w h0 hA=>xSE (h7 c) h6 hle h0 hA⟩
theorem yQs{P:Program}(hm:P.follows .mixedOrders=true){call:ICk α}{cc:CCk α}(hi:xFy P call)(hc:xDj P cc){L nt:Nat}(x:Code)(hx:okC nt x=true)(T:Tr V)(G:Tr Blk')(c:Nat)(K:Kt α)(r:α)(h:codeK P call cc L x T G c K=some r)(hf:PSf (yBO T))(hg:PSg G.get)
  (Q:AEx->Fr->St->Prop) (hq:∀e T' G' c',PSf (yBO T')->PSg (Tr.get G')->K e T' G' c'=some r->Q e (yBO T') ⟨G'.get,c'⟩):AW0 P nt x Q (yBO T) ⟨G.get,c⟩:=
 (xAU hm hi hc x T G c K r hx h hf hg Q hq).aw0
theorem ltP{P:Program}{nt:Nat}{x:Code}{s:LSpec α}:yUh P nt x (.pt s)=POk P nt x s:=by cases x <;> rfl
theorem xD4{P:Program}{call:ICk α}{cc:CCk α}{L:Nat}{x:Code}{s:LSpec α}{T:Tr V}{G:Tr Blk'}{c:Nat}{K:Kt α}:codeL P call cc L x (.pt s) T G c K=xGJ T G s.live fun vs=>s.run vs fun e vs'=>K e (avT (s.outs e) vs') (avG vs') (avN vs'):=by cases x <;> rfl
theorem yGW{P:Program}{call:ICk α}{cc:CCk α}{L nt:Nat}(x:Code)(s:LSpec α)(T:Tr V)(G:Tr Blk')(c:Nat)(K:Kt α)(r:α)(h:codeL P call cc L x (.pt s) T G c K=some r)(ht:yUh P nt x (.pt s))(hf:PSf (yBO T))(hg:PSg G.get)
  (Q:AEx->Fr->St->Prop) (hq:∀e T' G' c',PSf (yBO T')->PSg (Tr.get G')->K e T' G' c'=some r->Q e (yBO T') ⟨G'.get,c'⟩):AW0 P nt x Q (yBO T) ⟨G.get,c⟩:=by
 rw[xD4] at h
 rw[ltP] at ht
 obtain⟨vs,h1,h2,h4⟩:=yHM h
 obtain⟨k1,k2,k3⟩:=h4 hf hg
 obtain⟨e,vs',m1,m2,m3,m4⟩:=ht vs _ r k1 h1
 rw[m1] at h1
 exact AW0.wk (k3 nt c) (m4 Q (hq e _ _ _ (m2.T m3).1 (m2.T m3).2 h1))
theorem yLj{P:Program}(hm:P.follows .mixedOrders=true){call:ICk α}{cc:CCk α}(hi:xFy P call)(hc:xDj P cc){L nt:Nat}:∀(x:Code) (t:LT α) (T:Tr V) (G:Tr Blk') (c:Nat) (K:Kt α) (r:α),codeL P call cc L x t T G c K=some r->yUh P nt x t->okC nt x=true->PSf (yBO T)->PSg G.get→
  ∀Q:AEx->Fr->St->Prop,(∀e T' G' c',PSf (yBO T')->PSg (Tr.get G')->K e T' G' c'=some r->Q e (yBO T') ⟨G'.get,c'⟩)->AW0 P nt x Q (yBO T) ⟨G.get,c⟩:=by
 intro x
 induction x with
 | seq x y ihx ihy=>
   intro t T G c K r h ht ho hf hg Q hq
   cases t with
   | pt s=>exact yGW _ s T G c K r h ht hf hg Q hq
   | no=>exact yQs hm hi hc _ ho T G c K r h hf hg Q hq
   | two l r'=>
     simp only[okC,Bool.and_eq_true] at ho
     refine AW0.seq (ihx l T G c _ r h ht.1 ho.1 hf hg _ fun e T' G' c' hf' hg' h'=>?_)
     cases e with
     | normal=>exact ihy r' T' G' c' K r h' ht.2 ho.2 hf' hg' Q hq
     | exit i=>exact hq _ _ _ _ hf' hg' h'
     | ret=>exact hq _ _ _ _ hf' hg' h'
   | one l=>cases h
   | lp s=>cases h
 | cond q x y ihx ihy=>
   intro t T G c K r h ht ho hf hg Q hq
   cases t with
   | pt s=>exact yGW _ s T G c K r h ht hf hg Q hq
   | no=>exact yQs hm hi hc _ ho T G c K r h hf hg Q hq
   | two l r'=>
     simp only[okC,Bool.and_eq_true] at ho
     unfold codeL at h
     split at h
     ·rename_i b hv
      refine AW0.cond hv (fun e=>?_) (fun e=>?_)
      ·subst e
       have e:=yRT hv
       rw[←e] at hf ⊢
       exact ihx l _ G c K r h ht.1 ho.1 hf hg Q hq
      ·subst e
       have e:=yRT hv
       rw[←e] at hf ⊢
       exact ihy r' _ G c K r h ht.2 ho.2 hf hg Q hq
     ·cases h
   | one l=>cases h
   | lp s=>cases h
 | block id x ih=>
   intro t T G c K r h ht ho hf hg Q hq
   cases t with
   | pt s=>exact yGW _ s T G c K r h ht hf hg Q hq
   | no=>exact yQs hm hi hc _ ho T G c K r h hf hg Q hq
   | one l=>
     refine AW0.block (ih l T G c _ r h ht ho hf hg _ fun e T' G' c' hf' hg' h'=>?_)
     cases e with
     | exit i=>
       show if i=id then Q .normal (yBO T') ⟨G'.get,c'⟩ else Q (.exit i) (yBO T') ⟨G'.get,c'⟩
       dsimp only at h'
       by_cases hid:i=id
       ·rw[ySo hid,cond_true] at h'
        rw[if_pos hid];exact hq _ _ _ _ hf' hg' h'
       ·rw[ySn hid,cond_false] at h'
        rw[if_neg hid];exact hq _ _ _ _ hf' hg' h'
     | normal=>exact hq _ _ _ _ hf' hg' h'
     | ret=>exact hq _ _ _ _ hf' hg' h'
   | two l r'=>cases h
   | lp s=>cases h
 | scope x ih=>
   intro t T G c K r h ht ho hf hg Q hq
   cases t with
   | pt s=>exact yGW _ s T G c K r h ht hf hg Q hq
   | no=>exact yQs hm hi hc _ ho T G c K r h hf hg Q hq
   | one l=>exact AW0.scope (ih l T G c K r h ht ho hf hg Q hq)
   | two l r'=>cases h
   | lp s=>cases h
 | loop x ih=>
   intro t T G c K r h ht ho hf hg Q hq
   cases t with
   | pt s=>exact yGW _ s T G c K r h ht hf hg Q hq
   | no=>exact yQs hm hi hc _ ho T G c K r h hf hg Q hq
   | lp s=>
     have h:xGJ T G s.live (fun vs=>s.run vs fun e vs'=>K e (avT (s.outs e) vs') (avG vs') (avN vs'))=some r:=h
     obtain⟨vs,h1,h2,h4⟩:=yHM h
     obtain⟨k1,k2,k3⟩:=h4 hf hg
     have ht:LOk P nt x s:=ht
     obtain⟨e,vs',m1,m2,m3,m4⟩:=ht vs _ r k1 h1
     rw[m1] at h1
     exact AW0.wk (k3 nt c) (m4 Q (hq e _ _ _ (m2.T m3).1 (m2.T m3).2 h1))
   | two l r'=>cases h
   | one l=>cases h
 | _=>
   intro t T G c K r h ht ho hf hg Q hq
   cases t <;> first | exact yQs hm hi hc _ ho T G c K r h hf hg Q hq | exact yGW _ _ T G c K r h ht hf hg Q hq | cases h
def xDk(s:LSpec α):Prop:=∀(vs:List AV) (K:AEx->List AV->Option α) (r:α),s.run vs K=some r→
 ∃e vs',(∀K',s.run vs K'=K' e vs')/\(xMQ vs->xMQ vs'/\okL (s.outs e))
def yIs:Code->LT α->Prop
 | _,.no=>True
 | .seq x y,.two l r=>yIs x l/\yIs y r
 | .cond _ x y,.two l r=>yIs x l/\yIs y r
 | .block _ x,.one l=>yIs x l
 | .scope x,.one l=>yIs x l
 | .loop x,.lp s=>xDk s
 | _,.pt s=>xDk s
 | _,_=>False
theorem ldP{x:Code}{s:LSpec α}:yIs x (.pt s)=xDk s:=by cases x <;> rfl
theorem yJ8{P:Program}{call:ICk α}{cc:CCk α}{L:Nat}(x:Code)(s:LSpec α)(T:Tr V)(G:Tr Blk')(c:Nat)(K:Kt α)(r:α)(ht:yIs x (.pt s))(h:codeL P call cc L x (.pt s) T G c K=some r):
  ∃e T' G' c',(∀K',codeL P call cc L x (.pt s) T G c K'=K' e T' G' c')/\(PSf (yBO T)->PSg G.get->PSf (yBO T')/\PSg (Tr.get G')):=by
 rw[xD4] at h
 rw[ldP] at ht
 obtain⟨vs,h1,h2,h4⟩:=yHM h
 obtain⟨e,vs',m1,m2⟩:=ht vs _ r h1
 refine⟨e,_,_,_,fun K'=>by rw[xD4];exact(h2 _).trans (m1 _),fun hf hg=>?_⟩
 obtain⟨n1,n2⟩:=m2 (h4 hf hg).1
 exact n1.T n2
theorem yQt{P:Program}{call:ICk α}{cc:CCk α}(hi:xF2 call)(hc:xFx cc){L:Nat}:∀(x:Code) (t:LT α) (T:Tr V) (G:Tr Blk') (c:Nat) (K:Kt α) (r:α),yIs x t->codeL P call cc L x t T G c K=some r→
  ∃e T' G' c',(∀K',codeL P call cc L x t T G c K'=K' e T' G' c')/\(PSf (yBO T)->PSg G.get->PSf (yBO T')/\PSg (Tr.get G')):=by
 intro x
 induction x with
 | seq x y ihx ihy=>
   intro t T G c K r ht h
   cases t with
   | pt s=>exact yJ8 _ s T G c K r ht h
   | no=>exact yO3 hi hc _ T G c K r h
   | two l r'=>
     unfold codeL at h
     obtain⟨e,T1,G1,c1,hx,hp⟩:=ihx l T G c _ r ht.1 h
     rw[hx] at h
     cases e with
     | normal=>
       obtain⟨e2,T2,G2,c2,hy,hq⟩:=ihy r' T1 G1 c1 K r ht.2 h
       exact⟨e2,T2,G2,c2,fun K'=>(hx _).trans (hy K'),fun a b=>hq (hp a b).1 (hp a b).2⟩
     | exit i=>exact⟨.exit i,T1,G1,c1,fun K'=>hx _,hp⟩
     | ret=>exact⟨.ret,T1,G1,c1,fun K'=>hx _,hp⟩
   | one l=>cases h
   | lp s=>cases h
 | cond q x y ihx ihy=>
   intro t T G c K r ht h
   cases t with
   | pt s=>exact yJ8 _ s T G c K r ht h
   | no=>exact yO3 hi hc _ T G c K r h
   | two l r'=>
     unfold codeL at h ⊢
     split at h
     ·rename_i b hv
      try simp only[hv]
      have e:∀v,b=v->yBO (setQ T q v)=yBO T:=fun v hbv=>yRT (by rw[hv,hbv])
      cases b with
      | true=>rw[←e true rfl];exact ihx l _ G c K r ht.1 h
      | false=>rw[←e false rfl];exact ihy r' _ G c K r ht.2 h
     ·cases h
   | one l=>cases h
   | lp s=>cases h
 | block id x ih=>
   intro t T G c K r ht h
   cases t with
   | pt s=>exact yJ8 _ s T G c K r ht h
   | no=>exact yO3 hi hc _ T G c K r h
   | one l=>
     unfold codeL at h
     obtain⟨e,T1,G1,c1,hx,hp⟩:=ih l T G c _ r ht h
     cases e with
     | normal=>exact⟨.normal,T1,G1,c1,fun K'=>hx _,hp⟩
     | ret=>exact⟨.ret,T1,G1,c1,fun K'=>hx _,hp⟩
     | exit i=>
       cases hid:Nat.beq i id with
       | true=>exact⟨.normal,T1,G1,c1,fun K'=>(hx _).trans (by dsimp only;rw[hid];rfl),hp⟩
       | false=>exact⟨.exit i,T1,G1,c1,fun K'=>(hx _).trans (by dsimp only;rw[hid];rfl),hp⟩
   | two l r'=>cases h
   | lp s=>cases h
 | scope x ih=>
   intro t T G c K r ht h
   cases t with
   | pt s=>exact yJ8 _ s T G c K r ht h
   | no=>exact yO3 hi hc _ T G c K r h
   | one l=>exact ih l T G c K r ht h
   | two l r'=>cases h
   | lp s=>cases h
 | loop x ih=>
   intro t T G c K r ht h
   cases t with
   | pt s=>exact yJ8 _ s T G c K r ht h
   | no=>exact yO3 hi hc _ T G c K r h
   | lp s=>
     have h:xGJ T G s.live (fun vs=>s.run vs fun e vs'=>K e (avT (s.outs e) vs') (avG vs') (avN vs'))=some r:=h
     obtain⟨vs,h1,h2,h4⟩:=yHM h
     obtain⟨e,vs',m1,m2⟩:=ht vs _ r h1
     refine⟨e,_,_,_,fun K'=>(h2 _).trans (m1 _),fun hf hg=>?_⟩
     obtain⟨n1,n2⟩:=m2 (h4 hf hg).1
     exact n1.T n2
   | two l r'=>cases h
   | one l=>cases h
 | _=>
   intro t T G c K r ht h
   cases t <;> first | exact yO3 hi hc _ T G c K r h | exact yJ8 _ _ T G c K r ht h | cases h
def yKj(P:Program)(call:ICk α)(cc:CCk α)(L:Nat)(x:Code)(t:LT α)(live:List (Nat×Md))(outs:AEx->List (Nat×Md))(vs:List AV)(Kn:List AV->Option α)(Ke:AEx->List AV->Option α):Option α:=
 codeL P call cc L x t (avT live vs) (avG vs) (avN vs) fun e T' G' c'=>match e with
  | .normal=>xGJ T' G' live Kn
  | .exit i=>xGJ T' G' (outs (.exit i)) (Ke (.exit i))
  | .ret=>xGJ T' G' (outs .ret) (Ke .ret)
def xKk(st:List AV->(List AV->Option α)->(AEx->List AV->Option α)->Option α):Nat->xP6 α
 | 0,_,_=>none
 | m+1,vs,K=>st vs (fun vs'=>xKk st m vs' K) K
theorem xJq{P:Program}(hm:P.follows .mixedOrders=true){call:ICk α}{cc:CCk α}(hi:xFy P call)(hc:xDj P cc)(di:xF2 call)(dc:xFx cc){L nt:Nat}{x:Code}{t:LT α}{live:List (Nat×Md)}{outs:AEx->List (Nat×Md)}(hl:okL live)(ht:yUh P nt x t)(hd:yIs x t)(ho:okC nt x=true)(m:Nat):
  LOk P nt x ⟨live,outs,xKk (yKj P call cc L x t live outs) m⟩/\xDk (⟨live,outs,xKk (yKj P call cc L x t live outs) m⟩:LSpec α):=by
 have det:∀m,xDk (⟨live,outs,xKk (yKj P call cc L x t live outs) m⟩:LSpec α):=by
  intro m
  induction m with
  | zero=>intro vs K r h;cases h
  | succ m ih=>
    intro vs K r h
    have h:yKj P call cc L x t live outs vs (fun vs'=>xKk (yKj P call cc L x t live outs) m vs' K) K=some r:=h
    unfold yKj at h
    obtain⟨e,T1,G1,c1,k1,k2⟩:=yQt di dc x t _ _ _ _ r hd h
    rw[k1] at h
    have ps:xMQ vs->PSf (yBO T1)/\PSg G1.get:=fun a=>k2 (a.T hl).1 (a.T hl).2
    cases e with
    | normal=>
      dsimp only at h
      obtain⟨vs1,q1,q2,q4⟩:=yHM h
      obtain⟨e,vs',n1,n2⟩:=ih vs1 K r q1
      refine⟨e,vs',fun K'=>?_,fun a=>n2 (q4 (ps a).1 (ps a).2).1⟩
      show yKj P call cc L x t live outs vs _ K'=_
      unfold yKj
      rw[k1]
      dsimp only
      rw[q2]
      exact n1 K'
    | exit i=>
      dsimp only at h
      obtain⟨vs1,q1,q2,q4⟩:=yHM h
      refine⟨.exit i,vs1,fun K'=>?_,fun a=>⟨(q4 (ps a).1 (ps a).2).1,(q4 (ps a).1 (ps a).2).2.1⟩⟩
      show yKj P call cc L x t live outs vs _ K'=_
      unfold yKj
      rw[k1]
      exact q2 _
    | ret=>
      dsimp only at h
      obtain⟨vs1,q1,q2,q4⟩:=yHM h
      refine⟨.ret,vs1,fun K'=>?_,fun a=>⟨(q4 (ps a).1 (ps a).2).1,(q4 (ps a).1 (ps a).2).2.1⟩⟩
      show yKj P call cc L x t live outs vs _ K'=_
      unfold yKj
      rw[k1]
      exact q2 _
 refine⟨?_,det m⟩
 intro vs K r h1 h
 obtain⟨e,vs',k1,k2⟩:=det m vs K r h
 obtain⟨u1,u2⟩:=k2 h1
 refine⟨e,vs',k1,u1,u2,fun Q hQ=>?_⟩
 let K1:AEx->List AV->Option α:=fun e2 vs2=>open Classical in if e2=e/\vs2=vs' then some r else none
 have hK1:xKk (yKj P call cc L x t live outs) m vs K1=some r:=(k1 K1).trans (if_pos ⟨rfl,rfl⟩)
 have hh:∀(m:Nat) (vs:List AV),xMQ vs->xKk (yKj P call cc L x t live outs) m vs K1=some r→
   yXi P nt x (fun e fr st=>∃fr' st',Wk nt fr st fr' st'/\Q e fr' st') m (yBO (avT live vs)) ⟨(avG vs).get,avN vs⟩:=by
  intro m
  induction m with
  | zero=>intro vs h1 h;cases h
  | succ m ih=>
    intro vs h1 h
    have h:yKj P call cc L x t live outs vs (fun vs'=>xKk (yKj P call cc L x t live outs) m vs' K1) K1=some r:=h
    unfold yKj at h
    refine yLj hm hi hc x t _ _ _ _ r h ht ho (h1.T hl).1 (h1.T hl).2 _ fun e1 T1 G1 c1 hf hg h'=>?_
    have ex:∀e1,xGJ T1 G1 (outs e1) (K1 e1)=some r->∃fr' st',Wk nt (yBO T1) ⟨G1.get,c1⟩ fr' st'/\Q e1 fr' st':=fun e1 h'=>by
     obtain⟨vs1,q1,q2,q4⟩:=yHM h'
     obtain⟨u5,u6,u7⟩:=q4 hf hg
     have q1:(open Classical in if e1=e/\vs1=vs' then some r else none)=some r:=q1
     split at q1
     ·rename_i hh
      obtain⟨rfl,rfl⟩:=hh
      exact⟨_,_,u7 nt c1,hQ⟩
     ·cases q1
    cases e1 with
    | normal=>
      dsimp only at h'
      obtain⟨vs1,q1,q2,q4⟩:=yHM h'
      obtain⟨u5,u6,u7⟩:=q4 hf hg
      exact yXi.wk (u7 nt c1) (ih vs1 u5 q1)
    | exit i=>exact ex _ h'
    | ret=>exact ex _ h'
 exact AW0.mono (AW0.unroll m (hh m vs h1 hK1)) fun e fr st h=>h
def xFn(P:Program)(call:ICk α)(cc:CCk α)(L:Nat)(x:Code)(t:LT α)(live:List (Nat×Md))(outs:AEx->List (Nat×Md))(vs:List AV)(Ke:AEx->List AV->Option α):Option α:=
 codeL P call cc L x t (avT live vs) (avG vs) (avN vs) fun e T' G' c'=>match e with
  | .normal=>xGJ T' G' (outs .normal) (Ke .normal)
  | .exit i=>xGJ T' G' (outs (.exit i)) (Ke (.exit i))
  | .ret=>xGJ T' G' (outs .ret) (Ke .ret)
theorem xPi{P:Program}(hm:P.follows .mixedOrders=true){call:ICk α}{cc:CCk α}(hi:xFy P call)(hc:xDj P cc)(di:xF2 call)(dc:xFx cc){L nt:Nat}{x:Code}{t:LT α}{live:List (Nat×Md)}{outs:AEx->List (Nat×Md)}(hl:okL live)(ht:yUh P nt x t)(hd:yIs x t)(ho:okC nt x=true):
  POk P nt x ⟨live,outs,xFn P call cc L x t live outs⟩/\xDk (⟨live,outs,xFn P call cc L x t live outs⟩:LSpec α):=by
 have hst:∀vs K,xFn P call cc L x t live outs vs K=codeL P call cc L x t (avT live vs) (avG vs) (avN vs) fun e T' G' c'=>xGJ T' G' (outs e) (K e):=fun vs K=>by
  unfold xFn
  congr 1
  funext e T' G' c'
  cases e <;> rfl
 have det:xDk (⟨live,outs,xFn P call cc L x t live outs⟩:LSpec α):=by
  intro vs K r h
  have h:xFn P call cc L x t live outs vs K=some r:=h
  rw[hst] at h
  obtain⟨e,T1,G1,c1,k1,k2⟩:=yQt di dc x t _ _ _ _ r hd h
  rw[k1] at h
  have ps:xMQ vs->PSf (yBO T1)/\PSg G1.get:=fun a=>k2 (a.T hl).1 (a.T hl).2
  obtain⟨vs1,q1,q2,q4⟩:=yHM h
  refine⟨e,vs1,fun K'=>?_,fun a=>⟨(q4 (ps a).1 (ps a).2).1,(q4 (ps a).1 (ps a).2).2.1⟩⟩
  show xFn P call cc L x t live outs vs K'=_
  rw[hst,k1]
  exact q2 _
 refine⟨?_,det⟩
 intro vs K r h1 h
 obtain⟨e,vs',k1,k2⟩:=det vs K r h
 obtain⟨u1,u2⟩:=k2 h1
 refine⟨e,vs',k1,u1,u2,fun Q hQ=>?_⟩
 let K1:AEx->List AV->Option α:=fun e2 vs2=>open Classical in if e2=e/\vs2=vs' then some r else none
 have hK1:xFn P call cc L x t live outs vs K1=some r:=(k1 K1).trans (if_pos ⟨rfl,rfl⟩)
 rw[hst] at hK1
 refine AW0.mono (yLj (nt:=nt) hm hi hc x t _ _ _ _ r hK1 ht ho (h1.T hl).1 (h1.T hl).2 (fun e fr st=>∃fr' st',Wk nt fr st fr' st'/\Q e fr' st') fun e1 T1 G1 c1 hf hg h'=>?_) fun e fr st h=>h
 obtain⟨vs1,q1,q2,q4⟩:=yHM h'
 obtain⟨u5,u6,u7⟩:=q4 hf hg
 have q1:(open Classical in if e1=e/\vs1=vs' then some r else none)=some r:=q1
 split at q1
 ·rename_i hh
  obtain⟨rfl,rfl⟩:=hh
  exact⟨_,_,u7 nt c1,hQ⟩
 ·cases q1
end
end Go.Proofs.YtakljpcmbpaeaaaGreat
