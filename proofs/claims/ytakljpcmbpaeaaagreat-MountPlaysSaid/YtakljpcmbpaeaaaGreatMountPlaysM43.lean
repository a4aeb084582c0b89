/- Arguments of whatever plain type (numbers, booleans, texts, structs and slices of such), as values of the calculus. -/
import Derived.Test.YtakljpcmbpaeaaaGreatMountPlaysM42
set_option linter.unusedSimpArgs false
set_option linter.unusedVariables false
namespace Go.Proofs.YtakljpcmbpaeaaaGreat
set_option maxRecDepth 100000
open Go.ChangeShapes Go.WideShapes Go.ChangeAt Go.RowKit Go.Joins Go.Deep
inductive Sh where
 | int (k:IntKind)
 | bool
 | str
 | sl (row:List Sh)
inductive HasSh:Sh->V->Prop
 | int (k:IntKind) (n:Int) (h:(Lit.int k n).wf=true):HasSh (.int k) (.int k n)
 | bool (b:Bool):HasSh .bool (.bool b)
 | str (s:ByteArray) (h:s.size<=maxLen):HasSh .str (.str s)
 | sl (row:List Sh) (es:List (List V)) (h:es.length<=maxLen) (hr:∀i (hi:i<es.length),es[i].length=row.length)
  (hx:∀i (hi:i<es.length) j (hj:j<row.length) (hj':j<es[i].length),HasSh row[j] es[i][j]):HasSh (.sl row) (.sl es false)
def yI0(ss:List Sh)(xs:List V):Prop:=xs.length=ss.length/\∀j (h:j<ss.length) (h':j<xs.length),HasSh ss[j] xs[j]
theorem yI0.nil_inv{xs:List V}(h:yI0 [] xs):xs= []:=List.length_eq_zero_iff.1 h.1
theorem yI0.cons_inv{s:Sh}{ss:List Sh}{xs:List V}(h:yI0 (s::ss) xs):∃y ys,xs=y::ys/\HasSh s y/\yI0 ss ys:=by
 obtain⟨h1,h2⟩:=h
 cases xs with
 | nil=>simp at h1
 | cons y ys=>exact⟨y,ys,rfl,h2 0 (by simp) (by simp),by simpa using h1,fun j hj hj'=>h2 (j+1) (by simpa using hj) (by simpa using hj')⟩
theorem yI0.append{ss ts:List Sh}{xs ys:List V}(h:yI0 ss xs)(k:yI0 ts ys):yI0 (ss++ts) (xs++ys):=by
 refine⟨by simp[h.1,k.1],fun j hj hj'=>?_⟩
 by_cases hlt:j<ss.length
 ·rw[List.getElem_append_left hlt,List.getElem_append_left (h.1▸hlt)]
  exact h.2 j hlt (h.1▸hlt)
 ·rw[List.getElem_append_right (by omega),List.getElem_append_right (by have:=h.1;omega)]
  have e:=h.1
  have:=k.2 (j-ss.length) (by simp at hj;omega) (by simp at hj';omega)
  simpa only[e] using this
theorem HasSh.int_inv{k:IntKind}{x:V}(h:HasSh (.int k) x):∃n,x= .int k n/\(Lit.int k n).wf=true:=by cases h;exact⟨_,rfl,by assumption⟩
theorem HasSh.bool_inv{x:V}(h:HasSh .bool x):∃b,x= .bool b:=by cases h;exact⟨_,rfl⟩
theorem HasSh.sl_inv{row:List Sh}{x:V}(h:HasSh (.sl row) x):∃es,x= .sl es false/\es.length<=maxLen/\∀r∈es,yI0 row r:=by
 cases h with
 | sl row es h1 h2 h3=>
   refine⟨es,rfl,h1,fun r hr=>?_⟩
   obtain⟨i,hi,rfl⟩:=List.getElem_of_mem hr
   exact⟨h2 i hi,fun j hj hj'=>h3 i hi j hj hj'⟩
theorem xNw{α:Type}(f:α->List V)(q:α->Prop):∀es:List (List V),(∀r∈es,∃a,r=f a/\q a)->∃l:List α,es=l.map f/\∀a∈l,q a
 | [],_=>⟨[],rfl,by simp⟩
 | r::es,h=>by
   obtain⟨a,rfl,ha⟩:=h r (by simp)
   obtain⟨l,rfl,hl⟩:=xNw f q es fun r hr=>h r (by simp[hr])
   exact⟨a::l,rfl,fun x hx=>by
    rcases List.mem_cons.1 hx with rfl | hx
    ·exact ha
    ·exact hl x hx⟩
theorem HasSh.rows{α:Type}{row:List Sh}{x:V}(h:HasSh (.sl row) x)(f:α->List V)(q:α->Prop)(hf:∀r,yI0 row r->∃a,r=f a/\q a):∃l:List α,x= .sl (l.map f) false/\l.length<=maxLen/\∀a∈l,q a:=by
 obtain⟨es,rfl,h1,h2⟩:=h.sl_inv
 obtain⟨l,rfl,hl⟩:=xNw f q es fun r hr=>hf r (h2 r hr)
 exact⟨l,rfl,by simpa using h1,hl⟩
def shFields(P:Program)(S:TypeId->Option (List Sh)):List Field->Nat->Option (List Sh)
 | [],_=>some []
 | f::fs,o=>bif Nat.beq f.offset o then match S f.type with
   | none=>none
   | some a=>bif Nat.beq a.length (P.cellsOf f.type) then match shFields P S fs (o+a.length) with
     | none=>none
     | some r=>some (a++r)
     else none
   else none
def shapes(P:Program):Nat->TypeId->Option (List Sh)
 | 0,_=>none
 | n+1,t=>match P.underlying t with
   | some .bool=>some [.bool]
   | some (.int k)=>some [.int k]
   | some .string=>some [.str]
   | some (.slice e)=>match shapes P n e with
     | none=>none
     | some r=>bif Nat.beq r.length (P.cellsOf e)&&Nat.ble 1 r.length then some [.sl r] else none
   | some (.struct fs)=>match shFields P (shapes P n) fs.toList 0 with
     | none=>none
     | some l=>bif Nat.beq l.length (P.cellsOf t) then some l else none
   | _=>none
theorem yV4{α:Type}{b:Bool}{x:Option α}{y:α}(h:(bif b then x else none)=some y):b=true/\x=some y:=by
 cases b with
 | false=>cases h
 | true=>exact⟨rfl,h⟩
section
variable {H:Type} {enc:TypeId×Value->H} {w:World} {base:Nat} {spare:Nat->Bool} {held:Bool}
def xIc(w:World)(ss:List Sh)(cs:List Value):Prop:=(∀v∈cs,v.oneCell'=true)/\∃xs,VRs yOr (xOh w) w xs cs/\yI0 ss xs
theorem yU3{P:Program}{S:TypeId->Option (List Sh)}{cs:List Value}{n:Nat}(hS:∀t ss,S t=some ss->∀cs y,DataW.trod enc P w base spare held n t cs=some y->xIc w ss cs):
  ∀(fs:List Field) (o:Nat) (ss:List Sh),shFields P S fs o=some ss->(∀f∈fs,∃y,DataW.trod enc P w base spare held n f.type ((cs.drop f.offset).take (P.cellsOf f.type))=some y)->xIc w ss ((cs.drop o).take ss.length)
 | [],o,ss,h,_=>by
   injection h with h
   subst h
   exact⟨by simp,[],by simpa using VRs.nil,by simp[yI0]⟩
 | f::fs,o,ss,h,hf=>by
   unfold shFields at h
   obtain⟨h1,h⟩:=yV4 h
   have ho:f.offset=o:=Nat.eq_of_beq_eq_true h1
   split at h
   ·cases h
   ·rename_i a ha
    obtain⟨h2,h⟩:=yV4 h
    have hl:a.length=P.cellsOf f.type:=Nat.eq_of_beq_eq_true h2
    split at h
    ·cases h
    ·rename_i r hr
     injection h with h
     subst h
     obtain⟨y,hy⟩:=hf f (by simp)
     have k1:=hS f.type a ha _ _ hy
     rw[ho,←hl] at k1
     have k2:=yU3 hS fs (o+a.length) r hr fun g hg=>hf g (by simp[hg])
     have e:(cs.drop o).take (a++r).length=(cs.drop o).take a.length++(cs.drop (o+a.length)).take r.length:=by
      rw[List.length_append,List.take_add,List.drop_drop]
     rw[e]
     obtain⟨p1,xs,q1,r1⟩:=k1
     obtain⟨p2,ys,q2,r2⟩:=k2
     refine⟨fun v hv=>?_,xs++ys,q1.append q2,r1.append r2⟩
     rcases List.mem_append.1 hv with hv | hv
     ·exact p1 v hv
     ·exact p2 v hv
theorem yXn{P:Program}:∀(d:Nat) (t:TypeId) (ss:List Sh),shapes P d t=some ss->∀(fuel:Nat) (cs:List Value) (y:DataW H×List MemPlace),DataW.trod enc P w base spare held fuel t cs=some y->xIc w ss cs
 | 0,_,_,h=>by cases h
 | d+1,t,ss,h=>by
   intro fuel cs y hy
   unfold shapes at h
   split at h
   ·rename_i ht
    injection h with h
    subst h
    obtain⟨b,rfl,_⟩:=DataW.trod_bool ht hy
    exact⟨by simp[Value.oneCell'],[.bool b],.cons (.bool b) .nil,rfl,fun j hj hj'=>by
     obtain rfl:j=0:=by simpa using hj
     exact .bool b⟩
   ·rename_i k ht
    injection h with h
    subst h
    obtain⟨n,rfl,_,hw⟩:=DataW.trod_int ht hy
    exact⟨by simp[Value.oneCell'],[.int k n],.cons (.int k n) .nil,rfl,fun j hj hj'=>by
     obtain rfl:j=0:=by simpa using hj
     exact .int k n hw⟩
   ·rename_i ht
    injection h with h
    subst h
    obtain⟨s,rfl,_,hw⟩:=DataW.trod_string ht hy
    exact⟨by simp[Value.oneCell'],[.str s],.cons (.str s) .nil,rfl,fun j hj hj'=>by
     obtain rfl:j=0:=by simpa using hj
     exact .str s hw⟩
   ·rename_i e ht
    split at h
    ·cases h
    ·rename_i r hr
     obtain⟨h1,h⟩:=yV4 h
     injection h with h
     subst h
     rw[Bool.and_eq_true] at h1
     have hl:r.length=P.cellsOf e:=Nat.eq_of_beq_eq_true h1.1
     have h0:1<=r.length:=Nat.le_of_ble_eq_true h1.2
     rcases open_slice ht hy with ⟨rfl,_⟩ | ⟨a,len,cap,m,n,D,Pl,rfl,hb,hlc,hm,hmm,_,hi⟩
     ·exact⟨by simp[Value.oneCell'],[.sl [] false],.cons (.sl0 false none 0 (by simp)) .nil,rfl,fun j hj hj'=>by
       obtain rfl:j=0:=by simpa using hj
       exact .sl r [] (by simp) (fun i hi=>absurd hi (by simp)) (fun i hi=>absurd hi (by simp))⟩
     ·have hlm:len<=m:=by rw[hmm];split <;> omega
      have key:∀i,i<len->∃q:List V×List Value,w.cells? base (a.add (i*P.cellsOf e)) (P.cellsOf e)=some q.2/\(∀v∈q.2,v.oneCell'=true)/\VRs yOr (xOh w) w q.1 q.2/\yI0 r q.1:=fun i hil=>by
       obtain⟨cs',h1,h2⟩:=hi i (by omega)
       obtain⟨k1,xs,k2,k3⟩:=yXn d e r hr n cs' _ h2
       exact⟨(xs,cs'),h1,k1,k2,k3⟩
      obtain⟨f,hf⟩:=choose_lt (α:=List V×List Value) key
      have hlen1:∀i,i<len->(f i).1.length=r.length:=fun i hil=>(hf i hil).2.2.2.1
      have hlen2:∀i,i<len->(f i).2.length=r.length:=fun i hil=>by rw[←(hf i hil).2.2.1.1];exact hlen1 i hil
      have hcell:∀i j,i<len->(hj:j<r.length)->w.cell? (a.add (i*r.length+j))=some (((f i).2[j]?).getD Go.undef):=fun i j hil hj=>by
       obtain⟨_,_,hat⟩:=World.cells?_some (hf i hil).1
       rw[←hl] at hat
       have:=hat j hj
       rw[add_add] at this
       rw[this,List.getElem?_eq_getElem (by rw[hlen2 i hil];exact hj)];rfl
      refine⟨by simp[Value.oneCell'],[.sl ((List.range len).map fun i=>(f i).1) false],.cons ?_ .nil,rfl,fun j hj hj'=>?_⟩
      ·rcases Nat.eq_zero_or_pos len with rfl | hpos
       ·exact .sl0 false _ _ (by simp)
       ·have c00:=hcell 0 0 hpos h0
        have hsp:a=⟨a.block,a.off,none⟩:=by
         rw[Nat.zero_mul,Nat.add_zero] at c00
         have h3:a.add 0=a:=rfl
         rw[h3] at c00
         unfold World.cell? at c00
         cases hs:a.spot with
         | none=>rw[←hs]
         | some z=>
           rw[hs] at c00
           split at c00
           ·simp at c00
           ·cases c00
        have hblk:a.block<w.heap.size:=by
         have:=World.block_lt_of_cell? _ _ c00
         rwa [yTA] at this
        have:=VR.sl1 (mu:=yOr) (S:=xOh w) (w:=w) ((List.range len).map fun i=>(f i).1) false a.block a.off cap r.length (fun i j=>((f i).2[j]?).getD Go.undef) (by simpa using hpos) (by simpa using hlc) (by simp)
         (fun i hi=>by simpa using hlen1 i (by simpa using hi)) (fun i j _ _=>hblk) (fun i j hi hj=>?_) (fun i j hi hj=>?_) (fun i hi j hj=>?_)
        ·rw[List.length_map,List.length_range] at this
         rw[hsp]
         exact this
        ·have:=hcell i j (by simpa using hi) hj
         rw[hsp,xKJ] at this
         rw[Nat.add_assoc]
         exact this
        ·have hi':i<len:=by simpa using hi
         have hj':j<(f i).2.length:=by rw[hlen2 i hi'];exact hj
         rw[List.getElem?_eq_getElem hj']
         exact(hf i hi').2.1 _ (List.getElem_mem hj')
        ·have hi':i<len:=by simpa using hi
         simp only[List.getElem_map,List.getElem_range] at hj ⊢
         have hj':j<(f i).2.length:=by rw[hlen2 i hi',←hlen1 i hi'];exact hj
         rw[List.getElem?_eq_getElem hj']
         exact(hf i hi').2.2.1.2 j hj hj'
      ·obtain rfl:j=0:=by simpa using hj
       refine .sl r _ (by simp;omega) (fun i hi=>by simpa using hlen1 i (by simpa using hi)) (fun i hi j hj hj'=>?_)
       have hi':i<len:=by simpa using hi
       simp only[List.getElem_map,List.getElem_range] at hj' ⊢
       exact(hf i hi').2.2.2.2 j hj hj'
   ·rename_i fs ht
    split at h
    ·cases h
    ·rename_i l hl
     obtain⟨h1,h⟩:=yV4 h
     injection h with h
     subst h
     have h1:l.length=P.cellsOf t:=Nat.eq_of_beq_eq_true h1
     obtain⟨xs,n,_,_,hlen,hxl,hf⟩:=DataW.trod_struct ht hy
     have:=yU3 (cs:=cs) (n:=n) (S:=shapes P d) (fun t ss hs cs y hy=>yXn d t ss hs n cs y hy) fs.toList 0 l hl fun f hm=>by
      obtain⟨i,hi,rfl⟩:=List.getElem_of_mem hm
      have hi':i<fs.size:=by simpa using hi
      refine⟨xs[i]'(by omega),?_⟩
      rw[hf i fs.toList[i] (by simp[hi']),List.getElem?_eq_getElem]
     rw[List.drop_zero,h1,←hlen,List.take_length] at this
     exact this
   ·cases h
theorem xK0{r:Reach}{b0:Nat}{t:TypeId}{fs:Array Field}{d:Nat}{ss:List Sh}{v:Value}{y:DataW H}{p:List MemPlace}(ht:Tryz.prog.underlying t=some (.struct fs))(hs:shapes Tryz.prog d t=some ss)
  (hv:Value.okWide Tryz.prog w r b0 t v) (h:DataW.Trod enc Tryz.prog w base spare held t v y p):∃xs,VR yOr (xOh w) w (.agg xs) v/\yI0 ss xs:=by
 obtain⟨cs,rfl,_⟩:=okWide_struct ht hv
 obtain⟨fuel,hf⟩:=h
 obtain⟨h1,xs,h2,h3⟩:=yXn d t ss hs fuel _ _ hf
 refine⟨xs,?_,h3⟩
 have:=VR.agg (mu:=yOr) (S:=xOh w) (w:=w) xs cs.toList h2.1 h1 h2.2
 rwa [Array.toArray_toList] at this
theorem xMW{r:Reach}{b0:Nat}{t e:TypeId}{d:Nat}{ss:List Sh}{v:Value}{y:DataW H}{p:List MemPlace}(ht:Tryz.prog.underlying t=some (.slice e))(hs:shapes Tryz.prog d t=some ss)
  (hv:Value.okWide Tryz.prog w r b0 t v) (h:DataW.Trod enc Tryz.prog w base spare held t v y p):∃x,VR yOr (xOh w) w x v/\yI0 ss [x]:=by
 obtain⟨a,len,cap,rfl⟩:=okWide_slice ht hv
 obtain⟨fuel,hf⟩:=h
 obtain⟨h1,xs,h2,h3⟩:=yXn d t ss hs fuel _ _ hf
 have hl:=h2.1
 have hc:(Value.slice a len cap).cells.toList= [.slice a len cap]:=by simp[Value.cells]
 rw[hc] at hl h2
 match xs,hl with
 | [x],_=>exact⟨x,h2.2 0 (by simp) (by simp),h3⟩
end
end Go.Proofs.YtakljpcmbpaeaaaGreat
