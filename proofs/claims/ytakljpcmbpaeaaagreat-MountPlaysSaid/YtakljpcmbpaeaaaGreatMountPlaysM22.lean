/- Rows of numbers, of texts, of pairs. -/
import Derived.Test.YtakljpcmbpaeaaaGreatMountPlaysM21
import Derived.Test.YtakljpcmbpaeaaaGreatMountPlaysM01
set_option linter.unusedSimpArgs false
set_option linter.unusedVariables false
namespace Go.Proofs.YtakljpcmbpaeaaaGreat
open Go.RowKit
def txV(s:ByteArray):List V:= [.str s]
def inV(n:Int):List V:= [.int .i64 n]
theorem xKJ(g o n:Nat):(⟨g,o,none⟩:Addr).add n=⟨g,o+n,none⟩:=by
 unfold Addr.add
 split
 ·rename_i h;subst h;rfl
 ·rfl
section
variable {mu:Mu} {S:yEn} {w:World} {v:Value}
theorem xTA{k:IntKind}{n:Int}(h:VR mu S w (.int k n) v):v= .int k n:=VR.int_inv h
theorem xOX{cs:List Value}(h:VRs mu S w [] cs):cs= []:=by
 have:=h.1
 cases cs with
 | nil=>rfl
 | cons a l=>simp at this
theorem xAH{x:V}{xs:List V}{cs:List Value}(h:VRs mu S w (x::xs) cs):∃u us,cs=u::us/\VR mu S w x u/\VRs mu S w xs us:=by
 obtain⟨h1,h2⟩:=h
 cases cs with
 | nil=>simp at h1
 | cons a l=>exact⟨a,l,rfl,h2 0 (by simp) (by simp),by simpa using h1,fun j hj hj'=>h2 (j+1) (by simpa using hj) (by simpa using hj')⟩
theorem xQi{es:List (List V)}{fl:Bool}{sz:Nat}(hb:∀g i,S g i->g<w.heap.size)(h:VR mu S w (.sl es fl) v)(hsz:∀r∈es,r.length=sz)(h0:0<sz):
  ∃A c,v= .slice A es.length c/\(0<es.length->∃ad,A=some ad/\ad.block<w.heap.size/\∀i (hi:i<es.length) j (hj:j<es[i].length),∃u,w.cell? (ad.add (i*sz+j))=some u/\VR mu S w es[i][j] u):=by
 generalize hx:V.sl es fl=x at h
 cases h with
 | sl0 full A c hf=>cases hx;exact⟨A,c,rfl,fun h=>absurd h (by simp)⟩
 | sl1 es' full g o c sz' vals hne hc hf hlen hS hcell hone hv=>
   cases hx
   have hs:sz=sz':=by rw[←hsz _ (List.getElem_mem hne),hlen 0 hne]
   subst hs
   refine⟨_,_,rfl,fun _=>⟨_,rfl,hb g _ (hS 0 0 hne h0),fun i hi j hj=>⟨vals i j,?_,hv i hi j hj⟩⟩⟩
   rw[xKJ,←Nat.add_assoc]
   exact hcell i j hi (by rw[←hlen i hi];exact hj)
 | _=>cases hx
theorem xT1{l:List Int}{fl:Bool}(hb:∀g i,S g i->g<w.heap.size)(h:VR mu S w (.sl (l.map inV) fl) v):∃A c,v= .slice A l.length c/\Reads w w.heap.size 1 A l.length (yYY l):=by
 obtain⟨A,c,hv,hr⟩:=xQi (sz:=1) hb h (fun r hr=>by obtain⟨p,_,rfl⟩:=List.mem_map.1 hr;rfl) (by omega)
 replace hv:v= .slice A l.length c:=by rw[hv,List.length_map]
 refine⟨A,c,hv,by simp[yYY],fun hn=>?_⟩
 obtain⟨ad,hA,hlt,hc⟩:=hr (by simpa using hn)
 refine⟨ad,hA,hlt,fun j u hu=>?_⟩
 have hj:j<l.length:=by
  rcases Nat.lt_or_ge j l.length with h | h
  ·exact h
  ·rw[List.getElem?_eq_none (by simpa[yYY] using h)] at hu;cases hu
 have hu':u= .int .i64 l[j]:=by
  simp[yYY,hj] at hu
  exact hu.symm
 subst hu'
 obtain⟨u,h1,h2⟩:=hc j (by simpa using hj) 0 (by simp[inV])
 rw[show ad.add j=ad.add (j*1+0) from congrArg _ (by omega),h1]
 simp only[List.getElem_map] at h2
 rw[VR.int_inv h2]
end
theorem xGN{P:Program}{g:FuncId}{args:List V}{r:V}{fn:Func}(hf:P.funcs[g]?=some fn) (hn:(fn.name== "runtime.NumGoroutine")=false) (hb:fn.body.isNone=false) (hp:Plain r)
  (h:∀(w:World) (S:yEn) (vargs:List Value),(∀g i,S g i->g<w.heap.size)->VRs yOr S w args vargs->Calls P g vargs.toArray w fun e w'=>∃v,e= .returned v/\VR yOr (fun g i=>S g i\/(w.heap.size<=g/\g<w'.heap.size)) w' r v/\Below w.heap.size w w'):Con P g args (· = r):=by
 refine⟨⟨fn,hf,hn,hb⟩,fun w S vargs hS hv=>(h w S vargs hS hv).mono ?_⟩
 rintro e w' ⟨v,rfl,hr,hB⟩
 exact⟨v,r,_,rfl,rfl,hp,hr,fun _ _ h=> .inl h,fun _ _ h=>h.imp id fun h=>h.1,fun g i h=>h.elim (fun h=>Nat.lt_of_lt_of_le (hS g i h) hB.size) fun h=>h.2,hB⟩
section
variable {P:Program} {ops:Array Oper} {h:FuncId} {d:Option Tmp} {l:List Oper} {fr:Fr} {st:St} {args:List V}
end
theorem xJE{x:V}{l:List V}(h:Plain x)(k:∀y∈l,Plain y):∀y∈x::l,Plain y:=fun y hy=>by
 rcases List.mem_cons.1 hy with rfl | hy
 ·exact h
 ·exact k y hy
theorem xQW:∀y∈([]:List V),Plain y:=fun y hy=>absurd hy (by simp)
def byV(c:UInt8):List V:= [.int .u8 (c.toNat:Int)]
theorem xSA(c:UInt8):∀x∈byV c,Plain x:=xJE (.int _ _) xQW
theorem yUQ(b:Bs):bytesOf (b.map byV)=some (b.map fun c=>(c.toNat:Int)):=by
 induction b with
 | nil=>rfl
 | cons c b ih=>simp[bytesOf,byV,ih]
theorem xS9{mu:Mu}{S:yEn}{w:World}{v:Value}{l:Bs}{fl:Bool}(hb:∀g i,S g i->g<w.heap.size)(h:VR mu S w (.sl (l.map byV) fl) v):∃A c,v= .slice A l.length c/\Reads w w.heap.size 1 A l.length (yGL l):=by
 obtain⟨A,c,hv,hr⟩:=xQi (sz:=1) hb h (fun r hr=>by obtain⟨p,_,rfl⟩:=List.mem_map.1 hr;rfl) (by omega)
 replace hv:v= .slice A l.length c:=by rw[hv,List.length_map]
 refine⟨A,c,hv,by simp[yGL],fun hn=>?_⟩
 obtain⟨ad,hA,hlt,hc⟩:=hr (by simpa using hn)
 refine⟨ad,hA,hlt,fun j u hu=>?_⟩
 have hj:j<l.length:=by
  rcases Nat.lt_or_ge j l.length with h | h
  ·exact h
  ·rw[List.getElem?_eq_none (by simpa[yGL] using h)] at hu;cases hu
 have hu':u= .int .u8 (l[j].toNat:Int):=by
  simp[yGL,hj] at hu
  exact hu.symm
 subst hu'
 obtain⟨u,h1,h2⟩:=hc j (by simpa using hj) 0 (by simp[byV])
 rw[show ad.add j=ad.add (j*1+0) from congrArg _ (by omega),h1]
 simp only[List.getElem_map] at h2
 rw[VR.int_inv h2]
def yZO(b:Bs)(n:Int)(l:List Int):Bs×Int:=match xKb b n l with
 | none=>([],2)
 | some x=>(x,0)
end Go.Proofs.YtakljpcmbpaeaaaGreat
