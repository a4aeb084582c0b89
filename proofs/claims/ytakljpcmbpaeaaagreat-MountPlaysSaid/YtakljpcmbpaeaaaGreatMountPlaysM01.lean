/- Plain facts on the model's bit operations over natural numbers: and, or, xor of i64 and u32, shifts; nothing of the program. -/
import Derived.WalkKit
import Derived.Below
import Derived.Laws.OwnMore
import Derived.Laws.Rows
import Derived.Laws.CopyOwn
import Derived.Laws.MakeOwn
import Derived.Laws.Entries
import Derived.Deep.AppendLies
import Derived.Deep.Draws
import Derived.Deep.OwnRows
import Derived.Deep.QuietTactic
import Derived.Maps.AppendAt
import Derived.RegionTactic
import Derived.OwnWalk
import Derived.ChangeSame
import Derived.Lib.Hide
import Derived.Laws.BytesArg
import Derived.Deep.AppendSrc
import Derived.Laws.IdiomStrings
import Derived.Lib.Strings
import Derived.Test.YtakljpcmbpaeaaaGreatProg
import Derived.WalkSpells
import Derived.WalkLawsBesides
import Derived.BigQuiet
import Derived.Deep.LoopGhost
import Derived.StillTailTactics
import Derived.Lib.AppendZerosOnto
import Derived.ProofKit
import Derived.OpenShut
import Derived.ShutString
import Derived.ChangeOld
import Derived.SliceStrings
import Derived.Lib.SmallJoins
import Derived.Deep.Slices
import Derived.Deep.Fields
import Derived.Test.YtakljpcmbpaeaaaGreatChecked
import Derived.JoinedOf
import Derived.Test.YtakljpcmbpaeaaaGreatRows
set_option linter.unusedSimpArgs false
set_option linter.unusedVariables false
namespace Go.Proofs.YtakljpcmbpaeaaaGreat
open Go.RowKit
theorem yQ5(a:Nat)(ha:a<18446744073709551616):(BitVec.ofInt 64 (a:Int)).toNat=a:=by
 simp only[BitVec.toNat_ofInt]
 omega
theorem yUM(n:Nat)(h:n<9223372036854775808):IntKind.i64.wrap (n:Int)=n:=by
 rw[IntKind.wrap_i64];omega
theorem xLR(a b:Nat)(ha:a<9223372036854775808)(hb:b<9223372036854775808):bits .or .i64 (a:Int) (b:Int)=((a ||| b:Nat):Int):=by
 show IntKind.i64.wrap ((BitVec.ofInt 64 (a:Int) ||| BitVec.ofInt 64 (b:Int)).toNat:Nat)=_
 rw[BitVec.toNat_or,yQ5 a (by omega),yQ5 b (by omega)]
 have:a ||| b<2^63:=Nat.or_lt_two_pow (by omega) (by omega)
 exact yUM _ (by omega)
theorem yVO(a b:Nat)(ha:a<9223372036854775808)(hb:b<9223372036854775808):bits .and .i64 (a:Int) (b:Int)=((a &&& b:Nat):Int):=by
 show IntKind.i64.wrap ((BitVec.ofInt 64 (a:Int) &&& BitVec.ofInt 64 (b:Int)).toNat:Nat)=_
 rw[BitVec.toNat_and,yQ5 a (by omega),yQ5 b (by omega)]
 have:a &&& b<2^63:=Nat.and_lt_two_pow _ (by omega)
 exact yUM _ (by omega)
theorem xI1(a b:Nat)(ha:a<9223372036854775808)(hb:b<9223372036854775808):bits .xor .i64 (a:Int) (b:Int)=((a ^^^ b:Nat):Int):=by
 show IntKind.i64.wrap ((BitVec.ofInt 64 (a:Int) ^^^ BitVec.ofInt 64 (b:Int)).toNat:Nat)=_
 rw[BitVec.toNat_xor,yQ5 a (by omega),yQ5 b (by omega)]
 have:a ^^^ b<2^63:=Nat.xor_lt_two_pow (by omega) (by omega)
 exact yUM _ (by omega)
theorem xRP(z c k:Nat)(hz:z<256^k)(hc:c<256)(hk:k<=5):
  bits .or .i64 (z:Int) (wrap64 ((c:Int)*2^(8*k)))=((z+c*256^k:Nat):Int):=by
 have e:(2:Nat)^(8*k)=256^k:=by rw[Nat.pow_mul]
 have h5:256^k<=256^5:=Nat.pow_le_pow_right (by omega) hk
 have hm:c*256^k<=255*256^5:=Nat.mul_le_mul (by omega) h5
 have e2:((c:Int)*2^(8*k))=((c*256^k:Nat):Int):=by
  rw[←e];simp
 rw[e2]
 have hw:wrap64 ((c*256^k:Nat):Int)=((c*256^k:Nat):Int):=by
  unfold wrap64
  generalize c*256^k=q at*
  omega
 rw[hw,xLR _ _ (by omega) (by omega)]
 congr 1
 rw[Nat.or_comm,nat_join (8*k) _ _ (by rw[e];exact Nat.mul_mod_left _ _) (by rw[e];exact hz),Nat.add_comm]
abbrev Bs:=List UInt8
def le:Bs->Nat
 | []=>0
 | c::l=>c.toNat+256*le l
def leBytes:Nat->Nat->Bs
 | 0,_=> []
 | w+1,n=>UInt8.ofNat (n%256)::leBytes w (n/256)
theorem xTZ(l:Bs):le l<256^l.length:=by
 induction l with
 | nil=>simp[le]
 | cons c l ih=>
   have:=c.toNat_lt
   simp only[le,List.length_cons,Nat.pow_succ]
   omega
theorem xNE(l m:Bs):le (l++m)=le l+256^l.length*le m:=by
 induction l with
 | nil=>simp[le]
 | cons c l ih=>
   simp only[List.cons_append,le,ih,List.length_cons,Nat.pow_succ,Nat.mul_add]
   have:256*(256^l.length*le m)=256^l.length*256*le m:=by
    rw[←Nat.mul_assoc,Nat.mul_comm 256]
   omega
theorem xRF(l:Bs)(c:UInt8):le (l++ [c])=le l+c.toNat*256^l.length:=by
 rw[xNE];simp[le,Nat.mul_comm]
theorem yAI(w n:Nat):(leBytes w n).length=w:=by
 induction w generalizing n with
 | zero=>rfl
 | succ w ih=>simp[leBytes,ih]
theorem yUU(w n:Nat):le (leBytes w n)=n%256^w:=by
 induction w generalizing n with
 | zero=>simp[leBytes,le,Nat.mod_one]
 | succ w ih=>
   simp only[leBytes,le,ih]
   have e:(UInt8.ofNat (n%256)).toNat=n%256:=by simp
   rw[e,Nat.pow_succ,Nat.mul_comm (256^w) 256,Nat.mod_mul]
theorem xDS(l:Bs):leBytes l.length (le l)=l:=by
 induction l with
 | nil=>rfl
 | cons c l ih=>
   have h:=c.toNat_lt
   have e1:(c.toNat+256*le l)%256=c.toNat:=by omega
   have e2:(c.toNat+256*le l)/256=le l:=by omega
   simp only[List.length_cons,leBytes,le,e1,e2,ih]
   simp
theorem yYb(w n:Nat):leBytes (w+1) n=leBytes w n++ [UInt8.ofNat (n/256^w%256)]:=by
 induction w generalizing n with
 | zero=>simp[leBytes]
 | succ w ih=>
   rw[leBytes,ih,leBytes]
   simp only[List.cons_append]
   rw[Nat.div_div_eq_div_mul,Nat.pow_succ,Nat.mul_comm (256^w) 256]
def yQR(w:Nat):Nat:=min (256^w-1) 1099511627776
def yHP(n w:Int):Bool:=decide (1<=w/\w<=6/\0<=n/\n<=yQR w.toNat)
theorem xAh{n:Nat}{w:Nat}(h:yHP n w=true):n<256^w/\n<=1099511627776/\1<=w/\w<=6:=by
 have h:=of_decide_eq_true h
 have:0<256^w:=Nat.pow_pos (by omega)
 simp only[Int.toNat_natCast,yQR] at h
 omega
def yQN(l:Bs)(a w:Int):Int×Int:=
 if 1<=w/\w<=6 then
  if 0<=a/\a+w<=l.length then
   if le ((l.drop a.toNat).take w.toNat)<=1099511627776 then(le ((l.drop a.toNat).take w.toNat),0) else(0,10)
  else(0,10)
 else(0,2)
theorem xKT{l:Bs}{a w:Int}(h:¬(1<=w/\w<=6)):yQN l a w=(0,2):=by rw[yQN,if_neg h]
theorem yRk{l:Bs}{a w:Int}(h:1<=w/\w<=6)(h':¬(0<=a/\a+w<=l.length)):yQN l a w=(0,10):=by rw[yQN,if_pos h,if_neg h']
theorem xKU{l:Bs}{a w:Nat}(h:1<=w/\w<=6)(h':a+w<=l.length)(hn:¬le ((l.drop a).take w)<=1099511627776):yQN l a w=(0,10):=by
 rw[yQN,if_pos (by omega),if_pos (by omega)];simp only[Int.toNat_natCast];rw[if_neg hn]
theorem yXc{l:Bs}{a w:Nat}(h:1<=w/\w<=6)(h':a+w<=l.length)(hn:le ((l.drop a).take w)<=1099511627776):yQN l a w=(((le ((l.drop a).take w):Nat):Int),0):=by
 rw[yQN,if_pos (by omega),if_pos (by omega)];simp only[Int.toNat_natCast];rw[if_pos hn]
theorem xC9(l:Bs)(a k:Nat)(h:a+k<l.length):(l.drop a).take (k+1)=(l.drop a).take k++ [l[a+k]]:=by
 rw[List.take_succ_eq_append_getElem (by simp;omega)];simp
theorem xGk(l:Bs)(a k:Nat)(h:a+k<l.length):le ((l.drop a).take (k+1))=le ((l.drop a).take k)+l[a+k].toNat*256^k:=by
 rw[xC9 l a k h,xRF]
 congr 3
 simp;omega
theorem yUV(l:Bs)(a k:Nat):le ((l.drop a).take k)<256^k:=by
 have h1:=xTZ ((l.drop a).take k)
 have h2:((l.drop a).take k).length<=k:=by simp;omega
 exact Nat.lt_of_lt_of_le h1 (Nat.pow_le_pow_right (by omega) h2)
theorem xG2(k:Nat)(h:k<=6):256^k<=281474976710656:=by
 have:=Nat.pow_le_pow_right (n:=256) (by omega) h
 omega
theorem yWB(s:ByteArray)(i:Nat)(h:i<s.size):s.data.toList[i]'(by simpa using h)=s[i]:=by
 simp[ByteArray.getElem_eq_getElem_data]
theorem yAy(s:ByteArray):s.data.toList.length=s.size:=by simp
theorem xPL(s:ByteArray)(a k:Nat)(h:a+k<s.size)(hk:k<=5):
  bits .or .i64 ((le ((s.data.toList.drop a).take k):Nat):Int) (wrap64 (wrap64 ((s[a+k].toNat:Nat):Int)*2^(8*k)))=((le ((s.data.toList.drop a).take (k+1)):Nat):Int):=by
 have h1:=s[a+k].toNat_lt
 have hw:wrap64 ((s[a+k].toNat:Nat):Int)=((s[a+k].toNat:Nat):Int):=by unfold wrap64;omega
 rw[hw,xRP _ _ _ (yUV _ _ _) (by omega) hk,xGk _ _ _ (by simpa using h),yWB s _ h]
end Go.Proofs.YtakljpcmbpaeaaaGreat

namespace Go.Proofs.YtakljpcmbpaeaaaGreat
open Go.RowKit Go.WideShapes Go.ChangeShapes
theorem yTA(a:Addr)(n:Nat):(a.add n).block=a.block:=by unfold Addr.add;split <;> rfl
def Reads(w:World)(B size:Nat)(A:Option Addr)(n:Nat)(xs:List Value):Prop:=
 xs.length=n*size/\(0<n->∃ad,A=some ad/\ad.block<B/\∀j u,xs[j]?=some u->w.cell? (ad.add j)=some u)
section
variable {w w':World} {B B' size n:Nat} {A:Option Addr} {xs:List Value}
theorem Reads.at_{k:Nat}(h:Reads w B 1 A n xs)(hk:k<n):∃ad u,A=some ad/\ad.block<B/\xs[k]?=some u/\w.cell? (ad.add k)=some u:=by
 obtain⟨ad,e,hb,hc⟩:=h.2 (by omega)
 have hl:k<xs.length:=by have:=h.1;omega
 exact⟨ad,xs[k],e,hb,List.getElem?_eq_getElem hl,hc k _ (List.getElem?_eq_getElem hl)⟩
theorem Reads.keep(h:Reads w B size A n xs)(hk:∀p:Addr,p.block<B->w'.cell? p=w.cell? p):Reads w' B size A n xs:=
 ⟨h.1,fun hn=>by
  obtain⟨ad,e,hb,hc⟩:=h.2 hn
  exact⟨ad,e,hb,fun j u hu=>(hk _ (by rw[yTA];exact hb)).trans (hc j u hu)⟩⟩
theorem Reads.more(h:Reads w B size A n xs)(hB:B<=B'):Reads w B' size A n xs:=
 ⟨h.1,fun hn=>by
  obtain⟨ad,e,hb,hc⟩:=h.2 hn
  exact⟨ad,e,by omega,hc⟩⟩
theorem Reads.below(h:Reads w B size A n xs)(hb:Below B w w'):Reads w' B size A n xs:=h.keep fun _ hp=>hb.cell hp
end
def Blk(w:World)(g:Nat)(t:TypeId)(cs:Array Value):Prop:=w.heap[g]?=some (.cells cs t (0,0))
section
variable {w w':World} {g:Nat} {t:TypeId} {cs:Array Value}
theorem Blk.cell(h:Blk w g t cs)(i:Nat):w.cell? ⟨g,i,none⟩=cs[i]?:=cell_of_row w g i cs t (0,0) h
theorem Blk.frozen(h:Blk w g t cs)(i:Nat):w.frozen? ⟨g,i,none⟩=false:=by
 unfold Blk at h
 simp[World.frozen?,h]
theorem Blk.new(w:World)(t:TypeId)(cs:Array Value):Blk (w.alloc (.cells cs t)) w.heap.size t cs:=heap_alloc_new w _
theorem Blk.drew(h:Blk w g t cs):Blk w.drew g t cs:=h
theorem Blk.set_(h:Blk w g t cs)(i:Nat)(u:Value):Blk (w.setCell ⟨g,i,none⟩ u) g t (cs.setIfInBounds i u):=by
 unfold Blk at h ⊢
 simp[World.setCell,Array.getElem?_modify,h]
end
section
variable {P:Program} (w:World)
end
theorem xGu{a w:World}{row:Option Nat}(h:a.grownBy w row):a.grownBy w.drew row:=⟨h.os,h.tape,h.output,h.size,h.block⟩
theorem yTY{a w:World}{g:Nat}(h:a.grownBy w (some g)){p:Addr}(hp:p.block=g\/a.heap.size<=p.block)(u:Value):a.grownBy (w.setCell p u) (some g):=
 ⟨h.os,h.tape,h.output,by simpa[World.setCell] using h.size,fun i hi hne=>(Below.heap_setCell w p u i (by
  rintro rfl
  rcases hp with hp | hp
  ·exact hne (by rw[hp])
  ·omega)).trans (h.block i hi hne)⟩
theorem yW3{P:Program}(t e:TypeId)(i:TypeInfo)(z:Value)(ht:P.underlying t=some (.slice e))(hi:P.info? e=some i)(hz:i.zero=some z)
  (kl kc:IntKind) (n c:Nat) (hnc:n<=c) (hbytes:i.bytes*c<=281474976710656) (h63:c<=9223372036854775807) (w:World):
  (Instr.makeSlice t (.int kl (n:Int)) (.int kc (c:Int))).run P w= .ok (.slice (some ⟨w.heap.size,0,none⟩) n c) (w.alloc (.cells (madeCells z.cells (c*i.size)) e)):=by
 have hb:(i.bytes:Int)*(c:Int)<=281474976710656:=by
  have h:((i.bytes*c:Nat):Int)<=281474976710656:=by omega
  rwa [Int.natCast_mul] at h
 have hr:=run_make (P:=P) w t e i z ht hi hz kl kc n c (by omega) (by omega) hb (by omega)
 simp only[Int.toNat_natCast] at hr
 exact hr
section
variable {H:Type} {enc:TypeId×Value->H} {P:Program}
end
def yGL(l:Bs):List Value:=l.map fun c=> .int .u8 (c.toNat:Int)
def yYY(l:List Int):List Value:=l.map (Value.int .i64)
theorem xDv(l m:Bs):yGL (l++m)=yGL l++yGL m:=by simp[yGL]
theorem xK2(l:Bs):∀u∈yGL l,u.oneCell'=true:=by
 intro u hu;simp[yGL] at hu;obtain⟨c,_,rfl⟩:=hu;rfl
theorem xK1(l:Bs)(k:Nat)(h:k<l.length):(yGL l)[k]?=some (.int .u8 (l[k].toNat:Int)):=by simp[yGL,h]
theorem xLU(l:List Int)(k:Nat)(h:k<l.length):(yYY l)[k]?=some (.int .i64 l[k]):=by simp[yYY,h]
theorem xGA{B:Nat}{a w w':World}{e:TypeId}{s n:Nat}{v:Value}{xs:List Value}(h:Below B a w)(hown:w.ownsRow B e s v n xs)(hg:w.grownBy w' v.ownBlock)(hB:B<=w.heap.size):Below B a w':=
 h.grown hg hB fun k hk=>(hown.lt k hk).1
theorem xDD{B:Nat}{a w w':World}(h:Below B a w)(hg:w.grownBy w' none)(hB:B<=w.heap.size):Below B a w':=
 h.grown hg hB fun k hk=>by cases hk
theorem xB0{P:Program}(w:World){ops:Array Oper}{rest:List Oper}{o:Oper}{a:Act}{Q:Exit->Act->World->Prop}
  (hg:o.guard=none) (l c:Operand) (t:TypeId) (hop:o.op=Op.makeSlice t l c)
  (base:Nat) (e:TypeId) (i:TypeInfo) (z:Value) (h1:P.underlying t=some (.slice e)) (h2:P.info? e=some i) (h3:i.zero=some z) (h4:i.size=1) (hz:z.cells=#[z])
  (kl kc:IntKind) (L C:Int) (n m:Nat) (hl:a.eval l= .int kl L) (hc:a.eval c= .int kc C) (hL:L=(n:Int)) (hC:C=(m:Int)) (hnm:n<=m) (b2:i.bytes*m<=281474976710656) (b3:m<=maxLen) (b4:base<=w.heap.size)
  (hK:∀w',w'.ownsRow base e 1 (.slice (some ⟨w.heap.size,0,none⟩) n m) n (List.replicate n z)->w.grownBy w' none->wpList P ops Q rest (a.put o.dst (.slice (some ⟨w.heap.size,0,none⟩) n m)) w'):
  wpList P ops Q (o::rest) a w:=by
 refine wpList_plain hg fun K hK'=>?_
 have hrun:=yW3 (P:=P) t e i z h1 h2 h3 kl kc n m hnm b2 (by unfold maxLen at b3;omega) w
 subst hL
 subst hC
 unfold Oper.wp
 simp[execOp,hop,hl,hc,hrun,Result.andThen]
 refine hK' _ _ (hK _ ⟨by simp,.inr ⟨w.heap.size,m,_,rfl,b4,heap_alloc_new w _,hnm,b3,?_,?_⟩⟩ (World.grownBy_alloc w _ none))
 ·rw[size_madeCells,h4]
 ·rw[h4,hz,Nat.mul_one,Nat.mul_one,toList_madeCells_one,List.take_replicate]
  congr 1
  omega
theorem xBz{P:Program}{w:World}{ops:Array Oper}{rest:List Oper}{o:Oper}{a:Act}{Q:Exit->Act->World->Prop}(hgd:o.guard=none)(d s:Operand)(dT sT:TypeId)
  (ho:o.op= .call {callee:= .builtin .copy,args:=#[d,s],argTypes:=#[dT,sT]}) (elem:TypeId) (hu:P.underlying dT=some (.slice elem)) (hsz:(P.info? elem).map (·.size)=some 1)
  (base:Nat) (v:Value) (n:Nat) (xs:List Value) (hd:a.eval d=v) (hown:w.ownsRow base elem 1 v n xs)
  (B:Nat) (A:Option Addr) (c:Nat) (ys:List Value) (hs:a.eval s= .slice A n c) (hr:Reads w B 1 A n ys) (h1:∀u∈ys,u.oneCell'=true)
  (h:∀w',w'.ownsRow base elem 1 v n ys->w.grownBy w' v.ownBlock->wpList P ops Q rest (a.put o.dst (goInt n)) w'):
  wpList P ops Q (o::rest) a w:=by
 have hly:ys.length=n:=by have:=hr.1;omega
 have hlx:xs.length=n:=by have:=hown.1;omega
 by_cases h0:n=0
 ·subst h0
  have hy:ys= []:=List.eq_nil_of_length_eq_zero hly
  have hx:xs= []:=List.eq_nil_of_length_eq_zero hlx
  subst hy hx
  have hv:∃dp dc,v= .slice dp 0 dc:=by
   rcases hown.2 with ⟨rfl,_⟩ | ⟨g,cap,cur,rfl,_⟩
   ·exact⟨_,_,rfl⟩
   ·exact⟨_,_,rfl⟩
  obtain⟨dp,dc,rfl⟩:=hv
  exact wpList_copy_nothing hgd d s dT sT ho elem hu hsz dp A 0 dc 0 c hd hs rfl (h w hown (World.grownBy.refl w _))
 ·rcases hown.2 with ⟨_,h0'⟩ | ⟨g,cap,cur,rfl,hb,hgg,hnc,hcm,hcs,htake⟩
  ·exact absurd h0' h0
  ·obtain⟨ad,rfl,_,hc⟩:=hr.2 (by omega)
   refine wpList_copy_own hgd d s dT sT ho elem hu hsz g 0 n cap ad n c hd hs cur elem hgg ys (by rw[hly];simp) hc (by omega) h1 ?_
   rw[hly]
   refine h _ ⟨by omega,.inr ⟨g,cap,_,rfl,hb,setRow_heap w g cur _ elem _ hgg,hnc,hcm,?_,?_⟩⟩ ⟨rfl,rfl,rfl,by simp,fun k _ hk=>setRow_other w g k _ (fun e=>hk (by simp[Value.ownBlock,e]))⟩
   ·simp;omega
   ·simp[←hly]
theorem Reads.lt_addr{w:World}{B size n:Nat}{A:Option Addr}{xs:List Value}(h:Reads w B size A n xs):∀ad,0<n->A=some ad->ad.block<B:=by
 intro ad hn e;obtain⟨ad',e',hb,_⟩:=h.2 hn;rw[e] at e';injection e' with e';subst e';exact hb
theorem Reads.cell_{w:World}{B n k:Nat}{A:Option Addr}{xs:List Value}{u:Value}(h:Reads w B 1 A n xs)(hk:k<n)(hu:xs[k]?=some u):∃ad,A=some ad/\ad.block<B/\w.cell? (ad.add k)=some u:=by
 obtain⟨ad,v,e,hb,hx,hc⟩:=h.at_ hk
 rw[hu] at hx;injection hx with hx;subst hx
 exact⟨ad,e,hb,hc⟩
end Go.Proofs.YtakljpcmbpaeaaaGreat

namespace Go.Proofs.YtakljpcmbpaeaaaGreat
open Go.RowKit
def mkS(l:Bs):ByteArray:=⟨l.toArray⟩
theorem xPD(s:ByteArray):mkS s.data.toList=s:=by cases s;rfl
section
variable {P:Program} (w:World)
end
end Go.Proofs.YtakljpcmbpaeaaaGreat

namespace Go.Proofs.YtakljpcmbpaeaaaGreat
structure Geo where
 nodes:Int
 slots:Int
 blocks:Int
 per:Int
 journal:Int
 log:Int
 lease:Int
 wait:Int
abbrev Geo.v(g:Geo):Value:= .agg #[.int .i64 g.nodes,.int .i64 g.slots,.int .i64 g.blocks,.int .i64 g.per,.int .i64 g.journal,.int .i64 g.log,.int .i64 g.lease,.int .i64 g.wait]
structure Geo.OK (g:Geo):Prop where
 n1:1<=g.nodes
 n2:g.nodes<=16
 s1:1<=g.slots
 s2:g.slots<=g.nodes
 b1:1<=g.blocks
 b2:g.blocks<=64
 p1:1<=g.per
 p2:g.per<=8
 j1:g.per+2<=g.journal
 j2:g.journal<=64
 l1:8*g.slots<=g.log
 l2:g.log<=512
 e1:1<=g.lease
 e2:g.lease<g.wait
 e3:g.wait<=1048576
def Geo.may(g:Geo):Bool:=decide (1<=g.nodes/\g.nodes<=16/\1<=g.slots/\g.slots<=g.nodes/\1<=g.blocks/\g.blocks<=64/\1<=g.per/\g.per<=8/\g.per+2<=g.journal/\g.journal<=64/\8*g.slots<=g.log/\g.log<=512/\1<=g.lease/\g.lease<g.wait/\g.wait<=1048576)
theorem Geo.may_ok{g:Geo}(h:g.may=true):g.OK:=by
 obtain⟨h1,h2,h3,h4,h5,h6,h7,h8,h9,h10,h11,h12,h13,h14,h15⟩:=of_decide_eq_true h
 exact⟨h1,h2,h3,h4,h5,h6,h7,h8,h9,h10,h11,h12,h13,h14,h15⟩
def Geo.atJ(g:Geo):Int:=1+2*g.nodes+g.log
def Geo.atD(g:Geo):Int:=1+2*g.nodes+g.log+g.slots*(1+g.journal)
def Geo.total(g:Geo):Int:=1+2*g.nodes+g.log+g.slots*(1+g.journal)+g.blocks*g.per
theorem xKY{a b:Int}{A B:Int}(h0:0<=a)(h1:a<=A)(h2:0<=b)(h3:b<=B):0<=a*b/\a*b<=A*B:=
 ⟨Int.mul_nonneg h0 h2,Int.mul_le_mul h1 h3 h2 (by omega)⟩
theorem Geo.OK.sj{g:Geo}(h:g.OK):0<=g.slots*(1+g.journal)/\g.slots*(1+g.journal)<=1040:=by
 have:=xKY (a:=g.slots) (b:=1+g.journal) (A:=16) (B:=65) (by have:=h.s1;omega) (by have:=h.s2;have:=h.n2;omega) (by have:=h.j1;have:=h.p1;omega) (by have:=h.j2;omega)
 omega
theorem Geo.OK.bp{g:Geo}(h:g.OK):0<=g.blocks*g.per/\g.blocks*g.per<=512:=by
 have:=xKY (a:=g.blocks) (b:=g.per) (A:=64) (B:=8) (by have:=h.b1;omega) h.b2 (by have:=h.p1;omega) h.p2
 omega
def Geo.leaseS(g:Geo)(i:Int):Int:=if g.may=true/\0<=i/\i<g.nodes then 1+i else -1
def Geo.paxosS(g:Geo)(i:Int):Int:=if g.may=true/\0<=i/\i<g.nodes then 1+g.nodes+i else -1
def Geo.logS(g:Geo)(i:Int):Int:=if g.may=true/\0<=i/\i<g.log then 1+2*g.nodes+i else -1
def Geo.headS(g:Geo)(i:Int):Int:=if g.may=true/\0<=i/\i<g.slots then 1+2*g.nodes+g.log+i*(1+g.journal) else -1
def Geo.dataS(g:Geo)(i k:Int):Int:=if g.may=true/\0<=i/\i<g.blocks/\0<=k/\k<g.per then 1+2*g.nodes+g.log+g.slots*(1+g.journal)+i*g.per+k else -1
def Geo.totalS(g:Geo):Int:=if g.may=true then g.total else 0
end Go.Proofs.YtakljpcmbpaeaaaGreat

namespace Go.Proofs.YtakljpcmbpaeaaaGreat
open Go.RowKit
structure Pr where
 n:Int
 t:ByteArray
def xSj(t:ByteArray)(k:Nat):ByteArray:=mkS ((t.data.toList.drop (256*k)).take 256)
def cellsOf(g:Geo)(x:Pr):List Pr:=(List.range g.per.toNat).map fun(k:Nat)=>⟨g.dataS x.n (k:Int),xSj x.t k⟩
def many(n:Nat):Nat:=if n=0 then 0 else 2*n+1
theorem xNM(n:Int)(w:World):
  Calls Tryz.prog 232 #[.int .i64 n] w fun e w'=>e= .returned (.bool (decide (1<=n/\n<=6)))/\w=w':=by
 by_cases h1:1<=n
 ·by_cases h2:n<=6
  ·go_enter Tryz.func232,Tryz.ntmps232
   go_wp2
   go_ret
   exact⟨by simp[h1,h2],rfl⟩
  ·go_enter Tryz.func232,Tryz.ntmps232
   go_wp2
   go_ret
   exact⟨by simp[h2],rfl⟩
 ·go_enter Tryz.func232,Tryz.ntmps232
  go_wp2
  go_ret
  exact⟨by simp;omega,rfl⟩
theorem xI7(n:Int)(w:World)(h1:1<=n)(h2:n<=6):
  Calls Tryz.prog 232 #[.int .i64 n] w fun e w'=>e= .returned (.bool true)/\w=w':=
 (xNM n w).mono fun _ _ h=>by rw[decide_eq_true (show 1<=n/\n<=6 from⟨h1,h2⟩)] at h;exact h
theorem xQN(n:Int)(w:World)(h:¬(1<=n/\n<=6)):
  Calls Tryz.prog 232 #[.int .i64 n] w fun e w'=>e= .returned (.bool false)/\w=w':=
 (xNM n w).mono fun _ _ h'=>by rw[decide_eq_false h] at h';exact h'
theorem xPH(n:Int)(w:World)(h1:1<=n)(h2:n<=6):
  Calls Tryz.prog 282 #[.int .i64 n] w fun e w'=>e= .returned (.int .i64 (yQR n.toNat))/\w=w':=by
 rcases(show n=1\/n=2\/n=3\/n=4\/n=5\/n=6 by omega) with rfl | rfl | rfl | rfl | rfl | rfl
 all_goals
  clear h1 h2
  go_enter Tryz.func282,Tryz.ntmps282
  go_wp2
  all_goals first
   | exact absurd ‹(1099511627776:Int)<_› (by decide +kernel)
   | exact absurd ‹_<=(1099511627776:Int)› (by decide +kernel)
   | (go_ret;exact⟨congrArg (fun x=>Ending.returned (.int .i64 x)) (by decide +kernel),rfl⟩)
theorem xKI(n wd:Int)(w:World):
  Calls Tryz.prog 233 #[.int .i64 n,.int .i64 wd] w fun e w'=>e= .returned (.bool (yHP n wd))/\w=w':=by
 by_cases h:1<=wd/\wd<=6
 ·by_cases h0:0<=n
  ·have hf:yHP n wd=decide (n<=(yQR wd.toNat:Int)):=by simp[yHP,h.1,h.2,h0]
   rw[hf]
   clear hf
   have hm:=xPH wd w h.1 h.2
   generalize yQR wd.toNat=q at*
   have HM:=Lib.hid hm;clear hm
   go_enter Tryz.func233,Tryz.ntmps233
   go_wp2_with (first
    | (go_at_call 232;refine(xI7 _ _ h.1 h.2).mono ?_;rintro e w' ⟨rfl,rfl⟩)
    | (go_at_call 282;refine(HM.out).mono ?_;rintro e w' ⟨rfl,rfl⟩))
   all_goals go_ret
   all_goals exact⟨rfl,rfl⟩
  ·have hf:yHP n wd=false:=by simp[yHP,h0]
   rw[hf]
   clear hf
   go_enter Tryz.func233,Tryz.ntmps233
   go_wp2_with (first
    | (go_at_call 232;refine(xI7 _ _ h.1 h.2).mono ?_;rintro e w' ⟨rfl,rfl⟩))
   go_ret
   exact⟨rfl,rfl⟩
 ·have hf:yHP n wd=false:=decide_eq_false (by omega)
  rw[hf]
  clear hf
  go_enter Tryz.func233,Tryz.ntmps233
  go_wp2_with (first
   | (go_at_call 232;refine(xQN _ _ h).mono ?_;rintro e w' ⟨rfl,rfl⟩))
  go_ret
  exact⟨rfl,rfl⟩
def yI2(n:Nat)(l:List Int):Bs:=l.flatMap fun x=>leBytes n x.toNat
def xKb(b:Bs)(wd:Int)(l:List Int):Option Bs:=if(1<=wd/\wd<=6)/\l.all (yHP · wd)=true then some (b++yI2 wd.toNat l) else none
def xDm(w:World):Option Bs->Ending->World->Prop
 | some x,e,w'=>∃v,e= .returned (.tuple #[v,.int .i64 0])/\w'.ownsRow w.heap.size 5 1 v x.length (yGL x)/\Below w.heap.size w w'
 | none,e,w'=>e= .returned (.tuple #[.slice none 0 0,.int .i64 2])/\Below w.heap.size w w'
theorem yWc(n:Nat)(l:List Int):(yI2 n l).length=n*l.length:=by
 induction l with
 | nil=>rfl
 | cons x l ih=>simp only[yI2,List.flatMap_cons,List.length_append,yAI] at ih ⊢;rw[ih,List.length_cons,Nat.mul_succ,Nat.add_comm]
theorem xA5(n:Nat)(l:List Int)(x:Int):yI2 n (l++ [x])=yI2 n l++leBytes n x.toNat:=by simp[yI2]
theorem xRo:(Tryz.prog.info? 5).map (fun i=>(i.zero,i.size,i.bytes))=some (some (.int .u8 0),1,1):=by kernel_rfl
theorem xKc{b:Bs}{wd:Int}{l:List Int}{i:Nat}(hi:i<l.length)(hf:yHP l[i] wd=false):xKb b wd l=none:=by
 rw[xKb,if_neg]
 rintro⟨_,h⟩
 rw[List.all_eq_true] at h
 have:=h l[i] (List.getElem_mem hi)
 rw[hf] at this
 cases this
theorem yXk{b:Bs}{wd:Nat}{l:List Int}(h1:1<=wd)(h2:wd<=6)(hf:∀j (h:j<l.length),yHP l[j] wd=true):xKb b wd l=some (b++yI2 wd l):=by
 rw[xKb,if_pos,Int.toNat_natCast]
 refine⟨by omega,?_⟩
 rw[List.all_eq_true]
 intro x hx
 obtain⟨j,hj,rfl⟩:=List.getElem_of_mem hx
 exact hf j hj
theorem xQt(x t:Nat)(hx:x<=1099511627776):bits .and .i64 ((x:Int)/2^(8*t)) 255%256=((x/256^t%256:Nat):Int):=by
 have e:(2:Nat)^(8*t)=256^t:=by rw[Nat.pow_mul]
 have e1:((x:Int)/2^(8*t))=((x/256^t:Nat):Int):=by rw[←e];simp
 have h1:x/256^t<=x:=Nat.div_le_self _ _
 rw[e1,show(255:Int)=((255:Nat):Int) from rfl,yVO _ _ (by omega) (by omega),nat_mask8]
 omega
set_option maxHeartbeats 1000000 in
set_option maxRecDepth 100000 in
theorem xR5(Ab Al:Option Addr)(cb cl n:Nat)(b:Bs)(l:List Int)(w:World)(hn1:1<=n)(hn6:n<=6)(hbd:b.length+6*l.length<=1000000000)
  (hb:Reads w w.heap.size 1 Ab b.length (yGL b)) (hl:Reads w w.heap.size 1 Al l.length (yYY l)):
  Calls Tryz.prog 177 #[.slice Ab b.length cb,.int .i64 n,.slice Al l.length cl] w fun e w'=>xDm w (xKb b n l) e w':=by
 obtain⟨i0,hi0,hz0,hz1,hz2⟩:=info_parts xRo
 have hmul:n*l.length<=6*l.length:=Nat.mul_le_mul_right _ hn6
 obtain⟨q,hq⟩:∃q,q=n*l.length:=⟨_,rfl⟩
 have HQ:=Lib.hid hq
 have hq2:q<=6*l.length:=by omega
 have hm:(n:Int)*(l.length:Int)=(q:Int):=by rw[hq];simp
 clear hmul hq
 go_enter Tryz.func177,Tryz.ntmps177
 go_wp2_with (first
  | (go_at_call 232;refine(xI7 _ _ (by omega) (by omega)).mono ?_;rintro e w' ⟨rfl,rfl⟩)
  | (at_make;refine xB0 _ rfl _ _ _ rfl w.heap.size 5 i0 (.int .u8 0) Tryz.underlying168 hi0 hz0 hz1 rfl _ _ _ _ b.length (b.length+q) rfl rfl rfl (by omega) (by omega) (by rw[hz2];omega) (by unfold maxLen;omega) (Nat.le_refl _) ?_;intro w1 hown1 hg1)
  | ((with_reducible show wpList _ _ _ _ _ _);refine xBz (o:=⟨some 27,_,_,_,_,_⟩) rfl (.tmp 25) (.tmp 26) _ _ rfl _ Tryz.underlying168 (by rw[hi0];simp[hz1]) w.heap.size (.slice (some ⟨w.heap.size,0,none⟩) b.length (b.length+q)) b.length _ (by rfl) hown1 w.heap.size Ab cb (yGL b) (by rfl) (hb.below (xDD (Below.refl _ _) hg1 (Nat.le_refl _))) (xK2 b) ?_;intro w2 hown2 hg2))
 have hB1:Below w.heap.size w w1:=xDD (Below.refl _ _) hg1 (Nat.le_refl _)
 have hB2:Below w.heap.size w w2:=xGA hB1 hown1 hg2 hB1.size
 clear hown1 hg1 hg2 hB1
 generalize Value.slice (some ⟨w.heap.size,0,none⟩) b.length (b.length+q)=v0 at*
 go_loopg [8,30] l.length (fun k v i wr=>∃j:Nat,j<=l.length/\k=l.length-j/\i= .int .i64 j/\wr.ownsRow w.heap.size 5 1 v (b++yI2 n (l.take j)).length (yGL (b++yI2 n (l.take j)))/\Below w.heap.size w wr/\∀t (h:t<l.length),t<j->yHP l[t] n=true)
 case atStart=>exact⟨0,Nat.zero_le _,by simp,rfl,by simpa[yI2] using hown2,hB2,fun t _ h=>absurd h (by omega)⟩
 case round=>
  obtain⟨j,hj,rfl,rfl,hown,hB,hfit⟩:=hrel
  have HF:=Lib.hid hfit;clear hfit
  by_cases hlt:j<l.length
  ·obtain⟨ad,rfl,had,hc⟩:=(hl.below hB).cell_ hlt (xLU l j hlt)
   by_cases hf:yHP l[j] n=true
   ·obtain⟨x,hx⟩:∃x:Nat,l[j]=(x:Int):=⟨l[j].toNat,by have:=of_decide_eq_true hf;omega⟩
    rw[hx] at hc hf
    have hx2:=xAh hf
    have HFx:=Lib.hid hf
    have HX:=Lib.hid hx;clear hx
    generalize hpre:b++yI2 n (l.take j)=pre at*
    have HP:=Lib.hid hpre;clear hpre
    go_wp2_with (first
     | (go_at_call 233;refine(xKI _ _ _).mono ?_;rintro e w' ⟨rfl,rfl⟩))
    have hpl:pre.length+6<=2000000000:=by
     have h1:=HP.out;have h2:=congrArg List.length h1
     rw[List.length_append,yWc,List.length_take] at h2
     have h3:n*min j l.length<=6*l.length:=Nat.mul_le_mul hn6 (by omega)
     omega
    go_loopg [8,39] n (fun k v i wr=>∃t:Nat,t<=n/\k=n-t/\i= .int .i64 t/\wr.ownsRow w.heap.size 5 1 v (pre++leBytes t x).length (yGL (pre++leBytes t x))/\Below w.heap.size w wr)
    case atStart=>exact⟨0,Nat.zero_le _,by simp,rfl,by simpa[leBytes] using hown,hB⟩
    case round=>
     clear hown hc hB hf hl hb hown2 hB2
     rename_i wo
     obtain⟨t,ht,rfl,rfl,hown,hB⟩:=hrel
     by_cases htn:t<n
     ·have hlen:(pre++leBytes t x).length=pre.length+t:=by simp[yAI]
      have HL:=Lib.hid hlen;clear hlen
      go_wp2_with (first
       | (at_builtin;refine wpList_append_own _ rfl (.tmp 42) (.tmp 49) 168 rfl w.heap.size 5 i0 (.int .u8 0) 1 1 Tryz.underlying168 hi0 hz0 hz1 hz2 rfl (by decide) u8 _ _ (by rfl) (hown.alloc _) ⟨wr.heap.size,0,none⟩ 1 1 _ rfl rfl (cell_one_new _ _ _) (by intro u hu;simp at hu;subst hu;rfl) (by rw[HL.out];unfold maxLen;omega) (by rw[HL.out];omega) (by have:=hB.size;simp;omega) ?_;intro v1 w1 hown1 hg1 _))
      have hown2:w1.ownsRow w.heap.size 5 1 v1 (pre++leBytes (t+1) x).length (yGL (pre++leBytes (t+1) x)):=by
       rw[yYb,←List.append_assoc,xDv,List.length_append]
       rw[xQt x t hx2.2.1] at hown1;simpa[yGL] using hown1
      have hB2:Below w.heap.size w w1:=xGA (hB.alloc hB.size _) (hown.alloc _) hg1 (by have:=hB.size;simp;omega)
      clear hown1 hg1 hown
      go_roundg (n-(t+1))
      case rel=>exact⟨t+1,by omega,rfl,by go_num,hown2,hB2⟩
      case measure=>omega
     ·obtain rfl:t=n:=by omega
      go_wp2
      go_roundg (l.length-(j+1))
      case rel=>
       refine⟨j+1,by omega,rfl,by go_num,?_,hB,fun i hi hij=>?_⟩
       ·have e:b++yI2 t (l.take (j+1))=pre++leBytes t x:=by
          rw[List.take_succ_eq_append_getElem hlt,xA5,HX.out,Int.toNat_natCast,←List.append_assoc,HP.out]
        rw[e];exact hown
       ·rcases Nat.lt_or_ge i j with h | h
        ·exact HF.out i hi h
        ·obtain rfl:i=j:=by omega
         rw[HX.out];exact HFx.out
      case measure=>omega
   ·have hf':yHP l[j] n=false:=by simpa using hf
    have hps:=xKc (b:=b) hlt hf'
    have HPS:=Lib.hid hps;clear hps
    go_wp2_with (first
     | (go_at_call 233;refine(xKI _ _ _).mono ?_;rintro e w' ⟨rfl,rfl⟩))
    go_ret2
    show xDm w (xKb b n l) _ _
    rw[HPS.out]
    exact⟨rfl,hB⟩
  ·obtain rfl:j=l.length:=by omega
   have hps:=yXk (b:=b) hn1 hn6 (fun t ht=>HF.out t ht ht)
   rw[List.take_length] at hown
   have HPS:=Lib.hid hps;clear hps
   go_wp2
   go_ret2
   show xDm w (xKb b n l) _ _
   rw[HPS.out]
   exact⟨_,rfl,hown,hB⟩
theorem xQk(Ab Al:Option Addr)(cb cl:Nat)(n:Int)(b:Bs)(l:List Int)(w:World)(hbd:b.length+6*l.length<=1000000000)
  (hb:Reads w w.heap.size 1 Ab b.length (yGL b)) (hl:Reads w w.heap.size 1 Al l.length (yYY l)):
  Calls Tryz.prog 177 #[.slice Ab b.length cb,.int .i64 n,.slice Al l.length cl] w fun e w'=>xDm w (xKb b n l) e w':=by
 by_cases hn:1<=n/\n<=6
 ·obtain⟨n',rfl⟩:=Int.eq_ofNat_of_zero_le (show 0<=n by omega)
  exact xR5 Ab Al cb cl n' b l w (by omega) (by omega) hbd hb hl
 ·have hps:xKb b n l=none:=by rw[xKb,if_neg (fun h=>hn h.1)]
  rw[hps]
  clear hb hl
  go_enter Tryz.func177,Tryz.ntmps177
  go_wp2_with (go_at_call 232;refine(xQN _ _ hn).mono ?_;rintro e w' ⟨rfl,rfl⟩)
  go_ret2
  exact⟨rfl,Below.refl _ _⟩
def step(x:Nat):Nat:=if x%2=1 then x/2 ^^^ 2197175160 else x/2
def steps:Nat->Nat->Nat
 | 0,x=>x
 | n+1,x=>step (steps n x)
def yXV(x:Nat)(c:UInt8):Nat:=steps 8 (x ^^^ c.toNat)
def yOH(x:Nat)(l:Bs):Nat:=l.foldl yXV x
def yKu(l:Bs):Nat:=yOH 4294967295 l ^^^ 4294967295
theorem xP3(a b:Nat):(a ^^^ b)/2=a/2 ^^^ b/2:=by
 have:=Nat.shiftRight_xor_distrib (a:=a) (b:=b) (i:=1)
 simpa[Nat.shiftRight_eq_div_pow] using this
theorem xP5(a b:Nat):(a ^^^ b)%2=(a%2+b%2)%2:=by
 have h:=Nat.xor_mod_two_pow (a:=a) (b:=b) (n:=1)
 rw[Nat.pow_one] at h
 rw[h]
 rcases Nat.mod_two_eq_zero_or_one a with h1 | h1 <;> rcases Nat.mod_two_eq_zero_or_one b with h2 | h2 <;> rw[h1,h2] <;> rfl
theorem xPj(a b:Nat):step (a ^^^ b)=step a ^^^ step b:=by
 unfold step
 rw[xP5,xP3]
 rcases Nat.mod_two_eq_zero_or_one a with h1 | h1 <;> rcases Nat.mod_two_eq_zero_or_one b with h2 | h2 <;> simp[h1,h2]
 ·rw[←Nat.xor_assoc]
 ·rw[Nat.xor_assoc,Nat.xor_assoc,Nat.xor_comm (b/2)]
 ·rw[show a/2 ^^^ 2197175160 ^^^ (b/2 ^^^ 2197175160)=a/2 ^^^ b/2 ^^^ (2197175160 ^^^ 2197175160) by ac_rfl];simp
theorem xOJ(n a b:Nat):steps n (a ^^^ b)=steps n a ^^^ steps n b:=by
 induction n with
 | zero=>rfl
 | succ n ih=>simp only[steps,ih,xPj]
theorem xOI(m n x:Nat):steps (m+n) x=steps m (steps n x):=by
 induction m with
 | zero=>simp[steps]
 | succ m ih=>rw[Nat.succ_add];simp only[steps,ih]
theorem xRm{x:Nat}(h:x<4294967296):step x<4294967296:=by
 unfold step
 split
 ·have:=Nat.xor_lt_two_pow (x:=x/2) (y:=2197175160) (n:=32) (by omega) (by omega)
  omega
 ·omega
theorem yXE{x:Nat}(n:Nat)(h:x<4294967296):steps n x<4294967296:=by
 induction n with
 | zero=>exact h
 | succ n ih=>exact xRm ih
theorem xOH(x:Nat):step (2*x)=x:=by
 unfold step;rw[if_neg (by omega)];omega
theorem xJ7(n x:Nat):steps n (2^n*x)=x:=by
 induction n generalizing x with
 | zero=>simp[steps]
 | succ n ih=>
   rw[Nat.pow_succ,Nat.mul_assoc,steps,ih,xOH]
theorem xP4(i a y:Nat)(hy:y<2^i):2^i*a ^^^ y=2^i*a+y:=by
 apply Nat.eq_of_testBit_eq
 intro j
 rw[Nat.testBit_xor,Nat.testBit_two_pow_mul_add _ hy,Nat.testBit_two_pow_mul]
 by_cases h:j<i
 ·have h':¬i<=j:=by omega
  simp[h,h']
 ·have hb:y.testBit j=false:=Nat.testBit_lt_two_pow (Nat.lt_of_lt_of_le hy (Nat.pow_le_pow_right (by omega) (by omega)))
  simp[h,hb]
  omega
theorem xIJ(x:Nat):x=16*(x/16) ^^^ x%16:=by
 have h:=xP4 4 (x/16) (x%16) (by omega)
 rw[show(2:Nat)^4=16 from rfl] at h
 omega
theorem xNR(x:Nat):steps 4 x=x/16 ^^^ steps 4 (x%16):=by
 conv=>lhs;rw[xIJ x,xOJ,show 16*(x/16)=2^4*(x/16) from rfl,xJ7]
theorem xGF(x:Nat):steps 8 x=(x/16 ^^^ steps 4 (x%16))/16 ^^^ steps 4 ((x/16 ^^^ steps 4 (x%16))%16):=by
 rw[←xNR x,←xNR,show 8=4+4 from rfl,xOI]
theorem xK9{x:Nat}(h:x<4294967296)(c:UInt8):yXV x c<4294967296:=by
 have h1:=c.toNat_lt
 have:=Nat.xor_lt_two_pow (x:=x) (y:=c.toNat) (n:=32) (by omega) (by omega)
 exact yXE 8 (by omega)
theorem yTJ{x:Nat}(h:x<4294967296)(l:Bs):yOH x l<4294967296:=by
 induction l generalizing x with
 | nil=>exact h
 | cons c l ih=>exact ih (xK9 h c)
theorem xAW(x:Nat)(l:Bs)(c:UInt8):yOH x (l++ [c])=yXV (yOH x l) c:=by simp[yOH]
theorem xAX(l:Bs):yKu l<4294967296:=by
 have h1:=yTJ (x:=4294967295) (by omega) l
 have:=Nat.xor_lt_two_pow (x:=yOH 4294967295 l) (y:=4294967295) (n:=32) (by omega) (by omega)
 unfold yKu;omega
theorem xPr(x:Nat)(h:x<4294967296):
  bits .xor .u32 ((x:Int)/2) (bits .and .u32 2197175160 (IntKind.u32.wrap (-(bits .and .u32 (x:Int) 1))))=((step x:Nat):Int):=by
 have e1:bits .and .u32 (x:Int) 1=((x%2:Nat):Int):=by
  have:=u32_and_nat x 1 h (by omega)
  rw[nat_mask1] at this
  exact this
 rw[e1,show((x:Int)/2)=((x/2:Nat):Int) by simp]
 unfold step
 rcases Nat.mod_two_eq_zero_or_one x with h1 | h1
 ·rw[h1,if_neg (by omega)]
  have e2:bits .and .u32 2197175160 (IntKind.u32.wrap (-((0:Nat):Int)))=((0:Nat):Int):=by decide +kernel
  rw[e2,u32_xor_nat _ _ (by omega) (by omega)]
  simp
 ·rw[h1,if_pos rfl]
  have e2:bits .and .u32 2197175160 (IntKind.u32.wrap (-((1:Nat):Int)))=((2197175160:Nat):Int):=by decide +kernel
  rw[e2,u32_xor_nat _ _ (by omega) (by omega)]
end Go.Proofs.YtakljpcmbpaeaaaGreat

namespace Go.Proofs.YtakljpcmbpaeaaaGreat
set_option maxHeartbeats 1000000
set_option maxRecDepth 100000
open Go.RowKit
def xCJ:List Value:=(List.range 16).map fun i=> .int .u32 ((steps 4 i:Nat):Int)
def yZu(j:Nat):List Value:=(List.range 16).map fun i=> .int .u32 (((if i<j then steps 4 i else 0):Nat):Int)
theorem xOK(j:Nat)(hj:j<16):(yZu j).set j (.int .u32 ((steps 4 j:Nat):Int))=yZu (j+1):=by
 apply List.ext_getElem?
 intro i
 rw[List.getElem?_set]
 by_cases hi:i<16
 ·by_cases hij:j=i
  ·subst hij;simp[yZu,hi]
  ·simp only[yZu,hij,if_false,List.getElem?_map,List.getElem?_range hi,Option.map_some]
   by_cases h:i<j
   ·simp[h,Nat.lt_succ_of_lt h]
   ·have:¬i<j+1:=by omega
    simp[h,this]
 ·have h2:¬j=i:=by omega
  simp[yZu,hi,h2]
theorem xPk:yZu 16=xCJ:=by
 unfold yZu xCJ
 apply List.map_congr_left
 intro i hi
 simp at hi
 simp[hi]
theorem xMY(w:World):
  Calls Tryz.prog 321 #[.int .i64 0] w fun e w'=>e= .returned (.pointer (some ⟨w.heap.size,0,none⟩))/\Blk w' w.heap.size 384 (.int .u32 4294967295::xCJ).toArray/\Below w.heap.size w w':=by
 go_enter Tryz.func321,Tryz.ntmps321
 go_wp2
 have hst:Blk (w.alloc (Obj.cells
  #[Value.int IntKind.u32 (bits BinOp.xor IntKind.u32 IntKind.u32.max 0),Value.int IntKind.u32 0,
   Value.int IntKind.u32 0,Value.int IntKind.u32 0,Value.int IntKind.u32 0,Value.int IntKind.u32 0,
   Value.int IntKind.u32 0,Value.int IntKind.u32 0,Value.int IntKind.u32 0,Value.int IntKind.u32 0,
   Value.int IntKind.u32 0,Value.int IntKind.u32 0,Value.int IntKind.u32 0,Value.int IntKind.u32 0,
   Value.int IntKind.u32 0,Value.int IntKind.u32 0,Value.int IntKind.u32 0] 384)) w.heap.size 384 (.int .u32 4294967295::yZu 0).toArray:=Blk.new w _ _
 have HST:=Lib.hid hst;clear hst
 go_loopg [12] 16 (fun k i wr=>∃j:Nat,j<=16/\k=16-j/\i= .int .i64 j/\Blk wr w.heap.size 384 (.int .u32 4294967295::yZu j).toArray/\Below w.heap.size w wr)
 case atStart=>exact⟨0,by omega,rfl,rfl,HST.out,(Below.refl _ _).alloc (Nat.le_refl _) _⟩
 case round=>
  clear HST
  obtain⟨j,hj,rfl,rfl,hblk,hB⟩:=hrel
  by_cases hlt:j<16
  ·have hcw:IntKind.u32.wrap (j:Int)=j:=by rw[IntKind.wrap_u32'];omega
   go_wp2
   go_loopg [5,17] 4 (fun k x i wr'=>∃t:Nat,t<=4/\k=4-t/\i= .int .i64 t/\x= .int .u32 ((steps t j:Nat):Int)/\wr'=wr)
   case atStart=>exact⟨0,by omega,rfl,rfl,by simp[steps],rfl⟩
   case round=>
    rename_i wo
    obtain⟨t,ht,rfl,rfl,rfl,rfl⟩:=hrel
    have hxl:steps t j<4294967296:=yXE t (by omega)
    by_cases htn:t<4
    ·have hs:=xPr (steps t j) hxl
     have HS:=Lib.hid hs;clear hs
     go_wp2
     go_roundg (4-(t+1))
     case rel=>exact⟨t+1,by omega,rfl,by go_num,congrArg (Value.int .u32) HS.out,rfl⟩
     case measure=>omega
    ·obtain rfl:t=4:=by omega
     have hc:=hblk.cell (1+j)
     have hf:=hblk.frozen (1+j)
     have hc2:wr.cell? ⟨w.heap.size,1+j,none⟩=some (.int .u32 0):=by rw[hc,Nat.add_comm];simp[yZu,hlt]
     clear hc
     have hB':=(hB.setCell (p:=⟨w.heap.size,1+j,none⟩) (Nat.le_refl _) (.int .u32 ((steps 4 j:Nat):Int)))
     have hblk':=hblk.set_ (1+j) (.int .u32 ((steps 4 j:Nat):Int))
     rw[show((.int .u32 4294967295::yZu j).toArray:Array Value).setIfInBounds (1+j) (.int .u32 ((steps 4 j:Nat):Int))=(.int .u32 4294967295::yZu (j+1)).toArray by rw[←xOK j hlt,Nat.add_comm];simp] at hblk'
     have HB':=Lib.hid hB';clear hB' hB
     have HK':=Lib.hid hblk';clear hblk' hblk
     go_wp2
     go_roundg (16-(j+1))
     case rel=>exact⟨j+1,by omega,rfl,by go_num,HK'.out,HB'.out⟩
     case measure=>omega
  ·obtain rfl:j=16:=by omega
   rw[xPk] at hblk
   go_wp2
   go_ret
   exact⟨rfl,hblk,hB⟩
theorem xGY(x:Nat):xCJ[x%16]?=some (.int .u32 ((steps 4 (x%16):Nat):Int)):=by
 have:x%16<16:=by omega
 simp[xCJ,this]
theorem xPq(x:Nat):((x:Int)/16)=((x/16:Nat):Int):=by simp
theorem xKv(x:Nat)(h:x<4294967296):bits .and .u32 (x:Int) 15=((x%16:Nat):Int):=by
 have:=u32_and_nat x 15 h (by omega)
 rw[nat_mask4] at this
 exact this
def half(x:Nat):Nat:=x/16 ^^^ steps 4 (x%16)
theorem xRB{x:Nat}(h:x<4294967296):half x<4294967296:=by
 unfold half;rw[←xNR];exact yXE 4 h
theorem xM4(x:Nat)(c:UInt8):half (half (x ^^^ c.toNat))=yXV x c:=by
 unfold yXV half;rw[xGF]
theorem xKu(x:Nat)(h:x<4294967296):bits .xor .u32 ((x:Int)/16) ((steps 4 (x%16):Nat):Int)=((half x:Nat):Int):=by
 have:=yXE (x:=x%16) 4 (by omega)
 rw[xPq,u32_xor_nat _ _ (by omega) this];rfl
theorem xOx(g x:Nat)(A:Option Addr)(c:Nat)(l:Bs)(w:World)(hx:x<4294967296)(hbd:l.length<=1000000000)
  (hblk:Blk w g 384 (.int .u32 x::xCJ).toArray) (hr:Reads w w.heap.size 1 A l.length (yGL l)) (hne:∀ad,0<l.length->A=some ad->ad.block≠g):
  Calls Tryz.prog 322 #[.pointer (some ⟨g,0,none⟩),.slice A l.length c] w fun e w'=>e= .returned (.pointer (some ⟨g,0,none⟩))/\Blk w' g 384 (.int .u32 (yOH x l)::xCJ).toArray/\w.grownBy w' (some g):=by
 go_enter Tryz.func322,Tryz.ntmps322
 go_wp2
 go_loopg [9] l.length (fun k i wr=>∃j:Nat,j<=l.length/\k=l.length-j/\i= .int .i64 j/\Blk wr g 384 (.int .u32 (yOH x (l.take j))::xCJ).toArray/\w.grownBy wr (some g))
 case atStart=>exact⟨0,by omega,rfl,rfl,hblk,World.grownBy.refl _ _⟩
 case round=>
  obtain⟨j,hj,rfl,rfl,hblk',hG⟩:=hrel
  have HN:=Lib.hid hne;clear hne
  by_cases hlt:j<l.length
  ·obtain⟨ad,rfl,had,hc⟩:=hr.cell_ hlt (xK1 l j hlt)
   have hc':wr.cell? (ad.add j)=some (.int .u8 (l[j].toNat:Int)):=hG.cell hc (by rw[yTA];intro e;injection e with e;exact HN.out ad (by omega) rfl e)
   have hxl:yOH x (l.take j)<4294967296:=yTJ hx _
   have hsn:yOH x (l.take (j+1))=yXV (yOH x (l.take j)) l[j]:=by rw[List.take_succ_eq_append_getElem hlt,xAW]
   rw[←xM4] at hsn
   have HS:=Lib.hid hsn;clear hsn hc hr hblk
   generalize yOH x (l.take j)=y at*
   have hcl:=l[j].toNat_lt
   generalize l[j].toNat=z at*
   have hxx:=u32_xor_nat y z hxl (by omega)
   have h1:=hblk'.cell 0
   have h2:=hblk'.frozen 0
   have h1':wr.cell? ⟨g,0,none⟩=some (.int .u32 y):=by rw[h1];rfl
   clear h1
   have hzw:IntKind.u32.wrap (z:Int)=z:=by rw[IntKind.wrap_u32'];omega
   have hb1:=hblk'.set_ 0 (.int .u32 ((y ^^^ z:Nat):Int))
   have hG1:=yTY hG (p:=⟨g,0,none⟩) (.inl rfl) (.int .u32 ((y ^^^ z:Nat):Int))
   have HB1:=Lib.hid hb1;clear hb1 hblk'
   have HG1:=Lib.hid hG1;clear hG1 hG
   go_wp2
   have hpl:y ^^^ z<4294967296:=Nat.xor_lt_two_pow (n:=32) (by omega) (by omega)
   clear h1' h2 hxx hzw hc' hcl hxl
   have hb1:Blk (wr.setCell ⟨g,0,none⟩ (.int .u32 ((y ^^^ z:Nat):Int))) g 384 (.int .u32 ((y ^^^ z:Nat):Int)::xCJ).toArray:=HB1.out
   have hg1:=HG1.out
   clear HB1 HG1
   generalize wr.setCell ⟨g,0,none⟩ (.int .u32 ((y ^^^ z:Nat):Int))=W1 at*
   generalize y ^^^ z=p at*
   have a1:W1.cell? ⟨g,0,none⟩=some (.int .u32 p):=by rw[hb1.cell 0];rfl
   have a2:W1.cell? ⟨g,1+p%16,none⟩=some (.int .u32 ((steps 4 (p%16):Nat):Int)):=by rw[hb1.cell,Nat.add_comm];simpa using xGY p
   have a3:=hb1.frozen 0
   have a4:=xKv p hpl
   have a5:=xKu p hpl
   have HB1:=Lib.hid hb1;clear hb1
   have HG1:=Lib.hid hg1;clear hg1
   have hr16:p%16<16:=by omega
   generalize p%16=r at*
   have b1:(0:Int)<=(r:Int):=by omega
   have b2:(r:Int)<16:=by omega
   go_still_tail 22,(by kernel_rfl)
   change wpList _ _ _ _ _ W1.drew
   go_wp2
   have hpl2:=xRB hpl
   have hb2:=(HB1.out.set_ 0 (.int .u32 ((half p:Nat):Int))).drew
   have hg2:=xGu (yTY HG1.out (p:=⟨g,0,none⟩) (.inl rfl) (.int .u32 ((half p:Nat):Int)))
   clear a1 a2 a3 a4 a5 b1 b2 HB1 HG1 hr16 hpl
   generalize (W1.setCell ⟨g,0,none⟩ (.int .u32 ((half p:Nat):Int))).drew=W2 at*
   generalize half p=p2 at*
   replace hb2:Blk W2 g 384 (.int .u32 (p2:Int)::xCJ).toArray:=hb2
   have a1:W2.cell? ⟨g,0,none⟩=some (.int .u32 p2):=by rw[hb2.cell 0];rfl
   have a2:W2.cell? ⟨g,1+p2%16,none⟩=some (.int .u32 ((steps 4 (p2%16):Nat):Int)):=by rw[hb2.cell,Nat.add_comm];simpa using xGY p2
   have a3:=hb2.frozen 0
   have a4:=xKv p2 hpl2
   have a5:=xKu p2 hpl2
   have HB2:=Lib.hid hb2;clear hb2
   have HG2:=Lib.hid hg2;clear hg2
   have hr16:p2%16<16:=by omega
   generalize p2%16=r at*
   have b1:(0:Int)<=(r:Int):=by omega
   have b2:(r:Int)<16:=by omega
   go_still_tail 22,(by kernel_rfl)
   change wpList _ _ _ _ _ W2.drew
   go_wp2
   have hb3:=(HB2.out.set_ 0 (.int .u32 ((half p2:Nat):Int))).drew
   have hg3:=xGu (yTY HG2.out (p:=⟨g,0,none⟩) (.inl rfl) (.int .u32 ((half p2:Nat):Int)))
   go_roundg (l.length-(j+1))
   case rel=>exact⟨j+1,by omega,rfl,by go_num,by rw[HS.out];exact hb3,hg3⟩
   case measure=>omega
  ·obtain rfl:j=l.length:=by omega
   rw[List.take_length] at hblk'
   go_wp2
   go_ret
   exact⟨rfl,hblk',hG⟩
theorem xMC(g x:Nat)(w:World)(hx:x<4294967296)(cs:List Value)(hblk:Blk w g 384 (.int .u32 x::cs).toArray):
  Calls Tryz.prog 323 #[.pointer (some ⟨g,0,none⟩)] w fun e w'=>e= .returned (.int .i64 ((x ^^^ 4294967295:Nat):Int))/\w=w':=by
 have a1:w.cell? ⟨g,0,none⟩=some (.int .u32 x):=by rw[hblk.cell 0];rfl
 have a2:bits .xor .u32 4294967295 (x:Int)=((x ^^^ 4294967295:Nat):Int):=by
  have:=u32_xor_nat 4294967295 x (by omega) hx
  rw[Nat.xor_comm] at this;exact this
 have a4:x ^^^ 4294967295<4294967296:=Nat.xor_lt_two_pow (n:=32) (by omega) (by omega)
 have a3:bits .xor .u32 IntKind.u32.max (x:Int)=((x ^^^ 4294967295:Nat):Int):=a2
 clear hblk
 generalize x ^^^ 4294967295=y at*
 go_enter Tryz.func323,Tryz.ntmps323
 go_wp2
 go_ret
 exact⟨congrArg (fun z=>Ending.returned (.int .i64 z)) (by unfold wrap64;omega),rfl⟩
theorem xQj(A:Option Addr)(c:Nat)(l:Bs)(w:World)(hbd:l.length<=1000000000)(hr:Reads w w.heap.size 1 A l.length (yGL l)):
  Calls Tryz.prog 285 #[.int .i64 0,.slice A l.length c] w fun e w'=>e= .returned (.int .i64 (yKu l))/\Below w.heap.size w w':=by
 have HR:=Lib.hid hr;clear hr
 go_enter Tryz.func285,Tryz.ntmps285
 go_wp2_with fail
 refine(xMY w).mono ?_
 rintro e w1 ⟨rfl,hblk,hB⟩
 go_wp2_with fail
 refine(xOx _ 4294967295 A c l w1 (by omega) hbd hblk ((HR.out.below hB).more hB.size) (fun ad h0 h=>by have:=HR.out.lt_addr ad h0 h;omega)).mono ?_
 rintro e w2 ⟨rfl,hblk2,hG⟩
 have hlt:=yTJ (x:=4294967295) (by omega) l
 have HB2:=Lib.hid hblk2;clear hblk2
 go_wp2_with fail
 refine(xMC _ _ w2 hlt _ HB2.out).mono ?_
 rintro e w3 ⟨rfl,rfl⟩
 go_wp2_with fail
 go_ret
 exact⟨rfl,hB.grown hG hB.size (fun k hk=>by injection hk with hk;omega)⟩
theorem xQl(A:Option Addr)(c:Nat)(l:Bs)(w:World)(hbd:l.length<=1000000000)(hr:Reads w w.heap.size 1 A l.length (yGL l)):
  Calls Tryz.prog 240 #[.slice A l.length c] w fun e w'=>e= .returned (.int .i64 (yKu l))/\Below w.heap.size w w':=by
 go_enter Tryz.func240,Tryz.ntmps240
 go_wp2_with fail
 refine(xQj A c l w hbd hr).mono ?_
 rintro e w1 ⟨rfl,hB⟩
 go_wp2_with fail
 go_ret
 exact⟨rfl,hB⟩
end Go.Proofs.YtakljpcmbpaeaaaGreat

namespace Go.Proofs.YtakljpcmbpaeaaaGreat
open Go.RowKit
theorem xM3(A:Option Addr)(w:World):Calls Tryz.prog 373 #[.slice A 0 0,.int .i64 0] w fun e w'=>e= .returned (.slice A 0 0)/\w'=w:=by
 go_enter Tryz.func373,Tryz.ntmps373
 go_wp2
 all_goals (go_ret;exact⟨rfl,rfl⟩)
set_option maxRecDepth 100000 in
set_option maxHeartbeats 4000000 in
theorem xM2(A:Option Addr)(n:Nat)(h0:0<n)(hn:n<=1000000)(w:World):Calls Tryz.prog 373 #[.slice A 0 0,.int .i64 (n:Int)] w fun e w'=>
  e= .returned (.slice (some ⟨w.heap.size,0,none⟩) 0 (grownCap w n 0 244))/\
   ∃z,z.size=4/\w'=w.drew.alloc (.cells (Builtin.zeroCells z n++Builtin.zeroCells z (grownCap w n 0 244-n)) 244):=by
 have h1:¬((n:Int)<0):=by omega
 have h4:(n:Int)>0:=by omega
 have h5:wrap64 (n:Int)=n:=by unfold wrap64;omega
 have hold:(Builtin.firstCells 4 0 (.slice A 0 0)).run Tryz.prog w.drew= .ok #[] w.drew:=by
  cases A with
  | none=>exact run_firstCells_none w.drew 4 0 0 0
  | some a=>exact run_firstCells_some w.drew 4 0 a 0 0 [] (by simp) (fun j v hj=>by simp at hj)
 have hrz:∀ty,(Builtin.append_ #[37,3] ty #[.slice A 0 0,.int .i64 (n:Int)]).run Tryz.prog w=_:=fun ty=>
  Lib.run_append_grow_zeros w 37 3 ty 244 _ _ .i64 .i64 (Tryz.underlying37) (Tryz.underlying3) rfl rfl A 0 0 [] hold n h0 (by decide) (by omega) (by omega) (by show n*32<=_;omega) (by
   have:=growslice_fits (need:=n) (old:=0) (bytes:=32) h0 (by omega)
   rw[Nat.zero_add];exact this)
 go_enter Tryz.func373,Tryz.ntmps373
 go_wp2_with (at_builtin;refine Lib.wpList_append_run _ rfl _ _ _ _ rfl _ _ rfl rfl _ _ (hrz _) ?_)
 all_goals (go_ret;exact⟨rfl,_,rfl,rfl⟩)
def yB7(k:Int)(l:Bs):Bs:=UInt8.ofNat k.toNat::(leBytes 2 l.length++l)
def yPj(k:Int)(l:Bs):Option Bs:=
 if 1<=k/\l.length<=505 then some (yB7 k l++leBytes 4 (yKu (yB7 k l))) else none
theorem yFS(k:Int)(l:Bs):(yB7 k l).length=l.length+3:=by simp[yB7,yAI];omega
theorem yMK{k:Int}{l:Bs}(h1:1<=k)(h2:l.length<=505):yPj k l=some (yB7 k l++leBytes 4 (yKu (yB7 k l))):=by
 rw[yPj,if_pos ⟨h1,h2⟩]
def yRJ(k:Int)(l:Bs):Bs×Int:=match yPj k l with | some x=>(x,0) | none=>([],2)
theorem yW7{k:Int}{l:Bs}(h1:1<=k)(h2:l.length<=505):yRJ k l=(yB7 k l++leBytes 4 (yKu (yB7 k l)),0):=by
 rw[yRJ,yMK h1 h2]
theorem yW6{k:Int}{l:Bs}(h:¬(1<=k/\l.length<=505)):yRJ k l=([],2):=by rw[yRJ,yPj,if_neg h]
def yFF(s:Bs):Int×Bs×Int:=
 if 7<=s.length/\s.length<=512/\1<=(s.getD 0 0).toNat/\(s.getD 0 0).toNat<=127/\yPj (s.getD 0 0).toNat ((s.drop 3).take (s.length-7))=some s
 then((s.getD 0 0).toNat,(s.drop 3).take (s.length-7),0) else(0,[],30)
theorem xKZ(s:Bs)(h:7<=s.length):s= [s.getD 0 0]++(s.drop 1).take 2++(s.drop 3).take (s.length-7)++s.drop (s.length-4):=by
 have h1:s=s.take 1++(s.drop 1):=(List.take_append_drop 1 s).symm
 have h2:s.drop 1=(s.drop 1).take 2++s.drop 3:=by
  have:=(List.take_append_drop 2 (s.drop 1)).symm
  rwa [List.drop_drop] at this
 have h3:s.drop 3=(s.drop 3).take (s.length-7)++s.drop (s.length-4):=by
  have:=(List.take_append_drop (s.length-7) (s.drop 3)).symm
  rwa [List.drop_drop,show 3+(s.length-7)=s.length-4 by omega] at this
 have h4:s.take 1= [s.getD 0 0]:=by
  match s,h with
  | a::t,_=>simp
 rw[h4] at h1
 rw[List.append_assoc,List.append_assoc,←h3,←h2]
 exact h1
theorem xM7(s:Bs)(h:7<=s.length):s.take (s.length-4)= [s.getD 0 0]++(s.drop 1).take 2++(s.drop 3).take (s.length-7):=by
 have h1:=xKZ s h
 have h2:([s.getD 0 0]++(s.drop 1).take 2++(s.drop 3).take (s.length-7)).length=s.length-4:=by simp;omega
 conv=>lhs;arg 2;rw[h1]
 rw[←h2];exact List.take_left
theorem xA1(s:Bs)(h:7<=s.length):
  yPj (s.getD 0 0).toNat ((s.drop 3).take (s.length-7))=some s↔
   1<=(s.getD 0 0).toNat/\s.length<=512/\le ((s.drop 1).take 2)=s.length-7/\le (s.drop (s.length-4))=yKu (s.take (s.length-4)):=by
 have hll:((s.drop 3).take (s.length-7)).length=s.length-7:=by simp;omega
 have h2l:((s.drop 1).take 2).length=2:=by simp;omega
 have h4l:(s.drop (s.length-4)).length=4:=by simp;omega
 have hof:UInt8.ofNat ((s.getD 0 0).toNat:Int).toNat=s.getD 0 0:=by simp
 constructor
 ·intro he
  unfold yPj at he
  split at he
  ·rename_i hc
   rw[hll] at hc
   injection he with he
   replace he:=he.trans (xKZ s h)
   rw[yB7,hof,hll,show s.getD 0 0::(leBytes 2 (s.length-7)++(s.drop 3).take (s.length-7))= [s.getD 0 0]++leBytes 2 (s.length-7)++(s.drop 3).take (s.length-7) by simp] at he
   have e1:=List.append_inj he (by simp[yAI];omega)
   have e2:=List.append_inj e1.1 (by simp[yAI];omega)
   have e3:=List.append_inj e2.1 rfl
   refine⟨by omega,by omega,?_,?_⟩
   ·rw[←e3.2,yUU];exact Nat.mod_eq_of_lt (by omega)
   ·rw[←e1.2,yUU,xM7 s h,←e1.1]
    exact Nat.mod_eq_of_lt (by have:=xAX ([s.getD 0 0]++leBytes 2 (s.length-7)++(s.drop 3).take (s.length-7));omega)
  ·cases he
 ·rintro⟨h1,h2,h3,h4⟩
  rw[yMK (by omega) (by omega)]
  have e1:yB7 (s.getD 0 0).toNat ((s.drop 3).take (s.length-7))=s.take (s.length-4):=by
   have e2:=xDS ((s.drop 1).take 2)
   rw[h2l,h3] at e2
   rw[yB7,hof,hll,xM7 s h,e2]
   simp
  have e3:=xDS (s.drop (s.length-4))
  rw[h4l,h4] at e3
  rw[e1,e3,List.take_append_drop]
theorem yVR{s:Bs}(h:s.length<7):yFF s=(0,[],30):=by rw[yFF,if_neg (by omega)]
theorem xDW{s:Bs}(h:512<s.length):yFF s=(0,[],30):=by rw[yFF,if_neg (by omega)]
theorem xNZ{s:Bs}(h:7<=s.length)(hn:le ((s.drop 1).take 2)≠s.length-7):yFF s=(0,[],30):=by
 rw[yFF,if_neg];rintro⟨_,_,_,_,he⟩;exact hn ((xA1 s h).1 he).2.2.1
theorem xDX{s:Bs}(hn:(s.getD 0 0).toNat=0):yFF s=(0,[],30):=by rw[yFF,if_neg (by omega)]
theorem xGv{s:Bs}(hn:127<(s.getD 0 0).toNat):yFF s=(0,[],30):=by rw[yFF,if_neg (by omega)]
theorem xNa{s:Bs}(h:7<=s.length)(hn:le (s.drop (s.length-4))≠yKu (s.take (s.length-4))):yFF s=(0,[],30):=by
 rw[yFF,if_neg];rintro⟨_,_,_,_,he⟩;exact hn ((xA1 s h).1 he).2.2.2
theorem xPK{s:Bs}(h:7<=s.length)(h5:s.length<=512)(h0:1<=(s.getD 0 0).toNat)(h1:(s.getD 0 0).toNat<=127)(hn:le ((s.drop 1).take 2)=s.length-7)
  (hs:le (s.drop (s.length-4))=yKu (s.take (s.length-4))):yFF s=(((s.getD 0 0).toNat:Int),(s.drop 3).take (s.length-7),0):=by
 rw[yFF,if_pos ⟨h,h5,h0,h1,(xA1 s h).2 ⟨h0,h5,hn,hs⟩⟩]
def ofR(k:Int)(s:Bs):Bs×Int:=if(yFF s).2.2=0/\(yFF s).1=k then((yFF s).2.1,0) else([],30)
theorem xLb{k:Int}{l s:Bs}(hk:k<=127)(h:yPj k l=some s):yFF s=(k,l,0):=by
 unfold yPj at h
 split at h
 ·rename_i hc
  injection h with h
  have hlen:s.length=l.length+7:=by rw[←h,List.length_append,yFS,yAI]
  have h0:s.getD 0 0=UInt8.ofNat k.toNat:=by rw[←h];simp[yB7]
  have h0':(s.getD 0 0).toNat=k.toNat:=by rw[h0];simp;omega
  have hl:(s.drop 3).take (s.length-7)=l:=by
   rw[hlen,Nat.add_sub_cancel,←h,yB7]
   have:leBytes 2 l.length= [UInt8.ofNat (l.length%256),UInt8.ofNat (l.length/256%256)]:=by simp[leBytes]
   rw[this]
   simp
  have hk':((s.getD 0 0).toNat:Int)=k:=by omega
  rw[yFF,if_pos,hl,hk']
  refine⟨by omega,by omega,by omega,by omega,?_⟩
  rw[hl,hk',yMK hc.1 hc.2,h]
 ·cases h
end Go.Proofs.YtakljpcmbpaeaaaGreat

namespace Go.Proofs.YtakljpcmbpaeaaaGreat
theorem xJt{k:Int}{l x:Bs}(h:yPj k l=some x):1<=k/\l.length<=505/\x=UInt8.ofNat k.toNat::(leBytes 2 l.length++(l++leBytes 4 (yKu (yB7 k l))))/\x.length=l.length+7:=by
 unfold yPj at h
 split at h
 ·rename_i hc
  injection h with h
  refine⟨hc.1,hc.2,by rw[←h];simp[yB7],by rw[←h,List.length_append,yFS,yAI]⟩
 ·cases h
end Go.Proofs.YtakljpcmbpaeaaaGreat

namespace Go.Proofs.YtakljpcmbpaeaaaGreat
open Go.RowKit
def fieldsB:Bs->List Int->List Int->Option Bs
 | b,[],[]=>some b
 | b,w::ws,n::l=>if yHP n w=true/\(b++leBytes w.toNat n.toNat).length<=505 then fieldsB (b++leBytes w.toNat n.toNat) ws l else none
 | _,_,_=>none
def yH3(k:Int)(rest:Bs)(ws l:List Int):Bs×Int:=
 match fieldsB [] ws l with
 | some b=>yRJ k (b++rest)
 | none=>([],2)
def takeF:Bs->List Int->Option (List Int×Bs)
 | s,[]=>some ([],s)
 | s,w::ws=>if(yQN s 0 w).2=0 then(takeF (s.drop w.toNat) ws).map fun r=>((yQN s 0 w).1::r.1,r.2) else none
def fieldsR(k:Int)(s:Bs)(ws:List Int):List Int×Bs×Int:=
 if(ofR k s).2=0 then
  match takeF (ofR k s).1 ws with
  | some r=>(r.1,r.2,0)
  | none=>([],[],30)
 else([],[],(ofR k s).2)
theorem xGV(b:Bs)(ws l:List Int)(w n:Int)(h:ws.length=l.length):
  fieldsB b (ws++ [w]) (l++ [n])=(fieldsB b ws l).bind fun b'=>if yHP n w=true/\(b'++leBytes w.toNat n.toNat).length<=505 then some (b'++leBytes w.toNat n.toNat) else none:=by
 induction ws generalizing b l with
 | nil=>
   have:l= []:=List.eq_nil_of_length_eq_zero (by simpa using h.symm)
   subst this
   simp only[List.nil_append,fieldsB,Option.bind_some]
 | cons w' ws ih=>
   match l,h with
   | n'::l,h=>
     simp only[List.cons_append,fieldsB]
     split
     ·exact ih _ l (by simpa using h)
     ·rfl
theorem xGU(b:Bs)(ws l ws' l':List Int)(h:ws.length=l.length)(hn:fieldsB b ws l=none):fieldsB b (ws++ws') (l++l')=none:=by
 induction ws generalizing b l with
 | nil=>
   have:l= []:=List.eq_nil_of_length_eq_zero (by simpa using h.symm)
   subst this
   simp[fieldsB] at hn
 | cons w' ws ih=>
   match l,h with
   | n'::l,h=>
     simp only[List.cons_append,fieldsB] at hn ⊢
     split
     ·rename_i hc
      rw[if_pos hc] at hn
      exact ih _ l (by simpa using h) hn
     ·rfl
theorem xAe(b:Bs)(ws l:List Int)(h:ws.length≠l.length):fieldsB b ws l=none:=by
 induction ws generalizing b l with
 | nil=>match l,h with
   | n::l,_=>rfl
 | cons w ws ih=>match l,h with
   | [],_=>rfl
   | n::l,h=>
     simp only[fieldsB]
     split
     ·exact ih _ l (by simpa using h)
     ·rfl
theorem yMX(b:Bs)(ws l:List Int)(x:Bs)(h:fieldsB b ws l=some x)(hb:b.length<=505):x.length<=505:=by
 induction ws generalizing b l with
 | nil=>match l,h with
   | [],h=>simp[fieldsB] at h;subst h;exact hb
 | cons w ws ih=>match l,h with
   | n::l,h=>
     simp only[fieldsB] at h
     split at h
     ·rename_i hc;exact ih _ l h hc.2
     ·cases h
theorem xL7(s:Bs)(ws:List Int)(w:Int):takeF s (ws++ [w])=(takeF s ws).bind fun r=>if(yQN r.2 0 w).2=0 then some (r.1++ [(yQN r.2 0 w).1],r.2.drop w.toNat) else none:=by
 induction ws generalizing s with
 | nil=>simp only[List.nil_append,takeF,Option.bind_some];split <;> simp
 | cons w' ws ih=>
   simp only[List.cons_append,takeF]
   split
   ·rw[ih]
    cases takeF (s.drop w'.toNat) ws with
    | none=>rfl
    | some r=>
      simp only[Option.bind_some,Option.map_some]
      split <;> simp
   ·rfl
theorem xL6(s:Bs)(ws ws':List Int)(h:takeF s ws=none):takeF s (ws++ws')=none:=by
 induction ws generalizing s with
 | nil=>simp[takeF] at h
 | cons w ws ih=>
   simp only[List.cons_append,takeF] at h ⊢
   split
   ·rename_i hc
    rw[if_pos hc] at h
    have:takeF (s.drop w.toNat) ws=none:=by simpa using h
    rw[ih _ this];rfl
   ·rfl
theorem xGc{s:Bs}{w:Int}(h:(yQN s 0 w).2=0):1<=w/\w<=6/\w<=s.length:=by
 unfold yQN at h
 split at h
 ·split at h
  ·omega
  ·simp at h
 ·simp at h
theorem xFp(s:Bs)(ws:List Int)(r:List Int×Bs)(h:takeF s ws=some r):r.2.length<=s.length/\r.1.length=ws.length:=by
 induction ws generalizing s r with
 | nil=>simp[takeF] at h;subst h;simp
 | cons w ws ih=>
   simp only[takeF] at h
   split at h
   ·cases ht:takeF (s.drop w.toNat) ws with
    | none=>rw[ht] at h;simp at h
    | some q=>
      rw[ht] at h
      simp at h
      subst h
      have:=ih _ _ ht
      simp at this ⊢
      omega
   ·cases h
theorem xKV(n w:Int)(t:Bs)(h:yHP n w=true):yQN (leBytes w.toNat n.toNat++t) 0 w=(n,0):=by
 have hf:=of_decide_eq_true h
 obtain⟨m,rfl⟩:=Int.eq_ofNat_of_zero_le hf.2.2.1
 obtain⟨v,rfl⟩:=Int.eq_ofNat_of_zero_le (show 0<=w by omega)
 have hl:=xAh h
 simp only[Int.toNat_natCast]
 have e:((leBytes v m++t).drop 0).take v=leBytes v m:=by
  rw[List.drop_zero,List.take_append_of_le_length (by rw[yAI];omega),List.take_of_length_le (by rw[yAI];omega)]
 have e2:le (((leBytes v m++t).drop 0).take v)=m:=by rw[e,yUU,Nat.mod_eq_of_lt hl.1]
 have:=yXc (l:=leBytes v m++t) (a:=0) (w:=v) (by omega) (by simp[yAI]) (by rw[e2];omega)
 rw[e2] at this
 exact this
theorem xIP(b:Bs)(ws l:List Int)(x t:Bs)(h:fieldsB b ws l=some x):∃y,x=b++y/\takeF (y++t) ws=some (l,t):=by
 induction ws generalizing b l with
 | nil=>match l,h with
   | [],h=>simp[fieldsB] at h;subst h;exact⟨[],by simp,by simp[takeF]⟩
 | cons w ws ih=>match l,h with
   | n::l,h=>
     simp only[fieldsB] at h
     split at h
     ·rename_i hc
      obtain⟨y,rfl,hy⟩:=ih _ l h
      refine⟨leBytes w.toNat n.toNat++y,by simp,?_⟩
      have hg:=xKV n w (y++t) hc.1
      simp only[takeF,List.append_assoc]
      rw[hg]
      simp only[if_true]
      rw[List.drop_append_of_le_length (by rw[yAI];omega),List.drop_of_length_le (by rw[yAI];omega),List.nil_append,hy]
      rfl
     ·cases h
end Go.Proofs.YtakljpcmbpaeaaaGreat

namespace Go.Proofs.YtakljpcmbpaeaaaGreat
theorem xJu(k:Int)(l:Bs):yRJ k l=([],2)\/∃x,yRJ k l=(x,0)/\yPj k l=some x:=by
 unfold yRJ
 cases h:yPj k l with
 | none=>exact .inl rfl
 | some x=>exact .inr ⟨x,rfl,rfl⟩
theorem yRl(k:Int)(rest:Bs)(ws l:List Int):yH3 k rest ws l=([],2)\/∃b x,yH3 k rest ws l=(x,0)/\fieldsB [] ws l=some b/\yPj k (b++rest)=some x:=by
 unfold yH3
 cases h:fieldsB [] ws l with
 | none=>exact .inl rfl
 | some b=>
   rcases xJu k (b++rest) with h1 | ⟨x,h1,h2⟩
   ·exact .inl h1
   ·exact .inr ⟨b,x,h1,rfl,h2⟩
theorem xEU{k:Int}{l s:Bs}(hk:k<=127)(h:yPj k l=some s):ofR k s=(l,0):=by
 rw[ofR,xLb hk h,if_pos ⟨rfl,rfl⟩]
theorem yNG{k:Int}{rest b x:Bs}{ws l:List Int}(hk:k<=127)(hf:fieldsB [] ws l=some b)(hs:yPj k (b++rest)=some x):fieldsR k x ws=(l,rest,0):=by
 obtain⟨y,hy,ht⟩:=xIP [] ws l b rest hf
 rw[List.nil_append] at hy
 subst hy
 rw[fieldsR,xEU hk hs]
 simp only[if_true]
 rw[ht]
theorem xIF{k:Int}{l x:Bs}(h:yPj k l=some x):1<=k/\l.length<=505/\x.length=l.length+7:=by
 obtain⟨a,b,_,c⟩:=xJt h;exact⟨a,b,c⟩
end Go.Proofs.YtakljpcmbpaeaaaGreat

namespace Go.Proofs.YtakljpcmbpaeaaaGreat
open Go.RowKit
theorem xGW(b:Bs)(ws l:List Int)(hl:ws.length=l.length)(hf:∀i (h:i<ws.length) (h':i<l.length),yHP l[i] ws[i]=true)(hs:b.length+6*ws.length<=505):
  ∃y,fieldsB b ws l=some y/\y.length<=b.length+6*ws.length:=by
 induction ws generalizing b l with
 | nil=>
   cases l with
   | nil=>exact⟨b,rfl,by simp⟩
   | cons n l=>simp at hl
 | cons w ws ih=>
   cases l with
   | nil=>simp at hl
   | cons n l=>
     have h0:=hf 0 (by simp) (by simp)
     simp only[List.getElem_cons_zero] at h0
     have hw:=of_decide_eq_true h0
     simp only[List.length_cons] at hs hl ⊢
     have hlen:(b++leBytes w.toNat n.toNat).length=b.length+w.toNat:=by rw[List.length_append,yAI]
     obtain⟨y,h1,h2⟩:=ih (b++leBytes w.toNat n.toNat) l (by omega) (fun i h h'=>by
      have:=hf (i+1) (by simpa using h) (by simpa using h')
      simpa using this) (by rw[hlen];omega)
     refine⟨y,?_,by rw[hlen] at h2;omega⟩
     rw[fieldsB,if_pos ⟨h0,by rw[hlen];omega⟩,h1]
theorem xEH{k:Int}{ws l:List Int}(hk:1<=k)(hl:ws.length=l.length)(hf:∀i (h:i<ws.length) (h':i<l.length),yHP l[i] ws[i]=true)(hs:6*ws.length<=505):∃x,yH3 k [] ws l=(x,0)/\x.length<=512:=by
 obtain⟨y,h1,h2⟩:=xGW [] ws l hl hf (by simpa using hs)
 simp only[List.length_nil,Nat.zero_add] at h2
 have h3:yPj k y=some _:=yMK hk (by omega)
 have hlen:=(xIF h3).2.2
 refine⟨_,?_,by rw[hlen];omega⟩
 rw[yH3,h1]
 show yRJ k (y++ [])=_
 rw[List.append_nil,yRJ,h3]
theorem yO7{n:Int}{w:Nat}(h1:1<=w)(h6:w<=6)(h0:0<=n)(h:n<256^w)(h40:n<=1099511627776):yHP n w=true:=decide_eq_true ⟨by omega,by omega,h0,by
 rw[Int.toNat_natCast]
 unfold yQR
 have:((256^w:Nat):Int)=256^w:=by simp
 omega⟩
abbrev xIv(g:Geo):List Int:= [g.nodes,g.slots,g.blocks,g.per,g.journal,g.log,g.lease,g.wait]
abbrev xGZ:List Int:= [2,2,2,2,2,2,4,4]
theorem xN4{g:Geo}(h:g.OK):∃x,yH3 1 [] xGZ (xIv g)=(x,0)/\x.length<=512:=by
 obtain⟨h1,h2,h3,h4,h5,h6,h7,h8,h9,h10,h11,h12,h13,h14,h15⟩:=h
 refine xEH (by omega) rfl (fun i hi hi'=>?_) (by decide)
 match i,hi with
 | 0,_=>exact yO7 (w:=2) (by omega) (by omega) (by simp;omega) (by simp;omega) (by simp;omega)
 | 1,_=>exact yO7 (w:=2) (by omega) (by omega) (by simp;omega) (by simp;omega) (by simp;omega)
 | 2,_=>exact yO7 (w:=2) (by omega) (by omega) (by simp;omega) (by simp;omega) (by simp;omega)
 | 3,_=>exact yO7 (w:=2) (by omega) (by omega) (by simp;omega) (by simp;omega) (by simp;omega)
 | 4,_=>exact yO7 (w:=2) (by omega) (by omega) (by simp;omega) (by simp;omega) (by simp;omega)
 | 5,_=>exact yO7 (w:=2) (by omega) (by omega) (by simp;omega) (by simp;omega) (by simp;omega)
 | 6,_=>exact yO7 (w:=4) (by omega) (by omega) (by simp;omega) (by simp;omega) (by simp;omega)
 | 7,_=>exact yO7 (w:=4) (by omega) (by omega) (by simp;omega) (by simp;omega) (by simp;omega)
theorem xM6{n:Int}(h1:0<=n)(h2:n<=1099511627776):∃x,yH3 2 [] [6] [n]=(x,0)/\x.length<=512:=by
 refine xEH (by omega) rfl (fun i hi hi'=>?_) (by decide)
 match i,hi with
 | 0,_=>exact yO7 (w:=6) (by omega) (by omega) (by simp;omega) (by simp;omega) (by simp;omega)
def heads(g:Geo)(top hd:ByteArray):Nat->List ByteArray
 | 0=>(List.replicate g.total.toNat ⟨#[]⟩).set 0 top
 | j+1=>(heads g top hd j).set (g.headS j).toNat hd
theorem yPB(g:Geo)(top hd:ByteArray)(j:Nat):(heads g top hd j).length=g.total.toNat:=by
 induction j with
 | zero=>simp[heads]
 | succ j ih=>simp only[heads,List.length_set];exact ih
theorem xLQ{g:Geo}{top hd:ByteArray}(h1:top.size<=512)(h2:hd.size<=512)(j:Nat):∀x∈heads g top hd j,x.size<=512:=by
 induction j with
 | zero=>
   intro x hx
   rcases List.mem_or_eq_of_mem_set hx with h | rfl
   ·have:=List.eq_of_mem_replicate h
    subst this
    show(0:Nat)<=512
    omega
   ·exact h1
 | succ j ih=>
   intro x hx
   rcases List.mem_or_eq_of_mem_set hx with h | rfl
   ·exact ih x h
   ·exact h2
theorem yUf{g:Geo}(h:g.OK):g.atD<=g.total/\g.total<=100000:=by
 have hsj:=h.sj
 have hn2:=h.n2
 have hl2:=h.l2
 have hb:=xKY (a:=g.blocks) (b:=g.per) (A:=64) (B:=8) (by have:=h.b1;omega) h.b2 (by have:=h.p1;omega) h.p2
 unfold Geo.atD Geo.total
 omega
end Go.Proofs.YtakljpcmbpaeaaaGreat

namespace Go.Proofs.YtakljpcmbpaeaaaGreat
open Go.ChangeShapes Go.WideShapes Go.ChangeAt Go.RowKit Go.Joins Go.Deep
open Go.ChangeMaps (open_string shut_string)
theorem wf_i64{n:Int}(h:(Lit.int .i64 n).wf=true): -9223372036854775808<=n/\n<=9223372036854775807:=by
 have h1:IntKind.i64.min= -9223372036854775808:=rfl
 have h2:IntKind.i64.max=9223372036854775807:=rfl
 simp only[Lit.wf,Bool.and_eq_true,decide_eq_true_eq] at h
 omega
section
variable {H:Type} {enc:TypeId×Value->H} {P:Program} {w:World} {base:Nat} {spare:Nat->Bool} {held:Bool}
end
section
variable {H:Type} {enc:TypeId×Value->H} {P:Program} {w:World} {base:Nat} {spare:Nat->Bool} {held:Bool}
end
end Go.Proofs.YtakljpcmbpaeaaaGreat

namespace Go.Proofs.YtakljpcmbpaeaaaGreat.mountPlays
set_option maxRecDepth 100000
open Go.RowKit Go.ChangeShapes Go.WideShapes Go.ChangeAt
theorem and_tt2{a b:Bool}(h:a=true)(k:b=true):(a&&b)=true:=by rw[h,k];rfl
theorem jf0:(Rows.mountPlaysRow.wf (OpenSpec.ofChange Rows.mountPlaysSpec))=true:=by kernel_rfl
theorem jf1:(laidOutB Tryz.pinned.checked.prog)=true:=by kernel_rfl
theorem jf2:(mapsRowed Tryz.pinned.checked.prog)=true:=by kernel_rfl
theorem jf3:(Tryz.f3.params.all (Program.readableRec Tryz.pinned.checked.prog ·))=true:=by kernel_rfl
theorem jf4:(namedTie Tryz.pinned.checked.prog Rows.mountPlaysRow.named Rows.mountPlaysSpec.vars)=true:=by kernel_rfl
theorem jf5:(Rows.mountPlaysRow.stops== [])=true:=by kernel_rfl
theorem jf6:(Program.stops Tryz.pinned.checked.prog== [])=true:=by kernel_rfl
theorem jf7:(Rows.mountPlaysRow.knobs== [])=true:=by kernel_rfl
theorem jf8:(Program.stopKnobs Tryz.pinned.checked.prog== [])=true:=by kernel_rfl
theorem jf9:(Rows.mountPlaysRow.inPlace==Program.inPlace Tryz.pinned.checked.prog 3)=true:=by kernel_rfl
theorem jf10:(Rows.mountPlaysRow.unfollowed==Program.unfollowed Tryz.pinned.checked.prog 3)=true:=by kernel_rfl
theorem jf11:(Rows.mountPlaysRow.recurses==Program.recurses Tryz.pinned.checked.prog 3)=true:=by kernel_rfl
theorem jf12:(Rows.mountPlaysRow.named==Program.varsNamed Tryz.pinned.checked.prog 3)=true:=by kernel_rfl
theorem jf13:(Rows.mountPlaysRow.maps==(Tryz.f3.params.toList++Rows.mountPlaysSpec.plain.varTypes Tryz.pinned.checked.prog).any (Program.mapsRec Tryz.pinned.checked.prog ·))=true:=by kernel_rfl
theorem jf14:(Rows.mountPlaysRow.ifaces==(Tryz.f3.params.toList++Rows.mountPlaysSpec.plain.varTypes Tryz.pinned.checked.prog).any (Program.ifacesRec Tryz.pinned.checked.prog ·))=true:=by kernel_rfl
theorem jf15:(Rows.mountPlaysRow.mapsOut==Program.mapsAmong Tryz.pinned.checked.prog Tryz.f3.resultTypes.toList)=true:=by kernel_rfl
theorem jf16:(Rows.mountPlaysRow.loops==(Tryz.f3.params.toList++Rows.mountPlaysSpec.plain.varTypes Tryz.pinned.checked.prog).any (Program.loopsFrom Tryz.pinned.checked.prog ·))=true:=by kernel_rfl
theorem jf17:(Rows.mountPlaysRow.wideKeys==(Tryz.f3.params.toList++Rows.mountPlaysSpec.plain.varTypes Tryz.pinned.checked.prog++Tryz.f3.resultTypes.toList).any (Program.wideKeysFrom Tryz.pinned.checked.prog ·))=true:=by kernel_rfl
theorem jf18:(Rows.mountPlaysSpec.vars.all (Program.varReadable Tryz.pinned.checked.prog ·))=true:=by kernel_rfl
theorem jf19:(Tryz.f3.resultTypes.all (fun t=>Program.readableRec Tryz.pinned.checked.prog t&&decide (t<Tryz.pinned.checked.prog.types.size)))=true:=by kernel_rfl
theorem jf20:(Rows.mountPlaysRow.ifacesOut==Tryz.f3.resultTypes.toList.any (Program.ifacesRec Tryz.pinned.checked.prog ·))=true:=by kernel_rfl
theorem jf21:(Rows.mountPlaysRow.loopsOut==Tryz.f3.resultTypes.toList.any (Program.loopsFrom Tryz.pinned.checked.prog ·))=true:=by kernel_rfl
theorem jf22:(Rows.mountPlaysRow.plainKeys==Program.plainKeys Tryz.pinned.checked.prog)=true:=by kernel_rfl
theorem jf23:(Rows.mountPlaysRow.shortTexts.isNone)=true:=by kernel_rfl
theorem jf24:(Program.stopsHeard Tryz.pinned.checked.prog)=true:=by kernel_rfl
theorem jf25:(Program.mayEnter Tryz.pinned.checked.prog)=true:=by kernel_rfl
theorem jf26:(Rows.mountPlaysRow.lifted==Program.liftsFinal Tryz.pinned.checked.prog)=true:=by kernel_rfl
theorem jf27:(Program.make Tryz.pinned.checked.prog==some Rows.mountPlaysRow.make)=true:=by kernel_rfl
theorem jf28:(Rows.mountPlaysRow.kinds==(if Rows.mountPlaysRow.domain.isEmpty then [] else Tryz.f3.params.toList.map fun t=>match Program.underlying Tryz.pinned.checked.prog t with | some (.int k)=>some k | _=>none))=true:=by kernel_rfl
theorem jf29:(Rows.mountPlaysRow.pinned==Rows.mountPlaysRow.pinnedBy)=true:=by kernel_rfl
theorem jf30:(Rows.mountPlaysRow.veiled==(Tryz.f3.params.toList++Rows.mountPlaysSpec.plain.varTypes Tryz.pinned.checked.prog++Tryz.f3.resultTypes.toList).any (Program.veiledRec Tryz.pinned.checked.prog ·))=true:=by kernel_rfl
theorem jf31:(Rows.mountPlaysRow.veiledFits Tryz.pinned.checked.prog Tryz.f3.params.toList (Tryz.f3.params.toList++Rows.mountPlaysSpec.plain.varTypes Tryz.pinned.checked.prog++Tryz.f3.resultTypes.toList))=true:=by kernel_rfl
theorem closed:joinedFacts Tryz.pinned.checked.prog 3 Tryz.f3 Rows.mountPlaysSpec Rows.mountPlaysRow=true:=(and_tt2 (and_tt2 (and_tt2 (and_tt2 (and_tt2 (and_tt2 (and_tt2 (and_tt2 (and_tt2 (and_tt2 (and_tt2 (and_tt2 (and_tt2 (and_tt2 (and_tt2 (and_tt2 (and_tt2 (and_tt2 (and_tt2 (and_tt2 (and_tt2 (and_tt2 (and_tt2 (and_tt2 (and_tt2 (and_tt2 (and_tt2 (and_tt2 (and_tt2 (and_tt2 (and_tt2 jf0 jf1) jf2) jf3) jf4) jf5) jf6) jf7) jf8) jf9) jf10) jf11) jf12) jf13) jf14) jf15) jf16) jf17) jf18) jf19) jf20) jf21) jf22) jf23) jf24) jf25) jf26) jf27) jf28) jf29) jf30) jf31)
end Go.Proofs.YtakljpcmbpaeaaaGreat.mountPlays
