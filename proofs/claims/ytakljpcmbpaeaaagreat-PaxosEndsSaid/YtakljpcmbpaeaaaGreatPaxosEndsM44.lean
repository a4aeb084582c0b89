/- PaxosOne: commands of nodes, what a command's bytes say, the table behind commands, devices held against each other. -/
import Derived.Test.YtakljpcmbpaeaaaGreatPaxosEndsM43
import Derived.Test.YtakljpcmbpaeaaaGreatPaxosEndsM42
set_option linter.unusedSimpArgs false
set_option linter.unusedVariables false
namespace Go.Proofs.YtakljpcmbpaeaaaGreat
open Go.RowKit
def xMZ(v:ByteArray):yAG:=match yBB 11 v with | some r=>r.1 | none=>yAG.z
theorem yYi{c:yAG}(h:yUy c):xMZ (mkS (yFM c))=c:=by
 unfold xMZ
 rw[yI3 (by decide) h]
def yT8(v:ByteArray):Int:=(xMZ v).By%16
def xDG(v:ByteArray):Int:=(xMZ v).Serial
structure GoodC (N:Nat) (c:yAG):Prop where
 may:yUy c
 kind:c.Kind=0\/c.Kind=1\/c.Kind=2
 by_:∃j:Nat,j<N/\c.By=17*(j:Int)+16
theorem GoodC.inj{N:Nat}{c d:yAG}(hc:GoodC N c)(hd:GoodC N d)(h:mkS (yFM c)=mkS (yFM d)):c=d:=by
 rw[←yYi hc.may,h,yYi hd.may]
theorem GoodC.node{N:Nat}(hN:N<=16){c:yAG}(hc:GoodC N c){j:Nat}(h:c.By=17*(j:Int)+16)(hj:j<N):yT8 (mkS (yFM c))=j:=by
 unfold yT8
 rw[yYi hc.may,h];omega
theorem GoodC.ser{N:Nat}{c:yAG}(hc:GoodC N c):xDG (mkS (yFM c))=c.Serial:=by
 unfold xDG
 rw[yYi hc.may]
theorem GoodC.same{N:Nat}(hN:N<=16){c:yAG}(hc:GoodC N c){n:Nat}(hn:n<N):yT8 (mkS (yFM c))=n↔c.By=17*(n:Int)+16:=by
 obtain⟨j,hj,e⟩:=hc.by_
 rw[hc.node hN e hj]
 omega
def bhT(x:yAQ)(cs:List yAG):Tb:=cs.foldl (Tb.ap x) ⟨List.replicate x.Slots.toNat (0,0),[],[]⟩
theorem xLk(x:yAQ)(cs:List yAG)(a:Tb):(cs.foldl (Tb.ap x) a).s.length=a.s.length:=by
 induction cs generalizing a with
 | nil=>rfl
 | cons c cs ih=>rw[List.foldl_cons,ih,Tb.ap_s]
theorem xLj(x:yAQ)(cs:List yAG)(a:Tb):(cs.foldl (Tb.ap x) a).H.length+(cs.foldl (Tb.ap x) a).Q.length<=a.H.length+a.Q.length+cs.length:=by
 induction cs generalizing a with
 | nil=>exact Nat.le_refl _
 | cons c cs ih=>
   rw[List.foldl_cons,List.length_cons]
   have:=ih (a.ap x c)
   have:=Tb.ap_n x a c
   omega
theorem xLP(x:yAQ)(cs:List yAG):(bhT x cs).s.length=x.Slots.toNat:=by
 unfold bhT
 rw[xLk,List.length_replicate]
theorem xMl(x:yAQ)(cs:List yAG):(bhT x cs).H.length+(bhT x cs).Q.length<=cs.length:=by
 have:=xLj x cs ⟨List.replicate x.Slots.toNat (0,0),[],[]⟩
 simp only[List.length_nil,Nat.zero_add] at this
 exact this
theorem xDc(x:yAQ)(cs:List yAG)(c:yAG):bhT x (cs++ [c])=(bhT x cs).ap x c:=by
 unfold bhT
 rw[List.foldl_append];rfl
theorem yYT{x:yAQ}{cs:List yAG}{k:Nat}(h:k<cs.length):bhT x (cs.take (k+1))=(bhT x (cs.take k)).ap x cs[k]:=by
 rw[List.take_succ_eq_append_getElem h,xDc]
section
variable {L:Nat} [yFr L] {x:yAQ}
theorem yUz{cs:List yAG}{c:yAG}{N:Nat}(hs:x.Slots<=16)(hl:cs.length<=1000)(hc:GoodC N c):yCo L x (bhT x cs).t c=some ((bhT x cs).ap x c).t:=
 xH1 yFr.h x _ c (by rw[xLP];omega) (by have:=xMl x cs;omega) hc.kind
theorem xLw(h0:0<=x.Slots)(h16:x.Slots<=16):yHo L x=some (bhT x []).t:=by
 have hL:200000<L:=yFr.h
 have nm:∀n:Nat,yCR (List.replicate n (slV (0,0)))=true:=fun n=>by
  have:=yWV (List.replicate n (0,0))
  rwa [List.map_replicate] at this
 obtain⟨s,hs⟩:=Int.eq_ofNat_of_zero_le h0
 obtain⟨a,ha,hrun⟩:=yFv (α:=yAM) (F:=yLO) (fun q=>x=q.1/\∃j:Nat,j<=s/\(j:Int)=q.2.2.2.1/\(List.replicate j (slV (0,0)),([]:List (List V)),([]:List (List V)),())=q.2.2.1) (fun q=>s-q.2.2.2.1.toNat) (fun a=>a.2.1=(List.replicate s (slV (0,0)),[],[],())) (fun q hq=>by
  obtain⟨q1,q2,q3,q4,q5⟩:=q
  obtain⟨rfl,j,hj,rfl,rfl⟩:=hq
  by_cases hlt:j<s
  ·refine .inl ⟨(x,q2,(List.replicate (j+1) (slV (0,0)),[],[],()),((j+1:Nat):Int),()),⟨rfl,j+1,hlt,rfl,rfl⟩,by dsimp only;omega,fun kn ka=>?_⟩
   have e:List.replicate j (slV (0,0))++ [[V.int .i64 0,V.int .i64 0]]=List.replicate (j+1) (slV (0,0)):=by rw[List.replicate_succ'];rfl
   show(bif decide ((j:Int)<x.Slots) then _ else _)=_
   rw[yAb (decide_eq_true (by omega))]
   show(bif decide ((j:Int)<16) then _ else _)=_
   rw[yAb (decide_eq_true (by omega))]
   simp only[gd,gI,gB,gL,gF,gW,gA,gM,List.length_replicate,e,nm,cond_true,Nat.zero_add,Nat.beq_refl,show decide ((j+1)*16<=140737488355328)=true from decide_eq_true (by omega),show decide (j+1<=9223372036854775807)=true from decide_eq_true (by omega),show Nat.ble (j+1) 2000000=true from Nat.ble_eq_true_of_le (by omega)]
   rw[yAa (by omega) (by omega)]
   rfl
  ·obtain rfl:j=s:=by omega
   refine .inr ⟨(q2,(List.replicate j (slV (0,0)),[],[],()),()),rfl,fun kn ka=>?_⟩
   show(bif decide ((j:Int)<x.Slots) then _ else _)=_
   rw[yAJ (decide_eq_false (by omega))]
   simp only[gd,gI,gB,gL,gF,gW,gA,gM,List.length_replicate,nm,cond_true,Nat.beq_refl,show Nat.ble j 2000000=true from Nat.ble_eq_true_of_le (by omega)]) L (x,yAM.z,([],[],[],()),0,()) ⟨rfl,0,Nat.zero_le _,rfl,rfl⟩ (by dsimp only;omega)
 unfold yHo yR5
 rw[hrun]
 obtain⟨a1,a2,a3⟩:=a
 dsimp only at ha
 subst ha
 simp only[gd,gI,gB,gL,gF,gW,gA,gM,List.length_replicate,nm,cond_true,Nat.zero_add,show Nat.ble s s=true from Nat.ble_eq_true_of_le (Nat.le_refl _),show Nat.ble s 2000000=true from Nat.ble_eq_true_of_le (by omega)]
 unfold bhT Tb.t tbl
 rw[hs]
 dsimp only[List.foldl]
 rw[Int.toNat_natCast,List.map_replicate,List.take_of_length_le (by rw[List.length_replicate];exact Nat.le_refl _)]
 rfl
end
theorem xF4(y:Int)(m:Nat)(hm:m<2^62):0<=IntKind.i64.wrap ((BitVec.ofInt IntKind.i64.bits y &&& BitVec.ofInt IntKind.i64.bits (m:Int)).toNat:Int)/\IntKind.i64.wrap ((BitVec.ofInt IntKind.i64.bits y &&& BitVec.ofInt IntKind.i64.bits (m:Int)).toNat:Int)<=m:=by
 have h1:(BitVec.ofInt IntKind.i64.bits y &&& BitVec.ofInt IntKind.i64.bits (m:Int)).toNat<=m:=by
  rw[BitVec.toNat_and]
  refine Nat.le_trans Nat.and_le_right ?_
  show(BitVec.ofInt 64 (m:Int)).toNat<=m
  rw[BitVec.toNat_ofInt]
  have:((m:Int)%((2^64:Nat):Int))=m:=Int.emod_eq_of_lt (by omega) (by omega)
  rw[this];omega
 rw[wrap64 (by omega) (by omega)]
 omega
section
variable {L:Nat} [yFr L] {x:yAQ} {N:Nat} {s:List ByteArray} {c:List (List V)}
theorem xJ5{k by_ ser:Int}(hb:xE8 by_)(h1:1<=ser)(h2:ser<=2147483648)(hk:k=0\/k=1):yUy ⟨k,by_,ser,0,0,yAN.z,0⟩:=⟨hb,h1,h2,.inl ⟨hk,rfl,rfl,rfl,rfl,rfl⟩⟩
theorem xJv{by_ ser lo m:Int}(hb:xE8 by_)(h1:1<=ser)(h2:ser<=2147483648)(l0:0<=lo)(l1:lo<64)(hm:m=1\/m=2):yUy ⟨2,by_,ser,0,0,⟨lo,lo⟩,m⟩:=⟨hb,h1,h2,.inr (.inl ⟨rfl,l0,Int.le_refl _,l1,hm,rfl,rfl⟩)⟩
theorem yXu{X:yAD}{cs:List yAG}{n:Nat}(hn:n<N)(hN:N<=16)(hs:x.Slots<=16)(hb:1<=x.Blocks)(ht:X.t_=(bhT x cs).t)(h1:1<=X.serial_)(h2:X.serial_<=2147483648)(q:Int):
  ∃d,GoodC N d/\d.By=17*(n:Int)+16/\d.Serial=X.serial_/\yJB L x X (17*(n:Int)+16) q=some (mkS (yFM d)):=by
 have hk:xE8 (17*(n:Int)+16):=⟨by omega,by omega⟩
 have fin:∀(d:yAG),yUy d->(d.Kind=0\/d.Kind=1\/d.Kind=2)->d.By=17*(n:Int)+16->d.Serial=X.serial_->∀y,y=(yAB (yCW L d) fun r=>some r.1)->∃d,GoodC N d/\d.By=17*(n:Int)+16/\d.Serial=X.serial_/\y=some (mkS (yFM d)):=fun d hd hk2 hby hse y hy=>
  ⟨d,⟨hd,hk2,n,hn,hby⟩,hby,hse,by rw[hy,xFJ yTV hd hk2];rfl⟩
 have f01:∀k:Int,k=0\/k=1->∀y,y=(yAB (yCW L ⟨k,17*(n:Int)+16,X.serial_,0,0,yAN.z,0⟩) fun r=>some r.1)->∃d,GoodC N d/\d.By=17*(n:Int)+16/\d.Serial=X.serial_/\y=some (mkS (yFM d)):=fun k hk01 y hy=>
  fin ⟨k,17*(n:Int)+16,X.serial_,0,0,yAN.z,0⟩ (xJ5 hk h1 h2 hk01) (by show k=0\/k=1\/k=2;omega) rfl rfl y hy
 have fa:∀lo m:Int,0<=lo->lo<64->(m=1\/m=2)->∀y,y=(yAB (yCW L ⟨2,17*(n:Int)+16,X.serial_,0,0,⟨lo,lo⟩,m⟩) fun r=>some r.1)->∃d,GoodC N d/\d.By=17*(n:Int)+16/\d.Serial=X.serial_/\y=some (mkS (yFM d)):=fun lo m l0 l1 hm y hy=>
  fin ⟨2,17*(n:Int)+16,X.serial_,0,0,⟨lo,lo⟩,m⟩ (xJv hk h1 h2 l0 l1 hm) (.inr (.inr rfl)) rfl rfl y hy
 have b7:=xF4 (q.fdiv (2^(min (2:Int).toNat IntKind.i64.bits))) 7 (by decide)
 unfold yJB yMY
 rw[xIk (s:=(bhT x cs).s) yFr.h (by rw[xLP];omega) (by rw[ht];rfl),yAC]
 dsimp only
 have b3:=xF4 q 3 (by decide)
 rw[show((3:Nat):Int)=3 from rfl] at b3
 rw[show((7:Nat):Int)=7 from rfl] at b7
 generalize IntKind.i64.wrap ((BitVec.ofInt IntKind.i64.bits q &&& BitVec.ofInt IntKind.i64.bits 3).toNat:Int)=r at b3 ⊢
 generalize IntKind.i64.wrap ((BitVec.ofInt IntKind.i64.bits (q.fdiv (2^(min (2:Int).toNat IntKind.i64.bits))) &&& BitVec.ofInt IntKind.i64.bits 7).toNat:Int)=u at b7 ⊢
 have hlo:0<=u.tmod x.Blocks/\u.tmod x.Blocks<64:=by
  rw[Int.tmod_eq_emod_of_nonneg b7.1]
  have e1:=Int.emod_nonneg u (show x.Blocks≠0 by omega)
  have e2:u%x.Blocks<x.Blocks:=Int.emod_lt_of_pos u (by omega)
  by_cases h:u<x.Blocks
  ·rw[Int.emod_eq_of_lt b7.1 h];omega
  ·omega
 have hB:decide (x.Blocks=0)=false:=decide_eq_false (by omega)
 have hr:r=0\/r=1\/r=2\/r=3:=by omega
 cases (yLo (bhT x cs).s (17*(n:Int)+16)).2 <;> rcases hr with rfl | rfl | rfl | rfl
 ·exact f01 0 (.inl rfl) _ rfl
 ·exact f01 0 (.inl rfl) _ rfl
 ·exact f01 0 (.inl rfl) _ rfl
 ·exact f01 0 (.inl rfl) _ rfl
 ·exact f01 1 (.inr rfl) _ rfl
 ·refine fa (u.tmod x.Blocks) 1 hlo.1 hlo.2 (.inl rfl) _ ?_
  rw[hB];rfl
 ·refine fa (u.tmod x.Blocks) 2 hlo.1 hlo.2 (.inr rfl) _ ?_
  rw[hB];rfl
 ·exact f01 0 (.inl rfl) _ rfl
theorem xDa{n:Nat}{d:yAG}(h:PGeo x N s)(hn:n<N)(hd:yUy d)(hb:d.By=17*(n:Int)+16):yIG L x n (mkS (yFM d))=some (⟨n,mkS (yFM d),0,0,yBI.z,yAm.z⟩,0,()):=by
 have hbd:=h.bd
 have hM:yJ0 L x=some true:=by rw[yYl yTV (yNR h.may),h.may]
 have hO:yNv L d.By=some (n:Int):=by
  unfold yNv yPo
  rw[xF9,decide_eq_true hd.1,yAC,cond_true,hb]
  show some ((17*(n:Int)+16).tmod 16)=_
  rw[Int.tmod_eq_emod_of_nonneg (by omega)]
  congr 1
  omega
 unfold yIG yOm
 rw[yI3 yTV hd,yAC]
 dsimp only
 rw[show((0:Int) !=0)=false from rfl,cond_false,hM,yAC,Bool.not_true,cond_false,yAJ (decide_eq_false (by omega)),yAJ (decide_eq_false (by rw[h.n];omega)),hO,yAC,yAJ (show((n:Int) !=n)=false from bne_self_eq_false _)]
theorem xHT(hl:s.length<=100000):yE6 L (s.map txV) (s.map txV)=some true:=by
 have hL:200000<L:=yFr.h
 unfold yE6 yIN
 rw[yAJ (bne_self_eq_false _)]
 exact yE0 (F:=yDN) (fun k=>(s.map txV,s.map txV,(k:Int),())) s.length () (fun k hk kn ka kb=>by
  show(bif decide ((k:Int)<((s.map txV).length:Int)) then _ else _)=_
  dsimp only
  rw[List.length_map,yAb (decide_eq_true (by omega)),xCI (by omega) (by omega),xCI (by omega) (by omega),beq_self_eq_true,yAa (by omega) (by omega)]
  rfl) (fun kn ka kb=>by
  show(bif decide ((s.length:Int)<((s.map txV).length:Int)) then _ else _)=_
  rw[List.length_map,yAJ (decide_eq_false (by omega))]) s.length 0 L (by omega) (by omega) _ _
theorem xAc{l:List Int}(hl:l.length<=100000):yMI L (l.map inV) (l.map inV)=some true:=by
 have hL:200000<L:=yFr.h
 unfold yMI yQF
 rw[yAJ (bne_self_eq_false _)]
 exact yE0 (F:=yJH) (fun k=>(l.map inV,l.map inV,(k:Int),())) l.length () (fun k hk kn ka kb=>by
  show(bif decide ((k:Int)<((l.map inV).length:Int)) then _ else _)=_
  dsimp only
  rw[List.length_map,yAb (decide_eq_true (by omega)),yQ8 (by omega) (by omega),yQ8 (by omega) (by omega),yAJ (bne_self_eq_false _),yAa (by omega) (by omega)]
  rfl) (fun kn ka kb=>by
  show(bif decide ((l.length:Int)<((l.map inV).length:Int)) then _ else _)=_
  rw[List.length_map,yAJ (decide_eq_false (by omega))]) l.length 0 L (by omega) (by omega) _ _
theorem xID{c':List (List V)}(hl:s.length<=100000)(hc:CE c N)(hc':CE c' N)(hN:N<=16){j:Nat}:yOF L (dvN s c N j) (dvN s c' N j)=some true:=by
 have hL:200000<L:=yFr.h
 unfold yOF yQR dvN
 dsimp only
 rw[xHT hl,yAC,Bool.not_true,cond_false,hc.1,hc'.1,yAJ (bne_self_eq_false _),xAc (by rw[List.length_map,List.length_range];omega),yAC,Bool.not_true,cond_false,yAJ (bne_self_eq_false _),show yMI L [] []=some true from xAc (l:= []) (Nat.zero_le _),yAC,Bool.not_true,cond_false]
 refine yE0 (F:=yJT (yAe (yFl) L)) (fun k=>(dvN s c N j,dvN s c' N j,(k:Int),())) N () (fun k hk kn ka kb=>?_) (fun kn ka kb=>?_) N 0 L (by omega) (by omega) _ _
 ·obtain⟨m,rfl⟩:∃m,L=m+1:=⟨L-1,by omega⟩
  show(bif decide ((k:Int)<(c.length:Int)) then _ else _)=_
  unfold dvN
  dsimp only
  rw[hc.1,yAb (decide_eq_true (by omega)),hc.gI (by omega) (by omega),hc'.gI (by omega) (by omega),Int.toNat_natCast,hc.aR hk,hc'.aR hk,yAJ (bne_self_eq_false _)]
  show(gI c kL (k:Int) (bif decide ((0:Int)<((aR c (k:Int).toNat 0).length:Int)) then _ else _))=_
  rw[hc.gI (by omega) (by omega),Int.toNat_natCast,hc.aR hk,yAJ (by rfl)]
  show kn (_,_,w64 ((k:Int)+1),())=_
  rw[yAa (by omega) (by omega)]
  rfl
 ·show(bif decide ((N:Int)<(c.length:Int)) then _ else _)=_
  rw[hc.1,yAJ (decide_eq_false (by omega))]
end
def xLI(X:yAD):PX:=⟨X.p_,X.done_,X.serial_,X.on_⟩
structure Pon (x:yAQ) (N n:Nat) (X:yAD):Prop where
 d:∃d,GoodC N d/\X.p_.Cmd=mkS (yFM d)/\d.By=17*(n:Int)+16/\d.Serial=X.serial_
 dl:1<=X.p_.At->X.done_<x.Log
 mb:X.p_.At=2->X.p_.Own.Mbal<=1099511627776
structure OLog (x:yAQ) (N:Nat) (s:List ByteArray) (cs:List yAG):Prop where
 cl:(cs.length:Int)<=x.Log
 at_:∀i (h:i<cs.length),s.getD (1+2*N+i) noS=yTr cs[i]
 end_:∀i:Nat,cs.length<=i->(i:Int)<x.Log->s.getD (1+2*N+i) noS=noS
 ok:∀c∈cs,GoodC N c
def xNA(W:PW)(cs:List yAG):Prop:=∀k:Int,W.log k=if 0<=k/\k<cs.length then some (mkS (yFM (cs.getD k.toNat yAG.z))) else none
structure OInv (x:yAQ) (N:Nat) (s:List ByteArray) (xs:List yAD) (cs:List yAG) (W:PW) (m:Nat):Prop where
 g:PGeo x N s
 xl:xs.length=N
 inv:PInv N yT8 xDG W
 rcs:∀k:Nat,k<N->yTI (s.getD (1+N+k) noS) (W.rc k)
 lg:OLog x N s cs
 wl:xNA W cs
 vok:∀k b v c,W.vt k b=some (v,c)->∃d,GoodC N d/\v=mkS (yFM d)
 px:∀k (h:k<xs.length),W.x k=xLI xs[k]/\xs[k].t_=(bhT x (cs.take xs[k].done_.toNat)).t/\0<=xs[k].serial_/\xs[k].serial_<=1001*m
 on:∀k (h:k<xs.length),xs[k].on_=true->Pon x N k xs[k]
section
variable {x:yAQ} {N:Nat} {s:List ByteArray} {xs:List yAD} {cs:List yAG} {W:PW} {m n:Nat}
theorem OInv.done_le(h:OInv x N s xs cs W m){k:Nat}(hk:k<xs.length):0<=xs[k].done_/\xs[k].done_<=cs.length:=by
 have H:=h.inv.nd k (by omega) (by rw[←h.xl];omega)
 have e:(W.x k).done=xs[k].done_:=by rw[(h.px k hk).1];rfl
 have d0:=H.d0
 have dl:=H.dl
 rw[e] at d0 dl
 refine⟨d0,?_⟩
 rcases Int.lt_or_le (cs.length:Int) xs[k].done_ with hlt | hle
 ·exact absurd (by rw[h.wl,if_neg (by omega)]) (dl cs.length (by omega) hlt)
 ·exact hle
theorem OInv.upd(h:OInv x N s xs cs W m)(hn:n<N){s':List ByteArray}{cs':List yAG}{W':PW}{X':yAD}(hg:PGeo x N s')(hi:PInv N yT8 xDG W')(hr:∀k:Nat,k<N->yTI (s'.getD (1+N+k) noS) (W'.rc k))
  (hl:OLog x N s' cs') (hw:xNA W' cs') (hv:∀k b v c,W'.vt k b=some (v,c)->∃d,GoodC N d/\v=mkS (yFM d)) (hp:∀k,k<=cs.length->cs'.take k=cs.take k) (hx:W'.x n=xLI X') (ho:∀k:Int,k≠n->W'.x k=W.x k)
  (ht:X'.t_=(bhT x (cs'.take X'.done_.toNat)).t) (hs0:0<=X'.serial_) (hs1:X'.serial_<=1001*((m+1:Nat):Int)) (hon:X'.on_=true->Pon x N n X'):OInv x N s' (xs.set n X') cs' W' (m+1):=by
 refine⟨hg,by rw[List.length_set];exact h.xl,hi,hr,hl,hw,hv,fun k hk=>?_,fun k hk=>?_⟩
 ·rw[List.getElem_set]
  by_cases e:n=k
  ·subst e
   rw[if_pos rfl]
   exact⟨hx,ht,hs0,hs1⟩
  ·rw[if_neg e]
   have hk':k<xs.length:=by simpa using hk
   obtain⟨a1,a2,a3,a4⟩:=h.px k hk'
   have hd:=h.done_le hk'
   exact⟨(ho k (by omega)).trans a1,by rw[hp _ (by omega)];exact a2,a3,by omega⟩
 ·rw[List.getElem_set]
  by_cases e:n=k
  ·subst e
   rw[if_pos rfl]
   exact hon
  ·rw[if_neg e]
   exact h.on k (by simpa using hk)
theorem OInv.one(h:OInv x N s xs cs W m)(hn:n<N){X':yAD}(hi:PInv N yT8 xDG (stX W n (xLI X')))
  (ht:X'.t_=(bhT x (cs.take X'.done_.toNat)).t) (hs0:0<=X'.serial_) (hs1:X'.serial_<=1001*((m+1:Nat):Int)) (hon:X'.on_=true->Pon x N n X'):OInv x N s (xs.set n X') cs (stX W n (xLI X')) (m+1):=
 h.upd hn h.g hi h.rcs h.lg h.wl h.vok (fun _ _=>rfl) (yB7 _ _ _) (fun k hk=>yCS _ _ hk) ht hs0 hs1 hon
def yZr(L:Nat)(x:yAQ)(N:Nat)(s:List ByteArray)(c:List (List V))(xs:List yAD)(cs:List yAG)(m n:Nat)(X:yAD)(q:Int):Prop:=
 ∃s' c' X' cs' W',CE c' N/\yBy L x (dvN s c N N) X n q=some (dvN s' c' N N,X',true,())/\OInv x N s' (xs.set n X') cs' W' (m+1)/\∀k:Nat,(k:Int)<x.Log->s.getD (1+2*N+k) noS≠noS->s'.getD (1+2*N+k) noS=s.getD (1+2*N+k) noS
variable {L:Nat} [yFr L] {c:List (List V)}
theorem yZv(h:OInv x N s xs cs W m)(hc:CE c N)(hn:n<xs.length)(hm:m<=300)(hb:1<=x.Blocks)(hoff:xs[n].on_=false)(q:Int):yZr L x N s c xs cs m n xs[n] q:=by
 obtain⟨n1,n16,l8,l512,s1,s16,sl,hl⟩:=h.g.bd
 have hnN:n<N:=by rw[←h.xl];exact hn
 obtain⟨a1,a2,a3,a4⟩:=h.px n hn
 generalize hX:xs[n]=X at*
 obtain⟨d,hd,hby,hse,hcm⟩:=yXu (L:=L) (X:={X with serial_:=X.serial_+1 }) (cs:=cs.take X.done_.toNat) (n:=n) hnN n16 s16 hb a2 (by show 1<=X.serial_+1;omega) (by show X.serial_+1<=_;omega) q
 have hse:d.Serial=X.serial_+1:=hse
 have hact:yBy L x (dvN s c N N) X n q=some (dvN s c N N,⟨X.t_,X.done_,X.serial_+1,true,⟨n,mkS (yFM d),0,0,yBI.z,yAm.z⟩⟩,true,()):=by
  rw[hoff] at hcm
  unfold yBy yID
  rw[hoff,Bool.not_false,cond_true,yAa (by omega) (by omega)]
  rw[show(dvN s c N N).Keys=((List.range N).map (yJm N)).map inV from rfl,yP2 (by omega) (by omega),Int.toNat_natCast,yRn hnN,show yJm N n=17*(n:Int)+16 from if_pos hnN,hcm,yAC,xDa h.g hnN hd.may hby,yAC]
  rfl
 refine⟨s,c,_,cs,_,hc,hact,h.one hnN (h.inv.begin n (by omega) (by omega) (by omega) _ ?_ ?_ rfl rfl ⟨hd.node n16 hby hnN,hd.ser.trans hse⟩) a2 (by show 0<=X.serial_+1;omega) (by show X.serial_+1<=_;omega) (fun _=>⟨⟨d,hd,rfl,hby,hse⟩,fun e=>absurd (show(1:Int)<=0 from e) (by decide),fun e=>absurd (show(0:Int)=2 from e) (by decide)⟩),fun _ _ _=>rfl⟩
 ·rw[a1];show X.serial_<X.serial_+1;omega
 ·rw[a1];rfl
end
section
variable {L:Nat} [yFr L] {x:yAQ} {N:Nat} {s s':List ByteArray} {c c':List (List V)} {X:yAD} {n:Nat} {q:Int} {a:yBN} {got:ByteArray} {p:yAO} {t:yAM} {done:Int} {over:Bool}
theorem yHr(hon:X.on_=true)(hw:yBU L x X.p_ X.done_=some (a,0,()))(hd:yEM L (dvN s c N N) n a=some (dvN s' c' N N,got,0,()))(ht:yBh L x X.p_ X.t_ X.done_ got=some (p,t,done,over,0,()))(ho:over=true->p.At=0):
  yBy L x (dvN s c N N) X n q=some (dvN s' c' N N,⟨t,done,X.serial_,!over,p⟩,true,()):=by
 have _:=(inferInstance:yFr L)
 unfold yBy yID
 rw[hon,Bool.not_true,cond_false,hw,yAC]
 dsimp only
 rw[show((0:Int) !=0)=false from rfl,cond_false,hd,yAC]
 dsimp only
 rw[show((0:Int) !=0)=false from rfl,cond_false,ht,yAC]
 dsimp only
 rw[show((0:Int) !=0)=false from rfl,cond_false]
 cases over with
 | false=>rfl
 | true=>rw[ho rfl];rfl
theorem xHz(hon:X.on_=true)(hw:yBU L x X.p_ X.done_=some (a,150,())):yBy L x (dvN s c N N) X n q=some (dvN s c N N,{X with on_:=false },true,()):=by
 have _:=(inferInstance:yFr L)
 unfold yBy yID
 rw[hon,Bool.not_true,cond_false,hw,yAC]
 rfl
theorem yZw(hl:s.length<=100000)(hc:CE c N)(hc':CE c' N)(hN:N<=16)(hon:X.on_=true)(hw:yBU L x X.p_ X.done_=some (a,0,()))(hd:yEM L (dvN s c N N) n a=some (dvN s c' N N,got,0,()))(ht:yBh L x X.p_ X.t_ X.done_ got=some (p,t,done,over,150,())):
  yBy L x (dvN s c N N) X n q=some (dvN s c' N N,{X with on_:=false },true,()):=by
 unfold yBy yID
 rw[hon,Bool.not_true,cond_false,hw,yAC]
 dsimp only
 rw[show((0:Int) !=0)=false from rfl,cond_false,hd,yAC]
 dsimp only
 rw[show((0:Int) !=0)=false from rfl,cond_false,ht,yAC]
 dsimp only
 rw[show((150:Int) !=0)=true from rfl,cond_true,show((150:Int)==150)=true from rfl,cond_true,xID hl hc' hc hN,yAC]
end
section
variable {x:yAQ} {N:Nat} {s:List ByteArray} {xs:List yAD} {cs:List yAG} {W:PW} {m n:Nat} {L:Nat} [yFr L] {c:List (List V)}
theorem OInv.nd(h:OInv x N s xs cs W m)(hn:n<xs.length):Nd1 W n:=h.inv.nd n (by omega) (by rw[←h.xl];omega)
theorem OInv.nd2(h:OInv x N s xs cs W m)(hn:n<xs.length)(hon:xs[n].on_=true):Nd2 N yT8 xDG W n:=h.inv.on n (by omega) (by rw[←h.xl];omega) (by rw[(h.px n hn).1];exact hon)
theorem OInv.log_at(h:OInv x N s xs cs W m){k:Nat}(hk:k<cs.length):W.log k=some (mkS (yFM cs[k])):=by
 rw[h.wl,if_pos ⟨by omega,by omega⟩,Int.toNat_natCast,List.getD_eq_getElem?_getD,List.getElem?_eq_getElem hk];rfl
theorem OInv.stop(h:OInv x N s xs cs W m)(hn:n<xs.length):OInv x N s (xs.set n {xs[n] with on_:=false }) cs (stX W n (xLI {xs[n] with on_:=false })) (m+1):=by
 obtain⟨a1,a2,a3,a4⟩:=h.px n hn
 exact h.one (by rw[←h.xl];exact hn) (h.inv.off n (by omega) (by rw[←h.xl];omega) (by have:=h.g.bd;omega) _ (by rw[a1];exact Int.le_refl _) (by rw[a1];rfl) rfl) a2 a3 (by show xs[n].serial_<=_;omega) (fun e=>by cases e)
theorem xFx(h:OInv x N s xs cs W m)(hc:CE c N)(hn:n<xs.length)(hon:xs[n].on_=true)(hat:xs[n].p_.At=0)(q:Int):yZr L x N s c xs cs m n xs[n] q:=by
 obtain⟨n1,n16,l8,l512,s1,s16,sl,hl⟩:=h.g.bd
 have hnN:n<N:=by rw[←h.xl];exact hn
 have N1:=h.nd hn
 have N2:=h.nd2 hn hon
 have hd:=h.done_le hn
 obtain⟨⟨d,gd,hcmd,hby,hse⟩,hdl,hmb⟩:=h.on n hn hon
 obtain⟨a1,a2,a3,a4⟩:=h.px n hn
 have hstop:=h.stop hn
 generalize hX:xs[n]=X at*
 have hgn:=h.g.n
 have hcl:=h.lg.cl
 have slen:s.length<=100000:=by
  have:=yTG (Geo.may_ok h.g.may)
  have:=h.g.len
  omega
 have ho:yBB L X.p_.Cmd=some (d,0,()):=by rw[hcmd];exact yI3 yTV gd.may
 by_cases hfull:X.done_<x.Log
 ·have hw:=xEV (L:=L) h.g.may hat hd.1 hfull
  have hdo:=yQu (N:=N) (L:=L) h.g.ok hc n1 n16 yFr.h (n:=(n:Int)) (by omega) (by omega) (k:=1+2*x.Nodes+X.done_) (by omega) (by omega)
  rw[show(1+2*x.Nodes+X.done_).toNat=1+2*N+X.done_.toNat by omega] at hdo
  by_cases hlt:X.done_.toNat<cs.length
  ·rw[h.lg.at_ _ hlt] at hdo
   have gc:=h.lg.ok _ (List.getElem_mem hlt)
   have hT:yCo L x X.t_ cs[X.done_.toNat]=some (bhT x (cs.take (X.done_.toNat+1))).t:=by
    rw[a2,yUz (N:=N) s16 (by rw[List.length_take];omega) gc,yYT hlt]
   have ht:=xEQ (L:=L) (x:=x) (p:=X.p_) (t:=X.t_) gc.may hat hT hd.1 (by omega) ho
   have hact:=yHr (L:=L) (q:=q) hon hw hdo ht (fun _=>rfl)
   refine⟨s,_,_,cs,_,yGY N,hact,h.one hnN (h.inv.logged n (by omega) (by omega) (by omega) (by rw[a1];exact hon) (mkS (yFM cs[X.done_.toNat])) ?_ _ (by rw[a1];rfl) (by rw[a1];rfl) ?_ rfl (by rw[a1];rfl) ?_) ?_ a3 (by show X.serial_<=_;omega) ?_,fun _ _ _=>rfl⟩
   ·rw[a1]
    show W.log X.done_=_
    rw[←h.log_at hlt,Int.toNat_of_nonneg hd.1]
   ·have:=N2.node
    rw[a1] at this
    exact this
   ·intro hov
    rw[a1]
    rintro⟨e1,e2⟩
    have hov:(!decide (cs[X.done_.toNat].By=d.By/\cs[X.done_.toNat].Serial=d.Serial))=true:=hov
    have hb2:cs[X.done_.toNat].By=d.By/\cs[X.done_.toNat].Serial=d.Serial:=⟨by rw[hby];exact(gc.same n16 hnN).1 e1,by rw[hse,←gc.ser];exact e2⟩
    rw[decide_eq_true hb2] at hov
    cases hov
   ·show _=(bhT x (cs.take (X.done_+1).toNat)).t
    rw[show(X.done_+1).toNat=X.done_.toNat+1 by omega]
   ·intro _
    exact⟨⟨d,gd,hcmd,hby,hse⟩,fun e=>absurd (show(1:Int)<=0 from e) (by decide),fun e=>absurd (show(0:Int)=2 from e) (by decide)⟩
  ·rw[h.lg.end_ _ (by omega) (by omega)] at hdo
   have ht:=xBh (L:=L) (x:=x) (p:=X.p_) (t:=X.t_) h.g.may hat hd.1 ho
   by_cases hr:(d.Kind=0\/d.Kind=2)/\x.Log-4*x.Slots<=X.done_
   ·rw[if_pos hr] at ht
    exact⟨s,_,_,cs,_,yGY N,yZw slen hc (yGY N) n16 hon hw hdo ht,hstop,fun _ _ _=>rfl⟩
   ·rw[if_neg hr] at ht
    have hact:=yHr (L:=L) (q:=q) hon hw hdo ht (fun e=>by cases e)
    refine⟨s,_,_,cs,_,yGY N,hact,h.one hnN (h.inv.free n (by omega) (by omega) (by omega) (by rw[a1];exact hon) ?_ _ (by rw[a1];rfl) (by rw[a1];rfl) ?_ rfl (by rw[a1];rfl)) a2 a3 (by show X.serial_<=_;omega) ?_,fun _ _ _=>rfl⟩
    ·rw[a1]
     show W.log X.done_=none
     rw[h.wl,if_neg (by omega)]
    ·have:=N2.node
     rw[a1] at this
     exact this
    ·intro _
     exact⟨⟨d,gd,hcmd,hby,hse⟩,fun _=>hfull,fun e=>absurd (show(1:Int)=2 from e) (by decide)⟩
 ·have hw:=xBo (L:=L) (x:=x) (p:=X.p_) (done:=X.done_) h.g.may hat hfull
  exact⟨s,_,_,cs,_,hc,xHz hon hw,hstop,fun _ _ _=>rfl⟩
end
section
variable {L N:Nat} [yFr L] {x:yAQ} {s:List ByteArray} {t:yAM} {d:Int} {n:Nat} {R:Nat->yBI} {cmd:ByteArray} {own:yAG} {r:yBI}
end
theorem xKT{i m:Int}(h0:0<=i)(h1:i<=512)(h2:0<=m)(h3:m<=1099511627776):yZt ⟨i,m,0,noS⟩:=by
 show yXC i m 0 []=true
 unfold yXC xB3
 rw[decide_eq_true ⟨h0,h1⟩,decide_eq_true ⟨h2,h3⟩,decide_eq_true ⟨Int.le_refl 0,h2⟩]
 rfl
theorem xDy{i m:Int}{c:yAG}(h0:0<=i)(h1:i<=512)(h2:0<m)(h3:m<=1099511627776):yZt ⟨i,m,m,mkS (yFM c)⟩:=by
 show yXC i m m (mkS (yFM c)).data.toList=true
 have hl:=yM0 c
 have ht:=yOT c
 rw[yXD]
 unfold yXC xB3
 rw[decide_eq_true ⟨h0,h1⟩,decide_eq_true ⟨by omega,h3⟩,decide_eq_true ⟨by omega,Int.le_refl m⟩,show decide ((yFM c).length<=64)=true from decide_eq_true (by omega),show(m==0)=false from beq_eq_false_iff_ne.2 (by omega)]
 cases hc:yFM c with
 | nil=>rw[hc] at hl;simp at hl;omega
 | cons _ _=>rfl
def cN(n:Nat):yAG:=⟨0,17*(n:Int)+16,1,0,0,⟨0,0⟩,0⟩
abbrev cb(n:Nat):ByteArray:=mkS (yFM (cN n))
theorem get_set{s:List ByteArray}{i:Int}{b:ByteArray}(h0:0<=i)(h:i<s.length):(s.set i.toNat b).getD i.toNat noS=b:=by
 rw[List.getD_eq_getElem?_getD,List.getElem?_set_self (by omega)];rfl
section
variable {L N:Nat} [yFr L] {x:yAQ} {s:List ByteArray} {t:yAM}
end
theorem xAm{n m:Int}(h0:0<=n)(h1:n<=15)(hm:0<=m)(h:yVu n m≠0):m<yVu n m/\yVu n m%16=n/\yVu n m<=1099511627776:=by
 unfold yVu at h ⊢
 split at h
 ·rename_i q
  rw[if_pos q]
  split at h
  ·rename_i q2
   rw[if_pos q2]
   split at h
   ·rename_i q3
    rw[if_pos q3];omega
   ·exact absurd rfl h
  ·rename_i q2
   rw[if_neg q2]
   split at h
   ·rename_i q3
    rw[if_pos q3];omega
   ·exact absurd rfl h
 ·exact absurd rfl h
theorem xIg(r:yBI)(k:Int):(recAt r k).Mbal=r.Mbal:=by unfold recAt;split <;> rfl
theorem xIf(r:yBI)(k:Int):(recAt r k).Inst=k:=by
 unfold recAt
 split
 ·assumption
 ·rfl
theorem ySj(N:Int)(p:yAO)(k:Int):(yHa N p k).Cmd=p.Cmd:=by
 unfold yHa
 repeat' split
 all_goals rfl
theorem yQi{a b c:Int}:xB3 a b c=true↔b<=a/\a<=c:=by unfold xB3;exact decide_eq_true_iff
theorem yZt.bd{r:yBI}(h:yZt r):(0<=r.Inst/\r.Inst<=512)/\(0<=r.Mbal/\r.Mbal<=1099511627776)/\(0<=r.Bal/\r.Bal<=r.Mbal)/\r.Val.data.toList.length<=64/\((r.Bal==0)==r.Val.data.toList.isEmpty)=true:=by
 have h:yXC r.Inst r.Mbal r.Bal r.Val.data.toList=true:=h
 unfold yXC at h
 rw[Bool.and_eq_true,Bool.and_eq_true,Bool.and_eq_true,Bool.and_eq_true,yQi,yQi,yQi,decide_eq_true_iff] at h
 exact⟨h.1,h.2.1,h.2.2.1,h.2.2.2.1,h.2.2.2.2⟩
theorem yTI.bd{b:ByteArray}{r:yBI}(h:yTI b r):0<=r.Mbal/\r.Mbal<=1099511627776:=by
 rcases h with ⟨-,rfl⟩ | ⟨h,-⟩
 ·exact⟨Int.le_refl 0,by decide⟩
 ·exact h.bd.2.1
theorem yZt.later{b:ByteArray}{r:yBI}(h:yTI b r){k M:Int}(k0:0<=k)(k1:k<=512)(hm:r.Mbal<M)(hM:M<=1099511627776):yZt ⟨k,M,(recAt r k).Bal,(recAt r k).Val⟩:=by
 have no:yZt ⟨k,M,0,noS⟩:=xKT k0 k1 (by have:=h.bd;omega) hM
 unfold recAt
 split
 ·rcases h with ⟨-,rfl⟩ | ⟨h,-⟩
  ·exact no
  ·obtain⟨b1,b2,b3,b4,b5⟩:=h.bd
   show yXC k M r.Bal r.Val.data.toList=true
   unfold yXC
   rw[yQi.2 ⟨k0,k1⟩,yQi.2 ⟨by omega,hM⟩,yQi.2 ⟨b3.1,by omega⟩,decide_eq_true b4,b5];rfl
 ·exact no
theorem xDr{s:List ByteArray}{i:Nat}{b:ByteArray}(h:i<s.length):(s.set i b).getD i noS=b:=by
 rw[List.getD_eq_getElem?_getD,List.getElem?_set_self h];rfl
theorem yPz{s:List ByteArray}{i j:Nat}{b:ByteArray}(h:i≠j):(s.set i b).getD j noS=s.getD j noS:=by
 rw[List.getD_eq_getElem?_getD,List.getElem?_set_ne h,←List.getD_eq_getElem?_getD]
section
variable {x:yAQ} {N:Nat} {s:List ByteArray} {xs:List yAD} {cs:List yAG} {W:PW} {m n:Nat} {L:Nat} [yFr L] {c:List (List V)}
theorem xFz(h:OInv x N s xs cs W m)(hc:CE c N)(hn:n<xs.length)(hon:xs[n].on_=true)(hat:xs[n].p_.At=1)(q:Int):yZr L x N s c xs cs m n xs[n] q:=by
 obtain⟨n1,n16,l8,l512,s1,s16,sl,hl⟩:=h.g.bd
 have hnN:n<N:=by rw[←h.xl];exact hn
 have N2:=h.nd2 hn hon
 obtain⟨⟨d,gd,hcmd,hby,hse⟩,hdl,hmb⟩:=h.on n hn hon
 obtain⟨a1,a2,a3,a4⟩:=h.px n hn
 have hstop:=h.stop hn
 generalize hX:xs[n]=X at*
 have hgn:=h.g.n
 have slen:s.length<=100000:=by
  have:=yTG (Geo.may_ok h.g.may)
  have:=h.g.len
  omega
 have hnode:X.p_.Node=n:=by
  have:=N2.node
  rw[a1] at this
  exact this
 have hw:=xEW (L:=L) (done:=X.done_) h.g.may hat (by omega) (by omega)
 have hdo:=yQu (N:=N) (L:=L) h.g.ok hc n1 n16 yFr.h (n:=(n:Int)) (by omega) (by omega) (k:=1+x.Nodes+X.p_.Node) (by omega) (by omega)
 rw[show(1+x.Nodes+X.p_.Node).toNat=1+N+n by omega] at hdo
 have hrc:=h.rcs n hnN
 have ht:=xER (L:=L) (x:=x) (p:=X.p_) (t:=X.t_) (done:=X.done_) hat hrc.read
 by_cases hz:yRq X.p_ (W.rc n) X.done_=0
 ·rw[if_pos hz] at ht
  exact⟨s,_,_,cs,_,yGY N,yZw slen hc (yGY N) n16 hon hw hdo ht,hstop,fun _ _ _=>rfl⟩
 ·rw[if_neg hz] at ht
  have hact:=yHr (L:=L) (q:=q) hon hw hdo ht (fun e=>by cases e)
  have hp:(max (max 0 (recAt (W.rc n) X.done_).Mbal) X.p_.T.Seen)<yRq X.p_ (W.rc n) X.done_/\yRq X.p_ (W.rc n) X.done_%16=X.p_.Node/\yRq X.p_ (W.rc n) X.done_<=1099511627776:=xAm (by omega) (by omega) (by omega) hz
  rw[xIg] at hp
  refine⟨s,_,_,cs,_,yGY N,hact,h.one hnN (h.inv.own n (by omega) (by omega) (by omega) (by rw[a1];exact hon) (by rw[a1];exact hat) _ (by rw[a1];rfl) (by rw[a1];rfl) hnode rfl (by rw[a1];rfl) ?_ ?_ ?_) a2 a3 (by show X.serial_<=_;omega) ?_,fun _ _ _=>rfl⟩
  ·show(W.rc n).Mbal<yRq X.p_ (W.rc n) X.done_
   omega
  ·show yRq X.p_ (W.rc n) X.done_%16=n
   omega
  ·rw[a1]
   show(⟨(recAt (W.rc n) X.done_).Inst,_,_,_⟩:yBI)=_
   rw[xIf];rfl
  ·intro _
   exact⟨⟨d,gd,hcmd,hby,hse⟩,fun _=>hdl (by omega),fun _=>hp.2.2⟩
theorem yYL(h:OInv x N s xs cs W m)(hc:CE c N)(hn:n<xs.length)(hon:xs[n].on_=true)(hat:xs[n].p_.At=3\/xs[n].p_.At=5)(q:Int):yZr L x N s c xs cs m n xs[n] q:=by
 obtain⟨n1,n16,l8,l512,s1,s16,sl,hl⟩:=h.g.bd
 have hnN:n<N:=by rw[←h.xl];exact hn
 have N2:=h.nd2 hn hon
 obtain⟨⟨d,gd,hcmd,hby,hse⟩,hdl,hmb⟩:=h.on n hn hon
 obtain⟨a1,a2,a3,a4⟩:=h.px n hn
 generalize hX:xs[n]=X at*
 have hgn:=h.g.n
 have hnode:X.p_.Node=n:=by
  have:=N2.node
  rw[a1] at this
  exact this
 have hrd:0<=X.p_.I/\X.p_.I<N/\X.p_.I≠n:=by
  have:=N2.rd
  rw[a1] at this
  exact this hat
 have hw:=xBp (L:=L) (done:=X.done_) h.g.may hat hrd.1 (by omega)
 have hdo:=yQu (N:=N) (L:=L) h.g.ok hc n1 n16 yFr.h (n:=(n:Int)) (by omega) (by omega) (k:=1+x.Nodes+X.p_.I) (by omega) (by omega)
 rw[show(1+x.Nodes+X.p_.I).toNat=1+N+X.p_.I.toNat by omega] at hdo
 have hrc:=h.rcs X.p_.I.toNat (by omega)
 rw[Int.toNat_of_nonneg hrd.1] at hrc
 have ht:=yWi (L:=L) (x:=x) (p:=X.p_) (t:=X.t_) (done:=X.done_) yFr.h (by omega) (by omega) (by omega) hrd.1 (by omega) hat (hrc.read (L:=L))
 have hact:=yHr (L:=L) (q:=q) hon hw hdo ht (fun e=>by cases e)
 rw[hgn] at hact
 have hpon:∀(hon':(⟨X.t_,X.done_,X.serial_,!false,yIF N X.p_ (W.rc X.p_.I)⟩:yAD).on_=true),Pon x N n ⟨X.t_,X.done_,X.serial_,!false,yIF N X.p_ (W.rc X.p_.I)⟩:=fun _=>
  ⟨⟨d,gd,by show(yHa _ _ _).Cmd=_;rw[ySj];exact hcmd,hby,hse⟩,fun _=>hdl (by omega),fun e=>by
    have e:(yHa N ⟨X.p_.Node,X.p_.Cmd,X.p_.At,X.p_.I,X.p_.Own,yCx X.p_.T (W.rc X.p_.I)⟩ (X.p_.I+1)).At=2:=e
    rw[yHu] at e
    dsimp only at e
    repeat' split at e
    all_goals omega⟩
 rcases hat with hat | hat
 ·exact⟨s,_,_,cs,_,yGY N,hact,h.one hnN (h.inv.read1 n (by omega) (by omega) (by omega) (by rw[a1];exact hon) (by rw[a1];exact hat) _ (by rw[a1];rfl) (by rw[a1];rfl) (by rw[a1];rfl)) a2 a3 (by show X.serial_<=_;omega) hpon,fun _ _ _=>rfl⟩
 ·cases hst:yDO X.p_.T with
  | true=>exact⟨s,_,_,cs,_,yGY N,hact,h.one hnN (h.inv.read2' n (by omega) (by omega) (by omega) (by rw[a1];exact hon) (by rw[a1];exact hat) _ (by rw[a1];rfl) (by rw[a1];rfl) (by rw[a1];rfl) (by rw[a1];exact hst)) a2 a3 (by show X.serial_<=_;omega) hpon,fun _ _ _=>rfl⟩
  | false=>exact⟨s,_,_,cs,_,yGY N,hact,h.upd hnN h.g (h.inv.read2 n (by omega) (by omega) (by omega) (by rw[a1];exact hon) (by rw[a1];exact hat) _ (by rw[a1];rfl) (by rw[a1];rfl) (by rw[a1];rfl) (by rw[a1];exact hst)) h.rcs h.lg h.wl h.vok (fun _ _=>rfl) (yB7 _ _ _) (fun k hk=>yCS _ _ hk) a2 a3 (by show X.serial_<=_;omega) hpon,fun _ _ _=>rfl⟩
end
section
variable {x:yAQ} {N:Nat} {s:List ByteArray} {xs:List yAD} {cs:List yAG} {W:PW} {m n:Nat} {L:Nat} [yFr L] {c:List (List V)}
theorem OLog.rcd(h:OLog x N s cs){k:Nat}(hk:k<N){b:ByteArray}:OLog x N (s.set (1+N+k) b) cs:=
 ⟨h.cl,fun i hi=>by rw[yPz (by omega)];exact h.at_ i hi,fun i h1 h2=>by rw[yPz (by omega)];exact h.end_ i h1 h2,h.ok⟩
theorem xKl(h:∀k:Nat,k<N->yTI (s.getD (1+N+k) noS) (W.rc k))(hn:n<N)(hl:1+N+n<s.length){r:yBI}(hr:yZt r):∀k:Nat,k<N->yTI ((s.set (1+N+n) (xCi r)).getD (1+N+k) noS) (upd W.rc n r k):=fun k hk=>by
 by_cases e:k=n
 ·subst e
  rw[xDr hl,yB7]
  exact .inr ⟨hr,rfl⟩
 ·rw[yPz (by omega),yCS _ _ (by omega)]
  exact h k hk
theorem OInv.val4(h:OInv x N s xs cs W m)(hn:n<xs.length)(hon:xs[n].on_=true)(hat:xs[n].p_.At=4):∃e,GoodC N e/\xs[n].p_.Own.Val=mkS (yFM e):=by
 have N2:=h.nd2 hn hon
 obtain⟨⟨d,gd,hcmd,hby,hse⟩,hdl,hmb⟩:=h.on n hn hon
 have a1:=(h.px n hn).1
 have e4:=N2.a4
 have e34:=N2.a34
 rw[a1] at e4 e34
 obtain⟨-,-,hv⟩:=e4 hat
 obtain⟨-,-,-,hb⟩:=e34 (by show 3<=xs[n].p_.At;omega) (by show xs[n].p_.At<=4;omega)
 have hv:xs[n].p_.Own.Val=if 0<xs[n].p_.T.Best then xs[n].p_.T.Val else xs[n].p_.Cmd:=hv
 by_cases hp:0<xs[n].p_.T.Best
 ·obtain⟨c',hc'⟩:=hb hp
  obtain⟨e,he,hev⟩:=h.vok _ _ _ _ hc'
  exact⟨e,he,by rw[hv,if_pos hp];exact hev⟩
 ·exact⟨d,gd,by rw[hv,if_neg hp];exact hcmd⟩
theorem xBs{X:yAD}{over:Bool}(hN:X.p_.At=2\/X.p_.At=4)(hp:Pon x N n X):Pon x N n ⟨X.t_,X.done_,X.serial_,over,yN9 N X.p_⟩:=
 ⟨by
  obtain⟨d,gd,hcmd,hby,hse⟩:=hp.d
  exact⟨d,gd,by show(yHa _ _ _).Cmd=_;rw[ySj];exact hcmd,hby,hse⟩,fun _=>hp.dl (by omega),fun e=>by
   have e:(yHa N ⟨X.p_.Node,X.p_.Cmd,X.p_.At+1,X.p_.I,X.p_.Own,yYF X.p_.Own X.p_.T.Seen⟩ 0).At=2:=e
   rw[yHu] at e
   dsimp only at e
   repeat' split at e
   all_goals omega⟩
theorem yVL(h:OInv x N s xs cs W m)(hc:CE c N)(hn:n<xs.length)(hon:xs[n].on_=true)(hat:xs[n].p_.At=2\/xs[n].p_.At=4)(q:Int):yZr L x N s c xs cs m n xs[n] q:=by
 obtain⟨n1,n16,l8,l512,s1,s16,sl,hl⟩:=h.g.bd
 have hnN:n<N:=by rw[←h.xl];exact hn
 have N2:=h.nd2 hn hon
 have hd:=h.done_le hn
 have hpon:=h.on n hn hon
 have hv4:=h.val4 hn hon
 obtain⟨a1,a2,a3,a4⟩:=h.px n hn
 generalize hX:xs[n]=X at*
 have hgn:=h.g.n
 have hdl:=hpon.dl (by omega)
 have hnode:X.p_.Node=n:=by
  have:=N2.node
  rw[a1] at this
  exact this
 have hrc:=h.rcs n hnN
 have hmay:yZt X.p_.Own:=by
  rcases hat with hat | hat
  ·have e2:=N2.a2
   rw[a1] at e2
   obtain⟨e1,-,e3⟩:=e2 hat
   have e3:X.p_.Own=⟨X.done_,X.p_.Own.Mbal,(recAt (W.rc n) X.done_).Bal,(recAt (W.rc n) X.done_).Val⟩:=e3
   rw[e3]
   exact yZt.later hrc hd.1 (by omega) e1 (hpon.mb hat)
  ·obtain⟨e,he,hev⟩:=hv4 hat
   have e4:=N2.a4
   have e3:=N2.a3
   rw[a1] at e4 e3
   obtain⟨-,f1,-⟩:=e4 hat
   obtain⟨-,f2,f3,-,-,-,f4⟩:=e3 (by show 3<=X.p_.At;omega)
   have f1:X.p_.Own.Bal=(W.rc n).Mbal:=f1
   have f2:X.p_.Own.Inst=X.done_:=f2
   have f3:X.p_.Own.Mbal=(W.rc n).Mbal:=f3
   have hb:=hrc.bd
   have:X.p_.Own=⟨X.done_,(W.rc n).Mbal,(W.rc n).Mbal,mkS (yFM e)⟩:=by
    cases ho:X.p_.Own with
    | mk i mb b v=>rw[ho] at f1 f2 f3 hev;dsimp only at f1 f2 f3 hev;rw[f1,f2,f3,hev]
   rw[this]
   exact xDy hd.1 (by omega) f4 hb.2
 have hw:=xEX (L:=L) (done:=X.done_) h.g.may hat (by omega) (by omega) hmay
 have hb512:(xCi X.p_.Own).size<=512:=by have:=(yY6 hmay).1;omega
 have hdo:=ySr (N:=N) (L:=L) h.g.ok hc n1 n16 yFr.h (n:=(n:Int)) (by omega) (by omega) (k:=1+x.Nodes+X.p_.Node) (by omega) (by omega) hb512
 rw[show(1+x.Nodes+X.p_.Node).toNat=1+N+n by omega] at hdo
 have ht:=yYG (L:=L) (x:=x) (p:=X.p_) (t:=X.t_) (done:=X.done_) (got:=noS) yFr.h (by omega) (by omega) (by omega) hat
 have hact:=yHr (L:=L) (q:=q) hon hw hdo ht (fun e=>by cases e)
 rw[hgn] at hact
 have hrcs:=xKl (W:=W) h.rcs hnN (by omega) hmay
 have hstay:∀k:Nat,(k:Int)<x.Log->s.getD (1+2*N+k) noS≠noS->(s.set (1+N+n) (xCi X.p_.Own)).getD (1+2*N+k) noS=s.getD (1+2*N+k) noS:=fun k _ _=>yPz (by omega)
 rcases hat with hat | hat
 ·have hi:=h.inv.wrote1 n (by omega) (by omega) (by omega) (by rw[a1];exact hon) (by rw[a1];exact hat) ⟨yN9 N X.p_,X.done_,X.serial_,!false⟩ (by rw[a1];rfl) (by rw[a1];rfl) (by rw[a1];rfl)
  rw[a1] at hi
  exact⟨_,_,_,cs,_,yGY N,hact,h.upd hnN (h.g.set _ hb512) hi hrcs (h.lg.rcd hnN) h.wl h.vok (fun _ _=>rfl) (yB7 _ _ _) (fun k hk=>yCS _ _ hk) a2 a3 (by show X.serial_<=_;omega) (fun _=>xBs (.inl hat) hpon),hstay⟩
 ·obtain⟨e,he,hev⟩:=hv4 hat
  have hi:=h.inv.wrote2 n (by omega) (by omega) (by omega) (by rw[a1];exact hon) (by rw[a1];exact hat) ⟨yN9 N X.p_,X.done_,X.serial_,!false⟩ (by rw[a1];rfl) (by rw[a1];rfl) (by rw[a1];rfl)
  rw[a1] at hi
  refine⟨_,_,_,cs,_,yGY N,hact,h.upd hnN (h.g.set _ hb512) hi hrcs (h.lg.rcd hnN) h.wl (fun k b v c' hv=>?_) (fun _ _=>rfl) (yB7 _ _ _) (fun k hk=>yCS _ _ hk) a2 a3 (by show X.serial_<=_;omega) (fun _=>xBs (.inr hat) hpon),hstay⟩
  have hv:upd W.vt X.done_ (upd (W.vt X.done_) X.p_.Own.Mbal (some (X.p_.Own.Val,X.p_.T.Best))) k b=some (v,c'):=hv
  by_cases e1:k=X.done_
  ·subst e1
   rw[yB7] at hv
   by_cases e2:b=X.p_.Own.Mbal
   ·subst e2
    rw[yB7] at hv
    injection hv with hv
    injection hv with h1 h2
    exact⟨e,he,by rw[←h1];exact hev⟩
   ·rw[yCS _ _ e2] at hv
    exact h.vok _ _ _ _ hv
  ·rw[yCS _ _ e1] at hv
   exact h.vok _ _ _ _ hv
theorem xFw(h:OInv x N s xs cs W m)(hc:CE c N)(hn:n<xs.length)(hon:xs[n].on_=true)(hat:xs[n].p_.At=6)(q:Int):yZr L x N s c xs cs m n xs[n] q:=by
 obtain⟨n1,n16,l8,l512,s1,s16,sl,hl⟩:=h.g.bd
 have hnN:n<N:=by rw[←h.xl];exact hn
 have N2:=h.nd2 hn hon
 have N1:=h.nd hn
 have hd:=h.done_le hn
 obtain⟨⟨d,gd,hcmd,hby,hse⟩,hdl,hmb⟩:=h.on n hn hon
 obtain⟨a1,a2,a3,a4⟩:=h.px n hn
 generalize hX:xs[n]=X at*
 have hgn:=h.g.n
 have hdl:=hdl (by omega)
 have hnode:X.p_.Node=n:=by
  have:=N2.node
  rw[a1] at this
  exact this
 have ho:yBB L X.p_.Cmd=some (d,0,()):=by rw[hcmd];exact yI3 yTV gd.may
 obtain⟨e,he,hev⟩:∃e,GoodC N e/\X.p_.Own.Val=mkS (yFM e):=by
  have f6:=N2.a6
  have f56:=N2.a56
  rw[a1] at f6 f56
  obtain⟨g1,g2⟩:=f56 (by show 5<=X.p_.At;omega)
  obtain⟨v,c',hv⟩:=h.inv.cv _ _ (f6 hat)
  have e1:W.rc n=X.p_.Own:=g1
  have hpos:0<(W.rc n).Bal:=by
   rw[g2]
   exact(h.inv.vo _ _ _ _ hv).b0
  obtain⟨c2,hc2⟩:=N1.rv hpos
  rw[e1] at hc2
  exact h.vok _ _ _ _ hc2
 have hw:=xEU (L:=L) (done:=X.done_) h.g.may hat hd.1 hdl he.may hev
 have hb512:(yTr e).size<=512:=by have:=yVA e;omega
 have hdo:=ySr (N:=N) (L:=L) h.g.ok hc n1 n16 yFr.h (n:=(n:Int)) (by omega) (by omega) (k:=1+2*x.Nodes+X.done_) (by omega) (by omega) hb512
 rw[show(1+2*x.Nodes+X.done_).toNat=1+2*N+X.done_.toNat by omega] at hdo
 have hcl:=h.lg.cl
 have hT:yCo L x X.t_ e=some ((bhT x (cs.take X.done_.toNat)).ap x e).t:=by
  rw[a2];exact yUz (N:=N) s16 (by rw[List.length_take];omega) he
 have ht:=xEP (L:=L) (x:=x) (p:=X.p_) (t:=X.t_) (done:=X.done_) (got:=noS) he.may hat hev hT hd.1 (by omega) ho
 have hact:=yHr (L:=L) (q:=q) hon hw hdo ht (fun _=>rfl)
 obtain⟨hi,hagree⟩:=h.inv.decides n (by omega) (by omega) (by omega) (by rw[a1];exact hon) (by rw[a1];exact hat) ⟨xFF X.p_,X.done_+1,X.serial_,!decide (e.By=d.By/\e.Serial=d.Serial)⟩ (by rw[a1];rfl) (by rw[a1];rfl) hnode rfl (by rw[a1];rfl) (by
  intro hov
  rw[a1]
  show ¬(yT8 X.p_.Own.Val=n/\xDG X.p_.Own.Val=X.serial_)
  rw[hev]
  rintro⟨e1,e2⟩
  have hov:(!decide (e.By=d.By/\e.Serial=d.Serial))=true:=hov
  have hb2:e.By=d.By/\e.Serial=d.Serial:=⟨by rw[hby];exact(he.same n16 hnN).1 e1,by rw[hse,←he.ser];exact e2⟩
  rw[decide_eq_true hb2] at hov
  cases hov)
 rw[a1] at hi hagree
 have hsl:1+2*N+X.done_.toNat<s.length:=by omega
 have hrcs:∀k:Nat,k<N->yTI ((s.set (1+2*N+X.done_.toNat) (yTr e)).getD (1+N+k) noS) (W.rc k):=fun k hk=>by rw[yPz (by omega)];exact h.rcs k hk
 have hpon:∀ov:Bool,ov=true->Pon x N n ⟨((bhT x (cs.take X.done_.toNat)).ap x e).t,X.done_+1,X.serial_,ov,xFF X.p_⟩:=fun _ _=>⟨⟨d,gd,hcmd,hby,hse⟩,fun e=>absurd (show(1:Int)<=0 from e) (by decide),fun e=>absurd (show(0:Int)=2 from e) (by decide)⟩
 by_cases hlt:X.done_.toNat<cs.length
 ·have hsame:cs[X.done_.toNat]=e:=by
    have h1:=h.log_at hlt
    rw[Int.toNat_of_nonneg hd.1] at h1
    have h2:=hagree _ h1
    exact(h.lg.ok _ (List.getElem_mem hlt)).inj he (h2.trans hev)
  have hseq:∀k:Nat,(s.set (1+2*N+X.done_.toNat) (yTr e)).getD (1+2*N+k) noS=s.getD (1+2*N+k) noS:=fun k=>by
   by_cases ek:k=X.done_.toNat
   ·subst ek
    rw[xDr hsl,h.lg.at_ _ hlt,hsame]
   ·exact yPz (by omega)
  refine⟨_,_,_,cs,_,yGY N,hact,h.upd hnN (h.g.set _ hb512) hi hrcs ⟨h.lg.cl,fun i hi=>by rw[hseq];exact h.lg.at_ i hi,fun i h1 h2=>by rw[hseq];exact h.lg.end_ i h1 h2,h.lg.ok⟩ (fun k=>?_) h.vok (fun _ _=>rfl) (yB7 _ _ _) (fun k hk=>yCS _ _ hk) ?_ a3 (by show X.serial_<=_;omega) (hpon _),fun k _ _=>hseq k⟩
  ·show upd W.log X.done_ (some X.p_.Own.Val) k=_
   by_cases ek:k=X.done_
   ·rw[ek,yB7,if_pos ⟨hd.1,by omega⟩,List.getD_eq_getElem?_getD,List.getElem?_eq_getElem hlt,hev,←hsame];rfl
   ·rw[yCS _ _ ek];exact h.wl k
  ·show _=(bhT x (cs.take (X.done_+1).toNat)).t
   rw[show(X.done_+1).toNat=X.done_.toNat+1 by omega,yYT hlt,hsame]
 ·have hdn:X.done_.toNat=cs.length:=by omega
  have htk:cs.take X.done_.toNat=cs:=by rw[hdn];exact List.take_length
  have hcs':(cs++ [e]).length=cs.length+1:=by simp
  refine⟨_,_,_,cs++ [e],_,yGY N,hact,h.upd hnN (h.g.set _ hb512) hi hrcs ⟨by rw[hcs'];omega,fun i hi=>?_,fun i h1 h2=>?_,fun c' hc'=>?_⟩ (fun k=>?_) h.vok (fun k hk=>List.take_append_of_le_length hk) (yB7 _ _ _) (fun k hk=>yCS _ _ hk) ?_ a3 (by show X.serial_<=_;omega) (hpon _),fun k _ hne=>?_⟩
  ·by_cases ei:i<cs.length
   ·rw[yPz (by omega),List.getElem_append_left ei]
    exact h.lg.at_ i ei
   ·have ei2:i=cs.length:=by omega
    subst ei2
    rw[hdn,xDr (by omega)]
    simp
  ·rw[hcs'] at h1
   rw[yPz (by omega)]
   exact h.lg.end_ i (by omega) h2
  ·rcases List.mem_append.1 hc' with hc' | hc'
   ·exact h.lg.ok _ hc'
   ·obtain rfl:c'=e:=by simpa using hc'
    exact he
  ·show upd W.log X.done_ (some X.p_.Own.Val) k=_
   by_cases ek:k=X.done_
   ·rw[ek,yB7,if_pos ⟨hd.1,by omega⟩,List.getD_eq_getElem?_getD,hdn,List.getElem?_append_right (Nat.le_refl _),hev]
    simp
   ·rw[yCS _ _ ek,h.wl k]
    by_cases hk:0<=k/\k<cs.length
    ·rw[if_pos hk,if_pos ⟨hk.1,by omega⟩,List.getD_eq_getElem?_getD,List.getD_eq_getElem?_getD,List.getElem?_append_left (by omega)]
    ·rw[if_neg hk,if_neg (by omega)]
  ·show((bhT x (cs.take X.done_.toNat)).ap x e).t=(bhT x ((cs++ [e]).take (X.done_+1).toNat)).t
   rw[htk,show(X.done_+1).toNat=cs.length+1 by omega,take_len hcs'.symm,xDc]
  ·refine yPz ?_
   intro ek
   have:k=cs.length:=by omega
   subst this
   exact hne (h.lg.end_ _ (Nat.le_refl _) (by omega))
theorem xLN(h:OInv x N s xs cs W m)(hc:CE c N)(hn:n<xs.length)(hm:m<=300)(hb:1<=x.Blocks)(q:Int):yZr L x N s c xs cs m n xs[n] q:=by
 cases hon:xs[n].on_ with
 | false=>exact yZv h hc hn hm hb hon q
 | true=>
   have hat:=(h.nd2 hn hon).at_
   rw[(h.px n hn).1] at hat
   have hat:0<=xs[n].p_.At/\xs[n].p_.At<=6:=hat
   have:xs[n].p_.At=0\/xs[n].p_.At=1\/xs[n].p_.At=2\/xs[n].p_.At=3\/xs[n].p_.At=4\/xs[n].p_.At=5\/xs[n].p_.At=6:=by omega
   rcases this with e | e | e | e | e | e | e
   ·exact xFx h hc hn hon e q
   ·exact xFz h hc hn hon e q
   ·exact yVL h hc hn hon (.inl e) q
   ·exact yYL h hc hn hon (.inl e) q
   ·exact yVL h hc hn hon (.inr e) q
   ·exact yYL h hc hn hon (.inr e) q
   ·exact xFw h hc hn hon e q
end
def yNe(N n j:Int):Int:=N-j-if j<=n then 1 else 0
section
variable (N n:Int) (R:Int->yBI) (d:Int) (lg:Prop)
def Cov(se:Int):Prop:=∀m,0<=m->m<N->m≠n->(R m).Mbal<=se
def Win(mb:Int):Prop:=∀m,0<=m->m<N->m≠n->(R m).Inst=d->(R m).Mbal<=mb
structure RdW (p:yAO):Prop where
 w:Win N n R d p.Own.Mbal
 l:p.T.Lost=false
 a:p.T.Ahead=true->lg
structure RdF (p:yAO) (j:Int):Prop where
 c:∀m,0<=m->m<j->m≠n->(R m).Mbal<=p.T.Seen
 w:p.T.Lost=false->∀m,0<=m->m<j->m≠n->(R m).Inst=d->(R m).Mbal<=p.Own.Mbal
 a:p.T.Ahead=true->lg
def xHw(p:yAO)(j k:Int):Prop:=RdW N n R d lg p/\yNe N n j+N+1<=k\/RdF n R d lg p j/\yNe N n j+2*N+3<=k\/yNe N n j+4*N+6<=k
def xHx(p:yAO)(j k:Int):Prop:=RdW N n R d lg p/\yNe N n j+1<=k\/RdF n R d lg p j/\yNe N n j+2*N+3<=k\/yNe N n j+3*N+5<=k
def Pot(p:yAO)(k:Int):Prop:=
 p.At=0/\(lg/\1<=k\/Cov N n R p.T.Seen/\2*N+3<=k\/3*N+5<=k)\/p.At=1/\(Cov N n R p.T.Seen/\2*N+2<=k\/3*N+4<=k)\/
 p.At=2/\(Win N n R d p.Own.Mbal/\2*N+1<=k\/3*N+3<=k)\/p.At=3/\xHw N n R d lg p p.I k\/
 p.At=4/\(Win N n R d p.Own.Mbal/\N+1<=k\/3*N+3<=k)\/p.At=5/\xHx N n R d lg p p.I k\/p.At=6/\1<=k
end
section
variable {N n:Int} {R:Int->yBI} {d:Int} {lg:Prop} {p:yAO} {j k:Int}
theorem yUG(h0:0<=j)(hn:0<=n):yNe N n (others n j)=yNe N n j:=by
 unfold yNe others
 split
 ·rename_i e
  subst e
  rw[if_neg (by omega),if_pos (Int.le_refl _)];omega
 ·rfl
theorem yYC(hj:j<=N)(hnN:n<N)(h:¬others n j<N):yNe N n j=0:=by
 unfold yNe
 unfold others at h
 split at h
 ·rename_i e
  subst e
  rw[if_pos (Int.le_refl _)];omega
 ·rw[if_neg (by omega)];omega
theorem xFP(hj:j≠n):yNe N n (j+1)=yNe N n j-1:=by
 unfold yNe
 by_cases h:j<=n
 ·rw[if_pos h,if_pos (by omega)];omega
 ·rw[if_neg h,if_neg (by omega)];omega
theorem RdF.others(h:RdF n R d lg p j):RdF n R d lg p (others n j):=by
 have e:∀m,m<Go.Proofs.YtakljpcmbpaeaaaGreat.others n j->m≠n->m<j:=fun m h1 h2=>by
  unfold Go.Proofs.YtakljpcmbpaeaaaGreat.others at h1
  split at h1 <;> omega
 exact⟨fun m h0 h1 h2=>h.c m h0 (e m h1 h2) h2,fun hl m h0 h1 h2=>h.w hl m h0 (e m h1 h2) h2,h.a⟩
theorem RdF.all(h:RdF n R d lg p j)(hj:j<=N)(hnN:n<N)(ho:¬Go.Proofs.YtakljpcmbpaeaaaGreat.others n j<N):Cov N n R p.T.Seen/\(p.T.Lost=false->Win N n R d p.Own.Mbal):=by
 have e:∀m,m<N->m≠n->m<j:=fun m h1 h2=>by
  unfold Go.Proofs.YtakljpcmbpaeaaaGreat.others at ho
  split at ho <;> omega
 exact⟨fun m h0 h1 h2=>h.c m h0 (e m h1 h2) h2,fun hl m h0 h1 h2=>h.w hl m h0 (e m h1 h2) h2⟩
theorem xAv(h0:0<=j)(hj:j<=N)(hn:0<=n)(hnN:n<N)(hno:p.Node=n)(hat:p.At=3)(h:xHw N n R d lg p j k):Pot N n R d lg (yHa N p j) k:=by
 unfold yHa
 rw[hno]
 by_cases hlt:others n j<N
 ·rw[if_pos hlt]
  refine .inr (.inr (.inr (.inl ⟨hat,?_⟩)))
  show xHw N n R d lg _ (others n j) k
  unfold xHw
  rw[yUG h0 hn]
  rcases h with ⟨h,g⟩ | ⟨h,g⟩ | g
  ·exact .inl ⟨⟨h.w,h.l,h.a⟩,g⟩
  ·have h:=h.others
   exact .inr (.inl ⟨⟨h.c,h.w,h.a⟩,g⟩)
  ·exact .inr (.inr g)
 ·rw[if_neg hlt]
  unfold xHw at h
  rw[yYC hj hnN hlt] at h
  cases hst:yDO p.T with
  | true=>
    rw[if_pos rfl]
    refine .inl ⟨rfl,?_⟩
    show lg/\_\/Cov N n R p.T.Seen/\_\/_
    have hal:p.T.Lost=false->p.T.Ahead=true:=fun hl=>by
     unfold yDO at hst
     rw[hl,Bool.or_false] at hst
     exact hst
    rcases h with ⟨h,g⟩ | ⟨h,g⟩ | g
    ·exact .inl ⟨h.a (hal h.l),by omega⟩
    ·exact .inr (.inl ⟨(h.all hj hnN hlt).1,by omega⟩)
    ·exact .inr (.inr (by omega))
  | false=>
    rw[if_neg (by simp),if_neg (by omega)]
    refine .inr (.inr (.inr (.inr (.inl ⟨rfl,?_⟩))))
    show Win N n R d p.Own.Mbal/\_\/_
    have hl:p.T.Lost=false:=(Bool.or_eq_false_iff.1 hst).2
    rcases h with ⟨h,g⟩ | ⟨h,g⟩ | g
    ·exact .inl ⟨h.w,by omega⟩
    ·exact .inl ⟨(h.all hj hnN hlt).2 hl,by omega⟩
    ·exact .inr (by omega)
theorem xAw(h0:0<=j)(hj:j<=N)(hn:0<=n)(hnN:n<N)(hno:p.Node=n)(hat:p.At=5)(h:xHx N n R d lg p j k):Pot N n R d lg (yHa N p j) k:=by
 unfold yHa
 rw[hno]
 by_cases hlt:others n j<N
 ·rw[if_pos hlt]
  refine .inr (.inr (.inr (.inr (.inr (.inl ⟨hat,?_⟩)))))
  show xHx N n R d lg _ (others n j) k
  unfold xHx
  rw[yUG h0 hn]
  rcases h with ⟨h,g⟩ | ⟨h,g⟩ | g
  ·exact .inl ⟨⟨h.w,h.l,h.a⟩,g⟩
  ·have h:=h.others
   exact .inr (.inl ⟨⟨h.c,h.w,h.a⟩,g⟩)
  ·exact .inr (.inr g)
 ·rw[if_neg hlt]
  unfold xHx at h
  rw[yYC hj hnN hlt] at h
  cases hst:yDO p.T with
  | true=>
    rw[if_pos rfl]
    refine .inl ⟨rfl,?_⟩
    show lg/\_\/Cov N n R p.T.Seen/\_\/_
    have hal:p.T.Lost=false->p.T.Ahead=true:=fun hl=>by
     unfold yDO at hst
     rw[hl,Bool.or_false] at hst
     exact hst
    rcases h with ⟨h,g⟩ | ⟨h,g⟩ | g
    ·exact .inl ⟨h.a (hal h.l),by omega⟩
    ·exact .inr (.inl ⟨(h.all hj hnN hlt).1,by omega⟩)
    ·exact .inr (.inr (by omega))
  | false=>
    rw[if_neg (by simp),if_pos hat]
    refine .inr (.inr (.inr (.inr (.inr (.inr ⟨rfl,?_⟩)))))
    rcases h with ⟨h,g⟩ | ⟨h,g⟩ | g <;> omega
theorem RdW.count(h:RdW N n R d lg p)(hti:p.T.Inst=d)(htm:p.T.Mbal=p.Own.Mbal)(hlg:∀m,0<=m->m<N->m≠n->d<(R m).Inst->lg){i:Int}(i0:0<=i)(iN:i<N)(hi:i≠n):RdW N n R d lg ⟨p.Node,p.Cmd,p.At,p.I,p.Own,yCx p.T (R i)⟩:=by
 refine⟨h.w,?_,fun ha=>?_⟩
 ·show(p.T.Lost || (decide ((R i).Inst=p.T.Inst)&&decide (p.T.Mbal<(R i).Mbal)))=false
  rw[h.l,Bool.false_or,hti,htm]
  by_cases e:(R i).Inst=d
  ·rw[decide_eq_false (show ¬p.Own.Mbal<(R i).Mbal by have:=h.w i i0 iN hi e;omega),Bool.and_false]
  ·rw[decide_eq_false e,Bool.false_and]
 ·have ha:(p.T.Ahead || decide (p.T.Inst<(R i).Inst))=true:=ha
  rcases Bool.or_eq_true_iff.1 ha with ha | ha
  ·exact h.a ha
  ·exact hlg i i0 iN hi (by have:=of_decide_eq_true ha;omega)
theorem RdF.count{i:Int}(h:RdF n R d lg p i)(hti:p.T.Inst=d)(htm:p.T.Mbal=p.Own.Mbal)(hlg:∀m,0<=m->m<N->m≠n->d<(R m).Inst->lg)(i0:0<=i)(iN:i<N)(hi:i≠n):RdF n R d lg ⟨p.Node,p.Cmd,p.At,p.I,p.Own,yCx p.T (R i)⟩ (i+1):=by
 refine⟨fun m h0 h1 h2=>?_,fun hl m h0 h1 h2 h3=>?_,fun ha=>?_⟩
 ·show(R m).Mbal<=max p.T.Seen (R i).Mbal
  by_cases e:m=i
  ·subst e;omega
  ·have:=h.c m h0 (by omega) h2;omega
 ·have hl:(p.T.Lost || (decide ((R i).Inst=p.T.Inst)&&decide (p.T.Mbal<(R i).Mbal)))=false:=hl
  obtain⟨hl1,hl2⟩:=Bool.or_eq_false_iff.1 hl
  show(R m).Mbal<=p.Own.Mbal
  by_cases e:m=i
  ·subst e
   rw[hti,decide_eq_true h3,Bool.true_and,htm] at hl2
   have:=of_decide_eq_false hl2;omega
  ·exact h.w hl1 m h0 (by omega) h2 h3
 ·have ha:(p.T.Ahead || decide (p.T.Inst<(R i).Inst))=true:=ha
  rcases Bool.or_eq_true_iff.1 ha with ha | ha
  ·exact h.a ha
  ·exact hlg i i0 iN hi (by have:=of_decide_eq_true ha;omega)
theorem xFG(hn:0<=n)(hnN:n<N)(hno:p.Node=n)(hat:p.At=3\/p.At=5)(i0:0<=p.I)(iN:p.I<N)(hi:p.I≠n)(hti:p.T.Inst=d)(htm:p.T.Mbal=p.Own.Mbal)(hlg:∀m,0<=m->m<N->m≠n->d<(R m).Inst->lg)
  (h:Pot N n R d lg p k):Pot N n R d lg (yIF N p (R p.I)) (k-1):=by
 unfold yIF
 have hr:=xFP (N:=N) hi
 rcases hat with hat | hat
 ·refine xAv (by omega) (by omega) hn hnN hno hat ?_
  have h:xHw N n R d lg p p.I k:=by
   rcases h with ⟨e,_⟩ | ⟨e,_⟩ | ⟨e,_⟩ | ⟨e,h⟩ | ⟨e,_⟩ | ⟨e,_⟩ | ⟨e,_⟩
   all_goals first | exact h | omega
  unfold xHw
  rw[hr]
  rcases h with ⟨h,g⟩ | ⟨h,g⟩ | g
  ·exact .inl ⟨h.count hti htm hlg i0 iN hi,by omega⟩
  ·exact .inr (.inl ⟨h.count hti htm hlg i0 iN hi,by omega⟩)
  ·exact .inr (.inr (by omega))
 ·refine xAw (by omega) (by omega) hn hnN hno hat ?_
  have h:xHx N n R d lg p p.I k:=by
   rcases h with ⟨e,_⟩ | ⟨e,_⟩ | ⟨e,_⟩ | ⟨e,_⟩ | ⟨e,_⟩ | ⟨e,h⟩ | ⟨e,_⟩
   all_goals first | exact h | omega
  unfold xHx
  rw[hr]
  rcases h with ⟨h,g⟩ | ⟨h,g⟩ | g
  ·exact .inl ⟨h.count hti htm hlg i0 iN hi,by omega⟩
  ·exact .inr (.inl ⟨h.count hti htm hlg i0 iN hi,by omega⟩)
  ·exact .inr (.inr (by omega))
theorem xJc(hn:0<=n):yNe N n 0=N-1:=by unfold yNe;rw[if_pos hn];omega
theorem xHA(hn:0<=n)(hnN:n<N)(hno:p.Node=n)(hat:p.At=2\/p.At=4)(h:Pot N n R d lg p k):Pot N n R d lg (yN9 N p) (k-1):=by
 unfold yN9
 have hF:RdF n R d lg ⟨p.Node,p.Cmd,p.At+1,p.I,p.Own,yYF p.Own p.T.Seen⟩ 0:=⟨fun m h0 h1=>by omega,fun _ m h0 h1=>by omega,fun e=>by cases e⟩
 have hW:Win N n R d p.Own.Mbal->RdW N n R d lg ⟨p.Node,p.Cmd,p.At+1,p.I,p.Own,yYF p.Own p.T.Seen⟩:=fun h=>⟨h,rfl,fun e=>by cases e⟩
 rcases hat with hat | hat
 ·refine xAv (Int.le_refl 0) (by omega) hn hnN hno (by show p.At+1=3;omega) ?_
  have h:Win N n R d p.Own.Mbal/\2*N+1<=k\/3*N+3<=k:=by
   rcases h with ⟨e,_⟩ | ⟨e,_⟩ | ⟨e,h⟩ | ⟨e,_⟩ | ⟨e,_⟩ | ⟨e,_⟩ | ⟨e,_⟩
   all_goals first | exact h | omega
  unfold xHw
  rw[xJc hn]
  rcases h with ⟨h,g⟩ | g
  ·exact .inl ⟨hW h,by omega⟩
  ·exact .inr (.inl ⟨hF,by omega⟩)
 ·refine xAw (Int.le_refl 0) (by omega) hn hnN hno (by show p.At+1=5;omega) ?_
  have h:Win N n R d p.Own.Mbal/\N+1<=k\/3*N+3<=k:=by
   rcases h with ⟨e,_⟩ | ⟨e,_⟩ | ⟨e,_⟩ | ⟨e,_⟩ | ⟨e,h⟩ | ⟨e,_⟩ | ⟨e,_⟩
   all_goals first | exact h | omega
  unfold xHx
  rw[xJc hn]
  rcases h with ⟨h,g⟩ | g
  ·exact .inl ⟨hW h,by omega⟩
  ·exact .inr (.inl ⟨hF,by omega⟩)
theorem xIa(hat:p.At=0)(hno:¬lg)(h:Pot N n R d lg p k):Pot N n R d lg ⟨p.Node,p.Cmd,1,p.I,p.Own,p.T⟩ (k-1):=by
 have h:lg/\1<=k\/Cov N n R p.T.Seen/\2*N+3<=k\/3*N+5<=k:=by
  rcases h with ⟨e,h⟩ | ⟨e,_⟩ | ⟨e,_⟩ | ⟨e,_⟩ | ⟨e,_⟩ | ⟨e,_⟩ | ⟨e,_⟩
  all_goals first | exact h | omega
 refine .inr (.inl ⟨rfl,?_⟩)
 rcases h with ⟨h,_⟩ | ⟨h,g⟩ | g
 ·exact absurd h hno
 ·exact .inl ⟨h,by omega⟩
 ·exact .inr (by omega)
theorem xKe(hat:p.At=1){o:yBI}(ho:p.T.Seen<=o.Mbal)(h:Pot N n R d lg p k):Pot N n R d lg ⟨p.Node,p.Cmd,2,p.I,o,p.T⟩ (k-1):=by
 have h:Cov N n R p.T.Seen/\2*N+2<=k\/3*N+4<=k:=by
  rcases h with ⟨e,_⟩ | ⟨e,h⟩ | ⟨e,_⟩ | ⟨e,_⟩ | ⟨e,_⟩ | ⟨e,_⟩ | ⟨e,_⟩
  all_goals first | exact h | omega
 refine .inr (.inr (.inl ⟨rfl,?_⟩))
 rcases h with ⟨h,g⟩ | g
 ·exact .inl ⟨fun m h0 h1 h2 _=>Int.le_trans (h m h0 h1 h2) ho,by omega⟩
 ·exact .inr (by omega)
theorem xKf(hN:1<=N)(hat:p.At=3\/p.At=5->0<=yNe N n p.I)(h:Pot N n R d lg p k):1<=k:=by
 rcases h with ⟨e,h⟩ | ⟨e,h⟩ | ⟨e,h⟩ | ⟨e,h⟩ | ⟨e,h⟩ | ⟨e,h⟩ | ⟨e,h⟩
 ·omega
 ·omega
 ·omega
 ·have:=hat (.inl e);unfold xHw at h;omega
 ·omega
 ·have:=hat (.inr e);unfold xHx at h;omega
 ·omega
theorem xEC(hn:0<=n)(i0:0<=j)(iN:j<N)(hi:j≠n):1<=yNe N n j/\yNe N n j<=N-1\/n<0\/N<=n:=by
 unfold yNe
 split <;> omega
theorem xKd(hN:1<=N)(hn:0<=n)(hnN:n<N)(hat:0<=p.At/\p.At<=6)(hrd:p.At=3\/p.At=5->0<=p.I/\p.I<N/\p.I≠n):Pot N n R d lg p (5*N+5):=by
 have e:p.At=0\/p.At=1\/p.At=2\/p.At=3\/p.At=4\/p.At=5\/p.At=6:=by omega
 have hr:p.At=3\/p.At=5->yNe N n p.I<=N-1:=fun h=>by
  obtain⟨a,b,c⟩:=hrd h
  have:=xEC hn a b c
  omega
 rcases e with e | e | e | e | e | e | e
 ·exact .inl ⟨e,.inr (.inr (by omega))⟩
 ·exact .inr (.inl ⟨e,.inr (by omega)⟩)
 ·exact .inr (.inr (.inl ⟨e,.inr (by omega)⟩))
 ·exact .inr (.inr (.inr (.inl ⟨e,.inr (.inr (by have:=hr (.inl e);omega))⟩)))
 ·exact .inr (.inr (.inr (.inr (.inl ⟨e,.inr (by omega)⟩))))
 ·exact .inr (.inr (.inr (.inr (.inr (.inl ⟨e,.inr (.inr (by have:=hr (.inr e);omega))⟩)))))
 ·exact .inr (.inr (.inr (.inr (.inr (.inr ⟨e,by omega⟩)))))
end
def xHt(L:Nat)(x:yAQ)(N:Nat)(c:List (List V))(n:Int)(a b:PSt)(over:Bool):Prop:=
 ∃act got,yBU L x a.p a.d=some (act,0,())/\yFt L (dvN a.s c N N) n act=some (dvN b.s c N N,got,0,())/\yBh L x a.p a.t a.d got=some (b.p,b.t,b.d,over,0,())
def xLJ(L:Nat)(x:yAQ)(N:Nat)(c:List (List V))(n:Int)(a:PSt):Prop:=
 (∃act,yBU L x a.p a.d=some (act,150,()))\/
 ∃act got p t d o,yBU L x a.p a.d=some (act,0,())/\yFt L (dvN a.s c N N) n act=some (dvN a.s c N N,got,0,())/\yBh L x a.p a.t a.d got=some (p,t,d,o,150,())
section
variable {L N:Nat} [yFr L] {x:yAQ} {c:List (List V)}
abbrev cS(most:Int)(x:yAQ)(N:Nat)(c:List (List V))(p0:yAO)(a:PSt)(acts:Int)(over:Bool):Int×yAQ×yAA×yAO×yAA×yEt×Int×Unit:=
 (most,x,dvN a.s c N N,p0,yAA.z,(⟨a.p,a.t,a.d,acts,over⟩:yEt),0,())
theorem yXt{α:Type}{m:Nat}{most acts:Int}{p0:yAO}{a b:PSt}{ov:Bool}(h:xHt L x N c p0.Node a b ov)(ha:acts<most)(h0:0<=acts)(h1:acts<=1000000)(ka):
  yBL (α:=α) (rF L) (m+1) (cS most x N c p0 a acts false) ka=yBL (rF L) m (cS most x N c p0 b (acts+1) ov) ka:=by
 have _:=(inferInstance:yFr L)
 obtain⟨act,got,h2,h3,h4⟩:=h
 show rF L (cS most x N c p0 a acts false) (fun s'=>yBL (rF L) m s' ka) ka=_
 unfold rF yFS
 dsimp only
 rw[Bool.not_false,cond_true,yAb (decide_eq_true ha),h2,yAC]
 dsimp only
 rw[show((0:Int) !=0)=false from rfl,cond_false,h3,yAC]
 dsimp only
 rw[show((0:Int) !=0)=false from rfl,cond_false,h4,yAC]
 dsimp only
 rw[show((0:Int) !=0)=false from rfl,cond_false,yAa (by omega) (by omega)]
theorem xEk{α:Type}{most acts:Int}{p0:yAO}{a:PSt}(h:xLJ L x N c p0.Node a)(ha:acts<most)(h0:0<=acts)(h1:acts<=1000000):
  ∃D z R,∀(m:Nat) ka,yBL (α:=α) (rF L) (m+1) (cS most x N c p0 a acts false) ka=ka (D,z,R,150,()):=by
 have _:=(inferInstance:yFr L)
 rcases h with ⟨act,h2⟩ | ⟨act,got,p,t,d,o,h2,h3,h4⟩
 ·refine⟨dvN a.s c N N,yAA.z,⟨a.p,a.t,a.d,acts,false⟩,fun m ka=>?_⟩
  show rF L (cS most x N c p0 a acts false) (fun s'=>yBL (rF L) m s' ka) ka=_
  unfold rF yFS
  dsimp only
  rw[Bool.not_false,cond_true,yAb (decide_eq_true ha),h2,yAC]
  rfl
 ·refine⟨dvN a.s c N N,yAA.z,⟨p,t,d,acts+1,o⟩,fun m ka=>?_⟩
  show rF L (cS most x N c p0 a acts false) (fun s'=>yBL (rF L) m s' ka) ka=_
  unfold rF yFS
  dsimp only
  rw[Bool.not_false,cond_true,yAb (decide_eq_true ha),h2,yAC]
  dsimp only
  rw[show((0:Int) !=0)=false from rfl,cond_false,h3,yAC]
  dsimp only
  rw[show((0:Int) !=0)=false from rfl,cond_false,h4,yAC]
  dsimp only
  rw[show((150:Int) !=0)=true from rfl,cond_true,yAa (by omega) (by omega)]
theorem xEl{α:Type}{m:Nat}{most acts:Int}{p0:yAO}{a:PSt}(ka):yBL (α:=α) (rF L) (m+1) (cS most x N c p0 a acts true) ka=ka (dvN a.s c N N,yAA.z,(⟨a.p,a.t,a.d,acts,true⟩:yEt),0,()):=by
 have _:=(inferInstance:yFr L)
 exact rfl
theorem xEo{s:List ByteArray}{p:yAO}{t:yAM}{d most:Int}(h:PGeo x N s)(hc:CE c N):yLM L x (dvN s c N N) p t d most=
  yBL (rF L) L (cS most x N c p ⟨s,p,t,d⟩ 0 false) (fun q4=>some (q4.1,q4.2.2.1,q4.2.2.2.1,())):=by
 obtain⟨n1,n2,l8,l512,s1,s16,sl,hl⟩:=h.bd
 have hM:yJ0 L x=some true:=by rw[yYl yTV (yNR h.may),h.may]
 have hC:yIY L (dvN s c N N)=some 0:=xKA h.ok hc n1 n2 yFr.h (Nat.le_refl _)
 have hT:yNz L x=some (yB3 x).total:=by rw[xGY yTV (yNR h.may)];unfold Geo.totalS;rw[if_pos h.may]
 have hS:((dvN s c N N).S.length:Int)=(yB3 x).total:=by
  show((s.map txV).length:Int)=_
  rw[List.length_map];exact h.len
 unfold yLM yRs
 rw[hM,yAC,Bool.not_true,cond_false,hC,yAC,show((0:Int) !=0)=false from rfl,cond_false,hT,yAC,hS,yAJ (show((yB3 x).total !=(yB3 x).total)=false from bne_self_eq_false _)]
end
theorem xHg:∀{s s':List ByteArray},s.map txV=s'.map txV->s=s'
 | [],[],_=>rfl
 | [],_::_,h=>by cases h
 | _::_,[],h=>by cases h
 | a::s,b::s',h=>by
   rw[List.map_cons,List.map_cons] at h
   injection h with h1 h2
   have h1: [V.str a]= [V.str b]:=h1
   injection h1 with h1
   injection h1 with h1
   rw[h1,xHg h2]
theorem xFy{L:Nat}{x:yAQ}{D:yAA}{X X' X'':yAD}{n q:Int}{s' s'':List ByteArray}{c' c'':List (List V)}{N:Nat}(h1:yBy L x D X n q=some (dvN s' c' N N,X',true,()))(h2:yBy L x D X n q=some (dvN s'' c'' N N,X'',true,())):s'=s''/\X'=X'':=by
 rw[h1] at h2
 injection h2 with h2
 injection h2 with h2 h3
 injection h3 with h3
 injection h2 with h2
 exact⟨xHg h2,h3⟩
theorem yTI.one{L:Nat}[yFr L]{b:ByteArray}{r r':yBI}(h:yTI b r)(h':yTI b r'):r=r':=by
 have e:=(h.read (L:=L)).symm.trans (h'.read (L:=L))
 injection e with e
 injection e
theorem xEJ{L N:Nat}[yFr L]{a b:yAG}(ha:GoodC N a)(hb:GoodC N b)(h:yTr a=yTr b):a=b:=by
 have e:=xCf (L:=L) (ySq yTV ha.may ha.kind)
 rw[h,xCf (L:=L) (ySq yTV hb.may hb.kind)] at e
 injection e with e
 injection e with e
 exact e.symm
theorem xD5{N n:Int}{R:Int->yBI}{d:Int}{lg lg':Prop}{p:yAO}{k:Int}(hl:lg->lg')(h:Pot N n R d lg p k):Pot N n R d lg' p k:=by
 rcases h with ⟨e,h⟩ | ⟨e,h⟩ | ⟨e,h⟩ | ⟨e,h⟩ | ⟨e,h⟩ | ⟨e,h⟩ | ⟨e,h⟩
 ·exact .inl ⟨e,h.imp (fun q=>⟨hl q.1,q.2⟩) id⟩
 ·exact .inr (.inl ⟨e,h⟩)
 ·exact .inr (.inr (.inl ⟨e,h⟩))
 ·exact .inr (.inr (.inr (.inl ⟨e,h.imp (fun q=>⟨⟨q.1.w,q.1.l,fun a=>hl (q.1.a a)⟩,q.2⟩) (fun q=>q.imp (fun q=>⟨⟨q.1.c,q.1.w,fun a=>hl (q.1.a a)⟩,q.2⟩) id)⟩)))
 ·exact .inr (.inr (.inr (.inr (.inl ⟨e,h⟩))))
 ·exact .inr (.inr (.inr (.inr (.inr (.inl ⟨e,h.imp (fun q=>⟨⟨q.1.w,q.1.l,fun a=>hl (q.1.a a)⟩,q.2⟩) (fun q=>q.imp (fun q=>⟨⟨q.1.c,q.1.w,fun a=>hl (q.1.a a)⟩,q.2⟩) id)⟩)))))
 ·exact .inr (.inr (.inr (.inr (.inr (.inr ⟨e,h⟩)))))
def yVJ(L:Nat)(x:yAQ)(N:Nat)(c:List (List V))(s:List ByteArray)(xs:List yAD)(m n:Nat)(X:yAD)(R:Int->yBI)(k:Int):Prop:=
 xLJ L x N c n ⟨s,X.p_,X.t_,X.done_⟩\/
 ∃s' X' cs' W' ov,xHt L x N c n ⟨s,X.p_,X.t_,X.done_⟩ ⟨s',X'.p_,X'.t_,X'.done_⟩ ov/\X'.on_= !ov/\X'.p_.Cmd=X.p_.Cmd/\OInv x N s' (xs.set n X') cs' W' (m+1)/\(∀j:Int,0<=j->j<N->j≠n->W'.rc j=R j)/\X.done_<x.Log/\
  (X'.done_=X.done_+1/\X'.p_.At=0/\(ov=true->∃e d,cs'[X.done_.toNat]?=some e/\X.p_.Cmd=mkS (yFM d)/\GoodC N d/\e.By=d.By/\e.Serial=d.Serial)\/
   ov=false/\X'.done_=X.done_/\Pot N n R X'.done_ (X'.done_<cs'.length) X'.p_ (k-1))
section
variable {x:yAQ} {N:Nat} {s s1:List ByteArray} {xs:List yAD} {cs:List yAG} {W:PW} {m n:Nat} {L:Nat} [yFr L] {c c1:List (List V)} {X X1:yAD} {R:Int->yBI} {k:Int} {ov:Bool}
theorem yTs(h:OInv x N s xs cs W m)(hX:0<=X.done_)(hR:∀j:Int,0<=j->j<N->j≠n->W.rc j=R j)(hA:yZr L x N s c xs cs m n X 0)(hn:n<xs.length)(hact:yBy L x (dvN s c N N) X n 0=some (dvN s1 c1 N N,X1,true,()))(hst:xHt L x N c n ⟨s,X.p_,X.t_,X.done_⟩ ⟨s1,X1.p_,X1.t_,X1.done_⟩ ov)(hon:X1.on_= !ov)(hcmd:X1.p_.Cmd=X.p_.Cmd)
  (hsec:∀j:Nat,j<N->j≠n->s1.getD (1+N+j) noS=s.getD (1+N+j) noS) (hdl:X.done_<x.Log)
  (hfin:∀cs',OLog x N s1 cs'->X1.done_<=cs'.length->(X.done_<cs.length->X.done_<cs'.length)→
    X1.done_=X.done_+1/\X1.p_.At=0/\(ov=true->∃e d,cs'[X.done_.toNat]?=some e/\X.p_.Cmd=mkS (yFM d)/\GoodC N d/\e.By=d.By/\e.Serial=d.Serial)\/
    ov=false/\X1.done_=X.done_/\Pot N n R X1.done_ (X1.done_<cs'.length) X1.p_ (k-1)):yVJ L x N c s xs m n X R k:=by
 obtain⟨s',c',X',cs',W',hc',ha,hi,hstay⟩:=hA
 obtain⟨rfl,rfl⟩:=xFy ha hact
 refine .inr ⟨_,_,cs',W',ov,hst,hon,hcmd,hi,fun j j0 jN jn=>?_,hdl,hfin cs' hi.lg ?_ fun hlt=>?_⟩
 ·have e1:=h.rcs j.toNat (by omega)
  have e2:=hi.rcs j.toNat (by omega)
  rw[hsec j.toNat (by omega) (by omega),Int.toNat_of_nonneg j0] at e2
  rw[Int.toNat_of_nonneg j0] at e1
  rw[←hR j j0 jN jn]
  exact e2.one (L:=L) e1
 ·have:=hi.done_le (k:=n) (by rw[List.length_set];exact hn)
  rw[List.getElem_set_self] at this
  exact this.2
 ·rcases Int.lt_or_le X.done_ cs'.length with h1 | h1
  ·exact h1
  ·have hcl:=h.lg.cl
   have hlt':X.done_.toNat<cs.length:=by omega
   have e1:=h.lg.at_ _ hlt'
   have e2:=hi.lg.end_ X.done_.toNat (by omega) (by omega)
   have hp:=yZa cs[X.done_.toNat]
   have hne:s.getD (1+2*N+X.done_.toNat) noS≠noS:=by
    rw[e1]
    intro e
    rw[e] at hp
    exact absurd hp (by decide)
   rw[hstay X.done_.toNat (by omega) hne] at e2
   exact absurd e2 hne
theorem OInv.ahead(h:OInv x N s xs cs W m)(hR:∀j:Int,0<=j->j<N->j≠n->W.rc j=R j){d:Int}(hd:0<=d):∀j:Int,0<=j->j<N->j≠n->d<(R j).Inst->d<cs.length:=fun j j0 jN jn hlt=>by
 rw[←hR j j0 jN jn] at hlt
 have e:=(h.inv.nd j j0 jN).rl d hd hlt
 rw[h.wl] at e
 by_cases hc:0<=d/\d<cs.length
 ·exact hc.2
 ·rw[if_neg hc] at e
  exact absurd rfl e
theorem xBb(h:OInv x N s xs cs W m)(hc:CE c N)(hn:n<xs.length)(hon:xs[n].on_=true)(hat:xs[n].p_.At=3\/xs[n].p_.At=5)(hR:∀j:Int,0<=j->j<N->j≠n->W.rc j=R j)
  (hk:Pot N n R xs[n].done_ (xs[n].done_<cs.length) xs[n].p_ k):yVJ L x N c s xs m n xs[n] R k:=by
 have hA:=yYL (L:=L) h hc hn hon hat 0
 obtain⟨n1,n16,l8,l512,s1,s16,sl,hl⟩:=h.g.bd
 have hnN:n<N:=by rw[←h.xl];exact hn
 have N2:=h.nd2 hn hon
 have hd:=h.done_le hn
 obtain⟨⟨d,gd,hcmd,hby,hse⟩,hdl,hmb⟩:=h.on n hn hon
 obtain⟨a1,a2,a3,a4⟩:=h.px n hn
 have hah:=h.ahead (n:=n) hR hd.1
 generalize hX:xs[n]=X at*
 have hgn:=h.g.n
 have hnode:X.p_.Node=n:=by
  have:=N2.node
  rw[a1] at this
  exact this
 have hrd:0<=X.p_.I/\X.p_.I<N/\X.p_.I≠n:=by
  have:=N2.rd
  rw[a1] at this
  exact this hat
 have hw:=xBp (L:=L) (done:=X.done_) h.g.may hat hrd.1 (by omega)
 have hdo:=yQu (N:=N) (L:=L) h.g.ok hc n1 n16 yFr.h (n:=(n:Int)) (by omega) (by omega) (k:=1+x.Nodes+X.p_.I) (by omega) (by omega)
 have hdd:=yYh (N:=N) (L:=L) h.g.ok hc n1 n16 yFr.h (n:=(n:Int)) (by omega) (by omega) (k:=1+x.Nodes+X.p_.I) (by omega) (by omega)
 rw[show(1+x.Nodes+X.p_.I).toNat=1+N+X.p_.I.toNat by omega] at hdo hdd
 have hrc:=h.rcs X.p_.I.toNat (by omega)
 rw[Int.toNat_of_nonneg hrd.1] at hrc
 have ht:=yWi (L:=L) (x:=x) (p:=X.p_) (t:=X.t_) (done:=X.done_) yFr.h (by omega) (by omega) (by omega) hrd.1 (by omega) hat (hrc.read (L:=L))
 have hact:=yHr (L:=L) (q:=0) hon hw hdo ht (fun e=>by cases e)
 rw[hgn] at hact ht
 rw[hR _ hrd.1 hrd.2.1 hrd.2.2] at hact ht
 have e3:=N2.a3
 rw[a1] at e3
 obtain⟨-,-,f3,f4,f5,-,-⟩:=e3 (by show 3<=X.p_.At;omega)
 have f3:X.p_.Own.Mbal=(W.rc n).Mbal:=f3
 have f4:X.p_.T.Inst=X.done_:=f4
 have f5:X.p_.T.Mbal=(W.rc n).Mbal:=f5
 refine yTs h hd.1 hR hA hn hact ⟨_,_,hw,hdd,ht⟩ rfl (by show(yHa _ _ _).Cmd=_;rw[ySj]) (fun _ _ _=>rfl) (hdl (by omega)) fun cs' _ _ hm=> .inr ⟨rfl,rfl,?_⟩
 exact xD5 hm (xFG (by omega) (by omega) hnode hat hrd.1 hrd.2.1 hrd.2.2 f4 (f5.trans f3.symm) hah hk)
theorem xIv(h:OInv x N s xs cs W m)(hc:CE c N)(hn:n<xs.length)(hon:xs[n].on_=true)(hat:xs[n].p_.At=1)(hR:∀j:Int,0<=j->j<N->j≠n->W.rc j=R j)
  (hk:Pot N n R xs[n].done_ (xs[n].done_<cs.length) xs[n].p_ k):yVJ L x N c s xs m n xs[n] R k:=by
 have hA:=xFz (L:=L) h hc hn hon hat 0
 obtain⟨n1,n16,l8,l512,s1,s16,sl,hl⟩:=h.g.bd
 have hnN:n<N:=by rw[←h.xl];exact hn
 have N2:=h.nd2 hn hon
 have hd:=h.done_le hn
 obtain⟨⟨d,gd,hcmd,hby,hse⟩,hdl,hmb⟩:=h.on n hn hon
 obtain⟨a1,a2,a3,a4⟩:=h.px n hn
 generalize hX:xs[n]=X at*
 have hgn:=h.g.n
 have hnode:X.p_.Node=n:=by
  have:=N2.node
  rw[a1] at this
  exact this
 have hw:=xEW (L:=L) (done:=X.done_) h.g.may hat (by omega) (by omega)
 have hdo:=yQu (N:=N) (L:=L) h.g.ok hc n1 n16 yFr.h (n:=(n:Int)) (by omega) (by omega) (k:=1+x.Nodes+X.p_.Node) (by omega) (by omega)
 have hdd:=yYh (N:=N) (L:=L) h.g.ok hc n1 n16 yFr.h (n:=(n:Int)) (by omega) (by omega) (k:=1+x.Nodes+X.p_.Node) (by omega) (by omega)
 rw[show(1+x.Nodes+X.p_.Node).toNat=1+N+n by omega] at hdo hdd
 have hrc:=h.rcs n hnN
 have ht:=xER (L:=L) (x:=x) (p:=X.p_) (t:=X.t_) (done:=X.done_) hat hrc.read
 by_cases hz:yRq X.p_ (W.rc n) X.done_=0
 ·rw[if_pos hz] at ht
  exact .inl (.inr ⟨_,_,_,_,_,_,hw,hdd,ht⟩)
 ·rw[if_neg hz] at ht
  have hact:=yHr (L:=L) (q:=0) hon hw hdo ht (fun e=>by cases e)
  have hp:(max (max 0 (recAt (W.rc n) X.done_).Mbal) X.p_.T.Seen)<yRq X.p_ (W.rc n) X.done_/\yRq X.p_ (W.rc n) X.done_%16=X.p_.Node/\yRq X.p_ (W.rc n) X.done_<=1099511627776:=xAm (by omega) (by omega) (by omega) hz
  refine yTs h hd.1 hR hA hn hact ⟨_,_,hw,hdd,ht⟩ rfl rfl (fun _ _ _=>rfl) (hdl (by omega)) fun cs' _ _ hm=> .inr ⟨rfl,rfl,?_⟩
  exact xD5 hm (xKe hat (by show X.p_.T.Seen<=yRq X.p_ (W.rc n) X.done_;omega) hk)
theorem xIu(h:OInv x N s xs cs W m)(hc:CE c N)(hn:n<xs.length)(hon:xs[n].on_=true)(hat:xs[n].p_.At=0)(hR:∀j:Int,0<=j->j<N->j≠n->W.rc j=R j)
  (hk:Pot N n R xs[n].done_ (xs[n].done_<cs.length) xs[n].p_ k):yVJ L x N c s xs m n xs[n] R k:=by
 have hA:=xFx (L:=L) h hc hn hon hat 0
 obtain⟨n1,n16,l8,l512,s1,s16,sl,hl⟩:=h.g.bd
 have hnN:n<N:=by rw[←h.xl];exact hn
 have N2:=h.nd2 hn hon
 have hd:=h.done_le hn
 obtain⟨⟨d,gd,hcmd,hby,hse⟩,hdl,hmb⟩:=h.on n hn hon
 obtain⟨a1,a2,a3,a4⟩:=h.px n hn
 generalize hX:xs[n]=X at*
 have hgn:=h.g.n
 have hcl:=h.lg.cl
 have ho:yBB L X.p_.Cmd=some (d,0,()):=by rw[hcmd];exact yI3 yTV gd.may
 by_cases hfull:X.done_<x.Log
 ·have hw:=xEV (L:=L) h.g.may hat hd.1 hfull
  have hdo:=yQu (N:=N) (L:=L) h.g.ok hc n1 n16 yFr.h (n:=(n:Int)) (by omega) (by omega) (k:=1+2*x.Nodes+X.done_) (by omega) (by omega)
  have hdd:=yYh (N:=N) (L:=L) h.g.ok hc n1 n16 yFr.h (n:=(n:Int)) (by omega) (by omega) (k:=1+2*x.Nodes+X.done_) (by omega) (by omega)
  rw[show(1+2*x.Nodes+X.done_).toNat=1+2*N+X.done_.toNat by omega] at hdo hdd
  by_cases hlt:X.done_.toNat<cs.length
  ·rw[h.lg.at_ _ hlt] at hdo hdd
   have gc:=h.lg.ok _ (List.getElem_mem hlt)
   have hT:yCo L x X.t_ cs[X.done_.toNat]=some (bhT x (cs.take (X.done_.toNat+1))).t:=by
    rw[a2,yUz (N:=N) s16 (by rw[List.length_take];omega) gc,yYT hlt]
   have ht:=xEQ (L:=L) (x:=x) (p:=X.p_) (t:=X.t_) gc.may hat hT hd.1 (by omega) ho
   have hact:=yHr (L:=L) (q:=0) hon hw hdo ht (fun _=>rfl)
   refine yTs h hd.1 hR hA hn hact ⟨_,_,hw,hdd,ht⟩ rfl rfl (fun _ _ _=>rfl) hfull fun cs' hO hle _=> .inl ⟨rfl,rfl,fun hov=>?_⟩
   have hle:X.done_+1<=cs'.length:=hle
   have hlt':X.done_.toNat<cs'.length:=by omega
   have e1:=hO.at_ _ hlt'
   rw[h.lg.at_ _ hlt] at e1
   have e2:=xEJ (L:=L) gc (hO.ok _ (List.getElem_mem hlt')) e1
   have hov:=of_decide_eq_true hov
   exact⟨cs'[X.done_.toNat],d,List.getElem?_eq_getElem hlt',hcmd,gd,by rw[←e2];exact hov.1,by rw[←e2];exact hov.2⟩
  ·rw[h.lg.end_ _ (by omega) (by omega)] at hdo hdd
   have ht:=xBh (L:=L) (x:=x) (p:=X.p_) (t:=X.t_) h.g.may hat hd.1 ho
   by_cases hr:(d.Kind=0\/d.Kind=2)/\x.Log-4*x.Slots<=X.done_
   ·rw[if_pos hr] at ht
    exact .inl (.inr ⟨_,_,_,_,_,_,hw,hdd,ht⟩)
   ·rw[if_neg hr] at ht
    have hact:=yHr (L:=L) (q:=0) hon hw hdo ht (fun e=>by cases e)
    refine yTs h hd.1 hR hA hn hact ⟨_,_,hw,hdd,ht⟩ rfl rfl (fun _ _ _=>rfl) hfull fun cs' _ _ hm=> .inr ⟨rfl,rfl,?_⟩
    exact xD5 hm (xIa hat (by omega) hk)
 ·exact .inl (.inl ⟨_,xBo (L:=L) (x:=x) (p:=X.p_) (done:=X.done_) h.g.may hat hfull⟩)
end
section
variable {x:yAQ} {N:Nat} {s:List ByteArray} {xs:List yAD} {cs:List yAG} {W:PW} {m n:Nat} {L:Nat} [yFr L] {c:List (List V)} {R:Int->yBI} {k:Int}
theorem yYD(h:OInv x N s xs cs W m)(hc:CE c N)(hn:n<xs.length)(hon:xs[n].on_=true)(hat:xs[n].p_.At=2\/xs[n].p_.At=4)(hR:∀j:Int,0<=j->j<N->j≠n->W.rc j=R j)
  (hk:Pot N n R xs[n].done_ (xs[n].done_<cs.length) xs[n].p_ k):yVJ L x N c s xs m n xs[n] R k:=by
 have hA:=yVL (L:=L) h hc hn hon hat 0
 obtain⟨n1,n16,l8,l512,s1,s16,sl,hl⟩:=h.g.bd
 have hnN:n<N:=by rw[←h.xl];exact hn
 have N2:=h.nd2 hn hon
 have hd:=h.done_le hn
 have hpon:=h.on n hn hon
 have hv4:=h.val4 hn hon
 obtain⟨a1,a2,a3,a4⟩:=h.px n hn
 generalize hX:xs[n]=X at*
 have hgn:=h.g.n
 have hdl:=hpon.dl (by omega)
 have hnode:X.p_.Node=n:=by
  have:=N2.node
  rw[a1] at this
  exact this
 have hrc:=h.rcs n hnN
 have hmay:yZt X.p_.Own:=by
  rcases hat with hat | hat
  ·have e2:=N2.a2
   rw[a1] at e2
   obtain⟨e1,-,e3⟩:=e2 hat
   have e3:X.p_.Own=⟨X.done_,X.p_.Own.Mbal,(recAt (W.rc n) X.done_).Bal,(recAt (W.rc n) X.done_).Val⟩:=e3
   rw[e3]
   exact yZt.later hrc hd.1 (by omega) e1 (hpon.mb hat)
  ·obtain⟨e,he,hev⟩:=hv4 hat
   have e4:=N2.a4
   have e3:=N2.a3
   rw[a1] at e4 e3
   obtain⟨-,f1,-⟩:=e4 hat
   obtain⟨-,f2,f3,-,-,-,f4⟩:=e3 (by show 3<=X.p_.At;omega)
   have f1:X.p_.Own.Bal=(W.rc n).Mbal:=f1
   have f2:X.p_.Own.Inst=X.done_:=f2
   have f3:X.p_.Own.Mbal=(W.rc n).Mbal:=f3
   have hb:=hrc.bd
   have:X.p_.Own=⟨X.done_,(W.rc n).Mbal,(W.rc n).Mbal,mkS (yFM e)⟩:=by
    cases ho:X.p_.Own with
    | mk i mb b v=>rw[ho] at f1 f2 f3 hev;dsimp only at f1 f2 f3 hev;rw[f1,f2,f3,hev]
   rw[this]
   exact xDy hd.1 (by omega) f4 hb.2
 have hw:=xEX (L:=L) (done:=X.done_) h.g.may hat (by omega) (by omega) hmay
 have hb512:(xCi X.p_.Own).size<=512:=by have:=(yY6 hmay).1;omega
 have hdo:=ySr (N:=N) (L:=L) h.g.ok hc n1 n16 yFr.h (n:=(n:Int)) (by omega) (by omega) (k:=1+x.Nodes+X.p_.Node) (by omega) (by omega) hb512
 have hdd:=xAG (N:=N) (L:=L) h.g.ok hc n1 n16 yFr.h (n:=(n:Int)) (by omega) (by omega) (k:=1+x.Nodes+X.p_.Node) (by omega) (by omega) hb512
 rw[show(1+x.Nodes+X.p_.Node).toNat=1+N+n by omega] at hdo hdd
 have ht:=yYG (L:=L) (x:=x) (p:=X.p_) (t:=X.t_) (done:=X.done_) (got:=noS) yFr.h (by omega) (by omega) (by omega) hat
 have hact:=yHr (L:=L) (q:=0) hon hw hdo ht (fun e=>by cases e)
 rw[hgn] at hact ht
 refine yTs h hd.1 hR hA hn hact ⟨_,_,hw,hdd,ht⟩ rfl (by show(yHa _ _ _).Cmd=_;rw[ySj]) (fun j _ hj=>yPz (by omega)) hdl fun cs' _ _ hm=> .inr ⟨rfl,rfl,?_⟩
 exact xD5 hm (xHA (by omega) (by omega) hnode hat hk)
theorem xIt(h:OInv x N s xs cs W m)(hc:CE c N)(hn:n<xs.length)(hon:xs[n].on_=true)(hat:xs[n].p_.At=6)(hR:∀j:Int,0<=j->j<N->j≠n->W.rc j=R j):yVJ L x N c s xs m n xs[n] R k:=by
 have hA:=xFw (L:=L) h hc hn hon hat 0
 obtain⟨n1,n16,l8,l512,s1,s16,sl,hl⟩:=h.g.bd
 have hnN:n<N:=by rw[←h.xl];exact hn
 have N2:=h.nd2 hn hon
 have N1:=h.nd hn
 have hd:=h.done_le hn
 obtain⟨⟨d,gd,hcmd,hby,hse⟩,hdl,hmb⟩:=h.on n hn hon
 obtain⟨a1,a2,a3,a4⟩:=h.px n hn
 generalize hX:xs[n]=X at*
 have hgn:=h.g.n
 have hdl:=hdl (by omega)
 have hnode:X.p_.Node=n:=by
  have:=N2.node
  rw[a1] at this
  exact this
 have ho:yBB L X.p_.Cmd=some (d,0,()):=by rw[hcmd];exact yI3 yTV gd.may
 obtain⟨e,he,hev⟩:∃e,GoodC N e/\X.p_.Own.Val=mkS (yFM e):=by
  have f6:=N2.a6
  have f56:=N2.a56
  rw[a1] at f6 f56
  obtain⟨g1,g2⟩:=f56 (by show 5<=X.p_.At;omega)
  obtain⟨v,c',hv⟩:=h.inv.cv _ _ (f6 hat)
  have e1:W.rc n=X.p_.Own:=g1
  have hpos:0<(W.rc n).Bal:=by
   rw[g2]
   exact(h.inv.vo _ _ _ _ hv).b0
  obtain⟨c2,hc2⟩:=N1.rv hpos
  rw[e1] at hc2
  exact h.vok _ _ _ _ hc2
 have hw:=xEU (L:=L) (done:=X.done_) h.g.may hat hd.1 hdl he.may hev
 have hb512:(yTr e).size<=512:=by have:=yVA e;omega
 have hdo:=ySr (N:=N) (L:=L) h.g.ok hc n1 n16 yFr.h (n:=(n:Int)) (by omega) (by omega) (k:=1+2*x.Nodes+X.done_) (by omega) (by omega) hb512
 have hdd:=xAG (N:=N) (L:=L) h.g.ok hc n1 n16 yFr.h (n:=(n:Int)) (by omega) (by omega) (k:=1+2*x.Nodes+X.done_) (by omega) (by omega) hb512
 rw[show(1+2*x.Nodes+X.done_).toNat=1+2*N+X.done_.toNat by omega] at hdo hdd
 have hcl:=h.lg.cl
 have hT:yCo L x X.t_ e=some ((bhT x (cs.take X.done_.toNat)).ap x e).t:=by
  rw[a2];exact yUz (N:=N) s16 (by rw[List.length_take];omega) he
 have ht:=xEP (L:=L) (x:=x) (p:=X.p_) (t:=X.t_) (done:=X.done_) (got:=noS) he.may hat hev hT hd.1 (by omega) ho
 have hact:=yHr (L:=L) (q:=0) hon hw hdo ht (fun _=>rfl)
 refine yTs h hd.1 hR hA hn hact ⟨_,_,hw,hdd,ht⟩ rfl rfl (fun j _ hj=>yPz (by omega)) hdl fun cs' hO hle _=> .inl ⟨rfl,rfl,fun hov=>?_⟩
 have hle:X.done_+1<=cs'.length:=hle
 have hlt':X.done_.toNat<cs'.length:=by omega
 have e1:=hO.at_ _ hlt'
 rw[xDr (by omega)] at e1
 have e2:=xEJ (L:=L) he (hO.ok _ (List.getElem_mem hlt')) e1
 have hov:=of_decide_eq_true hov
 exact⟨cs'[X.done_.toNat],d,List.getElem?_eq_getElem hlt',hcmd,gd,by rw[←e2];exact hov.1,by rw[←e2];exact hov.2⟩
theorem xKx(h:OInv x N s xs cs W m)(hc:CE c N)(hn:n<xs.length)(hon:xs[n].on_=true)(hR:∀j:Int,0<=j->j<N->j≠n->W.rc j=R j)
  (hk:Pot N n R xs[n].done_ (xs[n].done_<cs.length) xs[n].p_ k):yVJ L x N c s xs m n xs[n] R k:=by
 have hat:=(h.nd2 hn hon).at_
 rw[(h.px n hn).1] at hat
 have hat:0<=xs[n].p_.At/\xs[n].p_.At<=6:=hat
 have:xs[n].p_.At=0\/xs[n].p_.At=1\/xs[n].p_.At=2\/xs[n].p_.At=3\/xs[n].p_.At=4\/xs[n].p_.At=5\/xs[n].p_.At=6:=by omega
 rcases this with e | e | e | e | e | e | e
 ·exact xIu h hc hn hon e hR hk
 ·exact xIv h hc hn hon e hR hk
 ·exact yYD h hc hn hon (.inl e) hR hk
 ·exact xBb h hc hn hon (.inl e) hR hk
 ·exact yYD h hc hn hon (.inr e) hR hk
 ·exact xBb h hc hn hon (.inr e) hR hk
 ·exact xIt h hc hn hon e hR
theorem OInv.rd(h:OInv x N s xs cs W m)(hn:n<xs.length)(hon:xs[n].on_=true):0<=xs[n].p_.At/\xs[n].p_.At<=6/\xs[n].p_.Node=n/\(xs[n].p_.At=3\/xs[n].p_.At=5->0<=xs[n].p_.I/\xs[n].p_.I<N/\xs[n].p_.I≠n):=by
 have N2:=h.nd2 hn hon
 have e1:=N2.at_
 have e2:=N2.rd
 have e3:=N2.node
 rw[(h.px n hn).1] at e1 e2 e3
 exact⟨e1.1,e1.2,e3,e2⟩
def xFt(x:yAQ)(N n:Nat)(c:List (List V))(cmd:ByteArray)(frm:Int)(r:yAA×yAA×yEt×Int×Unit):Prop:=
 r.2.2.2.1=150\/∃s' xs' cs' W' m' p t done acts e d,r=(dvN s' c N N,yAA.z,(⟨p,t,done,acts,true⟩:yEt),0,())/\OInv x N s' xs' cs' W' m'/\frm+1<=done/\done<=cs'.length/\acts<=(4*(N:Int)+10)*(done-frm+1)/\1<=done/\
  cs'[(done-1).toNat]?=some e/\cmd=mkS (yFM d)/\GoodC N d/\e.By=d.By/\e.Serial=d.Serial
end
theorem xGR{N j:Int}(hN0:0<=N)(hN:N<=4)(hj:0<=j):5*N+5+(3*N+5)*j-1<(4*N+10)*(j+1):=by
 have e1:(3*N+5)*j=3*(N*j)+5*j:=by rw[Int.add_mul,Int.mul_assoc]
 have e2:(4*N+10)*(j+1)=4*(N*j)+10*j+4*N+10:=by rw[Int.mul_add,Int.add_mul,Int.mul_assoc,Int.mul_one];omega
 have h0:0<=N*j:=Int.mul_nonneg hN0 hj
 omega
theorem xAl{N j l:Int}(hN0:0<=N)(h:j<=l):(4*N+10)*(j+1)<=(4*N+10)*(l+1):=Int.mul_le_mul_of_nonneg_left (by omega) (by omega)
theorem xD2{N d f:Int}:(3*N+5)*(d+1-f)=(3*N+5)*(d-f)+(3*N+5):=by
 rw[show d+1-f=(d-f)+1 by omega,Int.mul_add,Int.mul_one]
section
variable {x:yAQ} {N:Nat} {n:Nat} {L:Nat} [yFr L] {c:List (List V)} {R:Int->yBI} {frm most:Int} {p0:yAO} {cmd:ByteArray} {α:Type}
theorem ends(hN4:N<=4)(hc:CE c N)(hp:p0.Node=n)(hmost:most=(4*(N:Int)+10)*(x.Log-frm+1))(hm6:most<=1000000):∀(f:Nat) (s:List ByteArray) (xs:List yAD) (cs:List yAG) (W:PW) (m:Nat) (acts k:Int) (h:OInv x N s xs cs W m) (hn:n<xs.length),xs[n].on_=true->(∀j:Int,0<=j->j<N->j≠n->W.rc j=R j)→
  Pot N n R xs[n].done_ (xs[n].done_<cs.length) xs[n].p_ k->acts+k<=5*N+5+(3*N+5)*(xs[n].done_-frm)->frm<=xs[n].done_->0<=frm->0<=acts->(most-acts).toNat<=f->xs[n].p_.Cmd=cmd→
  ∃r,xFt x N n c cmd frm r/\∀M ka,f+2<=M->yBL (α:=α) (rF L) M (cS most x N c p0 ⟨s,xs[n].p_,xs[n].t_,xs[n].done_⟩ acts false) ka=ka r
 | f,s,xs,cs,W,m,acts,k,h,hn,hon,hR,hk,hb,hf,hf0,ha,hfu,hcmd=>by
   obtain⟨n1,n16,l8,l512,s1,s16,sl,hl⟩:=h.g.bd
   have hnN:n<N:=by rw[←h.xl];exact hn
   obtain⟨p1,p2,p3,p4⟩:=h.rd hn hon
   have hd:=h.done_le hn
   have hcl:=h.lg.cl
   have k1:1<=k:=xKf (by omega) (fun q=>by
    obtain⟨b1,b2,b3⟩:=p4 q
    have:=xEC (N:=N) (n:=n) (by omega) b1 b2 b3
    omega) hk
   have hlt:acts<most:=by
    have e1:=xGR (N:=N) (j:=xs[n].done_-frm) (by omega) (by omega) (by omega)
    have e2:=xAl (N:=N) (j:=xs[n].done_-frm) (l:=x.Log-frm) (by omega) (by omega)
    rw[←hmost] at e2
    omega
   rcases xKx (L:=L) h hc hn hon hR hk with hfl | ⟨s',X',cs',W',ov,hst,hon',hcm,hi,hR',hdl,hfin⟩
   ·obtain⟨D,z,Rn,hr⟩:=xEk (α:=α) (p0:=p0) (most:=most) (acts:=acts) (by rw[hp];exact hfl) hlt ha (by omega)
    refine⟨(D,z,Rn,150,()),.inl rfl,fun M ka hM=>?_⟩
    obtain⟨M',rfl⟩:∃M',M=M'+1:=⟨M-1,by omega⟩
    exact hr M' ka
   ·have hn':n<(xs.set n X').length:=by rw[List.length_set];exact hn
    have hX':(xs.set n X')[n]=X':=by simp
    have hst':xHt L x N c p0.Node ⟨s,xs[n].p_,xs[n].t_,xs[n].done_⟩ ⟨s',X'.p_,X'.t_,X'.done_⟩ ov:=by rw[hp];exact hst
    have hdn:=hi.done_le hn'
    rw[hX'] at hdn
    cases ov with
    | true=>
      rcases hfin with ⟨q1,q2,q3⟩ | ⟨q,_⟩
      ·obtain⟨e,d,g1,g2,g3,g4,g5⟩:=q3 rfl
       have hz:=xD2 (N:=N) (d:=xs[n].done_) (f:=frm)
       refine⟨(dvN s' c N N,yAA.z,(⟨X'.p_,X'.t_,X'.done_,acts+1,true⟩:yEt),0,()),.inr ⟨s',_,cs',W',m+1,X'.p_,X'.t_,X'.done_,acts+1,e,d,rfl,hi,by omega,hdn.2,?_,by omega,?_,hcmd▸g2,g3,g4,g5⟩,fun M ka hM=>?_⟩
       ·have e1:=xGR (N:=N) (j:=xs[n].done_-frm) (by omega) (by omega) (by omega)
        have e2:=xAl (N:=N) (j:=xs[n].done_-frm) (l:=X'.done_-frm) (by omega) (by omega)
        omega
       ·rw[q1,show xs[n].done_+1-1=xs[n].done_ by omega];exact g1
       ·obtain⟨M',rfl⟩:∃M',M=M'+1+1:=⟨M-2,by omega⟩
        rw[yXt hst' hlt ha (by omega),xEl]
      ·cases q
    | false=>
      obtain⟨f',rfl⟩:∃f',f=f'+1:=⟨f-1,by omega⟩
      have hz:=xD2 (N:=N) (d:=xs[n].done_) (f:=frm)
      obtain⟨k',hk',hb'⟩:∃k',Pot N n R X'.done_ (X'.done_<cs'.length) X'.p_ k'/\acts+1+k'<=5*N+5+(3*N+5)*(X'.done_-frm):=by
       rcases hfin with ⟨q1,q2,-⟩ | ⟨-,q1,q2⟩
       ·refine⟨3*N+5,.inl ⟨q2,.inr (.inr (Int.le_refl _))⟩,?_⟩
        rw[q1,hz]
        omega
       ·exact⟨k-1,q2,by rw[q1];omega⟩
      have hfd:frm<=X'.done_:=by
       rcases hfin with ⟨q1,-⟩ | ⟨-,q1,-⟩ <;> omega
      obtain⟨r,hr1,hr2⟩:=ends hN4 hc hp hmost hm6 f' s' (xs.set n X') cs' W' (m+1) (acts+1) k' hi hn' (by rw[hX',hon'];rfl) hR' (by rw[hX'];exact hk') (by rw[hX'];exact hb') (by rw[hX'];exact hfd) hf0 (by omega) (by omega) (by rw[hX',hcm];exact hcmd)
      refine⟨r,hr1,fun M ka hM=>?_⟩
      obtain⟨M',rfl⟩:∃M',M=M'+1:=⟨M-1,by omega⟩
      rw[yXt hst' hlt ha (by omega)]
      have:=hr2 M' ka (by omega)
      simp only[hX'] at this
      exact this
theorem xEG(hN4:N<=4)(hL:1000000<L){s:List ByteArray}{xs:List yAD}{cs:List yAG}{W:PW}{m:Nat}(h:OInv x N s xs cs W m)(hc:CE c N)(hn:n<xs.length)(hon:xs[n].on_=true)(hlog:x.Log<=60):
  ∃r,xFt x N n c xs[n].p_.Cmd xs[n].done_ r/\yLM L x (dvN s c N N) xs[n].p_ xs[n].t_ xs[n].done_ ((4*(N:Int)+10)*(x.Log-xs[n].done_+1))=some (r.1,r.2.2.1,r.2.2.2.1,()):=by
 obtain⟨n1,n16,l8,l512,s1,s16,sl,hl⟩:=h.g.bd
 have hnN:n<N:=by rw[←h.xl];exact hn
 obtain⟨p1,p2,p3,p4⟩:=h.rd hn hon
 have hd:=h.done_le hn
 have hcl:=h.lg.cl
 obtain⟨most,hmo⟩:∃most,most=(4*(N:Int)+10)*(x.Log-xs[n].done_+1):=⟨_,rfl⟩
 have hm6:0<=most/\most<=26*61:=by
  rw[hmo]
  exact⟨Int.mul_nonneg (by omega) (by omega),Int.mul_le_mul (by omega) (by omega) (by omega) (by omega)⟩
 obtain⟨r,hr1,hr2⟩:=ends (α:=yAA×yEt×Int×Unit) (L:=L) (c:=c) (p0:=xs[n].p_) (R:=W.rc) (frm:=xs[n].done_) (most:=most) (cmd:=xs[n].p_.Cmd) hN4 hc p3 hmo (by omega) most.toNat s xs cs W m 0 (5*N+5) h hn hon (fun _ _ _ _=>rfl) (xKd (by omega) (by omega) (by omega) ⟨p1,p2⟩ p4) (by rw[Int.sub_self,Int.mul_zero];omega) (Int.le_refl _) hd.1 (Int.le_refl _) (by omega) rfl
 refine⟨r,hr1,?_⟩
 rw[←hmo,xEo h.g hc]
 exact hr2 L _ (by omega)
end
abbrev cV:yAG->List V:=yAG.cs
theorem xLS(b:yAG):rowIs yAG.ks [cV b] 0=true:=rfl
section
variable {L:Nat} {l:List yAG} {i:Nat}
theorem cAt(h:i<l.length):(⟨aI (l.map cV) i 0,aI (l.map cV) i 1,aI (l.map cV) i 2,aI (l.map cV) i 3,aI (l.map cV) i 4,⟨aI (l.map cV) i 5,aI (l.map cV) i 6⟩,aI (l.map cV) i 7⟩:yAG)=l[i]:=by
 have e:∀j,aI (l.map cV) i j=aI [cV l[i]] 0 j:=fun j=>congrArg asI (yNs h)
 simp only[e]
 rfl
end
section
variable {x:yAQ} {N:Nat} {s s':List ByteArray} {cs:List yAG} {m n:Nat} {L:Nat} [yFr L] {c c':List (List V)}
end
abbrev pV:yAD->List V:=yAD.cs
theorem xL5(b:yAD):(pV b).all (nmB 20)=true:=rfl
section
variable {l:List yAD} {i:Nat}
theorem pAt(h:i<l.length):(⟨⟨aR (l.map pV) i 0,aR (l.map pV) i 1,aR (l.map pV) i 2⟩,aI (l.map pV) i 3,aI (l.map pV) i 4,aB (l.map pV) i 5,⟨aI (l.map pV) i 6,aS (l.map pV) i 7,aI (l.map pV) i 8,aI (l.map pV) i 9,⟨aI (l.map pV) i 10,aI (l.map pV) i 11,aI (l.map pV) i 12,aS (l.map pV) i 13⟩,⟨aI (l.map pV) i 14,aI (l.map pV) i 15,aI (l.map pV) i 16,aS (l.map pV) i 17,aI (l.map pV) i 18,aB (l.map pV) i 19,aB (l.map pV) i 20⟩⟩⟩:yAD)=l[i]:=by
 have e1:∀j,aI (l.map pV) i j=aI [pV l[i]] 0 j:=fun j=>congrArg asI (yNs h)
 have e2:∀j,aS (l.map pV) i j=aS [pV l[i]] 0 j:=fun j=>congrArg asS (yNs h)
 have e3:∀j,aB (l.map pV) i j=aB [pV l[i]] 0 j:=fun j=>congrArg asB (yNs h)
 have e4:∀j,aR (l.map pV) i j=aR [pV l[i]] 0 j:=fun j=>congrArg asR (yNs h)
 simp only[e1,e2,e3,e4]
 rfl
theorem xM3{w:Nat}(hw:w<l.length)(X:yAD):(l.map pV).set (0+w) (((l.map pV).getD (0+w) []).take 0++(pV X++((l.map pV).getD (0+w) []).drop 21))=(l.set w X).map pV:=by
 rw[Nat.zero_add,yDo (yIe hw),List.map_set];rfl
theorem xL4(X:yAD): [V.sl X.t_.Slots false,V.sl X.t_.Holds false,V.sl X.t_.Queue false,V.int .i64 X.done_,V.int .i64 X.serial_,V.bool X.on_,V.int .i64 X.p_.Node,V.str X.p_.Cmd,V.int .i8 X.p_.At,V.int .i64 X.p_.I,V.int .i64 X.p_.Own.Inst,V.int .i64 X.p_.Own.Mbal,V.int .i64 X.p_.Own.Bal,V.str X.p_.Own.Val,V.int .i64 X.p_.T.Inst,V.int .i64 X.p_.T.Mbal,V.int .i64 X.p_.T.Best,V.str X.p_.T.Val,V.int .i64 X.p_.T.Seen,V.bool X.p_.T.Ahead,V.bool X.p_.T.Lost]=pV X:=rfl
end
def xL3(t:yAM)(ser:Int):yAD:=⟨t,0,ser,false,yAO.z⟩
section
variable {x:yAQ} {N:Nat} {L:Nat} [yFr L]
end
end Go.Proofs.YtakljpcmbpaeaaaGreat
