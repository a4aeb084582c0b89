/- PaxosOne: commands of nodes, what a command's bytes say, the table behind commands, devices held against each other. -/
import Derived.Test.YtakljpcmbpaeaaaGreatPaxosOneM43
import Derived.Test.YtakljpcmbpaeaaaGreatPaxosOneM42
import Derived.Test.YtakljpcmbpaeaaaGreatPaxosOneM23
import Derived.Test.YtakljpcmbpaeaaaGreatPaxosOneM02
set_option linter.unusedSimpArgs false
set_option linter.unusedVariables false
namespace Go.Proofs.YtakljpcmbpaeaaaGreat
open Go.RowKit
def decC(v:ByteArray):yAE:=match yBB 11 v with | some r=>r.1 | none=>yAE.z
theorem decC_eq{c:yAE}(h:MayC c):decC (mkS (cmdL c))=c:=by
 unfold decC
 rw [cRead_enc (by decide) h]
def nodeOf(v:ByteArray):Int:=(decC v).By%16
def serOf(v:ByteArray):Int:=(decC v).Serial
structure GoodC (N:Nat) (c:yAE):Prop where
 may:MayC c
 kind:c.Kind=0∨c.Kind=1∨c.Kind=2
 by_:∃j:Nat,j<N∧c.By=17*(j:Int)+16
theorem GoodC.inj{N:Nat}{c d:yAE}(hc:GoodC N c)(hd:GoodC N d)(h:mkS (cmdL c)=mkS (cmdL d)):c=d:=by
 rw [←decC_eq hc.may,h,decC_eq hd.may]
theorem GoodC.node{N:Nat}(hN:N≤16){c:yAE}(hc:GoodC N c){j:Nat}(h:c.By=17*(j:Int)+16)(hj:j<N):nodeOf (mkS (cmdL c))=j:=by
 unfold nodeOf
 rw [decC_eq hc.may,h];omega
theorem GoodC.ser{N:Nat}{c:yAE}(hc:GoodC N c):serOf (mkS (cmdL c))=c.Serial:=by
 unfold serOf
 rw [decC_eq hc.may]
theorem GoodC.same{N:Nat}(hN:N≤16){c:yAE}(hc:GoodC N c){n:Nat}(hn:n<N):nodeOf (mkS (cmdL c))=n↔c.By=17*(n:Int)+16:=by
 obtain⟨j,hj,e⟩:=hc.by_
 rw [hc.node hN e hj]
 omega
def bhT(x:yAN)(cs:List yAE):Tb:=cs.foldl (Tb.ap x) ⟨List.replicate x.Slots.toNat (0,0),[],[]⟩
theorem fold_s(x:yAN)(cs:List yAE)(a:Tb):(cs.foldl (Tb.ap x) a).s.length=a.s.length:=by
 induction cs generalizing a with
 | nil=>rfl
 | cons c cs ih=>rw [List.foldl_cons,ih,Tb.ap_s]
theorem fold_n(x:yAN)(cs:List yAE)(a:Tb):(cs.foldl (Tb.ap x) a).H.length+(cs.foldl (Tb.ap x) a).Q.length≤a.H.length+a.Q.length+cs.length:=by
 induction cs generalizing a with
 | nil=>exact Nat.le_refl _
 | cons c cs ih=>
   rw [List.foldl_cons,List.length_cons]
   have:=ih (a.ap x c)
   have:=Tb.ap_n x a c
   omega
theorem bhT_s(x:yAN)(cs:List yAE):(bhT x cs).s.length=x.Slots.toNat:=by
 unfold bhT
 rw [fold_s,List.length_replicate]
theorem bhT_n(x:yAN)(cs:List yAE):(bhT x cs).H.length+(bhT x cs).Q.length≤cs.length:=by
 have:=fold_n x cs ⟨List.replicate x.Slots.toNat (0,0),[],[]⟩
 simp only [List.length_nil,Nat.zero_add] at this
 exact this
theorem bhT_snoc(x:yAN)(cs:List yAE)(c:yAE):bhT x (cs++ [c])=(bhT x cs).ap x c:=by
 unfold bhT
 rw [List.foldl_append];rfl
theorem bhT_take{x:yAN}{cs:List yAE}{k:Nat}(h:k<cs.length):bhT x (cs.take (k+1))=(bhT x (cs.take k)).ap x cs[k]:=by
 rw [List.take_succ_eq_append_getElem h,bhT_snoc]
section
variable {L:Nat} [BigL L] {x:yAN}
theorem apply_bh{cs:List yAE}{c:yAE}{N:Nat}(hs:x.Slots≤16)(hl:cs.length≤1000)(hc:GoodC N c):yCw L x (bhT x cs).t c=some ((bhT x cs).ap x c).t:=
 apply_eq BigL.h x _ c (by rw [bhT_s];omega) (by have:=bhT_n x cs;omega) hc.kind
theorem rApply_bh{cs:List yAE}{c:yAE}{N:Nat}(hs:x.Slots≤16)(hl:cs.length≤1000)(hc:GoodC N c):yFO L x (bhT x cs).t c=some ((bhT x cs).ap x c).t:=
 rApply_eq BigL.h x _ c (by rw [bhT_s];omega) (by have:=bhT_n x cs;omega) hc.kind
theorem new_bh(h0:0≤x.Slots)(h16:x.Slots≤16):yCG L x=some (bhT x []).t:=by
 have hL:200000<L:=BigL.h
 have nm:∀n:Nat,rowsNm (List.replicate n (slV (0,0)))=true:=fun n=>by
  have:=rowsNm_sl (List.replicate n (0,0))
  rwa [List.map_replicate] at this
 obtain⟨s,hs⟩:=Int.eq_ofNat_of_zero_le h0
 obtain⟨a,ha,hrun⟩:=loop1_run (α:=yAC) (F:=yK6) (fun q=>x=q.1∧∃j:Nat,j≤s∧(j:Int)=q.2.2.2.1∧(List.replicate j (slV (0,0)),([]:List (List V)),([]:List (List V)),())=q.2.2.1) (fun q=>s-q.2.2.2.1.toNat) (fun a=>a.2.1=(List.replicate s (slV (0,0)),[],[],())) (fun q hq=>by
  obtain⟨q1,q2,q3,q4,q5⟩:=q
  obtain⟨rfl,j,hj,rfl,rfl⟩:=hq
  by_cases hlt:j<s
  ·refine .inl ⟨(x,q2,(List.replicate (j+1) (slV (0,0)),[],[],()),((j+1:Nat):Int),()),⟨rfl,j+1,hlt,rfl,rfl⟩,by dsimp only;omega,fun kn ka=>?_⟩
   have e:List.replicate j (slV (0,0))++ [[V.int .i64 0,V.int .i64 0]]=List.replicate (j+1) (slV (0,0)):=by rw [List.replicate_succ'];rfl
   show(bif decide ((j:Int)<x.Slots) then _ else _)=_
   rw [bif_t (decide_eq_true (by omega))]
   show(bif decide ((j:Int)<16) then _ else _)=_
   rw [bif_t (decide_eq_true (by omega))]
   simp only [gd,gI,gB,gL,gF,gW,gA,gM,List.length_replicate,e,nm,cond_true,Nat.zero_add,Nat.beq_refl,show decide ((j+1)*16≤140737488355328)=true from decide_eq_true (by omega),show decide (j+1≤9223372036854775807)=true from decide_eq_true (by omega),show Nat.ble (j+1) 2000000=true from Nat.ble_eq_true_of_le (by omega)]
   rw [w64_t (by omega) (by omega)]
   rfl
  ·obtain rfl:j=s:=by omega
   refine .inr ⟨(q2,(List.replicate j (slV (0,0)),[],[],()),()),rfl,fun kn ka=>?_⟩
   show(bif decide ((j:Int)<x.Slots) then _ else _)=_
   rw [bif_f (decide_eq_false (by omega))]
   simp only [gd,gI,gB,gL,gF,gW,gA,gM,List.length_replicate,nm,cond_true,Nat.beq_refl,show Nat.ble j 2000000=true from Nat.ble_eq_true_of_le (by omega)]) L (x,yAC.z,([],[],[],()),0,()) ⟨rfl,0,Nat.zero_le _,rfl,rfl⟩ (by dsimp only;omega)
 unfold yCG yQq
 rw [hrun]
 obtain⟨a1,a2,a3⟩:=a
 dsimp only at ha
 subst ha
 simp only [gd,gI,gB,gL,gF,gW,gA,gM,List.length_replicate,nm,cond_true,Nat.zero_add,show Nat.ble s s=true from Nat.ble_eq_true_of_le (Nat.le_refl _),show Nat.ble s 2000000=true from Nat.ble_eq_true_of_le (by omega)]
 unfold bhT Tb.t tbl
 rw [hs]
 dsimp only [List.foldl]
 rw [Int.toNat_natCast,List.map_replicate,List.take_of_length_le (by rw [List.length_replicate];exact Nat.le_refl _)]
 rfl
end
end Go.Proofs.YtakljpcmbpaeaaaGreat

namespace Go.Proofs.YtakljpcmbpaeaaaGreat
open Go.RowKit
theorem band_bd(y:Int)(m:Nat)(hm:m<2^62):0≤IntKind.i64.wrap ((BitVec.ofInt IntKind.i64.bits y &&& BitVec.ofInt IntKind.i64.bits (m:Int)).toNat:Int)∧IntKind.i64.wrap ((BitVec.ofInt IntKind.i64.bits y &&& BitVec.ofInt IntKind.i64.bits (m:Int)).toNat:Int)≤m:=by
 have h1:(BitVec.ofInt IntKind.i64.bits y &&& BitVec.ofInt IntKind.i64.bits (m:Int)).toNat≤m:=by
  rw [BitVec.toNat_and]
  refine Nat.le_trans Nat.and_le_right ?_
  show(BitVec.ofInt 64 (m:Int)).toNat≤m
  rw [BitVec.toNat_ofInt]
  have:((m:Int)%((2^64:Nat):Int))=m:=Int.emod_eq_of_lt (by omega) (by omega)
  rw [this];omega
 rw [wrap64 (by omega) (by omega)]
 omega
section
variable {L:Nat} [BigL L] {x:yAN} {N:Nat} {s:List ByteArray} {c:List (List V)}
theorem cmd_may{k by_ ser:Int}(hb:keyP by_)(h1:1≤ser)(h2:ser≤2147483648)(hk:k=0∨k=1):MayC ⟨k,by_,ser,0,0,yAG.z,0⟩:=⟨hb,h1,h2,.inl ⟨hk,rfl,rfl,rfl,rfl,rfl⟩⟩
theorem ask_may{by_ ser lo m:Int}(hb:keyP by_)(h1:1≤ser)(h2:ser≤2147483648)(l0:0≤lo)(l1:lo<64)(hm:m=1∨m=2):MayC ⟨2,by_,ser,0,0,⟨lo,lo⟩,m⟩:=⟨hb,h1,h2,.inr (.inl ⟨rfl,l0,Int.le_refl _,l1,hm,rfl,rfl⟩)⟩
theorem command_eq{X:yAB}{cs:List yAE}{n:Nat}(hn:n<N)(hN:N≤16)(hs:x.Slots≤16)(hb:1≤x.Blocks)(ht:X.t_=(bhT x cs).t)(h1:1≤X.serial_)(h2:X.serial_≤2147483648)(q:Int):
  ∃d,GoodC N d∧d.By=17*(n:Int)+16∧d.Serial=X.serial_∧yIo L x X (17*(n:Int)+16) q=some (mkS (cmdL d)):=by
 have hk:keyP (17*(n:Int)+16):=⟨by omega,by omega⟩
 have fin:∀(d:yAE),MayC d→(d.Kind=0∨d.Kind=1∨d.Kind=2)→d.By=17*(n:Int)+16→d.Serial=X.serial_→∀y,y=(bindO (yB6 L d) fun r=>some r.1)→∃d,GoodC N d∧d.By=17*(n:Int)+16∧d.Serial=X.serial_∧y=some (mkS (cmdL d)):=fun d hd hk2 hby hse y hy=>
  ⟨d,⟨hd,hk2,n,hn,hby⟩,hby,hse,by rw [hy,rBytes_mla hL10 hd hk2];rfl⟩
 have f01:∀k:Int,k=0∨k=1→∀y,y=(bindO (yB6 L ⟨k,17*(n:Int)+16,X.serial_,0,0,yAG.z,0⟩) fun r=>some r.1)→∃d,GoodC N d∧d.By=17*(n:Int)+16∧d.Serial=X.serial_∧y=some (mkS (cmdL d)):=fun k hk01 y hy=>
  fin ⟨k,17*(n:Int)+16,X.serial_,0,0,yAG.z,0⟩ (cmd_may hk h1 h2 hk01) (by show k=0∨k=1∨k=2;omega) rfl rfl y hy
 have fa:∀lo m:Int,0≤lo→lo<64→(m=1∨m=2)→∀y,y=(bindO (yB6 L ⟨2,17*(n:Int)+16,X.serial_,0,0,⟨lo,lo⟩,m⟩) fun r=>some r.1)→∃d,GoodC N d∧d.By=17*(n:Int)+16∧d.Serial=X.serial_∧y=some (mkS (cmdL d)):=fun lo m l0 l1 hm y hy=>
  fin ⟨2,17*(n:Int)+16,X.serial_,0,0,⟨lo,lo⟩,m⟩ (ask_may hk h1 h2 l0 l1 hm) (.inr (.inr rfl)) rfl rfl y hy
 have b7:=band_bd (q.fdiv (2^(min (2:Int).toNat IntKind.i64.bits))) 7 (by decide)
 unfold yIo yMK
 rw [rslot_eq (s:=(bhT x cs).s) BigL.h (by rw [bhT_s];omega) (by rw [ht];rfl),bindO_s]
 dsimp only
 have b3:=band_bd q 3 (by decide)
 rw [show((3:Nat):Int)=3 from rfl] at b3
 rw [show((7:Nat):Int)=7 from rfl] at b7
 generalize IntKind.i64.wrap ((BitVec.ofInt IntKind.i64.bits q &&& BitVec.ofInt IntKind.i64.bits 3).toNat:Int)=r at b3 ⊢
 generalize IntKind.i64.wrap ((BitVec.ofInt IntKind.i64.bits (q.fdiv (2^(min (2:Int).toNat IntKind.i64.bits))) &&& BitVec.ofInt IntKind.i64.bits 7).toNat:Int)=u at b7 ⊢
 have hlo:0≤u.tmod x.Blocks∧u.tmod x.Blocks<64:=by
  rw [Int.tmod_eq_emod_of_nonneg b7.1]
  have e1:=Int.emod_nonneg u (show x.Blocks≠0 by omega)
  have e2:u%x.Blocks<x.Blocks:=Int.emod_lt_of_pos u (by omega)
  by_cases h:u<x.Blocks
  ·rw [Int.emod_eq_of_lt b7.1 h];omega
  ·omega
 have hB:decide (x.Blocks=0)=false:=decide_eq_false (by omega)
 have hr:r=0∨r=1∨r=2∨r=3:=by omega
 cases (slotB (bhT x cs).s (17*(n:Int)+16)).2 <;> rcases hr with rfl | rfl | rfl | rfl
 ·exact f01 0 (.inl rfl) _ rfl
 ·exact f01 0 (.inl rfl) _ rfl
 ·exact f01 0 (.inl rfl) _ rfl
 ·exact f01 0 (.inl rfl) _ rfl
 ·exact f01 1 (.inr rfl) _ rfl
 ·refine fa (u.tmod x.Blocks) 1 hlo.1 hlo.2 (.inl rfl) _ ?_
  rw [hB];rfl
 ·refine fa (u.tmod x.Blocks) 2 hlo.1 hlo.2 (.inr rfl) _ ?_
  rw [hB];rfl
 ·exact f01 0 (.inl rfl) _ rfl
theorem begin_eq{n:Nat}{d:yAE}(h:PGeo x N s)(hn:n<N)(hd:MayC d)(hb:d.By=17*(n:Int)+16):yHw L x n (mkS (cmdL d))=some (⟨n,mkS (cmdL d),0,0,yBG.z,yAg.z⟩,0,()):=by
 have hbd:=h.bd
 have hM:yLG L x=some true:=by rw [gMay_eq hL10 (geo_i64 h.may),h.may]
 have hO:yNa L d.By=some (n:Int):=by
  unfold yNa yO8
  rw [cKey_eq,decide_eq_true hd.1,bindO_s,cond_true,hb]
  show some ((17*(n:Int)+16).tmod 16)=_
  rw [Int.tmod_eq_emod_of_nonneg (by omega)]
  congr 1
  omega
 unfold yHw yN5
 rw [cRead_enc hL10 hd,bindO_s]
 dsimp only
 rw [show((0:Int) !=0)=false from rfl,cond_false,hM,bindO_s,Bool.not_true,cond_false,bif_f (decide_eq_false (by omega)),bif_f (decide_eq_false (by rw [h.n];omega)),hO,bindO_s,bif_f (show((n:Int) !=n)=false from bne_self_eq_false _)]
theorem sect_same(hl:s.length≤100000):yEc L (s.map txV) (s.map txV)=some true:=by
 have hL:200000<L:=BigL.h
 unfold yEc yH3
 rw [bif_f (bne_self_eq_false _)]
 exact loop2_cnt (F:=yCy) (fun k=>(s.map txV,s.map txV,(k:Int),())) s.length () (fun k hk kn ka kb=>by
  show(bif decide ((k:Int)<((s.map txV).length:Int)) then _ else _)=_
  dsimp only
  rw [List.length_map,bif_t (decide_eq_true (by omega)),gI_tx (by omega) (by omega),gI_tx (by omega) (by omega),beq_self_eq_true,w64_t (by omega) (by omega)]
  rfl) (fun kn ka kb=>by
  show(bif decide ((s.length:Int)<((s.map txV).length:Int)) then _ else _)=_
  rw [List.length_map,bif_f (decide_eq_false (by omega))]) s.length 0 L (by omega) (by omega) _ _
theorem ints_same{l:List Int}(hl:l.length≤100000):yL9 L (l.map inV) (l.map inV)=some true:=by
 have hL:200000<L:=BigL.h
 unfold yL9 yPO
 rw [bif_f (bne_self_eq_false _)]
 exact loop2_cnt (F:=yIu) (fun k=>(l.map inV,l.map inV,(k:Int),())) l.length () (fun k hk kn ka kb=>by
  show(bif decide ((k:Int)<((l.map inV).length:Int)) then _ else _)=_
  dsimp only
  rw [List.length_map,bif_t (decide_eq_true (by omega)),gI_in (by omega) (by omega),gI_in (by omega) (by omega),bif_f (bne_self_eq_false _),w64_t (by omega) (by omega)]
  rfl) (fun kn ka kb=>by
  show(bif decide ((l.length:Int)<((l.map inV).length:Int)) then _ else _)=_
  rw [List.length_map,bif_f (decide_eq_false (by omega))]) l.length 0 L (by omega) (by omega) _ _
theorem dev_same{c':List (List V)}(hl:s.length≤100000)(hc:CE c N)(hc':CE c' N)(hN:N≤16){j:Nat}:yNi L (dvN s c N j) (dvN s c' N j)=some true:=by
 have hL:200000<L:=BigL.h
 unfold yNi yPa dvN
 dsimp only
 rw [sect_same hl,bindO_s,Bool.not_true,cond_false,hc.1,hc'.1,bif_f (bne_self_eq_false _),ints_same (by rw [List.length_map,List.length_range];omega),bindO_s,Bool.not_true,cond_false,bif_f (bne_self_eq_false _),show yL9 L [] []=some true from ints_same (l:= []) (Nat.zero_le _),bindO_s,Bool.not_true,cond_false]
 refine loop2_cnt (F:=yI6 (loop2 (yFN) L)) (fun k=>(dvN s c N j,dvN s c' N j,(k:Int),())) N () (fun k hk kn ka kb=>?_) (fun kn ka kb=>?_) N 0 L (by omega) (by omega) _ _
 ·obtain⟨m,rfl⟩:∃m,L=m+1:=⟨L-1,by omega⟩
  show(bif decide ((k:Int)<(c.length:Int)) then _ else _)=_
  unfold dvN
  dsimp only
  rw [hc.1,bif_t (decide_eq_true (by omega)),hc.gI (by omega) (by omega),hc'.gI (by omega) (by omega),Int.toNat_natCast,hc.aR hk,hc'.aR hk,bif_f (bne_self_eq_false _)]
  show(gI c kL (k:Int) (bif decide ((0:Int)<((aR c (k:Int).toNat 0).length:Int)) then _ else _))=_
  rw [hc.gI (by omega) (by omega),Int.toNat_natCast,hc.aR hk,bif_f (by rfl)]
  show kn (_,_,w64 ((k:Int)+1),())=_
  rw [w64_t (by omega) (by omega)]
  rfl
 ·show(bif decide ((N:Int)<(c.length:Int)) then _ else _)=_
  rw [hc.1,bif_f (decide_eq_false (by omega))]
theorem hold_same{l:List yAI}(hl:l.length≤100000):yGQ L (l.map hV) (l.map hV)=some true:=by
 have hL:200000<L:=BigL.h
 unfold yGQ yKC
 rw [bif_f (bne_self_eq_false _)]
 exact loop2_cnt (F:=yD0) (fun k=>(l.map hV,l.map hV,(k:Int),())) l.length () (fun k hk kn ka kb=>by
  show(bif decide ((k:Int)<((l.map hV).length:Int)) then _ else _)=_
  dsimp only
  rw [List.length_map,bif_t (decide_eq_true (by omega)),gI_m hV_row hk,gI_m hV_row hk]
  simp only [beq_self_eq_true,Bool.true_and,Bool.not_true,cond_false]
  rw [w64_t (by omega) (by omega)]
  rfl) (fun kn ka kb=>by
  show(bif decide ((l.length:Int)<((l.map hV).length:Int)) then _ else _)=_
  rw [List.length_map,bif_f (decide_eq_false (by omega))]) l.length 0 L (by omega) (by omega) _ _
theorem tab_same{a:Tb}(hs:a.s.length≤1000)(hl:a.H.length+a.Q.length≤10000):yNk L a.t a.t=some true:=by
 have hL:200000<L:=BigL.h
 unfold yNk yPk
 rw [bif_f (bne_self_eq_false _),show a.t.Holds=a.H.map hV from rfl,show a.t.Queue=a.Q.map hV from rfl,hold_same (by omega),bindO_s,Bool.not_true,cond_false,hold_same (by omega),bindO_s,Bool.not_true,cond_false]
 exact loop2_cnt (F:=yJH) (fun k=>(a.t,a.t,(k:Int),())) a.s.length () (fun k hk kn ka kb=>by
  show(bif decide ((k:Int)<((a.s.map slV).length:Int)) then _ else _)=_
  dsimp only
  rw [show a.t.Slots=a.s.map slV from rfl,List.length_map,bif_t (decide_eq_true (by omega)),gI_m slV_row hk,gI_m slV_row hk]
  simp only [beq_self_eq_true,Bool.true_and,Bool.not_true,cond_false]
  rw [w64_t (by omega) (by omega)]
  rfl) (fun kn ka kb=>by
  show(bif decide ((a.s.length:Int)<((a.s.map slV).length:Int)) then _ else _)=_
  rw [List.length_map,bif_f (decide_eq_false (by omega))]) a.s.length 0 L (by omega) (by omega) _ _
end
end Go.Proofs.YtakljpcmbpaeaaaGreat

namespace Go.Proofs.YtakljpcmbpaeaaaGreat
open Go.RowKit
def pxOf(X:yAB):PX:=⟨X.p_,X.done_,X.serial_,X.on_⟩
structure Pon (x:yAN) (N n:Nat) (X:yAB):Prop where
 d:∃d,GoodC N d∧X.p_.Cmd=mkS (cmdL d)∧d.By=17*(n:Int)+16∧d.Serial=X.serial_
 dl:1≤X.p_.At→X.done_<x.Log
 mb:X.p_.At=2→X.p_.Own.Mbal≤1099511627776
structure OLog (x:yAN) (N:Nat) (s:List ByteArray) (cs:List yAE):Prop where
 cl:(cs.length:Int)≤x.Log
 at_:∀i (h:i<cs.length),s.getD (1+2*N+i) noS=secC cs[i]
 end_:∀i:Nat,cs.length≤i→(i:Int)<x.Log→s.getD (1+2*N+i) noS=noS
 ok:∀c∈cs,GoodC N c
def WLog(W:PW)(cs:List yAE):Prop:=∀k:Int,W.log k=if 0≤k∧k<cs.length then some (mkS (cmdL (cs.getD k.toNat yAE.z))) else none
structure OInv (x:yAN) (N:Nat) (s:List ByteArray) (xs:List yAB) (cs:List yAE) (W:PW) (m:Nat):Prop where
 g:PGeo x N s
 xl:xs.length=N
 inv:PInv N nodeOf serOf W
 rcs:∀k:Nat,k<N→RecIs (s.getD (1+N+k) noS) (W.rc k)
 lg:OLog x N s cs
 wl:WLog W cs
 vok:∀k b v c,W.vt k b=some (v,c)→∃d,GoodC N d∧v=mkS (cmdL d)
 px:∀k (h:k<xs.length),W.x k=pxOf xs[k]∧xs[k].t_=(bhT x (cs.take xs[k].done_.toNat)).t∧0≤xs[k].serial_∧xs[k].serial_≤1001*m
 on:∀k (h:k<xs.length),xs[k].on_=true→Pon x N k xs[k]
section
variable {x:yAN} {N:Nat} {s:List ByteArray} {xs:List yAB} {cs:List yAE} {W:PW} {m n:Nat}
theorem OInv.done_le(h:OInv x N s xs cs W m){k:Nat}(hk:k<xs.length):0≤xs[k].done_∧xs[k].done_≤cs.length:=by
 have H:=h.inv.nd k (by omega) (by rw [←h.xl];omega)
 have e:(W.x k).done=xs[k].done_:=by rw [(h.px k hk).1];rfl
 have d0:=H.d0
 have dl:=H.dl
 rw [e] at d0 dl
 refine⟨d0,?_⟩
 rcases Int.lt_or_le (cs.length:Int) xs[k].done_ with hlt | hle
 ·exact absurd (by rw [h.wl,if_neg (by omega)]) (dl cs.length (by omega) hlt)
 ·exact hle
theorem OInv.upd(h:OInv x N s xs cs W m)(hn:n<N){s':List ByteArray}{cs':List yAE}{W':PW}{X':yAB}(hg:PGeo x N s')(hi:PInv N nodeOf serOf W')(hr:∀k:Nat,k<N→RecIs (s'.getD (1+N+k) noS) (W'.rc k))
  (hl:OLog x N s' cs') (hw:WLog W' cs') (hv:∀k b v c,W'.vt k b=some (v,c)→∃d,GoodC N d∧v=mkS (cmdL d)) (hp:∀k,k≤cs.length→cs'.take k=cs.take k) (hx:W'.x n=pxOf X') (ho:∀k:Int,k≠n→W'.x k=W.x k)
  (ht:X'.t_=(bhT x (cs'.take X'.done_.toNat)).t) (hs0:0≤X'.serial_) (hs1:X'.serial_≤1001*((m+1:Nat):Int)) (hon:X'.on_=true→Pon x N n X'):OInv x N s' (xs.set n X') cs' W' (m+1):=by
 refine⟨hg,by rw [List.length_set];exact h.xl,hi,hr,hl,hw,hv,fun k hk=>?_,fun k hk=>?_⟩
 ·rw [List.getElem_set]
  by_cases e:n=k
  ·subst e
   rw [if_pos rfl]
   exact⟨hx,ht,hs0,hs1⟩
  ·rw [if_neg e]
   have hk':k<xs.length:=by simpa using hk
   obtain⟨a1,a2,a3,a4⟩:=h.px k hk'
   have hd:=h.done_le hk'
   exact⟨(ho k (by omega)).trans a1,by rw [hp _ (by omega)];exact a2,a3,by omega⟩
 ·rw [List.getElem_set]
  by_cases e:n=k
  ·subst e
   rw [if_pos rfl]
   exact hon
  ·rw [if_neg e]
   exact h.on k (by simpa using hk)
theorem OInv.one(h:OInv x N s xs cs W m)(hn:n<N){X':yAB}(hi:PInv N nodeOf serOf (stX W n (pxOf X')))
  (ht:X'.t_=(bhT x (cs.take X'.done_.toNat)).t) (hs0:0≤X'.serial_) (hs1:X'.serial_≤1001*((m+1:Nat):Int)) (hon:X'.on_=true→Pon x N n X'):OInv x N s (xs.set n X') cs (stX W n (pxOf X')) (m+1):=
 h.upd hn h.g hi h.rcs h.lg h.wl h.vok (fun _ _=>rfl) (upd_same _ _ _) (fun k hk=>upd_other _ _ hk) ht hs0 hs1 hon
def ActOK(L:Nat)(x:yAN)(N:Nat)(s:List ByteArray)(c:List (List V))(xs:List yAB)(cs:List yAE)(m n:Nat)(X:yAB)(q:Int):Prop:=
 ∃s' c' X' cs' W',CE c' N∧yCl L x (dvN s c N N) X n q=some (dvN s' c' N N,X',true,())∧OInv x N s' (xs.set n X') cs' W' (m+1)∧∀k:Nat,(k:Int)<x.Log→s.getD (1+2*N+k) noS≠noS→s'.getD (1+2*N+k) noS=s.getD (1+2*N+k) noS
variable {L:Nat} [BigL L] {c:List (List V)}
theorem act_begin(h:OInv x N s xs cs W m)(hc:CE c N)(hn:n<xs.length)(hm:m≤300)(hb:1≤x.Blocks)(hoff:xs[n].on_=false)(q:Int):ActOK L x N s c xs cs m n xs[n] q:=by
 obtain⟨n1,n16,l8,l512,s1,s16,sl,hl⟩:=h.g.bd
 have hnN:n<N:=by rw [←h.xl];exact hn
 obtain⟨a1,a2,a3,a4⟩:=h.px n hn
 generalize hX:xs[n]=X at*
 obtain⟨d,hd,hby,hse,hcm⟩:=command_eq (L:=L) (X:={X with serial_:=X.serial_+1 }) (cs:=cs.take X.done_.toNat) (n:=n) hnN n16 s16 hb a2 (by show 1≤X.serial_+1;omega) (by show X.serial_+1≤_;omega) q
 have hse:d.Serial=X.serial_+1:=hse
 have hact:yCl L x (dvN s c N N) X n q=some (dvN s c N N,⟨X.t_,X.done_,X.serial_+1,true,⟨n,mkS (cmdL d),0,0,yBG.z,yAg.z⟩⟩,true,()):=by
  rw [hoff] at hcm
  unfold yCl yJi
  rw [hoff,Bool.not_false,cond_true,w64_t (by omega) (by omega)]
  rw [show(dvN s c N N).Keys=((List.range N).map (keyN N)).map inV from rfl,keys_gI (by omega) (by omega),Int.toNat_natCast,keys_at hnN,show keyN N n=17*(n:Int)+16 from if_pos hnN,hcm,bindO_s,begin_eq h.g hnN hd.may hby,bindO_s]
  rfl
 refine⟨s,c,_,cs,_,hc,hact,h.one hnN (h.inv.begin n (by omega) (by omega) (by omega) _ ?_ ?_ rfl rfl ⟨hd.node n16 hby hnN,hd.ser.trans hse⟩) a2 (by show 0≤X.serial_+1;omega) (by show X.serial_+1≤_;omega) (fun _=>⟨⟨d,hd,rfl,hby,hse⟩,fun e=>absurd (show(1:Int)≤0 from e) (by decide),fun e=>absurd (show(0:Int)=2 from e) (by decide)⟩),fun _ _ _=>rfl⟩
 ·rw [a1];show X.serial_<X.serial_+1;omega
 ·rw [a1];rfl
end
end Go.Proofs.YtakljpcmbpaeaaaGreat

namespace Go.Proofs.YtakljpcmbpaeaaaGreat
open Go.RowKit
section
variable {L:Nat} [BigL L] {x:yAN} {N:Nat} {s s':List ByteArray} {c c':List (List V)} {X:yAB} {n:Nat} {q:Int} {a:yA5} {got:ByteArray} {p:yAR} {t:yAC} {done:Int} {over:Bool}
theorem act_take(hon:X.on_=true)(hw:yBf L x X.p_ X.done_=some (a,0,()))(hd:yDz L (dvN s c N N) n a=some (dvN s' c' N N,got,0,()))(ht:yBi L x X.p_ X.t_ X.done_ got=some (p,t,done,over,0,()))(ho:over=true→p.At=0):
  yCl L x (dvN s c N N) X n q=some (dvN s' c' N N,⟨t,done,X.serial_,!over,p⟩,true,()):=by
 have _:=(inferInstance:BigL L)
 unfold yCl yJi
 rw [hon,Bool.not_true,cond_false,hw,bindO_s]
 dsimp only
 rw [show((0:Int) !=0)=false from rfl,cond_false,hd,bindO_s]
 dsimp only
 rw [show((0:Int) !=0)=false from rfl,cond_false,ht,bindO_s]
 dsimp only
 rw [show((0:Int) !=0)=false from rfl,cond_false]
 cases over with
 | false=>rfl
 | true=>rw [ho rfl];rfl
theorem act_full(hon:X.on_=true)(hw:yBf L x X.p_ X.done_=some (a,150,())):yCl L x (dvN s c N N) X n q=some (dvN s c N N,{X with on_:=false },true,()):=by
 have _:=(inferInstance:BigL L)
 unfold yCl yJi
 rw [hon,Bool.not_true,cond_false,hw,bindO_s]
 rfl
theorem act_space(hl:s.length≤100000)(hc:CE c N)(hc':CE c' N)(hN:N≤16)(hon:X.on_=true)(hw:yBf L x X.p_ X.done_=some (a,0,()))(hd:yDz L (dvN s c N N) n a=some (dvN s c' N N,got,0,()))(ht:yBi L x X.p_ X.t_ X.done_ got=some (p,t,done,over,150,())):
  yCl L x (dvN s c N N) X n q=some (dvN s c' N N,{X with on_:=false },true,()):=by
 unfold yCl yJi
 rw [hon,Bool.not_true,cond_false,hw,bindO_s]
 dsimp only
 rw [show((0:Int) !=0)=false from rfl,cond_false,hd,bindO_s]
 dsimp only
 rw [show((0:Int) !=0)=false from rfl,cond_false,ht,bindO_s]
 dsimp only
 rw [show((150:Int) !=0)=true from rfl,cond_true,show((150:Int)==150)=true from rfl,cond_true,dev_same hl hc' hc hN,bindO_s]
end
section
variable {x:yAN} {N:Nat} {s:List ByteArray} {xs:List yAB} {cs:List yAE} {W:PW} {m n:Nat} {L:Nat} [BigL L] {c:List (List V)}
theorem OInv.nd(h:OInv x N s xs cs W m)(hn:n<xs.length):Nd1 W n:=h.inv.nd n (by omega) (by rw [←h.xl];omega)
theorem OInv.nd2(h:OInv x N s xs cs W m)(hn:n<xs.length)(hon:xs[n].on_=true):Nd2 N nodeOf serOf W n:=h.inv.on n (by omega) (by rw [←h.xl];omega) (by rw [(h.px n hn).1];exact hon)
theorem OInv.log_at(h:OInv x N s xs cs W m){k:Nat}(hk:k<cs.length):W.log k=some (mkS (cmdL cs[k])):=by
 rw [h.wl,if_pos ⟨by omega,by omega⟩,Int.toNat_natCast,List.getD_eq_getElem?_getD,List.getElem?_eq_getElem hk];rfl
theorem OInv.stop(h:OInv x N s xs cs W m)(hn:n<xs.length):OInv x N s (xs.set n {xs[n] with on_:=false }) cs (stX W n (pxOf {xs[n] with on_:=false })) (m+1):=by
 obtain⟨a1,a2,a3,a4⟩:=h.px n hn
 exact h.one (by rw [←h.xl];exact hn) (h.inv.off n (by omega) (by rw [←h.xl];omega) (by have:=h.g.bd;omega) _ (by rw [a1];exact Int.le_refl _) (by rw [a1];rfl) rfl) a2 a3 (by show xs[n].serial_≤_;omega) (fun e=>by cases e)
theorem act_log(h:OInv x N s xs cs W m)(hc:CE c N)(hn:n<xs.length)(hon:xs[n].on_=true)(hat:xs[n].p_.At=0)(q:Int):ActOK L x N s c xs cs m n xs[n] q:=by
 obtain⟨n1,n16,l8,l512,s1,s16,sl,hl⟩:=h.g.bd
 have hnN:n<N:=by rw [←h.xl];exact hn
 have N1:=h.nd hn
 have N2:=h.nd2 hn hon
 have hd:=h.done_le hn
 obtain⟨⟨d,gd,hcmd,hby,hse⟩,hdl,hmb⟩:=h.on n hn hon
 obtain⟨a1,a2,a3,a4⟩:=h.px n hn
 have hstop:=h.stop hn
 generalize hX:xs[n]=X at*
 have hgn:=h.g.n
 have hcl:=h.lg.cl
 have slen:s.length≤100000:=by
  have:=total_bd (Geo.may_ok h.g.may)
  have:=h.g.len
  omega
 have ho:yBB L X.p_.Cmd=some (d,0,()):=by rw [hcmd];exact cRead_enc hL10 gd.may
 by_cases hfull:X.done_<x.Log
 ·have hw:=want_log (L:=L) h.g.may hat hd.1 hfull
  have hdo:=rdo_read (N:=N) (L:=L) h.g.ok hc n1 n16 BigL.h (n:=(n:Int)) (by omega) (by omega) (k:=1+2*x.Nodes+X.done_) (by omega) (by omega)
  rw [show(1+2*x.Nodes+X.done_).toNat=1+2*N+X.done_.toNat by omega] at hdo
  by_cases hlt:X.done_.toNat<cs.length
  ·rw [h.lg.at_ _ hlt] at hdo
   have gc:=h.lg.ok _ (List.getElem_mem hlt)
   have hT:yCw L x X.t_ cs[X.done_.toNat]=some (bhT x (cs.take (X.done_.toNat+1))).t:=by
    rw [a2,apply_bh (N:=N) s16 (by rw [List.length_take];omega) gc,bhT_take hlt]
   have ht:=take_log (L:=L) (x:=x) (p:=X.p_) (t:=X.t_) gc.may hat hT hd.1 (by omega) ho
   have hact:=act_take (L:=L) (q:=q) hon hw hdo ht (fun _=>rfl)
   refine⟨s,_,_,cs,_,cE_ok N,hact,h.one hnN (h.inv.logged n (by omega) (by omega) (by omega) (by rw [a1];exact hon) (mkS (cmdL cs[X.done_.toNat])) ?_ _ (by rw [a1];rfl) (by rw [a1];rfl) ?_ rfl (by rw [a1];rfl) ?_) ?_ a3 (by show X.serial_≤_;omega) ?_,fun _ _ _=>rfl⟩
   ·rw [a1]
    show W.log X.done_=_
    rw [←h.log_at hlt,Int.toNat_of_nonneg hd.1]
   ·have:=N2.node
    rw [a1] at this
    exact this
   ·intro hov
    rw [a1]
    rintro⟨e1,e2⟩
    have hov:(!decide (cs[X.done_.toNat].By=d.By∧cs[X.done_.toNat].Serial=d.Serial))=true:=hov
    have hb2:cs[X.done_.toNat].By=d.By∧cs[X.done_.toNat].Serial=d.Serial:=⟨by rw [hby];exact(gc.same n16 hnN).1 e1,by rw [hse,←gc.ser];exact e2⟩
    rw [decide_eq_true hb2] at hov
    cases hov
   ·show _=(bhT x (cs.take (X.done_+1).toNat)).t
    rw [show(X.done_+1).toNat=X.done_.toNat+1 by omega]
   ·intro _
    exact⟨⟨d,gd,hcmd,hby,hse⟩,fun e=>absurd (show(1:Int)≤0 from e) (by decide),fun e=>absurd (show(0:Int)=2 from e) (by decide)⟩
  ·rw [h.lg.end_ _ (by omega) (by omega)] at hdo
   have ht:=take_free (L:=L) (x:=x) (p:=X.p_) (t:=X.t_) h.g.may hat hd.1 ho
   by_cases hr:(d.Kind=0∨d.Kind=2)∧x.Log-4*x.Slots≤X.done_
   ·rw [if_pos hr] at ht
    exact⟨s,_,_,cs,_,cE_ok N,act_space slen hc (cE_ok N) n16 hon hw hdo ht,hstop,fun _ _ _=>rfl⟩
   ·rw [if_neg hr] at ht
    have hact:=act_take (L:=L) (q:=q) hon hw hdo ht (fun e=>by cases e)
    refine⟨s,_,_,cs,_,cE_ok N,hact,h.one hnN (h.inv.free n (by omega) (by omega) (by omega) (by rw [a1];exact hon) ?_ _ (by rw [a1];rfl) (by rw [a1];rfl) ?_ rfl (by rw [a1];rfl)) a2 a3 (by show X.serial_≤_;omega) ?_,fun _ _ _=>rfl⟩
    ·rw [a1]
     show W.log X.done_=none
     rw [h.wl,if_neg (by omega)]
    ·have:=N2.node
     rw [a1] at this
     exact this
    ·intro _
     exact⟨⟨d,gd,hcmd,hby,hse⟩,fun _=>hfull,fun e=>absurd (show(1:Int)=2 from e) (by decide)⟩
 ·have hw:=want_full (L:=L) (x:=x) (p:=X.p_) (done:=X.done_) h.g.may hat hfull
  exact⟨s,_,_,cs,_,hc,act_full hon hw,hstop,fun _ _ _=>rfl⟩
end
end Go.Proofs.YtakljpcmbpaeaaaGreat

namespace Go.Proofs.YtakljpcmbpaeaaaGreat
open Go.RowKit
section
variable {L N:Nat} [BigL L] {x:yAN} {s:List ByteArray} {t:yAC} {d:Int} {n:Nat} {R:Nat→yBG} {cmd:ByteArray} {own:yAE} {r:yBG}
end
theorem mayR_no{i m:Int}(h0:0≤i)(h1:i≤512)(h2:0≤m)(h3:m≤1099511627776):MayR ⟨i,m,0,noS⟩:=by
 show mayB i m 0 []=true
 unfold mayB betB
 rw [decide_eq_true ⟨h0,h1⟩,decide_eq_true ⟨h2,h3⟩,decide_eq_true ⟨Int.le_refl 0,h2⟩]
 rfl
theorem mayR_val{i m:Int}{c:yAE}(h0:0≤i)(h1:i≤512)(h2:0<m)(h3:m≤1099511627776):MayR ⟨i,m,m,mkS (cmdL c)⟩:=by
 show mayB i m m (mkS (cmdL c)).data.toList=true
 have hl:=cmdL_len c
 have ht:=cmdT_len c
 rw [mkS_l]
 unfold mayB betB
 rw [decide_eq_true ⟨h0,h1⟩,decide_eq_true ⟨by omega,h3⟩,decide_eq_true ⟨by omega,Int.le_refl m⟩,show decide ((cmdL c).length≤64)=true from decide_eq_true (by omega),show(m==0)=false from beq_eq_false_iff_ne.2 (by omega)]
 cases hc:cmdL c with
 | nil=>rw [hc] at hl;simp at hl;omega
 | cons _ _=>rfl
def cN(n:Nat):yAE:=⟨0,17*(n:Int)+16,1,0,0,⟨0,0⟩,0⟩
abbrev cb(n:Nat):ByteArray:=mkS (cmdL (cN n))
theorem get_set{s:List ByteArray}{i:Int}{b:ByteArray}(h0:0≤i)(h:i<s.length):(s.set i.toNat b).getD i.toNat noS=b:=by
 rw [List.getD_eq_getElem?_getD,List.getElem?_set_self (by omega)];rfl
section
variable {L N:Nat} [BigL L] {x:yAN} {s:List ByteArray} {t:yAC}
end
end Go.Proofs.YtakljpcmbpaeaaaGreat

namespace Go.Proofs.YtakljpcmbpaeaaaGreat
open Go.RowKit
theorem nextR_pos{n m:Int}(h0:0≤n)(h1:n≤15)(hm:0≤m)(h:nextR n m≠0):m<nextR n m∧nextR n m%16=n∧nextR n m≤1099511627776:=by
 unfold nextR at h ⊢
 split at h
 ·rename_i q
  rw [if_pos q]
  split at h
  ·rename_i q2
   rw [if_pos q2]
   split at h
   ·rename_i q3
    rw [if_pos q3];omega
   ·exact absurd rfl h
  ·rename_i q2
   rw [if_neg q2]
   split at h
   ·rename_i q3
    rw [if_pos q3];omega
   ·exact absurd rfl h
 ·exact absurd rfl h
theorem recAt_mb(r:yBG)(k:Int):(recAt r k).Mbal=r.Mbal:=by unfold recAt;split <;> rfl
theorem recAt_in(r:yBG)(k:Int):(recAt r k).Inst=k:=by
 unfold recAt
 split
 ·assumption
 ·rfl
theorem pNext_Cmd(N:Int)(p:yAR)(k:Int):(pNext N p k).Cmd=p.Cmd:=by
 unfold pNext
 repeat' split
 all_goals rfl
theorem betB_iff{a b c:Int}:betB a b c=true↔b≤a∧a≤c:=by unfold betB;exact decide_eq_true_iff
theorem MayR.bd{r:yBG}(h:MayR r):(0≤r.Inst∧r.Inst≤512)∧(0≤r.Mbal∧r.Mbal≤1099511627776)∧(0≤r.Bal∧r.Bal≤r.Mbal)∧r.Val.data.toList.length≤64∧((r.Bal==0)==r.Val.data.toList.isEmpty)=true:=by
 have h:mayB r.Inst r.Mbal r.Bal r.Val.data.toList=true:=h
 unfold mayB at h
 rw [Bool.and_eq_true,Bool.and_eq_true,Bool.and_eq_true,Bool.and_eq_true,betB_iff,betB_iff,betB_iff,decide_eq_true_iff] at h
 exact⟨h.1,h.2.1,h.2.2.1,h.2.2.2.1,h.2.2.2.2⟩
theorem RecIs.bd{b:ByteArray}{r:yBG}(h:RecIs b r):0≤r.Mbal∧r.Mbal≤1099511627776:=by
 rcases h with ⟨-,rfl⟩ | ⟨h,-⟩
 ·exact⟨Int.le_refl 0,by decide⟩
 ·exact h.bd.2.1
theorem MayR.later{b:ByteArray}{r:yBG}(h:RecIs b r){k M:Int}(k0:0≤k)(k1:k≤512)(hm:r.Mbal<M)(hM:M≤1099511627776):MayR ⟨k,M,(recAt r k).Bal,(recAt r k).Val⟩:=by
 have no:MayR ⟨k,M,0,noS⟩:=mayR_no k0 k1 (by have:=h.bd;omega) hM
 unfold recAt
 split
 ·rcases h with ⟨-,rfl⟩ | ⟨h,-⟩
  ·exact no
  ·obtain⟨b1,b2,b3,b4,b5⟩:=h.bd
   show mayB k M r.Bal r.Val.data.toList=true
   unfold mayB
   rw [betB_iff.2 ⟨k0,k1⟩,betB_iff.2 ⟨by omega,hM⟩,betB_iff.2 ⟨b3.1,by omega⟩,decide_eq_true b4,b5];rfl
 ·exact no
theorem get_of{s:List ByteArray}{i:Nat}{b:ByteArray}(h:i<s.length):(s.set i b).getD i noS=b:=by
 rw [List.getD_eq_getElem?_getD,List.getElem?_set_self h];rfl
theorem get_no{s:List ByteArray}{i j:Nat}{b:ByteArray}(h:i≠j):(s.set i b).getD j noS=s.getD j noS:=by
 rw [List.getD_eq_getElem?_getD,List.getElem?_set_ne h,←List.getD_eq_getElem?_getD]
section
variable {x:yAN} {N:Nat} {s:List ByteArray} {xs:List yAB} {cs:List yAE} {W:PW} {m n:Nat} {L:Nat} [BigL L] {c:List (List V)}
theorem act_own(h:OInv x N s xs cs W m)(hc:CE c N)(hn:n<xs.length)(hon:xs[n].on_=true)(hat:xs[n].p_.At=1)(q:Int):ActOK L x N s c xs cs m n xs[n] q:=by
 obtain⟨n1,n16,l8,l512,s1,s16,sl,hl⟩:=h.g.bd
 have hnN:n<N:=by rw [←h.xl];exact hn
 have N2:=h.nd2 hn hon
 obtain⟨⟨d,gd,hcmd,hby,hse⟩,hdl,hmb⟩:=h.on n hn hon
 obtain⟨a1,a2,a3,a4⟩:=h.px n hn
 have hstop:=h.stop hn
 generalize hX:xs[n]=X at*
 have hgn:=h.g.n
 have slen:s.length≤100000:=by
  have:=total_bd (Geo.may_ok h.g.may)
  have:=h.g.len
  omega
 have hnode:X.p_.Node=n:=by
  have:=N2.node
  rw [a1] at this
  exact this
 have hw:=want_own (L:=L) (done:=X.done_) h.g.may hat (by omega) (by omega)
 have hdo:=rdo_read (N:=N) (L:=L) h.g.ok hc n1 n16 BigL.h (n:=(n:Int)) (by omega) (by omega) (k:=1+x.Nodes+X.p_.Node) (by omega) (by omega)
 rw [show(1+x.Nodes+X.p_.Node).toNat=1+N+n by omega] at hdo
 have hrc:=h.rcs n hnN
 have ht:=take_own (L:=L) (x:=x) (p:=X.p_) (t:=X.t_) (done:=X.done_) hat hrc.read
 by_cases hz:nextM X.p_ (W.rc n) X.done_=0
 ·rw [if_pos hz] at ht
  exact⟨s,_,_,cs,_,cE_ok N,act_space slen hc (cE_ok N) n16 hon hw hdo ht,hstop,fun _ _ _=>rfl⟩
 ·rw [if_neg hz] at ht
  have hact:=act_take (L:=L) (q:=q) hon hw hdo ht (fun e=>by cases e)
  have hp:(max (max 0 (recAt (W.rc n) X.done_).Mbal) X.p_.T.Seen)<nextM X.p_ (W.rc n) X.done_∧nextM X.p_ (W.rc n) X.done_%16=X.p_.Node∧nextM X.p_ (W.rc n) X.done_≤1099511627776:=nextR_pos (by omega) (by omega) (by omega) hz
  rw [recAt_mb] at hp
  refine⟨s,_,_,cs,_,cE_ok N,hact,h.one hnN (h.inv.own n (by omega) (by omega) (by omega) (by rw [a1];exact hon) (by rw [a1];exact hat) _ (by rw [a1];rfl) (by rw [a1];rfl) hnode rfl (by rw [a1];rfl) ?_ ?_ ?_) a2 a3 (by show X.serial_≤_;omega) ?_,fun _ _ _=>rfl⟩
  ·show(W.rc n).Mbal<nextM X.p_ (W.rc n) X.done_
   omega
  ·show nextM X.p_ (W.rc n) X.done_%16=n
   omega
  ·rw [a1]
   show(⟨(recAt (W.rc n) X.done_).Inst,_,_,_⟩:yBG)=_
   rw [recAt_in];rfl
  ·intro _
   exact⟨⟨d,gd,hcmd,hby,hse⟩,fun _=>hdl (by omega),fun _=>hp.2.2⟩
theorem act_read(h:OInv x N s xs cs W m)(hc:CE c N)(hn:n<xs.length)(hon:xs[n].on_=true)(hat:xs[n].p_.At=3∨xs[n].p_.At=5)(q:Int):ActOK L x N s c xs cs m n xs[n] q:=by
 obtain⟨n1,n16,l8,l512,s1,s16,sl,hl⟩:=h.g.bd
 have hnN:n<N:=by rw [←h.xl];exact hn
 have N2:=h.nd2 hn hon
 obtain⟨⟨d,gd,hcmd,hby,hse⟩,hdl,hmb⟩:=h.on n hn hon
 obtain⟨a1,a2,a3,a4⟩:=h.px n hn
 generalize hX:xs[n]=X at*
 have hgn:=h.g.n
 have hnode:X.p_.Node=n:=by
  have:=N2.node
  rw [a1] at this
  exact this
 have hrd:0≤X.p_.I∧X.p_.I<N∧X.p_.I≠n:=by
  have:=N2.rd
  rw [a1] at this
  exact this hat
 have hw:=want_read (L:=L) (done:=X.done_) h.g.may hat hrd.1 (by omega)
 have hdo:=rdo_read (N:=N) (L:=L) h.g.ok hc n1 n16 BigL.h (n:=(n:Int)) (by omega) (by omega) (k:=1+x.Nodes+X.p_.I) (by omega) (by omega)
 rw [show(1+x.Nodes+X.p_.I).toNat=1+N+X.p_.I.toNat by omega] at hdo
 have hrc:=h.rcs X.p_.I.toNat (by omega)
 rw [Int.toNat_of_nonneg hrd.1] at hrc
 have ht:=take_counts (L:=L) (x:=x) (p:=X.p_) (t:=X.t_) (done:=X.done_) BigL.h (by omega) (by omega) (by omega) hrd.1 (by omega) hat (hrc.read (L:=L))
 have hact:=act_take (L:=L) (q:=q) hon hw hdo ht (fun e=>by cases e)
 rw [hgn] at hact
 have hpon:∀(hon':(⟨X.t_,X.done_,X.serial_,!false,pCounts N X.p_ (W.rc X.p_.I)⟩:yAB).on_=true),Pon x N n ⟨X.t_,X.done_,X.serial_,!false,pCounts N X.p_ (W.rc X.p_.I)⟩:=fun _=>
  ⟨⟨d,gd,by show(pNext _ _ _).Cmd=_;rw [pNext_Cmd];exact hcmd,hby,hse⟩,fun _=>hdl (by omega),fun e=>by
    have e:(pNext N ⟨X.p_.Node,X.p_.Cmd,X.p_.At,X.p_.I,X.p_.Own,tCount X.p_.T (W.rc X.p_.I)⟩ (X.p_.I+1)).At=2:=e
    rw [pNext_at] at e
    dsimp only at e
    repeat' split at e
    all_goals omega⟩
 rcases hat with hat | hat
 ·exact⟨s,_,_,cs,_,cE_ok N,hact,h.one hnN (h.inv.read1 n (by omega) (by omega) (by omega) (by rw [a1];exact hon) (by rw [a1];exact hat) _ (by rw [a1];rfl) (by rw [a1];rfl) (by rw [a1];rfl)) a2 a3 (by show X.serial_≤_;omega) hpon,fun _ _ _=>rfl⟩
 ·cases hst:tStops X.p_.T with
  | true=>exact⟨s,_,_,cs,_,cE_ok N,hact,h.one hnN (h.inv.read2' n (by omega) (by omega) (by omega) (by rw [a1];exact hon) (by rw [a1];exact hat) _ (by rw [a1];rfl) (by rw [a1];rfl) (by rw [a1];rfl) (by rw [a1];exact hst)) a2 a3 (by show X.serial_≤_;omega) hpon,fun _ _ _=>rfl⟩
  | false=>exact⟨s,_,_,cs,_,cE_ok N,hact,h.upd hnN h.g (h.inv.read2 n (by omega) (by omega) (by omega) (by rw [a1];exact hon) (by rw [a1];exact hat) _ (by rw [a1];rfl) (by rw [a1];rfl) (by rw [a1];rfl) (by rw [a1];exact hst)) h.rcs h.lg h.wl h.vok (fun _ _=>rfl) (upd_same _ _ _) (fun k hk=>upd_other _ _ hk) a2 a3 (by show X.serial_≤_;omega) hpon,fun _ _ _=>rfl⟩
end
end Go.Proofs.YtakljpcmbpaeaaaGreat

namespace Go.Proofs.YtakljpcmbpaeaaaGreat
open Go.RowKit
section
variable {x:yAN} {N:Nat} {s:List ByteArray} {xs:List yAB} {cs:List yAE} {W:PW} {m n:Nat} {L:Nat} [BigL L] {c:List (List V)}
theorem OLog.rcd(h:OLog x N s cs){k:Nat}(hk:k<N){b:ByteArray}:OLog x N (s.set (1+N+k) b) cs:=
 ⟨h.cl,fun i hi=>by rw [get_no (by omega)];exact h.at_ i hi,fun i h1 h2=>by rw [get_no (by omega)];exact h.end_ i h1 h2,h.ok⟩
theorem rcs_upd(h:∀k:Nat,k<N→RecIs (s.getD (1+N+k) noS) (W.rc k))(hn:n<N)(hl:1+N+n<s.length){r:yBG}(hr:MayR r):∀k:Nat,k<N→RecIs ((s.set (1+N+n) (recB r)).getD (1+N+k) noS) (upd W.rc n r k):=fun k hk=>by
 by_cases e:k=n
 ·subst e
  rw [get_of hl,upd_same]
  exact .inr ⟨hr,rfl⟩
 ·rw [get_no (by omega),upd_other _ _ (by omega)]
  exact h k hk
theorem OInv.val4(h:OInv x N s xs cs W m)(hn:n<xs.length)(hon:xs[n].on_=true)(hat:xs[n].p_.At=4):∃e,GoodC N e∧xs[n].p_.Own.Val=mkS (cmdL e):=by
 have N2:=h.nd2 hn hon
 obtain⟨⟨d,gd,hcmd,hby,hse⟩,hdl,hmb⟩:=h.on n hn hon
 have a1:=(h.px n hn).1
 have e4:=N2.a4
 have e34:=N2.a34
 rw [a1] at e4 e34
 obtain⟨-,-,hv⟩:=e4 hat
 obtain⟨-,-,-,hb⟩:=e34 (by show 3≤xs[n].p_.At;omega) (by show xs[n].p_.At≤4;omega)
 have hv:xs[n].p_.Own.Val=if 0<xs[n].p_.T.Best then xs[n].p_.T.Val else xs[n].p_.Cmd:=hv
 by_cases hp:0<xs[n].p_.T.Best
 ·obtain⟨c',hc'⟩:=hb hp
  obtain⟨e,he,hev⟩:=h.vok _ _ _ _ hc'
  exact⟨e,he,by rw [hv,if_pos hp];exact hev⟩
 ·exact⟨d,gd,by rw [hv,if_neg hp];exact hcmd⟩
theorem wrote_pon{X:yAB}{over:Bool}(hN:X.p_.At=2∨X.p_.At=4)(hp:Pon x N n X):Pon x N n ⟨X.t_,X.done_,X.serial_,over,pWrote N X.p_⟩:=
 ⟨by
  obtain⟨d,gd,hcmd,hby,hse⟩:=hp.d
  exact⟨d,gd,by show(pNext _ _ _).Cmd=_;rw [pNext_Cmd];exact hcmd,hby,hse⟩,fun _=>hp.dl (by omega),fun e=>by
   have e:(pNext N ⟨X.p_.Node,X.p_.Cmd,X.p_.At+1,X.p_.I,X.p_.Own,tBegin X.p_.Own X.p_.T.Seen⟩ 0).At=2:=e
   rw [pNext_at] at e
   dsimp only at e
   repeat' split at e
   all_goals omega⟩
theorem act_wrote(h:OInv x N s xs cs W m)(hc:CE c N)(hn:n<xs.length)(hon:xs[n].on_=true)(hat:xs[n].p_.At=2∨xs[n].p_.At=4)(q:Int):ActOK L x N s c xs cs m n xs[n] q:=by
 obtain⟨n1,n16,l8,l512,s1,s16,sl,hl⟩:=h.g.bd
 have hnN:n<N:=by rw [←h.xl];exact hn
 have N2:=h.nd2 hn hon
 have hd:=h.done_le hn
 have hpon:=h.on n hn hon
 have hv4:=h.val4 hn hon
 obtain⟨a1,a2,a3,a4⟩:=h.px n hn
 generalize hX:xs[n]=X at*
 have hgn:=h.g.n
 have hdl:=hpon.dl (by omega)
 have hnode:X.p_.Node=n:=by
  have:=N2.node
  rw [a1] at this
  exact this
 have hrc:=h.rcs n hnN
 have hmay:MayR X.p_.Own:=by
  rcases hat with hat | hat
  ·have e2:=N2.a2
   rw [a1] at e2
   obtain⟨e1,-,e3⟩:=e2 hat
   have e3:X.p_.Own=⟨X.done_,X.p_.Own.Mbal,(recAt (W.rc n) X.done_).Bal,(recAt (W.rc n) X.done_).Val⟩:=e3
   rw [e3]
   exact MayR.later hrc hd.1 (by omega) e1 (hpon.mb hat)
  ·obtain⟨e,he,hev⟩:=hv4 hat
   have e4:=N2.a4
   have e3:=N2.a3
   rw [a1] at e4 e3
   obtain⟨-,f1,-⟩:=e4 hat
   obtain⟨-,f2,f3,-,-,-,f4⟩:=e3 (by show 3≤X.p_.At;omega)
   have f1:X.p_.Own.Bal=(W.rc n).Mbal:=f1
   have f2:X.p_.Own.Inst=X.done_:=f2
   have f3:X.p_.Own.Mbal=(W.rc n).Mbal:=f3
   have hb:=hrc.bd
   have:X.p_.Own=⟨X.done_,(W.rc n).Mbal,(W.rc n).Mbal,mkS (cmdL e)⟩:=by
    cases ho:X.p_.Own with
    | mk i mb b v=>rw [ho] at f1 f2 f3 hev;dsimp only at f1 f2 f3 hev;rw [f1,f2,f3,hev]
   rw [this]
   exact mayR_val hd.1 (by omega) f4 hb.2
 have hw:=want_rec (L:=L) (done:=X.done_) h.g.may hat (by omega) (by omega) hmay
 have hb512:(recB X.p_.Own).size≤512:=by have:=(recB_len hmay).1;omega
 have hdo:=rdo_force (N:=N) (L:=L) h.g.ok hc n1 n16 BigL.h (n:=(n:Int)) (by omega) (by omega) (k:=1+x.Nodes+X.p_.Node) (by omega) (by omega) hb512
 rw [show(1+x.Nodes+X.p_.Node).toNat=1+N+n by omega] at hdo
 have ht:=take_wrote (L:=L) (x:=x) (p:=X.p_) (t:=X.t_) (done:=X.done_) (got:=noS) BigL.h (by omega) (by omega) (by omega) hat
 have hact:=act_take (L:=L) (q:=q) hon hw hdo ht (fun e=>by cases e)
 rw [hgn] at hact
 have hrcs:=rcs_upd (W:=W) h.rcs hnN (by omega) hmay
 have hstay:∀k:Nat,(k:Int)<x.Log→s.getD (1+2*N+k) noS≠noS→(s.set (1+N+n) (recB X.p_.Own)).getD (1+2*N+k) noS=s.getD (1+2*N+k) noS:=fun k _ _=>get_no (by omega)
 rcases hat with hat | hat
 ·have hi:=h.inv.wrote1 n (by omega) (by omega) (by omega) (by rw [a1];exact hon) (by rw [a1];exact hat) ⟨pWrote N X.p_,X.done_,X.serial_,!false⟩ (by rw [a1];rfl) (by rw [a1];rfl) (by rw [a1];rfl)
  rw [a1] at hi
  exact⟨_,_,_,cs,_,cE_ok N,hact,h.upd hnN (h.g.set _ hb512) hi hrcs (h.lg.rcd hnN) h.wl h.vok (fun _ _=>rfl) (upd_same _ _ _) (fun k hk=>upd_other _ _ hk) a2 a3 (by show X.serial_≤_;omega) (fun _=>wrote_pon (.inl hat) hpon),hstay⟩
 ·obtain⟨e,he,hev⟩:=hv4 hat
  have hi:=h.inv.wrote2 n (by omega) (by omega) (by omega) (by rw [a1];exact hon) (by rw [a1];exact hat) ⟨pWrote N X.p_,X.done_,X.serial_,!false⟩ (by rw [a1];rfl) (by rw [a1];rfl) (by rw [a1];rfl)
  rw [a1] at hi
  refine⟨_,_,_,cs,_,cE_ok N,hact,h.upd hnN (h.g.set _ hb512) hi hrcs (h.lg.rcd hnN) h.wl (fun k b v c' hv=>?_) (fun _ _=>rfl) (upd_same _ _ _) (fun k hk=>upd_other _ _ hk) a2 a3 (by show X.serial_≤_;omega) (fun _=>wrote_pon (.inr hat) hpon),hstay⟩
  have hv:upd W.vt X.done_ (upd (W.vt X.done_) X.p_.Own.Mbal (some (X.p_.Own.Val,X.p_.T.Best))) k b=some (v,c'):=hv
  by_cases e1:k=X.done_
  ·subst e1
   rw [upd_same] at hv
   by_cases e2:b=X.p_.Own.Mbal
   ·subst e2
    rw [upd_same] at hv
    injection hv with hv
    injection hv with h1 h2
    exact⟨e,he,by rw [←h1];exact hev⟩
   ·rw [upd_other _ _ e2] at hv
    exact h.vok _ _ _ _ hv
  ·rw [upd_other _ _ e1] at hv
   exact h.vok _ _ _ _ hv
theorem act_dec(h:OInv x N s xs cs W m)(hc:CE c N)(hn:n<xs.length)(hon:xs[n].on_=true)(hat:xs[n].p_.At=6)(q:Int):ActOK L x N s c xs cs m n xs[n] q:=by
 obtain⟨n1,n16,l8,l512,s1,s16,sl,hl⟩:=h.g.bd
 have hnN:n<N:=by rw [←h.xl];exact hn
 have N2:=h.nd2 hn hon
 have N1:=h.nd hn
 have hd:=h.done_le hn
 obtain⟨⟨d,gd,hcmd,hby,hse⟩,hdl,hmb⟩:=h.on n hn hon
 obtain⟨a1,a2,a3,a4⟩:=h.px n hn
 generalize hX:xs[n]=X at*
 have hgn:=h.g.n
 have hdl:=hdl (by omega)
 have hnode:X.p_.Node=n:=by
  have:=N2.node
  rw [a1] at this
  exact this
 have ho:yBB L X.p_.Cmd=some (d,0,()):=by rw [hcmd];exact cRead_enc hL10 gd.may
 obtain⟨e,he,hev⟩:∃e,GoodC N e∧X.p_.Own.Val=mkS (cmdL e):=by
  have f6:=N2.a6
  have f56:=N2.a56
  rw [a1] at f6 f56
  obtain⟨g1,g2⟩:=f56 (by show 5≤X.p_.At;omega)
  obtain⟨v,c',hv⟩:=h.inv.cv _ _ (f6 hat)
  have e1:W.rc n=X.p_.Own:=g1
  have hpos:0<(W.rc n).Bal:=by
   rw [g2]
   exact(h.inv.vo _ _ _ _ hv).b0
  obtain⟨c2,hc2⟩:=N1.rv hpos
  rw [e1] at hc2
  exact h.vok _ _ _ _ hc2
 have hw:=want_dec (L:=L) (done:=X.done_) h.g.may hat hd.1 hdl he.may hev
 have hb512:(secC e).size≤512:=by have:=secC_len e;omega
 have hdo:=rdo_force (N:=N) (L:=L) h.g.ok hc n1 n16 BigL.h (n:=(n:Int)) (by omega) (by omega) (k:=1+2*x.Nodes+X.done_) (by omega) (by omega) hb512
 rw [show(1+2*x.Nodes+X.done_).toNat=1+2*N+X.done_.toNat by omega] at hdo
 have hcl:=h.lg.cl
 have hT:yCw L x X.t_ e=some ((bhT x (cs.take X.done_.toNat)).ap x e).t:=by
  rw [a2];exact apply_bh (N:=N) s16 (by rw [List.length_take];omega) he
 have ht:=take_dec (L:=L) (x:=x) (p:=X.p_) (t:=X.t_) (done:=X.done_) (got:=noS) he.may hat hev hT hd.1 (by omega) ho
 have hact:=act_take (L:=L) (q:=q) hon hw hdo ht (fun _=>rfl)
 obtain⟨hi,hagree⟩:=h.inv.decides n (by omega) (by omega) (by omega) (by rw [a1];exact hon) (by rw [a1];exact hat) ⟨pAnew X.p_,X.done_+1,X.serial_,!decide (e.By=d.By∧e.Serial=d.Serial)⟩ (by rw [a1];rfl) (by rw [a1];rfl) hnode rfl (by rw [a1];rfl) (by
  intro hov
  rw [a1]
  show ¬(nodeOf X.p_.Own.Val=n∧serOf X.p_.Own.Val=X.serial_)
  rw [hev]
  rintro⟨e1,e2⟩
  have hov:(!decide (e.By=d.By∧e.Serial=d.Serial))=true:=hov
  have hb2:e.By=d.By∧e.Serial=d.Serial:=⟨by rw [hby];exact(he.same n16 hnN).1 e1,by rw [hse,←he.ser];exact e2⟩
  rw [decide_eq_true hb2] at hov
  cases hov)
 rw [a1] at hi hagree
 have hsl:1+2*N+X.done_.toNat<s.length:=by omega
 have hrcs:∀k:Nat,k<N→RecIs ((s.set (1+2*N+X.done_.toNat) (secC e)).getD (1+N+k) noS) (W.rc k):=fun k hk=>by rw [get_no (by omega)];exact h.rcs k hk
 have hpon:∀ov:Bool,ov=true→Pon x N n ⟨((bhT x (cs.take X.done_.toNat)).ap x e).t,X.done_+1,X.serial_,ov,pAnew X.p_⟩:=fun _ _=>⟨⟨d,gd,hcmd,hby,hse⟩,fun e=>absurd (show(1:Int)≤0 from e) (by decide),fun e=>absurd (show(0:Int)=2 from e) (by decide)⟩
 by_cases hlt:X.done_.toNat<cs.length
 ·have hsame:cs[X.done_.toNat]=e:=by
    have h1:=h.log_at hlt
    rw [Int.toNat_of_nonneg hd.1] at h1
    have h2:=hagree _ h1
    exact(h.lg.ok _ (List.getElem_mem hlt)).inj he (h2.trans hev)
  have hseq:∀k:Nat,(s.set (1+2*N+X.done_.toNat) (secC e)).getD (1+2*N+k) noS=s.getD (1+2*N+k) noS:=fun k=>by
   by_cases ek:k=X.done_.toNat
   ·subst ek
    rw [get_of hsl,h.lg.at_ _ hlt,hsame]
   ·exact get_no (by omega)
  refine⟨_,_,_,cs,_,cE_ok N,hact,h.upd hnN (h.g.set _ hb512) hi hrcs ⟨h.lg.cl,fun i hi=>by rw [hseq];exact h.lg.at_ i hi,fun i h1 h2=>by rw [hseq];exact h.lg.end_ i h1 h2,h.lg.ok⟩ (fun k=>?_) h.vok (fun _ _=>rfl) (upd_same _ _ _) (fun k hk=>upd_other _ _ hk) ?_ a3 (by show X.serial_≤_;omega) (hpon _),fun k _ _=>hseq k⟩
  ·show upd W.log X.done_ (some X.p_.Own.Val) k=_
   by_cases ek:k=X.done_
   ·rw [ek,upd_same,if_pos ⟨hd.1,by omega⟩,List.getD_eq_getElem?_getD,List.getElem?_eq_getElem hlt,hev,←hsame];rfl
   ·rw [upd_other _ _ ek];exact h.wl k
  ·show _=(bhT x (cs.take (X.done_+1).toNat)).t
   rw [show(X.done_+1).toNat=X.done_.toNat+1 by omega,bhT_take hlt,hsame]
 ·have hdn:X.done_.toNat=cs.length:=by omega
  have htk:cs.take X.done_.toNat=cs:=by rw [hdn];exact List.take_length
  have hcs':(cs++ [e]).length=cs.length+1:=by simp
  refine⟨_,_,_,cs++ [e],_,cE_ok N,hact,h.upd hnN (h.g.set _ hb512) hi hrcs ⟨by rw [hcs'];omega,fun i hi=>?_,fun i h1 h2=>?_,fun c' hc'=>?_⟩ (fun k=>?_) h.vok (fun k hk=>List.take_append_of_le_length hk) (upd_same _ _ _) (fun k hk=>upd_other _ _ hk) ?_ a3 (by show X.serial_≤_;omega) (hpon _),fun k _ hne=>?_⟩
  ·by_cases ei:i<cs.length
   ·rw [get_no (by omega),List.getElem_append_left ei]
    exact h.lg.at_ i ei
   ·have ei2:i=cs.length:=by omega
    subst ei2
    rw [hdn,get_of (by omega)]
    simp
  ·rw [hcs'] at h1
   rw [get_no (by omega)]
   exact h.lg.end_ i (by omega) h2
  ·rcases List.mem_append.1 hc' with hc' | hc'
   ·exact h.lg.ok _ hc'
   ·obtain rfl:c'=e:=by simpa using hc'
    exact he
  ·show upd W.log X.done_ (some X.p_.Own.Val) k=_
   by_cases ek:k=X.done_
   ·rw [ek,upd_same,if_pos ⟨hd.1,by omega⟩,List.getD_eq_getElem?_getD,hdn,List.getElem?_append_right (Nat.le_refl _),hev]
    simp
   ·rw [upd_other _ _ ek,h.wl k]
    by_cases hk:0≤k∧k<cs.length
    ·rw [if_pos hk,if_pos ⟨hk.1,by omega⟩,List.getD_eq_getElem?_getD,List.getD_eq_getElem?_getD,List.getElem?_append_left (by omega)]
    ·rw [if_neg hk,if_neg (by omega)]
  ·show((bhT x (cs.take X.done_.toNat)).ap x e).t=(bhT x ((cs++ [e]).take (X.done_+1).toNat)).t
   rw [htk,show(X.done_+1).toNat=cs.length+1 by omega,take_len hcs'.symm,bhT_snoc]
  ·refine get_no ?_
   intro ek
   have:k=cs.length:=by omega
   subst this
   exact hne (h.lg.end_ _ (Nat.le_refl _) (by omega))
theorem act_ok(h:OInv x N s xs cs W m)(hc:CE c N)(hn:n<xs.length)(hm:m≤300)(hb:1≤x.Blocks)(q:Int):ActOK L x N s c xs cs m n xs[n] q:=by
 cases hon:xs[n].on_ with
 | false=>exact act_begin h hc hn hm hb hon q
 | true=>
   have hat:=(h.nd2 hn hon).at_
   rw [(h.px n hn).1] at hat
   have hat:0≤xs[n].p_.At∧xs[n].p_.At≤6:=hat
   have:xs[n].p_.At=0∨xs[n].p_.At=1∨xs[n].p_.At=2∨xs[n].p_.At=3∨xs[n].p_.At=4∨xs[n].p_.At=5∨xs[n].p_.At=6:=by omega
   rcases this with e | e | e | e | e | e | e
   ·exact act_log h hc hn hon e q
   ·exact act_own h hc hn hon e q
   ·exact act_wrote h hc hn hon (.inl e) q
   ·exact act_read h hc hn hon (.inl e) q
   ·exact act_wrote h hc hn hon (.inr e) q
   ·exact act_read h hc hn hon (.inr e) q
   ·exact act_dec h hc hn hon e q
end
end Go.Proofs.YtakljpcmbpaeaaaGreat

namespace Go.Proofs.YtakljpcmbpaeaaaGreat
open Go.RowKit
abbrev cV:yAE→List V:=yAE.cs
theorem cV_row(b:yAE):rowIs yAE.ks [cV b] 0=true:=rfl
section
variable {L:Nat} {l:List yAE} {i:Nat}
theorem cAt(h:i<l.length):(⟨aI (l.map cV) i 0,aI (l.map cV) i 1,aI (l.map cV) i 2,aI (l.map cV) i 3,aI (l.map cV) i 4,⟨aI (l.map cV) i 5,aI (l.map cV) i 6⟩,aI (l.map cV) i 7⟩:yAE)=l[i]:=by
 have e:∀j,aI (l.map cV) i j=aI [cV l[i]] 0 j:=fun j=>congrArg asI (cell_m h)
 simp only [e]
 rfl
theorem cBy(h:i<l.length):aI (l.map cV) i 1=l[i].By:=congrArg asI (cell_m h)
theorem cSer(h:i<l.length):aI (l.map cV) i 2=l[i].Serial:=congrArg asI (cell_m h)
end
section
variable {x:yAN} {N:Nat} {s s':List ByteArray} {cs:List yAE} {m n:Nat} {L:Nat} [BigL L] {c c':List (List V)}
theorem behind_eq(h0:0≤x.Slots)(h16:x.Slots≤16)(hl:cs.length≤1000)(hc:∀c∈cs,GoodC N c):yK8 L x (cs.map cV)=some (bhT x cs).t:=by
 have hL:200000<L:=BigL.h
 unfold yK8 yNR
 rw [new_bh h0 h16,bindO_s]
 refine(loop1_cnt (F:=yGR (yFO L)) (fun k=>(cs.map cV,x,yAC.z,(bhT x (cs.take k)).t,(k:Int),())) cs.length (yAC.z,(bhT x cs).t,()) (fun k hk kn ka=>?_) (fun kn ka=>?_) cs.length 0 L (by omega) (by omega) _).trans ?_
 ·show(bif decide ((k:Int)<((cs.map cV).length:Int)) then _ else _)=_
  dsimp only
  rw [List.length_map,bif_t (decide_eq_true (by omega)),gI_m cV_row hk]
  simp only [Int.toNat_natCast]
  rw [cAt hk,rApply_bh (N:=N) h16 (by rw [List.length_take];omega) (hc _ (List.getElem_mem hk)),bindO_s,w64_t (by omega) (by omega),←bhT_take hk]
  rfl
 ·show(bif decide ((cs.length:Int)<((cs.map cV).length:Int)) then _ else _)=_
  dsimp only
  rw [List.length_map,bif_f (decide_eq_false (by omega)),List.take_length]
 ·rfl
theorem sec_at(h:PGeo x N s){k:Nat}(hk:(k:Int)<x.Log):aS (s.map txV) (1+2*(N:Int)+k).toNat 0=s.getD (1+2*N+k) noS:=by
 have:=h.bd
 rw [show(1+2*(N:Int)+k).toNat=1+2*N+k by omega,aS_tx (by omega),List.getD_eq_getElem?_getD,List.getElem?_eq_getElem (by omega)];rfl
theorem noS_beq{b:ByteArray}:(b.toList==noS.toList)=true↔b=noS:=by
 rcases Nat.eq_zero_or_pos b.size with h | h
 ·have:b=noS:=by
    cases b with
    | mk d=>rw [show d=#[] from Array.eq_empty_of_size_eq_zero h];rfl
  rw [this];simp
 ·rw [ne_noS h]
  constructor
  ·intro q;cases q
  ·rintro rfl;exact absurd h (Nat.lt_irrefl 0)
theorem right_ok{xs:List yAB}{W:PW}(h:OInv x N s' xs cs W m)(hg:PGeo x N s)(hc':CE c' N)(hn:n<xs.length)(hst:∀k:Nat,(k:Int)<x.Log→s.getD (1+2*N+k) noS≠noS→s'.getD (1+2*N+k) noS=s.getD (1+2*N+k) noS):
  yEG L x (dvN s' c' N N) (dvN s c N N) xs[n]=some true:=by
 have hL:200000<L:=BigL.h
 obtain⟨n1,n16,l8,l512,s1,s16,sl,hl⟩:=h.g.bd
 have hl2:=hg.bd
 have hd:=h.done_le hn
 obtain⟨a1,a2,a3,a4⟩:=h.px n hn
 generalize hX:xs[n]=X at*
 have hcl:=h.lg.cl
 have hgn:=h.g.n
 have hlog:yNl L x (dvN s' c' N N)=some (cs.map cV,0,()):=r12LogC hc' hL h.g hcl h.lg.at_ (fun q=>h.lg.end_ _ (Nat.le_refl _) q) (fun d hd=>rRead_mla hL10 (h.lg.ok d hd).may (h.lg.ok d hd).kind)
 unfold yEG yN3
 rw [hlog,bindO_s]
 dsimp only
 rw [show((0:Int) !=0)=false from rfl,cond_false,bif_f (decide_eq_false (by omega)),List.length_map,bif_f (decide_eq_false (by omega))]
 -- the sectors
 refine(loop2_cnt (F:=yHI (yFW L)) (fun k=>(x,dvN s' c' N N,dvN s c N N,X,cs.map cV,(k:Int),())) x.Log.toNat (x,X,cs.map cV,()) (fun k hk kn ka kb=>?_) (fun kn ka kb=>?_) x.Log.toNat 0 L (by omega) (by omega) _ _).trans ?_
 ·show(bif decide ((k:Int)<x.Log) then _ else _)=_
  have hG:yFW L x (k:Int)=some (1+2*(N:Int)+k):=by
   rw [rLog_eq]
   unfold Geo.logS
   rw [if_pos ⟨h.g.may,by omega,by show(k:Int)<x.Log;omega⟩]
   show some (1+2*x.Nodes+(k:Int))=_
   rw [hgn]
  dsimp only
  have g1:∀{y:Option Bool},gI (s.map txV) kS (1+2*(N:Int)+k) y=y:=fun {y}=>gI_tx (by omega) (by omega)
  have g2:∀{y:Option Bool},gI (s'.map txV) kS (1+2*(N:Int)+k) y=y:=fun {y}=>gI_tx (by omega) (by omega)
  rw [bif_t (decide_eq_true (by omega)),hG,bindO_s,show(dvN s c N N).S=s.map txV from rfl,show(dvN s' c' N N).S=s'.map txV from rfl,sec_at hg (by omega),sec_at h.g (by omega),List.length_map,w64_t (by omega) (by omega)]
  simp only [g1,g2]
  have hs:=hst k (by omega)
  have he:=h.lg.end_ k
  generalize s.getD (1+2*N+k) noS=u at hs ⊢
  generalize s'.getD (1+2*N+k) noS=v at hs he ⊢
  have tail:∀{y z:Option Bool},(bif decide ((cs.length:Int)≤(k:Int)) then bif !(v.toList==noS.toList) then y else z else z)=z:=fun {y z}=>by
   by_cases hk2:cs.length≤k
   ·rw [bif_t (decide_eq_true (by omega)),noS_beq.2 (he hk2 (by omega))];rfl
   ·rw [bif_f (decide_eq_false (by omega))]
  cases hu:(u.toList==noS.toList) with
  | true=>
    rw [Bool.not_true,cond_false]
    exact tail
  | false=>
    have hne:u≠noS:=fun q=>by rw [noS_beq.2 q] at hu;cases hu
    rw [hs hne] at he ⊢
    rw [Bool.not_false,cond_true,beq_self_eq_true,Bool.not_true,cond_false]
    rw [hs hne] at tail
    exact tail
 ·show(bif decide ((x.Log.toNat:Int)<x.Log) then _ else _)=_
  rw [bif_f (decide_eq_false (by omega))]
 -- each command one place
 have hap:∀i k (hi:i<cs.length) (hk:k<cs.length),k<i→yEg L cs[i] cs[k].By cs[k].Serial=some false:=fun i k hi hk hki=>by
  unfold yEg yPh
  by_cases e1:cs[i].By=cs[k].By
  ·rw [bif_t (beq_iff_eq.2 e1)]
   by_cases e2:cs[i].Serial=cs[k].Serial
   ·exfalso
    have gi:=h.lg.ok _ (List.getElem_mem hi)
    have gk:=h.lg.ok _ (List.getElem_mem hk)
    have hno:nodeOf (mkS (cmdL cs[i]))=nodeOf (mkS (cmdL cs[k])):=by
     unfold nodeOf
     rw [decC_eq gi.may,decC_eq gk.may,e1]
    have:=h.inv.apart (h.log_at hi) (h.log_at hk) hno (by rw [gi.ser,gk.ser];exact e2)
    omega
   ·rw [show(cs[i].Serial==cs[k].Serial)=false from beq_eq_false_iff_ne.2 e2]
  ·rw [bif_f (beq_eq_false_iff_ne.2 e1)]
 dsimp only
 refine(loop2_cnt (F:=yHJ (loop2 (yDA (yEg L)) L)) (fun k=>(x,X,cs.map cV,(k:Int),())) cs.length (x,X,cs.map cV,()) (fun i hi kn ka kb=>?_) (fun kn ka kb=>?_) cs.length 0 L (by omega) (by omega) _ _).trans ?_
 ·show(bif decide ((i:Int)<((cs.map cV).length:Int)) then _ else _)=_
  dsimp only
  rw [List.length_map,bif_t (decide_eq_true (by omega))]
  refine(loop2_cnt (F:=yDA (yEg L)) (fun k=>(x,X,cs.map cV,(i:Int),(k:Int),())) i (x,X,cs.map cV,(i:Int),()) (fun k hk kn ka kb=>?_) (fun kn ka kb=>?_) i 0 L (by omega) (by omega) _ _).trans ?_
  ·show(bif decide ((k:Int)<(i:Int)) then _ else _)=_
   dsimp only
   rw [bif_t (decide_eq_true (by omega)),gI_m cV_row hi,gI_m cV_row (by omega),gI_m cV_row (by omega)]
   simp only [Int.toNat_natCast]
   rw [cAt hi,cBy (by omega),cSer (by omega),hap i k hi (by omega) hk,bindO_s,cond_false,w64_t (by omega) (by omega)]
   rfl
  ·show(bif decide ((i:Int)<(i:Int)) then _ else _)=_
   rw [bif_f (decide_eq_false (by omega))]
  ·dsimp only
   rw [w64_t (by omega) (by omega)]
   rfl
 ·show(bif decide ((cs.length:Int)<((cs.map cV).length:Int)) then _ else _)=_
  rw [List.length_map,bif_f (decide_eq_false (by omega))]
 dsimp only
 rw [gd_dec hd.1,List.length_map,gd_dec hd.2,gd_t (all_m (e:=cV) fun _=>rfl),←List.map_take,behind_eq (N:=N) (by omega) s16 (by rw [List.length_take];omega) (fun d hd=>h.lg.ok d (List.mem_of_mem_take hd)),bindO_s,a2]
 rw [tab_same (by rw [bhT_s];omega) (by have:=bhT_n x (cs.take X.done_.toNat);rw [List.length_take] at this;omega),bindO_s]
end
end Go.Proofs.YtakljpcmbpaeaaaGreat

namespace Go.Proofs.YtakljpcmbpaeaaaGreat
open Go.RowKit
abbrev pV:yAB→List V:=yAB.cs
theorem pV_nm(b:yAB):(pV b).all (nmB 20)=true:=rfl
section
variable {l:List yAB} {i:Nat}
theorem pAt(h:i<l.length):(⟨⟨aR (l.map pV) i 0,aR (l.map pV) i 1,aR (l.map pV) i 2⟩,aI (l.map pV) i 3,aI (l.map pV) i 4,aB (l.map pV) i 5,⟨aI (l.map pV) i 6,aS (l.map pV) i 7,aI (l.map pV) i 8,aI (l.map pV) i 9,⟨aI (l.map pV) i 10,aI (l.map pV) i 11,aI (l.map pV) i 12,aS (l.map pV) i 13⟩,⟨aI (l.map pV) i 14,aI (l.map pV) i 15,aI (l.map pV) i 16,aS (l.map pV) i 17,aI (l.map pV) i 18,aB (l.map pV) i 19,aB (l.map pV) i 20⟩⟩⟩:yAB)=l[i]:=by
 have e1:∀j,aI (l.map pV) i j=aI [pV l[i]] 0 j:=fun j=>congrArg asI (cell_m h)
 have e2:∀j,aS (l.map pV) i j=aS [pV l[i]] 0 j:=fun j=>congrArg asS (cell_m h)
 have e3:∀j,aB (l.map pV) i j=aB [pV l[i]] 0 j:=fun j=>congrArg asB (cell_m h)
 have e4:∀j,aR (l.map pV) i j=aR [pV l[i]] 0 j:=fun j=>congrArg asR (cell_m h)
 simp only [e1,e2,e3,e4]
 rfl
theorem pSer(h:i<l.length):aI (l.map pV) i 4=l[i].serial_:=congrArg asI (cell_m h)
theorem set_p{w:Nat}(hw:w<l.length)(X:yAB):(l.map pV).set (0+w) (((l.map pV).getD (0+w) []).take 0++(pV X++((l.map pV).getD (0+w) []).drop 21))=(l.set w X).map pV:=by
 rw [Nat.zero_add,getDr_at (map_at hw),List.map_set];rfl
theorem pV_lit(X:yAB): [V.sl X.t_.Slots false,V.sl X.t_.Holds false,V.sl X.t_.Queue false,V.int .i64 X.done_,V.int .i64 X.serial_,V.bool X.on_,V.int .i64 X.p_.Node,V.str X.p_.Cmd,V.int .i8 X.p_.At,V.int .i64 X.p_.I,V.int .i64 X.p_.Own.Inst,V.int .i64 X.p_.Own.Mbal,V.int .i64 X.p_.Own.Bal,V.str X.p_.Own.Val,V.int .i64 X.p_.T.Inst,V.int .i64 X.p_.T.Mbal,V.int .i64 X.p_.T.Best,V.str X.p_.T.Val,V.int .i64 X.p_.T.Seen,V.bool X.p_.T.Ahead,V.bool X.p_.T.Lost]=pV X:=rfl
end
def pNew(t:yAC)(ser:Int):yAB:=⟨t,0,ser,false,yAR.z⟩
theorem pNew_lit(t:yAC)(ser:Int): [V.sl t.Slots false,V.sl t.Holds false,V.sl t.Queue false,V.int .i64 0,V.int .i64 ser,V.bool false,V.int .i64 0,V.str noS,V.int .i8 0,V.int .i64 0,V.int .i64 0,V.int .i64 0,V.int .i64 0,V.str noS,V.int .i64 0,V.int .i64 0,V.int .i64 0,V.str noS,V.int .i64 0,V.bool false,V.bool false]=pV (pNew t ser):=rfl
section
variable {x:yAN} {N:Nat} {L:Nat} [BigL L]
theorem OInv.forget{s:List ByteArray}{xs:List yAB}{cs:List yAE}{W:PW}{m n:Nat}(h:OInv x N s xs cs W m)(hn:n<xs.length):OInv x N s (xs.set n (pNew (bhT x []).t (xs[n].serial_+1000))) cs (stX W n (pxOf (pNew (bhT x []).t (xs[n].serial_+1000)))) (m+1):=by
 obtain⟨a1,a2,a3,a4⟩:=h.px n hn
 exact h.one (by rw [←h.xl];exact hn) (h.inv.crash n (by omega) (by rw [←h.xl];omega) (by have:=h.g.bd;omega) _ (by rw [a1];show xs[n].serial_≤xs[n].serial_+1000;omega) rfl rfl) rfl (by show 0≤xs[n].serial_+1000;omega) (by show xs[n].serial_+1000≤_;omega) (fun e=>by cases e)
theorem turn_ok{l:List Int}{s:List ByteArray}{c:List (List V)}{xs:List yAB}{cs:List yAE}{W:PW}{i:Nat}(h:OInv x N s xs cs W i)(hc:CE c N)(hl:l.length≤250)(hi:i<l.length)(hb:1≤x.Blocks):
  ∃s' c' xs' cs' W',CE c' N∧OInv x N s' xs' cs' W' (i+1)∧∀kn ka kb,yCY (α:=Bool) (yCG L) (yCl L) (yEG L) (l.map inV,x,dvN s c N N,xs.map pV,(i:Int),()) kn ka kb=kn (l.map inV,x,dvN s' c' N N,xs'.map pV,((i+1:Nat):Int),()):=by
 obtain⟨n1,n16,l8,l512,s1,s16,sl,hsl⟩:=h.g.bd
 have hgn:=h.g.n
 have hN0:decide (x.Nodes=0)=false:=decide_eq_false (by omega)
 have hpick:aI (l.map inV) i 0=l[i]:=congrArg asI (cell_m hi)
 have hp:0≤minI false (minI true l[i] 0) 1099511627776∧minI false (minI true l[i] 0) 1099511627776≤1099511627776:=by
  rw [minI_min,minI_max];omega
 obtain⟨p,hpd⟩:∃p,minI false (minI true l[i] 0) 1099511627776=p:=⟨_,rfl⟩
 rw [hpd] at hp
 obtain⟨n,hn,hnN⟩:∃n:Nat,p.tmod x.Nodes=n∧n<N:=by
  rw [Int.tmod_eq_emod_of_nonneg hp.1]
  have e1:=Int.emod_nonneg p (show x.Nodes≠0 by omega)
  have e2:=Int.emod_lt_of_pos p (show 0<x.Nodes by omega)
  exact⟨(p%x.Nodes).toNat,by omega,by omega⟩
 have hnx:n<xs.length:=by rw [h.xl];exact hnN
 obtain⟨q,hq⟩:∃q,w64 (p.tdiv x.Nodes)=q:=⟨_,rfl⟩
 cases hf:(q.tmod 40==39) with
 | true=>
   have hsr:=(h.px n hnx)
   refine⟨s,c,_,cs,_,hc,h.forget hnx,fun kn ka kb=>?_⟩
   show(bif decide ((i:Int)<((l.map inV).length:Int)) then _ else _)=_
   dsimp only
   rw [List.length_map,bif_t (decide_eq_true (by omega)),gI_in (by omega) (by omega),hN0,Bool.not_false]
   simp only [Int.toNat_natCast,hpick,hpd,hn,hq]
   rw [hf,gd_t (by rfl),gd_t (by rfl),cond_true,new_bh (by omega) s16,bindO_s,gB_t (by omega) (by rw [List.length_map];omega),gL_t (by rw [List.length_map];omega) (by rw [segIs_at (map_at (show 0+n<xs.length by omega))];rfl),gB_t (by omega) (by rw [List.length_map];omega),gd_dec (by rw [List.length_map];omega),gd_ble (Nat.zero_le _),gd_ble (by rw [Nat.zero_add,getDr_at (map_at hnx)];exact Nat.le_refl 21)]
   rw [show aI (xs.map pV) (0+n) 4=xs[n].serial_ by rw [Nat.zero_add];exact pSer hnx,w64_t (n:=xs[n].serial_+1000) (by omega) (by omega),pNew_lit,set_p hnx,gW_m pV_nm (by rw [List.length_map,List.length_set]),w64_t (by omega) (by omega)]
   rfl
 | false=>
   obtain⟨s',c',X',cs',W',k1,k2,k3,k4⟩:=act_ok (L:=L) (q:=q) h hc hnx (by omega) hb
   refine⟨s',c',_,cs',W',k1,k3,fun kn ka kb=>?_⟩
   show(bif decide ((i:Int)<((l.map inV).length:Int)) then _ else _)=_
   dsimp only
   rw [List.length_map,bif_t (decide_eq_true (by omega)),gI_in (by omega) (by omega),hN0,Bool.not_false]
   simp only [Int.toNat_natCast,hpick,hpd,hn,hq]
   have hl2:n<(xs.set n X').length:=by rw [List.length_set];exact hnx
   have hX':(xs.set n X')[n]=X':=by simp
   rw [hf,gd_t (by rfl),gd_t (by rfl),cond_false,gB_t (by omega) (by rw [List.length_map];omega),gL_t (by rw [List.length_map];omega) (by rw [segIs_at (map_at (show 0+n<xs.length by omega))];rfl),gd_t (by rfl)]
   rw [show 0+n=n from Nat.zero_add n,pAt hnx,k2,bindO_s]
   dsimp only
   rw [gB_t (by omega) (by rw [List.length_map];omega),gd_dec (by rw [List.length_map];omega),gd_ble (Nat.zero_le _),gd_ble (by rw [getDr_at (map_at hnx)];exact Nat.le_refl 21),Bool.not_true,cond_false,pV_lit]
   have hset:=set_p hnx X'
   rw [show 0+n=n from Nat.zero_add n] at hset
   rw [hset,gB_t (by omega) (by rw [List.length_map];omega),gL_t (by rw [List.length_map];exact hl2) (by rw [segIs_at (map_at hl2)];rfl),pAt hl2]
   rw [right_ok (L:=L) (c:=c) k3 h.g k1 hl2 k4,bindO_s,Bool.not_true,cond_false,gW_m pV_nm (by rw [List.length_map,List.length_set]),w64_t (by omega) (by omega)]
   rfl
end
end Go.Proofs.YtakljpcmbpaeaaaGreat

namespace Go.Proofs.YtakljpcmbpaeaaaGreat
open Go.RowKit
section
variable {L N:Nat} [BigL L] {x:yAN} {s:List ByteArray} {t:yAC}
end
end Go.Proofs.YtakljpcmbpaeaaaGreat

namespace Go.Proofs.YtakljpcmbpaeaaaGreat
open Go.RowKit
section
variable {L N:Nat} [BigL L] {x:yAN} {s:List ByteArray}
end
theorem few_eq{L:Nat}[BigL L]{x:yAN}:∃b,yPH L x=some b∧(b=true→(geoOf x).may=true∧x.Nodes≤4):=by
 unfold yPH yQa
 have hM:yCT L x=some (geoOf x).may:=rMay_eq x
 rw [hM,bindO_s]
 cases hm:(geoOf x).may with
 | false=>exact⟨false,rfl,nofun⟩
 | true=>
   rw [cond_true]
   by_cases h1:x.Nodes≤4
   ·rw [bif_t (decide_eq_true h1)]
    by_cases h2:x.Log≤60
    ·rw [bif_t (decide_eq_true h2),rTotal_eq,bindO_s]
     exact⟨_,rfl,fun _=>⟨rfl,h1⟩⟩
    ·rw [bif_f (decide_eq_false h2)]
     exact⟨false,rfl,nofun⟩
   ·rw [bif_f (decide_eq_false h1)]
    exact⟨false,rfl,nofun⟩
instance bigL0:BigL 2000000:=⟨by decide⟩
theorem wakes15:yJm 2000000=some true:=by kernel_rfl
end Go.Proofs.YtakljpcmbpaeaaaGreat

namespace Go.Proofs.YtakljpcmbpaeaaaGreat
open Go.RowKit
section
variable {x:yAN} {N:Nat} {L:Nat} [BigL L]
def zP0:List V:= [V.sl [] true,V.sl [] true,V.sl [] true,V.int .i64 0,V.int .i64 0,V.bool false,V.int .i64 0,V.str noS,V.int .i8 0,V.int .i64 0,V.int .i64 0,V.int .i64 0,V.int .i64 0,V.str noS,V.int .i64 0,V.int .i64 0,V.int .i64 0,V.str noS,V.int .i64 0,V.bool false,V.bool false]
def rowsK(t:yAC)(N k:Nat):List (List V):=List.replicate k (pV (pNew t 0))++List.replicate (N-k) zP0
theorem rowsK_len(t:yAC){N k:Nat}(h:k≤N):(rowsK t N k).length=N:=by unfold rowsK;rw [List.length_append,List.length_replicate,List.length_replicate];omega
theorem rowsK_at(t:yAC){N k:Nat}(h:k<N):(rowsK t N k)[k]?=some zP0:=by
 unfold rowsK
 rw [List.getElem?_append_right (by rw [List.length_replicate];exact Nat.le_refl _),List.length_replicate,Nat.sub_self,List.getElem?_replicate,if_pos (by omega)]
theorem rowsK_set(t:yAC){N k:Nat}(h:k<N):(rowsK t N k).set (0+k) (((rowsK t N k).getD (0+k) []).take 0++([V.sl t.Slots false,V.sl t.Holds false,V.sl t.Queue false]++((rowsK t N k).getD (0+k) []).drop 3))=rowsK t N (k+1):=by
 rw [Nat.zero_add,getDr_at (rowsK_at t h)]
 show(rowsK t N k).set k (pV (pNew t 0))=_
 unfold rowsK
 rw [List.set_append_right _ _ (by rw [List.length_replicate];exact Nat.le_refl _),List.length_replicate,Nat.sub_self,show N-k=(N-(k+1))+1 by omega,List.replicate_succ,List.set_cons_zero,List.replicate_succ',List.append_assoc]
 rfl
theorem rowsK_nm(t:yAC)(N k:Nat):rowsNm (rowsK t N k)=true:=List.all_eq_true.2 fun r hr=>by
 rcases List.mem_append.1 hr with h | h
 ·rw [List.eq_of_mem_replicate h];rfl
 ·rw [List.eq_of_mem_replicate h];rfl
theorem turns_ok{l:List Int}(hl:l.length≤250)(hb:1≤x.Blocks):∀(f i:Nat) (s:List ByteArray) (c:List (List V)) (xs:List yAB) (cs:List yAE) (W:PW),i+f=l.length→OInv x N s xs cs W i→CE c N→∀(M:Nat) ka kb,f<M→
  loop2 (yCY (α:=Bool) (yCG L) (yCl L) (yEG L)) M (l.map inV,x,dvN s c N N,xs.map pV,(i:Int),()) ka kb=ka ()
 | f,i,s,c,xs,cs,W,hi,h,hc,0,ka,kb,hM=>absurd hM (Nat.not_lt_zero _)
 | 0,i,s,c,xs,cs,W,hi,h,hc,M+1,ka,kb,hM=>by
   show(bif decide ((i:Int)<((l.map inV).length:Int)) then _ else _)=_
   rw [List.length_map,bif_f (decide_eq_false (by omega))]
 | f+1,i,s,c,xs,cs,W,hi,h,hc,M+1,ka,kb,hM=>by
   obtain⟨s',c',xs',cs',W',k1,k2,k3⟩:=turn_ok (L:=L) h hc hl (by omega) hb
   show yCY (yCG L) (yCl L) (yEG L) _ (fun s'=>loop2 _ M s' ka kb) ka kb=_
   rw [k3]
   exact turns_ok hl hb f (i+1) s' c' xs' cs' W' (by omega) k2 k1 M ka kb (by omega)
theorem mOne(hL:1000000<L)(hw:yJm L=some true)(x:yAN)(l:List Int):yND L x (l.map inV)=some true:=by
 have wk:(bindO (yJm L) fun r=>some r)=some true:=by rw [hw];rfl
 obtain⟨f,hf,hff⟩:=few_eq (L:=L) (x:=x)
 unfold yND yLI
 rw [hf,bindO_s]
 cases f with
 | false=>rw [Bool.not_false,cond_true,wk]
 | true=>
 obtain⟨hm,hn4⟩:=hff rfl
 rw [Bool.not_true,cond_false]
 by_cases hl:250<l.length
 ·rw [bif_t (decide_eq_true (by rw [List.length_map];omega)),wk]
 rw [bif_f (decide_eq_false (by rw [List.length_map];omega))]
 obtain⟨s,F,hmade⟩:=made_eq (L:=L) hm (by omega)
 obtain⟨N,hN⟩:∃N:Nat,x.Nodes=N:=⟨x.Nodes.toNat,by have:=(Geo.may_ok hm).n1;have:1≤x.Nodes:=this;omega⟩
 rw [show x.Nodes.toNat=N by omega] at hmade
 have G:PGeo x N s:=⟨hm,hN,F.ok,F.len⟩
 obtain⟨n1,n2,l8,l512,s1,s16,sl,hsl⟩:=G.bd
 have hb:1≤x.Blocks:=(Geo.may_ok hm).b1
 rw [hmade,bindO_s]
 dsimp only
 rw [Bool.not_true,cond_false,hN]
 simp only [Int.toNat_natCast]
 rw [gd_dec (by omega),gd_dec (by omega),gd_dec (by omega),gd_dec (by omega)]
 show gW (rowsK (bhT x []).t N 0) N (loop1 _ L (l.map inV,x,dvF s N,rowsK (bhT x []).t N 0,0,()) _)=_
 rw [gW_t (rowsK_len _ (Nat.zero_le _)).symm (rowsK_nm _ _ _)]
 refine(loop1_cnt (F:=yEW (yCG L)) (fun k=>(l.map inV,x,dvF s N,rowsK (bhT x []).t N k,(k:Int),())) N (l.map inV,x,dvF s N,rowsK (bhT x []).t N N,()) (fun k hk kn ka=>?_) (fun kn ka=>?_) N 0 L (by omega) (by omega) _).trans ?_
 ·show(bif decide ((k:Int)<x.Nodes) then _ else _)=_
  dsimp only
  rw [bif_t (decide_eq_true (by omega)),new_bh (by omega) s16,bindO_s]
  simp only [Int.toNat_natCast]
  rw [gB_t (by omega) (by rw [rowsK_len _ (by omega)];omega),gd_dec (by rw [rowsK_len _ (by omega)];omega),gd_ble (Nat.zero_le _),gd_ble (by rw [Nat.zero_add,getDr_at (rowsK_at _ hk)];exact(by decide:(3:Nat)≤21)),rowsK_set _ hk,gW_t (by rw [rowsK_len _ (by omega),rowsK_len _ (by omega)]) (rowsK_nm _ _ _),w64_t (by omega) (by omega)]
  rfl
 ·show(bif decide ((N:Int)<x.Nodes) then _ else _)=_
  dsimp only
  rw [bif_f (decide_eq_false (by omega)),gW_t rfl (rowsK_nm _ _ _)]
 dsimp only
 rw [gW_t rfl (rowsK_nm _ _ _)]
 have hrow:rowsK (bhT x []).t N N=(List.replicate N (pNew (bhT x []).t 0)).map pV:=by
  unfold rowsK
  rw [Nat.sub_self,List.replicate_zero,List.append_nil,List.map_replicate]
 rw [hrow]
 have hblank:∀k:Nat,1≤k→(k:Int)<1+2*(N:Int)+x.Log→s.getD k noS=noS:=fun k h1 h2=>F.no k h1 (by show(k:Int)<1+2*x.Nodes+x.Log;omega)
 have I0:OInv x N s (List.replicate N (pNew (bhT x []).t 0)) [] ⟨fun _=>yBG.z,fun _=>none,fun _=>pxOf (pNew (bhT x []).t 0),fun _ _=>none,fun _ _=>False⟩ 0:=by
  refine⟨G,List.length_replicate,.init _ fun _ _ _=>⟨rfl,rfl⟩,fun k hk=> .inl ⟨hblank _ (by omega) (by omega),rfl⟩,⟨?_,fun i hi=>absurd hi (Nat.not_lt_zero _),fun i _ hi=>hblank _ (by omega) (by omega),fun c hc=>(by cases hc)⟩,fun k=>?_,fun k b v c hv=>(by cases hv),fun k hk=>?_,fun k hk=>?_⟩
  ·show(0:Int)≤x.Log;omega
  ·refine(if_neg ?_).symm
   rintro⟨h1,h2⟩
   simp only [List.length_nil] at h2
   omega
  ·rw [List.getElem_replicate]
   exact⟨rfl,rfl,Int.le_refl 0,by show(0:Int)≤_;omega⟩
  ·rw [List.getElem_replicate]
   intro e;cases e
 refine(turns_ok (L:=L) (N:=N) (by omega) hb l.length 0 s (cAll N) _ [] _ (by omega) I0 (cAll_ok N) L _ _ (by omega)).trans ?_
 exact wk
end
end Go.Proofs.YtakljpcmbpaeaaaGreat

namespace Go.Proofs.YtakljpcmbpaeaaaGreat
open Go.RowKit
def allS(w:World):Stab:=fun g _=>g<w.heap.size
end Go.Proofs.YtakljpcmbpaeaaaGreat
