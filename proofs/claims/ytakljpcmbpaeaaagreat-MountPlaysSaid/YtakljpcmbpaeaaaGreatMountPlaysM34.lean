/- slices.Clone: a new row. -/
import Derived.Test.YtakljpcmbpaeaaaGreatMountPlaysM31
set_option linter.unusedSimpArgs false
set_option linter.unusedVariables false
namespace Go.Proofs.YtakljpcmbpaeaaaGreat
set_option maxHeartbeats 4000000
set_option maxRecDepth 100000
open Go.RowKit
def clR(sz:Nat)(es:List (List V)):Option (List (List V)):=bif(es.all fun r=>Nat.beq r.length sz)&&(Nat.ble es.length 1000000&&yCL es) then some es else none
theorem xMg{P:Program}{i:FuncId}{sz:Nat}(h:∀(es:List (List V)) (fl:Bool),(es.all fun r=>Nat.beq r.length sz)=true->es.length<=1000000->(∀r∈es,∀x∈r,Plain x)->xF0 P i [.sl es fl] es sz):
  xR3 P i sz (caC cdR caN) (fun a=>clR sz a.1):=by
 rintro⟨es,_⟩ r hp q
 obtain⟨q1,q2⟩:=yAN q
 rw[Bool.and_eq_true,Bool.and_eq_true] at q1
 injection q2 with q2
 subst q2
 refine h es false q1.1 (Nat.le_of_ble_eq_true q1.2.1) fun r hr x hx=>?_
 have:=hp (.sl es false) (by simp[caC,cdR,cdK])
 cases this with
 | sl _ _ hh=>exact hh r hr x hx
theorem xKz{P:Program}{t e:TypeId}{ie:_}{z:_}{es:List (List V)}{fl:Bool}{st:St}(hu:P.underlying t=some (.slice e))(hi:P.info? e=some ie)(hz:ie.zero=some z)(hzs:Nat.beq z.cells.size ie.size=true)(hby:ie.bytes<=1000000)
  (hrow:(es.all fun r=>Nat.beq r.length ie.size)=true) (hl:es.length<=1000000) (h0:¬es.length=0):sAppend P t t (.sl [] true) (.sl es fl) st=some (.bs st.c 0 (0+es.length) (0+es.length),st.new ⟨[]++es,ie.size,0⟩):=by
 have hb:(0+es.length)*ie.bytes<=140737488355328:=Nat.le_trans (Nat.mul_le_mul (show 0+es.length<=1000000 by omega) hby) (by decide)
 unfold sAppend srcRows
 rw[hu]
 dsimp only
 rw[hi]
 dsimp only
 rw[hz]
 dsimp only[elemsOf,Option.bind_some]
 rw[hzs,cond_true,hrow,cond_true]
 dsimp only[Option.bind_some,List.length_nil]
 rw[decide_eq_true hb,decide_eq_true (show 0+es.length<=9223372036854775807 by omega)]
 rfl
theorem append_nil{P:Program}{t e:TypeId}{ie:_}{z:_}{fl:Bool}{st:St}(hu:P.underlying t=some (.slice e))(hi:P.info? e=some ie)(hz:ie.zero=some z)(hzs:Nat.beq z.cells.size ie.size=true):sAppend P t t (.sl [] true) (.sl [] fl) st=some (.bs st.c 0 0 0,st.new ⟨[],ie.size,0⟩):=by
 unfold sAppend srcRows
 rw[hu]
 dsimp only
 rw[hi]
 dsimp only
 rw[hz]
 dsimp only[elemsOf,Option.bind_some]
 rw[hzs,cond_true]
 dsimp only[Option.bind_some,List.length_nil,List.all_nil,cond_true]
 rw[decide_eq_true (show(0+0)*ie.bytes<=140737488355328 by omega)]
 rfl
theorem xKO{P:Program}(hm:P.follows .mixedOrders=true){g:FuncId}{fn:Func}{t e:TypeId}{ie:_}{z:_}{sz:Nat}{R0 R1 R2 R3:Array Oper}{n0 n1 n2 n3:Nat}(hf:P.funcs[g]?=some fn)
  (hb:fn.body=some (.seq (.region n0 R0 false) (.seq (.seq (.region n1 R1 false) (.cond (.tmp 4) (.seq (.region n2 R2 false) .ret) .skip)) (.seq (.region n3 R3 false) .ret))))
  (hn:(fn.name== "runtime.NumGoroutine")=false) (hnt:Nat.ble 1 fn.ntmps=true) (hr:fn.results.toList= [.tmp 2]) (hd:(xQE R0 fn.ntmps&&xQE R1 fn.ntmps&&(xQE R2 fn.ntmps&&xQE R3 fn.ntmps))=true)
  (hu:P.underlying t=some (.slice e)) (hi:P.info? e=some ie) (hz:ie.zero=some z) (hzs:(Nat.beq z.cells.size ie.size&&Nat.beq ie.size sz&&Nat.ble ie.bytes 1000000)=true)
  (a0:∀fr st K,aops P R0 R0.toList fr st K=K (fr.put (some 2) (.sl [] true)) st)
  (a1:∀fr st K,aops P R1 R1.toList fr st K=xRy P .eql t (fr 0) (fun v=>K ((fr.put (some 3) (fr 0)).put (some 4) v) st))
  (a2:∀fr st K,aops P R2 R2.toList fr st K=K (fr.put (some 2) (.sl [] true)) st)
  (a3:∀fr st K,aops P R3 R3.toList fr st K=yVD ((sAppend P t t (.sl [] true) (fr 0) ⟨st.get,st.c+1⟩).map fun p=>(p.1,⟨p.2.get,st.c+1+1⟩)) fun y st'=>K ((((fr.put (some 5) (.sl [] true)).put (some 6) (fr 0)).put (some 7) y).put (some 2) y) st')
  (es:List (List V)) (fl:Bool) (hrow:(es.all fun r=>Nat.beq r.length sz)=true) (hl:es.length<=1000000) (hpl:∀r∈es,∀x∈r,Plain x):xF0 P g [.sl es fl] es sz:=by
 obtain⟨hd1,hd2⟩:=yBE hd
 obtain⟨hd0,hd1⟩:=yBE hd1
 obtain⟨hd2,hd3⟩:=yBE hd2
 obtain⟨hq,hby⟩:=yBE hzs
 obtain⟨hz1,hsz⟩:=yBE hq
 clear hq hzs
 have hsz:=Nat.eq_of_beq_eq_true hsz
 have hby:=Nat.le_of_ble_eq_true hby
 subst hsz
 refine xJC hf hb hn (Nat.le_of_ble_eq_true hnt) (fun i hi=>Nat.eq_of_beq_eq_true (List.all_eq_true.1 hrow _ (List.getElem_mem hi))) hpl (AW.aw0 ?_)
 rw[hr]
 refine AW.seq (AW.region hm hd0 ?_)
 show aops P R0 R0.toList _ _ _
 rw[a0]
 refine AW.seq (AW.seq (AW.region hm hd1 ?_))
 show aops P R1 R1.toList _ _ _
 rw[a1]
 have tail:∀fr:Fr,fr 0= .sl es fl->AW P fn.ntmps (.seq (.region n3 R3 false) .ret) (xTN P [.tmp 2] es ie.size) fr ⟨fun _=>none,1⟩:=fun fr h0=>by
  refine AW.seq (AW.region hm hd3 ?_)
  show aops P R3 R3.toList _ _ _
  rw[a3,h0]
  by_cases hz0:es.length=0
  ·obtain rfl:=List.eq_nil_of_length_eq_zero hz0
   rw[append_nil hu hi hz hz1]
   exact AW.ret ⟨.inl rfl,.inl ⟨2,0,0,⟨[],ie.size,0⟩,rfl,rfl,Nat.le_refl _,rfl,rfl,rfl⟩⟩
  ·rw[xKz hu hi hz hz1 hby hrow hl hz0]
   refine AW.ret ⟨.inl rfl,.inl ⟨2,0+es.length,es.length,⟨es,ie.size,0⟩,?_,rfl,Nat.le_refl _,(List.take_length).symm,rfl,rfl⟩⟩
   show some (V.bs 2 0 (0+es.length) (0+es.length))=_
   rw[Nat.zero_add]
 unfold xRy nilB
 show anK (match P.underlying t,BinOp.eql with | some (.slice _),.eql=>some (bif Nat.beq es.length 0 then none else some false) | _,_=>none) _
 rw[hu]
 dsimp only
 by_cases hz0:es.length=0
 ·rw[hz0]
  refine⟨AW.cond (b:=true) rfl (fun _=>AW.seq (AW.region hm hd2 ?_)) (fun q=>by cases q),AW.cond (b:=false) rfl (fun q=>by cases q) (fun _=>AW.skip (tail _ rfl))⟩
  show aops P R2 R2.toList _ _ _
  rw[a2]
  exact AW.ret ⟨.inl rfl,.inr ⟨List.eq_nil_of_length_eq_zero hz0,rfl⟩⟩
 ·have h1:Nat.beq es.length 0=false:=by cases h:Nat.beq es.length 0 with | true=>exact absurd (Nat.eq_of_beq_eq_true h) hz0 | false=>rfl
  rw[h1]
  exact AW.cond (b:=false) rfl (fun q=>by cases q) (fun _=>AW.skip (tail _ rfl))
def yIn(L:Nat)(x0:List (List V)):Option (List (List V)):=clR 2 x0
theorem yVv(L:Nat):xR3 Tryz.prog 356 2 (caC cdR caN) (fun a=>yIn L a.1):=xMg (xKO mixed (t:=36) (sz:=2) Tryz.func356 rfl rfl rfl rfl (by kernel_rfl) (Tryz.underlying36) rfl rfl (by kernel_rfl) (fun _ _ _=>by kernel_rfl) (fun _ _ _=>by kernel_rfl) (fun _ _ _=>by kernel_rfl) (fun _ _ _=>by kernel_rfl))
def yIm(L:Nat)(x0:List (List V)):Option (List (List V)):=clR 4 x0
theorem yVu(L:Nat):xR3 Tryz.prog 357 4 (caC cdR caN) (fun a=>yIm L a.1):=xMg (xKO mixed (t:=37) (sz:=4) Tryz.func357 rfl rfl rfl rfl (by kernel_rfl) (Tryz.underlying37) rfl rfl (by kernel_rfl) (fun _ _ _=>by kernel_rfl) (fun _ _ _=>by kernel_rfl) (fun _ _ _=>by kernel_rfl) (fun _ _ _=>by kernel_rfl))
end Go.Proofs.YtakljpcmbpaeaaaGreat
