/- Typed functions. (printed by wip/sx) -/
import Derived.Test.YtakljpcmbpaeaaaGreatPaxosEndsM36
import Derived.Test.YtakljpcmbpaeaaaGreatPaxosEndsM37
import Derived.Test.YtakljpcmbpaeaaaGreatPaxosEndsM39
import Derived.Test.YtakljpcmbpaeaaaGreatPaxosEndsM40
import Derived.Test.YtakljpcmbpaeaaaGreatPaxosEndsM38
import Derived.Test.YtakljpcmbpaeaaaGreatPaxosEndsM34
import Derived.Test.YtakljpcmbpaeaaaGreatPaxosEndsM01
set_option linter.unusedSimpArgs false
set_option linter.unusedVariables false
namespace Go.Proofs.YtakljpcmbpaeaaaGreat
open Go.RowKit
set_option maxRecDepth 100000
set_option maxHeartbeats 16000000
abbrev yEo:=(List (List V))×Int×yAQ×yAA×(List (List V))×Int×Unit
abbrev yHY:=Int×yAQ×yAA×(List (List V))×Unit
abbrev yHZ:=Bool×Unit
abbrev yCi{α:Type}(f1:yGl.T)(s:yEo)(kn:yEo->Option α)(k0:yHY->Option α)(k1:yHZ->Option α):Option α:=
 letI qh:=s.2.2.1
 letI qg:=s.2.2.2.2.2.1
 letI qf:=yDK false (yDK true (aI s.1 qg.toNat 0) 0) 1099511627776
 letI qd:=s.2.2.2.2.1
 letI qa:=qf.tmod qh.Nodes
 letI qc:=0+qa.toNat
 bif decide (qg<(s.1.length:Int)) then
 gI s.1 kI qg<|
 gd (!(decide (qh.Nodes=0)))<|
 gB qa qd.length<|
 gL qd yN3 qc 0<|
 gd (!(decide (qh.Nodes=0)))<|
 yAB (f1 qh s.2.2.2.1 (⟨(⟨aR qd qc 0,aR qd qc 1,aR qd qc 2⟩:yAM),aI qd qc 3,aI qd qc 4,aB qd qc 5,(⟨aI qd qc 6,aS qd qc 7,aI qd qc 8,aI qd qc 9,(⟨aI qd qc 10,aI qd qc 11,aI qd qc 12,aS qd qc 13⟩:yBI),(⟨aI qd qc 14,aI qd qc 15,aI qd qc 16,aS qd qc 17,aI qd qc 18,aB qd qc 19,aB qd qc 20⟩:yAm)⟩:yAO)⟩:yAD) qa (w64 (qf.tdiv qh.Nodes))) fun r1=>
 letI qe:=r1.2.1
 letI qb:=(qd.getD qc []).take 0++([V.sl qe.t_.Slots false,V.sl qe.t_.Holds false,V.sl qe.t_.Queue false,V.int .i64 qe.done_,V.int .i64 qe.serial_,V.bool qe.on_,V.int .i64 qe.p_.Node,V.str qe.p_.Cmd,V.int .i8 qe.p_.At,V.int .i64 qe.p_.I,V.int .i64 qe.p_.Own.Inst,V.int .i64 qe.p_.Own.Mbal,V.int .i64 qe.p_.Own.Bal,V.str qe.p_.Own.Val,V.int .i64 qe.p_.T.Inst,V.int .i64 qe.p_.T.Mbal,V.int .i64 qe.p_.T.Best,V.str qe.p_.T.Val,V.int .i64 qe.p_.T.Seen,V.bool qe.p_.T.Ahead,V.bool qe.p_.T.Lost]++(qd.getD qc []).drop 21)
 gB qa qd.length<|
 gd (decide (0+qa.toNat<qd.length))<|
 gd (Nat.ble 0 qc)<|
 gd (Nat.ble 21 (qd.getD qc []).length)<|
 bif !r1.2.2.1 then
 k1 (false,())
 else
 gW (qd.set qc qb) qd.length<|
 kn (s.1,s.2.1,qh,r1.1,qd.set qc qb,w64 (qg+1),())
 else
 gW qd qd.length<|
 k0 (s.2.1,qh,s.2.2.2.1,qd,())
abbrev yEp:LW2 yEo yHY yHZ:=⟨(lvC 1 (mP cdR) (lvC 2 (mP cI) (lvC 3 yRR (lvC 7 yAI (lvC 9 (mW 21) (lvC 11 (mP cI) lvN)))))),(.exit 2),(lvC 2 (mP cI) (lvC 3 yRR (lvC 7 yAI (lvC 9 (mW 21) lvN)))),.ret,(lvC 6 (mP cdB) lvN)⟩
theorem yRB{α:Type}(f1):yEp.Eq (α:=α) [yGl.s f1] Tryz.f8 [1,1,1,1,1,1,0,1,0] .no (yCi f1):=fun _ _ _=>by kernel_rfl
abbrev yEm:=(List (List V))×Int×yAQ×yAA×(List (List V))×Int×Unit
abbrev yHX:=(List (List V))×Int×yAQ×yAA×(List (List V))×Unit
abbrev yEF{α:Type}(f1:yGt.T)(s:yEm)(kn:yEm->Option α)(k0:yHX->Option α):Option α:=
 letI qd:=s.2.2.2.2.2.1
 letI qc:=s.2.2.2.2.1
 letI qb:=0+qd.toNat
 bif decide (qd<s.2.2.1.Nodes) then
 yAB (f1 s.2.2.1) fun r1=>
 letI qa:=(qc.getD qb []).take 0++([V.sl r1.Slots false,V.sl r1.Holds false,V.sl r1.Queue false]++(qc.getD qb []).drop 3)
 gB qd qc.length<|
 gd (decide (0+qd.toNat<qc.length))<|
 gd (Nat.ble 0 qb)<|
 gd (Nat.ble 3 (qc.getD qb []).length)<|
 gW (qc.set qb qa) qc.length<|
 kn (s.1,s.2.1,s.2.2.1,s.2.2.2.1,qc.set qb qa,w64 (qd+1),())
 else
 gW qc qc.length<|
 k0 (s.1,s.2.1,s.2.2.1,s.2.2.2.1,qc,())
abbrev yEn:LW1 yEm yHX:=⟨(lvC 1 (mP cdR) (lvC 2 (mP cI) (lvC 3 yRR (lvC 7 yAI (lvC 9 (mW 21) (lvC 10 (mP cI) lvN)))))),(.exit 0),(lvC 1 (mP cdR) (lvC 2 (mP cI) (lvC 3 yRR (lvC 7 yAI (lvC 9 (mW 21) lvN)))))⟩
theorem yRA{α:Type}(f1):yEn.Eq (α:=α) [yGt.s f1] Tryz.f8 [1,1,1,1,1,0,1,0] .no (yEF f1):=fun _ _ _=>by kernel_rfl
abbrev yG6:=fw3 8 (caC yDX (caC cdR (caC cI caN))) cdB
abbrev yJ3(f1:yJ4.T)(f2:yG8.T)(f3:yFR.T)(f4:yGl.T)(f5:yGm.T)(f6:yKU.T)(f7:yFb.T)(f8:yIs.T)(F0:LF1 yEm yHX (Bool))(F1:LF2 yEo yHY yHZ (Bool))(x0:yAQ)(x1:List (List V))(x2:Int):Option Bool:=
 letI qc:= [V.sl ([]) true,V.sl ([]) true,V.sl ([]) true,V.int .i64 0,V.int .i64 0,V.bool false,V.int .i64 0,V.str noS,V.int .i8 0,V.int .i64 0,V.int .i64 0,V.int .i64 0,V.int .i64 0,V.str noS,V.int .i64 0,V.int .i64 0,V.int .i64 0,V.str noS,V.int .i64 0,V.bool false,V.bool false]
 yAB (f1 x0) fun r1=>
 bif !r1 then
 yAB (f2) fun r2=>
 some r2
 else
 bif decide (200<(x1.length:Int)) then
 yAB (f2) fun r3=>
 some r3
 else
 yAB (f3 x0) fun r4=>
 bif !r4.2.1 then
 some false
 else
 gd (decide (0<=x0.Nodes))<|
 gd (decide (x0.Nodes<=x0.Nodes))<|
 gd (decide (232*x0.Nodes.toNat<=281474976710656))<|
 gd (decide (x0.Nodes<=9223372036854775807))<|
 gW (List.replicate x0.Nodes.toNat qc) x0.Nodes.toNat<|
 F0 (x1,x2,x0,r4.1,List.replicate x0.Nodes.toNat qc,0,()) (fun q5=>
 gW q5.2.2.2.2.1 q5.2.2.2.2.1.length<|
 F1 (q5.1,q5.2.1,q5.2.2.1,q5.2.2.2.1,q5.2.2.2.2.1,0,()) (fun q6=>
 letI qk:=q6.2.1
 letI qh:=w64 ((w64 (4*qk.Nodes))+10)
 letI qg:=(w64 ((q6.1.tmod qk.Nodes)+qk.Nodes)).tmod qk.Nodes
 letI qb:=q6.2.2.2.1
 letI qa:=0+qg.toNat
 letI ql:=aI qb qa 3
 letI qj:=(⟨aR qb qa 0,aR qb qa 1,aR qb qa 2⟩:yAM)
 letI qi:=w64 (qh*(w64 ((w64 (qk.Log-ql))+1)))
 letI qd:=(⟨aI qb qa 6,aS qb qa 7,aI qb qa 8,aI qb qa 9,(⟨aI qb qa 10,aI qb qa 11,aI qb qa 12,aS qb qa 13⟩:yBI),(⟨aI qb qa 14,aI qb qa 15,aI qb qa 16,aS qb qa 17,aI qb qa 18,aB qb qa 19,aB qb qa 20⟩:yAm)⟩:yAO)
 gd (!(decide (qk.Nodes=0)))<|
 gd (!(decide (qk.Nodes=0)))<|
 gB qg qb.length<|
 gL qb yN3 qa 0<|
 bif !(aB qb qa 5) then
 yAB (f4 qk q6.2.2.1 (⟨qj,aI qb qa 3,aI qb qa 4,aB qb qa 5,qd⟩:yAD) qg 0) fun r7=>
 bif !r7.2.2.1 then
 some false
 else
 yAB (f5 qk r7.1 r7.2.1.p_ r7.2.1.t_ r7.2.1.done_ qi) fun r8=>
 letI qf:=(w64 (r8.2.1.Done-1)).toNat
 bif r8.2.2.1==150 then
 yAB (f2) fun r9=>
 some r9
 else
 yAB (f6 qk r8.1) fun r10=>
 letI qn:=r10.1
 bif r8.2.2.1 !=0 then
 some false
 else
 bif r10.2.1 !=0 then
 some false
 else
 bif !r8.2.1.Over then
 some false
 else
 bif decide (w64 (qh*(w64 ((w64 (r8.2.1.Done-ql))+1)))<r8.2.1.Acts) then
 some false
 else
 bif decide (r8.2.1.Done<1) then
 some false
 else
 bif decide ((qn.length:Int)<r8.2.1.Done) then
 some false
 else
 yAB (f7 r7.2.1.p_.Cmd) fun r11=>
 bif r11.2.1==0 then
 gI qn yAG.ks (w64 (r8.2.1.Done-1))<|
 yAB (f8 (⟨aI qn qf 0,aI qn qf 1,aI qn qf 2,aI qn qf 3,aI qn qf 4,(⟨aI qn qf 5,aI qn qf 6⟩:yAN),aI qn qf 7⟩:yAG) r11.1.By r11.1.Serial) fun r12=>
 bif r12 then
 yAB (f2) fun r13=>
 some r13
 else
 some false
 else
 some false
 else
 yAB (f5 qk q6.2.2.1 qd qj ql qi) fun r14=>
 letI qm:=r14.2.1
 letI qe:=(w64 (qm.Done-1)).toNat
 bif r14.2.2.1==150 then
 yAB (f2) fun r15=>
 some r15
 else
 yAB (f6 qk r14.1) fun r16=>
 letI qo:=r16.1
 bif r14.2.2.1 !=0 then
 some false
 else
 bif r16.2.1 !=0 then
 some false
 else
 bif !qm.Over then
 some false
 else
 bif decide (w64 (qh*(w64 ((w64 (qm.Done-ql))+1)))<qm.Acts) then
 some false
 else
 bif decide (qm.Done<1) then
 some false
 else
 bif decide ((qo.length:Int)<qm.Done) then
 some false
 else
 yAB (f7 (aS qb qa 7)) fun r17=>
 bif r17.2.1==0 then
 gI qo yAG.ks (w64 (qm.Done-1))<|
 yAB (f8 (⟨aI qo qe 0,aI qo qe 1,aI qo qe 2,aI qo qe 3,aI qo qe 4,(⟨aI qo qe 5,aI qo qe 6⟩:yAN),aI qo qe 7⟩:yAG) r17.1.By r17.1.Serial) fun r18=>
 bif r18 then
 yAB (f2) fun r19=>
 some r19
 else
 some false
 else
 some false) (fun q20=>
 some q20.1))
theorem yTX(f1 f2 f3 f4 f5 f6 f7 f8 F0 F1):yG6.Eq [yJ4.s f1,yG8.s f2,yFR.s f3,yGl.s f4,yGm.s f5,yKU.s f6,yFb.s f7,yIs.s f8] (.two .no (.two .no (.two .no (.two .no (.two .no (.two (.two .no (.one (.lp (yEn.s F0)))) (.two (.two .no (.one (.lp (yEp.s F1)))) .no))))))) (yJ3 f1 f2 f3 f4 f5 f6 f7 f8 F0 F1):=fun _=>by kernel_rfl
def yMX(L:Nat):yG6.T:=yJ3 (yMZ L) (yEd L) (yJ5 L) (yBy L) (yLM L) (yOH L) (yDG L) (yMK L) (yBL (yEF (yHo L)) L) (yAe (yCi (yBy L)) L)
theorem yP4{α:Type}(L:Nat):LO Tryz.f8 [1,1,1,1,1,1,0,1,0] (yEp.s (α:=α) (yAe (yCi (yBy L)) L)):=yEp.k (yRB (yBy L)) (tC (yVp L).ent tN) (lN _) (by kernel_rfl) L
theorem yP3{α:Type}(L:Nat):LO Tryz.f8 [1,1,1,1,1,0,1,0] (yEn.s (α:=α) (yBL (yEF (yHo L)) L)):=yEn.k (yRA (yHo L)) (tC (yWR L).ent tN) (lN _) (by kernel_rfl) L
theorem yTW(L:Nat):yG6.C (yMX L):=yG6.c (yTX (yMZ L) (yEd L) (yJ5 L) (yBy L) (yLM L) (yOH L) (yDG L) (yMK L) (yBL (yEF (yHo L)) L) (yAe (yCi (yBy L)) L)) (tC (xCS L).ent (tC (yYs L).ent (tC (yT5 L).ent (tC (yVp L).ent (tC (yV2 L).ent (tC (xC1 L).ent (tC (yUF L).ent (tC (xBK L).ent tN)))))))) Tryz.func8 (by kernel_rfl) (lS (lN _) (lS (lN _) (lS (lN _) (lS (lN _) (lS (lN _) (lS (lS (lN _) (lB (lL (yP3 L)))) (lS (lS (lN _) (lB (lL (yP4 L)))) (lN _))))))))
end Go.Proofs.YtakljpcmbpaeaaaGreat



namespace Go.Proofs.YtakljpcmbpaeaaaGreat
open Go.RowKit
theorem xLu{L:Nat}(n:Int):yJE L n=some (decide (1<=n/\n<=6)):=by
 unfold yJE yMd
 by_cases h1:1<=n
 ·rw[yAb (decide_eq_true h1)]
  congr 1
  exact decide_eq_decide.2 ⟨fun h=>⟨h1,h⟩,fun h=>h.2⟩
 ·rw[yAJ (decide_eq_false h1),decide_eq_false fun h=>h1 h.1]
theorem yQt{L:Nat}(hL:10<L){s:ByteArray}(hs:s.size<=1000000000)(a n:Int):yCQ L s a n=some ((yQ9 s.data.toList a n).1,(yQ9 s.data.toList a n).2,()):=by
 unfold yCQ yVv
 rw[xLu,yAC]
 by_cases hn:1<=n/\n<=6
 ·rw[decide_eq_true hn,Bool.not_true,cond_false]
  by_cases h0:a<0
  ·rw[yAb (decide_eq_true h0),yOi hn (by omega)]
  rw[yAJ (decide_eq_false h0)]
  by_cases h1:(s.size:Int)<a
  ·rw[yAb (decide_eq_true h1),yOi hn (by rw[yBM];omega)]
  rw[yAJ (decide_eq_false h1),yAa (by omega) (by omega)]
  by_cases h2:(s.size:Int)-a<n
  ·rw[yAb (decide_eq_true h2),yOi hn (by rw[yBM];omega)]
  rw[yAJ (decide_eq_false h2)]
  obtain⟨b,rfl⟩:=Int.eq_ofNat_of_zero_le (show 0<=a by omega)
  obtain⟨v,rfl⟩:=Int.eq_ofNat_of_zero_le (show 0<=n by omega)
  obtain⟨q,hq,hrun⟩:=yFv (α:=Int×Int×Unit) (F:=yJ7) (fun q=>∃k:Nat,k<=v/\q=(s,(b:Int),((le ((s.data.toList.drop b).take k):Nat):Int),(v:Int),(k:Int),())) (fun q=>v-q.2.2.2.2.1.toNat) (fun q=>q=(((le ((s.data.toList.drop b).take v):Nat):Int),()))
   (fun q hq=>by
     obtain⟨k,hk,rfl⟩:=hq
     by_cases hlt:k<v
     ·have hb:b+k<s.size:=by omega
      refine .inl ⟨_,⟨k+1,hlt,rfl⟩,by dsimp only;omega,fun kn ka=>?_⟩
      unfold yJ7
      dsimp only
      rw[yAb (decide_eq_true (by omega)),yAa (by omega) (by omega),yW8 (by omega) (by omega),yAa (n:=8*(k:Int)) (by omega) (by omega),yCf (by rw[decide_eq_false (by omega)];rfl),show((b:Int)+k).toNat=b+k by omega,yAa (n:=(k:Int)+1) (by omega) (by omega)]
      have e:=xIY s b k hb (by omega)
      have e2:(((s[b+k]?).getD 0).toNat:Int)=((s[b+k].toNat:Nat):Int):=by simp[hb]
      have ew:∀n,RowKit.wrap64 n=IntKind.i64.wrap n:=fun n=>by rw[IntKind.wrap_i64];unfold RowKit.wrap64;omega
      rw[ew,ew] at e
      rw[e2,←e,show min (8*(k:Int)).toNat IntKind.i64.bits=8*k from by show min _ 64=_;omega]
      rfl
     ·obtain rfl:k=v:=by omega
      refine .inr ⟨_,rfl,fun kn ka=>?_⟩
      unfold yJ7
      dsimp only
      rw[yAJ (decide_eq_false (by omega))])
   L (s,(b:Int),0,(v:Int),0,()) ⟨0,Nat.zero_le _,by simp[le]⟩ (by dsimp only;omega)
  subst hq
  rw[hrun]
  dsimp only
  have h3:b+v<=s.data.toList.length:=by rw[yBM];omega
  by_cases hbig:le ((s.data.toList.drop b).take v)<=1099511627776
  ·rw[yAJ (decide_eq_false (by omega)),yTU (by omega) h3 hbig]
  ·rw[yAb (decide_eq_true (by omega)),xDp (by omega) h3 hbig]
 ·rw[decide_eq_false hn,xDo hn];rfl
theorem xD0{a b:Int}:yDK false a b=min a b:=by
 unfold yDK
 simp only[Bool.false_eq_true,if_false]
 split <;> omega
theorem xCX{L:Nat}(hL:10<L)(n:Int):yE4 L n=some (if 1<=n/\n<=6 then((yN5 n.toNat:Nat):Int) else -1):=by
 unfold yE4 yQG
 by_cases h1:n<1
 ·rw[yAb (decide_eq_true h1),if_neg (by omega)]
 rw[yAJ (decide_eq_false h1)]
 by_cases h2:6<n
 ·rw[yAb (decide_eq_true h2),if_neg (by omega)]
 rw[yAJ (decide_eq_false h2),if_pos (by omega)]
 obtain⟨v,rfl⟩:=Int.eq_ofNat_of_zero_le (show 0<=n by omega)
 obtain⟨q,hq,hrun⟩:=yFv (α:=Int) (F:=yFi) (fun q=>∃k:Nat,k<=v/\q=((v:Int),((256^k:Nat):Int),(k:Int),())) (fun q=>v-q.2.2.1.toNat) (fun q=>q=(((256^v:Nat):Int),()))
  (fun q hq=>by
    obtain⟨k,hk,rfl⟩:=hq
    by_cases hlt:k<v
    ·have hp:=xAx k (by omega)
     refine .inl ⟨_,⟨k+1,hlt,rfl⟩,by dsimp only;omega,fun kn ka=>?_⟩
     unfold yFi
     dsimp only
     have e:((256^(k+1):Nat):Int)=((256^k:Nat):Int)*256:=by rw[Nat.pow_succ];rfl
     rw[yAb (decide_eq_true (by omega)),e]
     generalize 256^k=p at*
     rw[yAa (by omega) (by omega),yAa (n:=(k:Int)+1) (by omega) (by omega)]
     rfl
    ·obtain rfl:k=v:=by omega
     refine .inr ⟨_,rfl,fun kn ka=>?_⟩
     unfold yFi
     dsimp only
     rw[yAJ (decide_eq_false (by omega))])
  L ((v:Int),1,0,()) ⟨0,Nat.zero_le _,rfl⟩ (by dsimp only;omega)
 subst hq
 rw[hrun]
 have hp:=xAx v (by omega)
 have hp0:0<256^v:=Nat.pow_pos (by omega)
 dsimp only
 rw[xD0,yAa (by omega) (by omega),Int.toNat_natCast]
 congr 1
 unfold yN5
 omega
theorem xGV{L:Nat}(hL:10<L)(a n:Int):yIg L a n=some (yGj a n):=by
 unfold yIg yQE yGj
 rw[xCX hL]
 by_cases h0:0<=a
 ·rw[yAb (decide_eq_true h0),yAC]
  congr 1
  refine decide_eq_decide.2 ?_
  by_cases hn:1<=n/\n<=6
  ·rw[if_pos hn]
   exact⟨fun h=>⟨hn.1,hn.2,h0,h⟩,fun h=>h.2.2.2⟩
  ·rw[if_neg hn]
   exact⟨fun h=>by omega,fun h=>absurd ⟨h.1,h.2.1⟩ hn⟩
 ·rw[yAJ (decide_eq_false h0),decide_eq_false fun h=>h0 h.2.2.1]
theorem xAf(l:Bs)(a v j:Nat)(hj:j<v)(h:a+v<=l.length):le ((l.drop (a+j)).take (v-j))=(l[a+j]'(by omega)).toNat+256*le ((l.drop (a+(j+1))).take (v-(j+1))):=by
 rw[List.drop_eq_getElem_cons (by omega),show v-j=v-(j+1)+1 by omega,List.take_succ_cons]
 rfl
theorem xKh{L:Nat}(hL:10<L){s:ByteArray}(hs:s.size<=1000000000)(a n:Int):yEK L s a n=some ((yQ9 s.data.toList a n).1,(yQ9 s.data.toList a n).2,()):=by
 unfold yEK yRt
 rw[xCX hL,yAC]
 by_cases hn:1<=n/\n<=6
 ·rw[if_pos hn,yAJ (decide_eq_false (by omega))]
  by_cases h0:a<0
  ·rw[yAb (decide_eq_true h0),yOi hn (by omega)]
  rw[yAJ (decide_eq_false h0)]
  by_cases h1:(s.size:Int)<a
  ·rw[yAb (decide_eq_true h1),yOi hn (by rw[yBM];omega)]
  rw[yAJ (decide_eq_false h1),yAa (by omega) (by omega)]
  by_cases h2:(s.size:Int)-a<n
  ·rw[yAb (decide_eq_true h2),yOi hn (by rw[yBM];omega)]
  rw[yAJ (decide_eq_false h2),yAa (by omega) (by omega)]
  obtain⟨b,rfl⟩:=Int.eq_ofNat_of_zero_le (show 0<=a by omega)
  obtain⟨v,rfl⟩:=Int.eq_ofNat_of_zero_le (show 0<=n by omega)
  have h3:b+v<=s.data.toList.length:=by rw[yBM];omega
  obtain⟨q,hq,hrun⟩:=yFv (α:=Int×Int×Unit) (F:=yGn) (fun q=>∃k:Nat,k<=v/\q=(s,(b:Int),((le ((s.data.toList.drop (b+k)).take (v-k)):Nat):Int),(k:Int)-1,())) (fun q=>(q.2.2.2.1+1).toNat) (fun q=>q=(((le ((s.data.toList.drop b).take v):Nat):Int),()))
   (fun q hq=>by
     obtain⟨k,hk,rfl⟩:=hq
     cases k with
     | succ k=>
       have hb:b+k<s.size:=by omega
       refine .inl ⟨_,⟨k,by omega,rfl⟩,by dsimp only;omega,fun kn ka=>?_⟩
       have h4:=yQq s.data.toList (b+(k+1)) (v-(k+1))
       have h5:=Nat.pow_le_pow_right (n:=256) (by omega) (show v-(k+1)<=5 by omega)
       have h6:=(s.data.toList[b+k]'(by rw[yBM];omega)).toNat_lt
       unfold yGn
       dsimp only
       rw[show((k+1:Nat):Int)-1=k by omega,yAb (decide_eq_true (by omega)),yAa (n:=(b:Int)+k) (by omega) (by omega),yW8 (by omega) (by omega),show((b:Int)+k).toNat=b+k by omega,xBx hb,yAa (n:=(k:Int)-1) (by omega) (by omega),
        yAa (n:=((le ((s.data.toList.drop (b+(k+1))).take (v-(k+1))):Nat):Int)*256) (by omega) (by omega),yAa (n:=((s.data.toList[b+k]'(by rw[yBM];omega)).toNat:Int)) (by omega) (by omega),yAa (by omega) (by omega),xAf _ _ _ k (by omega) h3]
       rw[show((((s.data.toList[b+k]'(by rw[yBM];omega)).toNat+256*le ((s.data.toList.drop (b+(k+1))).take (v-(k+1))):Nat)):Int)=((le ((s.data.toList.drop (b+(k+1))).take (v-(k+1))):Nat):Int)*256+((s.data.toList[b+k]'(by rw[yBM];omega)).toNat:Int) by omega]
     | zero=>
       refine .inr ⟨_,rfl,fun kn ka=>?_⟩
       unfold yGn
       dsimp only
       rw[yAJ (decide_eq_false (by omega))]
       rfl)
   L (s,(b:Int),0,(v:Int)-1,()) ⟨v,Nat.le_refl _,by rw[Nat.sub_self];rfl⟩ (by dsimp only;omega)
  subst hq
  rw[hrun]
  dsimp only
  by_cases hbig:le ((s.data.toList.drop b).take v)<=1099511627776
  ·rw[yAJ (decide_eq_false (by omega)),yTU (by omega) h3 hbig]
  ·rw[yAb (decide_eq_true (by omega)),xDp (by omega) h3 hbig]
 ·rw[if_neg hn,xDo hn];rfl
theorem xMO(n:Nat): [[V.int .u8 (IntKind.u8.wrap ((n:Int).tmod 256))]]= [UInt8.ofNat (n%256)].map byV:=by
 have h:(UInt8.ofNat (n%256)).toNat=n%256:=by simp
 have e:IntKind.u8.wrap ((n:Int).tmod 256)=((UInt8.ofNat (n%256)).toNat:Int):=by
  rw[h,IntKind.wrap_u8,Int.tmod_eq_emod_of_nonneg (by omega)];omega
 rw[e];rfl
theorem xIP{α β:Type}(f:α->β)(l:List α)(a:α):l.map f++ [a].map f=(l++ [a]).map f:=by simp
set_option maxHeartbeats 1000000 in
theorem yV6{L:Nat}(hL:10<L){b:Bs}{l:List Int}(n:Int)(hb:b.length+6*l.length<=1000000)(hl:l.length<L):yCa L (b.map byV) n (l.map inV)=some ((yTH b n l).1.map byV,(yTH b n l).2,()):=by
 unfold yCa yRu
 rw[xCX hL,yAC]
 by_cases hn:¬(1<=n/\n<=6)
 ·rw[if_neg hn,yAb (decide_eq_true (by omega))]
  unfold yTH xD6
  rw[if_neg fun h=>hn h.1]
  rfl
 replace hn:1<=n/\n<=6:=Decidable.not_not.1 hn
 rw[if_pos hn,yAJ (decide_eq_false (by omega)),yCf (yR8 1 fun _=>rfl),xCK (by rw[List.length_map];omega) (by rw[List.length_map];omega),yIx (Nat.zero_add _) (yOl _)]
 obtain⟨v,rfl⟩:=Int.eq_ofNat_of_zero_le (show 0<=n by omega)
 have inner:∀(pre:Bs) (x:Nat) (i:Int) (ka:yK2->Option (List (List V)×Int×Unit)),pre.length+6<=1000000->x<=1099511627776->yBL yDD L ((v:Int),l.map inV,pre.map byV,i,(x:Int),0,()) ka=ka ((v:Int),l.map inV,(pre++leBytes v x).map byV,i,()):=fun pre x i ka hp hxb=>by
  obtain⟨q,hq,hrun⟩:=yFv (α:=List (List V)×Int×Unit) (F:=yDD) (fun q=>∃k:Nat,k<=v/\q=((v:Int),l.map inV,(pre++leBytes k x).map byV,i,((x/256^k:Nat):Int),(k:Int),())) (fun q=>v-q.2.2.2.2.2.1.toNat) (fun q=>q=((v:Int),l.map inV,(pre++leBytes v x).map byV,i,()))
   (fun q hq=>by
     obtain⟨k,hk,rfl⟩:=hq
     have hlen:(pre++leBytes k x).length=pre.length+k:=by rw[List.length_append,yAE]
     by_cases hlt:k<v
     ·refine .inl ⟨_,⟨k+1,hlt,rfl⟩,by dsimp only;omega,fun kn ka=>?_⟩
      unfold yDD
      dsimp only
      rw[yAb (decide_eq_true (by omega)),yCf (by rw[Nat.zero_add];exact Nat.beq_refl _),xCK (by rw[List.length_map];omega) (by rw[List.length_map];omega),xMO,xIP,yIx (by simp[Nat.add_assoc]) (yOl _),yAa (n:=(k:Int)+1) (by omega) (by omega),List.append_assoc,←yT6]
      have hd:((x/256^k:Nat):Int).tdiv 256=((x/256^(k+1):Nat):Int):=by
       rw[Int.tdiv_eq_ediv_of_nonneg (Int.natCast_nonneg _),Nat.pow_succ,←Nat.div_div_eq_div_mul]
       rfl
      rw[hd]
      have hx:x/256^(k+1)<=x:=Nat.div_le_self _ _
      generalize x/256^(k+1)=z at*
      rw[yAa (by omega) (by omega)]
      rfl
     ·obtain rfl:k=v:=by omega
      refine .inr ⟨_,rfl,fun kn ka=>?_⟩
      unfold yDD
      dsimp only
      rw[yAJ (decide_eq_false (by omega)),yIx rfl (yOl _)])
   L ((v:Int),l.map inV,pre.map byV,i,(x:Int),0,()) ⟨0,Nat.zero_le _,by simp[leBytes]⟩ (by dsimp only;omega)
  subst hq
  exact hrun ka
 have hr:=yN4 (α:=List (List V)×Int×Unit) (F:=yFX (yIg L) (yBL yDD L)) (fun q=>∃k:Nat,k<=l.length/\(∀j (h:j<l.length),j<k->yGj l[j] v=true)/\q=((v:Int),l.map inV,(b++yHm v (l.take k)).map byV,(k:Int),())) (fun q=>l.length-q.2.2.2.1.toNat)
  (fun q=>(∀j (h:j<l.length),yGj l[j] v=true)/\q=((b++yHm v l).map byV,())) (fun q=>(∃j,∃h:j<l.length,yGj l[j] v=false)/\q=([],2,()))
  (fun q hq=>by
    obtain⟨k,hk,hf,rfl⟩:=hq
    have hpl:(b++yHm v (l.take k)).length=b.length+v*k:=by rw[List.length_append,ySo,List.length_take,Nat.min_eq_left hk]
    by_cases hlt:k<l.length
    ·by_cases hfit:yGj l[k] v=true
     ·refine .inl ⟨_,⟨k+1,hlt,fun j h hj=>?_,rfl⟩,by dsimp only;omega,fun kn ka kb=>?_⟩
      ·rcases Nat.lt_or_ge j k with h' | h'
       ·exact hf j h h'
       ·obtain rfl:j=k:=by omega
        exact hfit
      ·have hfl:=of_decide_eq_true hfit
       obtain⟨x,hx⟩:=Int.eq_ofNat_of_zero_le hfl.2.2.1
       have hxl:=yVi (n:=x) (w:=v) (by rw[←hx];exact hfit)
       have hvk:v*k+6<=6*l.length:=by
        have:v*k<=6*k:=Nat.mul_le_mul_right _ (by omega)
        omega
       unfold yFX
       dsimp only
       rw[yAb (decide_eq_true (by rw[List.length_map];omega)),yQ8 (by omega) (by omega),Int.toNat_natCast,yVK hlt,xGV hL,yAC,hfit,Bool.not_true,cond_false]
       rw[yQ8 (by omega) (by omega),yIx rfl (yOl _),hx,inner _ x _ _ (by rw[hpl];omega) hxl.2.1]
       dsimp only
       rw[yIx rfl (yOl _),yAa (by omega) (by omega),List.append_assoc,List.take_succ_eq_append_getElem hlt,yV5,hx]
       rfl
     ·refine .inr (.inr ⟨_,⟨⟨k,hlt,by simpa using hfit⟩,rfl⟩,fun kn ka kb=>?_⟩)
      unfold yFX
      dsimp only
      rw[yAb (decide_eq_true (by rw[List.length_map];omega)),yQ8 (by omega) (by omega),Int.toNat_natCast,yVK hlt,xGV hL,yAC,show yGj l[k] v=false by simpa using hfit]
      rfl
    ·obtain rfl:k=l.length:=by omega
     refine .inr (.inl ⟨_,⟨fun j h=>hf j h h,rfl⟩,fun kn ka kb=>?_⟩)
     unfold yFX
     dsimp only
     rw[yAJ (decide_eq_false (by rw[List.length_map];omega)),yIx rfl (yOl _),List.take_length])
  L ((v:Int),l.map inV,b.map byV,0,()) ⟨0,Nat.zero_le _,fun j _ h=>absurd h (Nat.not_lt_zero _),by simp[yHm]⟩ (by dsimp only;omega)
 unfold yTH
 rcases hr with ⟨q,⟨h1,rfl⟩,hrun⟩ | ⟨q,⟨⟨j,hj,h1⟩,rfl⟩,hrun⟩
 ·rw[hrun,yTZ (by omega) (by omega) h1]
  dsimp only
  rw[yIx rfl (yOl _)]
 ·rw[hrun,xD7 hj h1]
  dsimp only
  rw[yIx rfl rfl]
  rfl
theorem xNT(x:Nat)(h:x<4294967296):IntKind.i64.wrap ((BitVec.ofInt IntKind.i64.bits (x:Int) &&& BitVec.ofInt IntKind.i64.bits 1).toNat:Int)=((x%2:Nat):Int):=by
 have:=yRl x 1 (by omega) (by omega)
 rw[Nat.and_one_is_mod] at this
 exact this
theorem xMj(x:Nat)(h:x<4294967296):IntKind.i64.wrap ((BitVec.ofInt IntKind.i64.bits (x:Int) &&& BitVec.ofInt IntKind.i64.bits 4294967295).toNat:Int)=(x:Int):=by
 have:=yRl x 4294967295 (by omega) (by omega)
 rw[show(4294967295:Nat)=2^32-1 from rfl,Nat.and_two_pow_sub_one_eq_mod,Nat.mod_eq_of_lt (by omega)] at this
 exact this
theorem xLB(x y:Nat)(h:x<4294967296)(h':y<4294967296):IntKind.i64.wrap ((BitVec.ofInt IntKind.i64.bits (x:Int) ^^^ BitVec.ofInt IntKind.i64.bits (y:Int)).toNat:Int)=((x ^^^ y:Nat):Int):=xCP x y (by omega) (by omega)
theorem xNV(x:Nat):(x:Int).fdiv (2^(min (1:Int).toNat IntKind.i64.bits))=((x/2:Nat):Int):=by
 show(x:Int).fdiv ((2:Int)^(min 1 64))=_
 rw[show((2:Int)^(min 1 64))=2 from rfl,Int.fdiv_eq_ediv_of_nonneg _ (by omega)]
 omega
theorem xIl{L x:Nat}(h:x<4294967296):yDa L (x:Int)=some ((step x:Nat):Int):=by
 unfold yDa yQJ
 rw[xNT x h,xNV]
 unfold step
 rcases Nat.mod_two_eq_zero_or_one x with hm | hm
 ·rw[hm,if_neg (by omega)];rfl
 ·rw[hm,if_pos rfl]
  have:=xLB (x/2) 2197175160 (by omega) (by omega)
  exact congrArg some this
theorem xIi{L x:Nat}(hL:10<L)(h:x<4294967296):yIj L (x:Int) 1=some ((steps 8 x:Nat):Int):=by
 unfold yIj yQH
 rw[xMj x h]
 obtain⟨M,rfl⟩:∃M,L=M+2:=⟨L-2,by omega⟩
 have F:∀(m:Nat) (s:yGq) (ka:yJM->Option Int),yBL (yDT (yBL (yCT (yDa (M+2))) (M+2))) (m+1) s ka=yDT (yBL (yCT (yDa (M+2))) (M+2)) s (fun s'=>yBL (yDT (yBL (yCT (yDa (M+2))) (M+2))) m s' ka) ka:=fun _ _ _=>rfl
 rw[F]
 unfold yDT
 dsimp only
 rw[yAb (decide_eq_true (by omega))]
 obtain⟨q,hq,hrun⟩:=yFv (α:=Int) (F:=yCT (yDa (M+2))) (fun q=>∃k:Nat,k<=8/\q=(((steps k x:Nat):Int),1,0,(k:Int),())) (fun q=>8-q.2.2.2.1.toNat) (fun q=>q=(((steps 8 x:Nat):Int),1,0,()))
  (fun q hq=>by
    obtain⟨k,hk,rfl⟩:=hq
    by_cases hlt:k<8
    ·refine .inl ⟨_,⟨k+1,hlt,rfl⟩,by dsimp only;omega,fun kn ka=>?_⟩
     unfold yCT
     dsimp only
     rw[yAb (decide_eq_true (by omega)),xIl (yTB k h),yAC,yAa (by omega) (by omega)]
     rfl
    ·obtain rfl:k=8:=by omega
     refine .inr ⟨_,rfl,fun kn ka=>?_⟩
     unfold yCT
     dsimp only
     rw[yAJ (decide_eq_false (by omega))])
  (M+2) ((x:Int),1,0,0,()) ⟨0,Nat.zero_le _,rfl⟩ (by dsimp only;omega)
 subst hq
 rw[hrun]
 dsimp only
 rw[yAa (by omega) (by omega)]
 show yBL _ (M+1) _ _=_
 rw[F]
 unfold yDT
 dsimp only
 rw[yAJ (decide_eq_false (by omega))]
theorem xKk{L:Nat}{b:Bs}(hL:10<L)(hb:b.length<L)(hl:b.length<=1000000000):yQI L (b.map byV)=some (yI6 b:Int):=by
 unfold yQI yRw ySs yRv
 obtain⟨q,hq,hrun⟩:=yFv (α:=Int) (F:=yGp (yIj L)) (fun q=>∃k:Nat,k<=b.length/\q=(b.map byV,((yLs 4294967295 (b.take k):Nat):Int),(k:Int),())) (fun q=>b.length-q.2.2.1.toNat) (fun q=>q=(((yLs 4294967295 b:Nat):Int),()))
  (fun q hq=>by
    obtain⟨k,hk,rfl⟩:=hq
    have hx:=yPp (x:=4294967295) (by omega) (b.take k)
    by_cases hlt:k<b.length
    ·refine .inl ⟨_,⟨k+1,hlt,rfl⟩,by dsimp only;omega,fun kn ka=>?_⟩
     have hc:=b[k].toNat_lt
     have hxx:yLs 4294967295 (b.take k) ^^^ b[k].toNat<4294967296:=Nat.xor_lt_two_pow (n:=32) (by omega) (by omega)
     unfold yGp
     dsimp only
     rw[yAb (decide_eq_true (by rw[List.length_map];omega)),xMm (by omega) (by omega),Int.toNat_natCast,xMh hlt,yAa (n:=(b[k].toNat:Int)) (by omega) (by omega),xLB _ _ hx (by omega),xIi hL hxx,yAC,yAa (by omega) (by omega),List.take_succ_eq_append_getElem hlt,yVW]
     rfl
    ·obtain rfl:k=b.length:=by omega
     refine .inr ⟨_,rfl,fun kn ka=>?_⟩
     unfold yGp
     dsimp only
     rw[yAJ (decide_eq_false (by rw[List.length_map];omega)),List.take_length])
  L (b.map byV,4294967295,0,()) ⟨0,Nat.zero_le _,rfl⟩ (by dsimp only;omega)
 subst hq
 have h0:IntKind.i64.wrap ((BitVec.ofInt IntKind.i64.bits (IntKind.i64.wrap ((BitVec.ofInt IntKind.i64.bits 0 &&& BitVec.ofInt IntKind.i64.bits 4294967295).toNat:Int)) ^^^ BitVec.ofInt IntKind.i64.bits 4294967295).toNat:Int)=4294967295:=by decide +kernel
 rw[h0,hrun]
 dsimp only
 have:=xLB (yLs 4294967295 b) 4294967295 (yPp (by omega) _) (by omega)
 exact congrArg some this
theorem xCZ{L:Nat}{b:Bs}{l:List Int}(n:Int)(hb:b.length+6*l.length<=1000000):yIE L (b.map byV) n (l.map inV)=some ((yTH b n l).1.map byV,(yTH b n l).2,()):=by
 unfold yIE
 rw[yZU xJH,yZU xLq,xEE xF8,xEE xLr,List.length_map,List.length_map,Nat.ble_eq_true_of_le (by omega)]
 rfl
theorem xJJ{L:Nat}{b:Bs}(hb:b.length<=1000000000):yRf L (b.map byV)=some (yI6 b:Int):=by
 unfold yRf
 rw[yZU xJH,xEE xF8,List.length_map,Nat.ble_eq_true_of_le hb]
 rfl
theorem data_extract(s:ByteArray)(a b:Nat):(s.extract a b).data.toList=(s.data.toList.drop a).take (b-a):=by
 rw[ByteArray.data_extract,Array.toList_extract]
theorem extract_mk(s:ByteArray)(a b:Nat):s.extract a b=mkS ((s.data.toList.drop a).take (b-a)):=by
 rw[←data_extract,xIR]
theorem toList_mk(b:Bs):(mkS b).toList=b:=by rw[ByteArray.toList_eq];simp[mkS]
theorem yVG(s:ByteArray):s.toList=s.data.toList:=by rw[ByteArray.toList_eq]
theorem xGp{k:Int}(h1:1<=k)(h2:k<=127): [[V.int .u8 (IntKind.u8.wrap k)]]= [UInt8.ofNat k.toNat].map byV:=by
 have e:IntKind.u8.wrap k=((UInt8.ofNat k.toNat).toNat:Int):=by
  rw[IntKind.wrap_u8,UInt8.toNat_ofNat']
  omega
 rw[e];rfl
theorem xMB{k:Int}{n:Nat}(hn:n<=505):yTH [UInt8.ofNat k.toNat] 2 [(n:Int)]=([UInt8.ofNat k.toNat]++leBytes 2 n,0):=by
 unfold yTH
 rw[show(2:Int)=((2:Nat):Int) from rfl,yTZ (by omega) (by omega) fun j h=>by
  have:j=0:=by simpa using h
  subst this
  exact decide_eq_true (by simp[yN5];omega)]
 simp[yHm]
theorem xMs{b:Bs}{n:Nat}(hn:n<4294967296):yTH b 4 [(n:Int)]=(b++leBytes 4 n,0):=by
 unfold yTH
 rw[show(4:Int)=((4:Nat):Int) from rfl,yTZ (by omega) (by omega) fun j h=>by
  have:j=0:=by simpa using h
  subst this
  exact decide_eq_true (by simp[yN5];omega)]
 simp[yHm]
theorem xDZ(a:Bs)(s:ByteArray):a.map byV++yCm s=(a++s.data.toList).map byV:=by rw[yU9,List.map_append]
theorem yME{α:Type}(l:List α){n:Nat}(h:n=l.length):l.take n=l:=by rw[h,List.take_length]
theorem xBa{L:Nat}{k:Int}{rows:List (List V)}{s:ByteArray}(hk:k<=127)(hr:yCR rows=true):∃y,yCn L (rows,0,k,()) s=some ((mkS (yQa k s.data.toList).1,(yQa k s.data.toList).2,()),y):=by
 unfold yCn yHc
 dsimp only
 by_cases h1:k<1
 ·rw[yAb (decide_eq_true h1),yIx rfl hr,yS6 (by omega)]
  exact⟨_,rfl⟩
 rw[yAJ (decide_eq_false h1)]
 by_cases h2:505<(s.size:Int)
 ·rw[yAb (decide_eq_true h2),yIx rfl hr,yS6 (by rw[yBM];omega)]
  exact⟨_,rfl⟩
 rw[yAJ (decide_eq_false h2),xGp (by omega) hk]
 have hl:s.data.toList.length=s.size:=yBM s
 have hin: [[V.int .i64 (s.size:Int)]]= [(s.size:Int)].map inV:=rfl
 rw[hin,xCZ 2 (by simp),xMB (by omega),yAC]
 dsimp only
 have hh: [UInt8.ofNat k.toNat]++leBytes 2 s.size++s.data.toList=yCB k s.data.toList:=by simp[yCB,hl]
 have hlen:=yE9 k s.data.toList
 have e1:(([UInt8.ofNat k.toNat]++leBytes 2 s.size).map byV).length+(yCm s).length=(yCB k s.data.toList).length:=by
  rw[yU9,List.length_map,List.length_map,←List.length_append,hh]
 rw[show((0:Int) !=0)=false from rfl,cond_false,xDZ,hh,e1,yCf (by rw[Nat.zero_add];exact Nat.beq_refl _),xCK (by omega) (by omega),yRQ (by simp) (by omega) (yOl _),yME _ (by simp),xJJ (by omega),yAC,yRQ (by simp) (by omega) (yOl _)]
 have hin2: [[V.int .i64 (yI6 (yCB k s.data.toList):Int)]]= [(yI6 (yCB k s.data.toList):Int)].map inV:=rfl
 rw[hin2,xCZ 4 (by simp;omega),xMs (yVX _),yAC]
 dsimp only
 rw[show((0:Int) !=0)=false from rfl,cond_false,yCf (by rw[Nat.zero_add];exact Nat.ble_eq_true_of_le (Nat.le_refl _)),yME _ rfl,yCf (yNp _),yIx rfl (yOl _),yLK,yS7 (by omega) (by omega)]
 exact⟨_,rfl⟩
theorem xKu{L:Nat}{k:Int}{s:ByteArray}(hk:k<=127):yOK L k s=some (mkS (yQa k s.data.toList).1,(yQa k s.data.toList).2,()):=by
 unfold yOK ySB
 obtain⟨y,h⟩:=xBa (L:=L) (s:=s) (rows:= []) hk rfl
 rw[h,yAC]
theorem xGl{n:Nat}(h:n<=127):IntKind.i8.wrap (n:Int)=n:=by
 simp[IntKind.wrap,IntKind.bits,IntKind.signed]
 split <;> omega
theorem xKZ{L:Nat}(hL:10<L){s:ByteArray}(hs:s.size<=1000000000):yQc L s=some ((yE2 s.data.toList).1,mkS (yE2 s.data.toList).2.1,(yE2 s.data.toList).2.2,()):=by
 have hl:s.data.toList.length=s.size:=yBM s
 have hno:∀h:yE2 s.data.toList=(0,[],30),some ((0:Int),noS,(30:Int),())=some ((yE2 s.data.toList).1,mkS (yE2 s.data.toList).2.1,(yE2 s.data.toList).2.2,()):=fun h=>by rw[h];rfl
 unfold yQc ySA
 rw[yQt hL hs,yAC]
 by_cases h3:s.size<3
 ·rw[yOi (by omega) (by omega)]
  exact hno (yRr (by omega))
 have hg:=yQq s.data.toList 1 2
 have hget:yQ9 s.data.toList 1 2=(((le ((s.data.toList.drop 1).take 2):Nat):Int),0):=yTU (a:=1) (w:=2) (by omega) (by omega) (by omega)
 rw[hget]
 dsimp only
 generalize hn:le ((s.data.toList.drop 1).take 2)=n at*
 rw[show((0:Int) !=0)=false from rfl,cond_false,yAa (n:=3+(n:Int)) (by omega) (by omega),yAa (by omega) (by omega)]
 by_cases h4:¬(s.size:Int)=3+n+4
 ·rw[yAb (bne_iff_ne.2 h4)]
  by_cases h7:s.size<7
  ·exact hno (yRr (by omega))
  ·exact hno (xG5 (by omega) (by rw[hn];omega))
 replace h4:(s.size:Int)=3+n+4:=Decidable.not_not.1 h4
 rw[yAJ (by rw[h4];exact bne_self_eq_false _)]
 by_cases h5:505<(n:Int)
 ·rw[yAb (decide_eq_true h5)]
  exact hno (yX5 (by omega))
 have hb:(((s[0]?).getD 0).toNat:Int)=((s.data.toList.getD 0 0).toNat:Int):=by
  rw[xBx (by omega),List.getD_eq_getElem?_getD,List.getElem?_eq_getElem (by omega)];rfl
 rw[yAJ (decide_eq_false h5),yCf (decide_eq_true (by omega)),hb]
 by_cases h6:(s.data.toList.getD 0 0).toNat=0
 ·rw[yAb (by rw[h6];rfl)]
  exact hno (yX6 h6)
 rw[yAJ (beq_eq_false_iff_ne.2 (by omega)),yCf (decide_eq_true (by omega))]
 by_cases h7:127<(s.data.toList.getD 0 0).toNat
 ·rw[yAb (decide_eq_true (by omega))]
  exact hno (xAq h7)
 have hg4:=yQq s.data.toList (3+n) 4
 have hget4:yQ9 s.data.toList (3+(n:Int)) 4=(((le ((s.data.toList.drop (3+n)).take 4):Nat):Int),0):=yTU (a:=3+n) (w:=4) (by omega) (by omega) (by omega)
 have hd4:(s.data.toList.drop (3+n)).take 4=s.data.toList.drop (s.data.toList.length-4):=by
  rw[show s.data.toList.length-4=3+n by omega]
  exact List.take_of_length_le (by rw[List.length_drop];omega)
 have hex:yCm (s.extract 0 (3+n))=(s.data.toList.take (s.data.toList.length-4)).map byV:=by
  rw[yU9,data_extract,List.drop_zero,show 3+n-0=s.data.toList.length-4 by omega]
 have hes:(s.extract 0 (3+n)).size=3+n:=by rw[ByteArray.size_extract];omega
 have htl:(s.data.toList.take (s.data.toList.length-4)).length=3+n:=by rw[List.length_take];omega
 rw[yAJ (decide_eq_false (by omega)),yQt hL hs,hget4,yAC,yCf (decide_eq_true (by omega)),yCf (decide_eq_true (by omega)),show(3+(n:Int)).toNat=3+n by omega,hes,hex,yRQ (by rw[List.length_map];omega) (by omega) (yOl _),yME _ (by rw[List.length_map];omega),xJJ (by omega),yAC,hd4]
 dsimp only
 by_cases h8:le (s.data.toList.drop (s.data.toList.length-4))=yI6 (s.data.toList.take (s.data.toList.length-4))
 ·rw[yAJ (by rw[h8];exact bne_self_eq_false _),yCf (decide_eq_true (by omega)),yCf (decide_eq_true (by omega)),yCf (decide_eq_true (by omega)),yCf (decide_eq_true (by omega)),xGl (by omega),xIX (by omega) (by omega) (by omega) (by omega) (by rw[hn];omega) h8,extract_mk,show 3+n-3=s.data.toList.length-7 by omega]
 ·rw[yAb (bne_iff_ne.2 (by omega))]
  exact hno (xG6 (by omega) h8)
theorem of_eq{L:Nat}(hL:10<L){s:ByteArray}(hs:s.size<=1000000000)(k:Int):yQb L k s=some (mkS (ofR k s.data.toList).1,(ofR k s.data.toList).2,()):=by
 unfold yQb yWd ofR
 rw[xKZ hL hs,yAC]
 dsimp only
 by_cases h1:(yE2 s.data.toList).2.2=0
 ·rw[yAJ (by rw[h1];rfl)]
  by_cases h2:(yE2 s.data.toList).1=k
  ·rw[yAJ (by rw[h2];exact bne_self_eq_false _),if_pos ⟨h1,h2⟩]
  ·rw[yAb (bne_iff_ne.2 h2),if_neg fun h=>h2 h.2];rfl
 ·rw[yAb (bne_iff_ne.2 h1),if_neg fun h=>h1 h.1];rfl
theorem yU0{r j:Nat}(hr:r<4294967296)(hj:j<=3): [V.int .u8 (IntKind.u8.wrap ((r:Int).fdiv (2^(min ((8*j:Nat):Int).toNat IntKind.i64.bits))))]=byV (UInt8.ofNat (r/256^j%256)):=by
 have h:(UInt8.ofNat (r/256^j%256)).toNat=r/256^j%256:=by simp
 have e:IntKind.u8.wrap ((r:Int).fdiv (2^(min ((8*j:Nat):Int).toNat IntKind.i64.bits)))=((UInt8.ofNat (r/256^j%256)).toNat:Int):=by
  rw[h,IntKind.wrap_u8,Int.toNat_natCast,show min (8*j) IntKind.i64.bits=8*j from by show min _ 64=_;omega]
  have:(2:Int)^(8*j)=((256^j:Nat):Int):=by
   rw[Int.pow_mul];norm_cast
  rw[this,Int.fdiv_eq_ediv_of_nonneg _ (Int.natCast_nonneg _)]
  omega
 rw[e];rfl
theorem xKG{r:Nat}(hr:r<4294967296): [[V.int .u8 (IntKind.u8.wrap (r:Int))],[V.int .u8 (IntKind.u8.wrap ((r:Int).fdiv (2^(min (8:Int).toNat IntKind.i64.bits))))],[V.int .u8 (IntKind.u8.wrap ((r:Int).fdiv (2^(min (16:Int).toNat IntKind.i64.bits))))],[V.int .u8 (IntKind.u8.wrap ((r:Int).fdiv (2^(min (24:Int).toNat IntKind.i64.bits))))]]=(leBytes 4 r).map byV:=by
 have h0:=yU0 (j:=0) hr (by omega)
 have h1:=yU0 (j:=1) hr (by omega)
 have h2:=yU0 (j:=2) hr (by omega)
 have h3:=yU0 (j:=3) hr (by omega)
 have e0:(r:Int).fdiv (2^(min ((8*0:Nat):Int).toNat IntKind.i64.bits))=r:=by
  show(r:Int).fdiv 1=r
  simp
 rw[e0] at h0
 rw[show(8:Int)=((8*1:Nat):Int) from rfl,show(16:Int)=((8*2:Nat):Int) from rfl,show(24:Int)=((8*3:Nat):Int) from rfl,h0,h1,h2,h3]
 simp[leBytes,Nat.div_div_eq_div_mul]
theorem xEB{L:Nat}(hL:1000<L){k:Int}{s:ByteArray}(hk:k<=127):yKC L k s=some (mkS (yQa k s.data.toList).1,(yQa k s.data.toList).2,()):=by
 unfold yKC yQM
 by_cases h1:k<1
 ·rw[yAb (decide_eq_true h1),yS6 (by omega)];rfl
 rw[yAJ (decide_eq_false h1)]
 by_cases h2:505<(s.size:Int)
 ·rw[yAb (decide_eq_true h2),yS6 (by rw[yBM];omega)];rfl
 rw[yAJ (decide_eq_false h2),xGp (by omega) hk]
 have hl:s.data.toList.length=s.size:=yBM s
 have hin: [[V.int .i64 (s.size:Int)]]= [(s.size:Int)].map inV:=rfl
 rw[hin,yV6 (by omega) 2 (by simp) (by simp;omega),xMB (by omega),yAC]
 dsimp only
 have hh: [UInt8.ofNat k.toNat]++leBytes 2 s.size++s.data.toList=yCB k s.data.toList:=by simp[yCB,hl]
 have hlen:=yE9 k s.data.toList
 have e1:(([UInt8.ofNat k.toNat]++leBytes 2 s.size).map byV).length+(yCm s).length=(yCB k s.data.toList).length:=by
  rw[yU9,List.length_map,List.length_map,←List.length_append,hh]
 rw[xDZ,hh,e1,yCf (by rw[Nat.zero_add];exact Nat.beq_refl _),xCK (by omega) (by omega),yRQ (by simp) (by omega) (yOl _),yME _ (by simp),xKk (by omega) (by omega) (by omega),yAC,xKG (yVX _),←List.map_append,yCf (by rw[Nat.zero_add,List.length_map];exact Nat.beq_refl _),xCK (by omega) (by omega)]
 have e2:(yCB k s.data.toList).length+4=((yCB k s.data.toList++leBytes 4 (yI6 (yCB k s.data.toList))).map byV).length:=by simp[yAE]
 rw[yME _ e2,yCf (by rw[Nat.zero_add,←e2];exact Nat.ble_eq_true_of_le (Nat.le_refl _)),yCf (yNp _),yLK,yS7 (by omega) (by omega)]
theorem xIc{L:Nat}(hL:1000<L)(s:ByteArray):yOB L s=some ((yE2 s.data.toList).1,mkS (yE2 s.data.toList).2.1,(yE2 s.data.toList).2.2,()):=by
 have hl:s.data.toList.length=s.size:=yBM s
 have hno:∀h:yE2 s.data.toList=(0,[],30),some ((0:Int),noS,(30:Int),())=some ((yE2 s.data.toList).1,mkS (yE2 s.data.toList).2.1,(yE2 s.data.toList).2.2,()):=fun h=>by rw[h];rfl
 unfold yOB yQL
 by_cases h1:(s.size:Int)<7
 ·rw[yAb (decide_eq_true h1)]
  exact hno (yRr (by omega))
 rw[yAJ (decide_eq_false h1)]
 by_cases h2:512<(s.size:Int)
 ·rw[yAb (decide_eq_true h2)]
  exact hno (yX5 (by omega))
 have hb:(((s[0]?).getD 0).toNat:Int)=((s.data.toList.getD 0 0).toNat:Int):=by
  rw[xBx (by omega),List.getD_eq_getElem?_getD,List.getElem?_eq_getElem (by omega)];rfl
 rw[yAJ (decide_eq_false h2),yCf (decide_eq_true (by omega)),hb]
 by_cases h6:(s.data.toList.getD 0 0).toNat=0
 ·rw[yAb (decide_eq_true (by omega))]
  exact hno (yX6 h6)
 rw[yAJ (decide_eq_false (by omega)),yCf (decide_eq_true (by omega))]
 by_cases h7:127<(s.data.toList.getD 0 0).toNat
 ·rw[yAb (decide_eq_true (by omega))]
  exact hno (xAq h7)
 rw[yAJ (decide_eq_false (by omega)),yCf (decide_eq_true (by omega)),yAa (by omega) (by omega),yCf (decide_eq_true (by omega)),yCf (decide_eq_true (by omega)),yCf (decide_eq_true (by omega)),xGl (by omega),show((s.size:Int)-4).toNat=s.size-4 by omega,xEB hL (by omega),yAC,data_extract,show s.size-4-3=s.data.toList.length-7 by omega,extract_mk]
 rw[show s.size-4-3=s.data.toList.length-7 by omega]
 generalize hm:(s.data.toList.drop 3).take (s.data.toList.length-7)=m
 have hml:m.length<=505:=by rw[←hm,List.length_take];omega
 rw[yS7 (by omega) hml,toList_mk,yVG]
 dsimp only
 rw[show((0:Int) !=0)=false from rfl,cond_false]
 have hop:yE2 s.data.toList=if yOI (s.data.toList.getD 0 0).toNat m=some s.data.toList then(((s.data.toList.getD 0 0).toNat:Int),m,0) else(0,[],30):=by
  unfold yE2
  rw[hm]
  by_cases h:yOI (s.data.toList.getD 0 0).toNat m=some s.data.toList
  ·rw[if_pos h,if_pos ⟨by omega,by omega,by omega,by omega,h⟩]
  ·rw[if_neg h,if_neg fun q=>h q.2.2.2.2]
 rw[hop,yKW (by omega) hml]
 by_cases h8:yCB ((s.data.toList.getD 0 0).toNat:Int) m++leBytes 4 (yI6 (yCB ((s.data.toList.getD 0 0).toNat:Int) m))=s.data.toList
 ·rw[yAJ (by rw[h8,beq_self_eq_true];rfl),if_pos (by rw[h8])]
 ·rw[yAb (by rw[beq_eq_false_iff_ne.2 h8];rfl),if_neg fun h=>h8 (by injection h)]
  rfl
theorem xME{L:Nat}(hL:1000<L)(s:ByteArray)(k:Int):yQv L k s=some (mkS (ofR k s.data.toList).1,(ofR k s.data.toList).2,()):=by
 unfold yQv yTc ofR
 rw[xIc hL,yAC]
 dsimp only
 by_cases h1:(yE2 s.data.toList).2.2=0
 ·rw[yAJ (by rw[h1];rfl)]
  by_cases h2:(yE2 s.data.toList).1=k
  ·rw[yAJ (by rw[h2];exact bne_self_eq_false _),if_pos ⟨h1,h2⟩]
  ·rw[yAb (bne_iff_ne.2 h2),if_neg fun h=>h2 h.2];rfl
 ·rw[yAb (bne_iff_ne.2 h1),if_neg fun h=>h1 h.1];rfl
theorem xMA(b:Bs)(w n:Int):yTH b w [n]=if yGj n w=true then(b++leBytes w.toNat n.toNat,0) else([],2):=by
 unfold yTH xD6
 by_cases h:yGj n w=true
 ·have hf:=of_decide_eq_true h
  rw[if_pos h,if_pos ⟨⟨hf.1,hf.2.1⟩,by simpa using h⟩]
  simp[yHm]
 ·rw[if_neg h,if_neg fun q=>h (by simpa using q.2)]
theorem xDY(a b:ByteArray):(a++b).data.toList=a.data.toList++b.data.toList:=by simp
theorem mk_data(b:Bs):(mkS b).data.toList=b:=rfl
theorem yYv(b:Bs):(mkS b).size=b.length:=by rw[←yBM,mk_data]
theorem yXy{ws l:List Int}{i:Nat}{b:Bs}(hw:i<ws.length)(hl:i<l.length)(h:fieldsB [] (ws.take i) (l.take i)=some b):
  fieldsB [] (ws.take (i+1)) (l.take (i+1))=if yGj l[i] ws[i]=true/\(b++leBytes ws[i].toNat l[i].toNat).length<=505 then some (b++leBytes ws[i].toNat l[i].toNat) else none:=by
 rw[List.take_succ_eq_append_getElem hw,List.take_succ_eq_append_getElem hl,xAN _ _ _ _ _ (by simp;omega),h]
 rfl
theorem yOb{ws l:List Int}{i:Nat}(hlen:ws.length=l.length)(h:fieldsB [] (ws.take i) (l.take i)=none):fieldsB [] ws l=none:=by
 have:=xAM [] (ws.take i) (l.take i) (ws.drop i) (l.drop i) (by simp[hlen]) h
 rwa [List.take_append_drop,List.take_append_drop] at this
theorem xKR{L:Nat}{k:Int}{rest:ByteArray}{ws l:List Int}(hk:k<=127)(hL:l.length<L)(hl:l.length<=1000000)(hr:rest.size<=1000000):
  yOJ L k rest (ws.map inV) (l.map inV)=some (mkS (yUS k rest.data.toList ws l).1,(yUS k rest.data.toList ws l).2,()):=by
 unfold yOJ yR9 yUS
 rw[List.length_map,List.length_map]
 by_cases hlen:¬ws.length=l.length
 ·rw[yAb (bne_iff_ne.2 (by omega)),yVg _ _ _ hlen];rfl
 replace hlen:ws.length=l.length:=Decidable.not_not.1 hlen
 rw[yAJ (by rw[hlen];exact bne_self_eq_false _)]
 have hrun:=yN4 (α:=ByteArray×Int×Unit) (F:=yFd (yIE L)) (fun q=>∃(i:Nat) (b:Bs),i<=l.length/\fieldsB [] (ws.take i) (l.take i)=some b/\q=(rest,ws.map inV,(b.map byV,0,k,()),l.map inV,(l.length:Int),(i:Int),())) (fun q=>l.length-q.2.2.2.2.2.1.toNat)
  (fun a=>∃b,fieldsB [] ws l=some b/\a=(rest,(b.map byV,0,k,()),())) (fun a=>fieldsB [] ws l=none/\a=(noS,2,()))
  (fun q hq=>by
    obtain⟨i,b,hi,hf,rfl⟩:=hq
    have hbl:=yKp _ _ _ _ hf (by simp)
    by_cases hlt:i<l.length
    ·have hstep:=yXy (by omega) hlt hf
     have hp:yIE L (b.map byV) ws[i] ([[V.int .i64 l[i]]])=some ((yTH b ws[i] [l[i]]).1.map byV,(yTH b ws[i] [l[i]]).2,()):=xCZ (l:= [l[i]]) _ (by simp;omega)
     rw[xMA] at hp
     have pre:∀kn ka kb,yFd (yIE L) (rest,ws.map inV,(b.map byV,0,k,()),l.map inV,(l.length:Int),(i:Int),()) kn ka kb=(yAB (yIE L (b.map byV) ws[i] ([[V.int .i64 l[i]]])) fun r1=>
       bif r1.2.1 !=0 then kb (noS,2,()) else bif(0:Int) !=0 then kb (noS,2,()) else bif decide (505<(r1.1.length:Int)) then kb (noS,2,()) else
       gW r1.1 r1.1.length<|kn (rest,ws.map inV,(r1.1,0,k,()),l.map inV,(l.length:Int),w64 ((i:Int)+1),()):Option (ByteArray×Int×Unit)):=fun kn ka kb=>by
      unfold yFd
      dsimp only
      rw[yAb (decide_eq_true (by omega)),yQ8 (by omega) (by omega),yQ8 (by omega) (by omega),yRQ (by rw[List.length_map];omega) (by rw[List.length_map];omega) (yOl _),yME _ rfl,Int.toNat_natCast,yVK hlt,yVK (by omega)]
     by_cases hfit:yGj l[i] ws[i]=true
     ·rw[if_pos hfit] at hp
      by_cases h5:(b++leBytes ws[i].toNat l[i].toNat).length<=505
      ·rw[if_pos ⟨hfit,h5⟩] at hstep
       refine .inl ⟨_,⟨i+1,_,hlt,hstep,rfl⟩,by dsimp only;omega,fun kn ka kb=>?_⟩
       rw[pre,hp,yAC]
       dsimp only
       rw[show((0:Int) !=0)=false from rfl,cond_false,cond_false,yAJ (decide_eq_false (by rw[List.length_map];omega)),yIx rfl (yOl _),yAa (by omega) (by omega)]
       rfl
      ·rw[if_neg fun h=>h5 h.2] at hstep
       refine .inr (.inr ⟨_,⟨yOb hlen hstep,rfl⟩,fun kn ka kb=>?_⟩)
       rw[pre,hp,yAC]
       dsimp only
       rw[show((0:Int) !=0)=false from rfl,cond_false,cond_false,yAb (decide_eq_true (by rw[List.length_map];omega))]
     ·rw[if_neg hfit] at hp
      rw[if_neg fun h=>hfit h.1] at hstep
      refine .inr (.inr ⟨_,⟨yOb hlen hstep,rfl⟩,fun kn ka kb=>?_⟩)
      rw[pre,hp,yAC]
      rfl
    ·obtain rfl:i=l.length:=by omega
     refine .inr (.inl ⟨_,⟨b,by rw[List.take_length,←hlen,List.take_length] at hf;exact hf,rfl⟩,fun kn ka kb=>?_⟩)
     unfold yFd
     dsimp only
     rw[yAJ (decide_eq_false (by omega)),yIx rfl (yOl _)])
  L (rest,ws.map inV,([],0,k,()),l.map inV,(l.length:Int),0,()) ⟨0,[],Nat.zero_le _,rfl,rfl⟩ (by dsimp only;omega)
 rcases hrun with ⟨a,⟨b,hb,rfl⟩,hrun⟩ | ⟨a,⟨hb,rfl⟩,hrun⟩
 ·have hbl:=yKp _ _ _ _ hb (by simp)
  rw[hrun,hb]
  dsimp only
  rw[yCf (by rw[Nat.zero_add];exact Nat.ble_eq_true_of_le (Nat.le_refl _)),yME _ rfl,yCf (yNp _),yLK,yYv,yCf (decide_eq_true (by omega)),yIx rfl (yOl _)]
  obtain⟨y,hy⟩:=xBa (L:=L) (k:=k) (rows:=b.map byV) (s:=mkS b++rest) hk (yOl _)
  rw[hy,yAC,xDY,mk_data]
 ·rw[hrun,hb];rfl
theorem xEA{L:Nat}{k:Int}{rest:ByteArray}{ws l:List Int}(hk:k<=127)(hL:l.length<L)(hL2:1000<L)(hl:l.length<=1000000)(hr:rest.size<=1000000):
  yKB L k rest (ws.map inV) (l.map inV)=some (mkS (yUS k rest.data.toList ws l).1,(yUS k rest.data.toList ws l).2,()):=by
 unfold yKB yQK yUS
 rw[List.length_map,List.length_map]
 by_cases hlen:¬ws.length=l.length
 ·rw[yAb (bne_iff_ne.2 (by omega)),yVg _ _ _ hlen];rfl
 replace hlen:ws.length=l.length:=Decidable.not_not.1 hlen
 rw[yAJ (by rw[hlen];exact bne_self_eq_false _)]
 have hrun:=yN4 (α:=ByteArray×Int×Unit) (F:=yEL (yCa L)) (fun q=>∃(i:Nat) (b:Bs),i<=l.length/\fieldsB [] (ws.take i) (l.take i)=some b/\q=(k,rest,ws.map inV,l.map inV,b.map byV,(i:Int),())) (fun q=>l.length-q.2.2.2.2.2.1.toNat)
  (fun a=>∃b,fieldsB [] ws l=some b/\a=(k,rest,b.map byV,())) (fun a=>fieldsB [] ws l=none/\a=(noS,2,()))
  (fun q hq=>by
    obtain⟨i,b,hi,hf,rfl⟩:=hq
    have hbl:=yKp _ _ _ _ hf (by simp)
    by_cases hlt:i<l.length
    ·have hstep:=yXy (by omega) hlt hf
     have hp:yCa L (b.map byV) ws[i] ([[V.int .i64 l[i]]])=some ((yTH b ws[i] [l[i]]).1.map byV,(yTH b ws[i] [l[i]]).2,()):=yV6 (l:= [l[i]]) (by omega) _ (by simp;omega) (by simp;omega)
     rw[xMA] at hp
     have pre:∀kn ka kb,yEL (yCa L) (k,rest,ws.map inV,l.map inV,b.map byV,(i:Int),()) kn ka kb=(yAB (yCa L (b.map byV) ws[i] ([[V.int .i64 l[i]]])) fun r1=>
       bif r1.2.1 !=0 then kb (noS,2,()) else bif decide (505<(r1.1.length:Int)) then kb (noS,2,()) else
       gF r1.1 (0+r1.1.length)<|kn (k,rest,ws.map inV,l.map inV,r1.1.take r1.1.length,w64 ((i:Int)+1),()):Option (ByteArray×Int×Unit)):=fun kn ka kb=>by
      unfold yEL
      dsimp only
      rw[yAb (decide_eq_true (by rw[List.length_map];omega)),yQ8 (by omega) (by omega),yQ8 (by omega) (by omega),Int.toNat_natCast,yVK hlt,yVK (by omega)]
     by_cases hfit:yGj l[i] ws[i]=true
     ·rw[if_pos hfit] at hp
      by_cases h5:(b++leBytes ws[i].toNat l[i].toNat).length<=505
      ·rw[if_pos ⟨hfit,h5⟩] at hstep
       refine .inl ⟨_,⟨i+1,_,hlt,hstep,rfl⟩,by dsimp only;omega,fun kn ka kb=>?_⟩
       rw[pre,hp,yAC]
       dsimp only
       rw[show((0:Int) !=0)=false from rfl,cond_false,yAJ (decide_eq_false (by rw[List.length_map];omega)),yRQ (by omega) (by rw[List.length_map];omega) (yOl _),yME _ rfl,yAa (by omega) (by omega)]
       rfl
      ·rw[if_neg fun h=>h5 h.2] at hstep
       refine .inr (.inr ⟨_,⟨yOb hlen hstep,rfl⟩,fun kn ka kb=>?_⟩)
       rw[pre,hp,yAC]
       dsimp only
       rw[show((0:Int) !=0)=false from rfl,cond_false,yAb (decide_eq_true (by rw[List.length_map];omega))]
     ·rw[if_neg hfit] at hp
      rw[if_neg fun h=>hfit h.1] at hstep
      refine .inr (.inr ⟨_,⟨yOb hlen hstep,rfl⟩,fun kn ka kb=>?_⟩)
      rw[pre,hp,yAC]
      rfl
    ·obtain rfl:i=l.length:=by omega
     refine .inr (.inl ⟨_,⟨b,by rw[List.take_length,←hlen,List.take_length] at hf;exact hf,rfl⟩,fun kn ka kb=>?_⟩)
     unfold yEL
     dsimp only
     rw[yAJ (decide_eq_false (by rw[List.length_map];omega))])
  L (k,rest,ws.map inV,l.map inV,[],0,()) ⟨0,[],Nat.zero_le _,rfl,rfl⟩ (by dsimp only;omega)
 rcases hrun with ⟨a,⟨b,hb,rfl⟩,hrun⟩ | ⟨a,⟨hb,rfl⟩,hrun⟩
 ·have hbl:=yKp _ _ _ _ hb (by simp)
  rw[hrun,hb]
  dsimp only
  rw[yCf (yNp _),yLK,yYv,yCf (decide_eq_true (by omega)),xEB hL2 hk,yAC,xDY,mk_data]
 ·rw[hrun,hb];rfl
theorem xI1{s:Bs}{ws:List Int}{i:Nat}{r:List Int×Bs}(hw:i<ws.length)(h:takeF s (ws.take i)=some r):
  takeF s (ws.take (i+1))=if(yQ9 r.2 0 ws[i]).2=0 then some (r.1++ [(yQ9 r.2 0 ws[i]).1],r.2.drop ws[i].toNat) else none:=by
 rw[List.take_succ_eq_append_getElem hw,xFc,h]
 rfl
theorem xHf{s:Bs}{ws:List Int}{i:Nat}(h:takeF s (ws.take i)=none):takeF s ws=none:=by
 have:=xFb s (ws.take i) (ws.drop i) h
 rwa [List.take_append_drop] at this
theorem yOa(s:ByteArray)(k:Nat):s.extract k s.size=mkS (s.data.toList.drop k):=by
 rw[extract_mk]
 congr 1
 exact List.take_of_length_le (by rw[List.length_drop,yBM];omega)
theorem xG3(k:Int)(s:Bs):(ofR k s).2=0\/ofR k s=([],30):=by
 unfold ofR
 split
 ·exact .inl rfl
 ·exact .inr rfl
theorem xIW(s:Bs):(yE2 s).2.1.length<=s.length:=by
 unfold yE2
 split
 ·simp only[List.length_take,List.length_drop];omega
 ·exact Nat.zero_le _
theorem xLx(k:Int)(s:Bs):(ofR k s).1.length<=s.length:=by
 unfold ofR
 split
 ·exact xIW s
 ·exact Nat.zero_le _
theorem xGS{L:Nat}(hL:10<L){s:ByteArray}{ws:List Int}(hs:s.size<=1000000000)(hw:ws.length<L)(hw2:ws.length<=1000000)(k:Int):
  yKX L k s (ws.map inV)=some ((fieldsR k s.data.toList ws).1.map inV,mkS (fieldsR k s.data.toList ws).2.1,(fieldsR k s.data.toList ws).2.2,()):=by
 have hol:=xLx k s.data.toList
 rw[yBM] at hol
 unfold yKX yPN fieldsR
 rw[of_eq hL hs,yAC,List.length_map]
 rcases xG3 k s.data.toList with h0 | h0
 ·rw[if_pos h0,h0]
  generalize (ofR k s.data.toList).1=load at*
  have hrun:=yN4 (α:=List (List V)×ByteArray×Int×Unit) (F:=yCH (yCQ L)) (fun q=>∃(i:Nat) (r:List Int×Bs),i<=ws.length/\takeF load (ws.take i)=some r/\q=(r.1.map inV,mkS r.2,0,ws.map inV,(ws.length:Int),(i:Int),())) (fun q=>ws.length-q.2.2.2.2.2.1.toNat)
   (fun a=>∃r,takeF load ws=some r/\a=(r.1.map inV,mkS r.2,0,())) (fun a=>takeF load ws=none/\a=([],noS,30,()))
   (fun q hq=>by
     obtain⟨i,r,hi,hf,rfl⟩:=hq
     have hrl:=xEO _ _ _ hf
     rw[List.length_take,Nat.min_eq_left hi] at hrl
     by_cases hlt:i<ws.length
     ·have hstep:=xI1 hlt hf
      have pre:∀kn ka kb,yCH (yCQ L) (r.1.map inV,mkS r.2,0,ws.map inV,(ws.length:Int),(i:Int),()) kn ka kb=(bif(yQ9 r.2 0 ws[i]).2 !=0 then kb ([],noS,30,()) else
        gd (decide (0<=ws[i]))<|gd (decide (ws[i]<=(r.2.length:Int)))<|kn ((r.1++ [(yQ9 r.2 0 ws[i]).1]).map inV,mkS (r.2.drop ws[i].toNat),0,ws.map inV,(ws.length:Int),((i+1:Nat):Int),()):Option (List (List V)×ByteArray×Int×Unit)):=fun kn ka kb=>by
       have e:r.1.map inV++([[V.int .i64 (yQ9 r.2 0 ws[i]).1]])=(r.1++ [(yQ9 r.2 0 ws[i]).1]).map inV:=by rw[List.map_append];rfl
       unfold yCH
       dsimp only
       rw[yAb (decide_eq_true (by omega)),yQ8 (by omega) (by omega),show((0:Int) !=0)=false from rfl,cond_false,Int.toNat_natCast,yVK hlt,yQt hL (by rw[yYv];omega),yAC,mk_data,e,yCf (by rw[Nat.zero_add];exact Nat.beq_refl _),xCK (by rw[List.length_map];omega) (by rw[List.length_map];omega),yIx (by simp) (yPe _),yOa,mk_data,yYv,yAa (by omega) (by omega)]
       rfl
      by_cases hg:(yQ9 r.2 0 ws[i]).2=0
      ·rw[if_pos hg] at hstep
       have hz:=xGb hg
       refine .inl ⟨_,⟨i+1,_,hlt,hstep,rfl⟩,by dsimp only;omega,fun kn ka kb=>?_⟩
       rw[pre,yAJ (by rw[hg];rfl),yCf (decide_eq_true (by omega)),yCf (decide_eq_true (by omega))]
      ·rw[if_neg hg] at hstep
       refine .inr (.inr ⟨_,⟨xHf hstep,rfl⟩,fun kn ka kb=>?_⟩)
       rw[pre,yAb (bne_iff_ne.2 hg)]
     ·obtain rfl:i=ws.length:=by omega
      refine .inr (.inl ⟨_,⟨r,by rwa [List.take_length] at hf,rfl⟩,fun kn ka kb=>?_⟩)
      unfold yCH
      dsimp only
      rw[yAJ (decide_eq_false (by omega)),yIx rfl (yPe _)])
   L ([],mkS load,0,ws.map inV,(ws.length:Int),0,()) ⟨0,([],load),Nat.zero_le _,rfl,rfl⟩ (by dsimp only;omega)
  rcases hrun with ⟨a,⟨r,hr,rfl⟩,hrun⟩ | ⟨a,⟨hr,rfl⟩,hrun⟩
  ·rw[hrun,hr]
   dsimp only
   rw[show((0:Int) !=0)=false from rfl,cond_false,yIx rfl (yPe _)]
  ·rw[hrun,hr]
   dsimp only
   rw[yIx rfl rfl]
   rfl
 ·rw[h0,if_neg (by simp)]
  obtain⟨M,rfl⟩:∃M,L=M+1:=⟨L-1,by omega⟩
  have F:∀(s:yFw) (ka:yH6->Option (List (List V)×ByteArray×Int×Unit)) kb,yAe (yCH (yCQ (M+1))) (M+1) s ka kb=yCH (yCQ (M+1)) s (fun s'=>yAe (yCH (yCQ (M+1))) M s' ka kb) ka kb:=fun _ _ _=>rfl
  rw[F]
  unfold yCH
  dsimp only
  by_cases h:(0:Int)<(ws.length:Int)
  ·rw[yAb (decide_eq_true h),yQ8 (by omega) (by omega),show((30:Int) !=0)=true from rfl,cond_true,yIx rfl rfl];rfl
  ·rw[yAJ (decide_eq_false h),yIx rfl rfl];rfl
def srt:List Int->Bool
 | a::b::l=>decide (a<=b)&&srt (b::l)
 | _=>true
theorem xBq{α:Type}{l:List Int}(hl:l.length<=1000){ka:Unit->Option α}{kb:Bool×Unit->Option α}:∀(m i:Nat),i+1<=l.length->l.length<m+i+1->yAe yEE m (l.map inV,((i+1:Nat):Int),()) ka kb=if srt (l.drop i)=true then ka () else kb (false,())
 | 0,i,h1,h2=>by omega
 | m+1,i,h1,h2=>by
   show yEE (l.map inV,((i+1:Nat):Int),()) (fun s'=>yAe yEE m s' ka kb) ka kb=_
   unfold yEE
   dsimp only
   by_cases hlt:i+1<l.length
   ·rw[yAb (decide_eq_true (by rw[List.length_map];omega)),show((i+1:Nat):Int)-1=i by omega,yAa (n:=(i:Int)) (by omega) (by omega),yQ8 (by omega) (by omega),yQ8 (by omega) (by omega),Int.toNat_natCast,Int.toNat_natCast,yVK hlt,yVK (by omega),yAa (by omega) (by omega)]
    have e:l.drop i=l[i]::l[i+1]::l.drop (i+2):=by rw[List.drop_eq_getElem_cons (by omega),List.drop_eq_getElem_cons hlt]
    by_cases hc:l[i+1]<l[i]
    ·rw[yAb (decide_eq_true hc),e,if_neg]
     show ¬(decide (l[i]<=l[i+1])&&_)=true
     rw[decide_eq_false (by omega)]
     simp
    ·rw[yAJ (decide_eq_false hc),show((i+1:Nat):Int)+1=((i+1+1:Nat):Int) by omega,xBq hl m (i+1) (by omega) (by omega),e]
     have:srt (l[i]::l[i+1]::l.drop (i+2))=srt (l.drop (i+1)):=by
      rw[List.drop_eq_getElem_cons hlt]
      show(decide (l[i]<=l[i+1])&&_)=_
      rw[decide_eq_true (by omega),Bool.true_and]
     rw[this]
   ·have e:l.drop i= [l[i]]:=by rw[List.drop_eq_getElem_cons (by omega),List.drop_eq_nil_of_le (by omega)]
    rw[yAJ (decide_eq_false (by rw[List.length_map];omega)),e]
    rfl
theorem xHp{L:Nat}{l:List Int}(h0:1<=l.length)(hl:l.length<=1000)(hL:l.length<L):yIa L (l.map inV)=some (srt l):=by
 unfold yIa yPy
 have:=xBq (α:=Bool) hl (ka:=fun q1=>some true) (kb:=fun q2=>some q2.1) L 0 (by omega) (by omega)
 refine this.trans ?_
 rw[List.drop_zero]
 cases srt l <;> rfl
theorem yYl{L:Nat}(hL:10<L){x:yAQ}(hw:xFr x.Wait=true):yJ0 L x=some (yB3 x).may:=by
 obtain⟨w1,w2⟩:=xLo hw
 have W:∀l:List Int,1<=l.length->l.length<=10->yIa L (l.map inV)=some (srt l):=fun l h1 h2=>xHp h1 (by omega) (by omega)
 have W3:∀a b c:Int,yIa L ([[V.int .i64 a],[V.int .i64 b],[V.int .i64 c]])=some (decide (a<=b/\b<=c)):=fun a b c=>(W [a,b,c] (by simp) (by simp)).trans (by simp[srt])
 have W4:∀a b c d:Int,yIa L ([[V.int .i64 a],[V.int .i64 b],[V.int .i64 c],[V.int .i64 d]])=some (decide (a<=b/\b<=c/\c<=d)):=fun a b c d=>(W [a,b,c,d] (by simp) (by simp)).trans (by simp[srt])
 have no:∀{p:Prop},((yB3 x).OK->p)->¬p->(yB3 x).may=false:=fun h hp=>by
  cases hm:(yB3 x).may with
  | false=>rfl
  | true=>exact absurd (h (Geo.may_ok hm)) hp
 unfold yJ0 yVm
 rw[W4,yAC]
 by_cases h1:¬(1<=x.Slots/\x.Slots<=x.Nodes/\x.Nodes<=16)
 ·rw[decide_eq_false h1,no (fun h=>⟨h.s1,h.s2,h.n2⟩) h1];rfl
 replace h1:=Decidable.not_not.1 h1
 rw[decide_eq_true h1,cond_true,W3,yAC]
 by_cases h2:¬(1<=x.Blocks/\x.Blocks<=64)
 ·rw[decide_eq_false h2,no (fun h=>⟨h.b1,h.b2⟩) h2];rfl
 replace h2:=Decidable.not_not.1 h2
 rw[decide_eq_true h2,cond_true,W3,yAC]
 by_cases h3:¬(1<=x.Per/\x.Per<=8)
 ·rw[decide_eq_false h3,no (fun h=>⟨h.p1,h.p2⟩) h3];rfl
 replace h3:=Decidable.not_not.1 h3
 rw[decide_eq_true h3,cond_true,yAa (n:=x.Per+2) (by omega) (by omega),W3,yAC]
 by_cases h4:¬(x.Per+2<=x.Journal/\x.Journal<=64)
 ·rw[decide_eq_false h4,no (fun h=>⟨h.j1,h.j2⟩) h4];rfl
 replace h4:=Decidable.not_not.1 h4
 rw[decide_eq_true h4,cond_true,yAa (n:=8*x.Slots) (by omega) (by omega),W3,yAC]
 by_cases h5:¬(8*x.Slots<=x.Log/\x.Log<=512)
 ·rw[decide_eq_false h5,no (fun h=>⟨h.l1,h.l2⟩) h5];rfl
 replace h5:=Decidable.not_not.1 h5
 rw[decide_eq_true h5,cond_true,W4,yAC]
 congr 1
 by_cases hmin:x.Wait= -9223372036854775808
 ·rw[no (p:=1<=x.Wait) (fun h=>by have h1:1<=x.Lease:=h.e1;have h2:x.Lease<x.Wait:=h.e2;omega) (by omega),hmin]
  exact decide_eq_false fun q=>by
   have:w64 (-9223372036854775808-1)=9223372036854775807:=by decide
   omega
 ·rw[yAa (n:=x.Wait-1) (by omega) (by omega)]
  show decide _=decide _
  refine decide_eq_decide.2 ⟨fun h=>?_,fun h=>?_⟩
  ·show 1<=x.Nodes/\x.Nodes<=16/\1<=x.Slots/\x.Slots<=x.Nodes/\1<=x.Blocks/\x.Blocks<=64/\1<=x.Per/\x.Per<=8/\x.Per+2<=x.Journal/\x.Journal<=64/\8*x.Slots<=x.Log/\x.Log<=512/\1<=x.Lease/\x.Lease<x.Wait/\x.Wait<=1048576
   omega
  ·obtain⟨_,_,_,_,_,_,_,_,_,_,_,_,q1,q2,q3⟩:=h
   replace q1:1<=x.Lease:=q1
   replace q2:x.Lease<x.Wait:=q2
   replace q3:x.Wait<=1048576:=q3
   omega
theorem yXA{L:Nat}(n a b:Int):yJS L n a b=some (decide (a<=n/\n<=b)):=by
 unfold yJS yTd
 by_cases h1:a<=n
 ·rw[yAb (decide_eq_true h1)]
  congr 1
  exact decide_eq_decide.2 ⟨fun h=>⟨h1,h⟩,fun h=>h.2⟩
 ·rw[yAJ (decide_eq_false h1),decide_eq_false fun h=>h1 h.1]
theorem yQD{L:Nat}(x:yAQ):yCk L x=some (yB3 x).may:=by
 have no:∀{p:Prop},((yB3 x).OK->p)->¬p->(yB3 x).may=false:=fun h hp=>by
  cases hm:(yB3 x).may with
  | false=>rfl
  | true=>exact absurd (h (Geo.may_ok hm)) hp
 unfold yCk yRy
 rw[yXA,yAC]
 by_cases h1:¬(1<=x.Nodes/\x.Nodes<=16)
 ·rw[decide_eq_false h1,no (fun h=>⟨h.n1,h.n2⟩) h1];rfl
 replace h1:=Decidable.not_not.1 h1
 rw[decide_eq_true h1,cond_true,yXA,yAC]
 by_cases h0:¬(1<=x.Slots/\x.Slots<=x.Nodes)
 ·rw[decide_eq_false h0,no (fun h=>⟨h.s1,h.s2⟩) h0];rfl
 replace h0:=Decidable.not_not.1 h0
 rw[decide_eq_true h0,cond_true,yXA,yAC]
 by_cases h2:¬(1<=x.Blocks/\x.Blocks<=64)
 ·rw[decide_eq_false h2,no (fun h=>⟨h.b1,h.b2⟩) h2];rfl
 replace h2:=Decidable.not_not.1 h2
 rw[decide_eq_true h2,cond_true,yXA,yAC]
 by_cases h3:¬(1<=x.Per/\x.Per<=8)
 ·rw[decide_eq_false h3,no (fun h=>⟨h.p1,h.p2⟩) h3];rfl
 replace h3:=Decidable.not_not.1 h3
 rw[decide_eq_true h3,cond_true,yAa (n:=x.Per+2) (by omega) (by omega),yXA,yAC]
 by_cases h4:¬(x.Per+2<=x.Journal/\x.Journal<=64)
 ·rw[decide_eq_false h4,no (fun h=>⟨h.j1,h.j2⟩) h4];rfl
 replace h4:=Decidable.not_not.1 h4
 rw[decide_eq_true h4,cond_true,yAa (n:=8*x.Slots) (by omega) (by omega),yXA,yAC]
 by_cases h5:¬(8*x.Slots<=x.Log/\x.Log<=512)
 ·rw[decide_eq_false h5,no (fun h=>⟨h.l1,h.l2⟩) h5];rfl
 replace h5:=Decidable.not_not.1 h5
 rw[decide_eq_true h5,cond_true]
 by_cases h6:1<=x.Lease
 ·rw[yAb (decide_eq_true h6)]
  by_cases h7:x.Lease<x.Wait
  ·rw[yAb (decide_eq_true h7)]
   congr 1
   show decide _=decide _
   refine decide_eq_decide.2 ⟨fun h=>?_,fun h=>h.2.2.2.2.2.2.2.2.2.2.2.2.2.2⟩
   show 1<=x.Nodes/\x.Nodes<=16/\1<=x.Slots/\x.Slots<=x.Nodes/\1<=x.Blocks/\x.Blocks<=64/\1<=x.Per/\x.Per<=8/\x.Per+2<=x.Journal/\x.Journal<=64/\8*x.Slots<=x.Log/\x.Log<=512/\1<=x.Lease/\x.Lease<x.Wait/\x.Wait<=1048576
   omega
  ·rw[yAJ (decide_eq_false h7),no (fun h=>h.e2) h7]
 ·rw[yAJ (decide_eq_false h6),no (fun h=>h.e1) h6]
theorem find_go{α:Type}{k:Int}{z:yAK}{rs:List yAK}(hl:rs.length<=1000){ka:yAK×Unit->Option α}{kb:yAK×Unit->Option α}:∀(m i:Nat),i<=rs.length->rs.length<m+i->yAe yGk m (k,z,rs.map yAK.cs,(rs.length:Int),(i:Int),()) ka kb=match (rs.drop i).find? (fun r=>r.kind_==k) with
  | some r=>kb (r,())
  | none=>ka (z,())
 | 0,i,h1,h2=>by omega
 | m+1,i,h1,h2=>by
   show yGk (k,z,rs.map yAK.cs,(rs.length:Int),(i:Int),()) (fun s'=>yAe yGk m s' ka kb) ka kb=_
   unfold yGk
   dsimp only
   by_cases hlt:i<rs.length
   ·have hc:∀j,cell (rs.map yAK.cs) i j=cell [yAK.cs rs[i]] 0 j:=fun j=>yS2 hlt
    rw[yAb (decide_eq_true (by omega)),xIK (by omega) (by rw[List.length_map];omega) (yZV _ (fun _=>rfl) (by omega)),Int.toNat_natCast,List.drop_eq_getElem_cons hlt]
    simp only[aI,hc,List.find?_cons]
    show(bif rs[i].kind_==k then kb (rs[i],()) else _)=_
    cases hk:rs[i].kind_==k with
    | true=>rfl
    | false=>
      rw[cond_false,yAa (by omega) (by omega)]
      exact find_go hl m (i+1) (by omega) (by omega)
   ·rw[yAJ (decide_eq_false (by omega)),List.drop_eq_nil_of_le (by omega)]
    rfl
theorem find_eq{L:Nat}(hL:10<L){x:yAQ}{k:Int}{rs:List yAK}(hl:rs.length<=6)(h:yJ2 L x=some (rs.map yAK.cs)):yOe L x k=some ((rs.find? fun r=>r.kind_==k).getD ⟨yAr.z,0,1⟩):=by
 unfold yOe yTT
 rw[h,yAC,List.length_map]
 have:=find_go (α:=yAK) (k:=k) (z:=yAK.z) (rs:=rs) (by omega) (ka:=fun q2=>some ⟨yAr.z,0,1⟩) (kb:=fun q3=>some q3.1) L 0 (Nat.zero_le _) (by omega)
 rw[List.drop_zero] at this
 refine this.trans ?_
 cases rs.find? fun r=>r.kind_==k <;> rfl
def xMd(x:yAQ):List yAK:= [⟨⟨0,1⟩,1,1⟩,⟨⟨1,x.Nodes⟩,2,1⟩,⟨⟨1+x.Nodes,x.Nodes⟩,3,1⟩,⟨⟨1+2*x.Nodes,x.Log⟩,4,1⟩,⟨⟨1+2*x.Nodes+x.Log,x.Slots*(1+x.Journal)⟩,6,1+x.Journal⟩,⟨⟨1+2*x.Nodes+x.Log+x.Slots*(1+x.Journal),x.Blocks*x.Per⟩,7,x.Per⟩]
theorem yQy{L:Nat}(hL:10<L){x:yAQ}(hw:xFr x.Wait=true):yJ2 L x=some ((if(yB3 x).may=true then xMd x else []).map yAK.cs):=by
 unfold yJ2 yOh
 rw[yYl hL hw,yAC]
 cases hm:(yB3 x).may with
 | false=>rfl
 | true=>
   have h:=Geo.may_ok hm
   have n1:1<=x.Nodes:=h.n1
   have n2:x.Nodes<=16:=h.n2
   have l1:8*x.Slots<=x.Log:=h.l1
   have l2:x.Log<=512:=h.l2
   have s1:1<=x.Slots:=h.s1
   have sj:0<=x.Slots*(1+x.Journal)/\x.Slots*(1+x.Journal)<=1040:=h.sj
   have bp:0<=x.Blocks*x.Per/\x.Blocks*x.Per<=512:=h.bp
   have j1:x.Per+2<=x.Journal:=h.j1
   have j2:x.Journal<=64:=h.j2
   have p1:1<=x.Per:=h.p1
   have e1:w64 (x.Nodes*1)=x.Nodes:=by rw[yAa (by omega) (by omega)];omega
   have e2:w64 (1+x.Nodes)=1+x.Nodes:=yAa (by omega) (by omega)
   have e3:w64 (1+x.Nodes+x.Nodes)=1+2*x.Nodes:=by rw[yAa (by omega) (by omega)];omega
   have e4:w64 (x.Log*1)=x.Log:=by rw[yAa (by omega) (by omega)];omega
   have e5:w64 (1+2*x.Nodes+x.Log)=1+2*x.Nodes+x.Log:=yAa (by omega) (by omega)
   have e6:w64 (1+x.Journal)=1+x.Journal:=yAa (by omega) (by omega)
   have e7:w64 (x.Slots*(1+x.Journal))=x.Slots*(1+x.Journal):=yAa (by omega) (by omega)
   have e8:w64 (1+2*x.Nodes+x.Log+x.Slots*(1+x.Journal))=1+2*x.Nodes+x.Log+x.Slots*(1+x.Journal):=yAa (by omega) (by omega)
   have e9:w64 (x.Blocks*x.Per)=x.Blocks*x.Per:=yAa (by omega) (by omega)
   rw[Bool.not_true,cond_false,if_pos rfl]
   simp only[e1,e2,e3,e4,e5,e6,e7,e8,e9]
   rfl
theorem xLy{L:Nat}(hL:10<L){x:yAQ}(hw:xFr x.Wait=true)(hm:(yB3 x).may=false)(k i j:Int):ySd L x k i j=some (-1):=by
 unfold ySd yU3
 rw[find_eq hL (rs:= []) (Nat.zero_le _) (by rw[yQy hL hw,hm];rfl),yAC]
 show(bif decide (i<0) then some (-1) else gd (!(decide ((1:Int)=0)))<|bif decide (w64 ((0:Int).tdiv 1)<=i) then some (-1) else _)=_
 by_cases h:i<0
 ·rw[yAb (decide_eq_true h)]
 ·rw[yAJ (decide_eq_false h),yCf (show(!(decide ((1:Int)=0)))=true from rfl),yAb (decide_eq_true (by show w64 0<=i;rw[yAa (by omega) (by omega)];omega))]
theorem xJZ{L:Nat}(hL:10<L){x:yAQ}(hw:xFr x.Wait=true)(hm:(yB3 x).may=true){k a m:Int}(hf:((xMd x).find? fun r=>r.kind_==k)=some ⟨⟨a,m⟩,k,1⟩)(ha:0<=a)(ha2:a<=10000)(h0:0<=m)(h2:m<=10000)(i:Int):
  ySd L x k i 0=some (if 0<=i/\i<m then a+i else -1):=by
 unfold ySd yU3
 rw[find_eq hL (rs:=xMd x) (Nat.le_refl _) (by rw[yQy hL hw,if_pos hm]),hf,yAC]
 show(bif decide (i<0) then some (-1) else gd (!(decide ((1:Int)=0)))<|bif decide (w64 (m.tdiv 1)<=i) then some (-1) else bif decide ((0:Int)<0) then some (-1) else bif decide ((1:Int)<=0) then some (-1) else yAB (yHl L ⟨a,m⟩ (w64 (w64 (i*1)+0))) fun r2=>some r2)=_
 by_cases h:i<0
 ·rw[yAb (decide_eq_true h),if_neg (by omega)]
 rw[yAJ (decide_eq_false h),yCf (show(!(decide ((1:Int)=0)))=true from rfl),Int.tdiv_one,yAa (by omega) (by omega)]
 by_cases h1:m<=i
 ·rw[yAb (decide_eq_true h1),if_neg (by omega)]
 rw[yAJ (decide_eq_false h1),if_pos (by omega),yAJ (show decide ((0:Int)<0)=false from rfl),yAJ (show decide ((1:Int)<=0)=false from rfl),yAa (n:=i*1) (by omega) (by omega),yAa (by omega) (by omega),show i*1+0=i by omega]
 unfold yHl yLY
 dsimp only
 rw[yAJ (decide_eq_false h),yAJ (decide_eq_false h1),yAa (by omega) (by omega)]
 rfl
theorem xCJ{L:Nat}(hL:10<L){x:yAQ}(hw:xFr x.Wait=true)(i:Int):yLX L x i=some ((yB3 x).logS i):=by
 unfold yLX yVl Geo.logS
 cases hm:(yB3 x).may with
 | false=>rw[xLy hL hw hm,yAC,if_neg (by simp)]
 | true=>
   have h:=Geo.may_ok hm
   have n1:1<=x.Nodes:=h.n1
   have n2:x.Nodes<=16:=h.n2
   have l1:8*x.Slots<=x.Log:=h.l1
   have l2:x.Log<=512:=h.l2
   have s1:1<=x.Slots:=h.s1
   rw[xJZ hL hw hm (a:=1+2*x.Nodes) (m:=x.Log) rfl (by omega) (by omega) (by omega) (by omega),yAC]
   by_cases hi:0<=i/\i<x.Log
   ·rw[if_pos hi,if_pos ⟨rfl,hi⟩];rfl
   ·rw[if_neg hi,if_neg fun q=>hi q.2]
theorem yVj{L:Nat}(hL:10<L){x:yAQ}(hw:xFr x.Wait=true)(i:Int):yED L x i=some ((yB3 x).paxosS i):=by
 unfold yED yRj Geo.paxosS
 cases hm:(yB3 x).may with
 | false=>rw[xLy hL hw hm,yAC,if_neg (by simp)]
 | true=>
   have h:=Geo.may_ok hm
   have n1:1<=x.Nodes:=h.n1
   have n2:x.Nodes<=16:=h.n2
   rw[xJZ hL hw hm (a:=1+x.Nodes) (m:=x.Nodes) rfl (by omega) (by omega) (by omega) (by omega),yAC]
   by_cases hi:0<=i/\i<x.Nodes
   ·rw[if_pos hi,if_pos ⟨rfl,hi⟩];rfl
   ·rw[if_neg hi,if_neg fun q=>hi q.2]
theorem xGY{L:Nat}(hL:10<L){x:yAQ}(hw:xFr x.Wait=true):yNz L x=some (yB3 x).totalS:=by
 unfold yNz yRk Geo.totalS
 cases hm:(yB3 x).may with
 | false=>
   rw[find_eq hL (rs:= []) (Nat.zero_le _) (by rw[yQy hL hw,hm];rfl),yAC,if_neg (by simp)]
   rfl
 | true=>
   have h:=Geo.may_ok hm
   have n1:1<=x.Nodes:=h.n1
   have n2:x.Nodes<=16:=h.n2
   have l1:8*x.Slots<=x.Log:=h.l1
   have l2:x.Log<=512:=h.l2
   have s1:1<=x.Slots:=h.s1
   have sj:0<=x.Slots*(1+x.Journal)/\x.Slots*(1+x.Journal)<=1040:=h.sj
   have bp:0<=x.Blocks*x.Per/\x.Blocks*x.Per<=512:=h.bp
   rw[find_eq hL (rs:=xMd x) (Nat.le_refl _) (by rw[yQy hL hw,if_pos hm]),yAC,if_pos rfl]
   show some (w64 (1+2*x.Nodes+x.Log+x.Slots*(1+x.Journal)+x.Blocks*x.Per))=_
   rw[yAa (by omega) (by omega)]
   rfl
theorem xIL{L:Nat}(hL:10<L){x:yAQ}(hw:xFr x.Wait=true):yQn L x=some (if(yB3 x).may=true then 4*x.Slots else 0):=by
 unfold yQn yTS
 rw[yYl hL hw,yAC]
 cases hm:(yB3 x).may with
 | false=>rfl
 | true=>
   have h:=Geo.may_ok hm
   have s1:1<=x.Slots:=h.s1
   have s2:x.Slots<=x.Nodes:=h.s2
   have n2:x.Nodes<=16:=h.n2
   rw[Bool.not_true,cond_false,if_pos rfl,yAa (by omega) (by omega)]
theorem xKj{L:Nat}(x:yAQ)(i:Int):yOC L x i=some ((yB3 x).logS i):=by
 unfold yOC yRx Geo.logS
 rw[yQD,yAC]
 cases hm:(yB3 x).may with
 | false=>rw[if_neg (by simp)];rfl
 | true=>
   have h:=Geo.may_ok hm
   have n1:1<=x.Nodes:=h.n1
   have n2:x.Nodes<=16:=h.n2
   have l1:8*x.Slots<=x.Log:=h.l1
   have l2:x.Log<=512:=h.l2
   have s1:1<=x.Slots:=h.s1
   rw[Bool.not_true,cond_false,yAa (n:=x.Log-1) (by omega) (by omega),yXA,yAC]
   by_cases hi:0<=i/\i<x.Log
   ·rw[decide_eq_true (by omega),Bool.not_true,cond_false,yAa (n:=2*x.Nodes) (by omega) (by omega),yAa (n:=1+2*x.Nodes) (by omega) (by omega),yAa (by omega) (by omega),if_pos ⟨rfl,hi⟩]
    rfl
   ·rw[decide_eq_false (by omega),if_neg fun q=>hi q.2];rfl
theorem xIb{L:Nat}(x:yAQ)(i:Int):yHA L x i=some ((yB3 x).headS i):=by
 unfold yHA yQO Geo.headS
 rw[yQD,yAC]
 cases hm:(yB3 x).may with
 | false=>rw[if_neg (by simp)];rfl
 | true=>
   have h:=Geo.may_ok hm
   have n1:1<=x.Nodes:=h.n1
   have n2:x.Nodes<=16:=h.n2
   have l1:8*x.Slots<=x.Log:=h.l1
   have l2:x.Log<=512:=h.l2
   have s1:1<=x.Slots:=h.s1
   have s2:x.Slots<=x.Nodes:=h.s2
   have j1:x.Per+2<=x.Journal:=h.j1
   have j2:x.Journal<=64:=h.j2
   have p1:1<=x.Per:=h.p1
   rw[Bool.not_true,cond_false,yAa (n:=x.Slots-1) (by omega) (by omega),yXA,yAC]
   by_cases hi:0<=i/\i<x.Slots
   ·have hb:=xD1 (a:=i) (b:=1+x.Journal) (A:=16) (B:=65) (by omega) (by omega) (by omega) (by omega)
    rw[decide_eq_true (by omega),Bool.not_true,cond_false,yAa (n:=2*x.Nodes) (by omega) (by omega),yAa (n:=1+2*x.Nodes) (by omega) (by omega),yAa (n:=1+x.Journal) (by omega) (by omega),yAa (n:=i*(1+x.Journal)) (by omega) (by omega),yAa (n:=1+2*x.Nodes+x.Log) (by omega) (by omega),yAa (by omega) (by omega),if_pos ⟨rfl,hi⟩]
    rfl
   ·rw[decide_eq_false (by omega),if_neg fun q=>hi q.2];rfl
theorem yV8{L:Nat}(x:yAQ):yDg L x=some (yB3 x).totalS:=by
 unfold yDg yOq Geo.totalS
 rw[yQD,yAC]
 cases hm:(yB3 x).may with
 | false=>rw[if_neg (by simp)];rfl
 | true=>
   have h:=Geo.may_ok hm
   have n1:1<=x.Nodes:=h.n1
   have n2:x.Nodes<=16:=h.n2
   have l1:8*x.Slots<=x.Log:=h.l1
   have l2:x.Log<=512:=h.l2
   have s1:1<=x.Slots:=h.s1
   have sj:0<=x.Slots*(1+x.Journal)/\x.Slots*(1+x.Journal)<=1040:=h.sj
   have bp:0<=x.Blocks*x.Per/\x.Blocks*x.Per<=512:=h.bp
   have b1:1<=x.Blocks:=h.b1
   have b2:x.Blocks<=64:=h.b2
   have p1:1<=x.Per:=h.p1
   have p2:x.Per<=8:=h.p2
   have j1:x.Per+2<=x.Journal:=h.j1
   have j2:x.Journal<=64:=h.j2
   have hb:(x.Blocks-1)*x.Per=x.Blocks*x.Per-x.Per:=by rw[Int.sub_mul];omega
   rw[Bool.not_true,cond_false,yAa (n:=x.Blocks-1) (by omega) (by omega),yAa (n:=x.Per-1) (by omega) (by omega)]
   unfold yQw yQN
   rw[yQD,hm,yAC,Bool.not_true,cond_false,yAa (n:=x.Blocks-1) (by omega) (by omega),yXA,yAC,decide_eq_true (by omega),Bool.not_true,cond_false,yAa (n:=x.Per-1) (by omega) (by omega),yXA,yAC,decide_eq_true (by omega),Bool.not_true,cond_false,hb,
    yAa (n:=2*x.Nodes) (by omega) (by omega),yAa (n:=1+2*x.Nodes) (by omega) (by omega),yAa (n:=1+x.Journal) (by omega) (by omega),yAa (n:=x.Slots*(1+x.Journal)) (by omega) (by omega),yAa (n:=1+2*x.Nodes+x.Log) (by omega) (by omega),yAa (n:=1+2*x.Nodes+x.Log+x.Slots*(1+x.Journal)) (by omega) (by omega),
    yAa (n:=x.Blocks*x.Per-x.Per) (by omega) (by omega),yAa (n:=1+2*x.Nodes+x.Log+x.Slots*(1+x.Journal)+(x.Blocks*x.Per-x.Per)) (by omega) (by omega),yAa (n:=_+(x.Per-1)) (by omega) (by omega),yAC,yAa (by omega) (by omega),if_pos rfl]
   congr 1
   show _=1+2*x.Nodes+x.Log+x.Slots*(1+x.Journal)+x.Blocks*x.Per
   omega
def xB3(n a b:Int):Bool:=decide (a<=n/\n<=b)
def yXC(i m b:Int)(v:Bs):Bool:=xB3 i 0 512&&(xB3 m 0 1099511627776&&(xB3 b 0 m&&(decide (v.length<=64)&&((b==0)==v.isEmpty))))
def yXq(i m b:Int)(v:Bs):Bs×Int:=if yXC i m b v=true then yUS 4 v [2,6,6] [i,m,b] else([],2)
def readR(s:Bs):(Int×Int×Int×Bs)×Int:=
 if s= [] then((0,0,0,[]),0) else
 match fieldsR 4 s [2,6,6] with
 | ([i,m,b],v,0)=>if yXC i m b v=true then((i,m,b,v),0) else((0,0,0,[]),50)
 | _=>((0,0,0,[]),50)
theorem xDb{L:Nat}(n a b:Int):yEc L n a b=some (xB3 n a b):=by
 unfold yEc yLV xB3
 by_cases h1:a<=n
 ·rw[yAb (decide_eq_true h1)]
  congr 1
  exact decide_eq_decide.2 ⟨fun h=>⟨h1,h⟩,fun h=>h.2⟩
 ·rw[yAJ (decide_eq_false h1),decide_eq_false fun h=>h1 h.1]
theorem xD3:noS.toList= []:=by rw[yVG];rfl
theorem xF6(l:Bs):(l== [])=l.isEmpty:=by cases l <;> rfl
theorem xHH{L:Nat}(x:yBI):yCX L ⟨x⟩=some (yXC x.Inst x.Mbal x.Bal x.Val.data.toList):=by
 unfold yCX yH8 yXC
 rw[xDb,yAC]
 cases xB3 x.Inst 0 512 with
 | false=>rfl
 | true=>
 rw[cond_true,xDb,yAC,Bool.true_and]
 cases xB3 x.Mbal 0 1099511627776 with
 | false=>rfl
 | true=>
 rw[cond_true,xDb,yAC,Bool.true_and]
 cases xB3 x.Bal 0 x.Mbal with
 | false=>rfl
 | true=>
 rw[cond_true,Bool.true_and,yBM]
 dsimp only
 by_cases h:x.Val.size<=64
 ·rw[yAb (decide_eq_true (by omega)),decide_eq_true h,Bool.true_and,xD3,yVG,xF6]
 ·rw[yAJ (decide_eq_false (by omega)),decide_eq_false h];rfl
theorem xEd{L:Nat}(hL:10<L)(x:yBI):yIS L x=some (mkS (yXq x.Inst x.Mbal x.Bal x.Val.data.toList).1,(yXq x.Inst x.Mbal x.Bal x.Val.data.toList).2,()):=by
 unfold yIS yNI yQh yPl yXq
 rw[xHH,yAC,yAC]
 by_cases h:yXC x.Inst x.Mbal x.Bal x.Val.data.toList=true
 ·have hv:x.Val.size<=64:=by
    unfold yXC at h
    simp only[Bool.and_eq_true,decide_eq_true_eq,yBM] at h
    exact h.2.2.2.1
  have hm:=xKR (L:=L) (k:=4) (rest:=x.Val) (ws:= [2,6,6]) (l:= [x.Inst,x.Mbal,x.Bal]) (by omega) (by simp;omega) (by simp) (by omega)
  rw[h,if_pos rfl]
  unfold yGP yHU yEk yGE
  rw[Bool.not_true,cond_false,yAC]
  show yAB (yAB (yOJ L 4 x.Val ([2,6,6].map inV) ([x.Inst,x.Mbal,x.Bal].map inV)) _) _=_
  rw[hm];rfl
 ·rw[if_neg h,show yXC x.Inst x.Mbal x.Bal x.Val.data.toList=false by simpa using h];rfl
theorem yYk(k:Int)(s:Bs)(ws:List Int):((fieldsR k s ws).2.2=0/\(fieldsR k s ws).1.length=ws.length)\/fieldsR k s ws=([],[],30):=by
 unfold fieldsR
 rcases xG3 k s with h | h
 ·rw[if_pos h]
  cases ht:takeF (ofR k s).1 ws with
  | none=>exact .inr rfl
  | some r=>exact .inl ⟨rfl,(xEO _ _ _ ht).2⟩
 ·rw[h]
  exact .inr (if_neg (by simp))
theorem three{l:List Int}(h:l.length=3):∃a b c,l= [a,b,c]:=by
 match l,h with
 | [a,b,c],_=>exact⟨a,b,c,rfl⟩
theorem yZy{L:Nat}(hL:10<L){s:ByteArray}(hs:s.size<=1000000000):yEb L s=some (⟨(readR s.data.toList).1.1,(readR s.data.toList).1.2.1,(readR s.data.toList).1.2.2.1,mkS (readR s.data.toList).1.2.2.2⟩,(readR s.data.toList).2,()):=by
 unfold yEb yOQ readR
 rw[xD3,yVG,xF6]
 by_cases h0:s.data.toList= []
 ·rw[if_pos h0,h0];rfl
 rw[if_neg h0,yAJ (by cases h:s.data.toList with
  | nil=>exact absurd h h0
  | cons _ _=>rfl)]
 have hf:=xGS (ws:= [2,6,6]) hL hs (by simp;omega) (by simp) 4
 show yAB (yKX L 4 s ([2,6,6].map inV)) _=_
 rw[hf,yAC]
 rcases yYk 4 s.data.toList [2,6,6] with ⟨h1,h2⟩ | h1
 ·obtain⟨i,m,b,h3⟩:=three h2
  generalize hR:fieldsR 4 s.data.toList [2,6,6]=R at*
  obtain⟨R1,R2,R3⟩:=R
  dsimp only at h1 h3 ⊢
  subst h1 h3
  rw[show((0:Int) !=0)=false from rfl,cond_false,yCf (decide_eq_true (by simp)),xFq (by simp) rfl,yCf (decide_eq_true (by simp)),xFq (by simp) rfl,yCf (decide_eq_true (by simp)),xFq (by simp) rfl]
  show yAB (yCX L ⟨⟨i,m,b,mkS R2⟩⟩) _=_
  rw[xHH,yAC,mk_data]
  dsimp only
  cases hb:yXC i m b R2 <;> simp only[hb] <;> rfl
 ·rw[h1];rfl
def xDx(x:Int)(l:List Int):Int:=l.foldl max x
theorem xGu(x:Int)(l:List Int)(y:Int):xDx x (l++ [y])=max (xDx x l) y:=by simp[xDx]
theorem xKS(x:Int)(l:List Int):x<=xDx x l:=by
 induction l generalizing x with
 | nil=>simp[xDx]
 | cons a l ih=>
   have h:=ih (max x a)
   have e:xDx x (a::l)=xDx (max x a) l:=rfl
   omega
def yVu(node most:Int):Int:=
 if 0<=node/\node<=15/\most<=1099511627776 then
  (if most/16*16+node<=most\/most/16*16+node<16 then(if most/16*16+node+16<=1099511627776 then most/16*16+node+16 else 0)
    else if most/16*16+node<=1099511627776 then most/16*16+node else 0)
 else 0
theorem xKX{node most r:Int}(h0:0<=node)(h1:node<=15)(hm:0<=most)(hm2:most<=1099511627776)(hr:1<=r)(hr2:r=1\/(r-1)*16+node<=most)(hgt:most<r*16+node):
  yVu node most=if r*16+node<=1099511627776 then r*16+node else 0:=by
 rw[yVu,if_pos ⟨h0,h1,hm2⟩]
 by_cases h:most/16*16+node<=most\/most/16*16+node<16
 ·rw[if_pos h]
  have:most/16*16+node+16=r*16+node:=by omega
  rw[this]
 ·rw[if_neg h]
  have:most/16*16+node=r*16+node:=by omega
  rw[this]
theorem xJR{a b:Int}:yDK true a b=max a b:=by
 unfold yDK
 simp only[if_true]
 split <;> omega
theorem max_eq{L:Nat}{x:Int}{l:List Int}(hl:l.length<=1000000)(hL:l.length+1<L):yEU L ((x::l).map inV)=some (xDx x l):=by
 unfold yEU yHg
 rw[yAJ (decide_eq_false (by rw[List.length_map,List.length_cons];omega)),yCf (decide_eq_true (by rw[List.length_map,List.length_cons];omega)),yCf (show rowIs kI ((x::l).map inV) 0=true from rfl)]
 obtain⟨q,hq,hrun⟩:=yFv (α:=Int) (F:=yCF) (fun q=>∃k:Nat,k<=l.length/\q=((x::l).map inV,xDx x (l.take k),((k+1:Nat):Int),())) (fun q=>l.length+1-q.2.2.1.toNat) (fun q=>q=(xDx x l,()))
  (fun q hq=>by
    obtain⟨k,hk,rfl⟩:=hq
    have hxl:(x::l).length=l.length+1:=rfl
    by_cases hlt:k<l.length
    ·refine .inl ⟨_,⟨k+1,hlt,rfl⟩,by dsimp only;omega,fun kn ka=>?_⟩
     unfold yCF
     dsimp only
     rw[yAb (decide_eq_true (by rw[List.length_map];omega)),yQ8 (by omega) (by omega),Int.toNat_natCast,yVK (by omega),xJR,yAa (by omega) (by omega),List.take_succ_eq_append_getElem hlt,xGu]
     rfl
    ·obtain rfl:k=l.length:=by omega
     refine .inr ⟨_,rfl,fun kn ka=>?_⟩
     unfold yCF
     dsimp only
     rw[yAJ (decide_eq_false (by rw[List.length_map];omega)),List.take_length])
  L ((x::l).map inV,aI ((x::l).map inV) 0 0,1,()) ⟨0,Nat.zero_le _,rfl⟩ (by dsimp only;omega)
 subst hq
 rw[hrun]
theorem xKW{L:Nat}{l:List Int}(hl:l.length<=100000)(hL:l.length+50<L)(n:Int):yJp L n (l.map inV)=some (yVu n (xDx 0 l)):=by
 have hno:¬(0<=n/\n<=15/\xDx 0 l<=1099511627776)->some 0=some (yVu n (xDx 0 l)):=fun h=>by rw[yVu,if_neg h]
 have hg:=xKS 0 l
 unfold yJp yOP
 rw[show([[V.int .i64 0]])++l.map inV=((0:Int)::l).map inV from rfl,List.length_map,yCf (yR8 1 fun _=>rfl),xCK (by omega) (by omega),yRQ (by simp;omega) (by omega) (yPe _),yME _ (by simp;omega),max_eq (by omega) (by omega),yAC,xDb,yAC]
 by_cases h1:¬(0<=n/\n<=15)
 ·rw[show xB3 n 0 15=false from decide_eq_false h1]
  exact hno fun h=>h1 ⟨h.1,h.2.1⟩
 replace h1:=Decidable.not_not.1 h1
 rw[show xB3 n 0 15=true from decide_eq_true h1,Bool.not_true,cond_false]
 generalize xDx 0 l=m at*
 by_cases h2:1099511627776<m
 ·rw[yAb (decide_eq_true h2)]
  exact hno fun h=>by omega
 rw[yAJ (decide_eq_false h2),yAa (n:=m-n) (by omega) (by omega)]
 have ht:(m-n).tdiv 16<=m/\ -1<=(m-n).tdiv 16/\((m-n).tdiv 16=0\/(m-n).tdiv 16*16<=m-n)/\m-n<(m-n).tdiv 16*16+16:=by
  by_cases hs:0<=m-n
  ·rw[Int.tdiv_eq_ediv_of_nonneg hs];omega
  ·have:(m-n).tdiv 16=0:=by
     rw[show m-n= -(n-m) by omega,Int.neg_tdiv,Int.tdiv_eq_ediv_of_nonneg (by omega)]
     omega
   omega
 rw[yAa (by omega) (by omega),xJR]
 generalize (m-n).tdiv 16=t at*
 obtain⟨q,hq,hrun⟩:=yFv (α:=Int) (F:=yEa) (fun q=>∃r:Int,1<=r/\r<=1099511627777/\(r=1\/(r-1)*16+n<=m)/\q=(n,m,r,())) (fun q=>(m+16-(q.2.2.1*16+n)).toNat) (fun q=>∃r:Int,1<=r/\r<=1099511627777/\(r=1\/(r-1)*16+n<=m)/\m<r*16+n/\q=(n,r,()))
  (fun q hq=>by
    obtain⟨r,hr,hr3,hr2,rfl⟩:=hq
    by_cases hlt:r*16+n<=m
    ·refine .inl ⟨(n,m,r+1,()),⟨r+1,by omega,by omega,.inr (by omega),rfl⟩,by dsimp only;omega,fun kn ka=>?_⟩
     unfold yEa
     dsimp only
     rw[yAa (n:=r*16) (by omega) (by omega),yAa (n:=r*16+n) (by omega) (by omega),yAb (decide_eq_true hlt),yAa (by omega) (by omega)]
    ·refine .inr ⟨_,⟨r,hr,hr3,hr2,by omega,rfl⟩,fun kn ka=>?_⟩
     unfold yEa
     dsimp only
     rw[yAa (n:=r*16) (by omega) (by omega),yAa (n:=r*16+n) (by omega) (by omega),yAJ (decide_eq_false hlt)])
  L (n,m,max 1 t,()) ⟨max 1 t,by omega,by omega,by omega,rfl⟩ (by dsimp only;omega)
 obtain⟨r,hr,hr3,hr2,hgt,rfl⟩:=hq
 rw[hrun]
 dsimp only
 rw[yAa (n:=r*16) (by omega) (by omega),yAa (n:=r*16+n) (by omega) (by omega),xKX h1.1 h1.2 hg (by omega) hr hr2 hgt]
 by_cases h:r*16+n<=1099511627776
 ·rw[yAb (decide_eq_true h),if_pos h]
 ·rw[yAJ (decide_eq_false h),if_neg h]
theorem xLh{n:Int}(h1:0<=n)(h2:n<=1099511627776):yGj n 6=true:=decide_eq_true ⟨by omega,by omega,h1,by simp[yN5];omega⟩
theorem xIe{s v:Bs}{i m b:Int}(hne:s≠ [])(h:fieldsR 4 s [2,6,6]=([i,m,b],v,0)):readR s=if yXC i m b v=true then((i,m,b,v),0) else((0,0,0,[]),50):=by
 rw[readR,if_neg hne,h];rfl
theorem yQs{i m b:Int}{v:Bs}(h:yXC i m b v=true):0<=i/\i<=512/\0<=m/\m<=1099511627776/\0<=b/\b<=m/\v.length<=64:=by
 unfold yXC xB3 at h
 simp only[Bool.and_eq_true,decide_eq_true_eq] at h
 omega
theorem yVN{i m b:Int}{v:Bs}(h:yXC i m b v=true):∃l x,yXq i m b v=(x,0)/\yOI 4 l=some x/\readR x=((i,m,b,v),0)/\x.length=21+v.length:=by
 obtain⟨h1,h2,h3,h4,h5,h6,h7⟩:=yQs h
 have hf2:yGj i 2=true:=decide_eq_true ⟨by omega,by omega,h1,by simp[yN5];omega⟩
 have hf:fieldsB [] [2,6,6] [i,m,b]=some (leBytes 2 i.toNat++leBytes 6 m.toNat++leBytes 6 b.toNat):=by
  simp only[fieldsB,List.nil_append]
  rw[if_pos ⟨hf2,by rw[yAE];decide⟩,if_pos ⟨xLh h3 h4,by simp[yAE]⟩,if_pos ⟨xLh h5 (by omega),by simp[yAE]⟩]
  rfl
 have hl:(leBytes 2 i.toNat++leBytes 6 m.toNat++leBytes 6 b.toNat++v).length=14+v.length:=by simp[yAE];omega
 have hs:yOI 4 (leBytes 2 i.toNat++leBytes 6 m.toNat++leBytes 6 b.toNat++v)=some _:=yKW (by omega) (by omega)
 have hlen:=(xBY hs).2.2
 have hfr:=xAP (by omega) hf hs
 refine⟨_,_,?_,hs,?_,by rw[hlen,hl];omega⟩
 ·rw[yXq,if_pos h,yUS,hf]
  show yQa 4 _=_
  rw[yQa,hs]
 ·rw[xIe (fun e=>by rw[e] at hlen;simp at hlen) hfr,if_pos h]
section
variable {α σ A B:Type}
theorem ySg{F:σ->(σ->Option α)->(A->Option α)->Option α}(st:Nat->σ)(n:Nat)(a:A)(h:∀k,k<n->∀kn ka,F (st k) kn ka=kn (st (k+1)))(he:∀kn ka,F (st n) kn ka=ka a):
  ∀(m k L:Nat),k+m=n->m<L->∀ka,yBL F L (st k) ka=ka a
 | m,k,0,_,hm,_=>absurd hm (Nat.not_lt_zero _)
 | 0,k,L+1,hk,_,ka=>by
   have:k=n:=by omega
   subst this
   exact he _ _
 | m+1,k,L+1,hk,hm,ka=>(h k (by omega) _ _).trans (ySg st n a h he m (k+1) L (by omega) (by omega) ka)
theorem yE0{F:σ->(σ->Option α)->(A->Option α)->(B->Option α)->Option α}(st:Nat->σ)(n:Nat)(a:A)(h:∀k,k<n->∀kn ka kb,F (st k) kn ka kb=kn (st (k+1)))(he:∀kn ka kb,F (st n) kn ka kb=ka a):
  ∀(m k L:Nat),k+m=n->m<L->∀ka kb,yAe F L (st k) ka kb=ka a
 | m,k,0,_,hm,_,_=>absurd hm (Nat.not_lt_zero _)
 | 0,k,L+1,hk,_,ka,kb=>by
   have:k=n:=by omega
   subst this
   exact he _ _ _
 | m+1,k,L+1,hk,hm,ka,kb=>(h k (by omega) _ _ _).trans (yE0 st n a h he m (k+1) L (by omega) (by omega) ka kb)
end
def yJm(j i:Nat):Int:=if i<j then 17*(i:Int)+16 else 0
def CE(c:List (List V))(N:Nat):Prop:=c.length=N/\∀r∈c,∃b,r= [V.sl [] b]
def cE(N:Nat):List (List V):=List.replicate N [V.sl [] false]
theorem yGY(N:Nat):CE (cE N) N:=⟨List.length_replicate ..,fun r hr=>⟨false,List.eq_of_mem_replicate hr⟩⟩
def dvN(s:List ByteArray)(c:List (List V))(N j:Nat):yAA:=⟨s.map txV,c,((List.range N).map (yJm j)).map inV,(j:Int)+1,[]⟩
structure SecOk (s:List ByteArray):Prop where
 n:1<=s.length
 m:s.length<=100000
 z:∀x∈s,x.size<=512
theorem SecOk.set{s:List ByteArray}(h:SecOk s)(k:Nat){b:ByteArray}(hb:b.size<=512):SecOk (s.set k b):=
 ⟨by rw[List.length_set];exact h.n,by rw[List.length_set];exact h.m,fun x hx=>by
  rcases List.mem_or_eq_of_mem_set hx with q | rfl
  ·exact h.z x q
  ·exact hb⟩
section
variable {s:List ByteArray} {c:List (List V)} {N j L:Nat}
theorem CE.at_(hc:CE c N){i:Nat}(hi:i<N):∃b,c[i]?=some [V.sl [] b]:=by
 have hl:i<c.length:=by rw[hc.1];exact hi
 obtain⟨b,hb⟩:=hc.2 c[i] (List.getElem_mem hl)
 exact⟨b,by rw[List.getElem?_eq_getElem hl,hb]⟩
theorem CE.gI(hc:CE c N){α:Type}{x:Option α}{n:Int}(h0:0<=n)(h1:n<N):gI c kL n x=x:=by
 obtain⟨b,hb⟩:=hc.at_ (i:=n.toNat) (by omega)
 exact xIK h0 (by rw[hc.1];exact h1) (by rw[yZR kL hb];rfl)
theorem CE.aR(hc:CE c N){i:Nat}(hi:i<N):aR c i 0= []:=by
 obtain⟨b,hb⟩:=hc.at_ hi
 unfold Proofs.YtakljpcmbpaeaaaGreat.aR
 rw[yYb hb];rfl
theorem CE.nm(hc:CE c N):yCR c=true:=List.all_eq_true.2 fun r hr=>by
 obtain⟨b,rfl⟩:=hc.2 r hr
 cases b <;> rfl
theorem yCy:(((List.range N).map (yJm j)).map inV).length=N:=by rw[List.length_map,List.length_map,List.length_range]
theorem yRn{i:Nat}(hi:i<N):aI (((List.range N).map (yJm j)).map inV) i 0=yJm j i:=by
 rw[yVK (by rw[List.length_map,List.length_range];exact hi),List.getElem_map,List.getElem_range]
theorem yP2{α:Type}{x:Option α}{n:Int}(h0:0<=n)(h1:n<N):gI (((List.range N).map (yJm j)).map inV) kI n x=x:=yQ8 h0 (by rw[List.length_map,List.length_range];exact h1)
theorem xDs(h2:N<=16)(hj:j<=N){i:Nat}(hi:i<j):yBm L (dvN s c N j) (17*(i:Int)+16)=some true:=by
 unfold yBm yPK dvN
 dsimp only
 rw[yCy,yAb (decide_eq_true (by omega)),show(17*(i:Int)+16).tdiv 16=(i:Int)+1 by rw[Int.tdiv_eq_ediv_of_nonneg (by omega)];omega,yAa (by omega) (by omega),yAb (decide_eq_true (by omega)),
  show(17*(i:Int)+16).tmod 16=(i:Int) by rw[Int.tmod_eq_emod_of_nonneg (by omega)];omega,decide_eq_true (by omega)]
theorem xEh(hL:0<L)(n:Int):yGs L [] n=some true:=by
 obtain⟨m,rfl⟩:∃m,L=m+1:=⟨L-1,by omega⟩
 rfl
theorem xG9(hL:0<L)(n:Int):yIO L [] n=some (-1):=by
 obtain⟨m,rfl⟩:∃m,L=m+1:=⟨L-1,by omega⟩
 rfl
theorem xCg(hs:SecOk s)(hc:CE c N)(h1:1<=N)(h2:N<=16)(hL:200000<L)(hj:j<=N):yCl L (dvN s c N j)=some 0:=by
 have hm:=hs.m
 have hn:=hs.n
 have hcl:=hc.1
 have l0:=fun ka kb=>yE0 (α:=Int) (F:=yEe) (fun k=>(dvN s c N j,(k:Int),())) s.length (dvN s c N j,()) (fun k hk kn ka kb=>by
  unfold yEe dvN
  dsimp only
  have hz:=hs.z s[k] (List.getElem_mem hk)
  rw[List.length_map,yAb (decide_eq_true (by omega)),xCI (by omega) (by omega),Int.toNat_natCast,xEZ hk,yAJ (decide_eq_false (by omega)),yAa (by omega) (by omega)]
  rfl) (fun kn ka kb=>by
  unfold yEe dvN
  dsimp only
  rw[List.length_map,yAJ (decide_eq_false (by omega))]) s.length 0 L (Nat.zero_add _) (by omega) ka kb
 have l1:=fun ka kb=>yE0 (α:=Int) (F:=yEf (yGs L) (yBm L)) (fun k=>(dvN s c N j,(k:Int),())) N (dvN s c N j,()) (fun k hk kn ka kb=>by
  have hg:=fun(h:k<j)=>xDs (s:=s) (c:=c) (L:=L) h2 hj h
  unfold yEf
  dsimp only
  rw[show(dvN s c N j).Keys=((List.range N).map (yJm j)).map inV from rfl,show(dvN s c N j).Cache=c from rfl,yCy,yAb (decide_eq_true (by omega)),hc.gI (by omega) (by omega),Int.toNat_natCast,hc.aR hk,xEh (by omega),yAC,yAJ (by rfl),yP2 (by omega) (by omega),yRn hk]
  by_cases hkj:k<j
  ·rw[show yJm j k=17*(k:Int)+16 from if_pos hkj,yAb (by rw[bne_iff_ne];omega),yP2 (by omega) (by omega),hg hkj,yAC,yAJ (by rfl),yP2 (by omega) (by omega),
     show(17*(k:Int)+16).tmod 16=(k:Int) by rw[Int.tmod_eq_emod_of_nonneg (by omega)];omega,yAJ (by simp),yAa (by omega) (by omega)]
   rfl
  ·rw[show yJm j k=0 from if_neg hkj,yAJ (by rfl),yAa (by omega) (by omega)]
   rfl) (fun kn ka kb=>by
  unfold yEf
  dsimp only
  rw[show(dvN s c N j).Keys=((List.range N).map (yJm j)).map inV from rfl,yCy,yAJ (decide_eq_false (by omega))]) N 0 L (Nat.zero_add _) (by omega) ka kb
 have l2:=fun ka kb=>yE0 (α:=Int) (F:=yHn (yBm L)) (fun k=>(dvN s c N j,(k:Int),())) 0 () (fun k hk=>absurd hk (Nat.not_lt_zero _)) (fun kn ka kb=>rfl) 0 0 L rfl (by omega) ka kb
 unfold yCl yOt
 rw[show(dvN s c N j).Keys=((List.range N).map (yJm j)).map inV from rfl,show(dvN s c N j).Cache=c from rfl,show(dvN s c N j).S=s.map txV from rfl,show(dvN s c N j).Next=(j:Int)+1 from rfl,yCy,List.length_map,hcl,
  yAJ (decide_eq_false (by omega)),yAJ (decide_eq_false (by omega)),yAJ (decide_eq_false (by omega)),yAJ (by simp),yAJ (decide_eq_false (by omega)),yAJ (decide_eq_false (by omega))]
 exact(l0 _ _).trans ((l1 _ _).trans (l2 _ _))
theorem xKn(hs:SecOk s)(hc:CE c N)(h1:1<=N)(h2:N<=16)(hL:200000<L)(hn:0<N){i:Nat}(hi:i<N):yGr L (dvN s c N N) [[V.int .i64 (yJm N i)]]=some false:=by
 have l1:=fun(α:Type) q (ka:_->Option α) kb=>yE0 (α:=α) (F:=yDE) (fun k=>([[V.int .i64 (yJm N i)]],dvN s c N N,(q:Int),(k:Int),())) 0 ([[V.int .i64 (yJm N i)]],dvN s c N N,(q:Int),()) (fun k hk=>absurd hk (Nat.not_lt_zero _)) (fun kn ka kb=>rfl) 0 0 L rfl (by omega) ka kb
 have l0:=fun ka kb=>yE0 (α:=Bool) (F:=yE5 (yAe (yDE) L)) (fun k=>([[V.int .i64 (yJm N i)]],dvN s c N N,(k:Int),())) 1 () (fun k hk kn ka kb=>by
  obtain rfl:k=0:=by omega
  unfold yE5
  dsimp only
  rw[yAb (by rfl),xIK (by omega) (by simp) (by rfl),show aI [[V.int .i64 (yJm N i)]] ((0:Nat):Int).toNat 0=yJm N i from rfl,yAJ (decide_eq_false (by unfold yJm;rw[if_pos hi];omega))]
  exact l1 _ 0 _ _) (fun kn ka kb=>rfl) 1 0 L rfl (by omega) ka kb
 exact l0 _ _
theorem xGE(hs:SecOk s)(hc:CE c N)(h1:1<=N)(h2:N<=16)(hL:200000<L):yFa L (dvN s c N j)=some (s.map txV,cE N,((List.range N).map (yJm j)).map inV,(j:Int)+1,[],()):=by
 have hm:=hs.m
 have hcl:=hc.1
 have l0:=fun ka=>ySg (α:=(List (List V))×(List (List V))×(List (List V))×Int×(List (List V))×Unit) (F:=yDi) (fun k=>(dvN s c N j,yAA.z,(s.map txV,cE k,((List.range N).map (yJm j)).map inV,(j:Int)+1,[],()),(k:Int),())) N
  (yAA.z,(s.map txV,cE N,((List.range N).map (yJm j)).map inV,(j:Int)+1,[],()),()) (fun k hk kn ka=>by
    unfold yDi
    dsimp only
    have hl:(cE k).length=k:=(yGY k).1
    have ex:cE (k+1)=cE k++ [[V.sl [] false]]:=List.replicate_succ'
    have ef:xFo [(16,[])] (cE k++ [[V.bs 16 0 0 0]])=cE (k+1):=by
     rw[ex]
     unfold xFo
     rw[List.map_append]
     congr 1
     unfold cE
     rw[List.map_replicate];rfl
    have eo:xEz [(16,[])] (cE k++ [[V.bs 16 0 0 0]])=true:=by
     unfold xEz
     rw[List.all_append]
     have:((cE k).all fun r=>r.all (xIH [(16,[])]))=true:=List.all_eq_true.2 fun r hr=>by rw[List.eq_of_mem_replicate hr];rfl
     rw[this];rfl
    rw[show(dvN s c N j).Cache=c from rfl,hcl,yAb (decide_eq_true (by omega)),hc.gI (by omega) (by omega),Int.toNat_natCast,hc.aR hk,yCf (by rfl),xCK (by decide) (by decide),hl,yCf (by rw[Nat.zero_add];exact Nat.beq_refl _),xCK (by omega) (by omega)]
    rw[yIx rfl (yMc _),show(0+([]:List (List V)).length)=0 from rfl,yCf (by rw[List.length_append,hl];exact Nat.beq_refl _),yCf eo,yIx rfl (yPe _),yIx rfl (by rfl),ef,yAa (by omega) (by omega)]
    rfl) (fun kn ka=>by
    unfold yDi
    dsimp only
    rw[show(dvN s c N j).Cache=c from rfl,hcl,yAJ (decide_eq_false (by omega)),yIx rfl (yMc _),yIx rfl (yGY N).nm,yIx rfl (yPe _),yIx rfl (by rfl)]) N 0 L (Nat.zero_add _) (by omega) ka
 unfold yFa yNa
 rw[show(dvN s c N j).Keys=((List.range N).map (yJm j)).map inV from rfl,show(dvN s c N j).S=s.map txV from rfl,show(dvN s c N j).Next=(j:Int)+1 from rfl,show(dvN s c N j).Fenced= [] from rfl,
  yCf (yR8 1 fun _=>rfl),xCK (by rw[List.length_map];omega) (by rw[List.length_map];omega),yCf (yR8 1 fun _=>rfl),xCK (by rw[yCy];omega) (by rw[yCy];omega),yCf (by rfl),xCK (by decide) (by decide),
  yIx (Nat.zero_add _) (yMc _),yIx (Nat.zero_add _) (yPe _),yIx (by rfl) (by rfl)]
 refine(l0 _).trans ?_
 dsimp only
 rw[yIx rfl (yMc _),yIx rfl (yGY N).nm,yIx rfl (yPe _),yIx rfl (by rfl)]
end
end Go.Proofs.YtakljpcmbpaeaaaGreat
