/- MountAlone: acts of the law's run, one behind the other. -/
import Derived.Test.YtakljpcmbpaeaaaGreatMountPlaysM41
import Derived.Test.YtakljpcmbpaeaaaGreatMountPlaysM40
import Derived.Test.YtakljpcmbpaeaaaGreatMountPlaysM22
import Derived.Test.YtakljpcmbpaeaaaGreatMountPlaysM01
set_option linter.unusedSimpArgs false
set_option linter.unusedVariables false
namespace Go.Proofs.YtakljpcmbpaeaaaGreat
open Go.RowKit
section
variable {L:Nat} {x:yAJ} {u:Int} {D D1 D2:yAD} {n n1 n2:yAL} {b:yAC} {k j:Nat}
end
section
variable {L N u:Nat} [yFf L] {x:yAJ} {nn z2:yAL} {z1:yAD} {z3:yAC} {most:Int} {s:List ByteArray} {ks:List Int} {nx:Int} {cs:List yAc} {α:Type}
theorem xMM{n:yAL}(hm:(yAq x).may=true)(hL:10<L)(hn:n.At=3)(h0:0<=n.Done)(h1:n.Done<x.Log):yBP L x n=some ⟨1,1+2*x.Nodes+n.Done,noS,0⟩:=by
 have _:=(inferInstance:yFf L)
 have hok:=Geo.may_ok hm
 have n1:1<=x.Nodes:=hok.n1
 have hl:yGa L x n.Done=some ⟨1,1+2*x.Nodes+n.Done,noS,0⟩:=by
  unfold yGa yNI
  rw[xNH hm hL h0 h1,yAA,yAO (decide_eq_true (by omega))]
  try rfl
 unfold yBP yDY
 rw[hn,yAF (by rfl),yAF (by rfl),yAF (by rfl),yAO (by rfl),hl,yAA]
theorem xOZ{n:yAL}(hm:(yAq x).may=true)(hL:10<L)(hn:n.At=3)(h1:¬n.Done<x.Log):yBP L x n=some yAV.z:=by
 have _:=(inferInstance:yFf L)
 have hg:yGA L x n.Done=some (-1):=by
  rw[yTL hL (yGx hm)]
  unfold Geo.logS
  rw[if_neg (fun q=>h1 q.2.2)]
 have hl:yGa L x n.Done=some yAV.z:=by
  unfold yGa yNI
  rw[hg,yAA,yAF (by rfl)]
 unfold yBP yDY
 rw[hn,yAF (by rfl),yAF (by rfl),yAF (by rfl),yAO (by rfl),hl,yAA]
end
section
variable {L N u:Nat} [yFf L] {x:yAJ} {s:List ByteArray} {c:List (List V)} {cs:List yAc} {ks:List Int} {nx key:Int} {n:yAL} {T0:yAG} {T:Nat->yAG}
theorem xOP(hL:10<L)(hT:yRR L x=some T0)(hn:n.At=0)(k0:16<=key)(k1:key<=1099511627776)(hu:key%16=n.Num):yAU L x n (mkS (leBytes 6 key.toNat))=some ({n with Key:=key,Count:=0,Table:=T0,Done:=0,Serial:=0,At:=1 },yAC.z,false,()):=by
 have _:=(inferInstance:yFf L)
 have hO:yHy L key=some n.Num:=by
  unfold yHy yPx
  rw[xIl,decide_eq_true (show xO7 key from⟨by omega,by omega⟩),yAA,cond_true]
  show some (key.tmod 16)=_
  rw[Int.tmod_eq_emod_of_nonneg (by omega),hu]
 unfold yAU yCB
 rw[hn,yAF (by rfl),yAF (by rfl),yAO (by rfl),xPM hL (by omega) (by omega),yAA]
 dsimp only
 rw[yAF (by rfl),yAF (by rfl),yCJ (by rfl),yCJ (by rfl),show aI [[V.int .i64 key]] 0 0=key from rfl,hO,yAA,yAF (by rw[bne_self_eq_false]),yCJ (by rfl),yCJ (by rfl),hT,yAA]
end
def RF(s:List ByteArray)(act:yAV)(s':List ByteArray)(got:ByteArray):Prop:=
 (∃k:Int,0<=k/\k<s.length/\act=⟨1,k,noS,0⟩/\s'=s/\got=s.getD k.toNat noS)\/
 ∃(k:Int) (b:ByteArray),0<=k/\k<s.length/\b.size<=512/\act=⟨2,k,b,0⟩/\s'=s.set k.toNat b/\got=noS
section
variable {L:Nat} [yFf L] {x:yAJ} {N:Nat} {a:PSt} {own:yAc} {c:yAc} {t':yAG} {r:yAp}
end
section
variable {L N:Nat} [yFf L] {x:yAJ} {s:List ByteArray} {t:yAG} {d:Int} {n:Nat} {R:Nat->yAp} {cmd:ByteArray} {own:yAc} {r:yAp}
end
section
variable {L N u:Nat} [yFf L] {x:yAJ} {s:List ByteArray} {t:yAG} {d:Int} {R:Nat->yAp} {cm:yAc} {r:yAp}
end
section
variable {L N u:Nat} [yFf L] {x:yAJ} {s:List ByteArray} {c:List (List V)} {ks:List Int} {nx:Int} {n:yAL} {act:yAV} {got:ByteArray} {p:yAH} {t:yAG} {d:Int}
theorem xOO(hat:n.At=4\/n.At=7)(hw:yBW L x n.P n.Done=some (act,0,()))(ht:yB2 L x n.P n.Table n.Done got=some (p,t,d,false,0,())):yAU L x n got=some ({n with Table:=t,Done:=d,P:=p },yAC.z,false,()):=by
 have _:=(inferInstance:yFf L)
 unfold yAU yCB
 rcases hat with h | h
 ·rw[h,yAF (by rfl),yAF (by rfl),yAF (by rfl),yAF (by rfl),yAF (by rfl),yAF (by rfl),yAO (by rfl),hw,yAA]
  dsimp only
  rw[show((0:Int)==0)=true from rfl,cond_true,ht,yAA]
  rfl
 ·rw[h,yAF (by rfl),yAF (by rfl),yAF (by rfl),yAF (by rfl),yAF (by rfl),yAF (by rfl),yAF (by rfl),yAF (by rfl),yAF (by rfl),yCJ (by rfl),hw,yAA]
  dsimp only
  rw[show((0:Int)==0)=true from rfl,cond_true,ht,yAA]
  rfl
theorem xON(hat:n.At=4)(hw:yBW L x n.P n.Done=some (act,0,()))(ht:yB2 L x n.P n.Table n.Done got=some (p,t,d,true,0,())){sl:Int}(hs:yEC L t n.Key=some (sl,false,())):yAU L x n got=some ({n with Table:=t,Done:=d,At:=0,P:=yAH.z,St:=yAE.z },⟨240,noS,false⟩,true,()):=by
 have _:=(inferInstance:yFf L)
 unfold yAU yCB
 rw[hat,yAF (by rfl),yAF (by rfl),yAF (by rfl),yAF (by rfl),yAF (by rfl),yAF (by rfl),yAO (by rfl),hw,yAA]
 dsimp only
 rw[show((0:Int)==0)=true from rfl,cond_true,ht,yAA]
 dsimp only
 rw[show((0:Int)==0)=true from rfl,cond_true,Bool.not_true,cond_false,hs,yAA]
 rfl
theorem xOQ(hat:n.At=4)(hw:yBW L x n.P n.Done=some (act,0,()))(ht:yB2 L x n.P n.Table n.Done got=some (p,t,d,true,0,())){sl:Int}(hs:yEC L t n.Key=some (sl,true,())):yAU L x n got=some ({n with Slot:=sl,Table:=t,Done:=d,At:=5,P:=p },yAC.z,false,()):=by
 have _:=(inferInstance:yFf L)
 unfold yAU yCB
 rw[hat,yAF (by rfl),yAF (by rfl),yAF (by rfl),yAF (by rfl),yAF (by rfl),yAF (by rfl),yAO (by rfl),hw,yAA]
 dsimp only
 rw[show((0:Int)==0)=true from rfl,cond_true,ht,yAA]
 dsimp only
 rw[show((0:Int)==0)=true from rfl,cond_true,Bool.not_true,cond_false,hs,yAA]
 rfl
theorem take_left(hat:n.At=7)(hw:yBW L x n.P n.Done=some (act,0,()))(ht:yB2 L x n.P n.Table n.Done got=some (p,t,d,true,0,())):yAU L x n got=some ({n with Mounted:=false,Slot:=0,Head:=0,Tail:=0,Table:=t,Done:=d,At:=0,P:=yAH.z,St:=yAE.z },yAC.z,true,()):=by
 have _:=(inferInstance:yFf L)
 unfold yAU yCB
 rw[hat,yAF (by rfl),yAF (by rfl),yAF (by rfl),yAF (by rfl),yAF (by rfl),yAF (by rfl),yAF (by rfl),yAF (by rfl),yAF (by rfl),yCJ (by rfl),hw,yAA]
 dsimp only
 rw[show((0:Int)==0)=true from rfl,cond_true,ht,yAA]
 rfl
theorem xOa{a:yAV}(hat:n.At=4\/n.At=7)(hw:yBW L x n.P n.Done=some (a,0,())):yBP L x n=some a:=by
 have _:=(inferInstance:yFf L)
 unfold yBP yDY
 rcases hat with h | h
 ·rw[h,yAF (by rfl),yAF (by rfl),yAF (by rfl),yAF (by rfl),yAO (by rfl),hw,yAA]
  rfl
 ·rw[h,yAF (by rfl),yAF (by rfl),yAF (by rfl),yAF (by rfl),yAF (by rfl),yAO (by rfl),hw,yAA]
  rfl
theorem doK{s':List ByteArray}(hs:SecOk s)(hc:CE c N)(hk:KeysOk ks N nx)(h1:1<=N)(h2:N<=16)(hu:u<N)(hq:∀h:u<ks.length,1<=ks[u])(h:RF s act s' got):(act.Kind !=0)=true/\SecOk s'/\s'.length=s.length/\yDV L (dvK s c ks nx) u act=some (dvK s' (cE N) ks nx,got,0,()):=by
 rcases h with ⟨k,k0,k1,rfl,rfl,rfl⟩ | ⟨k,b,k0,k1,kb,rfl,rfl,rfl⟩
 ·exact⟨rfl,hs,rfl,yZ9 (L:=L) hs hc hk h1 h2 yFf.h (n:=(u:Int)) (by omega) (by omega) (fun h=>hq h) k0 k1⟩
 ·exact⟨rfl,hs.set _ kb,List.length_set,xG5 (L:=L) hs hc hk h1 h2 yFf.h (n:=(u:Int)) (by omega) (by omega) (fun h=>hq h) k0 k1 kb⟩
end
section
variable {L:Nat} [yFf L] {x:yAJ} {N:Nat} {s:List ByteArray} {c:List (List V)}
theorem xM9:yLF L [] []=some true:=by
 obtain⟨M,rfl⟩:∃M,L=M+1:=⟨L-1,by have:=yQO (L:=L);omega⟩
 rfl
theorem xKq{a:Tb}(hs:a.s.length<=1000)(hz:a.H= []/\a.Q= []):yOw L a.t a.t=some true:=by
 have hL:200000<L:=yFf.h
 unfold yOw yT2
 rw[yAF (bne_self_eq_false _),show a.t.Holds=a.H.map hV from rfl,show a.t.Queue=a.Q.map hV from rfl,hz.1,hz.2,List.map_nil,xM9,yAA,Bool.not_true,cond_false,yAA,Bool.not_true,cond_false]
 exact yWR (F:=yLG) (fun k=>(a.t,a.t,(k:Int),())) a.s.length () (fun k hk kn ka=>by
  show(bif decide ((k:Int)<((a.s.map slV).length:Int)) then _ else _)=_
  dsimp only
  rw[show a.t.Slots=a.s.map slV from rfl,List.length_map,yAO (decide_eq_true (by omega)),xQI yYI hk,xQI yYI hk]
  simp only[beq_self_eq_true,Bool.true_and,Bool.not_true,cond_false]
  rw[yAh (by omega) (by omega)]
  rfl) (fun kn ka=>by
  show(bif decide ((a.s.length:Int)<((a.s.map slV).length:Int)) then _ else _)=_
  rw[List.length_map,yAF (decide_eq_false (by omega))]) a.s.length 0 L (by omega) (by omega) _
end
theorem xEP{L w:Nat}{n wi:Int}{b:Bs}(hw:wi=w)(h1:1<=w)(h6:w<=6)(h0:0<=n)(hn:n<=yQR w)(hb:b.length<=1000):yHY L (b.map byV) wi [[V.int .i64 n]]=some ((b++leBytes w n.toNat).map byV,0,()):=by
 subst hw
 have hp:yZO b w [n]=(b++leBytes w n.toNat,0):=by
  unfold yZO
  rw[yXk h1 h6 (fun t ht=>by obtain rfl:t=0:=by simpa using ht
                             exact yZ1 h1 h6 h0 hn)]
  simp[yI2]
 have e: [[V.int .i64 n]]= [n].map inV:=rfl
 rw[e,xEO _ (by simp only[List.length_cons,List.length_nil];omega),hp]
theorem xMb{L:Nat}{c:yAc}(h:yRU c)(hk:c.Kind=0\/c.Kind=1):yDT L c=some (mkS (yKk c),0,()):=by
 have hm:=xQB (L:=L) h
 have hm:yC2 L ⟨c,[]⟩=some true:=by
  unfold yLk yON at hm
  rw[xOo] at hm
  exact hm
 have hT:xDI c= []:=rfl
 obtain⟨⟨g1,g2⟩,g3,g4,h5⟩:=h
 have z2:(c.Kind==2)=false:=beq_eq_false_iff_ne.2 (by omega)
 have z3:(c.Kind==3)=false:=beq_eq_false_iff_ne.2 (by omega)
 have z4:(c.Kind==4)=false:=beq_eq_false_iff_ne.2 (by omega)
 have z5:(c.Kind==5)=false:=beq_eq_false_iff_ne.2 (by omega)
 have p0:yHY L [] 1 [[V.int .i64 c.Kind]]=some ((leBytes 1 c.Kind.toNat).map byV,0,()):=xEP (L:=L) (w:=1) (wi:=1) (n:=c.Kind) (b:= []) rfl (by omega) (by omega) (by omega) (by rw[show yQR 1=255 by decide];omega) (by simp)
 have p1:=xEP (L:=L) (w:=6) (wi:=6) (n:=c.By) (b:=leBytes 1 c.Kind.toNat) rfl (by omega) (by omega) (by omega) (by rw[xJA];omega) (by rw[yAI];omega)
 have p2:=xEP (L:=L) (w:=4) (wi:=4) (n:=c.Serial) (b:=leBytes 1 c.Kind.toNat++leBytes 6 c.By.toNat) rfl (by omega) (by omega) (by omega) (by rw[xPG];omega) (by simp only[List.length_append,yAI];omega)
 unfold yDT yO4
 rw[hm,yAA,Bool.not_true,cond_false,yAh (n:=c.Kind) (by omega) (by omega),p0,yAA]
 dsimp only
 rw[Nat.zero_add,List.take_length,xO1 (by rw[yAI];omega),p1,yAA]
 dsimp only
 rw[Nat.zero_add,List.take_length,xO1 (by simp only[List.length_append,yAI];omega),p2,yAA]
 dsimp only
 rw[z2,cond_false,z3,cond_false,z4,cond_false,z5,cond_false,Nat.zero_add,yCJ (xDx _),List.take_length,yCJ (by rw[yUQ];rfl),yO0]
 unfold yKk
 rw[hT,List.append_nil,List.append_assoc]
section
variable {L N u:Nat} [yFf L] {x:yAJ} {s:List ByteArray} {n:yAL}
end
section
variable {L:Nat} [yFf L] {x:yAJ} {n:yAL}
theorem xRR(hm:(yAq x).may=true){k:Int}{d:yAc}(k0:0<=k)(kn:k<x.Nodes)(hd:yRU d)(hb:d.By%16=k):yGB L x k (mkS (yKk d))=some (⟨k,mkS (yKk d),0,0,yAp.z,yAP.z⟩,0,()):=by
 have hM:yFD L x=some true:=by rw[yXY yQO (yGx hm),hm]
 have hO:yHy L d.By=some k:=by
  unfold yHy yPx
  rw[xIl,decide_eq_true hd.1,yAA,cond_true]
  show some (d.By.tmod 16)=_
  rw[Int.tmod_eq_emod_of_nonneg (by have:=hd.1.1;omega),hb]
 unfold yGB yRq
 rw[yTE yQO hd,yAA]
 dsimp only
 rw[show((0:Int) !=0)=false from rfl,cond_false,hM,yAA,Bool.not_true,cond_false,yAF (decide_eq_false (by omega)),yAF (decide_eq_false (by omega)),hO,yAA,yAF (show(k !=k)=false from bne_self_eq_false _)]
theorem xTk{d:yAc}(hd:yRU d):yOd L d.By=some (d.By%16):=by
 have _:=(inferInstance:yFf L)
 unfold yOd yUX
 rw[xJL,decide_eq_true hd.1,yAA,Bool.not_true,cond_false,Int.tmod_eq_emod_of_nonneg (by have:=hd.1.1;omega)]
theorem xPT(hm:(yAq x).may=true){k:Int}{d:yAc}(k0:0<=k)(kn:k<x.Nodes)(hd:yRU d)(hb:d.By%16=k):yPa L x k (mkS (yKk d))=some (⟨k,mkS (yKk d),0,0,yAp.z,yAP.z⟩,0,()):=by
 unfold yPa ySZ
 rw[yTZ yQO hd,yAA]
 dsimp only
 rw[show((0:Int) !=0)=false from rfl,cond_false,yLq,hm,yAA,Bool.not_true,cond_false,yAF (decide_eq_false (by omega)),yAF (decide_eq_false (by omega)),xTk hd,yAA,hb,yAF (show(k !=k)=false from bne_self_eq_false _)]
def cP(kind:Int)(n:yAL):yAc:=⟨kind,n.Key,n.Serial+1,0,0,yAr.z,0⟩
structure PrOk (x:yAJ) (n:yAL):Prop where
 n0:0<=n.Num
 n1:n.Num<x.Nodes
 key:xO7 n.Key
 of:n.Key%16=n.Num
 s0:0<=n.Serial
 s1:n.Serial<=1000000
theorem PrOk.may(h:PrOk x n){kind:Int}(hk:kind=0\/kind=1):yRU (cP kind n):=⟨h.key,by show 1<=n.Serial+1;have:=h.s0;omega,by show n.Serial+1<=_;have:=h.s1;omega,.inl ⟨hk,rfl,rfl,rfl,rfl,rfl⟩⟩
def prO(n:yAL)(kind at_:Int):yAL:={n with Serial:=n.Serial+1,At:=at_,P:=⟨n.Num,mkS (yKk (cP kind n)),0,0,yAp.z,yAP.z⟩}
theorem PrOk.w(h:PrOk x n):w64 (n.Serial+1)=n.Serial+1:=by
 have:=h.s0
 have:=h.s1
 exact yAh (by omega) (by omega)
theorem xA7(hm:(yAq x).may=true)(h:PrOk x n){kind:Int}(hk:kind=0\/kind=1)(at_:Int):yDf L x n kind at_=some (prO n kind at_,yAC.z,false,()):=by
 unfold yDf yN9
 rw[h.w,show(⟨kind,n.Key,n.Serial+1,0,0,yAr.z,0⟩:yAc)=cP kind n from rfl,xLj yQO (h.may hk),yAA]
 dsimp only
 rw[xPT hm h.n0 h.n1 (h.may hk) h.of,yAA]
 rfl
theorem xA2(hm:(yAq x).may=true)(h:PrOk x n){kind:Int}(hk:kind=0\/kind=1):
  yDT L ⟨kind,n.Key,w64 (n.Serial+1),0,0,yAr.z,0⟩=some (mkS (yKk (cP kind n)),0,())/\yGB L x n.Num (mkS (yKk (cP kind n)))=some (⟨n.Num,mkS (yKk (cP kind n)),0,0,yAp.z,yAP.z⟩,0,()):=by
 rw[h.w]
 exact⟨xMb (h.may hk) hk,xRR hm h.n0 h.n1 (h.may hk) h.of⟩
theorem xTg(k:Int):yQ1 L [[V.int .i8 k]]=some (!(k !=13&&(k !=0&&k !=1))):=by
 obtain⟨M,rfl⟩:∃M,L=M+2:=⟨L-2,by have:=yQO (L:=L);omega⟩
 have e:yQ1 (M+2) [[V.int .i8 k]]=yAB (yAB (yAB (yFo (M+2) k) fun r1=>bif r1 then some (0:Int) else some (-1)) fun r1=>some (decide (0<=r1))) fun r1=>some !r1:=rfl
 have e1:yFo (M+2) k=some (k !=13&&(k !=0&&k !=1)):=by
  unfold yFo yQS
  cases k !=13 <;> cases k !=0 <;> rfl
 rw[e,e1,yAA]
 cases (k !=13&&(k !=0&&k !=1)) <;> rfl
theorem xTo(k:Int):yRI L [[V.int .i8 k]]=some (!(k !=13&&(k !=0&&k !=1))):=by
 obtain⟨M,rfl⟩:∃M,L=M+2:=⟨L-2,by have:=yQO (L:=L);omega⟩
 have e:yRI (M+2) [[V.int .i8 k]]=(bif k !=13 then bif k !=0 then bif k !=1 then some false else some true else some true else some true):=rfl
 rw[e]
 cases k !=13 <;> cases k !=0 <;> cases k !=1 <;> rfl
theorem xOv(hm:(yAq x).may=true):yNC L x []=some ([],0,()):=by
 obtain⟨M,rfl⟩:∃M,L=M+2:=⟨L-2,by have:=yQO (L:=L);omega⟩
 have hM:yFD (M+2) x=some true:=by rw[yXY yQO (yGx hm),hm]
 have hB:yQq (M+2) x []=some true:=by
  unfold yQq yTB yJD yKp
  dsimp only
  rw[hM];rfl
 unfold yNC yQH
 rw[hB];rfl
theorem xNm(hm:(yAq x).may=true):yPe L x []=some ([],0,()):=by
 obtain⟨M,rfl⟩:∃M,L=M+2:=⟨L-2,by have:=yQO (L:=L);omega⟩
 have hB:yT7 (M+2) x []=some true:=by
  unfold yT7 yVm
  rw[yLq,hm];rfl
 unfold yPe ySa
 rw[hB];rfl
def ovO(n:yAL):yAL:={n with At:=0,P:=yAH.z,St:=yAE.z }
inductive Beg (x:yAJ) (n:yAL):yAL->Bool->Prop
 | over:Beg x n (ovO n) true
 | reg (hk:n.Key=0) (ho:n.Op.Kind=0\/n.Op.Kind=13):Beg x n {n with At:=0 } false
 | mount (h:PrOk x n) (ho:n.Op.Kind=0):Beg x n (prO n 0 4) false
 | leave (h:PrOk x n) (ho:n.Op.Kind=1):Beg x n (prO n 1 7) false
theorem xK3(hm:(yAq x).may=true)(h0:0<=n.Num)(h1:n.Num<x.Nodes)(hp:n.Pend= [])(ht:n.Txn=yQE.z)(hk:n.Key≠0->PrOk x n)(hmo:n.Key=0->n.Mounted=false):
  ∃o a over,yDO L x n=some (o,a,over,())/\yEx L x n=some (o,a,over,())/\Beg x n o over:=by
 have hM:yFD L x=some true:=by rw[yXY yQO (yGx hm),hm]
 have hS:yNW L x []=some (⟨[],0,0,3⟩,0,()):=by
  unfold yNW yQj
  rw[xOv hm];rfl
 have hR:yPg L x []=some (⟨[],0,0,3⟩,0,()):=by
  unfold yPg ySb
  rw[xNm hm];rfl
 have hO:yMN L ⟨[],0,0,3⟩=some true:=rfl
 have hpP:∀kind:Int,(kind=0\/kind=1)->n.Key≠0->yDT L ⟨kind,n.Key,w64 (n.Serial+1),0,0,yAr.z,0⟩=some (mkS (yKk (cP kind n)),0,())/\yGB L x n.Num (mkS (yKk (cP kind n)))=some (⟨n.Num,mkS (yKk (cP kind n)),0,0,yAp.z,yAP.z⟩,0,())/\w64 (n.Serial+1)=n.Serial+1:=fun kind h hz=>⟨(xA2 hm (hk hz) h).1,(xA2 hm (hk hz) h).2,(hk hz).w⟩
 have hpR:∀kind at_:Int,(kind=0\/kind=1)->n.Key≠0->yDf L x n kind at_=some (prO n kind at_,yAC.z,false,()):=fun kind at_ h hz=>xA7 hm (hk hz) h at_
 unfold yDO yRn yEx ySc
 rw[hM,yAA,Bool.not_true,cond_false,yAF (decide_eq_false (by omega)),yAF (decide_eq_false (by omega)),yLq,hm,yAA,Bool.not_true,cond_false,yAF (decide_eq_false (by omega)),yAF (decide_eq_false (by omega)),xTg,yAA,xTo,yAA]
 obtain⟨num,clock,up,over,key,asked,count,mo,slot,head,tail,tab,done,ser,txn,pend,watch,giv,ga,busy,op,at_,P,pu,st,r,f⟩:=n
 dsimp only at*
 subst hp ht
 cases hmine:(op.Kind !=13&&(op.Kind !=0&&op.Kind !=1)) with
 | true=>exact⟨_,_,_,rfl,rfl,.over⟩
 | false=>
 rw[Bool.not_false,Bool.not_true,cond_false,cond_false]
 have hkind:op.Kind=13\/op.Kind=0\/op.Kind=1:=by
  simp only[Bool.and_eq_false_iff,bne_eq_false_iff_eq] at hmine
  exact hmine
 by_cases k1:op.Kind=1
 ·rw[yAO (beq_iff_eq.2 k1),yAO (beq_iff_eq.2 k1)]
  rw[hS,yAA,hR]
  cases hmm:mo with
  | false=>exact⟨_,_,_,rfl,rfl,.over⟩
  | true=>
    have hkn:key≠0:=fun q=>by rw[hmo q] at hmm;cases hmm
    subst hmm
    obtain⟨q1,q2,q4⟩:=hpP 1 (.inr rfl) hkn
    have q3:=hpR 1 7 (.inr rfl) hkn
    refine⟨_,yAC.z,false,?_,?_,.leave (hk hkn) k1⟩
    ·rw[Bool.not_true,cond_false,show yQE.z.Open=false from rfl,cond_false]
     dsimp only
     rw[show((0:Int) !=0)=false from rfl,cond_false,hO,yAA,cond_true,q1,yAA]
     dsimp only
     rw[q2,yAA,q4]
     rfl
    ·rw[Bool.not_true,cond_false,show yQE.z.Open=false from rfl,cond_false,yAA]
     dsimp only
     rw[show((0:Int) !=0)=false from rfl,cond_false,yAO (by rfl),q3,yAA]
 ·rw[yAF (beq_eq_false_iff_ne.2 k1),yAF (beq_eq_false_iff_ne.2 k1)]
  by_cases hz:key=0
  ·obtain rfl:=hmo hz
   subst hz
   rcases hkind with e | e | e
   ·rw[e]
    exact⟨_,_,_,rfl,rfl,.reg rfl (.inr e)⟩
   ·rw[e]
    exact⟨_,_,_,rfl,rfl,.reg rfl (.inl e)⟩
   ·exact absurd e k1
  ·have hkb:(key !=0)=true:=bne_iff_ne.2 hz
   obtain⟨q1,q2,q4⟩:=hpP 0 (.inl rfl) hz
   have q3:=hpR 0 4 (.inl rfl) hz
   rw[hkb]
   rcases hkind with e | e | e
   ·rw[e]
    exact⟨_,_,_,rfl,rfl,.over⟩
   ·rw[e]
    cases hmm:mo with
    | true=>exact⟨_,_,_,rfl,rfl,.over⟩
    | false=>
      subst hmm
      refine⟨_,yAC.z,false,?_,?_,.mount (hk hz) e⟩
      ·rw[show((0:Int)==13)=false from rfl,cond_false,show((0:Int)==0)=true from rfl,cond_true,cond_false,cond_true,q1,yAA]
       dsimp only
       rw[q2,yAA,q4]
       rfl
      ·rw[show((0:Int)==13)=false from rfl,cond_false,show((0:Int)==0)=true from rfl,cond_true,cond_false,cond_true,q3,yAA]
   ·exact absurd e k1
end
theorem xSd{L:Nat}(hL:10<L){x:yAJ}(hw:xLS x.Wait=true)(hm:(yAq x).may=true){k a m p:Int}(hf:((xS1 x).find? fun r=>r.kind_==k)=some ⟨⟨a,m*p⟩,k,p⟩)(ha:0<=a)(ha2:a<=100000)(hp:1<=p)(hp2:p<=1000)(h0:1<=m)(h2:m<=1000){i j:Int}(i0:0<=i)(i1:i<m)(j0:0<=j)(j1:j<p):
  yNH L x k i j=some (a+(i*p+j))/\0<=i*p/\i*p+j<m*p:=by
 have e1:(i+1)*p<=m*p:=Int.mul_le_mul_of_nonneg_right (by omega) (by omega)
 rw[Int.add_mul,Int.one_mul] at e1
 have e2:0<=i*p:=Int.mul_nonneg i0 (by omega)
 have e3:m*p<=1000*1000:=Int.le_trans (Int.mul_le_mul_of_nonneg_right h2 (by omega)) (Int.mul_le_mul_of_nonneg_left hp2 (by omega))
 refine⟨?_,e2,by omega⟩
 unfold yNH yWN
 rw[find_eq hL (rs:=xS1 x) (Nat.le_refl _) (by rw[yYF hL hw,if_pos hm]),hf,Option.getD_some,yAA]
 dsimp only
 rw[yAF (decide_eq_false (by omega)),yCJ (by rw[decide_eq_false (by omega)];rfl),Int.mul_tdiv_cancel m (by omega),yAh (n:=m) (by omega) (by omega),yAF (decide_eq_false (by omega)),yAF (decide_eq_false (by omega)),yAF (decide_eq_false (by omega)),yAh (n:=i*p) (by omega) (by omega),yAh (n:=i*p+j) (by omega) (by omega)]
 unfold yGZ yJE
 dsimp only
 rw[yAF (decide_eq_false (by omega)),yAF (decide_eq_false (by omega)),yAh (by omega) (by omega)]
 rfl
abbrev hdA(x:yAJ):Int:=1+2*x.Nodes+x.Log
theorem xO2{L:Nat}(hL:10<L){x:yAJ}(hm:(yAq x).may=true){i:Int}(h0:0<=i)(h1:i<x.Slots):yWJ L x i=some (hdA x+i*(1+x.Journal))/\0<=i*(1+x.Journal)/\i*(1+x.Journal)<x.Slots*(1+x.Journal):=by
 have h:=Geo.may_ok hm
 have n1:1<=x.Nodes:=h.n1
 have n2:x.Nodes<=16:=h.n2
 have s1:1<=x.Slots:=h.s1
 have s2:x.Slots<=x.Nodes:=h.s2
 have l1:8*x.Slots<=x.Log:=h.l1
 have l2:x.Log<=512:=h.l2
 have p1:1<=x.Per:=h.p1
 have j1:x.Per+2<=x.Journal:=h.j1
 have j2:x.Journal<=64:=h.j2
 obtain⟨e,e1,e2⟩:=xSd hL (yGx hm) hm (k:=6) (a:=1+2*x.Nodes+x.Log) (m:=x.Slots) (p:=1+x.Journal) rfl (by omega) (by omega) (by omega) (by omega) (by omega) (by omega) h0 h1 (Int.le_refl 0) (by omega)
 unfold yWJ yXZ
 rw[e,yAA,Int.add_zero]
 exact⟨rfl,e1,by omega⟩
theorem xI0{L:Nat}(hL:200000<L){xh:Bs}{v:Int}(h:yH3 2 [] [6] [v]=(xh,0))(hl:xh.length<=512):yRQ L (mkS xh)=some (v,0,()):=by
 have hf:fieldsR 2 xh [6]=([v],[],0):=by
  rcases yRl 2 [] [6] [v] with e | ⟨b,y,e,h1,h2⟩
  ·rw[h] at e
   injection e with _ e
   cases e
  ·rw[h] at e
   injection e with e _
   subst e
   exact yNG (by omega) h1 h2
 have:=xAf (L:=L) (s:=mkS xh) (ws:= [6]) (by omega) (by rw[yS3];omega) (by show(1:Nat)<L;omega) (by show(1:Nat)<=_;omega) 2
 rw[yWS,hf] at this
 have hF:yDQ L 2 (mkS xh) [[V.int .i64 6]]=some ([[V.int .i64 v]],noS,0,()):=this
 unfold yRQ yUI
 rw[hF,yAA]
 dsimp only
 rw[yAO (by rfl),beq_self_eq_true,cond_true,yCJ (by rfl),yU1 (by simp) (by rfl)]
 rfl
section
variable {L N u:Nat} [yFf L] {x:yAJ} {s:List ByteArray} {c:List (List V)} {ks:List Int} {nx sl:Int} {n:yAL} {b:PSt}
end
theorem xNQ{n m:Int}(h0:0<=n)(h1:n<=15)(hm:0<=m)(h:yWV n m≠0):m<yWV n m/\yWV n m%16=n/\yWV n m<=1099511627776:=by
 unfold yWV at h ⊢
 split at h
 ·rename_i q
  rw[if_pos q]
  split at h
  ·rename_i q2
   rw[if_pos q2]
   split at h
   ·rename_i q3
    rw[if_pos q3];omega
   ·exact absurd rfl h
  ·rename_i q2
   rw[if_neg q2]
   split at h
   ·rename_i q3
    rw[if_pos q3];omega
   ·exact absurd rfl h
 ·exact absurd rfl h
theorem xKg(r:yAp)(k:Int):(recAt r k).Mbal=r.Mbal:=by unfold recAt;split <;> rfl
theorem xPZ(r:yAp)(k:Int):(recAt r k).Inst=k:=by
 unfold recAt
 split
 ·assumption
 ·rfl
theorem yUO{a b c:Int}:xIY a b c=true↔b<=a/\a<=c:=by unfold xIY;exact decide_eq_true_iff
theorem xFz.bd{r:yAp}(h:xFz r):(0<=r.Inst/\r.Inst<=512)/\(0<=r.Mbal/\r.Mbal<=1099511627776)/\(0<=r.Bal/\r.Bal<=r.Mbal)/\r.Val.data.toList.length<=64/\((r.Bal==0)==r.Val.data.toList.isEmpty)=true:=by
 have h:yYf r.Inst r.Mbal r.Bal r.Val.data.toList=true:=h
 unfold yYf at h
 rw[Bool.and_eq_true,Bool.and_eq_true,Bool.and_eq_true,Bool.and_eq_true,yUO,yUO,yUO,decide_eq_true_iff] at h
 exact⟨h.1,h.2.1,h.2.2.1,h.2.2.2.1,h.2.2.2.2⟩
theorem xAI.bd{b:ByteArray}{r:yAp}(h:xAI b r):0<=r.Mbal/\r.Mbal<=1099511627776:=by
 rcases h with ⟨-,rfl⟩ | ⟨h,-⟩
 ·exact⟨Int.le_refl 0,by decide⟩
 ·exact h.bd.2.1
theorem xFz.later{b:ByteArray}{r:yAp}(h:xAI b r){k M:Int}(k0:0<=k)(k1:k<=512)(hm:r.Mbal<M)(hM:M<=1099511627776):xFz ⟨k,M,(recAt r k).Bal,(recAt r k).Val⟩:=by
 have no:xFz ⟨k,M,0,noS⟩:=xRI k0 k1 (by have:=h.bd;omega) hM
 unfold recAt
 split
 ·rcases h with ⟨-,rfl⟩ | ⟨h,-⟩
  ·exact no
  ·obtain⟨b1,b2,b3,b4,b5⟩:=h.bd
   show yYf k M r.Bal r.Val.data.toList=true
   unfold yYf
   rw[yUO.2 ⟨k0,k1⟩,yUO.2 ⟨by omega,hM⟩,yUO.2 ⟨b3.1,by omega⟩,decide_eq_true b4,b5];rfl
 ·exact no
theorem xQK{s:List ByteArray}{i:Nat}{b:ByteArray}(h:i<s.length):(s.set i b).getD i noS=b:=by
 rw[List.getD_eq_getElem?_getD,List.getElem?_set_self h];rfl
theorem ySq{s:List ByteArray}{i j:Nat}{b:ByteArray}(h:i≠j):(s.set i b).getD j noS=s.getD j noS:=by
 rw[List.getD_eq_getElem?_getD,List.getElem?_set_ne h,←List.getD_eq_getElem?_getD]
def xDn(v:ByteArray):Prop:=v=noS\/∃c,yRU c/\v=mkS (yKk c)
def xUD(b:ByteArray):Prop:=b=noS\/∃c,yRU c/\b=yUd c
structure Sec (x:yAJ) (N:Nat) (xb xh:Bs) (s:List ByteArray):Prop where
 g:PGeo x N s
 top:s.getD 0 noS=mkS xb
 rc:∀k:Nat,k<N->∃r,xAI (s.getD (1+N+k) noS) r/\xDn r.Val
 lg:∀k:Nat,(k:Int)<x.Log->xUD (s.getD (1+2*N+k) noS)
 hd:∀j:Nat,(j:Int)<x.Slots->s.getD (hdA x+j*(1+x.Journal)).toNat noS=mkS xh
def xId(x:yAJ)(t:yAG)(d:Int):Prop:=∃cs:List yAc,t=(bh6 x cs).t/\d=cs.length
structure PxOk (x:yAJ) (N n:Nat) (p:yAH) (d:Int):Prop where
 node:p.Node=n
 cmd:∃c,yRU c/\p.Cmd=mkS (yKk c)
 a0:0<=p.At
 a6:p.At<=6
 lt:1<=p.At->d<x.Log
 own:2<=p.At->p.At<=5->xFz p.Own/\0<p.Own.Mbal/\xDn p.Own.Val
 val:4<=p.At->∃c,yRU c/\p.Own.Val=mkS (yKk c)
 i:p.At=3\/p.At=5->0<=p.I/\p.I<N
 t:p.At=3\/p.At=5->0<=p.T.Best/\(0<p.T.Best->∃c,yRU c/\p.T.Val=mkS (yKk c))
theorem xDn.some{r:yAp}(h:xFz r)(hv:xDn r.Val)(hb:0<r.Bal):∃c,yRU c/\r.Val=mkS (yKk c):=by
 rcases hv with e | e
 ·have:=h.bd.2.2.2.2
  rw[e,beq_eq_false_iff_ne.2 (show r.Bal≠0 by omega)] at this
  exact absurd this (by decide)
 ·exact e
theorem xAI.val{b:ByteArray}{r:yAp}(h:xAI b r)(hv:xDn r.Val)(hb:0<r.Bal):∃c,yRU c/\r.Val=mkS (yKk c):=by
 rcases h with ⟨-,rfl⟩ | ⟨h,-⟩
 ·exact absurd hb (by decide)
 ·exact xDn.some h hv hb
section
variable {x:yAJ} {N n:Nat} {xb xh:Bs} {s:List ByteArray} {p:yAH} {d:Int} {t:yAG}
theorem xId.ap(h:xId x t d)(hx:(yAq x).may=true)(hd:d<=512){L:Nat}[yFf L]{c:yAc}(hc:yRU c):∃t',yDR L x t c=some t'/\yC5 L x t c=some t'/\xId x t' (d+1):=by
 have hok:=Geo.may_ok hx
 have s2:x.Slots<=x.Nodes:=hok.s2
 have n2:x.Nodes<=16:=hok.n2
 obtain⟨cs,rfl,rfl⟩:=h
 exact⟨_,xMV (by omega) (by omega) hc,xLi (by omega) (by omega) hc,cs++ [c],by unfold bh6;rw[List.foldl_append];rfl,by simp⟩
theorem Sec.rec_(h:Sec x N xb xh s)(hn:n<N){r:yAp}(hr:xFz r)(hv:xDn r.Val):Sec x N xb xh (s.set (1+N+n) (xF1 r)):=by
 obtain⟨n1,n2,l8,l512,s1,s16,sl,hl⟩:=h.g.bd
 have hN:=h.g.n
 refine⟨h.g.set _ (by have:=(xAA hr).1;omega),?_,fun k hk=>?_,fun k hk=>?_,fun j hj=>?_⟩
 ·rw[ySq (by omega)];exact h.top
 ·by_cases e:n=k
  ·subst e
   rw[xQK (by omega)]
   exact⟨r,.inr ⟨hr,rfl⟩,hv⟩
  ·rw[ySq (by omega)];exact h.rc k hk
 ·rw[ySq (by omega)];exact h.lg k hk
 ·have:=Geo.may_ok h.g.may
  have j1:x.Per+2<=x.Journal:=this.j1
  have p1:1<=x.Per:=this.p1
  have hm:0<=(j:Int)*(1+x.Journal):=Int.mul_nonneg (by omega) (by omega)
  rw[ySq (by unfold hdA;omega)];exact h.hd j hj
theorem Sec.lease(h:Sec x N xb xh s)(hn:n<N){b:ByteArray}(hb:b.size<=512):Sec x N xb xh (s.set (1+n) b):=by
 obtain⟨n1,n2,l8,l512,s1,s16,sl,hl⟩:=h.g.bd
 have hN:=h.g.n
 refine⟨h.g.set _ hb,?_,fun k hk=>?_,fun k hk=>?_,fun j hj=>?_⟩
 ·rw[ySq (by omega)];exact h.top
 ·rw[ySq (by omega)];exact h.rc k hk
 ·rw[ySq (by omega)];exact h.lg k hk
 ·have:=Geo.may_ok h.g.may
  have j1:x.Per+2<=x.Journal:=this.j1
  have p1:1<=x.Per:=this.p1
  have hm:0<=(j:Int)*(1+x.Journal):=Int.mul_nonneg (by omega) (by omega)
  rw[ySq (by unfold hdA;omega)];exact h.hd j hj
theorem Sec.log(h:Sec x N xb xh s){m:Nat}(hm:(m:Int)<x.Log){c:yAc}(hc:yRU c):Sec x N xb xh (s.set (1+2*N+m) (yUd c)):=by
 obtain⟨n1,n2,l8,l512,s1,s16,sl,hl⟩:=h.g.bd
 have hN:=h.g.n
 refine⟨h.g.set _ (by have:=xAD c;omega),?_,fun k hk=>?_,fun k hk=>?_,fun j hj=>?_⟩
 ·rw[ySq (by omega)];exact h.top
 ·rw[ySq (by omega)];exact h.rc k hk
 ·by_cases e:m=k
  ·subst e
   rw[xQK (by omega)]
   exact .inr ⟨c,hc,rfl⟩
  ·rw[ySq (by omega)];exact h.lg k hk
 ·have:=Geo.may_ok h.g.may
  have j1:x.Per+2<=x.Journal:=this.j1
  have p1:1<=x.Per:=this.p1
  have hm2:0<=(j:Int)*(1+x.Journal):=Int.mul_nonneg (by omega) (by omega)
  rw[ySq (by unfold hdA;omega)];exact h.hd j hj
theorem PxOk.next(h:PxOk x N n p d)(hn:n<N)(hd0:0<=d)(hl:x.Log<=512){k:Int}(k0:0<=k)(kN:k<=N)(h35:p.At=3\/p.At=5):PxOk x N n (yZF N p k) d:=by
 have hle:=xQU (node:=p.Node) (k:=k) (N:=N) (by rw[h.node];omega) kN
 have h0:0<=others p.Node k:=by unfold others;split <;> omega
 obtain⟨o1,o2,o3⟩:=h.own (by omega) (by omega)
 obtain⟨b1,b2,b3,b4,b5⟩:=o1.bd
 have hlt:=h.lt (by omega)
 obtain⟨t1,t2⟩:=h.t h35
 unfold yZF
 split
 ·exact⟨h.node,h.cmd,h.a0,h.a6,h.lt,h.own,h.val,fun _=>⟨h0,by dsimp only;omega⟩,h.t⟩
 split
 ·unfold xGw
  exact⟨h.node,h.cmd,Int.le_refl 0,by dsimp only;omega,fun q=>absurd q (by first | decide | (dsimp only;omega)),fun q=>absurd q (by first | decide | (dsimp only;omega)),fun q=>absurd q (by first | decide | (dsimp only;omega)),fun q=>absurd q (by first | decide | (dsimp only;omega)),fun q=>absurd q (by first | decide | (dsimp only;omega))⟩
 split
 ·rename_i e
  exact⟨h.node,h.cmd,by dsimp only;omega,Int.le_refl 6,fun _=>hlt,fun _ q=>absurd q (by first | decide | (dsimp only;omega)),fun _=>h.val (by omega),fun q=>absurd q (by first | decide | (dsimp only;omega)),fun q=>absurd q (by first | decide | (dsimp only;omega))⟩
 ·have hv:∃c,yRU c/\(if 0<p.T.Best then p.T.Val else p.Cmd)=mkS (yKk c):=by
    split
    ·rename_i e
     exact t2 e
    ·exact h.cmd
  obtain⟨c,hc,ev⟩:=hv
  rw[ev]
  exact⟨h.node,h.cmd,by dsimp only;omega,by dsimp only;omega,fun _=>hlt,fun _ _=>⟨xPB b1.1 b1.2 o2 b2.2,o2,.inr ⟨c,hc,rfl⟩⟩,fun _=>⟨c,hc,rfl⟩,fun q=>absurd q (by first | decide | (dsimp only;omega)),fun q=>absurd q (by first | decide | (dsimp only;omega))⟩
def xTP(L:Nat)(x:yAJ)(N n:Nat)(p:yAH)(t:yAG)(d:Int)(got:ByteArray):Prop:=
 ∃p' t' d' o e,yB2 L x p t d got=some (p',t',d',o,e,())/\yCY L x p t d got=some (p',t',d',o,e,())/\(e=0->xId x t' d'/\0<=d'/\d'<=x.Log/\PxOk x N n p' d')
def xTO(L:Nat)(x:yAJ)(N n:Nat)(xb xh:Bs)(s:List ByteArray)(p:yAH)(t:yAG)(d:Int):Prop:=
 ∃a s' got,yBW L x p d=some (a,0,())/\yBw L x p d=some (a,0,())/\RF s a s' got/\Sec x N xb xh s'/\xTP L x N n p t d got
variable {L:Nat} [yFf L]
theorem xNf(h:PxOk x N n p d){d':Int}:PxOk x N n (xGw p) d':=by
 unfold xGw
 exact⟨h.node,h.cmd,Int.le_refl 0,by dsimp only;omega,fun q=>absurd q (by first | decide | (dsimp only;omega)),fun q=>absurd q (by first | decide | (dsimp only;omega)),fun q=>absurd q (by first | decide | (dsimp only;omega)),fun q=>absurd q (by first | decide | (dsimp only;omega)),fun q=>absurd q (by first | decide | (dsimp only;omega))⟩
theorem xSo(h:Sec x N xb xh s)(hn:n<N)(hp:PxOk x N n p d)(ht:xId x t d)(hd0:0<=d)(hd:d<=x.Log):
  (yBW L x p d=some (yAV.z,150,())/\yBw L x p d=some (yAV.z,150,()))\/xTO L x N n xb xh s p t d:=by
 obtain⟨n1,n2,l8,l512,s1,s16,sl,hl⟩:=h.g.bd
 have hN:=h.g.n
 have hm:=h.g.may
 have hL:200000<L:=yFf.h
 obtain⟨own,hoc,hown⟩:=hp.cmd
 have hp0:0<=p.Node:=by rw[hp.node];omega
 have hp1:p.Node<x.Nodes:=by rw[hp.node,hN];omega
 have hcr:yBi L p.Cmd=some (own,0,()):=by rw[hown];exact yTE yQO hoc
 have hrr:yCQ L p.Cmd=some (own,0,()):=by rw[hown];exact yTZ yQO hoc
 have h16:x.Nodes<=16:=by omega
 have a0:=hp.a0
 have a6:=hp.a6
 rcases(show p.At=0\/p.At=1\/(p.At=2\/p.At=4)\/(p.At=3\/p.At=5)\/p.At=6 by omega) with e | e | e | e | e
 ·by_cases hlt:d<x.Log
  rotate_left
  ·exact .inl ⟨xOY hm e hlt,xLs hm e hlt⟩
  right
  obtain⟨k,rfl⟩:=Int.eq_ofNat_of_zero_le hd0
  refine⟨_,s,_,xPy hm e hd0 hlt,xN1 hm e hd0 hlt,.inl ⟨_,by omega,by omega,rfl,rfl,rfl⟩,h,?_⟩
  rw[show(1+2*x.Nodes+(k:Int)).toNat=1+2*N+k by omega]
  rcases h.lg k hlt with e2 | ⟨c,hc,e2⟩
  ·rw[e2]
   have q1:=xOM (L:=L) (p:=p) (t:=t) (done:=k) (own:=own) hm e hd0 hcr
   have q2:=xLr (L:=L) (p:=p) (t:=t) (done:=k) (own:=own) hm e hd0 hrr
   by_cases hs:(own.Kind=0\/own.Kind=2)/\x.Log-4*x.Slots<=(k:Int)
   ·rw[if_pos hs] at q1 q2
    exact⟨_,_,_,_,_,q1,q2,fun q=>absurd q (by first | decide | (dsimp only;omega))⟩
   ·rw[if_neg hs] at q1 q2
    exact⟨_,_,_,_,_,q1,q2,fun _=>⟨ht,hd0,hd,hp.node,hp.cmd,by dsimp only;omega,by dsimp only;omega,fun _=>hlt,fun q=>absurd q (by first | decide | (dsimp only;omega)),fun q=>absurd q (by first | decide | (dsimp only;omega)),fun q=>absurd q (by first | decide | (dsimp only;omega)),fun q=>absurd q (by first | decide | (dsimp only;omega))⟩⟩
  ·rw[e2]
   obtain⟨t',y1,y2,y3⟩:=ht.ap (L:=L) hm (by omega) hc
   exact⟨_,_,_,_,_,xPo hc e y1 hd0 (by omega) hcr,xNy hc e y2 hd0 (by omega) hrr,fun _=>⟨y3,by omega,by omega,xNf hp⟩⟩
 ·right
  have hlt:=hp.lt (by omega)
  obtain⟨r,hr,hv⟩:=h.rc n hn
  refine⟨_,s,_,xPz hm e hp0 hp1,xN2 hm e hp0 hp1,.inl ⟨_,by omega,by rw[hp.node];omega,rfl,rfl,rfl⟩,h,?_⟩
  rw[show(1+x.Nodes+p.Node).toNat=1+N+n by rw[hp.node];omega]
  have q1:=xPp (L:=L) (x:=x) (p:=p) (t:=t) (done:=d) e hr.read
  have q2:=xNz (L:=L) (x:=x) (p:=p) (t:=t) (done:=d) e hr.r8
  by_cases hz:xAu p r d=0
  ·rw[if_pos hz] at q1 q2
   exact⟨_,_,_,_,_,q1,q2,fun q=>absurd q (by first | decide | (dsimp only;omega))⟩
  ·rw[if_neg hz] at q1 q2
   obtain⟨y1,y2,y3⟩:=xNQ (n:=p.Node) (m:=max (max 0 (recAt r d).Mbal) p.T.Seen) hp0 (by omega) (by omega) hz
   rw[xKg] at y1
   have hM:xAu p r d=yWV p.Node (max (max 0 (recAt r d).Mbal) p.T.Seen):=rfl
   have hgt:r.Mbal<xAu p r d:=by rw[hM,xKg];omega
   have hb:=hr.bd
   refine⟨_,_,_,_,_,q1,q2,fun _=>⟨ht,hd0,hd,hp.node,hp.cmd,by dsimp only;omega,by dsimp only;omega,fun _=>hlt,fun _ _=>⟨?_,by dsimp only;omega,?_⟩,fun q=>absurd q (by first | decide | (dsimp only;omega)),fun q=>absurd q (by first | decide | (dsimp only;omega)),fun q=>absurd q (by first | decide | (dsimp only;omega))⟩⟩
   ·rw[xPZ]
    exact xFz.later hr hd0 (by omega) hgt (by rw[hM];exact y3)
   ·show xDn (recAt r d).Val
    unfold recAt
    split
    ·exact hv
    ·exact .inl rfl
 ·right
  have hlt:=hp.lt (by omega)
  obtain⟨o1,o2,o3⟩:=hp.own (by omega) (by omega)
  obtain⟨b1,b2,b3,b4,b5⟩:=o1.bd
  refine⟨_,s.set (1+N+n) (xF1 p.Own),noS,xP0 hm e hp0 hp1 o1,xN3 hm e hp0 hp1 o1,.inr ⟨1+x.Nodes+p.Node,xF1 p.Own,by omega,by rw[hp.node];omega,by have:=(xAA o1).1;omega,rfl,by rw[show(1+x.Nodes+p.Node).toNat=1+N+n by rw[hp.node];omega],rfl⟩,h.rec_ hn o1 o3,?_⟩
  refine⟨_,_,_,_,_,xMB hL h16 hp0 hp1 e,xJp h16 hp0 hp1 e,fun _=>⟨ht,hd0,hd,?_⟩⟩
  unfold xGx
  rw[hN]
  rw[show yZF N ⟨p.Node,p.Cmd,p.At+1,p.I,p.Own,xIN p.Own p.T.Seen⟩ 0=yZF N ⟨p.Node,p.Cmd,p.At+1,0,p.Own,xIN p.Own p.T.Seen⟩ 0 from rfl]
  refine PxOk.next (p:=⟨p.Node,p.Cmd,p.At+1,0,p.Own,xIN p.Own p.T.Seen⟩) ⟨hp.node,hp.cmd,by dsimp only;omega,by dsimp only;omega,fun _=>hlt,fun _ _=>⟨o1,o2,o3⟩,fun q=>?_,fun _=>⟨Int.le_refl 0,by dsimp only;omega⟩,fun _=>⟨b3.1,fun q=>xDn.some o1 o3 q⟩⟩ hn hd0 l512 (Int.le_refl 0) (by omega) (by dsimp only;omega)
  ·dsimp only at q ⊢
   exact hp.val (by omega)
 ·right
  have hlt:=hp.lt (by omega)
  obtain⟨i0,i1⟩:=hp.i e
  obtain⟨o1,o2,o3⟩:=hp.own (by omega) (by omega)
  obtain⟨t1,t2⟩:=hp.t e
  obtain⟨k,hk⟩:=Int.eq_ofNat_of_zero_le i0
  obtain⟨r,hr,hv⟩:=h.rc k (by omega)
  refine⟨_,s,_,xOb hm e i0 (by omega),xLt hm e i0 (by omega),.inl ⟨_,by omega,by omega,rfl,rfl,rfl⟩,h,?_⟩
  rw[show(1+x.Nodes+p.I).toNat=1+N+k by omega]
  refine⟨_,_,_,_,_,xKB hL h16 hp0 hp1 i0 (by omega) e hr.read,xH8 h16 hp1 i0 (by omega) e hr.r8,fun _=>⟨ht,hd0,hd,?_⟩⟩
  unfold yVS
  rw[hN]
  refine PxOk.next (p:=⟨p.Node,p.Cmd,p.At,p.I,p.Own,yQB p.T r⟩) ⟨hp.node,hp.cmd,hp.a0,hp.a6,hp.lt,hp.own,hp.val,hp.i,fun _=>?_⟩ hn hd0 l512 (by omega) (by omega) e
  unfold yQB
  dsimp only
  split
  ·rename_i q
   exact⟨by omega,fun _=>hr.val hv (by omega)⟩
  ·exact⟨t1,t2⟩
 ·right
  have hlt:=hp.lt (by omega)
  obtain⟨c,hc,hv⟩:=hp.val (by omega)
  obtain⟨k,rfl⟩:=Int.eq_ofNat_of_zero_le hd0
  obtain⟨t',y1,y2,y3⟩:=ht.ap (L:=L) hm (by omega) hc
  refine⟨_,s.set (1+2*N+k) (yUd c),noS,xPx hm e hd0 hlt hc hv,xN0 hm e hd0 hlt hc hv,.inr ⟨1+2*x.Nodes+k,yUd c,by omega,by omega,by have:=xAD c;omega,rfl,by rw[show(1+2*x.Nodes+(k:Int)).toNat=1+2*N+k by omega],rfl⟩,h.log hlt hc,?_⟩
  exact⟨_,_,_,_,_,xPm hc e hv y1 hd0 (by omega) hcr,xNx hc e hv y2 hd0 (by omega) hrr,fun _=>⟨y3,by omega,by omega,xNf hp⟩⟩
end
theorem xAn{s:List ByteArray}{i j:Nat}{b:ByteArray}(h:j≠i):(s.set i b).getD j noS=s.getD j noS:=by
 rw[List.getD_eq_getElem?_getD,List.getElem?_set_ne (Ne.symm h),←List.getD_eq_getElem?_getD]
structure AI (x:yAJ) (N:Nat) (s0 s:List ByteArray) (R:Nat->yAp) (ks:List Int) (i m:Nat):Prop where
 g:PGeo x N s
 k:KeysOk ks N ((i:Int)+1)
 iN:i<=N
 le:m<=i
 lg:(m:Int)<=x.Log-4*x.Slots
 at_:∀j,j<m->s.getD (1+2*N+j) noS=yUd (cN j)
 no:∀j:Nat,m<=j->(j:Int)<x.Log->s.getD (1+2*N+j) noS=noS
 recs:∀j,j<N->xAI (s.getD (1+N+j) noS) (R j)
 r1:∀j,j<N->j<m->(R j).Inst=j/\0<=(R j).Mbal/\(R j).Mbal<=50
 r0:∀j,j<N->m<=j->R j=yAp.z
 top:s.getD 0 noS=s0.getD 0 noS
 re:∀j:Nat,1+2*(N:Int)+x.Log<=j->s.getD j noS=s0.getD j noS
 key:0<i->∀h:0<ks.length,ks[0]=16
section
variable {L N i m:Nat} [yFf L] {x:yAJ} {s s0:List ByteArray} {c:List (List V)} {ks:List Int} {R:Nat->yAp}
theorem AI.lease(h:AI x N s0 s R ks i m)(hi:i<N){b:ByteArray}(hb:b.size<=512):AI x N s0 (s.set (1+i) b) R (ks.set i (16*((i:Int)+1)+(i:Int))) (i+1) m:=by
 obtain⟨n1,n2,l8,l512,s1,s16,sl,hl⟩:=h.g.bd
 have hk:=h.k.set hi n2 (by omega)
 have hle:=h.le
 refine⟨h.g.set _ hb,by rw[show((i+1:Nat):Int)+1=(i:Int)+1+1 by omega];exact hk,hi,by omega,h.lg,fun j hj=>?_,fun j h1 h2=>?_,fun j hj=>?_,h.r1,h.r0,?_,fun j hj=>?_,fun _ hl=>?_⟩
 ·rw[xAn (by omega)];exact h.at_ j hj
 ·rw[xAn (by omega)];exact h.no j h1 h2
 ·rw[xAn (by omega)];exact h.recs j hj
 ·rw[xAn (by omega)];exact h.top
 ·rw[xAn (by omega)];exact h.re j hj
 ·by_cases e:i=0
  ·subst e
   rw[List.getElem_set_self];rfl
  ·rw[List.getElem_set_ne e]
   exact h.key (by omega) (by rw[List.length_set] at hl;exact hl)
abbrev nd(i:Int):yAL:=⟨i,0,true,0,0,0,0,false,0,0,0,yAG.z,0,0,yQE.z,[],[],[],false,false,xB2.z,0,yAH.z,yCx.z,yAE.z,yBx.z,yCO.z⟩
end
theorem xSy{L:Nat}{x:yAJ}{i:Int}(hm:(yAq x).may=true)(h0:0<=i)(h1:i<x.Nodes):yPK L x i=some (1+i):=by
 have n2:x.Nodes<=16:=(Geo.may_ok hm).n2
 unfold yPK yRt
 rw[yLq,yAA,hm,Bool.not_true,cond_false,yAh (n:=x.Nodes-1) (by omega) (by omega),yY9,yAA,decide_eq_true (by omega),Bool.not_true,cond_false,yAh (by omega) (by omega)]
section
variable {L:Nat} [yFf L] {x:yAJ} {n:yAL} {got:ByteArray}
theorem xJI{T0:yAG}{key:Int}(hT:yRD L x=some T0)(hn:n.At=0)(k0:16<=key)(k1:key<=1099511627776)(hu:key%16=n.Num):yA7 L x n (mkS (leBytes 6 key.toNat))=some ({n with Key:=key,Count:=0,Table:=T0,Done:=0,Serial:=0,At:=1 },yAC.z,false,()):=by
 have hO:yOd L key=some n.Num:=by
  unfold yOd yUX
  rw[xJL,decide_eq_true (show xO7 key from⟨by omega,by omega⟩),yAA,Bool.not_true,cond_false,Int.tmod_eq_emod_of_nonneg (by omega),hu]
 have hR:=xPW (L:=L) yQO (d:=key) (by omega) (by omega)
 rw[List.append_nil] at hR
 unfold yA7 yDe
 rw[hn,yAO (by rfl),hR,yAA]
 dsimp only
 rw[yAF (by rfl),yAF (by rfl),yCJ (by rfl),yCJ (by rfl),show aI [[V.int .i64 key]] 0 0=key from rfl,hO,yAA,yAF (by rw[bne_self_eq_false]),yCJ (by rfl),yCJ (by rfl),hT,yAA]
theorem xSt(hm:(yAq x).may=true){xb:Bs}(h:yH3 1 [] xGZ (xIv (yAq x))=(xb,0))(hl:xb.length<=512):yRA L (mkS xb)=some (x,0,()):=by
 have hf:fieldsR 1 xb xGZ=(xIv (yAq x),[],0):=by
  rcases yRl 1 [] xGZ (xIv (yAq x)) with e | ⟨b,y,e,h1,h2⟩
  ·rw[h] at e
   injection e with _ e
   cases e
  ·rw[h] at e
   injection e with e _
   subst e
   exact yNG (by omega) h1 h2
 have:=yXl (L:=L) (s:=mkS xb) (ws:=xGZ) hL3 (by rw[yS3];omega) (by have:=yQO (L:=L);show(8:Nat)<L;omega) (by show(8:Nat)<=_;omega) 1
 rw[yWS,hf] at this
 have hF:yCt L 1 (mkS xb) [[V.int .i64 2],[V.int .i64 2],[V.int .i64 2],[V.int .i64 2],[V.int .i64 2],[V.int .i64 2],[V.int .i64 4],[V.int .i64 4]]=
  some ([[V.int .i64 x.Nodes],[V.int .i64 x.Slots],[V.int .i64 x.Blocks],[V.int .i64 x.Per],[V.int .i64 x.Journal],[V.int .i64 x.Log],[V.int .i64 x.Lease],[V.int .i64 x.Wait]],noS,0,()):=this
 have e:∀(a b c d e f g h:Int),(⟨aI [[V.int .i64 a],[V.int .i64 b],[V.int .i64 c],[V.int .i64 d],[V.int .i64 e],[V.int .i64 f],[V.int .i64 g],[V.int .i64 h]] 0 0,aI [[V.int .i64 a],[V.int .i64 b],[V.int .i64 c],[V.int .i64 d],[V.int .i64 e],[V.int .i64 f],[V.int .i64 g],[V.int .i64 h]] 1 0,aI [[V.int .i64 a],[V.int .i64 b],[V.int .i64 c],[V.int .i64 d],[V.int .i64 e],[V.int .i64 f],[V.int .i64 g],[V.int .i64 h]] 2 0,aI [[V.int .i64 a],[V.int .i64 b],[V.int .i64 c],[V.int .i64 d],[V.int .i64 e],[V.int .i64 f],[V.int .i64 g],[V.int .i64 h]] 3 0,aI [[V.int .i64 a],[V.int .i64 b],[V.int .i64 c],[V.int .i64 d],[V.int .i64 e],[V.int .i64 f],[V.int .i64 g],[V.int .i64 h]] 4 0,aI [[V.int .i64 a],[V.int .i64 b],[V.int .i64 c],[V.int .i64 d],[V.int .i64 e],[V.int .i64 f],[V.int .i64 g],[V.int .i64 h]] 5 0,aI [[V.int .i64 a],[V.int .i64 b],[V.int .i64 c],[V.int .i64 d],[V.int .i64 e],[V.int .i64 f],[V.int .i64 g],[V.int .i64 h]] 6 0,aI [[V.int .i64 a],[V.int .i64 b],[V.int .i64 c],[V.int .i64 d],[V.int .i64 e],[V.int .i64 f],[V.int .i64 g],[V.int .i64 h]] 7 0⟩:yAJ)=⟨a,b,c,d,e,f,g,h⟩:=fun _ _ _ _ _ _ _ _=>rfl
 unfold yRA yTp
 rw[hF,yAA]
 dsimp only
 rw[yAF (by rfl),beq_self_eq_true,Bool.not_true,cond_false,yCJ (by rfl),yU1 (by simp) (by rfl),yCJ (by rfl),yU1 (by simp) (by rfl),yCJ (by rfl),yU1 (by simp) (by rfl),yCJ (by rfl),yU1 (by simp) (by rfl),yCJ (by rfl),yU1 (by simp) (by rfl),yCJ (by rfl),yU1 (by simp) (by rfl),yCJ (by rfl),yU1 (by simp) (by rfl),yCJ (by rfl),yU1 (by simp) (by rfl),e]
 rw[show(⟨x.Nodes,x.Slots,x.Blocks,x.Per,x.Journal,x.Log,x.Lease,x.Wait⟩:yAJ)=x from rfl,yLq,hm,yAA]
 rfl
theorem xEZ(hm:(yAq x).may=true){xb:Bs}(h:yH3 1 [] xGZ (xIv (yAq x))=(xb,0))(hl:xb.length<=512)(hn:n.At=1):yA7 L x n (mkS xb)=some ({n with At:=2 },yAC.z,false,()):=by
 unfold yA7 yDe
 rw[hn,yAF (by rfl),yAO (by rfl),xSt hm h hl,yAA]
 dsimp only
 rw[yAF (by rfl),yAF (by simp only[beq_self_eq_true,Bool.and_self,Bool.not_true])]
theorem xEY(hn:n.At=2):yA7 L x n got=some ({n with Asked:=n.Clock,Count:=1,At:=3 },yAC.z,false,()):=by
 have _:=(inferInstance:yFf L)
 unfold yA7 yDe
 rw[hn]
 rfl
theorem xRT{key:Int}(h0:1<=key)(h1:key<=1099511627776):yPM L key 1=some (mkS (lsB key),0,()):=by
 have:=yZ7 (L:=L) (k:=3) (rest:=noS) (ws:= [6,6]) (l:= [key,1]) (by omega) (by have:=yQO (L:=L);show(2:Nat)<L;omega) hL3 (by simp) (by show(0:Nat)<=_;omega)
 rw[show noS.data.toList= [] from rfl,(xI5 h0 h1).1] at this
 unfold yPM ySP
 rw[yAF (decide_eq_false (by omega)),yAF (by rfl)]
 exact(congrArg (fun o=>yAB o fun r1=>some (r1.1,r1.2.1,())) this).trans rfl
theorem xEa(hm:(yAq x).may=true)(hn:n.At=2)(h0:1<=n.Key)(h1:n.Key<=1099511627776)(hu:0<=n.Num)(hu2:n.Num<x.Nodes):yB6 L x n=some ⟨2,1+n.Num,mkS (lsB n.Key),0⟩:=by
 unfold yB6 yEX
 rw[hn,yAF (by rfl),yAF (by rfl),yAO (by rfl),xRT h0 h1,yAA,xSy hm hu hu2,yAA,yAO (by rfl),yAO (decide_eq_true (by omega))]
theorem xSu{xh:Bs}{v:Int}(h:yH3 2 [] [6] [v]=(xh,0))(hl:xh.length<=512):yRB L (mkS xh)=some (v,0,()):=by
 have hf:fieldsR 2 xh [6]=([v],[],0):=by
  rcases yRl 2 [] [6] [v] with e | ⟨b,y,e,h1,h2⟩
  ·rw[h] at e
   injection e with _ e
   cases e
  ·rw[h] at e
   injection e with e _
   subst e
   exact yNG (by omega) h1 h2
 have:=yXl (L:=L) (s:=mkS xh) (ws:= [6]) hL3 (by rw[yS3];omega) (by have:=yQO (L:=L);show(1:Nat)<L;omega) (by show(1:Nat)<=_;omega) 2
 rw[yWS,hf] at this
 have hF:yCt L 2 (mkS xh) [[V.int .i64 6]]=some ([[V.int .i64 v]],noS,0,()):=this
 unfold yRB yTq
 rw[hF,yAA]
 dsimp only
 rw[yAF (by rfl),beq_self_eq_true,Bool.not_true,cond_false,yCJ (by rfl),yU1 (by simp) (by rfl)]
 rfl
theorem xQL(hm:(yAq x).may=true){d:Int}(h:¬d<x.Log):yGA L x d=some (-1)/\yES L x d=some (-1):=by
 rw[yTL yQO (yGx hm),yVT]
 unfold Geo.logS
 rw[if_neg (fun q=>h q.2.2)]
 exact⟨rfl,rfl⟩
theorem xNI(hm:(yAq x).may=true){d:Int}(h0:0<=d)(h:d<x.Log):yGA L x d=some (1+2*x.Nodes+d)/\yES L x d=some (1+2*x.Nodes+d):=by
 rw[yTL yQO (yGx hm),yVT]
 unfold Geo.logS
 rw[if_pos ⟨hm,h0,h⟩]
 exact⟨rfl,rfl⟩
theorem xEX(hm:(yAq x).may=true)(hn:n.At=3)(h0:0<=n.Done)(h1:n.Done<x.Log){c:yAc}{t':yAG}(hc:yRU c)(hT:yC5 L x n.Table c=some t'):yA7 L x n (yUd c)=some ({n with Table:=t',Done:=n.Done+1 },yAC.z,false,()):=by
 have hok:=Geo.may_ok hm
 have l2:x.Log<=512:=hok.l2
 have n1:1<=x.Nodes:=hok.n1
 unfold yA7 yDe yNT yM5
 rw[hn,yAF (by rfl),yAF (by rfl),yAF (by rfl),yAO (by rfl),(xNI hm h0 h1).2,yAA,yAF (decide_eq_false (by omega)),xQX hc hT h0 (by omega),yAA]
 rfl
theorem xG3(hm:(yAq x).may=true):(n.Op.Kind≠0->yHk L x n=some (ovO n,yAC.z,true,()))/\(n.Op.Kind=0->PrOk x n->yHk L x n=some (prO n 0 4,yAC.z,false,())):=by
 unfold yHk yQg
 refine⟨fun h=>?_,fun h hp=>?_⟩
 ·rw[yAF (beq_eq_false_iff_ne.2 h)];rfl
 ·rw[yAO (beq_iff_eq.2 h),xA7 hm hp (.inl rfl),yAA]
theorem xA8(hm:(yAq x).may=true)(hn:n.At=3)(h0:0<=n.Done)(h1:n.Done<=x.Log){o:yAL}{ov:Bool}(hj:yHk L x n=some (o,yAC.z,ov,())):yA7 L x n noS=some (o,yAC.z,ov,()):=by
 have hok:=Geo.may_ok hm
 have n1:1<=x.Nodes:=hok.n1
 unfold yA7 yDe yNT yM5
 rw[yAF (by rw[hn];rfl),yAF (by rw[hn];rfl),yAF (by rw[hn];rfl),yAO (by rw[hn];rfl)]
 by_cases hlt:n.Done<x.Log
 ·rw[(xNI hm h0 hlt).2,yAA,yAF (decide_eq_false (by omega)),xSs,yAA]
  dsimp only
  rw[yAF (by rfl),Bool.not_false,cond_true]
  have e:({n with Table:=n.Table,Done:=n.Done }:yAL)=n:=rfl
  rw[e,hj];rfl
 ·rw[(xQL hm hlt).2,yAA,yAO (by rfl),hj];rfl
theorem xLd(hm:(yAq x).may=true)(hp:PrOk x n)(hn:n.At=3)(hk:n.Op.Kind=0)(h0:0<=n.Done)(h1:n.Done<=x.Log):yAU L x n noS=some (prO n 0 4,yAC.z,false,()):=by
 have hok:=Geo.may_ok hm
 have n1:1<=x.Nodes:=hok.n1
 obtain⟨q1,q2⟩:=xA2 (L:=L) hm hp (kind:=0) (.inl rfl)
 unfold yAU yCB
 rw[hn,yAF (by rfl),yAF (by rfl),yAF (by rfl),yAF (by rfl),yAF (by rfl),yAO (by rfl)]
 by_cases hlt:n.Done<x.Log
 ·have hl:yC3 L x n.Table n.Done noS=some (n.Table,n.Done,yAc.z,false,0,()):=by
    unfold yC3 yHV
    rw[yXX,yAA]
    rfl
  rw[(xNI hm h0 hlt).1,yAA,yAO (decide_eq_true (by omega)),hl,yAA]
  dsimp only
  rw[yAF (by rfl),cond_false,hk,yAO (by rfl),q1,yAA]
  dsimp only
  rw[q2,yAA,hp.w]
  rfl
 ·rw[(xQL hm hlt).1,yAA,yAF (by rfl),hk,yAO (by rfl),q1,yAA]
  dsimp only
  rw[q2,yAA,hp.w]
  rfl
theorem xLg(hat:n.At=4\/n.At=7){a:yAV}(hw:yBw L x n.P n.Done=some (a,0,())){p:yAH}{t:yAG}{d:Int}{o:Bool}{e:Int}(ht:yCY L x n.P n.Table n.Done got=some (p,t,d,o,e,())):
  (e≠0->yA7 L x n got=some (ovO n,⟨e,noS,false⟩,true,()))/\
  (e=0->o=false->yA7 L x n got=some ({n with Table:=t,Done:=d,P:=p },yAC.z,false,()))/\
  (e=0->o=true->n.At=7->yA7 L x n got=some ({n with Mounted:=false,Slot:=0,Head:=0,Tail:=0,Table:=t,Done:=d,At:=0,P:=yAH.z,St:=yAE.z },yAC.z,true,()))/\
  ∀sl,(e=0->o=true->n.At=4->yGi L t n.Key=some (sl,false,())->yA7 L x n got=some ({n with Table:=t,Done:=d,At:=0,P:=yAH.z,St:=yAE.z },⟨240,noS,false⟩,true,()))/\
   (e=0->o=true->n.At=4->yGi L t n.Key=some (sl,true,())->yA7 L x n got=some ({n with Slot:=sl,Table:=t,Done:=d,At:=5,P:=p },yAC.z,false,())):=by
 have _:=(inferInstance:yFf L)
 have hT:yA7 L x n got=yAB (yGq L x n got) fun r=>some (r.1,r.2.1,r.2.2.1,()):=by
  unfold yA7 yDe
  rcases hat with e | e <;> rw[e] <;> rfl
 rw[hT]
 unfold yGq yJg
 rw[hw,yAA]
 dsimp only
 rw[show((0:Int) !=0)=false from rfl,cond_false,ht,yAA]
 dsimp only
 refine⟨fun h=>?_,fun h ho=>?_,fun h ho h7=>?_,fun sl=>⟨fun h ho h4 hs=>?_,fun h ho h4 hs=>?_⟩⟩
 ·rw[yAO (bne_iff_ne.2 h)];rfl
 ·subst h ho;rfl
 ·subst h ho;rw[h7];rfl
 ·subst h ho
  rw[h4,hs];rfl
 ·subst h ho
  rw[h4,hs];rfl
theorem xPO(hat:n.At=4\/n.At=7){a:yAV}(hw:yBW L x n.P n.Done=some (a,0,())){p:yAH}{t:yAG}{d:Int}{o:Bool}{e:Int}(ht:yB2 L x n.P n.Table n.Done got=some (p,t,d,o,e,())):
  (e≠0->yAU L x n got=some (ovO n,⟨e,noS,false⟩,true,()))/\
  (e=0->o=false->yAU L x n got=some ({n with Table:=t,Done:=d,P:=p },yAC.z,false,()))/\
  (e=0->o=true->n.At=7->yAU L x n got=some ({n with Mounted:=false,Slot:=0,Head:=0,Tail:=0,Table:=t,Done:=d,At:=0,P:=yAH.z,St:=yAE.z },yAC.z,true,()))/\
  ∀sl,(e=0->o=true->n.At=4->yEC L t n.Key=some (sl,false,())->yAU L x n got=some ({n with Table:=t,Done:=d,At:=0,P:=yAH.z,St:=yAE.z },⟨240,noS,false⟩,true,()))/\
   (e=0->o=true->n.At=4->yEC L t n.Key=some (sl,true,())->yAU L x n got=some ({n with Slot:=sl,Table:=t,Done:=d,At:=5,P:=p },yAC.z,false,())):=by
 have _:=(inferInstance:yFf L)
 have hTe:e≠0->yAU L x n got=some (ovO n,⟨e,noS,false⟩,true,()):=fun h=>by
  unfold yAU yCB
  rw[hw,yAA,yAA,ht,yAA,yAA]
  dsimp only
  rw[yAF (beq_eq_false_iff_ne.2 h),yAF (beq_eq_false_iff_ne.2 h)]
  rcases hat with e | e <;> rw[e] <;> rfl
 refine⟨hTe,fun h ho=>?_,fun h ho h7=>?_,fun sl=>⟨fun h ho h4 hs=>?_,fun h ho h4 hs=>?_⟩⟩
 ·subst h ho;exact xOO hat hw ht
 ·subst h ho;exact take_left h7 hw ht
 ·subst h ho;exact xON h4 hw ht hs
 ·subst h ho;exact xOQ h4 hw ht hs
theorem xDi(hat:n.At=4\/n.At=7){a:yAV}(hw:yBW L x n.P n.Done=some (a,150,())):yBP L x n=some yAV.z/\yAU L x n got=some (ovO n,⟨150,noS,false⟩,true,()):=by
 have _:=(inferInstance:yFf L)
 unfold yBP yDY yAU yCB
 rw[hw]
 rcases hat with e | e <;> rw[e] <;> exact⟨rfl,rfl⟩
theorem yYm(hat:n.At=4\/n.At=7){a:yAV}(hw:yBw L x n.P n.Done=some (a,150,())):yB6 L x n=some yAV.z/\yA7 L x n got=some (ovO n,⟨150,noS,false⟩,true,()):=by
 have _:=(inferInstance:yFf L)
 unfold yB6 yEX yA7 yDe yGq yJg
 rw[hw]
 rcases hat with e | e <;> rw[e] <;> exact⟨rfl,rfl⟩
theorem xLh(hat:n.At=4\/n.At=7){a:yAV}(hw:yBw L x n.P n.Done=some (a,0,())):yB6 L x n=some a:=by
 have _:=(inferInstance:yFf L)
 unfold yB6 yEX
 rw[hw]
 rcases hat with e | e <;> rw[e] <;> rfl
theorem xRS(hm:(yAq x).may=true)(hat:n.At=5)(h0:0<=n.Slot)(h1:n.Slot<x.Slots)(g2:0<=n.Slot*(1+x.Journal)):yB6 L x n=some ⟨1,hdA x+n.Slot*(1+x.Journal),noS,0⟩:=by
 have _:=(inferInstance:yFf L)
 have hok:=Geo.may_ok hm
 have n1:1<=x.Nodes:=hok.n1
 have l1:8*x.Slots<=x.Log:=hok.l1
 have hH:yDI L x n.Slot=some (hdA x+n.Slot*(1+x.Journal)):=by
  rw[xKf]
  unfold Geo.headS
  rw[if_pos ⟨hm,h0,h1⟩];rfl
 unfold yB6 yEX
 rw[hat,yAF (by rfl),yAF (by rfl),yAF (by rfl),yAF (by rfl),yAF (by rfl),yAF (by rfl),yAO (by rfl),hH,yAA,yAO (decide_eq_true (by unfold hdA;omega))]
theorem xG4(hat:n.At=5){xh:Bs}(h:yH3 2 [] [6] [0]=(xh,0))(hl:xh.length<=512):yA7 L x n (mkS xh)=some ({n with Mounted:=true,Head:=0,Tail:=0,At:=0,P:=yAH.z,St:=yAE.z },yAC.z,true,()):=by
 unfold yA7 yDe
 rw[hat,yAF (by rfl),yAF (by rfl),yAF (by rfl),yAF (by rfl),yAF (by rfl),yAF (by rfl),yAO (by rfl),xSu h hl,yAA]
 rfl
end
inductive At_ (x:yAJ) (N k:Nat) (n:yAL):Prop
 | reg (h:n.At=0) (hk:n.Key=0)
 | look (h:n.At=1\/n.At=2\/n.At=3) (hk:n.Key≠0)
 | px (h:n.At=4\/n.At=7) (hk:n.Key≠0) (hp:PxOk x N k n.P n.Done)
 | head (h:n.At=5) (hk:n.Key≠0) (h0:0<=n.Slot) (h1:n.Slot<x.Slots)
structure NdOk (x:yAJ) (N k:Nat) (key:Int) (n:yAL) (m:Int):Prop where
 num:n.Num=k
 key_:n.Key=key
 rest:n.Pend= []/\n.Txn=yQE.z/\n.Watch= []/\n.Giving= []/\n.Pu=yCx.z/\n.St=yAE.z/\n.R=yBx.z/\n.F=yCO.z
 s0:0<=n.Serial
 s1:n.Serial<=m
 mo:n.Key=0->n.Mounted=false
 tab0:n.Key=0->n.Table=yAG.z
 tab:n.Key≠0->xO7 n.Key/\n.Key%16=k/\xId x n.Table n.Done/\0<=n.Done/\n.Done<=x.Log
 at_:n.Busy=true->At_ x N k n
section
variable {L:Nat} [yFf L] {x:yAJ} {N k:Nat} {xb xh:Bs} {s:List ByteArray} {n:yAL} {key m:Int}
theorem NdOk.pr(h:NdOk x N k key n m)(hx:x.Nodes=N)(hk:k<N)(hm:m<=1000)(hz:n.Key≠0):PrOk x n:=
 ⟨by rw[h.num];omega,by rw[h.num];omega,(h.tab hz).1,by rw[h.num];exact(h.tab hz).2.1,h.s0,by have:=h.s1;omega⟩
theorem PxOk.new{d:Int}{kind:Int}(h:PrOk x n)(hk:kind=0\/kind=1)(hn:n.Num=k):PxOk x N k ⟨n.Num,mkS (yKk (cP kind n)),0,0,yAp.z,yAP.z⟩ d:=
 ⟨hn,⟨_,h.may hk,rfl⟩,Int.le_refl 0,by dsimp only;omega,fun q=>absurd q (by dsimp only;omega),fun q=>absurd q (by dsimp only;omega),fun q=>absurd q (by dsimp only;omega),fun q=>absurd q (by dsimp only;omega),fun q=>absurd q (by dsimp only;omega)⟩
theorem NdOk.over(h:NdOk x N k key n m):NdOk x N k key {ovO n with Busy:=false } (m+1):=
 ⟨h.num,h.key_,⟨h.rest.1,h.rest.2.1,h.rest.2.2.1,h.rest.2.2.2.1,h.rest.2.2.2.2.1,rfl,h.rest.2.2.2.2.2.2⟩,h.s0,by have:=h.s1;show n.Serial<=_;omega,h.mo,h.tab0,h.tab,fun q=>absurd (show false=true from q) (by decide)⟩
theorem NdOk.prop(h:NdOk x N k key n m)(hx:x.Nodes=N)(hk:k<N)(hm:m<=1000)(hz:n.Key≠0){kind a:Int}(ho:kind=0\/kind=1)(ha:a=4\/a=7):NdOk x N k key {prO n kind a with Busy:=true } (m+1):=
 ⟨h.num,h.key_,h.rest,by have:=h.s0;show 0<=n.Serial+1;omega,by have:=h.s1;show n.Serial+1<=_;omega,h.mo,h.tab0,h.tab,fun _=> .px ha hz (PxOk.new (h.pr hx hk hm hz) ho h.num)⟩
theorem xPI(hx:(yAq x).may=true)(hN:x.Nodes=N)(hk:k<N)(hm:m<=1000)(h0:NdOk x N k key n m)(op:xB2):
  ∃o a over,yDO L x {n with Busy:=true,Op:=op }=some (o,a,over,())/\yEx L x {n with Busy:=true,Op:=op }=some (o,a,over,())/\NdOk x N k key {o with Busy:= !over } (m+1):=by
 have h:NdOk x N k key {n with Busy:=false,Op:=op } m:=⟨h0.num,h0.key_,h0.rest,h0.s0,h0.s1,h0.mo,h0.tab0,h0.tab,fun q=>absurd (show false=true from q) (by decide)⟩
 obtain⟨o,a,over,h1,h2,h3⟩:=xK3 (L:=L) (n:={n with Busy:=true,Op:=op }) hx (by show 0<=n.Num;rw[h0.num];omega) (by show n.Num<_;rw[h0.num];omega) h.rest.1 h.rest.2.1 (fun q=>have z:=h.pr hN hk hm q;⟨z.n0,z.n1,z.key,z.of,z.s0,z.s1⟩) h.mo
 refine⟨o,a,over,h1,h2,?_⟩
 cases h3 with
 | over=>exact h.over
 | reg hz ho=>exact⟨h.num,h.key_,h.rest,h.s0,by have:=h0.s1;show n.Serial<=_;omega,h.mo,h.tab0,h.tab,fun _=> .reg rfl hz⟩
 | mount hp ho=>exact h.prop hN hk hm (by have:=hp.key.1;show n.Key≠0;intro e;rw[show({n with Busy:=true,Op:=op }:yAL).Key=n.Key from rfl] at this;omega) (.inl rfl) (.inl rfl)
 | leave hp ho=>exact h.prop hN hk hm (by have:=hp.key.1;show n.Key≠0;intro e;rw[show({n with Busy:=true,Op:=op }:yAL).Key=n.Key from rfl] at this;omega) (.inr rfl) (.inr rfl)
def xMS(L:Nat)(x:yAJ)(N k:Nat)(key:Int)(n:yAL)(m:Int)(got:ByteArray):Prop:=
 ∃o a over,yAU L x n got=some (o,a,over,())/\yA7 L x n got=some (o,a,over,())/\NdOk x N k key {o with Busy:= !over } (m+1)
variable {c:List (List V)} {ks:List Int} {nx:Int}
def xTM(L:Nat)(x:yAJ)(N k:Nat)(xb xh:Bs)(s:List ByteArray)(c:List (List V))(ks:List Int)(nx:Int)(n:yAL)(m:Int):Prop:=
 ∃a,yBP L x n=some a/\yB6 L x n=some a/\(((a.Kind !=0)=false/\xMS L x N k (ks.getD k 0) n m noS)\/
  ((a.Kind !=0)=true/\∃s' c' ks' nx' got,yDV L (dvK s c ks nx) k a=some (dvK s' c' ks' nx',got,0,())/\Sec x N xb xh s'/\CE c' N/\KeysOk ks' N nx'/\nx'<=nx+1/\(∀j:Nat,j≠k->ks'.getD j 0=ks.getD j 0)/\xMS L x N k (ks'.getD k 0) n m got))
theorem xRf{t:yAG}{d:Int}(ht:xId x t d)(hx:(yAq x).may=true){q:Int}(hq:1<=q):∃sl b,yEC L t q=some (sl,b,())/\yGi L t q=some (sl,b,())/\(b=true->0<=sl/\sl<x.Slots):=by
 have hL:200000<L:=yFf.h
 have hok:=Geo.may_ok hx
 have s1:1<=x.Slots:=hok.s1
 have s2:x.Slots<=x.Nodes:=hok.s2
 have n2:x.Nodes<=16:=hok.n2
 obtain⟨cs,rfl,-⟩:=ht
 have hs:(bh6 x cs).s.length=x.Slots.toNat:=(xOm x cs).1
 refine⟨_,_,xKt (s:=(bh6 x cs).s) hL (by omega) rfl hq,xFc (s:=(bh6 x cs).s) hL (by omega) rfl q,fun h=>?_⟩
 obtain⟨i,hi,e⟩:=xFk h
 rw[e]
 dsimp only
 omega
theorem xSb(h:Sec x N xb xh s)(hc:CE c N)(hks:KeysOk ks N nx)(hnx:nx<=1000)(hk:k<N)(hm:m<=1000)(hxm:yH3 1 [] xGZ (xIv (yAq x))=(xb,0))(hxl:xb.length<=512)(hh:yH3 2 [] [6] [0]=(xh,0))(hhl:xh.length<=512)
  (ho:NdOk x N k (ks.getD k 0) n m) (hb:n.Busy=true):xTM L x N k xb xh s c ks nx n m:=by
 have hL:200000<L:=yFf.h
 obtain⟨n1,n2,l8,l512,s1,s16,sl,hl⟩:=h.g.bd
 have hN:=h.g.n
 have hx:=h.g.may
 have hn0:=hks.n0
 have hkl:k<ks.length:=by rw[hks.len];exact hk
 have hkg:ks.getD k 0=ks[k]:=by rw[List.getD_eq_getElem?_getD,List.getElem?_eq_getElem hkl];rfl
 have hq:n.Key≠0->∀q:k<ks.length,1<=ks[k]:=fun hz q=>by
  have:=(ho.tab hz).1.1
  rw[ho.key_,hkg] at this
  omega
 have hnu0:0<=n.Num:=by rw[ho.num];omega
 have hnu1:n.Num<x.Nodes:=by rw[ho.num];omega
 cases ho.at_ hb with
 | reg hat hz=>
   have r0:=xRX (L:=L) h.g.ok hc hks n1 n2 hL hk (by omega)
   have hT1:=xRn (L:=L) (x:=x) (by omega) s16
   have hT2:=xSc (L:=L) (x:=x) (by omega) s16
   rw[←xQr] at hT2
   have t1:=xOP (L:=L) (x:=x) (n:=n) (key:=16*nx+(k:Int)) yQO hT1 hat (by omega) (by omega) (by rw[ho.num];omega)
   have t2:=xJI (L:=L) (x:=x) (n:=n) (key:=16*nx+(k:Int)) hT2 hat (by omega) (by omega) (by rw[ho.num];omega)
   have hset:(ks.set k (16*nx+(k:Int))).getD k 0=16*nx+(k:Int):=by rw[List.getD_eq_getElem?_getD,List.getElem?_set_self hkl];rfl
   refine⟨_,xP1 hat,by unfold yB6 yEX;rw[hat];rfl,.inr ⟨rfl,_,_,_,_,_,r0,h,xSB N k,hks.set hk n2 (by omega),Int.le_refl _,fun j hj=>by rw[List.getD_eq_getElem?_getD,List.getElem?_set_ne (by omega),←List.getD_eq_getElem?_getD],_,_,_,t1,t2,?_⟩⟩
   rw[hset]
   exact⟨ho.num,rfl,ho.rest,Int.le_refl 0,by have:=ho.s0;have:=ho.s1;show(0:Int)<=_;omega,fun q=>absurd (show 16*nx+(k:Int)=0 from q) (by omega),fun q=>absurd (show 16*nx+(k:Int)=0 from q) (by omega),fun _=>⟨⟨by show 16<=16*nx+(k:Int);omega,by show 16*nx+(k:Int)<=_;omega⟩,by show(16*nx+(k:Int))%16=_;omega,⟨[],rfl,rfl⟩,Int.le_refl 0,by show 0<=x.Log;omega⟩,fun _=> .look (.inl rfl) (by show 16*nx+(k:Int)≠0;omega)⟩
 | look hat hz=>
   obtain⟨g1,g2,g3,g4,g5⟩:=ho.tab hz
   rcases hat with hat | hat | hat
   ·have r1:=yZ9 (L:=L) h.g.ok hc hks n1 n2 hL (n:=(k:Int)) (by omega) (by omega) (fun q=>hq hz (by omega)) (k:=0) (by omega) (by omega)
    rw[show(0:Int).toNat=0 from rfl,h.top] at r1
    refine⟨_,xMO hat,by unfold yB6 yEX;rw[hat];rfl,.inr ⟨rfl,_,_,_,_,_,r1,h,yND N,hks,by omega,fun _ _=>rfl,_,_,_,xMA hL hx hxm hxl hat,xEZ hx hxm hxl hat,?_⟩⟩
    exact⟨ho.num,ho.key_,ho.rest,ho.s0,by have:=ho.s1;show n.Serial<=_;omega,ho.mo,ho.tab0,ho.tab,fun _=> .look (.inr (.inl rfl)) hz⟩
   ·have hls:=xI5 (key:=n.Key) (by omega) g1.2
    have r2:=xG5 (L:=L) h.g.ok hc hks n1 n2 hL (n:=(k:Int)) (by omega) (by omega) (fun q=>hq hz (by omega)) (k:=1+n.Num) (by omega) (by omega) (b:=mkS (lsB n.Key)) (by rw[yS3];exact hls.2)
    rw[show(1+n.Num).toNat=1+k by rw[ho.num];omega] at r2
    refine⟨_,xMN hL hx hat (by omega) g1.2 hnu0 hnu1,xEa hx hat (by omega) g1.2 hnu0 hnu1,.inr ⟨rfl,_,_,_,_,_,r2,h.lease hk (by rw[yS3];exact hls.2),yND N,hks,by omega,fun _ _=>rfl,_,_,_,xL9 hat noS,xEY hat,?_⟩⟩
    exact⟨ho.num,ho.key_,ho.rest,ho.s0,by have:=ho.s1;show n.Serial<=_;omega,ho.mo,ho.tab0,ho.tab,fun _=> .look (.inr (.inr rfl)) hz⟩
   ·have hW:∀a,yGk L x n.Done=some a->yB6 L x n=some a:=fun a e=>by
      unfold yB6 yEX
      rw[hat,yAF (by rfl),yAF (by rfl),yAF (by rfl),yAO (by rfl),e];rfl
    -- behind the last place
    have hend:xMS L x N k (ks.getD k 0) n m noS:=by
     have hp:=ho.pr hN hk hm hz
     by_cases hop:n.Op.Kind=0
     ·exact⟨_,_,_,xLd hx hp hat hop g4 g5,xA8 hx hat g4 g5 ((xG3 hx).2 hop hp),ho.prop hN hk hm hz (.inl rfl) (.inl rfl)⟩
     ·exact⟨_,_,_,xPn hL hx hat hop g4 g5,xA8 hx hat g4 g5 ((xG3 hx).1 hop),ho.over⟩
    by_cases hlt:n.Done<x.Log
    rotate_left
    ·exact⟨_,xOZ hx yQO hat hlt,hW _ (xLf hx hlt),.inl ⟨rfl,hend⟩⟩
    obtain⟨d,hd⟩:=Int.eq_ofNat_of_zero_le g4
    have r3:=yZ9 (L:=L) h.g.ok hc hks n1 n2 hL (n:=(k:Int)) (by omega) (by omega) (fun q=>hq hz (by omega)) (k:=1+2*x.Nodes+n.Done) (by omega) (by omega)
    rw[show(1+2*x.Nodes+n.Done).toNat=1+2*N+d by omega] at r3
    refine⟨_,xMM hx yQO hat g4 hlt,hW _ (xDZ hx g4 hlt),.inr ⟨rfl,_,_,_,_,_,r3,h,yND N,hks,by omega,fun _ _=>rfl,?_⟩⟩
    rcases h.lg d (by omega) with e | ⟨cm,hcm,e⟩
    ·rw[e];exact hend
    ·rw[e]
     obtain⟨t',y1,y2,y3⟩:=g3.ap (L:=L) hx (by omega) hcm
     refine⟨_,_,_,xL8 hL hx hat g4 hlt hcm y1,xEX hx hat g4 hlt hcm y2,?_⟩
     exact⟨ho.num,ho.key_,ho.rest,ho.s0,by have:=ho.s1;show n.Serial<=_;omega,ho.mo,fun q=>absurd q hz,fun _=>⟨g1,g2,y3,by show 0<=n.Done+1;omega,by show n.Done+1<=_;omega⟩,fun _=> .look (.inr (.inr hat)) hz⟩
 | px hat hz hp=>
   obtain⟨g1,g2,g3,g4,g5⟩:=ho.tab hz
   rcases xSo (L:=L) h hk hp g3 g4 g5 with ⟨w1,w2⟩ | ⟨a,s',got,w1,w2,hrf,hs',p',t',d',ov,e,y1,y2,y3⟩
   ·exact⟨_,(xDi (got:=noS) hat w1).1,(yYm (got:=noS) hat w2).1,.inl ⟨rfl,_,_,_,(xDi hat w1).2,(yYm hat w2).2,ho.over⟩⟩
   obtain⟨d1,d2,d3,d4⟩:=doK (L:=L) (nx:=nx) h.g.ok hc hks n1 n2 hk (hq hz) hrf
   refine⟨a,xOa hat w1,xLh hat w2,.inr ⟨d1,s',_,ks,nx,got,d4,hs',yND N,hks,by omega,fun _ _=>rfl,?_⟩⟩
   obtain⟨a1,a2,a3,a4⟩:=xPO hat w1 y1
   obtain⟨b1,b2,b3,b4⟩:=xLg hat w2 y2
   by_cases he:e=0
   rotate_left
   ·exact⟨_,_,_,a1 he,b1 he,ho.over⟩
   obtain⟨z1,z2,z3,z4⟩:=y3 he
   cases ov with
   | false=>
     exact⟨_,_,_,a2 he rfl,b2 he rfl,ho.num,ho.key_,ho.rest,ho.s0,by have:=ho.s1;show n.Serial<=_;omega,ho.mo,fun q=>absurd q hz,fun _=>⟨g1,g2,z1,z2,z3⟩,fun _=> .px hat hz z4⟩
   | true=>
     rcases hat with hat | hat
     ·obtain⟨sl,b,q1,q2,q3⟩:=xRf (L:=L) z1 hx (q:=n.Key) (by have:=g1.1;omega)
      cases b with
      | false=>exact⟨_,_,_,(a4 sl).1 he rfl hat q1,(b4 sl).1 he rfl hat q2,ho.num,ho.key_,⟨ho.rest.1,ho.rest.2.1,ho.rest.2.2.1,ho.rest.2.2.2.1,ho.rest.2.2.2.2.1,rfl,ho.rest.2.2.2.2.2.2⟩,ho.s0,by have:=ho.s1;show n.Serial<=_;omega,ho.mo,fun q=>absurd q hz,fun _=>⟨g1,g2,z1,z2,z3⟩,fun q=>absurd (show false=true from q) (by decide)⟩
      | true=>exact⟨_,_,_,(a4 sl).2 he rfl hat q1,(b4 sl).2 he rfl hat q2,ho.num,ho.key_,ho.rest,ho.s0,by have:=ho.s1;show n.Serial<=_;omega,ho.mo,fun q=>absurd q hz,fun _=>⟨g1,g2,z1,z2,z3⟩,fun _=> .head rfl hz (q3 rfl).1 (q3 rfl).2⟩
     ·exact⟨_,_,_,a3 he rfl hat,b3 he rfl hat,ho.num,ho.key_,⟨ho.rest.1,ho.rest.2.1,ho.rest.2.2.1,ho.rest.2.2.2.1,ho.rest.2.2.2.2.1,rfl,ho.rest.2.2.2.2.2.2⟩,ho.s0,by have:=ho.s1;show n.Serial<=_;omega,fun _=>rfl,fun q=>absurd q hz,fun _=>⟨g1,g2,z1,z2,z3⟩,fun q=>absurd (show false=true from q) (by decide)⟩
 | head hat hz h0 h1=>
   obtain⟨g1,g2,g3,g4,g5⟩:=ho.tab hz
   obtain⟨i,hi⟩:=Int.eq_ofNat_of_zero_le h0
   have hx2:=h.hd i (by omega)
   rw[←hi] at hx2
   obtain⟨f1,f2,f3⟩:=xO2 (L:=L) (by omega) hx h0 h1
   have hok:=Geo.may_ok hx
   have hlen:=h.g.len
   have hat2:(yAq x).atD=hdA x+x.Slots*(1+x.Journal):=rfl
   have hbd:=yUf hok
   have hR:yPC L (hdA x+n.Slot*(1+x.Journal))=some ⟨1,hdA x+n.Slot*(1+x.Journal),noS,0⟩:=by
    unfold yPC yRo
    rw[yAF (decide_eq_false (by unfold hdA;omega))]
   have r4:=yZ9 (L:=L) h.g.ok hc hks n1 n2 hL (n:=(k:Int)) (by omega) (by omega) (fun q=>hq hz (by omega)) (k:=hdA x+n.Slot*(1+x.Journal)) (by unfold hdA;omega) (by omega)
   rw[hx2] at r4
   refine⟨⟨1,hdA x+n.Slot*(1+x.Journal),noS,0⟩,?_,xRS hx hat h0 h1 f2,.inr ⟨rfl,_,_,_,_,_,r4,h,yND N,hks,by omega,fun _ _=>rfl,_,_,_,?_,xG4 hat hh hhl,ho.num,ho.key_,⟨ho.rest.1,ho.rest.2.1,ho.rest.2.2.1,ho.rest.2.2.2.1,ho.rest.2.2.2.2.1,rfl,ho.rest.2.2.2.2.2.2⟩,ho.s0,by have:=ho.s1;show n.Serial<=_;omega,fun q=>absurd q hz,ho.tab0,ho.tab,fun q=>absurd (show false=true from q) (by decide)⟩⟩
   ·unfold yBP yDY
    rw[hat,yAF (by rfl),yAF (by rfl),yAF (by rfl),yAF (by rfl),yAF (by rfl),yAF (by rfl),yAO (by rfl),f1,yAA,hR,yAA]
   ·unfold yAU yCB
    rw[hat,yAF (by rfl),yAF (by rfl),yAF (by rfl),yAF (by rfl),yAF (by rfl),yAF (by rfl),yAF (by rfl),yAO (by rfl),xI0 hL hh hhl,yAA]
    rfl
end
theorem yZ2{g:Geo}(hm:g.may=true){i:Int}(h0:0<=i)(h1:i<g.slots):g.headS i=g.atJ+i*(1+g.journal)/\g.atJ<=g.headS i/\g.headS i+1+g.journal<=g.atD:=by
 have h:=Geo.may_ok hm
 have p1:=h.p1
 have j1:=h.j1
 have e:(i+1)*(1+g.journal)<=g.slots*(1+g.journal):=Int.mul_le_mul_of_nonneg_right (by omega) (by omega)
 rw[Int.add_mul,Int.one_mul] at e
 have e0:0<=i*(1+g.journal):=Int.mul_nonneg h0 (by omega)
 have hh:g.headS i=g.atJ+i*(1+g.journal):=by
  unfold Geo.headS Geo.atJ
  rw[if_pos ⟨hm,h0,h1⟩]
 refine⟨hh,by omega,?_⟩
 rw[hh]
 unfold Geo.atJ Geo.atD
 omega
theorem xDR{g:Geo}(hm:g.may=true)(top hd:ByteArray){i:Nat}:∀j:Nat,i<j->(j:Int)<=g.slots->(heads g top hd j).getD (g.headS i).toNat noS=hd
 | 0,hi,_=>absurd hi (Nat.not_lt_zero _)
 | j+1,hi,hj=>by
   have h:=Geo.may_ok hm
   have hbd:=yUf h
   have hA:0<=g.atJ:=by unfold Geo.atJ;have:=h.n1;have:=h.l1;have:=h.s1;omega
   obtain⟨e1,e2,e3⟩:=yZ2 hm (i:=(i:Int)) (by omega) (by omega)
   obtain⟨f1,f2,f3⟩:=yZ2 hm (i:=(j:Int)) (by omega) (by omega)
   have j0:=h.j1
   have p0:=h.p1
   unfold heads
   by_cases e:i=j
   ·subst e
    rw[List.getD_eq_getElem?_getD,List.getElem?_set_self (by rw[yPB];omega)];rfl
   ·have hlt:((i:Int)+1)*(1+g.journal)<=(j:Int)*(1+g.journal):=Int.mul_le_mul_of_nonneg_right (by omega) (by omega)
    rw[Int.add_mul,Int.one_mul] at hlt
    rw[List.getD_eq_getElem?_getD,List.getElem?_set_ne (by omega),←List.getD_eq_getElem?_getD]
    exact xDR hm top hd j (by omega) (by omega)
theorem xDQ{g:Geo}(hm:g.may=true)(top hd:ByteArray){k:Nat}(hk:g.atD<=k):∀j:Nat,(j:Int)<=g.slots->(heads g top hd j).getD k noS=noS
 | 0,_=>by
   have h:=Geo.may_ok hm
   have hA:0<g.atD:=by unfold Geo.atD;have:=h.n1;have:=h.l1;have:=h.s1;have:=h.sj;omega
   unfold heads
   rw[List.getD_eq_getElem?_getD,List.getElem?_set_ne (by omega),List.getElem?_replicate]
   split <;> rfl
 | j+1,hj=>by
   have h:=Geo.may_ok hm
   have j0:=h.j1
   have p0:=h.p1
   obtain⟨f1,f2,f3⟩:=yZ2 hm (i:=(j:Int)) (by omega) (by omega)
   have hA:0<=g.atJ:=by unfold Geo.atJ;have:=h.n1;have:=h.l1;have:=h.s1;omega
   unfold heads
   rw[List.getD_eq_getElem?_getD,List.getElem?_set_ne (by omega),←List.getD_eq_getElem?_getD]
   exact xDQ hm top hd hk j (by omega)
theorem xRG{L:Nat}{x:yAJ}(hm:(yAq x).may=true)(hL:200000<L){N:Nat}(hN:x.Nodes=N):∃xb xh:Bs,∃s,yH3 1 [] xGZ (xIv (yAq x))=(xb,0)/\xb.length<=512/\yH3 2 [] [6] [0]=(xh,0)/\xh.length<=512/\s.getD 0 noS=mkS xb/\First (yAq x) s/\
  (∀i:Int,0<=i->i<x.Slots->s.getD (1+2*x.Nodes+x.Log+i*(1+x.Journal)).toNat noS=mkS xh)/\(∀k:Nat,(yAq x).atD<=k->s.getD k noS=noS)/\
  yH0 L x=some (s.map txV,List.replicate N [V.sl [] true],(List.replicate N (0:Int)).map inV,1,[],true,()):=by
 have hok:=Geo.may_ok hm
 obtain⟨xb,xh,hxb,hxh,h1,h2,hF⟩:=xKx (L:=L) hm hL
 have hbd:=yUf hok
 have hat:=hok.sj
 have hlen:=yPB (yAq x) (mkS xb) (mkS xh) x.Slots.toNat
 have hA:0<(yAq x).atD:=by unfold Geo.atD;have:=hok.n1;have:=hok.l1;have:=hok.s1;omega
 have n1:1<=x.Nodes:=hok.n1
 have n2:x.Nodes<=16:=hok.n2
 have s1:1<=x.Slots:=hok.s1
 have hsl:(x.Slots.toNat:Int)<=(yAq x).slots:=by show(x.Slots.toNat:Int)<=x.Slots;omega
 refine⟨xb,xh,heads (yAq x) (mkS xb) (mkS xh) x.Slots.toNat,hxb,h1,hxh,h2,xGd hm _ _ _ hsl,?_⟩
 have hdd:∀k:Nat,(yAq x).atD<=k->(heads (yAq x) (mkS xb) (mkS xh) x.Slots.toNat).getD k noS=noS:=fun k hk=>xDQ hm _ _ hk _ hsl
 have hhd:∀i:Int,0<=i->i<x.Slots->(heads (yAq x) (mkS xb) (mkS xh) x.Slots.toNat).getD (1+2*x.Nodes+x.Log+i*(1+x.Journal)).toNat noS=mkS xh:=fun i i0 i1=>by
  obtain⟨j,rfl⟩:=Int.eq_ofNat_of_zero_le i0
  have:=xDR hm (mkS xb) (mkS xh) (i:=j) x.Slots.toNat (by omega) hsl
  rw[(yZ2 hm (i:=(j:Int)) i0 i1).1] at this
  exact this
 generalize hs:heads (yAq x) (mkS xb) (mkS xh) x.Slots.toNat=s at*
 have hS:SecOk s:=⟨by omega,by omega,by rw[←hs];exact xLQ (by rw[yS3];exact h1) (by rw[yS3];exact h2) _⟩
 refine⟨⟨hS,by omega,fun k k1 k2=>by rw[←hs];exact xAp hok (mkS xb) (mkS xh) k1 k2 _⟩,hhd,hdd,?_⟩
 have hc:CE (List.replicate N [V.sl [] true]) N:=⟨List.length_replicate ..,fun r hr=>⟨true,List.eq_of_mem_replicate hr⟩⟩
 unfold yH0 yTS
 rw[hF,yAA,hN,xTr hS (by omega) (by omega) hL,yAA]
 dsimp only
 rw[yAO (by rfl),yHo rfl (yQ2 _),yHo rfl hc.nm,yHo rfl (yLd _),yHo rfl (by rfl)]
 rfl
abbrev nV:yAL->List V:=yAL.cs
def xTB(k:Int):List V:= [V.int .i64 k,V.int .i64 0,V.bool true,V.int .i64 0,V.int .i64 0,V.int .i64 0,V.int .i64 0,V.bool false,V.int .i64 0,V.int .i64 0,V.int .i64 0,V.sl ([]) true,V.sl ([]) true,V.sl ([]) true,V.int .i64 0,V.int .i64 0,V.bool false,V.sl ([]) true,V.sl ([]) true,V.sl ([]) true,V.sl ([]) true,V.bool false,V.bool false,V.int .i8 0,V.int .i64 0,V.int .i64 0,V.int .i8 0,V.int .i64 0,V.str noS,V.int .i64 0,V.int .i64 0,V.int .i8 0,V.int .i64 0,V.str noS,V.int .i8 0,V.int .i64 0,V.int .i64 0,V.int .i64 0,V.int .i64 0,V.str noS,V.int .i64 0,V.int .i64 0,V.int .i64 0,V.str noS,V.int .i64 0,V.bool false,V.bool false,V.sl ([]) true,V.int .i64 0,V.sl ([]) true,V.int .i64 0,V.int .i64 0,V.int .i8 0,V.int .i64 0,V.int .i64 0,V.int .i8 0,V.int .i64 0,V.sl ([]) true,V.sl ([]) true,V.int .i64 0,V.int .i64 0,V.int .i64 0,V.int .i64 0,V.sl ([]) true]
def zNo:List V:= [V.int .i64 0,V.int .i64 0,V.bool false,V.int .i64 0,V.int .i64 0,V.int .i64 0,V.int .i64 0,V.bool false,V.int .i64 0,V.int .i64 0,V.int .i64 0,V.sl ([]) true,V.sl ([]) true,V.sl ([]) true,V.int .i64 0,V.int .i64 0,V.bool false,V.sl ([]) true,V.sl ([]) true,V.sl ([]) true,V.sl ([]) true,V.bool false,V.bool false,V.int .i8 0,V.int .i64 0,V.int .i64 0,V.int .i8 0,V.int .i64 0,V.str noS,V.int .i64 0,V.int .i64 0,V.int .i8 0,V.int .i64 0,V.str noS,V.int .i8 0,V.int .i64 0,V.int .i64 0,V.int .i64 0,V.int .i64 0,V.str noS,V.int .i64 0,V.int .i64 0,V.int .i64 0,V.str noS,V.int .i64 0,V.bool false,V.bool false,V.sl ([]) true,V.int .i64 0,V.sl ([]) true,V.int .i64 0,V.int .i64 0,V.int .i8 0,V.int .i64 0,V.int .i64 0,V.int .i8 0,V.int .i64 0,V.sl ([]) true,V.sl ([]) true,V.int .i64 0,V.int .i64 0,V.int .i64 0,V.int .i64 0,V.sl ([]) true]
def eN(q:yAL×Bool):List V:=match q.2 with
 | true=>xTB q.1.Num
 | false=>nV q.1
def Fr_(q:yAL×Bool):Prop:=q.2=true->∃k:Int,q.1=nd k
theorem xSH(b:yAL×Bool):(eN b).all (nmB 20)=true:=by
 obtain⟨n,f⟩:=b
 cases f <;> rfl
theorem xSI(b:yAL×Bool):yW9 xI3 [eN b] 0 0=true:=by
 obtain⟨n,f⟩:=b
 cases f <;> rfl
theorem xQF(b:yAL×Bool):(eN b).length=64:=by
 obtain⟨n,f⟩:=b
 cases f <;> rfl
section
variable {l:List (yAL×Bool)} {i:Nat}
theorem nAt(h:i<l.length)(hf:Fr_ l[i]):yAL.at (l.map eN) i 0=l[i].1:=by
 have e1:∀j,aI (l.map eN) i j=aI [eN l[i]] 0 j:=fun j=>congrArg asI (xDG h)
 have e2:∀j,aS (l.map eN) i j=aS [eN l[i]] 0 j:=fun j=>congrArg asS (xDG h)
 have e3:∀j,aB (l.map eN) i j=aB [eN l[i]] 0 j:=fun j=>congrArg asB (xDG h)
 have e4:∀j,aR (l.map eN) i j=aR [eN l[i]] 0 j:=fun j=>congrArg asR (xDG h)
 unfold yAL.at
 simp only[e1,e2,e3,e4]
 generalize l[i]=q at*
 obtain⟨n,b⟩:=q
 cases b with
 | false=>rfl
 | true=>
   obtain⟨k,e⟩:=hf rfl
   dsimp only at e
   subst e
   rfl
theorem xTc(h:i<l.length)(hf:Fr_ l[i]):aB (l.map eN) i 22=l[i].1.Busy:=congrArg yAL.Busy (nAt h hf)
theorem xTw{w:Nat}(hw:w<l.length)(X:yAL):(l.map eN).set w (((l.map eN).getD w []).take 0++(yAL.cs X++((l.map eN).getD w []).drop 64))=(l.set w (X,false)).map eN:=by
 rw[yE2 (yNJ hw),List.map_set,List.drop_eq_nil_of_le (by rw[xQF];exact Nat.le_refl _),List.append_nil];rfl
end
section
variable {L:Nat} [yFf L] {x:yAJ} {N k:Nat} {key m:Int} {o:yAL} {b:Bool}
theorem xN8(h:NdOk x N k key {o with Busy:=b } m)(hx:(yAq x).may=true):yFQ L o o=some true:=by
 have hok:=Geo.may_ok hx
 have s2:x.Slots<=x.Nodes:=hok.s2
 have n2:x.Nodes<=16:=hok.n2
 have l2:x.Log<=512:=hok.l2
 have hT:yOw L o.Table o.Table=some true:=by
  by_cases hz:o.Key=0
  ·rw[show o.Table=(⟨[],[],[]⟩:Tb).t from h.tab0 hz]
   exact xKq (by decide) ⟨rfl,rfl⟩
  ·obtain⟨-,-,⟨cs,e,e2⟩,-,e3⟩:=h.tab hz
   have e:o.Table=(bh6 x cs).t:=e
   have e2:o.Done=cs.length:=e2
   have e3:o.Done<=x.Log:=e3
   rw[e]
   have:=xOm x cs
   exact xKq (by omega) (xOn x cs)
 obtain⟨r1,r2,r3,r4,r5,r6,r7,r8⟩:=h.rest
 obtain⟨num,clock,up,over,key,asked,count,mo,slot,head,tail,tab,done,ser,txn,pend,watch,giv,ga,busy,op,at_,P,pu,st,r,f⟩:=o
 dsimp only at*
 subst r1 r2 r3 r4 r5 r6 r7 r8
 obtain⟨M,rfl⟩:∃M,L=M+1:=⟨L-1,by have:=yQO (L:=L);omega⟩
 have e1:yUa (M+1) [] []=some true:=rfl
 have e2:yOk (M+1) [] []=some true:=rfl
 have e3:ySd (M+1) [] []=some true:=rfl
 have e4:yUZ (M+1) [] []=some true:=rfl
 have e5:ySe (M+1) [] []=some true:=rfl
 have e6:yFP (M+1) [] []=some true:=rfl
 unfold yFQ yUA yUc yUC yUb yT9
 simp only[bne_self_eq_false,cond_false,beq_self_eq_true,Bool.and_self,Bool.not_true,cond_true,hT,yAA,show yQE.z.Writes= [] from rfl,show yCx.z.L= [] from rfl,show yAE.z.Cells= [] from rfl,show yCO.z.Parts= [] from rfl,show yBx.z.L= [] from rfl,show yBx.z.Cells= [] from rfl,e1,e2,e3,e4,e5,e6]
end
abbrev kW:yAx->List V:=yAx.cs
section
variable {L:Nat} [yFf L] {x:yAJ} {N:Nat} {xb xh:Bs}
theorem NdOk.mono{k:Nat}{key m:Int}{n:yAL}(h:NdOk x N k key n m):NdOk x N k key n (m+1):=⟨h.num,h.key_,h.rest,h.s0,by have:=h.s1;omega,h.mo,h.tab0,h.tab,h.at_⟩
structure PlInv (x:yAJ) (N:Nat) (xb xh:Bs) (s:List ByteArray) (c:List (List V)) (ks:List Int) (nx:Int) (ns:List (yAL×Bool)) (i:Nat):Prop where
 sec:Sec x N xb xh s
 ce:CE c N
 kok:KeysOk ks N nx
 nx:nx<=1+i
 len:ns.length=N
 nd:∀k (h:k<ns.length),NdOk x N k (ks.getD k 0) ns[k].1 i/\Fr_ ns[k]
theorem PlInv.upd{s s':List ByteArray}{c c':List (List V)}{ks ks':List Int}{nx nx':Int}{ns:List (yAL×Bool)}{i k:Nat}(h:PlInv x N xb xh s c ks nx ns i)(hk:k<ns.length){o:yAL}(h1:Sec x N xb xh s')(h2:CE c' N)(h3:KeysOk ks' N nx')(h4:nx'<=nx+1)
  (h5:∀j:Nat,j≠k->ks'.getD j 0=ks.getD j 0) (h6:NdOk x N k (ks'.getD k 0) o ((i:Int)+1)):PlInv x N xb xh s' c' ks' nx' (ns.set k (o,false)) (i+1):=by
 refine⟨h1,h2,h3,by have:=h.nx;omega,by rw[List.length_set];exact h.len,fun j hj=>?_⟩
 rw[List.getElem_set]
 by_cases e:k=j
 ·subst e
  rw[if_pos rfl]
  exact⟨h6,fun q=>absurd (show false=true from q) (by decide)⟩
 ·rw[if_neg e,h5 j (by omega)]
  have:=h.nd j (by simpa using hj)
  exact⟨this.1.mono,this.2⟩
abbrev mPf(L:Nat){α:Type}:=yDp (α:=α) (yDO L) (yEx L) (yFQ L) (yB6 L) (yBP L) (yDV L) (yAU L) (yA7 L)
theorem xDo(a:yAC):(!((a.E==a.E)&&((a.Text.toList==a.Text.toList)&&((a.Yes==a.Yes)&&true))))=false:=by
 simp only[beq_self_eq_true,Bool.and_self,Bool.not_true]
theorem xRQ{l:List yAx}{s:List ByteArray}{c:List (List V)}{ks:List Int}{nx:Int}{ns:List (yAL×Bool)}{i:Nat}(hxm:yH3 1 [] xGZ (xIv (yAq x))=(xb,0))(hxl:xb.length<=512)(hh:yH3 2 [] [6] [0]=(xh,0))(hhl:xh.length<=512)
  (h:PlInv x N xb xh s c ks nx ns i) (hl:l.length<=200) (hi:i<l.length):
  ∃s' c' ks' nx' ns',PlInv x N xb xh s' c' ks' nx' ns' (i+1)/\∀kn k0 k1,mPf L (α:=Bool) (l.map kW,x,dvK s c ks nx,ns.map eN,(i:Int),()) kn k0 k1=kn (l.map kW,x,dvK s' c' ks' nx',ns'.map eN,((i+1:Nat):Int),()):=by
 have hL:200000<L:=yFf.h
 obtain⟨n1,n2,l8,l512,s1,s16,sl,hsl⟩:=h.sec.g.bd
 have hN:=h.sec.g.n
 have hx:=h.sec.g.may
 have hN0:decide (x.Nodes=0)=false:=decide_eq_false (by omega)
 have hPk:∀b:yAx,rowIs yAx.ks [kW b] 0=true:=fun b=>rfl
 have hP1:aI (l.map kW) i 1=l[i].Do:=congrArg asI (xDG hi)
 obtain⟨q,hq⟩:∃q,aI (l.map kW) i 0=q:=⟨_,rfl⟩
 obtain⟨k,hk,hkN⟩:∃k:Nat,(w64 ((q.tmod x.Nodes)+x.Nodes)).tmod x.Nodes=k/\k<N:=by
  have e1: -x.Nodes<q.tmod x.Nodes/\q.tmod x.Nodes<x.Nodes:=by
   have a1:=Int.tmod_lt_of_pos q (show 0<x.Nodes by omega)
   have a2:=Int.lt_tmod_of_pos q (show 0<x.Nodes by omega)
   exact⟨a2,a1⟩
  rw[yAh (by omega) (by omega),Int.tmod_eq_emod_of_nonneg (by omega)]
  have a1:=Int.emod_nonneg (q.tmod x.Nodes+x.Nodes) (show x.Nodes≠0 by omega)
  have a2:=Int.emod_lt_of_pos (q.tmod x.Nodes+x.Nodes) (show 0<x.Nodes by omega)
  exact⟨((q.tmod x.Nodes+x.Nodes)%x.Nodes).toNat,by omega,by omega⟩
 have hkl:k<ns.length:=by rw[h.len];exact hkN
 obtain⟨hnd,hfr⟩:=h.nd k hkl
 have hlen:(ns.map eN).length=N:=by rw[List.length_map];exact h.len
 have hseg:yW9 xI3 (ns.map eN) k 0=true:=by
  rw[yNA (yNJ hkl)];exact xSI _
 have hble:Nat.ble 64 ((ns.map eN).getD k []).length=true:=by
  rw[yE2 (yNJ hkl),xQF];rfl
 have hw:w64 ((i:Int)+1)=((i+1:Nat):Int):=by rw[yAh (by omega) (by omega)];rfl
 have hset:∀X:yAL,(ns.map eN).set k (((ns.map eN).getD k []).take 0++(yAL.cs X++((ns.map eN).getD k []).drop 64))=(ns.set k (X,false)).map eN:=xTw hkl
 have hgW:∀(ms:List (yAL×Bool)) {γ:Type} (y:Option γ) (p:Nat),p=ms.length->gW (ms.map eN) p y=y:=fun ms γ y p e=>xR1 xSH e
 have hgS:∀(X:yAL) {γ:Type} (y:Option γ),gW ((ns.set k (X,false)).map eN) (ns.map eN).length y=y:=fun X γ y=>xR1 xSH (by rw[List.length_map,List.length_set])
 have hat2:=congrArg (fun n:yAL=>({n with Busy:=true,Op:=⟨l[i].Do,yAr.z,0,0,noS,0,0⟩}:yAL)) (nAt hkl hfr)
 dsimp only[yAL.at,Nat.reduceAdd] at hat2
 -- what stands ahead
 have hhead:∀(kn:_->Option Bool) k0 k1,mPf L (α:=Bool) (l.map kW,x,dvK s c ks nx,ns.map eN,(i:Int),()) kn k0 k1=
   (bif !(ns[k].1.Busy) then bif decide (l[i].Do<0) then kn (l.map kW,x,dvK s c ks nx,ns.map eN,((i+1:Nat):Int),()) else
     yAB (yDO L x {ns[k].1 with Busy:=true,Op:=⟨l[i].Do,yAr.z,0,0,noS,0,0⟩}) fun r1=>
     yAB (yEx L x {ns[k].1 with Busy:=true,Op:=⟨l[i].Do,yAr.z,0,0,noS,0,0⟩}) fun r2=>
     yAB (yFQ L r1.1 r2.1) fun r3=>bif !r3 then k1 (false,()) else
     bif !((r1.2.1.E==r2.2.1.E)&&((r1.2.1.Text.toList==r2.2.1.Text.toList)&&((r1.2.1.Yes==r2.2.1.Yes)&&true))) then k1 (false,()) else
     bif !(r1.2.2.1==r2.2.2.1) then k1 (false,()) else
     kn (l.map kW,x,dvK s c ks nx,(ns.set k ({r2.1 with Busy:= !r2.2.2.1 },false)).map eN,((i+1:Nat):Int),())
   else
    yAB (yB6 L x ns[k].1) fun r4=>
    yAB (yBP L x ns[k].1) fun r5=>
    bif !((r5.Kind==r4.Kind)&&((r5.Sector==r4.Sector)&&((r5.B.toList==r4.B.toList)&&((r5.Key==r4.Key)&&true)))) then k1 (false,()) else
    bif r4.Kind !=0 then
     yAB (yDV L (dvK s c ks nx) k r4) fun r6=>
     bif r6.2.2.1 !=0 then k1 (false,()) else
     yAB (yAU L x ns[k].1 r6.2.1) fun r7=>
     yAB (yA7 L x ns[k].1 r6.2.1) fun r8=>
     yAB (yFQ L r7.1 r8.1) fun r9=>bif !r9 then k1 (false,()) else
     bif !((r7.2.1.E==r8.2.1.E)&&((r7.2.1.Text.toList==r8.2.1.Text.toList)&&((r7.2.1.Yes==r8.2.1.Yes)&&true))) then k1 (false,()) else
     bif !(r7.2.2.1==r8.2.2.1) then k1 (false,()) else
     kn (l.map kW,x,r6.1,(ns.set k ({r8.1 with Busy:= !r8.2.2.1 },false)).map eN,((i+1:Nat):Int),())
    else
     yAB (yAU L x ns[k].1 noS) fun r10=>
     yAB (yA7 L x ns[k].1 noS) fun r11=>
     yAB (yFQ L r10.1 r11.1) fun r12=>bif !r12 then k1 (false,()) else
     bif !((r10.2.1.E==r11.2.1.E)&&((r10.2.1.Text.toList==r11.2.1.Text.toList)&&((r10.2.1.Yes==r11.2.1.Yes)&&true))) then k1 (false,()) else
     bif !(r10.2.2.1==r11.2.2.1) then k1 (false,()) else
     kn (l.map kW,x,dvK s c ks nx,(ns.set k ({r11.1 with Busy:= !r11.2.2.1 },false)).map eN,((i+1:Nat):Int),())):=fun kn k0 k1=>by
  show(bif decide ((i:Int)<((l.map kW).length:Int)) then _ else _)=_
  dsimp only
  rw[List.length_map,yAO (decide_eq_true (by omega)),xQI hPk hi,hN0,Bool.not_false,yCJ (by rfl),yCJ (by rfl)]
  simp only[Int.toNat_natCast,hq,hk,Nat.zero_add,nAt hkl hfr,xTc hkl hfr,hP1]
  rw[xDN (by omega) (by omega),yU1 (by omega) hseg]
  simp only[xQI hPk hi,xDN (show(0:Int)<=k by omega) (show(k:Int)<(ns.map eN).length by omega),yIr (show k<(ns.map eN).length by omega),yTM (Nat.zero_le k),hble,yCJ rfl,hset,hw]
  rw[hgW ns _ _ (by rw[List.length_map])]
  simp only[hgS,hat2]
 cases hb:ns[k].1.Busy with
 | false=>
   by_cases hdo:l[i].Do<0
   ·refine⟨s,c,ks,nx,ns,⟨h.sec,h.ce,h.kok,by have:=h.nx;omega,h.len,fun j hj=>⟨(h.nd j hj).1.mono,(h.nd j hj).2⟩⟩,fun kn k0 k1=>?_⟩
    rw[hhead,hb,Bool.not_false,cond_true,yAO (decide_eq_true hdo)]
   ·obtain⟨o,a,ov,g1,g2,g3⟩:=xPI (L:=L) hx hN hkN (by omega) hnd ⟨l[i].Do,yAr.z,0,0,noS,0,0⟩
    refine⟨s,c,ks,nx,_,h.upd hkl h.sec h.ce h.kok (by omega) (fun _ _=>rfl) g3,fun kn k0 k1=>?_⟩
    rw[hhead,hb,Bool.not_false,cond_true,yAF (decide_eq_false hdo),g1,yAA,g2,yAA]
    dsimp only
    rw[xN8 g3 hx,yAA,Bool.not_true,cond_false,xDo,cond_false,beq_self_eq_true,Bool.not_true,cond_false]
 | true=>
   obtain⟨a,w1,w2,hres⟩:=xSb (L:=L) h.sec h.ce h.kok (by have:=h.nx;omega) hkN (by omega) hxm hxl hh hhl hnd hb
   have hact:(!((a.Kind==a.Kind)&&((a.Sector==a.Sector)&&((a.B.toList==a.B.toList)&&((a.Key==a.Key)&&true)))))=false:=by
    simp only[beq_self_eq_true,Bool.and_self,Bool.not_true]
   rcases hres with ⟨hz,o,b,ov,t1,t2,t3⟩ | ⟨hz,s',c',ks',nx',got,d1,d2,d3,d4,d5,d6,o,b,ov,t1,t2,t3⟩
   ·refine⟨s,c,ks,nx,_,h.upd hkl h.sec h.ce h.kok (by omega) (fun _ _=>rfl) t3,fun kn k0 k1=>?_⟩
    rw[hhead,hb,Bool.not_true,cond_false,w2,yAA,w1,yAA,hact,cond_false,hz,cond_false,t1,yAA,t2,yAA]
    dsimp only
    rw[xN8 t3 hx,yAA,Bool.not_true,cond_false,xDo,cond_false,beq_self_eq_true,Bool.not_true,cond_false]
   ·refine⟨s',c',ks',nx',_,h.upd hkl d2 d3 d4 d5 d6 t3,fun kn k0 k1=>?_⟩
    rw[hhead,hb,Bool.not_true,cond_false,w2,yAA,w1,yAA,hact,cond_false,hz,cond_true,d1,yAA]
    dsimp only
    rw[show((0:Int) !=0)=false from rfl,cond_false,t1,yAA,t2,yAA]
    dsimp only
    rw[xN8 t3 hx,yAA,Bool.not_true,cond_false,xDo,cond_false,beq_self_eq_true,Bool.not_true,cond_false]
theorem xKa{l:List yAx}(hxm:yH3 1 [] xGZ (xIv (yAq x))=(xb,0))(hxl:xb.length<=512)(hh:yH3 2 [] [6] [0]=(xh,0))(hhl:xh.length<=512)(hl:l.length<=200):∀(f i:Nat) (s:List ByteArray) (c:List (List V)) (ks:List Int) (nx:Int) (ns:List (yAL×Bool)),i+f=l.length->PlInv x N xb xh s c ks nx ns i->∀(M:Nat) ka kb,f<M→
  yAf (mPf L (α:=Bool)) M (l.map kW,x,dvK s c ks nx,ns.map eN,(i:Int),()) ka kb=ka ()
 | f,i,s,c,ks,nx,ns,hi,h,0,ka,kb,hM=>absurd hM (Nat.not_lt_zero _)
 | 0,i,s,c,ks,nx,ns,hi,h,M+1,ka,kb,hM=>by
   show(bif decide ((i:Int)<((l.map kW).length:Int)) then _ else _)=_
   rw[List.length_map,yAF (decide_eq_false (by omega))]
 | f+1,i,s,c,ks,nx,ns,hi,h,M+1,ka,kb,hM=>by
   obtain⟨s',c',ks',nx',ns',k2,k3⟩:=xRQ (L:=L) hxm hxl hh hhl h hl (by omega)
   show mPf L _ (fun s'=>yAf _ M s' ka kb) ka kb=_
   rw[k3]
   exact xKa hxm hxl hh hhl hl f (i+1) s' c' ks' nx' ns' (by omega) k2 M ka kb (by omega)
def ySf(N j:Nat):List (List V):=(List.range j).map (fun k:Nat=>xTB k)++List.replicate (N-j) zNo
theorem yUD{N j:Nat}(h:j<=N):(ySf N j).length=N:=by unfold ySf;rw[List.length_append,List.length_map,List.length_range,List.length_replicate];omega
theorem xKh{N j:Nat}(h:j<N):(ySf N j)[j]?=some zNo:=by
 unfold ySf
 rw[List.getElem?_append_right (by rw[List.length_map,List.length_range];exact Nat.le_refl _),List.length_map,List.length_range,Nat.sub_self,List.getElem?_replicate,if_pos (by omega)]
theorem xNt{N j:Nat}(h:j<N):(ySf N j).set j (((ySf N j).getD j []).take 0++(xTB j++((ySf N j).getD j []).drop 64))=ySf N (j+1):=by
 rw[yE2 (xKh h)]
 show(ySf N j).set j (xTB j)=_
 unfold ySf
 rw[List.set_append_right _ _ (by rw[List.length_map,List.length_range];exact Nat.le_refl _),List.length_map,List.length_range,Nat.sub_self,show N-j=(N-(j+1))+1 by omega,List.replicate_succ,List.set_cons_zero,List.range_succ,List.map_append,List.append_assoc]
 rfl
theorem xAB(N j:Nat):yCL (ySf N j)=true:=List.all_eq_true.2 fun r hr=>by
 rcases List.mem_append.1 hr with h | h
 ·obtain⟨k,-,rfl⟩:=List.mem_map.1 h;rfl
 ·rw[List.eq_of_mem_replicate h];rfl
theorem xSX(hL:1000000<L)(hw:yLo L=some true)(x:yAJ)(l:List yAx):yNd L x (l.map kW)=some true:=by
 have wk:(yAB (yLo L) fun r=>some r)=some true:=by rw[hw];rfl
 have hL2:200000<L:=yFf.h
 unfold yNd yKy
 rw[yLq,yAA]
 cases hm:(yAq x).may with
 | false=>rw[Bool.not_false,cond_true,wk]
 | true=>
 rw[Bool.not_true,cond_false]
 by_cases h1:8<x.Blocks
 ·rw[yAO (decide_eq_true h1),wk]
 rw[yAF (decide_eq_false h1)]
 by_cases h2:200<l.length
 ·rw[yAO (decide_eq_true (by rw[List.length_map];omega)),wk]
 rw[yAF (decide_eq_false (by rw[List.length_map];omega))]
 have hok:=Geo.may_ok hm
 have n1:1<=x.Nodes:=hok.n1
 have n2:x.Nodes<=16:=hok.n2
 obtain⟨N,hN⟩:∃N:Nat,x.Nodes=N:=⟨x.Nodes.toNat,by omega⟩
 obtain⟨xb,xh,s0,hxm,hxl,hh,hhl,hx0,F,hhs,hdd,hmade⟩:=xRG (L:=L) hm hL2 hN
 have G0:PGeo x N s0:=⟨hm,hN,F.ok,F.len⟩
 obtain⟨-,-,l8,l512,s1,s16,sl,hsl⟩:=G0.bd
 have hsm:=F.ok.m
 have hce:CE (List.replicate N [V.sl [] true]) N:=⟨List.length_replicate ..,fun r hr=>⟨true,List.eq_of_mem_replicate hr⟩⟩
 rw[hmade,yAA]
 dsimp only
 rw[Bool.not_true,cond_false,hN]
 simp only[Int.toNat_natCast,Nat.zero_add]
 rw[yIr (by omega),yIr (by omega),yIr (by omega),yIr (by omega),yU0 (Nat.le_refl _) (by rw[List.length_map];omega) (yQ2 _),yU0 (Nat.le_refl _) (by rw[List.length_replicate];omega) (List.all_eq_true.2 fun r hr=>by rw[List.eq_of_mem_replicate hr];rfl),yU0 (Nat.le_refl _) (by rw[List.length_map,List.length_replicate];omega) (yLd _),yU0 (Nat.le_refl _) (by simp) rfl,List.take_length,List.take_length,List.take_length]
 show gW (ySf N 0) N (yAb _ L (l.map kW,x,dvK s0 (List.replicate N [V.sl [] true]) (List.replicate N 0) 1,ySf N 0,0,()) _)=_
 rw[yHo (yUD (Nat.zero_le _)).symm (xAB _ _)]
 refine(yWR (F:=yDo) (fun k=>(l.map kW,x,dvK s0 (List.replicate N [V.sl [] true]) (List.replicate N 0) 1,ySf N k,(k:Int),())) N (l.map kW,x,dvK s0 (List.replicate N [V.sl [] true]) (List.replicate N 0) 1,ySf N N,()) (fun k hk kn ka=>?_) (fun kn ka=>?_) N 0 L (by omega) (by omega) _).trans ?_
 ·show(bif decide ((k:Int)<((ySf N k).length:Int)) then _ else _)=_
  dsimp only
  rw[yUD (by omega),yAO (decide_eq_true (by omega))]
  simp only[Int.toNat_natCast,Nat.zero_add]
  rw[xDN (by omega) (by omega),yIr hk,yTM (Nat.zero_le _),yTM (by rw[yE2 (xKh hk)];exact(by decide:(64:Nat)<=64))]
  have hs:=xNt hk
  unfold xTB at hs
  rw[hs,yHo (yUD (by omega)).symm (xAB _ _),yAh (by omega) (by omega)]
  rfl
 ·show(bif decide ((N:Int)<((ySf N N).length:Int)) then _ else _)=_
  dsimp only
  rw[yUD (Nat.le_refl _),yAF (decide_eq_false (by omega)),yHo (yUD (Nat.le_refl _)).symm (xAB _ _)]
 dsimp only
 rw[yHo rfl (xAB _ _)]
 have hrow:ySf N N=((List.range N).map fun k:Nat=>(nd (k:Int),true)).map eN:=by
  unfold ySf
  rw[Nat.sub_self,List.replicate_zero,List.append_nil,List.map_map];rfl
 rw[hrow]
 have hblank:∀k:Nat,1<=k->(k:Int)<1+2*(N:Int)+x.Log->s0.getD k noS=noS:=fun k h1 h2=>F.no k h1 (by show(k:Int)<1+2*x.Nodes+x.Log;omega)
 have I0:PlInv x N xb xh s0 (List.replicate N [V.sl [] true]) (List.replicate N 0) 1 ((List.range N).map fun k:Nat=>(nd (k:Int),true)) 0:=by
  refine⟨⟨G0,hx0,fun k hk=>⟨yAp.z,.inl ⟨hblank _ (by omega) (by omega),rfl⟩,.inl rfl⟩,fun k hk=> .inl (hblank _ (by omega) (by omega)),fun j hj=>hhs j (by omega) hj⟩,hce,⟨List.length_replicate,Int.le_refl 1,by decide,fun i hi=> .inl (by rw[List.getElem_replicate])⟩,by omega,by rw[List.length_map,List.length_range],fun k hk=>?_⟩
  rw[List.length_map,List.length_range] at hk
  rw[List.getElem_map,List.getElem_range]
  have hg:(List.replicate N (0:Int)).getD k 0=0:=by
   rw[List.getD_eq_getElem?_getD,List.getElem?_replicate,if_pos hk];rfl
  rw[hg]
  exact⟨⟨rfl,rfl,⟨rfl,rfl,rfl,rfl,rfl,rfl,rfl,rfl⟩,Int.le_refl 0,Int.le_refl 0,fun _=>rfl,fun _=>rfl,fun q=>absurd rfl q,fun q=>absurd (show false=true from q) (by decide)⟩,fun _=>⟨_,rfl⟩⟩
 refine(xKa (L:=L) (N:=N) hxm hxl hh hhl (by omega) l.length 0 s0 _ _ 1 _ (by omega) I0 L _ _ (by omega)).trans ?_
 exact wk
end
set_option maxRecDepth 100000 in
set_option maxHeartbeats 16000000 in
theorem xRs:yLo 2000000=some true:=by kernel_rfl
end Go.Proofs.YtakljpcmbpaeaaaGreat

namespace Go.Proofs.YtakljpcmbpaeaaaGreat
end Go.Proofs.YtakljpcmbpaeaaaGreat

namespace Go.Proofs.YtakljpcmbpaeaaaGreat
open Go.RowKit
def xOh(w:World):yEn:=fun g _=>g<w.heap.size
end Go.Proofs.YtakljpcmbpaeaaaGreat
