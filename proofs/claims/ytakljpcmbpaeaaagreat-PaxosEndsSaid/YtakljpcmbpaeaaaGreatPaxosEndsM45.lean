/- PaxosKeeps: the second one's run. -/
import Derived.Test.YtakljpcmbpaeaaaGreatPaxosEndsM44
import Derived.Test.YtakljpcmbpaeaaaGreatPaxosEndsM23
import Derived.Test.YtakljpcmbpaeaaaGreatPaxosEndsM02
set_option linter.unusedSimpArgs false
set_option linter.unusedVariables false
namespace Go.Proofs.YtakljpcmbpaeaaaGreat
open Go.RowKit
section
variable {L N:Nat} [yFr L] {x:yAQ} {s:List ByteArray} {t:yAM}
end
section
variable {L N:Nat} [yFr L] {x:yAQ} {s:List ByteArray}
theorem xM9{y:Int}(hN:x.Nodes=N)(h1:1<=N)(h2:N<=16):∃m:Nat,m<N/\(w64 ((y.tmod x.Nodes)+x.Nodes)).tmod x.Nodes=m:=by
 rw[hN]
 have t1:=Int.tmod_lt_of_pos y (show(0:Int)<N by omega)
 have t2: -(N:Int)<y.tmod N:=by
  have:=Int.lt_tmod_of_pos y (show(0:Int)<N by omega)
  omega
 rw[yAa (by omega) (by omega),Int.tmod_eq_emod_of_nonneg (by omega)]
 have e1:=Int.emod_nonneg (y.tmod N+N) (show(N:Int)≠0 by omega)
 have e2:=Int.emod_lt_of_pos (y.tmod N+N) (show(0:Int)<N by omega)
 exact⟨((y.tmod N+N)%N).toNat,by omega,by omega⟩
end
theorem xLg{L:Nat}[yFr L]{x:yAQ}:∃b,yMZ L x=some b/\(b=true->(yB3 x).may=true/\x.Nodes<=4):=by
 unfold yMZ yOj
 have hM:yCk L x=some (yB3 x).may:=yQD x
 rw[hM,yAC]
 cases hm:(yB3 x).may with
 | false=>exact⟨false,rfl,nofun⟩
 | true=>
   rw[cond_true]
   by_cases h1:x.Nodes<=4
   ·rw[yAb (decide_eq_true h1)]
    by_cases h2:x.Log<=60
    ·rw[yAb (decide_eq_true h2),yV8,yAC]
     exact⟨_,rfl,fun _=>⟨rfl,h1⟩⟩
    ·rw[yAJ (decide_eq_false h2)]
     exact⟨false,rfl,nofun⟩
   ·rw[yAJ (decide_eq_false h1)]
    exact⟨false,rfl,nofun⟩
instance bigL0:yFr 2000000:=⟨by decide⟩
theorem xLA:yEd 2000000=some true:=by kernel_rfl
section
variable {x:yAQ} {N:Nat} {L:Nat} [yFr L]
def zP0:List V:= [V.sl [] true,V.sl [] true,V.sl [] true,V.int .i64 0,V.int .i64 0,V.bool false,V.int .i64 0,V.str noS,V.int .i8 0,V.int .i64 0,V.int .i64 0,V.int .i64 0,V.int .i64 0,V.str noS,V.int .i64 0,V.int .i64 0,V.int .i64 0,V.str noS,V.int .i64 0,V.bool false,V.bool false]
def yQY(t:yAM)(N k:Nat):List (List V):=List.replicate k (pV (xL3 t 0))++List.replicate (N-k) zP0
theorem yQZ(t:yAM){N k:Nat}(h:k<=N):(yQY t N k).length=N:=by unfold yQY;rw[List.length_append,List.length_replicate,List.length_replicate];omega
theorem xED(t:yAM){N k:Nat}(h:k<N):(yQY t N k)[k]?=some zP0:=by
 unfold yQY
 rw[List.getElem?_append_right (by rw[List.length_replicate];exact Nat.le_refl _),List.length_replicate,Nat.sub_self,List.getElem?_replicate,if_pos (by omega)]
theorem xHJ(t:yAM){N k:Nat}(h:k<N):(yQY t N k).set (0+k) (((yQY t N k).getD (0+k) []).take 0++([V.sl t.Slots false,V.sl t.Holds false,V.sl t.Queue false]++((yQY t N k).getD (0+k) []).drop 3))=yQY t N (k+1):=by
 rw[Nat.zero_add,yDo (xED t h)]
 show(yQY t N k).set k (pV (xL3 t 0))=_
 unfold yQY
 rw[List.set_append_right _ _ (by rw[List.length_replicate];exact Nat.le_refl _),List.length_replicate,Nat.sub_self,show N-k=(N-(k+1))+1 by omega,List.replicate_succ,List.set_cons_zero,List.replicate_succ',List.append_assoc]
 rfl
theorem yU8(t:yAM)(N k:Nat):yCR (yQY t N k)=true:=List.all_eq_true.2 fun r hr=>by
 rcases List.mem_append.1 hr with h | h
 ·rw[List.eq_of_mem_replicate h];rfl
 ·rw[List.eq_of_mem_replicate h];rfl
end
section
variable {x:yAQ} {N:Nat} {L:Nat} [yFr L]
theorem xKE(h:yMZ L x=some true):x.Log<=60:=by
 have _:=(inferInstance:yFr L)
 unfold yMZ yOj at h
 have hM:yCk L x=some (yB3 x).may:=yQD x
 rw[hM,yAC] at h
 cases hm:(yB3 x).may with
 | false=>rw[hm,cond_false] at h;cases h
 | true=>
   rw[hm,cond_true] at h
   by_cases h1:x.Nodes<=4
   ·rw[yAb (decide_eq_true h1)] at h
    by_cases h2:x.Log<=60
    ·exact h2
    ·rw[yAJ (decide_eq_false h2)] at h;cases h
   ·rw[yAJ (decide_eq_false h1)] at h;cases h
theorem xI2{l:List Int}{who:Int}{s:List ByteArray}{c:List (List V)}{xs:List yAD}{cs:List yAG}{W:PW}{i:Nat}(h:OInv x N s xs cs W i)(hc:CE c N)(hl:l.length<=200)(hi:i<l.length)(hb:1<=x.Blocks):
  ∃s' c' xs' cs' W',CE c' N/\OInv x N s' xs' cs' W' (i+1)/\∀kn ka kb,yCi (α:=Bool) (yBy L) (l.map inV,who,x,dvN s c N N,xs.map pV,(i:Int),()) kn ka kb=kn (l.map inV,who,x,dvN s' c' N N,xs'.map pV,((i+1:Nat):Int),()):=by
 obtain⟨n1,n16,l8,l512,s1,s16,sl,hsl⟩:=h.g.bd
 have hgn:=h.g.n
 have hN0:decide (x.Nodes=0)=false:=decide_eq_false (by omega)
 have hpick:aI (l.map inV) i 0=l[i]:=congrArg asI (yNs hi)
 have hp:0<=yDK false (yDK true l[i] 0) 1099511627776/\yDK false (yDK true l[i] 0) 1099511627776<=1099511627776:=by
  rw[xD0,yKq];omega
 obtain⟨p,hpd⟩:∃p,yDK false (yDK true l[i] 0) 1099511627776=p:=⟨_,rfl⟩
 rw[hpd] at hp
 obtain⟨n,hn,hnN⟩:∃n:Nat,p.tmod x.Nodes=n/\n<N:=by
  rw[Int.tmod_eq_emod_of_nonneg hp.1]
  have e1:=Int.emod_nonneg p (show x.Nodes≠0 by omega)
  have e2:=Int.emod_lt_of_pos p (show 0<x.Nodes by omega)
  exact⟨(p%x.Nodes).toNat,by omega,by omega⟩
 have hnx:n<xs.length:=by rw[h.xl];exact hnN
 obtain⟨q,hq⟩:∃q,w64 (p.tdiv x.Nodes)=q:=⟨_,rfl⟩
 obtain⟨s',c',X',cs',W',k1,k2,k3,k4⟩:=xLN (L:=L) (q:=q) h hc hnx (by omega) hb
 refine⟨s',c',_,cs',W',k1,k3,fun kn ka kb=>?_⟩
 show(bif decide ((i:Int)<((l.map inV).length:Int)) then _ else _)=_
 dsimp only
 rw[List.length_map,yAb (decide_eq_true (by omega)),yQ8 (by omega) (by omega),hN0,Bool.not_false]
 simp only[Int.toNat_natCast,hpick,hpd,hn,hq]
 rw[yCf (by rfl),yW8 (by omega) (by rw[List.length_map];omega),xFq (by rw[List.length_map];omega) (by rw[yJb (yIe (show 0+n<xs.length by omega))];rfl),yCf (by rfl)]
 rw[show 0+n=n from Nat.zero_add n,pAt hnx,k2,yAC]
 dsimp only
 rw[yW8 (by omega) (by rw[List.length_map];omega),yMU (by rw[List.length_map];omega),yMT (Nat.zero_le _),yMT (by rw[yDo (yIe hnx)];exact Nat.le_refl 21),Bool.not_true,cond_false,xL4]
 have hset:=xM3 hnx X'
 rw[show 0+n=n from Nat.zero_add n] at hset
 rw[hset,yPv xL5 (by rw[List.length_map,List.length_set]),yAa (by omega) (by omega)]
 rfl
theorem xBj{l:List Int}{who:Int}(hl:l.length<=200)(hb:1<=x.Blocks):∀(f i:Nat) (s:List ByteArray) (c:List (List V)) (xs:List yAD) (cs:List yAG) (W:PW),i+f=l.length->OInv x N s xs cs W i->CE c N->∃s' c' xs' cs' W',CE c' N/\OInv x N s' xs' cs' W' l.length/\∀(M:Nat) ka kb,f<M→
  yAe (yCi (α:=Bool) (yBy L)) M (l.map inV,who,x,dvN s c N N,xs.map pV,(i:Int),()) ka kb=ka (who,x,dvN s' c' N N,xs'.map pV,())
 | 0,i,s,c,xs,cs,W,hi,h,hc=>by
   obtain rfl:i=l.length:=by omega
   refine⟨s,c,xs,cs,W,hc,h,fun M ka kb hM=>?_⟩
   obtain⟨M',rfl⟩:∃M',M=M'+1:=⟨M-1,by omega⟩
   show(bif decide (((l.length:Nat):Int)<((l.map inV).length:Int)) then _ else _)=_
   rw[List.length_map,yAJ (decide_eq_false (by omega))]
   exact yPv xL5 (by rw[List.length_map])
 | f+1,i,s,c,xs,cs,W,hi,h,hc=>by
   obtain⟨s',c',xs',cs',W',k1,k2,k3⟩:=xI2 (L:=L) (who:=who) h hc hl (by omega) hb
   obtain⟨s2,c2,xs2,cs2,W2,g1,g2,g3⟩:=xBj hl hb f (i+1) s' c' xs' cs' W' (by omega) k2 k1
   refine⟨s2,c2,xs2,cs2,W2,g1,g2,fun M ka kb hM=>?_⟩
   obtain⟨M',rfl⟩:∃M',M=M'+1:=⟨M-1,by omega⟩
   show yCi (yBy L) _ (fun s'=>yAe _ M' s' ka kb) ka kb=_
   rw[k3]
   exact g3 M' ka kb (by omega)
theorem xH5{s:List ByteArray}{c:List (List V)}{xs:List yAD}{cs:List yAG}{W:PW}{m n:Nat}(h:OInv x N s xs cs W m)(hc:CE c N)(hn:n<xs.length)(hm:m<=300)(hb:1<=x.Blocks)(hoff:xs[n].on_=false)(q:Int):
  ∃X' W',yBy L x (dvN s c N N) xs[n] n q=some (dvN s c N N,X',true,())/\X'.on_=true/\X'.done_=xs[n].done_/\∃cs',OInv x N s (xs.set n X') cs' W' (m+1):=by
 have hA:=yZv (L:=L) h hc hn hm hb hoff q
 obtain⟨n1,n16,l8,l512,s1,s16,sl,hl⟩:=h.g.bd
 have hnN:n<N:=by rw[←h.xl];exact hn
 obtain⟨a1,a2,a3,a4⟩:=h.px n hn
 generalize hX:xs[n]=X at*
 obtain⟨d,hd,hby,hse,hcm⟩:=yXu (L:=L) (X:={X with serial_:=X.serial_+1 }) (cs:=cs.take X.done_.toNat) (n:=n) hnN n16 s16 hb a2 (by show 1<=X.serial_+1;omega) (by show X.serial_+1<=_;omega) q
 have hact:yBy L x (dvN s c N N) X n q=some (dvN s c N N,⟨X.t_,X.done_,X.serial_+1,true,⟨n,mkS (yFM d),0,0,yBI.z,yAm.z⟩⟩,true,()):=by
  rw[hoff] at hcm
  unfold yBy yID
  rw[hoff,Bool.not_false,cond_true,yAa (by omega) (by omega)]
  rw[show(dvN s c N N).Keys=((List.range N).map (yJm N)).map inV from rfl,yP2 (by omega) (by omega),Int.toNat_natCast,yRn hnN,show yJm N n=17*(n:Int)+16 from if_pos hnN,hcm,yAC,xDa h.g hnN hd.may hby,yAC]
  rfl
 obtain⟨s',c',X',cs',W',hc',ha,hi,-⟩:=hA
 obtain⟨rfl,rfl⟩:=xFy ha hact
 exact⟨_,W',hact,rfl,rfl,cs',hi⟩
def xNB(L:Nat)(x:yAQ)(frm:Int)(cmd:ByteArray)(r8:yAA×yEt×Int×Unit):Option Bool:=
 bif r8.2.2.1==150 then
  yAB (yEd L) fun r9=>some r9
 else
  yAB (yOH L x r8.1) fun r10=>
   bif r8.2.2.1 !=0 then some false
   else bif r10.2.1 !=0 then some false
   else bif !r8.2.1.Over then some false
   else bif decide (w64 ((w64 ((w64 (4*x.Nodes))+10))*(w64 ((w64 (r8.2.1.Done-frm))+1)))<r8.2.1.Acts) then some false
   else bif decide (r8.2.1.Done<1) then some false
   else bif decide ((r10.1.length:Int)<r8.2.1.Done) then some false
   else yAB (yDG L cmd) fun r11=>
    bif r11.2.1==0 then
     gI r10.1 yAG.ks (w64 (r8.2.1.Done-1))<|
     yAB (yMK L (⟨aI r10.1 ((w64 (r8.2.1.Done-1)).toNat) 0,aI r10.1 ((w64 (r8.2.1.Done-1)).toNat) 1,aI r10.1 ((w64 (r8.2.1.Done-1)).toNat) 2,aI r10.1 ((w64 (r8.2.1.Done-1)).toNat) 3,aI r10.1 ((w64 (r8.2.1.Done-1)).toNat) 4,(⟨aI r10.1 ((w64 (r8.2.1.Done-1)).toNat) 5,aI r10.1 ((w64 (r8.2.1.Done-1)).toNat) 6⟩:yAN),aI r10.1 ((w64 (r8.2.1.Done-1)).toNat) 7⟩:yAG) r11.1.By r11.1.Serial) fun r12=>
      bif r12 then yAB (yEd L) fun r13=>some r13 else some false
    else some false
theorem xGP{n:Nat}{c:List (List V)}{cmd:ByteArray}{frm:Int}{r:yAA×yAA×yEt×Int×Unit}(hL:1000000<L)(hw:yEd L=some true)(hN:x.Nodes=N)(hN4:N<=4)(hc:CE c N)(hlog:x.Log<=60)(hf:0<=frm)(h:xFt x N n c cmd frm r):xNB L x frm cmd (r.1,r.2.2.1,r.2.2.2.1,())=some true:=by
 have wk:(yAB (yEd L) fun r=>some r)=some true:=by rw[hw];rfl
 unfold xNB
 dsimp only
 rcases h with h | ⟨s',xs',cs',W',m',p,t,done,acts,e,d,rfl,hi,hd,hdl,ha,hd1,hce,hcmd,gd,hby,hse⟩
 ·rw[h,show((150:Int)==150)=true from rfl,cond_true]
  exact wk
 ·obtain⟨n1,n16,l8,l512,s1,s16,sl,hsl⟩:=hi.g.bd
  have hcl:=hi.lg.cl
  have hlg:=xKg (L:=L) hc (by omega) hi.g hi.lg.cl hi.lg.at_ (fun q=>hi.lg.end_ _ (Nat.le_refl _) q) (fun c' hc'=>ySq yTV (hi.lg.ok c' hc').may (hi.lg.ok c' hc').kind)
  have hm:0<=(4*(N:Int)+10)*(done-frm+1)/\(4*(N:Int)+10)*(done-frm+1)<=26*61:=⟨Int.mul_nonneg (by omega) (by omega),Int.mul_le_mul (by omega) (by omega) (by omega) (by omega)⟩
  dsimp only
  rw[show((0:Int)==150)=false from rfl,cond_false,hlg,yAC]
  dsimp only
  obtain⟨j,hj⟩:∃j:Nat,done=j+1:=⟨(done-1).toNat,by omega⟩
  have hjl:j<cs'.length:=by omega
  have hej:cs'[j]=e:=by
   rw[hj,show((j:Int)+1-1).toNat=j by omega,List.getElem?_eq_getElem hjl] at hce
   injection hce
  have hM:yMK L cs'[j] d.By d.Serial=some true:=by
   unfold yMK yQV
   rw[hej,yAb (beq_iff_eq.2 hby),beq_iff_eq.2 hse]
  rw[show((0:Int) !=0)=false from rfl,cond_false,cond_false,Bool.not_true,cond_false,hN,yAa (n:=4*(N:Int)) (by omega) (by omega),yAa (n:=4*(N:Int)+10) (by omega) (by omega),yAa (n:=done-frm) (by omega) (by omega),yAa (n:=done-frm+1) (by omega) (by omega),yAa (n:=(4*(N:Int)+10)*(done-frm+1)) (by omega) (by omega),
   yAJ (decide_eq_false (by omega)),yAJ (decide_eq_false (by omega)),List.length_map,yAJ (decide_eq_false (by omega)),hcmd,ySq yTV gd.may gd.kind,yAC,show((0:Int)==0)=true from rfl,cond_true]
  rw[hj,show(j:Int)+1-1=j by omega,yAa (n:=(j:Int)) (by omega) (by omega),xIJ xLS hjl]
  simp only[Int.toNat_natCast]
  rw[cAt hjl,hM,yAC,cond_true]
  exact wk
end
section
variable {x:yAQ} {N:Nat} {L:Nat} [yFr L]
theorem xJT{f:Int}(hN:x.Nodes=N)(hN4:N<=4)(h0:0<=f)(h1:f<=x.Log)(hl:x.Log<=60):w64 ((w64 ((w64 (4*x.Nodes))+10))*(w64 ((w64 (x.Log-f))+1)))=(4*(N:Int)+10)*(x.Log-f+1):=by
 have hm:0<=(4*(N:Int)+10)*(x.Log-f+1)/\(4*(N:Int)+10)*(x.Log-f+1)<=26*61:=⟨Int.mul_nonneg (by omega) (by omega),Int.mul_le_mul (by omega) (by omega) (by omega) (by omega)⟩
 rw[hN,yAa (n:=4*(N:Int)) (by omega) (by omega),yAa (n:=4*(N:Int)+10) (by omega) (by omega),yAa (n:=x.Log-f) (by omega) (by omega),yAa (n:=x.Log-f+1) (by omega) (by omega),yAa (by omega) (by omega)]
theorem xMp(hL:1000000<L)(hw:yEd L=some true)(x:yAQ)(l:List Int)(who:Int):yMX L x (l.map inV) who=some true:=by
 have wk:(yAB (yEd L) fun r=>some r)=some true:=by rw[hw];rfl
 obtain⟨f,hf,hff⟩:=xLg (L:=L) (x:=x)
 unfold yMX yJ3
 rw[hf,yAC]
 cases f with
 | false=>rw[Bool.not_false,cond_true,wk]
 | true=>
 obtain⟨hm,hn4⟩:=hff rfl
 have hlog:=xKE hf
 rw[Bool.not_true,cond_false]
 by_cases hl:200<l.length
 ·rw[yAb (decide_eq_true (by rw[List.length_map];omega)),wk]
 rw[yAJ (decide_eq_false (by rw[List.length_map];omega))]
 obtain⟨s,F,hmade⟩:=xKQ (L:=L) hm (by omega)
 obtain⟨N,hN⟩:∃N:Nat,x.Nodes=N:=⟨x.Nodes.toNat,by have:=(Geo.may_ok hm).n1;have:1<=x.Nodes:=this;omega⟩
 rw[show x.Nodes.toNat=N by omega] at hmade
 have G:PGeo x N s:=⟨hm,hN,F.ok,F.len⟩
 obtain⟨n1,n2,l8,l512,s1,s16,sl,hsl⟩:=G.bd
 have hb:1<=x.Blocks:=(Geo.may_ok hm).b1
 rw[hmade,yAC]
 dsimp only
 rw[Bool.not_true,cond_false,hN]
 simp only[Int.toNat_natCast]
 rw[yMU (by omega),yMU (by omega),yMU (by omega),yMU (by omega)]
 show gW (yQY (bhT x []).t N 0) N (yBL _ L (l.map inV,who,x,dvF s N,yQY (bhT x []).t N 0,0,()) _)=_
 rw[yIx (yQZ _ (Nat.zero_le _)).symm (yU8 _ _ _)]
 refine(ySg (F:=yEF (yHo L)) (fun k=>(l.map inV,who,x,dvF s N,yQY (bhT x []).t N k,(k:Int),())) N (l.map inV,who,x,dvF s N,yQY (bhT x []).t N N,()) (fun k hk kn ka=>?_) (fun kn ka=>?_) N 0 L (by omega) (by omega) _).trans ?_
 ·show(bif decide ((k:Int)<x.Nodes) then _ else _)=_
  dsimp only
  rw[yAb (decide_eq_true (by omega)),xLw (by omega) s16,yAC]
  simp only[Int.toNat_natCast]
  rw[yW8 (by omega) (by rw[yQZ _ (by omega)];omega),yMU (by rw[yQZ _ (by omega)];omega),yMT (Nat.zero_le _),yMT (by rw[Nat.zero_add,yDo (xED _ hk)];exact(by decide:(3:Nat)<=21)),xHJ _ hk,yIx (by rw[yQZ _ (by omega),yQZ _ (by omega)]) (yU8 _ _ _),yAa (by omega) (by omega)]
  rfl
 ·show(bif decide ((N:Int)<x.Nodes) then _ else _)=_
  dsimp only
  rw[yAJ (decide_eq_false (by omega)),yIx rfl (yU8 _ _ _)]
 dsimp only
 rw[yIx rfl (yU8 _ _ _)]
 have hrow:yQY (bhT x []).t N N=(List.replicate N (xL3 (bhT x []).t 0)).map pV:=by
  unfold yQY
  rw[Nat.sub_self,List.replicate_zero,List.append_nil,List.map_replicate]
 rw[hrow]
 have hblank:∀k:Nat,1<=k->(k:Int)<1+2*(N:Int)+x.Log->s.getD k noS=noS:=fun k h1 h2=>F.no k h1 (by show(k:Int)<1+2*x.Nodes+x.Log;omega)
 have I0:OInv x N s (List.replicate N (xL3 (bhT x []).t 0)) [] ⟨fun _=>yBI.z,fun _=>none,fun _=>xLI (xL3 (bhT x []).t 0),fun _ _=>none,fun _ _=>False⟩ 0:=by
  refine⟨G,List.length_replicate,.init _ fun _ _ _=>⟨rfl,rfl⟩,fun k hk=> .inl ⟨hblank _ (by omega) (by omega),rfl⟩,⟨?_,fun i hi=>absurd hi (Nat.not_lt_zero _),fun i _ hi=>hblank _ (by omega) (by omega),fun c hc=>(by cases hc)⟩,fun k=>?_,fun k b v c hv=>(by cases hv),fun k hk=>?_,fun k hk=>?_⟩
  ·show(0:Int)<=x.Log;omega
  ·refine(if_neg ?_).symm
   rintro⟨h1,h2⟩
   simp only[List.length_nil] at h2
   omega
  ·rw[List.getElem_replicate]
   exact⟨rfl,rfl,Int.le_refl 0,by show(0:Int)<=_;omega⟩
  ·rw[List.getElem_replicate]
   intro e;cases e
 obtain⟨s',c',xs,cs,W,hc,hI,hrun⟩:=xBj (L:=L) (N:=N) (who:=who) (show l.length<=200 by omega) hb l.length 0 s (xMW N) _ [] _ (by omega) I0 (xJx N)
 refine(hrun L _ _ (by omega)).trans ?_
 dsimp only
 obtain⟨n,hnN,hn⟩:=xM9 (y:=who) hN n1 n2
 have hnx:n<xs.length:=by rw[hI.xl];exact hnN
 have hN0:decide (x.Nodes=0)=false:=decide_eq_false (by omega)
 have hd:=hI.done_le hnx
 have hcl:=hI.lg.cl
 have hon5:aB (xs.map pV) n 5=xs[n].on_:=congrArg asB (yNs hnx)
 have hdn:aI (xs.map pV) n 3=xs[n].done_:=congrArg asI (yNs hnx)
 have hp:(⟨aI (xs.map pV) n 6,aS (xs.map pV) n 7,aI (xs.map pV) n 8,aI (xs.map pV) n 9,⟨aI (xs.map pV) n 10,aI (xs.map pV) n 11,aI (xs.map pV) n 12,aS (xs.map pV) n 13⟩,⟨aI (xs.map pV) n 14,aI (xs.map pV) n 15,aI (xs.map pV) n 16,aS (xs.map pV) n 17,aI (xs.map pV) n 18,aB (xs.map pV) n 19,aB (xs.map pV) n 20⟩⟩:yAO)=xs[n].p_:=congrArg (·.p_) (pAt hnx)
 have ht:(⟨aR (xs.map pV) n 0,aR (xs.map pV) n 1,aR (xs.map pV) n 2⟩:yAM)=xs[n].t_:=congrArg (·.t_) (pAt hnx)
 have h7:aS (xs.map pV) n 7=xs[n].p_.Cmd:=congrArg (·.p_.Cmd) (pAt hnx)
 rw[hN0,hn]
 simp only[Int.toNat_natCast,Nat.zero_add]
 rw[yCf (by rfl),yCf (by rfl),yW8 (by omega) (by rw[List.length_map];omega),xFq (by rw[List.length_map];omega) (by rw[yJb (yIe hnx)];rfl)]
 rw[pAt hnx,hp,ht,h7]
 simp only[hon5,hdn]
 cases hon:xs[n].on_ with
 | false=>
   rw[Bool.not_false,cond_true]
   obtain⟨X',W',b1,b2,b3,cs',b4⟩:=xH5 (L:=L) (c:=c') hI hc hnx (by omega) hb hon 0
   have hnx':n<(xs.set n X').length:=by rw[List.length_set];exact hnx
   have hX':(xs.set n X')[n]=X':=by simp
   obtain⟨r,e1,e2⟩:=xEG (L:=L) (c:=c') (by omega) hL b4 hc hnx' (by rw[hX'];exact b2) hlog
   rw[hX'] at e1 e2
   have hT:=xGP (L:=L) hL hw hN (by omega) hc hlog (by rw[b3];exact hd.1) e1
   rw[b1,yAC]
   dsimp only
   rw[Bool.not_true,cond_false,xJT hN (by omega) hd.1 (by omega) hlog,←b3,e2,yAC]
   exact hT
 | true=>
   rw[Bool.not_true,cond_false]
   obtain⟨r,e1,e2⟩:=xEG (L:=L) (c:=c') (by omega) hL hI hc hnx hon hlog
   have hT:=xGP (L:=L) hL hw hN (by omega) hc hlog hd.1 e1
   rw[xJT hN (by omega) hd.1 (by omega) hlog]
   rw[e2,yAC]
   exact hT
end
def xH0(w:World):yEZ:=fun g _=>g<w.heap.size
end Go.Proofs.YtakljpcmbpaeaaaGreat
