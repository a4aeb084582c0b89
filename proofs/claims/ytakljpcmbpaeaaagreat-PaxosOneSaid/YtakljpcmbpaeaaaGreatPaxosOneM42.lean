/- Devices of nodes that have registered, whose caches are empty: breakwaterref06.Do: a read, a force, a registering. -/
import Derived.Test.YtakljpcmbpaeaaaGreatPaxosOneM41
import Derived.Test.YtakljpcmbpaeaaaGreatPaxosOneM01
import Derived.Test.YtakljpcmbpaeaaaGreatPaxosOneM34
set_option linter.unusedSimpArgs false
set_option linter.unusedVariables false
namespace Go.Proofs.YtakljpcmbpaeaaaGreat
open Go.RowKit
theorem cS_ok(N j:Nat):CE ((cE N).set j [V.sl [] true]) N:=⟨by rw [List.length_set];exact(cE_ok N).1,fun r hr=>by
 rcases List.mem_or_eq_of_mem_set hr with q | rfl
 ·exact(cE_ok N).2 r q
 ·exact⟨true,rfl⟩⟩
section
variable {s:List ByteArray} {c:List (List V)} {N j L:Nat}
theorem do_p0(hs:SecOk s)(hc:CE c N)(h1:1≤N)(h2:N≤16)(hL:200000<L)(hj:j≤N){n:Int}(n0:0≤n)(nN:n<N){a:yA5}(k1:1≤a.Kind)(k2:a.Kind≤6){z:yAA}{α:Type}(k0:_→Option α):
  yJw (yCF L) (n,dvN s c N j,a,z,()) k0=k0 (n,dvN s c N j,a,z,false,()):=by
 unfold yJw
 dsimp only
 rw [rchk_eq hs hc h1 h2 hL hj,bindO_s,bif_f (by rfl),bif_f (decide_eq_false (by omega)),show(dvN s c N j).Keys=((List.range N).map (keyN j)).map inV from rfl,keys_len,bif_f (decide_eq_false (by omega)),bif_f (decide_eq_false (by omega)),decide_eq_false (by omega:¬6<a.Kind)]
theorem do_p5(hs:SecOk s)(hc:CE c N)(h1:1≤N)(h2:N≤16)(hL:200000<L){n:Int}(n0:0≤n)(nN:n<N){a:yA5}(hk:(a.Kind !=6)=true){z:yAA}{w:Bool}{α:Type}(k0:_→Option α)(ka):
  yH1 (yGO L) (n,dvN s c N N,a,z,w,()) k0 ka=k0 (n,dvN s c N N,a,z,w,()):=by
 unfold yH1
 dsimp only
 obtain⟨i,rfl⟩:=Int.eq_ofNat_of_zero_le n0
 rw [bif_t hk,show(dvN s c N N).Keys=((List.range N).map (keyN N)).map inV from rfl,keys_gI (by omega) (by omega),Int.toNat_natCast,keys_at (by omega),rfen_eq hs hc h1 h2 hL (by omega) (by omega),bindO_s,bif_f (by rfl)]
theorem do_p8(hs:SecOk s)(hc:CE c N)(h1:1≤N)(h2:N≤16)(hL:200000<L){n:Int}{a:yA5}{z:yAA}{α:Type}(k0:_→Option α):
  yJx (yE6 L) (n,dvN s c N j,a,z,()) k0=k0 (n,a,z,(s.map txV,cE N,((List.range N).map (keyN j)).map inV,(j:Int)+1,[],()),()):=by
 unfold yJx
 dsimp only
 rw [copied_eq hs hc h1 h2 hL,bindO_s,gW_t rfl (nm_tx _),gW_t rfl (cE_ok N).nm,gW_t rfl (nm_in _),gF_t (by simp) (by simp) (by rfl)]
 rfl
theorem do_p9(hs:SecOk s)(hc:CE c N)(h1:1≤N)(h2:N≤16)(hL:200000<L){n:Int}{a:yA5}{z:yAA}{α:Type}(k0:_→Option α):
  yJy (yH4 L) (n,a,z,(s.map txV,cE N,((List.range N).map (keyN j)).map inV,(j:Int)+1,[],()),[],()) k0=k0 (n,a,z,(s.map txV,cE N,((List.range N).map (keyN j)).map inV,(j:Int)+1,[],()),[],-1,()):=by
 unfold yJy
 dsimp only
 rw [place_nil (by omega),bindO_s,gW_t rfl (nm_tx _),gW_t rfl (cE_ok N).nm,gW_t rfl (nm_in _)]
theorem rdo_read(hs:SecOk s)(hc:CE c N)(h1:1≤N)(h2:N≤16)(hL:200000<L){n:Int}(n0:0≤n)(nN:n<N){k:Int}(k0:0≤k)(kl:k<s.length):yDz L (dvN s c N N) n ⟨1,k,noS,0⟩=some (dvN s (cE N) N N,s.getD k.toNat noS,0,()):=by
 have hm:=hs.m
 have hcl:=(cE_ok N).1
 unfold yDz yNh
 rw [do_p0 hs hc h1 h2 hL (Nat.le_refl _) n0 nN (by dsimp only;omega) (by dsimp only;omega)]
 rw [show ∀(α:Type) x ka kb,yHy (α:=α) (n,x,(⟨1,k,noS,0⟩:yA5),yAA.z,false,()) ka kb=ka (n,x,⟨1,k,noS,0⟩,yAA.z,()) from fun _ _ _ _=>rfl]
 rw [show ∀(α:Type) x ka,yHz (α:=α) (n,x,(⟨1,k,noS,0⟩:yA5),yAA.z,()) ka=ka (n,x,⟨1,k,noS,0⟩,yAA.z,false,()) from fun _ _ _=>rfl]
 rw [show ∀(α:Type) x ka,yFL (α:=α) (yBU L) (n,x,(⟨1,k,noS,0⟩:yA5),yAA.z,false,()) ka=ka (n,x,⟨1,k,noS,0⟩,yAA.z,false,false,()) from fun _ _ _=>rfl]
 rw [show ∀(α:Type) x ka kb,yH0 (α:=α) (n,x,(⟨1,k,noS,0⟩:yA5),yAA.z,false,false,()) ka kb=ka (n,x,⟨1,k,noS,0⟩,yAA.z,false,()) from fun _ _ _ _=>rfl]
 rw [do_p5 hs hc h1 h2 hL n0 nN (by rfl)]
 have p6:∀(α:Type) (ka:_→Option α),yFM (n,dvN s c N N,(⟨1,k,noS,0⟩:yA5),yAA.z,false,()) ka=ka (n,dvN s c N N,⟨1,k,noS,0⟩,yAA.z,false,()):=fun α ka=>by
  unfold yFM
  dsimp only
  rw [cond_false,bif_t (by rfl),bif_f (decide_eq_false (by omega)),show(dvN s c N N).S=s.map txV from rfl,List.length_map,decide_eq_false (by omega:¬(s.length:Int)≤k)]
 rw [p6]
 rw [show ∀(α:Type) x ka kb,yH2 (α:=α) (n,x,(⟨1,k,noS,0⟩:yA5),yAA.z,false,()) ka kb=ka (n,x,⟨1,k,noS,0⟩,yAA.z,()) from fun _ _ _ _=>rfl]
 rw [do_p8 hs hc h1 h2 hL]
 dsimp only
 obtain⟨i,rfl⟩:=Int.eq_ofNat_of_zero_le n0
 obtain⟨v,rfl⟩:=Int.eq_ofNat_of_zero_le k0
 have hi:i<N:=by omega
 have hv:v<s.length:=by omega
 rw [hcl,gB_t (by omega) (by omega),Nat.zero_add,Int.toNat_natCast,gL_t (by rw [hcl];exact hi) (by obtain⟨b,hb⟩:=(cE_ok N).at_ hi;rw [segIs_at hb];rfl),gW_t rfl (nm_tx _),gW_t hcl.symm (cE_ok N).nm,gW_t rfl (nm_in _),(cE_ok N).aR hi,do_p9 hs hc h1 h2 hL]
 dsimp only
 rw [bif_t (by rfl),bif_f (by rfl),List.length_map,gB_t (by omega) (by omega),Nat.zero_add,Int.toNat_natCast,gL_t (by rw [List.length_map];exact hv) (by rw [segIs_at (map_at hv)];rfl),gF_t (by rw [List.length_map];omega) (by omega) (nm_tx _),Nat.zero_add,hcl,gF_t (by rw [hcl];omega) (by omega) (cE_ok N).nm,Nat.zero_add,keys_len,gF_t (by rw [keys_len];omega) (by omega) (nm_in _),aS_tx hv]
 rw [List.take_of_length_le (by rw [List.length_map];omega),List.take_of_length_le (by omega),List.take_of_length_le (by rw [keys_len];omega),List.getD_eq_getElem?_getD,List.getElem?_eq_getElem hv]
 rfl
theorem rdo_force(hs:SecOk s)(hc:CE c N)(h1:1≤N)(h2:N≤16)(hL:200000<L){n:Int}(n0:0≤n)(nN:n<N){k:Int}(k0:0≤k)(kl:k<s.length){b:ByteArray}(hb:b.size≤512):yDz L (dvN s c N N) n ⟨2,k,b,0⟩=some (dvN (s.set k.toNat b) (cE N) N N,noS,0,()):=by
 have hm:=hs.m
 have hcl:=(cE_ok N).1
 unfold yDz yNh
 rw [do_p0 hs hc h1 h2 hL (Nat.le_refl _) n0 nN (by dsimp only;omega) (by dsimp only;omega)]
 rw [show ∀(α:Type) x ka kb,yHy (α:=α) (n,x,(⟨2,k,b,0⟩:yA5),yAA.z,false,()) ka kb=ka (n,x,⟨2,k,b,0⟩,yAA.z,()) from fun _ _ _ _=>rfl]
 rw [show ∀(α:Type) x ka,yHz (α:=α) (n,x,(⟨2,k,b,0⟩:yA5),yAA.z,()) ka=ka (n,x,⟨2,k,b,0⟩,yAA.z,true,()) from fun _ _ _=>rfl]
 have p3:∀(α:Type) x (ka:_→Option α),yFL (yBU L) (n,x,(⟨2,k,b,0⟩:yA5),yAA.z,true,()) ka=ka (n,x,⟨2,k,b,0⟩,yAA.z,true,false,()):=fun α x ka=>by
  unfold yFL
  dsimp only
  rw [cond_true,bif_f (decide_eq_false (by omega))]
  rfl
 rw [p3]
 rw [show ∀(α:Type) x ka kb,yH0 (α:=α) (n,x,(⟨2,k,b,0⟩:yA5),yAA.z,true,false,()) ka kb=ka (n,x,⟨2,k,b,0⟩,yAA.z,true,()) from fun _ _ _ _=>rfl]
 rw [do_p5 hs hc h1 h2 hL n0 nN (by rfl)]
 have p6:∀(α:Type) (ka:_→Option α),yFM (n,dvN s c N N,(⟨2,k,b,0⟩:yA5),yAA.z,true,()) ka=ka (n,dvN s c N N,⟨2,k,b,0⟩,yAA.z,false,()):=fun α ka=>by
  unfold yFM
  dsimp only
  rw [cond_true,bif_f (decide_eq_false (by omega)),show(dvN s c N N).S=s.map txV from rfl,List.length_map,decide_eq_false (by omega:¬(s.length:Int)≤k)]
 rw [p6]
 rw [show ∀(α:Type) x ka kb,yH2 (α:=α) (n,x,(⟨2,k,b,0⟩:yA5),yAA.z,false,()) ka kb=ka (n,x,⟨2,k,b,0⟩,yAA.z,()) from fun _ _ _ _=>rfl]
 rw [do_p8 hs hc h1 h2 hL]
 dsimp only
 obtain⟨i,rfl⟩:=Int.eq_ofNat_of_zero_le n0
 obtain⟨v,rfl⟩:=Int.eq_ofNat_of_zero_le k0
 have hi:i<N:=by omega
 have hv:v<s.length:=by omega
 have es:(s.map txV).set v (((s.map txV).getD v []).take 0++([V.str b]++((s.map txV).getD v []).drop 1))=(s.set v b).map txV:=by
  rw [List.map_set,getDr_at (map_at hv)];rfl
 rw [hcl,gB_t (by omega) (by omega),Nat.zero_add,Int.toNat_natCast,gL_t (by rw [hcl];exact hi) (by obtain⟨b,hb⟩:=(cE_ok N).at_ hi;rw [segIs_at hb];rfl),gW_t rfl (nm_tx _),gW_t hcl.symm (cE_ok N).nm,gW_t rfl (nm_in _),(cE_ok N).aR hi,do_p9 hs hc h1 h2 hL]
 dsimp only
 rw [bif_f (by rfl),bif_t (by rfl),List.length_map,gB_t (by omega) (by omega),Nat.zero_add,Int.toNat_natCast,gd_t (decide_eq_true hv),gd_t (by rfl),gd_t (by rw [getDr_at (map_at hv)];rfl),bif_f (by rfl),es,Nat.zero_add,
  gF_t (by rw [List.length_map,List.length_set];omega) (by omega) (nm_tx _),hcl,Nat.zero_add,gF_t (by rw [hcl];omega) (by omega) (cE_ok N).nm,keys_len,Nat.zero_add,gF_t (by rw [keys_len];omega) (by omega) (nm_in _)]
 rw [List.take_of_length_le (by rw [List.length_map,List.length_set];omega),List.take_of_length_le (by omega),List.take_of_length_le (by rw [keys_len];omega)]
 rfl
theorem rdo_reg(hs:SecOk s)(hc:CE c N)(h1:1≤N)(h2:N≤16)(hL:200000<L)(hj:j<N):∃b,yDz L (dvN s c N j) j ⟨6,0,noS,0⟩=some (dvN s ((cE N).set j [V.sl [] true]) N (j+1),b,0,()):=by
 have hm:=hs.m
 have hcl:=(cE_ok N).1
 have hj16:j<16:=by omega
 refine⟨bytesS ((putR [] 6 [17*(j:Int)+16]).1.map byV),?_⟩
 unfold yDz yNh
 rw [do_p0 hs hc h1 h2 hL (by omega) (by omega) (by omega) (by dsimp only;omega) (by dsimp only;omega)]
 rw [show ∀(α:Type) x ka kb,yHy (α:=α) ((j:Int),x,(⟨6,0,noS,0⟩:yA5),yAA.z,false,()) ka kb=ka ((j:Int),x,⟨6,0,noS,0⟩,yAA.z,()) from fun _ _ _ _=>rfl]
 rw [show ∀(α:Type) x ka,yHz (α:=α) ((j:Int),x,(⟨6,0,noS,0⟩:yA5),yAA.z,()) ka=ka ((j:Int),x,⟨6,0,noS,0⟩,yAA.z,false,()) from fun _ _ _=>rfl]
 have p3:∀(α:Type) (ka:_→Option α),yFL (yBU L) ((j:Int),dvN s c N j,(⟨6,0,noS,0⟩:yA5),yAA.z,false,()) ka=ka ((j:Int),dvN s c N j,⟨6,0,noS,0⟩,yAA.z,false,false,()):=fun α ka=>by
  unfold yFL
  dsimp only
  rw [cond_false,bif_f (by rfl),bif_t (by rfl),show(dvN s c N j).Next=(j:Int)+1 from rfl,decide_eq_false (by omega:¬68719476736≤(j:Int)+1)]
 rw [p3]
 rw [show ∀(α:Type) x ka kb,yH0 (α:=α) ((j:Int),x,(⟨6,0,noS,0⟩:yA5),yAA.z,false,false,()) ka kb=ka ((j:Int),x,⟨6,0,noS,0⟩,yAA.z,false,()) from fun _ _ _ _=>rfl]
 rw [show ∀(α:Type) f x ka kb,yH1 (α:=α) f ((j:Int),x,(⟨6,0,noS,0⟩:yA5),yAA.z,false,()) ka kb=ka ((j:Int),x,⟨6,0,noS,0⟩,yAA.z,false,()) from fun _ _ _ _ _=>rfl]
 rw [show ∀(α:Type) x ka,yFM (α:=α) ((j:Int),x,(⟨6,0,noS,0⟩:yA5),yAA.z,false,()) ka=ka ((j:Int),x,⟨6,0,noS,0⟩,yAA.z,false,()) from fun _ _ _=>rfl]
 rw [show ∀(α:Type) x ka kb,yH2 (α:=α) ((j:Int),x,(⟨6,0,noS,0⟩:yA5),yAA.z,false,()) ka kb=ka ((j:Int),x,⟨6,0,noS,0⟩,yAA.z,()) from fun _ _ _ _=>rfl]
 rw [do_p8 hs hc h1 h2 hL]
 dsimp only
 have hk:j<((List.range N).map (keyN j)).length:=by rw [List.length_map,List.length_range];exact hj
 have hgk:(((List.range N).map (keyN j)).map inV).getD j []=inV (keyN j j):=by
  rw [getDr_at (map_at hk),List.getElem_map,List.getElem_range]
 have hgc:(cE N).getD j []= [V.sl [] false]:=getDr_at (by unfold cE;rw [List.getElem?_replicate,if_pos hj])
 have ek:(((List.range N).map (keyN j)).map inV).set j (((((List.range N).map (keyN j)).map inV).getD j []).take 0++([V.int .i64 (17*(j:Int)+16)]++((((List.range N).map (keyN j)).map inV).getD j []).drop 1))=((List.range N).map (keyN (j+1))).map inV:=by
  rw [hgk]
  show(((List.range N).map (keyN j)).map inV).set j (inV (17*(j:Int)+16))=_
  rw [←List.map_set]
  congr 1
  refine List.ext_getElem (by rw [List.length_set,List.length_map,List.length_map]) fun i q1 q2=>?_
  rw [List.getElem_set,List.getElem_map,List.getElem_map,List.getElem_range]
  unfold keyN
  by_cases e:j=i
  ·rw [if_pos e,if_pos (by omega),e]
  ·rw [if_neg e]
   by_cases e2:i<j
   ·rw [if_pos e2,if_pos (by omega)]
   ·rw [if_neg e2,if_neg (by omega)]
 have ec:(cE N).set j (((cE N).getD j []).take 0++([V.sl [] true]++((cE N).getD j []).drop 1))=(cE N).set j [V.sl [] true]:=by rw [hgc];rfl
 have ew:w64 (w64 (16*((j:Int)+1))+(j:Int))=17*(j:Int)+16:=by
  rw [w64_t (n:=16*((j:Int)+1)) (by omega) (by omega),w64_t (by omega) (by omega)];omega
 have hce:=cS_ok N j
 have hP:=rPut_eq (L:=L) (by omega) (b:= []) (l:= [17*(j:Int)+16]) 6 (by simp) (by simp;omega)
 have hP:yCA L [] 6 [[V.int .i64 (17*(j:Int)+16)]]=some ((putR [] 6 [17*(j:Int)+16]).1.map byV,(putR [] 6 [17*(j:Int)+16]).2,()):=hP
 rw [hcl,gB_t (by omega) (by omega),Nat.zero_add,Int.toNat_natCast,gL_t (by rw [hcl];exact hj) (by obtain⟨b,hb⟩:=(cE_ok N).at_ hj;rw [segIs_at hb];rfl),gW_t rfl (nm_tx _),gW_t hcl.symm (cE_ok N).nm,gW_t rfl (nm_in _),(cE_ok N).aR hj,do_p9 hs hc h1 h2 hL]
 dsimp only
 rw [bif_f (by rfl),bif_f (by rfl),bif_f (by rfl),bif_f (by rfl),bif_f (by rfl),bif_t (by rfl),keys_len,gB_t (by omega) (by omega),Nat.zero_add,Int.toNat_natCast,gd_t (decide_eq_true hj),gd_t (by rfl),gd_t (by rw [hgk];rfl),hcl,gB_t (by omega) (by omega),gd_t (decide_eq_true hj),gd_t (by rfl),gd_t (by rw [hgc];rfl),gB_t (by omega) (by omega),ew,ek,ec,
  gL_t (by rw [keys_len];exact hj) (by rw [segIs_at (map_at (by rw [List.length_map,List.length_range];exact hj))];rfl),keys_at hj,show keyN (j+1) j=17*(j:Int)+16 by unfold keyN;rw [if_pos (by omega)],hP,bindO_s]
 dsimp only
 rw [gd_t (Nat.ble_eq_true_of_le (by omega)),List.take_length,gd_t (bytesOf_is _),Nat.zero_add,gF_t (by omega) (by rw [List.length_map];omega) (nm_tx _),Nat.zero_add,gF_t (by rw [hce.1];omega) (by omega) hce.nm,gF_t (by rw [keys_len];omega) (by omega) (nm_in _)]
 rw [List.take_length,List.take_of_length_le (by rw [hce.1];omega),List.take_of_length_le (by rw [keys_len];omega),w64_t (by omega) (by omega)]
 rfl
end
def cAll(N:Nat):List (List V):=(cE N).set (N-1) [V.sl [] true]
theorem cAll_ok(N:Nat):CE (cAll N) N:=cS_ok N (N-1)
abbrev dvF(s:List ByteArray)(N:Nat):yAA:=dvN s (cAll N) N N
theorem rnew_eq{L N:Nat}{s:List ByteArray}(hs:SecOk s)(h1:1≤N)(h2:N≤16)(hL:200000<L):∃c,CE c N∧yPZ L N (s.map txV)=some (dvN s c N 0,0,()):=by
 have hm:=hs.m
 have hc:CE (List.replicate N [V.sl [] true]) N:=⟨List.length_replicate ..,fun r hr=>⟨true,List.eq_of_mem_replicate hr⟩⟩
 refine⟨_,hc,?_⟩
 have ek:List.replicate N [V.int .i64 0]=((List.range N).map (keyN 0)).map inV:=by
  refine List.ext_getElem (by simp) fun i h3 h4=>?_
  simp [keyN,inV]
 have hck:=rchk_eq (j:=0) hs hc h1 h2 hL (Nat.zero_le _)
 unfold yPZ yQi
 rw [bif_f (decide_eq_false (by omega)),bif_f (decide_eq_false (by omega)),gd_t (rows_sz 1 fun _=>rfl),gM_t (by rw [List.length_map];omega) (by rw [List.length_map];omega),Int.toNat_natCast,
  gd_t (decide_eq_true (by omega)),gd_t (decide_eq_true (by omega)),gd_t (decide_eq_true (by omega)),gd_t (decide_eq_true (by omega)),gd_t (decide_eq_true (by omega)),gd_t (decide_eq_true (by omega)),gd_t (decide_eq_true (by omega)),gd_t (decide_eq_true (by omega)),
  gF_t (by rw [List.length_map];omega) (by rw [List.length_map];omega) (nm_tx _),gF_t (by rw [hc.1];omega) (by omega) hc.nm,ek,gF_t (by rw [keys_len];omega) (by omega) (nm_in _),
  List.take_of_length_le (by rw [List.length_map];omega),List.take_of_length_le (by rw [hc.1];omega),List.take_of_length_le (by rw [keys_len];omega)]
 show(bindO (yCF L (dvN s (List.replicate N [V.sl [] true]) N 0)) _)=_
 rw [hck,bindO_s,bif_f (by rfl),gF_t (by rw [List.length_map];omega) (by rw [List.length_map];omega) (nm_tx _),gF_t (by rw [hc.1];omega) (by omega) hc.nm,gF_t (by rw [keys_len];omega) (by omega) (nm_in _)]
 rfl
end Go.Proofs.YtakljpcmbpaeaaaGreat

namespace Go.Proofs.YtakljpcmbpaeaaaGreat
open Go.RowKit
section
variable {s:List ByteArray} {c:List (List V)} {N j L:Nat}
end
end Go.Proofs.YtakljpcmbpaeaaaGreat

namespace Go.Proofs.YtakljpcmbpaeaaaGreat
open Go.RowKit
abbrev BigL(L:Nat):Prop:=NeZero (L/200001)
theorem BigL.h{L:Nat}[k:BigL L]:200000<L:=by
 have:=k.out
 rcases Nat.lt_or_ge 200000 L with h | h
 ·exact h
 ·exact absurd (Nat.div_eq_of_lt (by omega)) this
theorem hL10{L:Nat}[BigL L]:10<L:=Nat.lt_of_le_of_lt (by decide) BigL.h
theorem hL3{L:Nat}[BigL L]:1000<L:=Nat.lt_of_le_of_lt (by decide) BigL.h
theorem gF_by{α:Type}{x:Option α}{b:Bs}(h:b.length≤2000000):gF (b.map byV) (b.map byV).length x=x:=gF_t (Nat.le_refl _) (by rw [List.length_map];omega) (nm_by b)
theorem ble_self(n:Nat):Nat.ble n n=true:=Nat.ble_eq_true_of_le (Nat.le_refl n)
end Go.Proofs.YtakljpcmbpaeaaaGreat

namespace Go.Proofs.YtakljpcmbpaeaaaGreat
open Go.RowKit
section
variable {α A B σ β γ:Type}
theorem seek_run{F:σ→(σ→Option α)→(A→Option α)→(B→Option α)→Option α}(l:List β)(p:β→Bool)(st:Nat→σ)(a:A)(b:Nat→B)
  (hF:∀(i:Nat) (h:i<l.length) kn ka kb,F (st i) kn ka kb=bif p l[i] then kb (b i) else kn (st (i+1))) (hE:∀kn ka kb,F (st l.length) kn ka kb=ka a):
  ∀(L k:Nat),k≤l.length→l.length-k<L→(∀j (h:j<l.length),j<k→p l[j]=false)→∀ka kb,loop2 F L (st k) ka kb=match l.findIdx? p with | none=>ka a | some i=>kb (b i)
 | 0,k,h,hL,_,_,_=>absurd hL (Nat.not_lt_zero _)
 | L+1,k,h,hL,hp,ka,kb=>by
   show F (st k) (fun s'=>loop2 F L s' ka kb) ka kb=_
   by_cases hk:k<l.length
   ·rw [hF k hk]
    cases hq:p l[k] with
    | true=>
      have:l.findIdx? p=some k:=List.findIdx?_eq_some_iff_getElem.2 ⟨hk,hq,fun j hj=>by rw [hp j (by omega) hj];simp⟩
      rw [this];rfl
    | false=>
      exact seek_run l p st a b hF hE L (k+1) hk (by omega) (fun j hj hjk=>by
       rcases Nat.lt_or_ge j k with h1 | h1
       ·exact hp j hj h1
       ·obtain rfl:j=k:=by omega
        exact hq) ka kb
   ·obtain rfl:k=l.length:=by omega
    rw [hE]
    have:l.findIdx? p=none:=List.findIdx?_eq_none_iff.2 fun x hx=>by
     obtain⟨j,hj,rfl⟩:=List.getElem_of_mem hx
     exact hp j hj hj
    rw [this]
theorem fold_run{F:σ→(σ→Option α)→(A→Option α)→Option α}(l:List β)(f:γ→β→γ)(P:Nat→γ→Prop)(st:Nat→γ→σ)(fin:γ→A)
  (hF:∀(i:Nat) (h:i<l.length) (g:γ),P i g→P (i+1) (f g l[i])∧∀kn ka,F (st i g) kn ka=kn (st (i+1) (f g l[i]))) (hE:∀g,P l.length g→∀kn ka,F (st l.length g) kn ka=ka (fin g)):
  ∀(L k:Nat),k≤l.length→l.length-k<L→∀g,P k g→P l.length ((l.drop k).foldl f g)∧∀ka,loop1 F L (st k g) ka=ka (fin ((l.drop k).foldl f g))
 | 0,k,h,hL,_,_=>absurd hL (Nat.not_lt_zero _)
 | L+1,k,h,hL,g,hp=>by
   by_cases hk:k<l.length
   ·obtain⟨h1,h2⟩:=hF k hk g hp
    obtain⟨k1,k2⟩:=fold_run l f P st fin hF hE L (k+1) hk (by omega) _ h1
    rw [List.drop_eq_getElem_cons hk,List.foldl_cons]
    refine⟨k1,fun ka=>?_⟩
    show F (st k g) (fun s'=>loop1 F L s' ka) ka=_
    rw [h2];exact k2 ka
   ·obtain rfl:k=l.length:=by omega
    rw [List.drop_length]
    exact⟨hp,fun ka=>hE g hp _ ka⟩
theorem gI_m{l:List β}{e:β→List V}{ks:List Kc}(hk:∀b,rowIs ks [e b] 0=true){i:Nat}(h:i<l.length){x:Option α}:gI (l.map e) ks (i:Int) x=x:=gI_t (by omega) (by rw [List.length_map];omega) (by
 rw [show(i:Int).toNat=i from rfl,rowIs_at ks (show(l.map e)[i]?=some (e l[i]) by rw [List.getElem?_map,List.getElem?_eq_getElem h];rfl)];exact hk _)
theorem cell_m{l:List β}{e:β→List V}{i j:Nat}(h:i<l.length):cell (l.map e) i j=cell [e l[i]] 0 j:=cell_at (by rw [List.getElem?_map,List.getElem?_eq_getElem h];rfl)
theorem nm_m{l:List β}{e:β→List V}(h:∀b,(e b).all (nmB 20)=true):rowsNm (l.map e)=true:=List.all_eq_true.2 fun r hr=>by
 obtain⟨a,_,rfl⟩:=List.mem_map.1 hr
 exact h a
theorem all_m{l:List β}{e:β→List V}{n:Nat}(h:∀b,(e b).length=n):((l.map e).all fun r=>Nat.beq r.length n)=true:=List.all_eq_true.2 fun r hr=>by
 obtain⟨a,_,rfl⟩:=List.mem_map.1 hr
 rw [h a];exact Nat.beq_refl n
theorem gF_m{l:List β}{e:β→List V}{n:Nat}(h:∀b,(e b).all (nmB 20)=true)(hn:n≤l.length)(hl:l.length≤100000){x:Option α}:gF (l.map e) n x=x:=gF_t (by rw [List.length_map];exact hn) (by omega) (nm_m h)
theorem gW_m{l:List β}{e:β→List V}{n:Nat}(h:∀b,(e b).all (nmB 20)=true)(hn:n=l.length){x:Option α}:gW (l.map e) n x=x:=gW_t (by rw [List.length_map];exact hn) (nm_m h)
theorem gM_s{m b:Nat}(h:m≤100000)(hb:b≤1000){x:Option α}:gM m b x=x:=by
 have:m*b≤100000*1000:=Nat.mul_le_mul h hb
 show(bif _ then(bif _ then x else none) else none)=_
 rw [decide_eq_true (show m*b≤140737488355328 by omega),decide_eq_true (show m≤9223372036854775807 by omega)];rfl
theorem gd_beq{n m:Nat}(h:n=m){x:Option α}:gd (Nat.beq n m) x=x:=by subst h;rw [Nat.beq_refl];rfl
theorem gd_ble{n m:Nat}(h:n≤m){x:Option α}:gd (Nat.ble n m) x=x:=by rw [Nat.ble_eq_true_of_le h];rfl
theorem gd_dec{p:Prop}[Decidable p](h:p){x:Option α}:gd (decide p) x=x:=by rw [decide_eq_true h];rfl
theorem take_len{l:List β}{n:Nat}(h:n=l.length):l.take n=l:=by subst h;exact List.take_length
end
end Go.Proofs.YtakljpcmbpaeaaaGreat

namespace Go.Proofs.YtakljpcmbpaeaaaGreat
set_option maxHeartbeats 4000000
open Go.RowKit
abbrev keyP(k:Int):Prop:=16≤k∧k≤1099511627776
def MayC(c:yAE):Prop:=keyP c.By∧1≤c.Serial∧c.Serial≤2147483648∧
 (((c.Kind=0∨c.Kind=1)∧c.Span.Lo=0∧c.Span.Hi=0∧c.Mode=0∧c.Dead=0∧c.Was=0)∨
  (c.Kind=2∧0≤c.Span.Lo∧c.Span.Lo≤c.Span.Hi∧c.Span.Hi<64∧(c.Mode=1∨c.Mode=2)∧c.Dead=0∧c.Was=0)∨
  (c.Kind=3∧0≤c.Span.Lo∧c.Span.Lo≤c.Span.Hi∧c.Span.Hi<64∧c.Mode=0∧c.Dead=0∧c.Was=0)∨
  (c.Kind=4∧c.Span.Lo=0∧c.Span.Hi=0∧c.Mode=0∧keyP c.Dead∧(c.Was=0∨keyP c.Was))∨
  (c.Kind=5∧c.Span.Lo=0∧c.Span.Hi=0∧c.Mode=0∧keyP c.Dead∧c.Was=0))
instance (c:yAE):Decidable (MayC c):=by unfold MayC;exact inferInstance
theorem bindO_id{α:Type}{o:Option α}:(bindO o fun r=>some r)=o:=by cases o <;> rfl
theorem eq_bif{α:Type}{c:Bool}{x y z:α}(h1:c=true→x=z)(h2:c=false→y=z):(bif c then x else y)=z:=by
 cases c with
 | true=>exact h1 rfl
 | false=>exact h2 rfl
theorem some_dec{p:Prop}{inst:Decidable p}{b:Bool}(h:b=true↔p):some b=some (decide p):=by
 congr 1
 cases b with
 | true=>exact(decide_eq_true (h.1 rfl)).symm
 | false=>exact(decide_eq_false fun q=>by have:=h.2 q;cases this).symm
theorem cKey_eq{L:Nat}(k:Int):yHq L k=some (decide (keyP k)):=by
 unfold yHq yNt
 repeat' (refine eq_bif (fun _=>?_) (fun _=>?_))
 all_goals (refine some_dec ?_;simp only [decide_eq_true_eq,decide_eq_false_iff_not] at *;(try simp only [Bool.false_eq_true,false_iff]);unfold keyP;omega)
theorem rKey_eq{L:Nat}(k:Int):yPf L k=some (decide (keyP k)):=by
 unfold yPf yQo
 repeat' (refine eq_bif (fun _=>?_) (fun _=>?_))
 all_goals (refine some_dec ?_;simp only [decide_eq_true_eq,decide_eq_false_iff_not] at *;(try simp only [Bool.false_eq_true,false_iff]);unfold keyP;omega)
theorem cMay_eq{L:Nat}(c:yAE):yMF L c=some (decide (MayC c)):=by
 unfold yMF yNu yGd yHr
 obtain⟨kd,by_,ser,dd,ws,⟨lo,hi⟩,md⟩:=c
 simp only [cKey_eq,bindO_s,bindO_id]
 unfold MayC keyP
 dsimp only
 repeat' (refine eq_bif (fun _=>?_) (fun _=>?_))
 all_goals (refine some_dec ?_;simp only [decide_eq_true_eq,beq_iff_eq,Bool.and_eq_true,Bool.not_eq_true',decide_eq_false_iff_not,Bool.and_true,beq_eq_false_iff_ne,ne_eq,Bool.not_eq_false',Bool.and_eq_false_imp] at *;(try simp only [Bool.false_eq_true,false_iff,true_iff]);omega)
theorem r10May_eq{L:Nat}(c:yAE):yPg L c=some (decide (MayC c)):=by
 unfold yPg yQp
 obtain⟨kd,by_,ser,dd,ws,⟨lo,hi⟩,md⟩:=c
 simp only [rKey_eq,bindO_s]
 unfold MayC keyP
 dsimp only
 repeat' (refine eq_bif (fun _=>?_) (fun _=>?_))
 all_goals (refine some_dec ?_;simp only [decide_eq_true_eq,beq_iff_eq,Bool.and_eq_true,Bool.not_eq_true',decide_eq_false_iff_not,Bool.and_true,beq_eq_false_iff_ne,ne_eq,Bool.not_eq_false',Bool.and_eq_false_imp,beq_self_eq_true,Bool.true_and,not_and] at *;(try simp only [Bool.false_eq_true,false_iff,true_iff]);omega)
theorem mkS_l(l:Bs):(mkS l).data.toList=l:=by simp [mkS]
theorem mkS_n(l:Bs):(mkS l).size=l.length:=by simp [mkS,ByteArray.size]
theorem nGet_mk{L:Nat}(hL:10<L){l:Bs}{a w:Int}(h:l.length≤1000000):yB4 L (mkS l) a w=some ((getS l a w).1,(getS l a w).2,()):=by
 rw [num_Get_eq hL (by rw [mkS_n];omega),mkS_l]
theorem rGet_mk{L:Nat}(hL:10<L){l:Bs}{a w:Int}(h:l.length≤1000000):yDx L (mkS l) a w=some ((getS l a w).1,(getS l a w).2,()):=by
 rw [rGet_eq hL (by rw [mkS_n];omega),mkS_l]
theorem fitsN_of{n:Int}{w:Nat}(h1:1≤w)(h6:w≤6)(h0:0≤n)(hn:n≤mostW w):fitsB n w=true:=by
 unfold fitsB
 exact decide_eq_true ⟨by omega,by omega,h0,by rw [Int.toNat_natCast];exact hn⟩
theorem nGet_le{L w:Nat}(hL:10<L){n:Int}{t:Bs}(h1:1≤w)(h6:w≤6)(h0:0≤n)(hn:n≤mostW w)(ht:t.length≤1000):yB4 L (mkS (leBytes w n.toNat++t)) 0 w=some (n,0,()):=by
 rw [nGet_mk hL (by rw [List.length_append,leBytes_length];omega)]
 have:=getS_put n w t (fitsN_of h1 h6 h0 hn)
 rw [Int.toNat_natCast] at this
 rw [this]
theorem ext_le{w n:Nat}{t:Bs}:(mkS (leBytes w n++t)).extract w (mkS (leBytes w n++t)).size=mkS t:=by
 rw [extract_end,mkS_l,List.drop_left' (leBytes_length w n)]
theorem size_le{w n:Nat}{t:Bs}:((mkS (leBytes w n++t)).size:Int)=w+(t.length:Int):=by
 rw [mkS_n,List.length_append,leBytes_length];omega
theorem most1:mostW 1=255:=by decide
theorem most4:mostW 4=4294967295:=by decide
theorem most6:mostW 6=1099511627776:=by decide
def cmdT(c:yAE):Bs:=
 if c.Kind=2 then leBytes 1 c.Span.Lo.toNat++(leBytes 1 c.Span.Hi.toNat++(leBytes 1 c.Mode.toNat++ []))
 else if c.Kind=3 then leBytes 1 c.Span.Lo.toNat++(leBytes 1 c.Span.Hi.toNat++ [])
 else if c.Kind=4 then leBytes 6 c.Dead.toNat++(leBytes 6 c.Was.toNat++ [])
 else if c.Kind=5 then leBytes 6 c.Dead.toNat++ []
 else []
def cmdL(c:yAE):Bs:=leBytes 1 c.Kind.toNat++(leBytes 6 c.By.toNat++(leBytes 4 c.Serial.toNat++cmdT c))
theorem cmdT_len(c:yAE):(cmdT c).length≤12:=by
 unfold cmdT
 repeat' split
 all_goals simp [leBytes_length]
theorem cmdL_len(c:yAE):(cmdL c).length=11+(cmdT c).length:=by
 unfold cmdL
 simp only [List.length_append,leBytes_length];omega
theorem cRead_enc{L:Nat}(hL:10<L){c:yAE}(h:MayC c):yBB L (mkS (cmdL c))=some (c,0,()):=by
 have hm:=cMay_eq (L:=L) c
 rw [decide_eq_true h] at hm
 have ht:=cmdT_len c
 obtain⟨⟨h1,h2⟩,h3,h4,h5⟩:=h
 have hk:0≤c.Kind∧c.Kind≤5:=by omega
 have g1:yB4 L (mkS (cmdL c)) 0 1=some (c.Kind,0,()):=nGet_le hL (w:=1) (by omega) (by omega) hk.1 (by rw [most1];omega) (by simp only [List.length_append,leBytes_length];omega)
 have e1:(mkS (cmdL c)).extract 1 (mkS (cmdL c)).size=mkS (leBytes 6 c.By.toNat++(leBytes 4 c.Serial.toNat++cmdT c)):=ext_le
 have z1:decide ((1:Int)≤((mkS (cmdL c)).size:Int))=true:=decide_eq_true (by rw [mkS_n,cmdL_len];omega)
 have g2:yB4 L (mkS (leBytes 6 c.By.toNat++(leBytes 4 c.Serial.toNat++cmdT c))) 0 6=some (c.By,0,()):=nGet_le hL (w:=6) (by omega) (by omega) (by omega) (by rw [most6];omega) (by simp only [List.length_append,leBytes_length];omega)
 have e2:(mkS (leBytes 6 c.By.toNat++(leBytes 4 c.Serial.toNat++cmdT c))).extract 6 (mkS (leBytes 6 c.By.toNat++(leBytes 4 c.Serial.toNat++cmdT c))).size=mkS (leBytes 4 c.Serial.toNat++cmdT c):=ext_le
 have z2:decide ((6:Int)≤((mkS (leBytes 6 c.By.toNat++(leBytes 4 c.Serial.toNat++cmdT c))).size:Int))=true:=decide_eq_true (by rw [size_le];omega)
 have g3:yB4 L (mkS (leBytes 4 c.Serial.toNat++cmdT c)) 0 4=some (c.Serial,0,()):=nGet_le hL (w:=4) (by omega) (by omega) (by omega) (by rw [most4];omega) (by omega)
 have e3:(mkS (leBytes 4 c.Serial.toNat++cmdT c)).extract 4 (mkS (leBytes 4 c.Serial.toNat++cmdT c)).size=mkS (cmdT c):=ext_le
 have z3:decide ((4:Int)≤((mkS (leBytes 4 c.Serial.toNat++cmdT c)).size:Int))=true:=decide_eq_true (by rw [size_le];omega)
 have hw:IntKind.i8.wrap (minI false c.Kind 127)=c.Kind:=by
  obtain⟨q1,q2⟩:=hk
  generalize c.Kind=k at*
  obtain⟨n,rfl⟩:=Int.eq_ofNat_of_zero_le q1
  have:n=0∨n=1∨n=2∨n=3∨n=4∨n=5:=by omega
  rcases this with rfl | rfl | rfl | rfl | rfl | rfl <;> rfl
 have z0:((0:Int) !=0)=false:=rfl
 unfold yBB yNB
 simp only [gd,gI,gB,gL,gF,gW,gA,gM,w64,yGB,g1,bindO_s,z0,cond_false,cond_true,z1,e1,yGC,g2,z2,e2,g3,z3,e3,hw]
 have z00:((0:Int)==0)=true:=rfl
 have nn:((mkS []).toList==noS.toList)=true:=beq_self_eq_true (noS.toList)
 obtain⟨kd,by_,ser,dd,ws,⟨lo,hi⟩,md⟩:=c
 dsimp only at*
 have G:∀(wi:Int) (w:Nat) (n:Int) (t:Bs),wi=w→1≤w→w≤6→0≤n→n≤mostW w→t.length≤1000→yB4 L (mkS (leBytes w n.toNat++t)) 0 wi=some (n,0,()):=fun wi w n t hw a b c d e=>by subst hw;exact nGet_le hL a b c d e
 have E:∀{w n:Nat} {t:Bs},(mkS (leBytes w n++t)).extract w (mkS (leBytes w n++t)).size=mkS t:=ext_le
 have Z:∀(wi:Int) (w n:Nat) (t:Bs),wi=w→decide (wi≤((mkS (leBytes w n++t)).size:Int))=true:=fun wi w n t hw=>decide_eq_true (by rw [size_le];omega)
 have W:∀{n:Int},0≤n→n≤2→IntKind.i8.wrap (minI false n 127)=n:=fun {n} q1 q2=>by
  obtain⟨n,rfl⟩:=Int.eq_ofNat_of_zero_le q1
  have:n=0∨n=1∨n=2:=by omega
  rcases this with rfl | rfl | rfl <;> rfl
 rcases h5 with ⟨q0,rfl,rfl,rfl,rfl,rfl⟩ | ⟨rfl,q1,q2,q3,q4,rfl,rfl⟩ | ⟨rfl,q1,q2,q3,rfl,rfl,rfl⟩ | ⟨rfl,rfl,rfl,rfl,q4,q5⟩ | ⟨rfl,rfl,rfl,rfl,q4,rfl⟩
 ·have e:cmdT ⟨kd,by_,ser,0,0,⟨0,0⟩,0⟩= []:=by rcases q0 with rfl | rfl <;> rfl
  rw [e]
  rcases q0 with rfl | rfl
  all_goals
   simp only [gd,gI,gB,gL,gF,gW,gA,gM,w64,yCE,show((0:Int)==2)=false from rfl,show((0:Int)==3)=false from rfl,show((1:Int)==2)=false from rfl,show((1:Int)==3)=false from rfl,cond_false,cond_true,show((0:Int)==4)=false from rfl,show((0:Int)==5)=false from rfl,show((1:Int)==4)=false from rfl,show((1:Int)==5)=false from rfl,nn,Bool.not_true,Bool.not_false,yAG.z,hm,bindO_s]
 ·have e:cmdT ⟨2,by_,ser,0,0,⟨lo,hi⟩,md⟩=leBytes 1 lo.toNat++(leBytes 1 hi.toNat++(leBytes 1 md.toNat++ [])):=rfl
  rw [e]
  have a1:=G 1 1 lo (leBytes 1 hi.toNat++(leBytes 1 md.toNat++ [])) rfl (by omega) (by omega) q1 (by rw [most1];omega) (by simp [leBytes_length])
  have a2:=G 1 1 hi (leBytes 1 md.toNat++ []) rfl (by omega) (by omega) (by omega) (by rw [most1];omega) (by simp [leBytes_length])
  have a3:=G 1 1 md [] rfl (by omega) (by omega) (by omega) (by rw [most1];omega) (by simp)
  have b1:=@E 1 lo.toNat (leBytes 1 hi.toNat++(leBytes 1 md.toNat++ []))
  have b2:=@E 1 hi.toNat (leBytes 1 md.toNat++ [])
  have b3:=@E 1 md.toNat []
  have c1:=Z 1 1 lo.toNat (leBytes 1 hi.toNat++(leBytes 1 md.toNat++ [])) rfl
  have c2:=Z 1 1 hi.toNat (leBytes 1 md.toNat++ []) rfl
  have c3:=Z 1 1 md.toNat [] rfl
  have hwm:=W (n:=md) (by omega) (by omega)
  generalize mkS (leBytes 1 lo.toNat++(leBytes 1 hi.toNat++(leBytes 1 md.toNat++ [])))=s1 at*
  generalize mkS (leBytes 1 hi.toNat++(leBytes 1 md.toNat++ []))=s2 at*
  generalize mkS (leBytes 1 md.toNat++ [])=s3 at*
  simp only [gd,gI,gB,gL,gF,gW,gA,gM,w64,yCE,show((2:Int)==2)=true from rfl,cond_true,cond_false,a1,a2,a3,b1,b2,b3,c1,c2,c3,bindO_s,z0,nn,Bool.not_true,Bool.not_false,hm,hwm]
 ·have e:cmdT ⟨3,by_,ser,0,0,⟨lo,hi⟩,0⟩=leBytes 1 lo.toNat++(leBytes 1 hi.toNat++ []):=rfl
  rw [e]
  have a1:=G 1 1 lo (leBytes 1 hi.toNat++ []) rfl (by omega) (by omega) q1 (by rw [most1];omega) (by simp [leBytes_length])
  have a2:=G 1 1 hi [] rfl (by omega) (by omega) (by omega) (by rw [most1];omega) (by simp)
  have b1:=@E 1 lo.toNat (leBytes 1 hi.toNat++ [])
  have b2:=@E 1 hi.toNat []
  have c1:=Z 1 1 lo.toNat (leBytes 1 hi.toNat++ []) rfl
  have c2:=Z 1 1 hi.toNat [] rfl
  generalize mkS (leBytes 1 lo.toNat++(leBytes 1 hi.toNat++ []))=s1 at*
  generalize mkS (leBytes 1 hi.toNat++ [])=s2 at*
  simp only [gd,gI,gB,gL,gF,gW,gA,gM,w64,yCE,show((3:Int)==2)=false from rfl,show((3:Int)==3)=true from rfl,cond_true,cond_false,a1,a2,b1,b2,c1,c2,bindO_s,z0,nn,Bool.not_true,Bool.not_false,hm]
 ·have e:cmdT ⟨4,by_,ser,dd,ws,⟨0,0⟩,0⟩=leBytes 6 dd.toNat++(leBytes 6 ws.toNat++ []):=rfl
  rw [e]
  have a1:=G 6 6 dd (leBytes 6 ws.toNat++ []) rfl (by omega) (by omega) (by omega) (by rw [most6];omega) (by simp [leBytes_length])
  have a2:=G 6 6 ws [] rfl (by omega) (by omega) (by omega) (by rw [most6];omega) (by simp)
  have b1:=@E 6 dd.toNat (leBytes 6 ws.toNat++ [])
  have b2:=@E 6 ws.toNat []
  have c1:=Z 6 6 dd.toNat (leBytes 6 ws.toNat++ []) rfl
  have c2:=Z 6 6 ws.toNat [] rfl
  generalize mkS (leBytes 6 dd.toNat++(leBytes 6 ws.toNat++ []))=s1 at*
  generalize mkS (leBytes 6 ws.toNat++ [])=s2 at*
  simp only [gd,gI,gB,gL,gF,gW,gA,gM,w64,yCE,show((4:Int)==2)=false from rfl,show((4:Int)==3)=false from rfl,show((4:Int)==4)=true from rfl,cond_true,cond_false,a1,a2,b1,b2,c1,c2,bindO_s,z0,nn,Bool.not_true,Bool.not_false,hm,yAG.z]
 ·have e:cmdT ⟨5,by_,ser,dd,0,⟨0,0⟩,0⟩=leBytes 6 dd.toNat++ []:=rfl
  rw [e]
  have a1:=G 6 6 dd [] rfl (by omega) (by omega) (by omega) (by rw [most6];omega) (by simp)
  have b1:=@E 6 dd.toNat []
  have c1:=Z 6 6 dd.toNat [] rfl
  generalize mkS (leBytes 6 dd.toNat++ [])=s1 at*
  simp only [gd,gI,gB,gL,gF,gW,gA,gM,w64,yCE,show((5:Int)==2)=false from rfl,show((5:Int)==3)=false from rfl,show((5:Int)==4)=false from rfl,show((5:Int)==5)=true from rfl,cond_true,cond_false,a1,b1,c1,bindO_s,z0,nn,Bool.not_true,Bool.not_false,hm,yAG.z]
theorem rPut_le{L w:Nat}(hL:10<L){n wi:Int}{b:Bs}(hw:wi=w)(h1:1≤w)(h6:w≤6)(h0:0≤n)(hn:n≤mostW w)(hb:b.length≤1000):yCA L (b.map byV) wi [[V.int .i64 n]]=some ((b++leBytes w n.toNat).map byV,0,()):=by
 subst hw
 have hp:putR b w [n]=(b++leBytes w n.toNat,0):=by
  unfold putR
  rw [putS_ok h1 h6 (fun t ht=>by obtain rfl:t=0:=by simpa using ht
                                  exact fitsN_of h1 h6 h0 hn)]
  simp [putAll]
 have e: [[V.int .i64 n]]= [n].map inV:=rfl
 rw [e,rPut_eq hL _ (by simp only [List.length_cons,List.length_nil];omega) (by simp only [List.length_cons,List.length_nil];omega),hp]
theorem kind_row{k:Int}(h0:0≤k)(h:k≤5): [[V.int .u8 (IntKind.u8.wrap k)]]=(leBytes 1 k.toNat).map byV:=by
 obtain⟨n,rfl⟩:=Int.eq_ofNat_of_zero_le h0
 have:n=0∨n=1∨n=2∨n=3∨n=4∨n=5:=by omega
 rcases this with rfl | rfl | rfl | rfl | rfl | rfl <;> rfl
theorem rBytes_enc{L:Nat}(hL:10<L){c:yAE}(h:MayC c)(h2:c.Kind≠2)(h3:c.Kind≠3):yB6 L c=some (mkS (cmdL c),0,()):=by
 have hm:=r10May_eq (L:=L) c
 rw [decide_eq_true h] at hm
 have hT:cmdT c=(if c.Kind=4 then leBytes 6 c.Dead.toNat++(leBytes 6 c.Was.toNat++ []) else if c.Kind=5 then leBytes 6 c.Dead.toNat++ [] else []):=by
  unfold cmdT;rw [if_neg h2,if_neg h3]
 have hlen:=cmdL_len c
 have htl:=cmdT_len c
 obtain⟨⟨g1,g2⟩,g3,g4,h5⟩:=h
 have hk:0≤c.Kind∧c.Kind≤5:=by omega
 have p1:=rPut_le hL (w:=6) (wi:=6) (n:=c.By) (b:=leBytes 1 c.Kind.toNat) rfl (by omega) (by omega) (by omega) (by rw [most6];omega) (by rw [leBytes_length];omega)
 have p2:=rPut_le hL (w:=4) (wi:=4) (n:=c.Serial) (b:=leBytes 1 c.Kind.toNat++leBytes 6 c.By.toNat) rfl (by omega) (by omega) (by omega) (by rw [most4];omega) (by simp only [List.length_append,leBytes_length];omega)
 have z2:(c.Kind==2)=false:=by simpa using h2
 have z3:(c.Kind==3)=false:=by simpa using h3
 have fin:∀b:Bs,(bytesOf (b.map byV)).isSome=true:=fun b=>by rw [bytesOf_by];rfl
 have f1:∀{α:Type} (x:Option α),gF ((leBytes 1 c.Kind.toNat++leBytes 6 c.By.toNat).map byV) (((leBytes 1 c.Kind.toNat++leBytes 6 c.By.toNat).map byV).length) x=x:=fun x=>gF_by (by simp only [List.length_append,leBytes_length];omega)
 have f2:∀{α:Type} (x:Option α),gF ((leBytes 1 c.Kind.toNat++leBytes 6 c.By.toNat++leBytes 4 c.Serial.toNat).map byV) (((leBytes 1 c.Kind.toNat++leBytes 6 c.By.toNat++leBytes 4 c.Serial.toNat).map byV).length) x=x:=fun x=>gF_by (by simp only [List.length_append,leBytes_length];omega)
 unfold yB6 yL4
 simp only [f1,f2,gd,Nat.zero_add,ble_self,List.take_length,hm,bindO_s,Bool.not_true,cond_false,kind_row hk.1 hk.2,p1,p2,z2,z3]
 by_cases h4:c.Kind=4
 ·have hp:putR ((leBytes 1 c.Kind.toNat++leBytes 6 c.By.toNat)++leBytes 4 c.Serial.toNat) (6:Int) [c.Dead,c.Was]=((leBytes 1 c.Kind.toNat++leBytes 6 c.By.toNat)++leBytes 4 c.Serial.toNat++(leBytes 6 c.Dead.toNat++leBytes 6 c.Was.toNat),0):=by
    unfold putR
    rw [show(6:Int)=((6:Nat):Int) from rfl,putS_ok (by omega) (by omega) (fun t ht=>by
     match t,ht with
     | 0,_=>exact fitsN_of (by omega) (by omega) (show 0≤c.Dead by omega) (by rw [most6];show c.Dead≤_;omega)
     | 1,_=>exact fitsN_of (by omega) (by omega) (show 0≤c.Was by omega) (by rw [most6];show c.Was≤_;omega))]
    simp [putAll]
  have p3:yCA L (((leBytes 1 c.Kind.toNat++leBytes 6 c.By.toNat)++leBytes 4 c.Serial.toNat).map byV) 6 [[V.int .i64 c.Dead],[V.int .i64 c.Was]]=some (((leBytes 1 c.Kind.toNat++leBytes 6 c.By.toNat)++leBytes 4 c.Serial.toNat++(leBytes 6 c.Dead.toNat++leBytes 6 c.Was.toNat)).map byV,0,()):=by
   have e: [[V.int .i64 c.Dead],[V.int .i64 c.Was]]= [c.Dead,c.Was].map inV:=rfl
   rw [e,rPut_eq hL _ (by simp only [List.length_cons,List.length_nil,List.length_append,leBytes_length];omega) (by simp only [List.length_cons,List.length_nil];omega),hp]
  have z4:(c.Kind==4)=true:=by simpa using h4
  simp only [z4,cond_true,p3,bindO_s,fin,bytesS_by,f2,gd,Nat.zero_add,ble_self,List.take_length]
  unfold cmdL
  rw [hT,if_pos h4,List.append_nil,List.append_assoc,List.append_assoc]
 ·by_cases h5':c.Kind=5
  ·have p3:=rPut_le hL (w:=6) (wi:=6) (n:=c.Dead) (b:=(leBytes 1 c.Kind.toNat++leBytes 6 c.By.toNat)++leBytes 4 c.Serial.toNat) rfl (by omega) (by omega) (by omega) (by rw [most6];omega) (by simp only [List.length_append,leBytes_length];omega)
   have z4:(c.Kind==4)=false:=by simpa using h4
   have z5:(c.Kind==5)=true:=by simpa using h5'
   simp only [z4,z5,cond_false,cond_true,p3,bindO_s,fin,bytesS_by,f2,gd,Nat.zero_add,ble_self,List.take_length]
   rw [show cmdL c=_ from rfl]
   unfold cmdL
   rw [hT,if_neg h4,if_pos h5',List.append_nil,List.append_assoc,List.append_assoc]
  ·have z4:(c.Kind==4)=false:=by simpa using h4
   have z5:(c.Kind==5)=false:=by simpa using h5'
   simp only [z4,z5,cond_false,cond_true,fin,bytesS_by,gd,Nat.zero_add,ble_self,List.take_length]
   unfold cmdL
   rw [hT,if_neg h4,if_neg h5',List.append_nil,List.append_assoc]
theorem getS_mid(p t:Bs){w:Nat}{n a wi:Int}(ha:a=p.length)(hw:wi=w)(h1:1≤w)(h6:w≤6)(h0:0≤n)(hn:n≤mostW w):getS (p++(leBytes w n.toNat++t)) a wi=(n,0):=by
 subst ha hw
 have hf:=fitsN_of h1 h6 h0 hn
 have hl:n.toNat<256^w:=(fits_lt (n:=n.toNat) (w:=w) (by rw [Int.toNat_of_nonneg h0];exact hf)).1
 have h2:n.toNat≤1099511627776:=(fits_lt (n:=n.toNat) (w:=w) (by rw [Int.toNat_of_nonneg h0];exact hf)).2.1
 have e:((p++(leBytes w n.toNat++t)).drop p.length).take w=leBytes w n.toNat:=by
  rw [List.drop_left' rfl,List.take_left' (leBytes_length w _)]
 have el:le (leBytes w n.toNat)=n.toNat:=by rw [le_leBytes,Nat.mod_eq_of_lt hl]
 rw [getS_ok ⟨h1,h6⟩ (by simp only [List.length_append,leBytes_length];omega) (by rw [e,el];exact h2),e,el,Int.toNat_of_nonneg h0]
theorem head_byte{k:Int}{t:Bs}(h0:0≤k)(h:k≤5):((((mkS (leBytes 1 k.toNat++t))[0]?).getD 0).toNat:Int)=k:=by
 obtain⟨n,rfl⟩:=Int.eq_ofNat_of_zero_le h0
 have:n=0∨n=1∨n=2∨n=3∨n=4∨n=5:=by omega
 rcases this with rfl | rfl | rfl | rfl | rfl | rfl <;> rfl
theorem rRead_enc0{L:Nat}(hL:10<L){c:yAE}(h:MayC c)(hk2:c.Kind=0∨c.Kind=1):yEh L (mkS (cmdL c))=some (c,0,()):=by
 have hb:=rBytes_enc hL h (by omega) (by omega)
 have hlen:=cmdL_len c
 have htl:=cmdT_len c
 have hT:cmdT c= []:=by
  unfold cmdT;rw [if_neg (by omega),if_neg (by omega),if_neg (by omega),if_neg (by omega)]
 obtain⟨⟨h1,h2⟩,h3,h4,h5⟩:=h
 have g1:yDx L (mkS (cmdL c)) 1 6=some (c.By,0,()):=by
  rw [rGet_mk hL (by omega)]
  unfold cmdL
  rw [getS_mid (leBytes 1 c.Kind.toNat) (leBytes 4 c.Serial.toNat++cmdT c) (w:=6) (n:=c.By) (a:=1) (wi:=6) (by rw [leBytes_length];rfl) rfl (by omega) (by omega) (by omega) (by rw [most6];omega)]
 have g2:yDx L (mkS (cmdL c)) 7 4=some (c.Serial,0,()):=by
  rw [rGet_mk hL (by omega)]
  unfold cmdL
  rw [←List.append_assoc,getS_mid (leBytes 1 c.Kind.toNat++leBytes 6 c.By.toNat) (cmdT c) (w:=4) (n:=c.Serial) (a:=7) (wi:=4) (by simp [leBytes_length]) rfl (by omega) (by omega) (by omega) (by rw [most4];omega)]
 have hh:((((mkS (cmdL c))[0]?).getD 0).toNat:Int)=c.Kind:=head_byte (by omega) (by omega)
 have hw:IntKind.i8.wrap c.Kind=c.Kind:=by rcases hk2 with e | e <;> rw [e] <;> rfl
 have he:(mkS (cmdL c)).extract 11 (mkS (cmdL c)).size=mkS []:=by
  rw [extract_end,mkS_l]
  refine congrArg mkS (List.drop_eq_nil_of_le ?_)
  rw [hlen,hT]
  exact Nat.le_of_eq rfl
 have s0:((mkS (cmdL c)).size:Int)=11:=by rw [mkS_n,hlen,hT];rfl
 have z0:((0:Int) !=0)=false:=rfl
 have k2:(c.Kind==2)=false:=by simp;omega
 have k3:(c.Kind==3)=false:=by simp;omega
 have k4:(c.Kind==4)=false:=by simp;omega
 have k5:(c.Kind==5)=false:=by simp;omega
 have k127:decide (127<c.Kind)=false:=decide_eq_false (by omega)
 have se:((mkS []).size:Int)=0:=rfl
 obtain⟨kd,by_,ser,dd,ws,⟨lo,hi⟩,md⟩:=c
 dsimp only at*
 have:lo=0∧hi=0∧md=0∧dd=0∧ws=0:=by omega
 obtain⟨rfl,rfl,rfl,rfl,rfl⟩:=this
 unfold yEh yM0
 simp only [gd,gI,gB,gL,gF,gW,gA,gM,w64,s0,show decide ((11:Int)<11)=false from rfl,show decide ((0:Int)<11)=true from rfl,show decide ((11:Int)≤11)=true from rfl,cond_false,cond_true,g1,g2,bindO_s,z0,hh,hw,k2,k3,k4,k5,k127,he,yAG.z,hb]
 rw [beq_self_eq_true]
 rfl
end Go.Proofs.YtakljpcmbpaeaaaGreat

namespace Go.Proofs.YtakljpcmbpaeaaaGreat
open Go.RowKit
theorem set_tx{l:List ByteArray}{i:Nat}{b:ByteArray}(hi:i<l.length):(l.map txV).set (0+i) (((l.map txV).getD (0+i) []).take 0++([V.str b]++((l.map txV).getD (0+i) []).drop 1))=(l.set i b).map txV:=by
 rw [Nat.zero_add,List.getD_eq_getElem?_getD,List.getElem?_map,List.getElem?_eq_getElem hi,List.map_set]
 rfl
theorem geo_i64{x:yAN}(h:(geoOf x).may=true):i64b x.Wait=true:=by
 have:=(Geo.may_ok h).e3
 have h2:=(Geo.may_ok h).e2
 have h1:=(Geo.may_ok h).e1
 have this:x.Wait≤1048576:=this
 have h2:x.Lease<x.Wait:=h2
 have h1:1≤x.Lease:=h1
 unfold i64b
 rw [decide_eq_true (by omega),decide_eq_true (by omega)];rfl
set_option maxHeartbeats 1000000 in
theorem Format_eq{L:Nat}{x:yAN}(hm:(geoOf x).may=true)(hL:200000<L):∃top hd:ByteArray,top.size≤512∧hd.size≤512∧yK4 L x=some ((heads (geoOf x) top hd x.Slots.toNat).map txV,0,()):=by
 have hok:=Geo.may_ok hm
 obtain⟨xb,hxb,hxl⟩:=sBytes_ok hok
 obtain⟨xh,hxh,hhl⟩:=head_make (n:=0) (by omega) (by omega)
 refine⟨mkS xb,mkS xh,by rw [mkS_n];exact hxl,by rw [mkS_n];exact hhl,?_⟩
 have hB:yMU L x=some (mkS xb,0,()):=by
  unfold yMU yOA
  rw [rMay_eq,hm,bindO_s,bif_f (by rfl)]
  have:=rMake_eq (L:=L) (k:=1) (rest:=noS) (ws:=geoW) (l:=geoL (geoOf x)) (by omega) (by show(8:Nat)<L;omega) (by omega) (by show(8:Nat)≤_;omega) (by show(0:Nat)≤_;omega)
  rw [show noS.data.toList= [] from rfl,hxb] at this
  exact(congrArg (fun o=>bindO o fun r2=>some (r2.1,r2.2.1,())) this).trans rfl
 have hH:yNg L 0=some (mkS xh,0,()):=by
  unfold yNg yPY
  have:=rMake_eq (L:=L) (k:=2) (rest:=noS) (ws:= [6]) (l:= [0]) (by omega) (by show(1:Nat)<L;omega) (by omega) (by show(1:Nat)≤_;omega) (by show(0:Nat)≤_;omega)
  rw [show noS.data.toList= [] from rfl,hxh] at this
  exact(congrArg (fun o=>bindO o fun r1=>some (r1.1,r1.2.1,())) this).trans rfl
 have hbd:=total_bd hok
 have hat:=hok.sj
 have hT:yDI L x=some (geoOf x).total:=by
  rw [rTotal_eq]
  unfold Geo.totalS
  rw [if_pos hm]
 have hD0:0<(geoOf x).atD:=by unfold Geo.atD;have:=hok.n1;have:=hok.l1;have:=hok.s1;omega
 generalize hn:(geoOf x).total=t at*
 obtain⟨n,rfl⟩:=Int.eq_ofNat_of_zero_le (show 0≤t by omega)
 have h0n:0<n:=by omega
 unfold yK4 yNL
 rw [hB,hH]
 simp only [bindO_s,hT,show((0:Int) !=0)=false from rfl,cond_false]
 rw [gd_t (decide_eq_true (by omega)),gd_t (decide_eq_true (by omega)),gd_t (decide_eq_true (by omega)),gd_t (decide_eq_true (by omega)),gd_t (decide_eq_true (by omega))]
 have hr:List.replicate (n:Int).toNat [V.str noS]=(List.replicate n (⟨#[]⟩:ByteArray)).map txV:=by rw [Int.toNat_natCast,List.map_replicate];rfl
 rw [hr]
 have h1:(((List.replicate n (⟨#[]⟩:ByteArray)).map txV).set 0 ((((List.replicate n (⟨#[]⟩:ByteArray)).map txV).getD 0 []).take 0++([V.str (mkS xb)]++(((List.replicate n (⟨#[]⟩:ByteArray)).map txV).getD 0 []).drop 1)))=(heads (geoOf x) (mkS xb) (mkS xh) 0).map txV:=by
  have:=set_tx (l:=List.replicate n (⟨#[]⟩:ByteArray)) (i:=0) (b:=mkS xb) (by rw [List.length_replicate];exact h0n)
  rw [this]
  unfold heads
  rw [hn,Int.toNat_natCast]
 rw [h1]
 have hrow:Nat.ble 1 (((List.replicate n (⟨#[]⟩:ByteArray)).map txV).getD 0 []).length=true:=by
  rw [List.getD_eq_getElem?_getD,List.getElem?_map,List.getElem?_replicate,if_pos h0n];rfl
 rw [gd_t (decide_eq_true (by rw [List.length_map,List.length_replicate];exact h0n)),gd_t hrow,gW_t (by rw [List.length_map,heads_len,hn]) (nm_tx _)]
 generalize mkS xb=top
 generalize mkS xh=hd
 obtain⟨s,hs⟩:=Int.eq_ofNat_of_zero_le (show 0≤x.Slots by have:=hok.s1;exact Int.le_trans (by omega) this)
 have hs16:s≤16:=by have h1:=hok.s2;have h2:=hok.n2;have h1:x.Slots≤x.Nodes:=h1;have h2:x.Nodes≤16:=h2;omega
 obtain⟨a,ha,hrun⟩:=loop1_run (α:=List (List V)×Int×Unit) (F:=yDJ (yGi L)) (fun q=>x=q.1∧hd=q.2.1∧∃j:Nat,j≤s∧(j:Int)=q.2.2.2.1∧(heads (geoOf x) top hd j).map txV=q.2.2.1) (fun q=>s-q.2.2.2.1.toNat)
  (fun a=>a.1=(heads (geoOf x) top hd s).map txV) (fun q hq=>by
    obtain⟨q1,q2,q3,q4,q5⟩:=q
    dsimp only at hq
    obtain⟨rfl,rfl,j,hj,rfl,rfl⟩:=hq
    by_cases hlt:j<s
    ·have hh:(geoOf x).headS j=1+2*x.Nodes+x.Log+j*(1+x.Journal):=by
       unfold Geo.headS
       rw [if_pos ⟨hm,by omega,by show(j:Int)<x.Slots;omega⟩]
       rfl
     have hle:(geoOf x).headS j<n:=by
      rw [hh,←hn]
      have hb1:=hok.b1;have hp1:=hok.p1;have hj1:=hok.j1
      have e1:((j:Int)+1)*(1+x.Journal)≤x.Slots*(1+x.Journal):=Int.mul_le_mul_of_nonneg_right (by omega) (by have hj1:x.Per+2≤x.Journal:=hj1;have hp1:1≤x.Per:=hp1;omega)
      rw [Int.add_mul] at e1
      have e2:0≤x.Blocks*x.Per:=Int.mul_nonneg (by have hb1:1≤x.Blocks:=hb1;omega) (by have hp1:1≤x.Per:=hp1;omega)
      show _<1+2*x.Nodes+x.Log+x.Slots*(1+x.Journal)+x.Blocks*x.Per
      have hj1:x.Per+2≤x.Journal:=hj1
      have hp1:1≤x.Per:=hp1
      omega
     have hh0:0≤(geoOf x).headS j:=by
      rw [hh]
      have:0≤(j:Int)*(1+x.Journal):=Int.mul_nonneg (by omega) (by have hj1:=hok.j1;have hp1:=hok.p1;have hj1:x.Per+2≤x.Journal:=hj1;have hp1:1≤x.Per:=hp1;omega)
      have h1:=hok.n1;have h2:=hok.l1;have h3:=hok.s1
      have h1:1≤x.Nodes:=h1
      have h2:8*x.Slots≤x.Log:=h2
      have h3:1≤x.Slots:=h3
      omega
     refine .inl ⟨(x,hd,(heads (geoOf x) top hd (j+1)).map txV,((j+1:Nat):Int),()),⟨rfl,rfl,j+1,hlt,rfl,rfl⟩,by dsimp only;omega,fun kn ka=>?_⟩
     have hlen:((heads (geoOf x) top hd j).map txV).length=n:=by rw [List.length_map,heads_len,hn,Int.toNat_natCast]
     have hset:=set_tx (l:=heads (geoOf x) top hd j) (i:=((geoOf x).headS j).toNat) (b:=hd) (by rw [heads_len,hn];omega)
     have hHd:yGi L x j=some ((geoOf x).headS j):=rHead_eq x j
     unfold yDJ
     dsimp only
     rw [bif_t (decide_eq_true (by omega)),hHd,bindO_s,gB_t hh0 (by rw [hlen];exact hle)]
     rw [hset,gd_t (decide_eq_true (by rw [hlen];omega)),gd_t (Nat.ble_eq_true_of_le (Nat.zero_le _)),gd_t (by
      rw [List.getD_eq_getElem?_getD,List.getElem?_map,List.getElem?_eq_getElem (by rw [heads_len,hn];omega)];rfl),gW_t (by rw [List.length_map,List.length_map,List.length_set]) (nm_tx _)]
     rw [w64_t (by omega) (by omega)]
     rfl
    ·obtain rfl:j=s:=by omega
     refine .inr ⟨((heads (geoOf x) top hd j).map txV,()),rfl,fun kn ka=>?_⟩
     unfold yDJ
     dsimp only
     rw [bif_f (decide_eq_false (by omega)),gW_t rfl (nm_tx _)])
  L (x,hd,(heads (geoOf x) top hd 0).map txV,0,()) ⟨rfl,rfl,0,Nat.zero_le _,rfl,rfl⟩ (by dsimp only;omega)
 rw [hrun]
 obtain⟨a1,a2⟩:=a
 dsimp only at ha ⊢
 subst ha
 rw [gF_t (by omega) (by rw [List.length_map,heads_len,hn];omega) (nm_tx _),List.take_length]
 rw [show x.Slots.toNat=s by omega]
end Go.Proofs.YtakljpcmbpaeaaaGreat

namespace Go.Proofs.YtakljpcmbpaeaaaGreat
open Go.RowKit
theorem heads_blank{g:Geo}(h:g.OK)(top hd:ByteArray){k:Nat}(k1:1≤k)(k2:(k:Int)<g.atJ):∀j:Nat,(heads g top hd j).getD k noS=noS
 | 0=>by
   unfold heads
   rw [List.getD_eq_getElem?_getD,List.getElem?_set_ne (by omega),List.getElem?_replicate]
   split <;> rfl
 | j+1=>by
   unfold heads
   have hne:(g.headS j).toNat≠k:=by
    unfold Geo.headS
    split
    ·have:0≤(j:Int)*(1+g.journal):=Int.mul_nonneg (by omega) (by have:=h.j1;have:=h.p1;omega)
     unfold Geo.atJ at*
     omega
    ·omega
   rw [List.getD_eq_getElem?_getD,List.getElem?_set_ne hne,←List.getD_eq_getElem?_getD]
   exact heads_blank h top hd k1 k2 j
structure First (g:Geo) (s:List ByteArray):Prop where
 ok:SecOk s
 len:(s.length:Int)=g.total
 no:∀k:Nat,1≤k→(k:Int)<g.atJ→s.getD k noS=noS
set_option maxHeartbeats 1000000 in
theorem made_eq{L:Nat}{x:yAN}(hm:(geoOf x).may=true)(hL:200000<L):∃s,First (geoOf x) s∧yJl L x=some (dvF s x.Nodes.toNat,true,()):=by
 have hok:=Geo.may_ok hm
 obtain⟨top,hd,h1,h2,hF⟩:=Format_eq (L:=L) hm hL
 have hbd:=total_bd hok
 have hat:=hok.sj
 have hlen:=heads_len (geoOf x) top hd x.Slots.toNat
 have hA:0<(geoOf x).atD:=by unfold Geo.atD;have:=hok.n1;have:=hok.l1;have:=hok.s1;omega
 have n1:=hok.n1
 have n2:=hok.n2
 have n1:1≤x.Nodes:=n1
 have n2:x.Nodes≤16:=n2
 generalize hs:heads (geoOf x) top hd x.Slots.toNat=s at*
 have hS:SecOk s:=⟨by omega,by omega,by rw [←hs];exact heads_size h1 h2 _⟩
 refine⟨s,⟨hS,by omega,fun k k1 k2=>by rw [←hs];exact heads_blank hok top hd k1 k2 _⟩,?_⟩
 obtain⟨N,hN⟩:=Int.eq_ofNat_of_zero_le (show 0≤x.Nodes by omega)
 have hNn:x.Nodes.toNat=N:=by omega
 rw [hNn]
 unfold yJl yPI
 rw [hF,bindO_s]
 obtain⟨c0,hc0,hnew⟩:=rnew_eq (L:=L) hS (N:=N) (by omega) (by omega) hL
 rw [hN,hnew,bif_f (by rfl),bindO_s]
 obtain⟨a,ha,hrun⟩:=loop1_run (α:=yAA×Bool×Unit) (F:=yDs (yDz L)) (fun q=>x=q.1∧q.2.2.1=0∧∃j:Nat,j≤N∧(j:Int)=q.2.2.2.2.1∧∃c,CE c N∧(j=N→c=cAll N)∧dvN s c N j=q.2.2.2.1) (fun q=>N-q.2.2.2.2.1.toNat)
  (fun a=>a.2.1=0∧a.2.2.1=dvF s N) (fun q hq=>by
    obtain⟨q1,q2,q3,q4,q5,q6⟩:=q
    dsimp only at hq
    obtain⟨rfl,rfl,j,hj,rfl,c,hc,hcN,rfl⟩:=hq
    by_cases hlt:j<N
    ·obtain⟨b,hb⟩:=rdo_reg hS hc (by omega) (by omega) hL hlt
     refine .inl ⟨(x,q2,0,dvN s ((cE N).set j [V.sl [] true]) N (j+1),((j+1:Nat):Int),()),⟨rfl,rfl,j+1,hlt,rfl,_,cS_ok N j,fun e=>by rw [←e];rfl,rfl⟩,by dsimp only;omega,fun kn ka=>?_⟩
     unfold yDs
     dsimp only
     rw [bif_t (decide_eq_true (by omega)),bif_t (by rfl),hb,bindO_s]
     dsimp only
     rw [w64_t (by omega) (by omega)]
     rfl
    ·obtain rfl:j=N:=by omega
     refine .inr ⟨(q2,0,dvF s j,()),⟨rfl,rfl⟩,fun kn ka=>?_⟩
     unfold yDs
     dsimp only
     rw [bif_f (decide_eq_false (by omega)),hcN rfl])
  L (x,yAA.z,0,dvN s c0 N 0,0,()) ⟨rfl,rfl,0,Nat.zero_le _,rfl,c0,hc0,fun e=>by omega,rfl⟩ (by dsimp only;omega)
 show loop1 (yDs (yDz L)) L (x,yAA.z,0,dvN s c0 N 0,0,()) _=_
 rw [hrun]
 obtain⟨a1,a2,a3,a4⟩:=a
 obtain⟨rfl,rfl⟩:=ha
 rfl
end Go.Proofs.YtakljpcmbpaeaaaGreat

namespace Go.Proofs.YtakljpcmbpaeaaaGreat
open Go.RowKit
def recAt(r:yBG)(k:Int):yBG:=if r.Inst=k then r else⟨k,r.Mbal,0,noS⟩
def tBegin(o:yBG)(seen:Int):yAg:=⟨o.Inst,o.Mbal,o.Bal,o.Val,max seen o.Mbal,false,false⟩
def tCount(t:yAg)(r:yBG):yAg:=
 ⟨t.Inst,t.Mbal,if r.Inst=t.Inst∧t.Best<r.Bal then r.Bal else t.Best,if r.Inst=t.Inst∧t.Best<r.Bal then r.Val else t.Val,max t.Seen r.Mbal,t.Ahead || decide (t.Inst<r.Inst),t.Lost || (decide (r.Inst=t.Inst)&&decide (t.Mbal<r.Mbal))⟩
def others(node k:Int):Int:=if k=node then k+1 else k
def pAnew(p:yAR):yAR:=⟨p.Node,p.Cmd,0,0,yBG.z,⟨0,0,0,noS,p.T.Seen,false,false⟩⟩
def tStops(t:yAg):Bool:=t.Ahead || t.Lost
def pNext(N:Int)(p:yAR)(k:Int):yAR:=
 if others p.Node k<N then⟨p.Node,p.Cmd,p.At,others p.Node k,p.Own,p.T⟩
 else if tStops p.T then pAnew p
 else if p.At=5 then⟨p.Node,p.Cmd,6,others p.Node k,p.Own,p.T⟩
 else⟨p.Node,p.Cmd,4,others p.Node k,⟨p.Own.Inst,p.Own.Mbal,p.Own.Mbal,if 0<p.T.Best then p.T.Val else p.Cmd⟩,p.T⟩
def pWrote(N:Int)(p:yAR):yAR:=pNext N ⟨p.Node,p.Cmd,p.At+1,p.I,p.Own,tBegin p.Own p.T.Seen⟩ 0
def pCounts(N:Int)(p:yAR)(r:yBG):yAR:=pNext N ⟨p.Node,p.Cmd,p.At,p.I,p.Own,tCount p.T r⟩ (p.I+1)
structure PX where
 p:yAR
 done:Int
 ser:Int
 on:Bool
structure PW where
 rc:Int→yBG
 log:Int→Option ByteArray
 x:Int→PX
 vt:Int→Int→Option (ByteArray×Int)
 ch:Int→Int→Prop
variable (N:Int) (idn ids:ByteArray→Int)
def upd{α:Type}(f:Int→α)(n:Int)(a:α):Int→α:=fun m=>if m=n then a else f m
theorem upd_same{α:Type}(f:Int→α)(n:Int)(a:α):upd f n a n=a:=if_pos rfl
theorem upd_other{α:Type}(f:Int→α){n m:Int}(a:α)(h:m≠n):upd f n a m=f m:=if_neg h
structure KK (W:PW) (k b m:Int):Prop where
 v:∀b' v c,b'%16=m→b<b'→W.vt k b'=some (v,c)→b≤c
 s:(W.x m).on=true→(W.x m).done=k→(W.x m).p.At=4→b<(W.x m).p.Own.Mbal→b≤(W.x m).p.T.Best
 r:(W.x m).on=true→(W.x m).done=k→(W.x m).p.At=3→b<(W.x m).p.Own.Mbal→tStops (W.x m).p.T=false→b%16<(W.x m).p.I→b≤(W.x m).p.T.Best
structure Nd1 (W:PW) (n:Int):Prop where
 rb:0≤(W.rc n).Bal∧(W.rc n).Bal≤(W.rc n).Mbal
 rm:(W.rc n).Mbal=0∨(W.rc n).Mbal%16=n
 rl:∀j,0≤j→j<(W.rc n).Inst→W.log j≠none
 ri:0≤(W.rc n).Inst
 rv:0<(W.rc n).Bal→∃c,W.vt (W.rc n).Inst (W.rc n).Bal=some ((W.rc n).Val,c)
 d0:0≤(W.x n).done
 dl:∀j,0≤j→j<(W.x n).done→W.log j≠none
structure Nd2 (W:PW) (n:Int):Prop where
 node:(W.x n).p.Node=n
 at_:0≤(W.x n).p.At∧(W.x n).p.At≤6
 le:1≤(W.x n).p.At→(W.rc n).Inst≤(W.x n).done
 cmd:idn (W.x n).p.Cmd=n∧ids (W.x n).p.Cmd=(W.x n).ser
 a2:(W.x n).p.At=2→(W.rc n).Mbal<(W.x n).p.Own.Mbal∧(W.x n).p.Own.Mbal%16=n∧(W.x n).p.Own=⟨(W.x n).done,(W.x n).p.Own.Mbal,(recAt (W.rc n) (W.x n).done).Bal,(recAt (W.rc n) (W.x n).done).Val⟩
 a3:3≤(W.x n).p.At→(W.rc n).Inst=(W.x n).done∧(W.x n).p.Own.Inst=(W.x n).done∧(W.x n).p.Own.Mbal=(W.rc n).Mbal∧(W.x n).p.T.Inst=(W.x n).done∧(W.x n).p.T.Mbal=(W.rc n).Mbal∧(W.rc n).Mbal%16=n∧0<(W.rc n).Mbal
 a34:3≤(W.x n).p.At→(W.x n).p.At≤4→(W.rc n).Bal<(W.rc n).Mbal∧(W.rc n).Bal≤(W.x n).p.T.Best∧(tStops (W.x n).p.T=false→(W.x n).p.T.Best<(W.rc n).Mbal)∧(0<(W.x n).p.T.Best→∃c,W.vt (W.x n).done (W.x n).p.T.Best=some ((W.x n).p.T.Val,c))
 a4:(W.x n).p.At=4→tStops (W.x n).p.T=false∧(W.x n).p.Own.Bal=(W.rc n).Mbal∧(W.x n).p.Own.Val=(if 0<(W.x n).p.T.Best then(W.x n).p.T.Val else(W.x n).p.Cmd)
 a56:5≤(W.x n).p.At→W.rc n=(W.x n).p.Own∧(W.rc n).Bal=(W.rc n).Mbal
 a3o:(W.x n).p.At=3→W.rc n=(W.x n).p.Own
 rd:(W.x n).p.At=3∨(W.x n).p.At=5→0≤(W.x n).p.I∧(W.x n).p.I<N∧(W.x n).p.I≠n
 a5:(W.x n).p.At=5→tStops (W.x n).p.T=false→∀m,0≤m→m<N→m≠n→m<(W.x n).p.I→KK W (W.x n).done (W.rc n).Mbal m
 a6:(W.x n).p.At=6→W.ch (W.x n).done (W.rc n).Mbal
structure Vt1 (W:PW) (k b:Int) (v:ByteArray) (c:Int):Prop where
 b0:0<b
 n:b%16<N
 k0:0≤k
 ri:k≤(W.rc (b%16)).Inst
 rb:b≤(W.rc (b%16)).Mbal
 re:k=(W.rc (b%16)).Inst→b≤(W.rc (b%16)).Bal
 ba:c=0∨0<c∧c<b∧∃c',W.vt k c=some (v,c')
 same:∀b' v' c',W.vt k b'=some (v',c')→b'%16=b%16→b'<b→b'≤c
 id0:0≤idn v∧idn v<N∧ids v≤(W.x (idn v)).ser
 idd:(W.x (idn v)).on=true→ids v=(W.x (idn v)).ser→k≤(W.x (idn v)).done∧(k<(W.x (idn v)).done→∃w,W.log k=some w∧¬(idn w=idn v∧ids w=ids v))
 idu:∀i b' v' c',W.vt i b'=some (v',c')→idn v'=idn v→ids v'=ids v→i<k→∃w,W.log i=some w∧¬(idn w=idn v∧ids w=ids v)
structure PInv (W:PW):Prop where
 nd:∀n,0≤n→n<N→Nd1 W n
 on:∀n,0≤n→n<N→(W.x n).on=true→Nd2 N idn ids W n
 vo:∀k b v c,W.vt k b=some (v,c)→Vt1 N idn ids W k b v c
 cv:∀k b,W.ch k b→∃v c,W.vt k b=some (v,c)
 ck:∀k b m,W.ch k b→0≤m→m<N→m≠b%16→KK W k b m
 lg:∀k v,W.log k=some v→∃b c,W.ch k b∧W.vt k b=some (v,c)
variable {N idn ids}
theorem PInv.agree{W:PW}(h:PInv N idn ids W){k b:Int}{v:ByteArray}{c:Int}(hc:W.ch k b)(hv:W.vt k b=some (v,c)):
  ∀(g:Nat) (b':Int) (v':ByteArray) (c':Int),b'.toNat≤g→b≤b'→W.vt k b'=some (v',c')→v'=v
 | 0,b',v',c',hg,hb,hv'=>by
   have:=(h.vo k b' v' c' hv').b0
   omega
 | g+1,b',v',c',hg,hb,hv'=>by
   by_cases he:b=b'
   ·subst he
    rw [hv] at hv'
    injection hv' with hv'
    injection hv' with h1 h2
    exact h1.symm
   have V:=h.vo k b' v' c' hv'
   have V0:=h.vo k b v c hv
   have hle:b≤c':=by
    by_cases hs:b%16=b'%16
    ·exact V.same b v c hv hs (by omega)
    ·exact(h.ck k b (b'%16) hc (by omega) V.n (by omega)).v b' v' c' rfl (by omega) hv'
   rcases V.ba with h0 | ⟨h1,h2,c2,h3⟩
   ·have:=V0.b0
    omega
   ·exact PInv.agree h hc hv g c' v' c2 (by omega) hle h3
theorem PInv.one{W:PW}(h:PInv N idn ids W){k b b':Int}{v v':ByteArray}{c c':Int}(hc:W.ch k b)(hc':W.ch k b')(hv:W.vt k b=some (v,c))(hv':W.vt k b'=some (v',c')):v=v':=by
 rcases Int.le_total b b' with hb | hb
 ·exact(h.agree hc hv b'.toNat b' v' c' (Nat.le_refl _) hb hv').symm
 ·exact h.agree hc' hv' b.toNat b v c (Nat.le_refl _) hb hv
theorem PInv.apart{W:PW}(h:PInv N idn ids W){i k:Int}{v w:ByteArray}(hi:W.log i=some v)(hk:W.log k=some w)(hn:idn v=idn w)(hs:ids v=ids w):i=k:=by
 have aux:∀{i k:Int} {v w:ByteArray},W.log i=some v→W.log k=some w→idn v=idn w→ids v=ids w→¬i<k:=fun {i k v w} hi hk hn hs hlt=>by
  obtain⟨b,c,_,h1⟩:=h.lg i v hi
  obtain⟨b',c',_,h2⟩:=h.lg k w hk
  obtain⟨u,h3,h4⟩:=(h.vo k b' w c' h2).idu i b v c h1 hn hs hlt
  rw [hi] at h3
  injection h3 with h3
  subst h3
  exact h4 ⟨hn,hs⟩
 have h1:=aux hi hk hn hs
 have h2:=aux hk hi hn.symm hs.symm
 omega
theorem KK.other{W W':PW}{k b m n:Int}(h:KK W k b m)(hm:m≠n)(hx:W'.x m=W.x m)(hv:∀k b p,W'.vt k b=some p→W.vt k b=some p∨b%16=n):KK W' k b m:=
 ⟨fun b' v c h1 h2 h3=>(hv _ _ _ h3).elim (fun q=>h.v b' v c h1 h2 q) fun q=>absurd (h1.symm.trans q) hm,by rw [hx];exact h.s,by rw [hx];exact h.r⟩
theorem Nd1.mono{W W':PW}{m:Int}(h:Nd1 W m)(hr:W'.rc m=W.rc m)(hx:W'.x m=W.x m)(hl:∀k v,W.log k=some v→W'.log k=some v)(hv:∀k b p,W.vt k b=some p→W'.vt k b=some p):Nd1 W' m:=by
 have hl':∀j,W.log j≠none→W'.log j≠none:=fun j hj=>by
  cases h1:W.log j with
  | none=>exact absurd h1 hj
  | some v=>rw [hl j v h1];simp
 refine⟨by rw [hr];exact h.rb,by rw [hr];exact h.rm,fun j h1 h2=>hl' j (h.rl j h1 (by rw [hr] at h2;exact h2)),by rw [hr];exact h.ri,fun h1=>?_,by rw [hx];exact h.d0,fun j h1 h2=>hl' j (h.dl j h1 (by rw [hx] at h2;exact h2))⟩
 rw [hr] at h1 ⊢
 obtain⟨c,hc⟩:=h.rv h1
 exact⟨c,hv _ _ _ hc⟩
theorem Nd2.mono{W W':PW}{m:Int}(h:Nd2 N idn ids W m)(hr:W'.rc m=W.rc m)(hx:W'.x m=W.x m)(hv:∀k b p,W.vt k b=some p→W'.vt k b=some p)(hc:∀k b,W.ch k b→W'.ch k b)
  (hk:∀m',0≤m'→m'<N→m'≠m→(W.x m).p.At=5→KK W (W.x m).done (W.rc m).Mbal m'→KK W' (W.x m).done (W.rc m).Mbal m'):Nd2 N idn ids W' m:=by
 refine⟨?_,?_,?_,?_,?_,?_,?_,?_,?_,?_,?_,?_,?_⟩ <;> rw [hx] <;> try rw [hr]
 ·exact h.node
 ·exact h.at_
 ·exact h.le
 ·exact h.cmd
 ·exact h.a2
 ·exact h.a3
 ·intro h1 h2
  obtain⟨k1,k2,k3,k4⟩:=h.a34 h1 h2
  refine⟨k1,k2,k3,fun h3=>?_⟩
  obtain⟨c,q⟩:=k4 h3
  exact⟨c,hv _ _ _ q⟩
 ·exact h.a4
 ·exact h.a56
 ·exact h.a3o
 ·exact h.rd
 ·intro h1 h2 m' h3 h4 h5 h6
  exact hk m' h3 h4 h5 h1 (h.a5 h1 h2 m' h3 h4 h5 h6)
 ·exact fun h1=>hc _ _ (h.a6 h1)
theorem PInv.step{W W':PW}(h:PInv N idn ids W)(n:Int)(hn0:0≤n)(hnN:n<N)(hN:N≤16)(hx:∀m,m≠n→W'.x m=W.x m)(hr:∀m,m≠n→W'.rc m=W.rc m)
  (hl:∀k v,W.log k=some v→W'.log k=some v) (hv:∀k b p,W.vt k b=some p→W'.vt k b=some p) (hv':∀k b p,W'.vt k b=some p→W.vt k b=some p∨b%16=n)
  (hc:∀k b,W.ch k b→W'.ch k b) (h1:Nd1 W' n) (h2:(W'.x n).on=true→Nd2 N idn ids W' n) (h3:∀k b v c,W'.vt k b=some (v,c)→Vt1 N idn ids W' k b v c)
  (h4:∀k b,0≤b%16→b%16<N→b%16≠n→k≤(W.rc (b%16)).Inst→(k=(W.rc (b%16)).Inst→b≤(W.rc (b%16)).Bal)→KK W k b n→KK W' k b n)
  (h5:∀k b,W'.ch k b→W.ch k b∨((∃v c,W'.vt k b=some (v,c))∧∀m,0≤m→m<N→m≠b%16→KK W' k b m)) (h6:∀k v,W'.log k=some v→W.log k=some v∨∃b c,W'.ch k b∧W'.vt k b=some (v,c)):PInv N idn ids W':=by
 have hk:∀k b m,0≤b%16→b%16<N→m≠b%16→k≤(W.rc (b%16)).Inst→(k=(W.rc (b%16)).Inst→b≤(W.rc (b%16)).Bal)→KK W k b m→KK W' k b m:=fun k b m q1 q2 q3 q4 q5 K=>by
  by_cases hm:m=n
  ·subst hm
   exact h4 k b q1 q2 (fun e=>q3 e.symm) q4 q5 K
  ·exact K.other hm (hx m hm) hv'
 refine⟨fun m hm0 hmN=>?_,fun m hm0 hmN hon=>?_,h3,fun k b hcb=>?_,fun k b m hcb hm0 hmN hne=>?_,fun k v hkv=>?_⟩
 ·by_cases hm:m=n
  ·subst hm;exact h1
  ·exact(h.nd m hm0 hmN).mono (hr m hm) (hx m hm) hl hv
 ·by_cases hm:m=n
  ·subst hm;exact h2 hon
  ·rw [hx m hm] at hon
   have H2:=h.on m hm0 hmN hon
   have H1:=h.nd m hm0 hmN
   refine H2.mono (hr m hm) (hx m hm) hv hc fun m' k0 kN kne h5' K=>?_
   obtain⟨a1,a2,a3,a4,a5,a6,a7⟩:=H2.a3 (by omega)
   have a8:=H2.a56 (by omega)
   exact hk _ _ m' (by omega) (by omega) (by omega) (by rw [a6];omega) (fun _=>by rw [a6,a8.2];exact Int.le_refl _) K
 ·rcases h5 k b hcb with q | ⟨q,-⟩
  ·obtain⟨v,c,q⟩:=h.cv k b q
   exact⟨v,c,hv _ _ _ q⟩
  ·exact q
 ·rcases h5 k b hcb with q | ⟨-,q⟩
  ·obtain⟨v,c,hq⟩:=h.cv k b q
   have V:=h.vo k b v c hq
   exact hk k b m (by have:=V.b0;omega) V.n hne V.ri V.re (h.ck k b m q hm0 hmN hne)
  ·exact q m hm0 hmN hne
 ·rcases h6 k v hkv with q | q
  ·obtain⟨b,c,q1,q2⟩:=h.lg k v q
   exact⟨b,c,hc _ _ q1,hv _ _ _ q2⟩
  ·exact q
theorem Vt1.stay{W W':PW}{k b:Int}{v:ByteArray}{c:Int}(h:Vt1 N idn ids W k b v c)(n:Int)(hx:∀m,m≠n→W'.x m=W.x m)(hr:∀m,m≠n→W'.rc m=W.rc m)
  (hl:∀k v,W.log k=some v→W'.log k=some v) (hv:W'.vt=W.vt) (hri:(W.rc n).Inst≤(W'.rc n).Inst) (hrm:(W.rc n).Mbal≤(W'.rc n).Mbal) (hrb:(W.rc n).Inst=(W'.rc n).Inst→(W.rc n).Bal≤(W'.rc n).Bal)
  (hs:(W.x n).ser≤(W'.x n).ser) (hd:(W'.x n).on=true→ids v=(W'.x n).ser→idn v=n→k≤(W'.x n).done∧(k<(W'.x n).done→∃w,W'.log k=some w∧¬(idn w=idn v∧ids w=ids v))):Vt1 N idn ids W' k b v c:=by
 have hR:(W.rc (b%16)).Inst≤(W'.rc (b%16)).Inst∧(W.rc (b%16)).Mbal≤(W'.rc (b%16)).Mbal∧((W.rc (b%16)).Inst=(W'.rc (b%16)).Inst→(W.rc (b%16)).Bal≤(W'.rc (b%16)).Bal):=by
  by_cases hm:b%16=n
  ·rw [hm];exact⟨hri,hrm,hrb⟩
  ·rw [hr _ hm];exact⟨Int.le_refl _,Int.le_refl _,fun _=>Int.le_refl _⟩
 have h1:=h.ri;have h2:=h.rb;have h3:=h.re
 refine⟨h.b0,h.n,h.k0,by omega,by omega,fun e=>?_,by rw [hv];exact h.ba,by rw [hv];exact h.same,?_,?_,?_⟩
 ·have:=h3 (by omega)
  have:=hR.2.2 (by omega)
  omega
 ·refine⟨h.id0.1,h.id0.2.1,?_⟩
  by_cases hm:idn v=n
  ·rw [hm];have:=h.id0.2.2;rw [hm] at this;omega
  ·rw [hx _ hm];exact h.id0.2.2
 ·by_cases hm:idn v=n
  ·intro q1 q2
   rw [hm] at q1 q2 ⊢
   have:=hd q1 q2 hm
   rw [hm] at this
   exact this
  ·rw [hx _ hm]
   intro q1 q2
   obtain⟨q3,q4⟩:=h.idd q1 q2
   refine⟨q3,fun q5=>?_⟩
   obtain⟨w,q6,q7⟩:=q4 q5
   exact⟨w,hl _ _ q6,q7⟩
 ·rw [hv]
  intro i b' v' c' q1 q2 q3 q4
  obtain⟨w,q6,q7⟩:=h.idu i b' v' c' q1 q2 q3 q4
  exact⟨w,hl _ _ q6,q7⟩
def stX(W:PW)(n:Int)(X:PX):PW:=⟨W.rc,W.log,upd W.x n X,W.vt,W.ch⟩
theorem KK.quiet{W W':PW}{k b n:Int}(h:KK W k b n)(hv:W'.vt=W.vt)(hq:(W'.x n).on=true→(W'.x n).p.At≠3∧(W'.x n).p.At≠4):KK W' k b n:=
 ⟨by rw [hv];exact h.v,fun h1 _ h3 _=>absurd h3 (hq h1).2,fun h1 _ h3 _ _ _=>absurd h3 (hq h1).1⟩
theorem PInv.stx{W:PW}(h:PInv N idn ids W)(n:Int)(hn0:0≤n)(hnN:n<N)(hN:N≤16)(X:PX)(hs:(W.x n).ser≤X.ser)(hd0:0≤X.done)(hdl:∀j,0≤j→j<X.done→W.log j≠none)
  (h2:X.on=true→Nd2 N idn ids (stX W n X) n)
  (hi:∀k b v c,W.vt k b=some (v,c)→X.on=true→ids v=X.ser→idn v=n→k≤X.done∧(k<X.done→∃w,W.log k=some w∧¬(idn w=idn v∧ids w=ids v)))
  (h4:∀k b,0≤b%16→b%16<N→b%16≠n→k≤(W.rc (b%16)).Inst→(k=(W.rc (b%16)).Inst→b≤(W.rc (b%16)).Bal)→KK W k b n→KK (stX W n X) k b n):PInv N idn ids (stX W n X):=by
 have e:(stX W n X).x n=X:=upd_same _ _ _
 have o:∀m,m≠n→(stX W n X).x m=W.x m:=fun m hm=>upd_other _ _ hm
 have H:=h.nd n hn0 hnN
 refine h.step (W':=stX W n X) n hn0 hnN hN o (fun _ _=>rfl) (fun _ _ q=>q) (fun _ _ _ q=>q) (fun _ _ _ q=> .inl q) (fun _ _ q=>q) ⟨H.rb,H.rm,H.rl,H.ri,H.rv,by rw [e];exact hd0,by rw [e];exact hdl⟩ (fun q=>h2 (by rw [e] at q;exact q))
  (fun k b v c q=>(h.vo k b v c q).stay n o (fun _ _=>rfl) (fun _ _ q=>q) rfl (Int.le_refl _) (Int.le_refl _) (fun _=>Int.le_refl _) (by rw [e];exact hs) (by rw [e];exact hi k b v c q)) h4 (fun k b q=> .inl q) (fun k v q=> .inl q)
theorem PInv.crash{W:PW}(h:PInv N idn ids W)(n:Int)(hn0:0≤n)(hnN:n<N)(hN:N≤16)(X:PX)(hs:(W.x n).ser≤X.ser)(hd:X.done=0)(ho:X.on=false):PInv N idn ids (stX W n X):=
 h.stx n hn0 hnN hN X hs (by omega) (fun j h1 h2=>by omega) (fun q=>by rw [ho] at q;cases q) (fun k b v c _ q=>by rw [ho] at q;cases q) fun k b _ _ _ _ _ K=>K.quiet rfl fun q=>by
  rw [show(stX W n X).x n=X from upd_same _ _ _,ho] at q;cases q
theorem PInv.off{W:PW}(h:PInv N idn ids W)(n:Int)(hn0:0≤n)(hnN:n<N)(hN:N≤16)(X:PX)(hs:(W.x n).ser≤X.ser)(hd:X.done=(W.x n).done)(ho:X.on=false):PInv N idn ids (stX W n X):=by
 have H:=h.nd n hn0 hnN
 exact h.stx n hn0 hnN hN X hs (by rw [hd];exact H.d0) (by rw [hd];exact H.dl) (fun q=>by rw [ho] at q;cases q) (fun k b v c _ q=>by rw [ho] at q;cases q) fun k b _ _ _ _ _ K=>K.quiet rfl fun q=>by
  rw [show(stX W n X).x n=X from upd_same _ _ _,ho] at q;cases q
theorem Nd2.z{W:PW}{n:Int}(hp:(W.x n).p.Node=n)(ha:(W.x n).p.At=0)(hc:idn (W.x n).p.Cmd=n∧ids (W.x n).p.Cmd=(W.x n).ser):Nd2 N idn ids W n:=
 ⟨hp,by omega,fun q=>by omega,hc,fun q=>by omega,fun q=>by omega,fun q=>by omega,fun q=>by omega,fun q=>by omega,fun q=>by omega,fun q=>by omega,fun q=>by omega,fun q=>by omega⟩
theorem PInv.begin{W:PW}(h:PInv N idn ids W)(n:Int)(hn0:0≤n)(hnN:n<N)(hN:N≤16)(X:PX)(hs:(W.x n).ser<X.ser)(hd:X.done=(W.x n).done)(hp:X.p.Node=n)(ha:X.p.At=0)(hc:idn X.p.Cmd=n∧ids X.p.Cmd=X.ser):PInv N idn ids (stX W n X):=by
 have H:=h.nd n hn0 hnN
 have e:(stX W n X).x n=X:=upd_same _ _ _
 refine h.stx n hn0 hnN hN X (by omega) (by rw [hd];exact H.d0) (by rw [hd];exact H.dl) (fun q=> .z (by rw [e];exact hp) (by rw [e];exact ha) (by rw [e];exact hc)) (fun k b v c q1 _ q2 q3=>?_) fun k b _ _ _ _ _ K=>K.quiet rfl fun q=>by
  rw [e,ha];omega
 have:=(h.vo k b v c q1).id0.2.2
 rw [q3] at this
 omega
theorem PInv.logged{W:PW}(h:PInv N idn ids W)(n:Int)(hn0:0≤n)(hnN:n<N)(hN:N≤16)(ho:(W.x n).on=true)(u:ByteArray)(hu:W.log (W.x n).done=some u)(X:PX)(hs:X.ser=(W.x n).ser)(hd:X.done=(W.x n).done+1)
  (hp:X.p.Node=n) (ha:X.p.At=0) (hc:X.p.Cmd=(W.x n).p.Cmd) (hon:X.on=true→¬(idn u=n∧ids u=(W.x n).ser)):PInv N idn ids (stX W n X):=by
 have H:=h.nd n hn0 hnN
 have H2:=h.on n hn0 hnN ho
 have e:(stX W n X).x n=X:=upd_same _ _ _
 have d0:=H.d0
 refine h.stx n hn0 hnN hN X (by omega) (by omega) (fun j h1 h2=>?_) (fun q=> .z (by rw [e];exact hp) (by rw [e];exact ha) (by rw [e,hc,hs];exact H2.cmd)) (fun k b v c q1 q q2 q3=>?_) fun k b _ _ _ _ _ K=>K.quiet rfl fun q=>by
  rw [e,ha];omega
 ·by_cases hj:j=(W.x n).done
  ·rw [hj,hu];simp
  ·exact H.dl j h1 (by omega)
 ·have V:=(h.vo k b v c q1).idd (by rw [q3];exact ho) (by rw [q3,q2,hs])
  rw [q3] at V
  refine⟨by omega,fun q4=>?_⟩
  by_cases hk:k=(W.x n).done
  ·refine⟨u,by rw [hk];exact hu,fun q5=>hon q ⟨by rw [q5.1,q3],by rw [q5.2,q2,hs]⟩⟩
  ·obtain⟨w,r1,r2⟩:=V.2 (by omega)
   exact⟨w,r1,by rw [q3];exact r2⟩
theorem PInv.free{W:PW}(h:PInv N idn ids W)(n:Int)(hn0:0≤n)(hnN:n<N)(hN:N≤16)(ho:(W.x n).on=true)(hu:W.log (W.x n).done=none)(X:PX)(hs:X.ser=(W.x n).ser)(hd:X.done=(W.x n).done)
  (hp:X.p.Node=n) (ha:X.p.At=1) (hc:X.p.Cmd=(W.x n).p.Cmd):PInv N idn ids (stX W n X):=by
 have H:=h.nd n hn0 hnN
 have H2:=h.on n hn0 hnN ho
 have e:(stX W n X).x n=X:=upd_same _ _ _
 refine h.stx n hn0 hnN hN X (by omega) (by rw [hd];exact H.d0) (by rw [hd];exact H.dl) (fun q=>?_) (fun k b v c q1 q q2 q3=>?_) fun k b _ _ _ _ _ K=>K.quiet rfl fun q=>by
  rw [e,ha];omega
 ·refine⟨by rw [e];exact hp,by rw [e];omega,fun _=>?_,by rw [e,hc,hs];exact H2.cmd,fun q=>?_,fun q=>?_,fun q=>?_,fun q=>?_,fun q=>?_,fun q=>?_,fun q=>?_,fun q=>?_,fun q=>?_⟩ <;> rw [e] at* <;> try omega
  rw [hd]
  show(W.rc n).Inst≤_
  by_cases hle:(W.rc n).Inst≤(W.x n).done
  ·exact hle
  ·exact absurd hu (H.rl _ H.d0 (by omega))
 ·have V:=(h.vo k b v c q1).idd (by rw [q3];exact ho) (by rw [q3,q2,hs])
  rw [q3] at V ⊢
  rw [hd];exact V
theorem PInv.own{W:PW}(h:PInv N idn ids W)(n:Int)(hn0:0≤n)(hnN:n<N)(hN:N≤16)(ho:(W.x n).on=true)(hat:(W.x n).p.At=1)(X:PX)(hs:X.ser=(W.x n).ser)(hd:X.done=(W.x n).done)
  (hp:X.p.Node=n) (ha:X.p.At=2) (hc:X.p.Cmd=(W.x n).p.Cmd) (hm:(W.rc n).Mbal<X.p.Own.Mbal) (hmn:X.p.Own.Mbal%16=n)
  (hown:X.p.Own=⟨(W.x n).done,X.p.Own.Mbal,(recAt (W.rc n) (W.x n).done).Bal,(recAt (W.rc n) (W.x n).done).Val⟩):PInv N idn ids (stX W n X):=by
 have H:=h.nd n hn0 hnN
 have H2:=h.on n hn0 hnN ho
 have e:(stX W n X).x n=X:=upd_same _ _ _
 refine h.stx n hn0 hnN hN X (by omega) (by rw [hd];exact H.d0) (by rw [hd];exact H.dl) (fun q=>?_) (fun k b v c q1 q q2 q3=>?_) fun k b _ _ _ _ _ K=>K.quiet rfl fun q=>by
  rw [e,ha];omega
 ·refine⟨by rw [e];exact hp,by rw [e];omega,fun _=>?_,by rw [e,hc,hs];exact H2.cmd,fun q=>?_,fun q=>?_,fun q=>?_,fun q=>?_,fun q=>?_,fun q=>?_,fun q=>?_,fun q=>?_,fun q=>?_⟩ <;> rw [e] at* <;> try omega
  ·rw [hd];exact H2.le (by omega)
  ·exact⟨hm,hmn,by rw [hd];exact hown⟩
 ·have V:=(h.vo k b v c q1).idd (by rw [q3];exact ho) (by rw [q3,q2,hs])
  rw [q3] at V ⊢
  rw [hd];exact V
theorem others_ge{n k:Int}:k≤others n k∧others n k≤k+1∧others n k≠n:=by
 unfold others
 split <;> omega
theorem Nd2.next3{W:PW}{n k:Int}(H:Nd1 W n){p:yAR}(he:(W.x n).p=pNext N p k)(hk:0≤k)(hat:p.At=3)(hnode:p.Node=n)(hcmd:idn p.Cmd=n∧ids p.Cmd=(W.x n).ser)(hown:W.rc n=p.Own)
  (hinst:(W.rc n).Inst=(W.x n).done) (ti:p.T.Inst=(W.x n).done) (tm:p.T.Mbal=(W.rc n).Mbal) (hm:(W.rc n).Mbal%16=n) (hm0:0<(W.rc n).Mbal) (hb:(W.rc n).Bal<(W.rc n).Mbal) (hbb:(W.rc n).Bal≤p.T.Best)
  (hs:tStops p.T=false→p.T.Best<(W.rc n).Mbal) (hv:0<p.T.Best→∃c,W.vt (W.x n).done p.T.Best=some (p.T.Val,c)):Nd2 N idn ids W n:=by
 obtain⟨o1,o2,o3⟩:=@others_ge p.Node k
 unfold pNext at he
 by_cases h1:others p.Node k<N
 ·rw [if_pos h1] at he
  constructor <;> rw [he] <;> try (intro q;first | (exact absurd q (by dsimp only;omega)) | skip)
  ·exact hnode
  ·dsimp only;omega
  ·omega
  ·exact hcmd
  ·dsimp only;rw [←hown];exact⟨hinst,hinst,rfl,ti,tm,hm,hm0⟩
  ·exact fun _=>⟨hb,hbb,hs,hv⟩
  ·exact hown
  ·dsimp only;rw [hnode] at *;omega
 ·rw [if_neg h1] at he
  by_cases h2:tStops p.T=true
  ·rw [if_pos h2] at he
   exact .z (by rw [he];exact hnode) (by rw [he];rfl) (by rw [he];exact hcmd)
  ·have h2':tStops p.T=false:=by simpa using h2
   rw [if_neg h2,if_neg (by omega)] at he
   constructor <;> rw [he] <;> try (intro q;first | (exact absurd q (by dsimp only;omega)) | skip)
   ·exact hnode
   ·dsimp only;omega
   ·omega
   ·exact hcmd
   ·dsimp only;rw [←hown];exact⟨hinst,hinst,rfl,ti,tm,hm,hm0⟩
   ·exact fun _=>⟨hb,hbb,hs,hv⟩
   ·exact⟨h2',by dsimp only;rw [hown],rfl⟩
theorem Nd2.next5{W:PW}{n k:Int}(H:Nd1 W n){p:yAR}(he:(W.x n).p=pNext N p k)(hk:0≤k)(hat:p.At=5)(hnode:p.Node=n)(hcmd:idn p.Cmd=n∧ids p.Cmd=(W.x n).ser)(hown:W.rc n=p.Own)
  (hinst:(W.rc n).Inst=(W.x n).done) (ti:p.T.Inst=(W.x n).done) (tm:p.T.Mbal=(W.rc n).Mbal) (hm:(W.rc n).Mbal%16=n) (hm0:0<(W.rc n).Mbal) (hb:(W.rc n).Bal=(W.rc n).Mbal)
  (hK:tStops p.T=false→∀m,0≤m→m<N→m≠n→m<others n k→KK W (W.x n).done (W.rc n).Mbal m) (hch:(W.x n).p.At=6→W.ch (W.x n).done (W.rc n).Mbal):Nd2 N idn ids W n:=by
 obtain⟨o1,o2,o3⟩:=@others_ge p.Node k
 unfold pNext at he
 by_cases h1:others p.Node k<N
 ·rw [if_pos h1] at he
  constructor <;> rw [he] <;> try (intro q;first | (exact absurd q (by dsimp only;omega)) | skip)
  ·exact hnode
  ·dsimp only;omega
  ·omega
  ·exact hcmd
  ·dsimp only;rw [←hown];exact⟨hinst,hinst,rfl,ti,tm,hm,hm0⟩
  ·exact fun q2=>absurd q2 (by dsimp only;omega)
  ·exact⟨hown,hb⟩
  ·dsimp only;rw [hnode] at *;omega
  ·dsimp only;rw [hnode];exact hK
 ·rw [if_neg h1] at he
  by_cases h2:tStops p.T=true
  ·rw [if_pos h2] at he
   exact .z (by rw [he];exact hnode) (by rw [he];rfl) (by rw [he];exact hcmd)
  ·rw [if_neg h2,if_pos hat] at he
   have hch:=hch (by rw [he])
   constructor <;> rw [he] <;> try (intro q;first | (exact absurd q (by dsimp only;omega)) | skip)
   ·exact hnode
   ·dsimp only;omega
   ·omega
   ·exact hcmd
   ·dsimp only;rw [←hown];exact⟨hinst,hinst,rfl,ti,tm,hm,hm0⟩
   ·exact fun q2=>absurd q2 (by dsimp only;omega)
   ·exact⟨hown,hb⟩
   ·exact hch
theorem oth0{n m N:Int}(h0:0≤n)(hm0:0≤m)(hmN:m<N)(hne:m≠n):¬m<others n 0∧others n 0<N:=by
 unfold others
 split <;> omega
theorem oth1{n m k:Int}(hne:m≠n)(h:m<others n (k+1))(hk:k≠n):m<k∨m=k:=by
 unfold others at h
 split at h <;> omega
theorem pNext_at{N:Int}{p:yAR}{k:Int}:(pNext N p k).At=(if others p.Node k<N then p.At else if tStops p.T then 0 else if p.At=5 then 6 else 4):=by
 unfold pNext pAnew
 split
 ·rfl
 split
 ·rfl
 split <;> rfl
theorem pNext_T{N:Int}{p:yAR}{k:Int}(h:(pNext N p k).At≠0):(pNext N p k).T=p.T:=by
 rw [pNext_at] at h
 unfold pNext
 split
 ·rfl
 rename_i h1
 rw [if_neg h1] at h
 split
 ·rename_i h2
  rw [if_pos h2] at h
  exact absurd rfl h
 ·split <;> rfl
theorem pNext_I{N:Int}{p:yAR}{k:Int}(h:(pNext N p k).At≠0):(pNext N p k).I=others p.Node k:=by
 rw [pNext_at] at h
 unfold pNext
 split
 ·rfl
 rename_i h1
 rw [if_neg h1] at h
 split
 ·rename_i h2
  rw [if_pos h2] at h
  exact absurd rfl h
 ·split <;> rfl
theorem pNext_M{N:Int}{p:yAR}{k:Int}(h:(pNext N p k).At≠0):(pNext N p k).Own.Mbal=p.Own.Mbal:=by
 rw [pNext_at] at h
 unfold pNext
 split
 ·rfl
 rename_i h1
 rw [if_neg h1] at h
 split
 ·rename_i h2
  rw [if_pos h2] at h
  exact absurd rfl h
 ·split <;> rfl
theorem tCount_best{t:yAg}{r:yBG}:t.Best≤(tCount t r).Best:=by
 unfold tCount
 dsimp only
 split <;> omega
theorem tCount_stops{t:yAg}{r:yBG}(h:tStops (tCount t r)=false):tStops t=false∧r.Inst≤t.Inst∧(r.Inst=t.Inst→r.Mbal≤t.Mbal):=by
 unfold tStops tCount at h
 simp only [Bool.or_eq_false_iff,Bool.and_eq_false_iff,decide_eq_false_iff_not] at h
 obtain⟨⟨h1,h2⟩,h3,h4⟩:=h
 refine⟨by unfold tStops;rw [h1,h3];rfl,by omega,fun e=>?_⟩
 rcases h4 with h4 | h4
 ·exact absurd e h4
 ·omega
theorem PInv.wrote1{W:PW}(h:PInv N idn ids W)(n:Int)(hn0:0≤n)(hnN:n<N)(hN:N≤16)(ho:(W.x n).on=true)(hat:(W.x n).p.At=2)(X:PX)(hs:X.ser=(W.x n).ser)(hd:X.done=(W.x n).done)(hp:X.p=pWrote N (W.x n).p):
  PInv N idn ids ⟨upd W.rc n (W.x n).p.Own,W.log,upd W.x n X,W.vt,W.ch⟩:=by
 have H:=h.nd n hn0 hnN
 have H2:=h.on n hn0 hnN ho
 obtain⟨m1,m2,m3⟩:=H2.a2 hat
 have hle:=H2.le (by omega)
 generalize hW:(⟨upd W.rc n (W.x n).p.Own,W.log,upd W.x n X,W.vt,W.ch⟩:PW)=W'
 have e:W'.x n=X:=by rw [←hW];exact upd_same _ _ _
 have er:W'.rc n=(W.x n).p.Own:=by rw [←hW];exact upd_same _ _ _
 have o:∀m,m≠n→W'.x m=W.x m:=fun m hm=>by rw [←hW];exact upd_other _ _ hm
 have or':∀m,m≠n→W'.rc m=W.rc m:=fun m hm=>by rw [←hW];exact upd_other _ _ hm
 have el:W'.log=W.log:=by rw [←hW]
 have ev:W'.vt=W.vt:=by rw [←hW]
 have ec:W'.ch=W.ch:=by rw [←hW]
 clear hW
 have rb:=H.rb
 have oi:(W.x n).p.Own.Inst=(W.x n).done:=by rw [m3]
 have ob:(W.x n).p.Own.Bal=(recAt (W.rc n) (W.x n).done).Bal:=by rw [m3]
 have oval:(W.x n).p.Own.Val=(recAt (W.rc n) (W.x n).done).Val:=by rw [m3]
 have hb:0≤(W.x n).p.Own.Bal∧(W.x n).p.Own.Bal≤(W.rc n).Mbal:=by
  rw [ob];unfold recAt;split
  ·exact rb
  ·dsimp only;omega
 have hv:0<(W.x n).p.Own.Bal→∃c,W.vt (W.x n).done (W.x n).p.Own.Bal=some ((W.x n).p.Own.Val,c):=by
  rw [ob,oval];unfold recAt;split
  ·rename_i hi
   rw [←hi];exact H.rv
  ·dsimp only;omega
 have hN1:Nd1 W' n:=by
  refine⟨?_,?_,?_,?_,?_,?_,?_⟩ <;> (try rw [er]) <;> (try rw [e]) <;> (try rw [el]) <;> (try rw [ev])
  ·omega
  ·exact .inr m2
  ·rw [oi];exact H.dl
  ·rw [oi];exact H.d0
  ·rw [oi];exact hv
  ·rw [hd];exact H.d0
  ·rw [hd];exact H.dl
 refine h.step n hn0 hnN hN o or' (fun k v q=>by rw [el];exact q) (fun _ _ _ q=>by rw [ev];exact q) (fun _ _ _ q=> .inl (by rw [ev] at q;exact q)) (fun _ _ q=>by rw [ec];exact q) hN1 (fun _=>?_) (fun k b v c q=>?_) (fun k b b0 bN bn b1 b2 K=>?_) (fun k b q=> .inl (by rw [ec] at q;exact q)) (fun k v q=> .inl (by rw [el] at q;exact q))
 ·refine Nd2.next3 hN1 (p:=⟨(W.x n).p.Node,(W.x n).p.Cmd,(W.x n).p.At+1,(W.x n).p.I,(W.x n).p.Own,tBegin (W.x n).p.Own (W.x n).p.T.Seen⟩) (by rw [e,hp];rfl) (Int.le_refl _) (by dsimp only;omega) H2.node (by rw [e,hs];exact H2.cmd) er (by rw [er,e,hd];exact oi) (by rw [e,hd];exact oi) (by rw [er];rfl) (by rw [er];exact m2) (by rw [er];omega) (by rw [er];omega) (by rw [er];exact Int.le_refl _) (fun _=>by rw [er];show(W.x n).p.Own.Bal<_;omega) (by rw [e,ev,hd];exact hv)
 ·rw [ev] at q
  have V:=h.vo k b v c q
  refine V.stay n o or' (fun k v q=>by rw [el];exact q) ev (by rw [er,oi];exact hle) (by rw [er];omega) (fun q=>?_) (by rw [e,hs];exact Int.le_refl _) (fun q1 q2 q3=>?_)
  ·rw [er,oi] at q
   rw [er,ob];unfold recAt;rw [if_pos q];exact Int.le_refl _
  ·rw [e,hs] at q2
   have:=V.idd (by rw [q3];exact ho) (by rw [q3];exact q2)
   rw [e,hd,el]
   rw [q3] at this ⊢
   exact this
 ·obtain⟨z1,z2⟩:=oth0 hn0 b0 bN bn
  have hn:X.p.At=3:=by
   rw [hp];unfold pWrote;rw [pNext_at];dsimp only;rw [H2.node,if_pos z2];omega
  refine⟨by rw [ev];exact K.v,fun _ _ q=>?_,fun _ _ _ _ _ q=>?_⟩
  ·rw [e] at q;omega
  ·rw [e] at q
   have hI:X.p.I=others n 0:=by
    rw [hp] at hn ⊢;unfold pWrote at hn ⊢;rw [pNext_I (by omega)];dsimp only;rw [H2.node]
   rw [hI] at q
   exact absurd q z1
theorem PInv.read1{W:PW}(h:PInv N idn ids W)(n:Int)(hn0:0≤n)(hnN:n<N)(hN:N≤16)(ho:(W.x n).on=true)(hat:(W.x n).p.At=3)(X:PX)(hs:X.ser=(W.x n).ser)(hd:X.done=(W.x n).done)(hp:X.p=pCounts N (W.x n).p (W.rc (W.x n).p.I)):
  PInv N idn ids (stX W n X):=by
 have H:=h.nd n hn0 hnN
 have H2:=h.on n hn0 hnN ho
 obtain⟨i0,iN,ine⟩:=H2.rd (.inl hat)
 have HI:=h.nd _ i0 iN
 obtain⟨a1,a2,a3,a4,a5,a6,a7⟩:=H2.a3 (by omega)
 obtain⟨c1,c2,c3,c4⟩:=H2.a34 (by omega) (by omega)
 have a3o:=H2.a3o hat
 have e:(stX W n X).x n=X:=upd_same _ _ _
 have hle:=H2.le (by omega)
 have rb:=H.rb
 have rbI:=HI.rb
 generalize hr:W.rc (W.x n).p.I=r at*
 have tb:(tCount (W.x n).p.T r).Best=(W.x n).p.T.Best∧(tCount (W.x n).p.T r).Val=(W.x n).p.T.Val∨((r.Inst=(W.x n).done∧(W.x n).p.T.Best<r.Bal)∧(tCount (W.x n).p.T r).Best=r.Bal∧(tCount (W.x n).p.T r).Val=r.Val):=by
  unfold tCount
  dsimp only
  rw [a4]
  by_cases hc:r.Inst=(W.x n).done∧(W.x n).p.T.Best<r.Bal
  ·rw [if_pos hc,if_pos hc];exact .inr ⟨hc,rfl,rfl⟩
  ·rw [if_neg hc,if_neg hc];exact .inl ⟨rfl,rfl⟩
 refine h.stx n hn0 hnN hN X (by omega) (by rw [hd];exact H.d0) (by rw [hd];exact H.dl) (fun _=>?_) (fun k b v c q1 q q2 q3=>?_) fun k b b0 bN bn b1 b2 K=>?_
 ·refine Nd2.next3 (W:=stX W n X) (n:=n) (N:=N) (k:=(W.x n).p.I+1) (p:=⟨(W.x n).p.Node,(W.x n).p.Cmd,(W.x n).p.At,(W.x n).p.I,(W.x n).p.Own,tCount (W.x n).p.T r⟩) ⟨H.rb,H.rm,H.rl,H.ri,H.rv,by rw [e,hd];exact H.d0,by rw [e,hd];exact H.dl⟩ (by rw [e,hp];rfl) (by omega) hat H2.node (by rw [e,hs];exact H2.cmd) a3o (by rw [e,hd];exact a1) (by rw [e,hd];exact a4) a5 a6 a7 c1 (Int.le_trans c2 tCount_best) (fun q=>?_) (fun q=>?_)
  ·obtain⟨s1,s2,s3⟩:=tCount_stops q
   have:=c3 s1
   show(tCount (W.x n).p.T r).Best<(W.rc n).Mbal
   rcases tb with ⟨t1,-⟩ | ⟨⟨t1,t2⟩,t3,-⟩
   ·rw [t1];exact this
   ·rw [t3]
    have:=s3 (by rw [a4];exact t1)
    rw [a5] at this
    rcases HI.rm with hz | hz
    ·rw [hr] at hz;omega
    ·rw [hr] at hz
     have:r.Mbal≠(W.rc n).Mbal:=fun q=>by rw [q] at hz;omega
     omega
  ·rw [e,hd]
   show ∃c,W.vt (W.x n).done (tCount (W.x n).p.T r).Best=some ((tCount (W.x n).p.T r).Val,c)
   have q:0<(tCount (W.x n).p.T r).Best:=q
   rcases tb with ⟨t1,t2⟩ | ⟨⟨t1,t2⟩,t3,t4⟩
   ·rw [t1,t2];rw [t1] at q;exact c4 q
   ·rw [t3,t4,←t1]
    have:=HI.rv
    rw [hr] at this
    exact this (by omega)
 ·have V:=(h.vo k b v c q1).idd (by rw [q3];exact ho) (by rw [q3,q2,hs])
  rw [q3] at V ⊢
  rw [hd];exact V
 ·-- whoever is read later has been seen
  have seen:k=(W.x n).done→b<(W.x n).p.Own.Mbal→tStops (tCount (W.x n).p.T r)=false→b%16<others n ((W.x n).p.I+1)→b≤(tCount (W.x n).p.T r).Best:=fun k1 k2 k3 k4=>by
   obtain⟨s1,s2,s3⟩:=tCount_stops k3
   rcases oth1 bn k4 ine with k5 | k5
   ·exact Int.le_trans (K.r ho k1.symm hat k2 s1 k5) tCount_best
   ·rw [k5,hr] at b1 b2
    rw [a4] at s2
    have:=b2 (by omega)
    rcases tb with ⟨t1,t2⟩ | ⟨⟨t1,t2⟩,t3,t4⟩
    ·rw [t1]
     have h5:¬(r.Inst=(W.x n).done∧(W.x n).p.T.Best<r.Bal):=fun q=>by
      unfold tCount at t1
      dsimp only at t1
      rw [a4,if_pos q] at t1
      omega
     have:¬(W.x n).p.T.Best<r.Bal:=fun q=>h5 ⟨by omega,q⟩
     omega
    ·omega
  have hI:X.p.At≠0→X.p.I=others n ((W.x n).p.I+1)∧X.p.T=tCount (W.x n).p.T r∧X.p.Own.Mbal=(W.x n).p.Own.Mbal:=fun q=>by
   rw [hp] at q ⊢
   unfold pCounts at q ⊢
   rw [pNext_I q,pNext_T q,pNext_M q]
   dsimp only
   rw [H2.node]
   exact⟨rfl,rfl,rfl⟩
  refine⟨K.v,fun _ q2 q3 q4=>?_,fun _ q2 q3 q4 q5 q6=>?_⟩ <;> rw [e] at*
  ·obtain⟨r1,r2,r3⟩:=hI (by omega)
   rw [r2]
   rw [r3] at q4
   rw [hp] at q3
   unfold pCounts at q3
   rw [pNext_at] at q3
   dsimp only at q3
   rw [H2.node] at q3
   by_cases h1:others n ((W.x n).p.I+1)<N
   ·rw [if_pos h1] at q3;omega
   rw [if_neg h1] at q3
   by_cases h2:tStops (tCount (W.x n).p.T r)=true
   ·rw [if_pos h2] at q3;omega
   exact seen (by rw [←hd];exact q2.symm) q4 (by simpa using h2) (by omega)
  ·obtain⟨r1,r2,r3⟩:=hI (by omega)
   rw [r2] at q5 ⊢
   rw [r3] at q4
   rw [r1] at q6
   exact seen (by rw [←hd];exact q2.symm) q4 q5 q6
theorem PInv.wrote2{W:PW}(h:PInv N idn ids W)(n:Int)(hn0:0≤n)(hnN:n<N)(hN:N≤16)(ho:(W.x n).on=true)(hat:(W.x n).p.At=4)(X:PX)(hs:X.ser=(W.x n).ser)(hd:X.done=(W.x n).done)(hp:X.p=pWrote N (W.x n).p):
  PInv N idn ids ⟨upd W.rc n (W.x n).p.Own,W.log,upd W.x n X,upd W.vt (W.x n).done (upd (W.vt (W.x n).done) (W.x n).p.Own.Mbal (some ((W.x n).p.Own.Val,(W.x n).p.T.Best))),fun k b=>W.ch k b∨(X.p.At=6∧k=(W.x n).done∧b=(W.x n).p.Own.Mbal)⟩:=by
 have H:=h.nd n hn0 hnN
 have H2:=h.on n hn0 hnN ho
 obtain⟨a1,a2,a3,a4,a5,a6,a7⟩:=H2.a3 (by omega)
 obtain⟨c1,c2,c3,c4⟩:=H2.a34 (by omega) (by omega)
 obtain⟨d1,d2,d3⟩:=H2.a4 hat
 have c3:=c3 d1
 have hle:=H2.le (by omega)
 have rb:=H.rb
 -- nothing was voted with this ballot
 have fresh:∀b p,W.vt (W.x n).done b=some p→b%16=n→b<(W.rc n).Mbal∧b≤(W.rc n).Bal:=fun b p q q2=>by
  have V:=h.vo _ b p.1 p.2 q
  have:=V.re (by rw [q2];exact a1.symm)
  rw [q2] at this
  omega
 generalize hM:(W.x n).p.Own.Mbal=M at*
 generalize hD:(W.x n).done=D at*
 generalize hW:(⟨upd W.rc n (W.x n).p.Own,W.log,upd W.x n X,upd W.vt D (upd (W.vt D) M (some ((W.x n).p.Own.Val,(W.x n).p.T.Best))),fun k b=>W.ch k b∨(X.p.At=6∧k=D∧b=M)⟩:PW)=W'
 have e:W'.x n=X:=by rw [←hW];exact upd_same _ _ _
 have er:W'.rc n=(W.x n).p.Own:=by rw [←hW];exact upd_same _ _ _
 have o:∀m,m≠n→W'.x m=W.x m:=fun m hm=>by rw [←hW];exact upd_other _ _ hm
 have or':∀m,m≠n→W'.rc m=W.rc m:=fun m hm=>by rw [←hW];exact upd_other _ _ hm
 have el:W'.log=W.log:=by rw [←hW]
 have ev0:W'.vt D M=some ((W.x n).p.Own.Val,(W.x n).p.T.Best):=by
  rw [←hW];show upd W.vt D _ D M=_
  rw [upd_same,upd_same]
 have ev1:∀k b,¬(k=D∧b=M)→W'.vt k b=W.vt k b:=fun k b hne=>by
  rw [←hW];show upd W.vt D _ k b=_
  by_cases hk:k=D
  ·subst hk
   rw [upd_same,upd_other _ _ (fun q=>hne ⟨rfl,q⟩)]
  ·rw [upd_other _ _ hk]
 have ec:∀k b,W'.ch k b↔W.ch k b∨(X.p.At=6∧k=D∧b=M):=fun k b=>by rw [←hW]
 clear hW
 have evc:∀k b,(k=D∧b=M)∨W'.vt k b=W.vt k b:=fun k b=>by
  by_cases hq:k=D∧b=M
  ·exact .inl hq
  ·exact .inr (ev1 k b hq)
 have hnone:W.vt D M=none:=by
  cases hq:W.vt D M with
  | none=>rfl
  | some p=>have:=fresh M p hq (by omega);omega
 have ext:∀k b p,W.vt k b=some p→W'.vt k b=some p:=fun k b p q=>by
  rcases evc k b with ⟨rfl,rfl⟩ | q2
  ·rw [hnone] at q;cases q
  ·rw [q2];exact q
 have back:∀k b p,W'.vt k b=some p→W.vt k b=some p∨(k=D∧b=M∧p=((W.x n).p.Own.Val,(W.x n).p.T.Best)):=fun k b p q=>by
  rcases evc k b with ⟨rfl,rfl⟩ | q2
  ·rw [ev0] at q;injection q with q;exact .inr ⟨rfl,rfl,q.symm⟩
  ·exact .inl (by rw [←q2];exact q)
 have hN1:Nd1 W' n:=by
  refine⟨?_,?_,?_,?_,?_,?_,?_⟩ <;> (try rw [er]) <;> (try rw [e]) <;> (try rw [el])
  ·omega
  ·rw [hM,a3];exact .inr a6
  ·rw [a2,←hD];exact H.dl
  ·rw [a2,←hD];exact H.d0
  ·rw [a2,d2,←a3];exact fun _=>⟨_,ev0⟩
  ·rw [hd,←hD];exact H.d0
  ·rw [hd,←hD];exact H.dl
 have quiet:X.p.At≠3∧X.p.At≠4:=by
  rw [hp];unfold pWrote;rw [pNext_at];dsimp only
  split
  ·omega
  split
  ·omega
  split <;> omega
 have six:X.p.At=6→N=1:=fun q=>by
  rw [hp] at q;unfold pWrote at q;rw [pNext_at] at q;dsimp only at q
  rw [H2.node] at q
  by_cases h1:others n 0<N
  ·rw [if_pos h1] at q;omega
  ·unfold others at h1;split at h1 <;> omega
 have kkn:∀k b,b%16≠n→KK W k b n→KK W' k b n:=fun k b bn K=>by
  refine⟨fun b' v c q1 q2 q3=>?_,fun _ _ q=>absurd q (by rw [e];exact quiet.2),fun _ _ q=>absurd q (by rw [e];exact quiet.1)⟩
  rcases back k b' (v,c) q3 with q | ⟨rfl,rfl,q⟩
  ·exact K.v b' v c q1 q2 q
  ·injection q with q4 q5
   rw [q5]
   exact K.s ho hD hat (by omega)
 refine h.step n hn0 hnN hN o or' (fun k v q=>by rw [el];exact q) ext (fun k b p q=>(back k b p q).imp id fun q=>by rw [q.2.1,a3];exact a6) (fun k b q=>(ec k b).2 (.inl q)) hN1 (fun _=>?_) (fun k b v c q=>?_) (fun k b b0 bN bn b1 b2 K=>kkn k b bn K) (fun k b q=>?_) (fun k v q=> .inl (by rw [el] at q;exact q))
 ·refine Nd2.next5 hN1 (p:=⟨(W.x n).p.Node,(W.x n).p.Cmd,(W.x n).p.At+1,(W.x n).p.I,(W.x n).p.Own,tBegin (W.x n).p.Own (W.x n).p.T.Seen⟩) (by rw [e,hp];rfl) (Int.le_refl _) (by dsimp only;omega) H2.node (by rw [e,hs];exact H2.cmd) er (by rw [er,e,hd];exact a2) (by rw [e,hd];exact a2) (by rw [er];rfl) (by rw [er,hM,a3];exact a6) (by rw [er,hM,a3];exact a7) (by rw [er,hM,a3];exact d2) (fun _ m m0 mN mn q=>absurd q (oth0 hn0 m0 mN mn).1) (fun q=>?_)
  rw [e] at q
  rw [e,hd,er,hM]
  exact(ec _ _).2 (.inr ⟨q,rfl,rfl⟩)
 ·-- how votes stand on the new records
  have base:∀k b v c,W.vt k b=some (v,c)→Vt1 N idn ids W' k b v c:=fun k b v c q=>by
   have V:=h.vo k b v c q
   have h1:=V.ri;have h2:=V.rb;have h3:=V.re
   have hR:(W.rc (b%16)).Inst≤(W'.rc (b%16)).Inst∧(W.rc (b%16)).Mbal≤(W'.rc (b%16)).Mbal∧((W.rc (b%16)).Inst=(W'.rc (b%16)).Inst→(W.rc (b%16)).Bal≤(W'.rc (b%16)).Bal):=by
    by_cases hm:b%16=n
    ·rw [hm,er];omega
    ·rw [or' _ hm];exact⟨Int.le_refl _,Int.le_refl _,fun _=>Int.le_refl _⟩
   refine⟨V.b0,V.n,V.k0,by omega,by omega,fun q2=>?_,?_,?_,?_,?_,?_⟩
   ·have:=h3 (by omega)
    have:=hR.2.2 (by omega)
    omega
   ·rcases V.ba with q2 | ⟨q2,q3,c',q4⟩
    ·exact .inl q2
    ·exact .inr ⟨q2,q3,c',ext _ _ _ q4⟩
   ·intro b' v' c' q2 q3 q4
    rcases back k b' (v',c') q2 with q5 | ⟨rfl,rfl,q5⟩
    ·exact V.same b' v' c' q5 q3 q4
    ·have:=fresh b (v,c) q (by omega)
     omega
   ·refine⟨V.id0.1,V.id0.2.1,?_⟩
    by_cases hm:idn v=n
    ·rw [hm,e,hs];have:=V.id0.2.2;rw [hm] at this;exact this
    ·rw [o _ hm];exact V.id0.2.2
   ·by_cases hm:idn v=n
    ·rw [hm,e]
     intro _ q2
     have:=V.idd (by rw [hm];exact ho) (by rw [hm,q2,hs])
     rw [hm] at this
     rw [hd,el,←hD]
     exact this
    ·rw [o _ hm,el];exact V.idd
   ·intro i b' v' c' q2 q3 q4 q5
    rw [el]
    rcases back i b' (v',c') q2 with q6 | ⟨rfl,rfl,q6⟩
    ·exact V.idu i b' v' c' q6 q3 q4 q5
    ·injection q6 with q7 q8
     by_cases hb:0<(W.x n).p.T.Best
     ·obtain⟨c2,q9⟩:=c4 hb
      rw [d3,if_pos hb] at q7
      exact V.idu _ _ _ _ q9 (by rw [←q7];exact q3) (by rw [←q7];exact q4) q5
     ·rw [d3,if_neg hb] at q7
      have:=H2.cmd
      rw [q7] at q3 q4
      have:=V.idd (by rw [←q3,this.1];exact ho) (by rw [←q3,←q4,this.1];exact this.2)
      rw [←q3,H2.cmd.1,hD] at this
      omega
  rcases back k b (v,c) q with q | ⟨rfl,rfl,q⟩
  ·exact base k b v c q
  ·injection q with q1 q2
   subst q2
   have hb16:b%16=n:=by rw [a3];exact a6
   refine⟨by omega,by omega,by rw [←hD];exact H.d0,by rw [hb16,er];omega,by rw [hb16,er];omega,fun _=>by rw [hb16,er];omega,?_,?_,?_,?_,?_⟩
   ·by_cases hb:0<(W.x n).p.T.Best
    ·obtain⟨c2,q9⟩:=c4 hb
     refine .inr ⟨hb,by omega,c2,ext _ _ _ ?_⟩
     rw [q1,d3,if_pos hb];exact q9
    ·exact .inl (by omega)
   ·intro b' v' c' q3 q4 q5
    rcases back k b' (v',c') q3 with q6 | ⟨_,rfl,_⟩
    ·have:=fresh b' _ q6 (by omega)
     omega
    ·omega
   ·by_cases hb:0<(W.x n).p.T.Best
    ·obtain⟨c2,q9⟩:=c4 hb
     rw [d3,if_pos hb] at q1
     rw [q1];exact(base _ _ _ _ q9).id0
    ·rw [d3,if_neg hb] at q1
     rw [q1,H2.cmd.1,e,hs,H2.cmd.2]
     exact⟨hn0,hnN,Int.le_refl _⟩
   ·by_cases hb:0<(W.x n).p.T.Best
    ·obtain⟨c2,q9⟩:=c4 hb
     rw [d3,if_pos hb] at q1
     rw [q1];exact(base _ _ _ _ q9).idd
    ·rw [d3,if_neg hb] at q1
     rw [q1,H2.cmd.1,e,hd]
     exact fun _ _=>⟨Int.le_refl _,fun q=>absurd q (Int.lt_irrefl _)⟩
   ·intro i b' v' c' q3 q4 q5 q6
    rcases back i b' (v',c') q3 with q7 | ⟨q7,_,_⟩
    ·by_cases hb:0<(W.x n).p.T.Best
     ·obtain⟨c2,q9⟩:=c4 hb
      rw [d3,if_pos hb] at q1
      rw [q1];exact(base _ _ _ _ q9).idu i b' v' c' q3 (by rw [←q1];exact q4) (by rw [←q1];exact q5) q6
     ·rw [d3,if_neg hb] at q1
      rw [el]
      have V:=h.vo i b' v' c' q7
      have k1:idn v'=n:=by rw [q4,q1,H2.cmd.1]
      have k2:ids v'=(W.x n).ser:=by rw [q5,q1,H2.cmd.2]
      have:=(V.idd (by rw [k1];exact ho) (by rw [k1];exact k2)).2 (by rw [k1,hD];exact q6)
      obtain⟨w,r1,r2⟩:=this
      exact⟨w,r1,by rw [←q4,←q5];exact r2⟩
    ·omega
 ·rcases(ec k b).1 q with q | ⟨q1,rfl,rfl⟩
  ·exact .inl q
  ·refine .inr ⟨⟨_,_,ev0⟩,fun m m0 mN mn=>?_⟩
   have:=six q1
   have hb16:b%16=n:=by rw [a3];exact a6
   omega
theorem PInv.read2{W:PW}(h:PInv N idn ids W)(n:Int)(hn0:0≤n)(hnN:n<N)(hN:N≤16)(ho:(W.x n).on=true)(hat:(W.x n).p.At=5)(X:PX)(hs:X.ser=(W.x n).ser)(hd:X.done=(W.x n).done)(hp:X.p=pCounts N (W.x n).p (W.rc (W.x n).p.I))
  (hns:tStops (W.x n).p.T=false):
  PInv N idn ids ⟨W.rc,W.log,upd W.x n X,W.vt,fun k b=>W.ch k b∨(X.p.At=6∧k=(W.x n).done∧b=(W.rc n).Mbal)⟩:=by
 have H:=h.nd n hn0 hnN
 have H2:=h.on n hn0 hnN ho
 obtain⟨i0,iN,ine⟩:=H2.rd (.inr hat)
 have HI:=h.nd _ i0 iN
 obtain⟨a1,a2,a3,a4,a5,a6,a7⟩:=H2.a3 (by omega)
 obtain⟨b1,b2⟩:=H2.a56 (by omega)
 have a5k:=H2.a5 hat hns
 generalize hW:(⟨W.rc,W.log,upd W.x n X,W.vt,fun k b=>W.ch k b∨(X.p.At=6∧k=(W.x n).done∧b=(W.rc n).Mbal)⟩:PW)=W'
 have e:W'.x n=X:=by rw [←hW];exact upd_same _ _ _
 have o:∀m,m≠n→W'.x m=W.x m:=fun m hm=>by rw [←hW];exact upd_other _ _ hm
 have er:W'.rc=W.rc:=by rw [←hW]
 have el:W'.log=W.log:=by rw [←hW]
 have ev:W'.vt=W.vt:=by rw [←hW]
 have ec:∀k b,W'.ch k b↔W.ch k b∨(X.p.At=6∧k=(W.x n).done∧b=(W.rc n).Mbal):=fun k b=>by rw [←hW]
 clear hW
 have hN1:Nd1 W' n:=by
  refine⟨?_,?_,?_,?_,?_,?_,?_⟩ <;> (try rw [er]) <;> (try rw [e]) <;> (try rw [el]) <;> (try rw [ev])
  ·exact H.rb
  ·exact H.rm
  ·exact H.rl
  ·exact H.ri
  ·exact H.rv
  ·rw [hd];exact H.d0
  ·rw [hd];exact H.dl
 have quiet:X.p.At≠3∧X.p.At≠4:=by
  rw [hp];unfold pCounts;rw [pNext_at];dsimp only
  rw [if_pos hat,hat]
  split
  ·omega
  split <;> omega
 have hKK:tStops (tCount (W.x n).p.T (W.rc (W.x n).p.I))=false→∀m,0≤m→m<N→m≠n→m<others n ((W.x n).p.I+1)→KK W' (W.x n).done (W.rc n).Mbal m:=fun hns' m m0 mN mn hlt=>by
  obtain⟨s1,s2,s3⟩:=tCount_stops hns'
  rw [a4] at s2 s3
  rw [a5] at s3
  rcases oth1 mn hlt ine with h1 | rfl
  ·exact(a5k m m0 mN mn h1).other mn (o m mn) fun k b p q=> .inl (by rw [ev] at q;exact q)
  ·refine⟨fun b' v c q1 q2 q3=>?_,fun q1 q2 q3 q4=>?_,fun q1 q2 q3 q4 _ _=>?_⟩
   ·rw [ev] at q3
    have V:=h.vo _ _ _ _ q3
    have v1:=V.ri;have v2:=V.rb
    rw [q1] at v1 v2
    have:=s3 (by omega)
    omega
   ·rw [o _ mn] at q1 q2 q3 q4
    obtain⟨g1,g2,g3,g4,g5,g6,g7⟩:=(h.on _ m0 mN q1).a3 (by omega)
    have:=s3 (by omega)
    omega
   ·rw [o _ mn] at q1 q2 q3 q4
    obtain⟨g1,g2,g3,g4,g5,g6,g7⟩:=(h.on _ m0 mN q1).a3 (by omega)
    have:=s3 (by omega)
    omega
 have six:X.p.At=6→tStops (tCount (W.x n).p.T (W.rc (W.x n).p.I))=false∧¬others n ((W.x n).p.I+1)<N:=fun q=>by
  rw [hp] at q;unfold pCounts at q;rw [pNext_at] at q;dsimp only at q
  rw [H2.node] at q
  by_cases h1:others n ((W.x n).p.I+1)<N
  ·rw [if_pos h1] at q;omega
  rw [if_neg h1] at q
  by_cases h2:tStops (tCount (W.x n).p.T (W.rc (W.x n).p.I))=true
  ·rw [if_pos h2] at q;omega
  exact⟨by simpa using h2,h1⟩
 refine h.step n hn0 hnN hN o (fun _ _=>by rw [er]) (fun k v q=>by rw [el];exact q) (fun _ _ _ q=>by rw [ev];exact q) (fun k b p q=> .inl (by rw [ev] at q;exact q)) (fun k b q=>(ec k b).2 (.inl q)) hN1 (fun _=>?_) (fun k b v c q=>?_) (fun k b b0 bN bn b1 b2 K=>K.quiet ev fun _=>by rw [e];exact quiet) (fun k b q=>?_) (fun k v q=> .inl (by rw [el] at q;exact q))
 ·refine Nd2.next5 hN1 (p:=⟨(W.x n).p.Node,(W.x n).p.Cmd,(W.x n).p.At,(W.x n).p.I,(W.x n).p.Own,tCount (W.x n).p.T (W.rc (W.x n).p.I)⟩) (k:=(W.x n).p.I+1) (by rw [e,hp];rfl) (by omega) hat H2.node (by rw [e,hs];exact H2.cmd) (by rw [er];exact b1) (by rw [er,e,hd];exact a1) (by rw [e,hd];exact a4) (by rw [er];exact a5) (by rw [er];exact a6) (by rw [er];exact a7) (by rw [er];exact b2) (by rw [e,hd,er];exact hKK) (fun q=>?_)
  rw [e] at q
  rw [e,hd,er]
  exact(ec _ _).2 (.inr ⟨q,rfl,rfl⟩)
 ·rw [ev] at q
  have V:=h.vo k b v c q
  refine V.stay n o (fun _ _=>by rw [er]) (fun k v q=>by rw [el];exact q) ev (by rw [er];exact Int.le_refl _) (by rw [er];exact Int.le_refl _) (fun _=>by rw [er];exact Int.le_refl _) (by rw [e,hs];exact Int.le_refl _) (fun q1 q2 q3=>?_)
  rw [e,hs] at q2
  have:=V.idd (by rw [q3];exact ho) (by rw [q3];exact q2)
  rw [e,hd,el]
  rw [q3] at this ⊢
  exact this
 ·rcases(ec k b).1 q with q | ⟨q1,rfl,rfl⟩
  ·exact .inl q
  ·obtain⟨s1,s2⟩:=six q1
   refine .inr ⟨?_,fun m m0 mN mn=>hKK s1 m m0 mN (by omega) (by omega)⟩
   obtain⟨c,hc⟩:=H.rv (by omega)
   rw [a1,b2] at hc
   exact⟨_,c,by rw [ev];exact hc⟩
theorem PInv.read2'{W:PW}(h:PInv N idn ids W)(n:Int)(hn0:0≤n)(hnN:n<N)(hN:N≤16)(ho:(W.x n).on=true)(hat:(W.x n).p.At=5)(X:PX)(hs:X.ser=(W.x n).ser)(hd:X.done=(W.x n).done)(hp:X.p=pCounts N (W.x n).p (W.rc (W.x n).p.I))
  (hns:tStops (W.x n).p.T=true):PInv N idn ids (stX W n X):=by
 have H:=h.nd n hn0 hnN
 have H2:=h.on n hn0 hnN ho
 obtain⟨i0,iN,ine⟩:=H2.rd (.inr hat)
 obtain⟨a1,a2,a3,a4,a5,a6,a7⟩:=H2.a3 (by omega)
 obtain⟨b1,b2⟩:=H2.a56 (by omega)
 have e:(stX W n X).x n=X:=upd_same _ _ _
 have hst:tStops (tCount (W.x n).p.T (W.rc (W.x n).p.I))=true:=by
  cases hq:tStops (tCount (W.x n).p.T (W.rc (W.x n).p.I)) with
  | true=>rfl
  | false=>have:=(tCount_stops hq).1;rw [hns] at this;cases this
 have quiet:X.p.At≠3∧X.p.At≠4∧X.p.At≠6:=by
  rw [hp];unfold pCounts;rw [pNext_at];dsimp only
  rw [hst,hat]
  split
  ·omega
  ·rw [if_pos rfl];omega
 refine h.stx n hn0 hnN hN X (by omega) (by rw [hd];exact H.d0) (by rw [hd];exact H.dl) (fun _=>?_) (fun k b v c q1 q q2 q3=>?_) fun k b _ _ _ _ _ K=>K.quiet rfl fun q=>by
  rw [e];exact⟨quiet.1,quiet.2.1⟩
 ·refine Nd2.next5 (W:=stX W n X) (n:=n) (N:=N) ⟨H.rb,H.rm,H.rl,H.ri,H.rv,by rw [e,hd];exact H.d0,by rw [e,hd];exact H.dl⟩ (p:=⟨(W.x n).p.Node,(W.x n).p.Cmd,(W.x n).p.At,(W.x n).p.I,(W.x n).p.Own,tCount (W.x n).p.T (W.rc (W.x n).p.I)⟩) (k:=(W.x n).p.I+1) (by rw [e,hp];rfl) (by omega) hat H2.node (by rw [e,hs];exact H2.cmd) b1 (by rw [e,hd];exact a1) (by rw [e,hd];exact a4) a5 a6 a7 b2 (fun q=>?_) (fun q=>?_)
  ·have q:tStops (tCount (W.x n).p.T (W.rc (W.x n).p.I))=false:=q
   rw [hst] at q;cases q
  ·rw [e] at q;exact absurd q quiet.2.2
 ·have V:=(h.vo k b v c q1).idd (by rw [q3];exact ho) (by rw [q3,q2,hs])
  rw [q3] at V ⊢
  rw [hd];exact V
theorem PInv.decides{W:PW}(h:PInv N idn ids W)(n:Int)(hn0:0≤n)(hnN:n<N)(hN:N≤16)(ho:(W.x n).on=true)(hat:(W.x n).p.At=6)(X:PX)(hs:X.ser=(W.x n).ser)(hd:X.done=(W.x n).done+1)
  (hp:X.p.Node=n) (ha:X.p.At=0) (hc:X.p.Cmd=(W.x n).p.Cmd) (hon:X.on=true→¬(idn (W.x n).p.Own.Val=n∧ids (W.x n).p.Own.Val=(W.x n).ser)):
  PInv N idn ids ⟨W.rc,upd W.log (W.x n).done (some (W.x n).p.Own.Val),upd W.x n X,W.vt,W.ch⟩∧(∀u,W.log (W.x n).done=some u→u=(W.x n).p.Own.Val):=by
 have H:=h.nd n hn0 hnN
 have H2:=h.on n hn0 hnN ho
 obtain⟨a1,a2,a3,a4,a5,a6,a7⟩:=H2.a3 (by omega)
 obtain⟨b1,b2⟩:=H2.a56 (by omega)
 have hch:=H2.a6 hat
 obtain⟨c,hv⟩:=H.rv (by omega)
 rw [b2,a1,show(W.rc n).Val=(W.x n).p.Own.Val by rw [b1]] at hv
 have same:∀u,W.log (W.x n).done=some u→u=(W.x n).p.Own.Val:=fun u q=>by
  obtain⟨b,c',q1,q2⟩:=h.lg _ _ q
  exact h.one q1 hch q2 hv
 refine⟨?_,same⟩
 generalize hW:(⟨W.rc,upd W.log (W.x n).done (some (W.x n).p.Own.Val),upd W.x n X,W.vt,W.ch⟩:PW)=W'
 have e:W'.x n=X:=by rw [←hW];exact upd_same _ _ _
 have o:∀m,m≠n→W'.x m=W.x m:=fun m hm=>by rw [←hW];exact upd_other _ _ hm
 have er:W'.rc=W.rc:=by rw [←hW]
 have ev:W'.vt=W.vt:=by rw [←hW]
 have ec:W'.ch=W.ch:=by rw [←hW]
 have el0:W'.log (W.x n).done=some (W.x n).p.Own.Val:=by rw [←hW];exact upd_same _ _ _
 have el1:∀k,k≠(W.x n).done→W'.log k=W.log k:=fun k hk=>by rw [←hW];exact upd_other _ _ hk
 clear hW
 have ext:∀k v,W.log k=some v→W'.log k=some v:=fun k v q=>by
  by_cases hk:k=(W.x n).done
  ·subst hk;rw [el0,same v q]
  ·rw [el1 k hk];exact q
 have ext':∀j,W.log j≠none→W'.log j≠none:=fun j hj=>by
  cases h1:W.log j with
  | none=>exact absurd h1 hj
  | some v=>rw [ext j v h1];simp
 have d0:=H.d0
 have hN1:Nd1 W' n:=by
  refine⟨?_,?_,?_,?_,?_,?_,?_⟩ <;> (try rw [er]) <;> (try rw [e]) <;> (try rw [ev])
  ·exact H.rb
  ·exact H.rm
  ·exact fun j h1 h2=>ext' j (H.rl j h1 h2)
  ·exact H.ri
  ·exact H.rv
  ·omega
  ·intro j h1 h2
   by_cases hj:j=(W.x n).done
   ·rw [hj,el0];simp
   ·exact ext' j (H.dl j h1 (by omega))
 refine h.step n hn0 hnN hN o (fun _ _=>by rw [er]) ext (fun _ _ _ q=>by rw [ev];exact q) (fun k b p q=> .inl (by rw [ev] at q;exact q)) (fun k b q=>by rw [ec];exact q) hN1 (fun _=> .z (by rw [e];exact hp) (by rw [e];exact ha) (by rw [e,hc,hs];exact H2.cmd)) (fun k b v c q=>?_) (fun k b b0 bN bn b1 b2 K=>K.quiet ev fun _=>by rw [e,ha];omega) (fun k b q=> .inl (by rw [ec] at q;exact q)) (fun k v q=>?_)
 ·rw [ev] at q
  have V:=h.vo k b v c q
  refine V.stay n o (fun _ _=>by rw [er]) ext ev (by rw [er];exact Int.le_refl _) (by rw [er];exact Int.le_refl _) (fun _=>by rw [er];exact Int.le_refl _) (by rw [e,hs];exact Int.le_refl _) (fun q1 q2 q3=>?_)
  rw [e] at q1 q2 ⊢
  rw [hs] at q2
  have:=V.idd (by rw [q3];exact ho) (by rw [q3];exact q2)
  rw [q3] at this
  refine⟨by omega,fun q4=>?_⟩
  by_cases hk:k=(W.x n).done
  ·rw [hk]
   exact⟨_,el0,fun q5=>hon q1 ⟨by rw [q5.1,q3],by rw [q5.2,q2]⟩⟩
  ·obtain⟨w,r1,r2⟩:=this.2 (by omega)
   exact⟨w,ext _ _ r1,by rw [q3];exact r2⟩
 ·by_cases hk:k=(W.x n).done
  ·subst hk
   rw [el0] at q
   injection q with q
   subst q
   exact .inr ⟨_,c,by rw [ec];exact hch,by rw [ev];exact hv⟩
  ·rw [el1 k hk] at q;exact .inl q
theorem PInv.init(x:Int→PX)(hx:∀n,0≤n→n<N→(x n).on=false∧(x n).done=0):PInv N idn ids ⟨fun _=>yBG.z,fun _=>none,x,fun _ _=>none,fun _ _=>False⟩:=
 ⟨fun n h0 hN=>⟨⟨Int.le_refl _,Int.le_refl _⟩,.inl rfl,fun j h1 h2=>absurd h2 (by show ¬j<0;omega),Int.le_refl _,fun q=>absurd q (by show ¬(0:Int)<0;omega),by rw [(hx n h0 hN).2];exact Int.le_refl _,fun j h1 h2=>by
  rw [(hx n h0 hN).2] at h2;omega⟩,fun n h0 hN q=>(by
  have q:(x n).on=true:=q
  rw [(hx n h0 hN).1] at q;cases q),fun k b v c q=>(by cases q),fun k b q=>q.elim,fun k b m q=>q.elim,fun k v q=>(by cases q)⟩
end Go.Proofs.YtakljpcmbpaeaaaGreat
