/- MountJoins: the walk and the frame. -/
import Derived.Test.YtakljpcmbpaeaaaGreatMountJoinsM46
import Derived.Test.YtakljpcmbpaeaaaGreatMountJoinsM48
import Derived.Test.YtakljpcmbpaeaaaGreatRows
import Derived.Test.YtakljpcmbpaeaaaGreatMountJoinsM02
set_option linter.unusedSimpArgs false
set_option linter.unusedVariables false
namespace Go.Proofs.YtakljpcmbpaeaaaGreat.mountJoins
open Go.RowKit Go.ChangeShapes Go.WideShapes Go.ChangeAt Go.Joins Go.Deep
theorem walk{w:World}{x0:List V}(s0:yHu xKr x0){v0:Value}(e0:VR yM8 (xJ6 w) w (.agg x0) v0){x1:V}(s1:yHu [.sl xKq] [x1]){v1:Value}(e1:VR yM8 (xJ6 w) w x1 v1)(a2:Int)(a3:Int):
  Calls Tryz.prog 4 #[v0,v1,.int .i64 a2,.int .i64 a3] w fun e w'=>e= .returned (.bool true)/\Below w.heap.size w w':=by
 obtain⟨g0,rfl,hg0⟩:=xKM s0
 have p1:=xGY (s1.2 0 Nat.zero_lt_one Nat.zero_lt_one)
 obtain⟨g1,rfl,hg1⟩:=xIO s1
 have hc:=(yT1 2000000 (g0,(g1.map cW),a2,a3,()) true (by
  show ∀y∈ [V.agg (yAR.cs g0),V.sl (g1.map cW) false,V.int .i64 a2,V.int .i64 a3],Plain y
  exact(yX9 (xJg s0) (yX9 p1 (yX9 (.int _ _) (yX9 (.int _ _) xLc))))) (xNW (L:=2000000) (by decide) xMw g0 g1 a2 a3)).1
 have hc:Con Tryz.prog 4 [V.agg (yAR.cs g0),V.sl (g1.map cW) false,V.int .i64 a2,V.int .i64 a3] (· = .bool true):=hc
 refine(hc.2 w (xJ6 w) [v0,v1,.int .i64 a2,.int .i64 a3] (fun g i h=>h) ⟨rfl,fun j hj hj'=>?_⟩).mono ?_
 ·match j,hj with
  | 0,_=>exact e0
  | 1,_=>exact e1
  | 2,_=>exact(.int _ _)
  | 3,_=>exact(.int _ _)
 ·rintro e w' ⟨v,r,S',rfl,rfl,_,hr,_,_,_,hB⟩
  exact⟨by rw[hr.bool_inv],hB⟩
theorem own:ownKnob Tryz.prog.godebug=none:=by kernel_rfl
theorem laidOut:laidOutB Tryz.prog=true:=jf1
set_option maxRecDepth 100000 in
theorem lifted(os:Os)(started:os.Started)(H:Type)(enc:TypeId×Value->H):
  ReturnsInHanded {} Tryz.checked os 4 .any (Rows.mountJoinsSpec.pre6 enc Tryz.prog Tryz.f4 Rows.mountJoinsRow.domain false) (Rows.mountJoinsSpec.post enc Tryz.prog Tryz.f4 false true false false):=by
 refine returnsInHanded_of_change (C:=Tryz.checked) own started (by kernel_rfl) Tryz.func4
  (ChangeSpec.witness6 (enc:=enc) (C:=Tryz.checked) false ⟨#[],#[.agg #[.int .i64 0,.int .i64 0,.int .i64 0,.int .i64 0,.int .i64 0,.int .i64 0,.int .i64 0,.int .i64 0],.slice none 0 0,.int .i64 0,.int .i64 0],[]⟩ 8 (by kernel_rfl) (by kernel_rfl) (by kernel_rfl) (by kernel_rfl)) ?_
 intro W base args ds gs before hval0 hW hcnd _
 have hval:∀(j:Nat) t v,Tryz.f4.params[j]?=some t->args[j]?=some v->Value.okWide Tryz.prog W .any base t v:=hval0
 have hW':=hW
 obtain⟨p,q,hA0,hV,rfl,hfz,hnd⟩:=hW
 have hA:DataW.TrodAll enc Tryz.prog W 0 (fun _=>true) true Tryz.f4.params.toList args.toList ds p:=hA0
 rw[Tryz.params4] at hA hval
 obtain⟨v0,vs0,d0,ds0,p0,q0,hargs,rfl,rfl,h0,r0⟩:=trodAll_cons hA
 obtain⟨v1,vs1,d1,ds1,p1,q1,rfl,rfl,rfl,h1,r1⟩:=trodAll_cons r0
 obtain⟨v2,vs2,d2,ds2,p2,q2,rfl,rfl,rfl,h2,r2⟩:=trodAll_cons r1
 obtain⟨v3,vs3,d3,ds3,p3,q3,rfl,rfl,rfl,h3,r3⟩:=trodAll_cons r2
 obtain⟨rfl,rfl,rfl⟩:=trodAll_nil r3
 obtain rfl:args=#[v0,v1,v2,v3]:=by cases args;simp_all
 obtain⟨rfl,rfl⟩:=trodVars_none hV
 have k0:=h0
 have lt0:∀x∈p0,x.block<W.heap.size:=by obtain⟨m,hm⟩:=k0;exact DataW.trod_lt m _ _ _ hm
 obtain⟨x0,e0,s0⟩:=xGj (ss:=xKr) (d:=20) Tryz.underlying23 (by kernel_rfl) (hval 0 23 v0 rfl rfl) h0
 have k1:=h1
 have lt1:∀x∈p1,x.block<W.heap.size:=by obtain⟨m,hm⟩:=k1;exact DataW.trod_lt m _ _ _ hm
 obtain⟨x1,e1,s1⟩:=xIC (ss:= [.sl xKq]) (d:=20) Tryz.underlying82 (by kernel_rfl) (hval 1 82 v1 rfl rfl) h1
 have k2:=h2
 have lt2:∀x∈p2,x.block<W.heap.size:=by obtain⟨m,hm⟩:=k2;exact DataW.trod_lt m _ _ _ hm
 obtain⟨a2,rfl,-,-,w2⟩:=open_int Tryz.underlying3 (hval 2 3 v2 rfl rfl) h2
 have k3:=h3
 have lt3:∀x∈p3,x.block<W.heap.size:=by obtain⟨m,hm⟩:=k3;exact DataW.trod_lt m _ _ _ hm
 obtain⟨a3,rfl,-,-,w3⟩:=open_int Tryz.underlying3 (hval 3 3 v3 rfl rfl) h3
 clear hA0 hval0
 refine(walk s0 e0 s1 e1 a2 a3).mono fun e W' ⟨he,bel⟩=>?_
 subst he
 exact⟨_,rfl,_,_,_,[],_,[],hW',trodAll_mk1 (shut_bool Tryz.underlying4 _),(trodAll_cons_mk (Below.trod laidOut (by kernel_rfl) (of_decide_eq_true (by kernel_rfl)) k0 bel lt0) (trodAll_cons_mk (Below.trod laidOut (by kernel_rfl) (of_decide_eq_true (by kernel_rfl)) k1 bel lt1) (trodAll_cons_mk (Below.trod laidOut (by kernel_rfl) (of_decide_eq_true (by kernel_rfl)) k2 bel lt2) (trodAll_cons_mk (Below.trod laidOut (by kernel_rfl) (of_decide_eq_true (by kernel_rfl)) k3 bel lt3) trodAll_mk0)))),rfl,bel.frame _,fun h=>by cases h⟩
theorem named:Tryz.pinned.checked.prog.funcNamed Rows.mountJoinsRow.func=some 4:=by kernel_rfl
theorem inst:Tryz.f4.isInstance Tryz.pinned.checked.prog Rows.mountJoinsRow.origin Rows.mountJoinsRow.targs:=of_decide_eq_true (by kernel_rfl)
theorem wrap:Tryz.f4.isWrapper Tryz.pinned.checked.prog Rows.mountJoinsRow.wrapper Rows.mountJoinsRow.mainSum:=by
 unfold Func.isWrapper;first | (rw[if_pos (by decide +kernel)];kernel_rfl) | (rw[if_neg (by decide +kernel)];exact⟨rfl,rfl⟩)
theorem proved:Rows.MountJoinsSaid:=
 OpenClaim.holds_of_wide 4 Tryz.f4 rfl rfl rfl rfl rfl rfl rfl ⟨rfl,rfl,rfl,rfl,rfl⟩ rfl rfl rfl rfl rfl named Tryz.func4 closed
  inst wrap (fun os started H enc _=>lifted os started H enc)
end Go.Proofs.YtakljpcmbpaeaaaGreat.mountJoins
