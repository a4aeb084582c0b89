/- MountPlays: the walk and the frame. -/
import Derived.Test.YtakljpcmbpaeaaaGreatMountPlaysM42
import Derived.Test.YtakljpcmbpaeaaaGreatMountPlaysM44
import Derived.Test.YtakljpcmbpaeaaaGreatRows
import Derived.Test.YtakljpcmbpaeaaaGreatMountPlaysM01
set_option linter.unusedSimpArgs false
set_option linter.unusedVariables false
namespace Go.Proofs.YtakljpcmbpaeaaaGreat.mountPlays
open Go.RowKit Go.ChangeShapes Go.WideShapes Go.ChangeAt Go.Joins Go.Deep
theorem walk{w:World}{x0:List V}(s0:yI0 xPh x0){v0:Value}(e0:VR yOr (xOh w) w (.agg x0) v0){x1:V}(s1:yI0 [.sl xTL] [x1]){v1:Value}(e1:VR yOr (xOh w) w x1 v1):
  Calls Tryz.prog 3 #[v0,v1] w fun e w'=>e= .returned (.bool true)/\Below w.heap.size w w':=by
 obtain⟨g0,rfl,hg0⟩:=xO5 s0
 have p1:=xKn (s1.2 0 Nat.zero_lt_one Nat.zero_lt_one)
 obtain⟨g1,rfl,hg1⟩:=xLc s1
 have hc:=(yWO 2000000 (g0,(g1.map kW),()) true (by
  show ∀y∈ [V.agg (yAJ.cs g0),V.sl (g1.map kW) false],Plain y
  exact(xJE (xOD s0) (xJE p1 xQW))) (xSX (L:=2000000) (by decide) xRs g0 g1)).1
 have hc:Con Tryz.prog 3 [V.agg (yAJ.cs g0),V.sl (g1.map kW) false] (· = .bool true):=hc
 refine(hc.2 w (xOh w) [v0,v1] (fun g i h=>h) ⟨rfl,fun j hj hj'=>?_⟩).mono ?_
 ·match j,hj with
  | 0,_=>exact e0
  | 1,_=>exact e1
 ·rintro e w' ⟨v,r,S',rfl,rfl,_,hr,_,_,_,hB⟩
  exact⟨by rw[hr.bool_inv],hB⟩
theorem own:ownKnob Tryz.prog.godebug=none:=by kernel_rfl
theorem laidOut:laidOutB Tryz.prog=true:=jf1
set_option maxRecDepth 100000 in
theorem lifted(os:Os)(started:os.Started)(H:Type)(enc:TypeId×Value->H):
  ReturnsInHanded {} Tryz.checked os 3 .any (Rows.mountPlaysSpec.pre6 enc Tryz.prog Tryz.f3 Rows.mountPlaysRow.domain false) (Rows.mountPlaysSpec.post enc Tryz.prog Tryz.f3 false true false false):=by
 refine returnsInHanded_of_change (C:=Tryz.checked) own started (by kernel_rfl) Tryz.func3
  (ChangeSpec.witness6 (enc:=enc) (C:=Tryz.checked) false ⟨#[],#[.agg #[.int .i64 0,.int .i64 0,.int .i64 0,.int .i64 0,.int .i64 0,.int .i64 0,.int .i64 0,.int .i64 0],.slice none 0 0],[]⟩ 8 (by kernel_rfl) (by kernel_rfl) (by kernel_rfl) (by kernel_rfl)) ?_
 intro W base args ds gs before hval0 hW hcnd _
 have hval:∀(j:Nat) t v,Tryz.f3.params[j]?=some t->args[j]?=some v->Value.okWide Tryz.prog W .any base t v:=hval0
 have hW':=hW
 obtain⟨p,q,hA0,hV,rfl,hfz,hnd⟩:=hW
 have hA:DataW.TrodAll enc Tryz.prog W 0 (fun _=>true) true Tryz.f3.params.toList args.toList ds p:=hA0
 rw[Tryz.params3] at hA hval
 obtain⟨v0,vs0,d0,ds0,p0,q0,hargs,rfl,rfl,h0,r0⟩:=trodAll_cons hA
 obtain⟨v1,vs1,d1,ds1,p1,q1,rfl,rfl,rfl,h1,r1⟩:=trodAll_cons r0
 obtain⟨rfl,rfl,rfl⟩:=trodAll_nil r1
 obtain rfl:args=#[v0,v1]:=by cases args;simp_all
 obtain⟨rfl,rfl⟩:=trodVars_none hV
 have k0:=h0
 have lt0:∀x∈p0,x.block<W.heap.size:=by obtain⟨m,hm⟩:=k0;exact DataW.trod_lt m _ _ _ hm
 obtain⟨x0,e0,s0⟩:=xK0 (ss:=xPh) (d:=20) Tryz.underlying23 (by kernel_rfl) (hval 0 23 v0 rfl rfl) h0
 have k1:=h1
 have lt1:∀x∈p1,x.block<W.heap.size:=by obtain⟨m,hm⟩:=k1;exact DataW.trod_lt m _ _ _ hm
 obtain⟨x1,e1,s1⟩:=xMW (ss:= [.sl xTL]) (d:=20) Tryz.underlying24 (by kernel_rfl) (hval 1 24 v1 rfl rfl) h1
 clear hA0 hval0
 refine(walk s0 e0 s1 e1).mono fun e W' ⟨he,bel⟩=>?_
 subst he
 exact⟨_,rfl,_,_,_,[],_,[],hW',trodAll_mk1 (shut_bool Tryz.underlying4 _),(trodAll_cons_mk (Below.trod laidOut (by kernel_rfl) (of_decide_eq_true (by kernel_rfl)) k0 bel lt0) (trodAll_cons_mk (Below.trod laidOut (by kernel_rfl) (of_decide_eq_true (by kernel_rfl)) k1 bel lt1) trodAll_mk0)),rfl,bel.frame _,fun h=>by cases h⟩
theorem named:Tryz.pinned.checked.prog.funcNamed Rows.mountPlaysRow.func=some 3:=by kernel_rfl
theorem inst:Tryz.f3.isInstance Tryz.pinned.checked.prog Rows.mountPlaysRow.origin Rows.mountPlaysRow.targs:=of_decide_eq_true (by kernel_rfl)
theorem wrap:Tryz.f3.isWrapper Tryz.pinned.checked.prog Rows.mountPlaysRow.wrapper Rows.mountPlaysRow.mainSum:=by
 unfold Func.isWrapper;first | (rw[if_pos (by decide +kernel)];kernel_rfl) | (rw[if_neg (by decide +kernel)];exact⟨rfl,rfl⟩)
theorem proved:Rows.MountPlaysSaid:=
 OpenClaim.holds_of_wide 3 Tryz.f3 rfl rfl rfl rfl rfl rfl rfl ⟨rfl,rfl,rfl,rfl,rfl⟩ rfl rfl rfl rfl rfl named Tryz.func3 closed
  inst wrap (fun os started H enc _=>lifted os started H enc)
end Go.Proofs.YtakljpcmbpaeaaaGreat.mountPlays
