/- The evaluator of values, with regions whose order is forced, and with tables of known functions. -/
import Derived.Test.YtkjihmlighigjaaGreatRepairAliveM33
import Derived.Test.YtkjihmlighigjaaGreatRepairAliveM39
import Derived.Test.YtkjihmlighigjaaGreatRepairAliveM44
set_option linter.unusedSimpArgs false
set_option linter.unusedVariables false
namespace Go.Proofs.YtkjihmlighigjaaGreat
open Go.RowKit

def NkOk (P : Program) (cc : CCall) (nk : FuncId → Option Nat) : Prop := ∀ h sz args x, nk h = some sz → (∀ y ∈ args, Plain y) → cc h args = some x → NCon P h args (asR x) sz
def xdcall (P : Program) (cc : CCall) (nk : FuncId → Option Nat) (op : Op) (fr : Fr) (g : Gs) (n : Nat) : Option (List Nat × V × Option Blk') :=
  match op with
  | .call q => match q.callee with
    | .value f => match ev fr f with
      | .fn (.func h) first caps => match nk h with
        | none => (rdcall P cc (.call q) fr g n).map fun p => (p.1, p.2, none)
        | some sz => bif (first ++ (q.args.toList.map (ev fr) ++ caps)).all (plainB 20) then (cc h (first ++ (q.args.toList.map (ev fr) ++ caps))).map fun x => ([n], .bs n 0 (asR x).length (asR x).length, some ⟨asR x, sz, 0⟩)
          else match mapO (frz 20 (resT (memL (n :: (first ++ (q.args.toList.map (ev fr) ++ caps)).flatMap (names 20 g))) g)) (first ++ (q.args.toList.map (ev fr) ++ caps)) with
          | none => none
          | some as' => bif as'.all (plainB 20) then (match cc h as' with
            | none => none
            | some x => bif rowsSc (asR x) then some (n :: (first ++ (q.args.toList.map (ev fr) ++ caps)).flatMap (names 20 g), .bs n 0 (asR x).length (asR x).length, some ⟨asR x, sz, 0⟩) else none) else none
      | _ => none
    | _ => none
  | _ => none
theorem xdcall_ok {P : Program} {cc : CCall} {nk : FuncId → Option Nat} (hc : COk P cc) (hnk : NkOk P cc nk) {op : Op} {fr : Fr} {g : Gs} {n : Nat} {T : List Nat} {x : V} {ob : Option Blk'} (h : xdcall P cc nk op fr g n = some (T, x, ob)) :
    (ob = none → memL T n = true ∧ dcall P op fr ⟨resT (memL T) g, n⟩ x) ∧ ∀ b, ob = some b → memL T n = true ∧ dnew P op fr ⟨resT (memL T) g, n⟩ x b := by
  cases op <;> try (simp [xdcall] at h; done)
  case call q =>
    obtain ⟨callee, args, ts⟩ := q
    cases callee <;> try (simp [xdcall] at h; done)
    case value f =>
      unfold xdcall at h
      dsimp only at h
      split at h
      · rename_i k first caps he
        cases hk : nk k with
        | none =>
          rw [hk] at h
          obtain ⟨p, hp, e⟩ := Option.map_eq_some_iff.1 h
          simp only [Prod.mk.injEq] at e
          obtain ⟨rfl, rfl, rfl⟩ := e
          exact ⟨fun _ => rdcall_ok hc (T := p.1) (x := p.2) hp, fun b q => by cases q⟩
        | some sz =>
          rw [hk] at h
          unfold dnew
          dsimp only at h ⊢
          rw [he]
          dsimp only
          generalize first ++ (args.toList.map (ev fr) ++ caps) = as0 at h ⊢
          cases hp : as0.all (plainB 20) with
          | true =>
            rw [hp, cond_true] at h
            obtain ⟨y, hy, e⟩ := Option.map_eq_some_iff.1 h
            simp only [Prod.mk.injEq] at e
            obtain ⟨rfl, rfl, rfl⟩ := e
            have hpl : ∀ z ∈ as0, Plain z := fun z hz => plainB_ok 20 z (List.all_eq_true.1 hp z hz)
            refine ⟨fun q => (by cases q), fun b q => ?_⟩
            injection q with q
            subst q
            exact ⟨memL_iff.2 (by simp), mny, as0, asR y, sz, .inl ⟨hpl, rfl⟩, hnk _ _ _ _ hk hpl hy, rfl, rfl⟩
          | false =>
            rw [hp, cond_false] at h
            split at h
            · cases h
            · rename_i as' ha
              obtain ⟨hq, h⟩ := bif_some h
              split at h
              · cases h
              · rename_i y hy
                obtain ⟨hs, h⟩ := bif_some h
                simp only [Option.some.injEq, Prod.mk.injEq] at h
                obtain ⟨rfl, rfl, rfl⟩ := h
                have hpl : ∀ z ∈ as', Plain z := fun z hz => plainB_ok 20 z (List.all_eq_true.1 hq z hz)
                refine ⟨fun q => (by cases q), fun b q => ?_⟩
                injection q with q
                subst q
                exact ⟨memL_iff.2 (by simp), mny, as', asR y, sz, .inr ⟨frzL_ok (st := ⟨resT _ g, n⟩) ha, rowsSc_ok hs⟩, hnk _ _ _ _ hk hpl hy, rfl, rfl⟩
      · cases h
def xdl (P : Program) (cc : CCall) (nk : FuncId → Option Nat) (ops : Array Oper) (n0 : Nat) : List Oper → Nat → Acc → Acc → Tr V → Tr Blk' → Option (Tr V × Tr Blk')
  | [], _, _, _, T, G => some (T, G)
  | o :: r, k, rd, wr, T, G =>
    bif okD o.dst then
      match (match o.guard with | none => some true | some (j, want) => match gval ops (toFr T) j with | .bool b => some (b == want) | .undef => none | _ => some false) with
      | none => none
      | some false => xdl P cc nk ops n0 r (k + 1) rd wr (putT T o.dst (.tup [])) G
      | some true =>
        bif isCall o.op then match xdcall P cc nk o.op (toFr T) G.get (n0 + k) with
          | none => none
          | some (L, x, none) => bif okAcc2 o wr L [] then xdl P cc nk ops n0 r (k + 1) ((k, L, []) :: rd) wr (putT T o.dst x) G else none
          | some (L, x, some b) => bif okAcc2 o wr L [n0 + k] && okAcc2 o rd L [n0 + k] then (match updG G [n0 + k] (St.new ⟨G.get, n0 + k⟩ b).get with
            | none => none
            | some G' => xdl P cc nk ops n0 r (k + 1) rd ((k, L, [n0 + k]) :: wr) (putT T o.dst x) G') else none
        else match eff P o.op (toFr T) ⟨G.get, n0 + k⟩ with
          | none => none
          | some p => bif opS P o.op then
              bif okAcc2 o wr ((n0 + k) :: opT o.op (toFr T)) (opW o.op (toFr T) (n0 + k)) && okAcc2 o rd ((n0 + k) :: opT o.op (toFr T)) (opW o.op (toFr T) (n0 + k)) then
                match updG G (opW o.op (toFr T) (n0 + k)) p.2.get with
                | none => none
                | some G' => xdl P cc nk ops n0 r (k + 1) rd ((k, (n0 + k) :: opT o.op (toFr T), opW o.op (toFr T) (n0 + k)) :: wr) (putT T o.dst p.1) G'
              else none
            else bif okAcc2 o wr ((n0 + k) :: opT o.op (toFr T)) [] then xdl P cc nk ops n0 r (k + 1) ((k, (n0 + k) :: opT o.op (toFr T), []) :: rd) wr (putT T o.dst p.1) G else none
    else none
theorem xdl_sound {P : Program} {cc : CCall} {nk : FuncId → Option Nat} (hc : COk P cc) (hnk : NkOk P cc nk) {ops : Array Oper} {n0 : Nat} : ∀ (l : List Oper) (k : Nat) (rd wr : Acc) (T T' : Tr V) (G G' : Tr Blk'), xdl P cc nk ops n0 l k rd wr T G = some (T', G') → ∀ K : Fr → Gs → Prop, K (toFr T') G'.get → dl P ops n0 K l k rd wr (toFr T) G.get
  | [], k, rd, wr, T, T', G, G', h, K, hk => by
    simp only [xdl, Option.some.injEq, Prod.mk.injEq] at h
    obtain ⟨rfl, rfl⟩ := h
    exact hk
  | o :: r, k, rd, wr, T, T', G, G', h, K, hk => by
    unfold xdl at h
    obtain ⟨hd, h⟩ := bif_some h
    have go : ∀ (rd' wr' : Acc) (x : V) (G1 : Tr Blk'), xdl P cc nk ops n0 r (k + 1) rd' wr' (putT T o.dst x) G1 = some (T', G') → dl P ops n0 K r (k + 1) rd' wr' ((toFr T).put o.dst x) G1.get := fun rd' wr' x G1 hr => by
      have := xdl_sound hc hnk r (k + 1) rd' wr' _ _ _ _ hr K hk
      rw [toFr_put hd] at this
      exact this
    unfold dl
    have step : ∀ h2 : (bif isCall o.op then match xdcall P cc nk o.op (toFr T) G.get (n0 + k) with
          | none => none
          | some (L, x, none) => bif okAcc2 o wr L [] then xdl P cc nk ops n0 r (k + 1) ((k, L, []) :: rd) wr (putT T o.dst x) G else none
          | some (L, x, some b) => bif okAcc2 o wr L [n0 + k] && okAcc2 o rd L [n0 + k] then (match updG G [n0 + k] (St.new ⟨G.get, n0 + k⟩ b).get with
            | none => none
            | some G' => xdl P cc nk ops n0 r (k + 1) rd ((k, L, [n0 + k]) :: wr) (putT T o.dst x) G') else none
        else match eff P o.op (toFr T) ⟨G.get, n0 + k⟩ with
          | none => none
          | some p => bif opS P o.op then
              bif okAcc2 o wr ((n0 + k) :: opT o.op (toFr T)) (opW o.op (toFr T) (n0 + k)) && okAcc2 o rd ((n0 + k) :: opT o.op (toFr T)) (opW o.op (toFr T) (n0 + k)) then
                match updG G (opW o.op (toFr T) (n0 + k)) p.2.get with
                | none => none
                | some G' => xdl P cc nk ops n0 r (k + 1) rd ((k, (n0 + k) :: opT o.op (toFr T), opW o.op (toFr T) (n0 + k)) :: wr) (putT T o.dst p.1) G'
              else none
            else bif okAcc2 o wr ((n0 + k) :: opT o.op (toFr T)) [] then xdl P cc nk ops n0 r (k + 1) ((k, (n0 + k) :: opT o.op (toFr T), []) :: rd) wr (putT T o.dst p.1) G else none) = some (T', G'),
        (bif isCall o.op then (∃ T1 x, okAcc o wr T1 [] = true ∧ memL T1 (n0 + k) = true ∧ dcall P o.op (toFr T) ⟨resT (memL T1) G.get, n0 + k⟩ x ∧ dl P ops n0 K r (k + 1) ((k, T1, []) :: rd) wr ((toFr T).put o.dst x) G.get) ∨
          ∃ T1 x b, okAcc o wr T1 [n0 + k] = true ∧ okAcc o rd T1 [n0 + k] = true ∧ memL T1 (n0 + k) = true ∧ dnew P o.op (toFr T) ⟨resT (memL T1) G.get, n0 + k⟩ x b ∧ dl P ops n0 K r (k + 1) rd ((k, T1, [n0 + k]) :: wr) ((toFr T).put o.dst x) (St.new ⟨G.get, n0 + k⟩ b).get
      else match eff P o.op (toFr T) ⟨G.get, n0 + k⟩ with
        | none => False
        | some p => bif opS P o.op then okAcc o wr ((n0 + k) :: opT o.op (toFr T)) (opW o.op (toFr T) (n0 + k)) = true ∧ okAcc o rd ((n0 + k) :: opT o.op (toFr T)) (opW o.op (toFr T) (n0 + k)) = true ∧
              dl P ops n0 K r (k + 1) rd ((k, (n0 + k) :: opT o.op (toFr T), opW o.op (toFr T) (n0 + k)) :: wr) ((toFr T).put o.dst p.1) p.2.get
            else okAcc o wr ((n0 + k) :: opT o.op (toFr T)) [] = true ∧ dl P ops n0 K r (k + 1) ((k, (n0 + k) :: opT o.op (toFr T), []) :: rd) wr ((toFr T).put o.dst p.1) G.get) := fun h2 => by
      simp only [okAcc2_eq] at h2
      cases hcl : isCall o.op with
      | true =>
        rw [hcl, cond_true] at h2
        rw [cond_true]
        split at h2
        · cases h2
        · rename_i L x hp
          obtain ⟨h3, h4⟩ := bif_some h2
          obtain ⟨k1, k2⟩ := (xdcall_ok hc hnk hp).1 rfl
          exact .inl ⟨L, x, h3, k1, k2, go _ _ _ _ h4⟩
        · rename_i L x b hp
          obtain ⟨h3, h4⟩ := bif_some h2
          rw [Bool.and_eq_true] at h3
          obtain ⟨k1, k2⟩ := (xdcall_ok hc hnk hp).2 b rfl
          split at h4
          · cases h4
          · rename_i G1 hu
            refine .inr ⟨L, x, b, h3.1, h3.2, k1, k2, ?_⟩
            rw [← updG_new hu]
            exact go _ _ _ _ h4
      | false =>
        rw [hcl, cond_false] at h2
        rw [cond_false]
        cases he : eff P o.op (toFr T) ⟨G.get, n0 + k⟩ with
        | none => rw [he] at h2; cases h2
        | some p =>
          rw [he] at h2
          dsimp only at h2 ⊢
          cases hS : opS P o.op with
          | true =>
            rw [hS, cond_true] at h2
            rw [cond_true]
            obtain ⟨h3, h4⟩ := bif_some h2
            rw [Bool.and_eq_true] at h3
            split at h4
            · cases h4
            · rename_i G1 hu
              have h5 := (dop_of_eff (x := p.1) (s' := p.2) he).2
              rw [hS, cond_true] at h5
              have hg : G1.get = p.2.get := (updG_get _ _ _ _ hu).trans h5
              rw [← hg]
              exact ⟨h3.1, h3.2, go _ _ _ _ h4⟩
          | false =>
            rw [hS, cond_false] at h2
            rw [cond_false]
            obtain ⟨h3, h4⟩ := bif_some h2
            exact ⟨h3, go _ _ _ _ h4⟩
    cases hgd : o.guard with
    | none =>
      rw [hgd] at h
      dsimp only at h ⊢
      exact ⟨fun _ => step h, fun q => by cases q⟩
    | some jw =>
      obtain ⟨j, want⟩ := jw
      rw [hgd] at h
      dsimp only at h ⊢
      cases hv : gval ops (toFr T) j <;> rw [hv] at h <;> try (exact go _ _ _ _ h)
      case undef => cases h
      case bool b =>
        dsimp only at h ⊢
        cases hb : (b == want) with
        | true =>
          rw [hb] at h
          have hbw : b = want := by simpa using hb
          exact ⟨fun _ => step h, fun q => by rw [hbw] at q; cases want <;> cases q⟩
        | false =>
          rw [hb] at h
          have hbw : ¬ b = want := by simpa using hb
          exact ⟨fun q => absurd q hbw, fun _ => go _ _ _ _ h⟩
def mq2B (ops : Array Oper) : Bool := Nat.ble 2 (ops.toList.countP fun o => isCall o.op) && mqB ops (qSel ops) (mSel ops (qSel ops))
def xcode (P : Program) (call : ICall) (cc : CCall) (nk : FuncId → Option Nat) (L : Nat) : Code → Tr V → Tr Blk' → Nat → Res
  | .skip, T, G, c => some (.normal, T, G, c)
  | .label _, T, G, c => some (.normal, T, G, c)
  | .exit i, T, G, c => some (.exit i, T, G, c)
  | .ret, T, G, c => some (.ret, T, G, c)
  | .seq x y, T, G, c => match xcode P call cc nk L x T G c with
    | some (.normal, T', G', c') => xcode P call cc nk L y T' G' c'
    | r => r
  | .cond q x y, T, G, c => match ev (toFr T) q with
    | .bool true => xcode P call cc nk L x T G c
    | .bool false => xcode P call cc nk L y T G c
    | _ => none
  | .block id x, T, G, c => match xcode P call cc nk L x T G c with
    | some (.exit i, T', G', c') => bif Nat.beq i id then some (.normal, T', G', c') else some (.exit i, T', G', c')
    | r => r
  | .scope x, T, G, c => xcode P call cc nk L x T G c
  | .loop x, T, G, c => rloop (xcode P call cc nk L x) L T G c
  | .region _ ops draw, T, G, c => bif draw then (bif tlB P ops then (match rops P call ops ops.toList T G c with
        | none => none
        | some p => some (.normal, p.1, p.2.1, p.2.2))
      else bif mq2B ops then (match rops P call ops (pickL ops (qSel ops ++ mSel ops (qSel ops))) T G c with
        | none => none
        | some p => some (.normal, p.1, p.2.1, p.2.2))
      else bif mxB P ops then (match xdl P cc nk (headA ops (mxN P ops)) c (headA ops (mxN P ops)).toList 0 [] [] T G with
        | none => none
        | some p => match rops P call ops (ops.toList.drop (mxN P ops)) p.1 p.2 (c + mxN P ops) with
          | none => none
          | some p => some (.normal, p.1, p.2.1, p.2.2))
      else match xdl P cc nk ops c ops.toList 0 [] [] T G with
        | none => none
        | some p => some (.normal, p.1, p.2, c + ops.size))
    else match rops P call ops ops.toList T G c with
      | none => none
      | some p => some (.normal, p.1, p.2.1, p.2.2)
  | _, _, _, _ => none
theorem xcode_sound {P : Program} (hm : P.follows .mixedOrders = true) {call : ICall} {cc : CCall} {nk : FuncId → Option Nat} (hi : IOk P call) (hc : COk P cc) (hnk : NkOk P cc nk) {L nt : Nat} : ∀ (x : Code) (T T' : Tr V) (G G' : Tr Blk') (c c' : Nat) (e : AEx), okC nt x = true → xcode P call cc nk L x T G c = some (e, T', G', c') →
    ∀ Q : AEx → Fr → St → Prop, Q e (toFr T') ⟨G'.get, c'⟩ → AW P nt x Q (toFr T) ⟨G.get, c⟩ := by
  intro x
  induction x with
  | skip =>
    intro T T' G G' c c' e ho h Q hq
    simp only [xcode, Option.some.injEq, Prod.mk.injEq] at h
    obtain ⟨rfl, rfl, rfl, rfl⟩ := h
    exact AW.skip hq
  | label i =>
    intro T T' G G' c c' e ho h Q hq
    simp only [xcode, Option.some.injEq, Prod.mk.injEq] at h
    obtain ⟨rfl, rfl, rfl, rfl⟩ := h
    exact AW.label hq
  | exit i =>
    intro T T' G G' c c' e ho h Q hq
    simp only [xcode, Option.some.injEq, Prod.mk.injEq] at h
    obtain ⟨rfl, rfl, rfl, rfl⟩ := h
    exact AW.exit hq
  | ret =>
    intro T T' G G' c c' e ho h Q hq
    simp only [xcode, Option.some.injEq, Prod.mk.injEq] at h
    obtain ⟨rfl, rfl, rfl, rfl⟩ := h
    exact AW.ret hq
  | seq x y ihx ihy =>
    intro T T' G G' c c' e ho h Q hq
    simp only [okC, Bool.and_eq_true] at ho
    unfold xcode at h
    refine AW.seq ?_
    cases hx : xcode P call cc nk L x T G c with
    | none => rw [hx] at h; cases h
    | some p =>
      obtain ⟨e1, T1, G1, c1⟩ := p
      rw [hx] at h
      refine ihx _ _ _ _ _ _ _ ho.1 hx _ ?_
      cases e1 with
      | normal => exact ihy _ _ _ _ _ _ _ ho.2 h Q hq
      | exit i =>
        simp only [Option.some.injEq, Prod.mk.injEq] at h
        obtain ⟨rfl, rfl, rfl, rfl⟩ := h
        exact hq
      | ret =>
        simp only [Option.some.injEq, Prod.mk.injEq] at h
        obtain ⟨rfl, rfl, rfl, rfl⟩ := h
        exact hq
  | cond q x y ihx ihy =>
    intro T T' G G' c c' e ho h Q hq
    simp only [okC, Bool.and_eq_true] at ho
    unfold xcode at h
    split at h
    · rename_i hv
      exact AW.cond hv (fun _ => ihx _ _ _ _ _ _ _ ho.1 h Q hq) (fun q => by cases q)
    · rename_i hv
      exact AW.cond hv (fun q => by cases q) (fun _ => ihy _ _ _ _ _ _ _ ho.2 h Q hq)
    · cases h
  | block id x ih =>
    intro T T' G G' c c' e ho h Q hq
    unfold xcode at h
    refine AW.block ?_
    cases hx : xcode P call cc nk L x T G c with
    | none => rw [hx] at h; cases h
    | some p =>
      obtain ⟨e1, T1, G1, c1⟩ := p
      rw [hx] at h
      refine ih _ _ _ _ _ _ _ ho hx _ ?_
      cases e1 with
      | exit i =>
        show if i = id then Q .normal (toFr T1) ⟨G1.get, c1⟩ else Q (.exit i) (toFr T1) ⟨G1.get, c1⟩
        dsimp only at h
        by_cases hid : i = id
        · rw [beq_tt hid, cond_true] at h
          simp only [Option.some.injEq, Prod.mk.injEq] at h
          obtain ⟨rfl, rfl, rfl, rfl⟩ := h
          rw [if_pos hid]; exact hq
        · rw [beq_ff hid, cond_false] at h
          simp only [Option.some.injEq, Prod.mk.injEq] at h
          obtain ⟨rfl, rfl, rfl, rfl⟩ := h
          rw [if_neg hid]; exact hq
      | normal =>
        simp only [Option.some.injEq, Prod.mk.injEq] at h
        obtain ⟨rfl, rfl, rfl, rfl⟩ := h
        exact hq
      | ret =>
        simp only [Option.some.injEq, Prod.mk.injEq] at h
        obtain ⟨rfl, rfl, rfl, rfl⟩ := h
        exact hq
  | scope x ih => exact fun T T' G G' c c' e ho h Q hq => AW.scope (ih T T' G G' c c' e ho h Q hq)
  | loop x ih =>
    intro T T' G G' c c' e ho h Q hq
    have h : rloop (xcode P call cc nk L x) L T G c = some (e, T', G', c') := h
    refine AW.unroll L ?_
    have key : ∀ (m : Nat) (T : Tr V) (G : Tr Blk') (c : Nat), rloop (xcode P call cc nk L x) m T G c = some (e, T', G', c') → loopA P nt x Q m (toFr T) ⟨G.get, c⟩ := by
      intro m
      induction m with
      | zero => intro T G c h; cases h
      | succ m ihm =>
        intro T G c h
        unfold rloop at h
        show AW P nt x (AEx.then (loopA P nt x Q m) Q) (toFr T) ⟨G.get, c⟩
        cases hx : xcode P call cc nk L x T G c with
        | none => rw [hx] at h; cases h
        | some p =>
          obtain ⟨e1, T1, G1, c1⟩ := p
          rw [hx] at h
          refine ih _ _ _ _ _ _ _ ho hx _ ?_
          cases e1 with
          | normal => exact ihm _ _ _ h
          | exit i =>
            simp only [Option.some.injEq, Prod.mk.injEq] at h
            obtain ⟨rfl, rfl, rfl, rfl⟩ := h
            exact hq
          | ret =>
            simp only [Option.some.injEq, Prod.mk.injEq] at h
            obtain ⟨rfl, rfl, rfl, rfl⟩ := h
            exact hq
    exact key L T G c h
  | region i ops draw =>
    intro T T' G G' c c' e ho h Q hq
    simp only [okC, Bool.and_eq_true] at ho
    unfold xcode at h
    have ro : ∀ (l : List Oper) (T0 : Tr V) (G0 : Tr Blk') (c0 : Nat) (K : Option (Tr V × Tr Blk' × Nat)), rops P call ops l T0 G0 c0 = K → (match K with | none => none | some p => some (AEx.normal, p.1, p.2.1, p.2.2)) = some (e, T', G', c') → aops P ops l (toFr T0) ⟨G0.get, c0⟩ (Q .normal) := fun l T0 G0 c0 K hK hm => by
      cases K with
      | none => cases hm
      | some p =>
        simp only [Option.some.injEq, Prod.mk.injEq] at hm
        obtain ⟨rfl, rfl, rfl, rfl⟩ := hm
        exact rops_sound hi _ _ p.1 _ p.2.1 _ p.2.2 hK (Q .normal) hq
    cases draw with
    | true =>
      rw [cond_true] at h
      cases ht : tlB P ops with
      | true =>
        rw [ht, cond_true] at h
        exact AW.region_tail hm ho.1 ht (ro _ _ _ _ _ rfl h)
      | false =>
        rw [ht, cond_false] at h
        cases hq2 : mq2B ops with
        | true =>
          rw [hq2, cond_true] at h
          exact AW.region_mq hm ho.1 (and_tt' hq2).2 (ro _ _ _ _ _ rfl h)
        | false =>
        rw [hq2, cond_false] at h
        cases hx : mxB P ops with
        | true =>
          rw [hx, cond_true] at h
          obtain ⟨-, hx⟩ := and_tt' hx
          obtain ⟨hx1, hx2⟩ := and_tt' hx
          split at h
          · cases h
          · rename_i p hp
            refine AW.region_mix hm ho.1 hx1 hx2 ?_
            exact dl_sound _ _ [] [] [] _ _ (fun _ h => absurd h List.not_mem_nil) (xdl_sound hc hnk _ _ _ _ _ p.1 _ p.2 hp (fun fr g => aops P ops (ops.toList.drop (mxN P ops)) fr ⟨g, c + mxN P ops⟩ (Q .normal)) (ro _ _ _ _ _ rfl h))
        | false =>
          rw [hx, cond_false] at h
          split at h
          · cases h
          · rename_i p hp
            simp only [Option.some.injEq, Prod.mk.injEq] at h
            obtain ⟨rfl, rfl, rfl, rfl⟩ := h
            exact AW.region hm ho.1 ⟨by simpa using ho.2, dl_sound _ _ [] [] [] _ _ (fun _ h => absurd h List.not_mem_nil) (xdl_sound hc hnk _ _ _ _ _ p.1 _ p.2 hp (fun fr g => Q .normal fr ⟨g, c + ops.size⟩) hq)⟩
    | false =>
      rw [cond_false] at h
      exact AW.region hm ho.1 (ro _ _ _ _ _ rfl h)
  | _ => intro T T' G G' c c' e ho h; cases h
def xbody (P : Program) (call : ICall) (cc : CCall) (nk : FuncId → Option Nat) (L : Nat) (g : FuncId) (args : List V) (G : Tr Blk') (c : Nat) : Option (V × Tr Blk' × Nat) :=
  match P.funcs[g]? with
  | none => none
  | some fn => match fn.body with
    | none => none
    | some x => bif (fn.name == "runtime.NumGoroutine") then none else
      bif Nat.ble args.length fn.ntmps && okC fn.ntmps x && Nat.ble args.length 4000 then
        match xcode P call cc nk L x (frT args 0 .leaf) G c with
        | none => none
        | some (e, T', G', c') => match e with
          | .exit _ => none
          | _ => (resV P (toFr T') ⟨G'.get, c'⟩ fn.results.toList).map fun r => (r, G', c')
      else none
theorem xbody_split {P : Program} (hm : P.follows .mixedOrders = true) {call : ICall} {cc : CCall} {nk : FuncId → Option Nat} (hi : IOk P call) (hc : COk P cc) (hnk : NkOk P cc nk) {L : Nat} {g : FuncId} {args : List V} {G G' : Tr Blk'} {c c' : Nat} {r : V} (h : xbody P call cc nk L g args G c = some (r, G', c')) :
    ∃ fn x, P.funcs[g]? = some fn ∧ fn.body = some x ∧ (fn.name == "runtime.NumGoroutine") = false ∧ Nat.ble args.length fn.ntmps = true ∧ okC fn.ntmps x = true ∧
      ∀ Q : AEx → Fr → St → Prop, (∀ e fr, e = .ret ∨ e = .normal → resV P fr ⟨G'.get, c'⟩ fn.results.toList = some r → Q e fr ⟨G'.get, c'⟩) → AW P fn.ntmps x Q (frOf args) ⟨G.get, c⟩ := by
  unfold xbody at h
  split at h
  · cases h
  rename_i fn hf
  split at h
  · cases h
  rename_i x hb
  cases hn : (fn.name == "runtime.NumGoroutine") with
  | true => rw [hn] at h; cases h
  | false =>
  rw [hn, cond_false] at h
  obtain ⟨h1, h2⟩ := bif_some h
  rw [Bool.and_eq_true, Bool.and_eq_true] at h1
  have hl : args.length ≤ 4000 := Nat.le_of_ble_eq_true h1.2
  split at h2
  · cases h2
  rename_i e T1 G1 c1 hx
  refine ⟨fn, x, hf, hb, hn, h1.1.1, h1.1.2, fun Q hq => ?_⟩
  rw [← toFr_frT hl]
  have fin : e = .ret ∨ e = .normal → (resV P (toFr T1) ⟨G1.get, c1⟩ fn.results.toList).map (fun r => (r, G1, c1)) = some (r, G', c') → AW P fn.ntmps x Q (toFr (frT args 0 .leaf)) ⟨G.get, c⟩ := fun he h3 => by
    obtain ⟨r1, h4, h5⟩ := Option.map_eq_some_iff.1 h3
    simp only [Prod.mk.injEq] at h5
    obtain ⟨rfl, rfl, rfl⟩ := h5
    exact xcode_sound hm hi hc hnk x _ _ _ _ _ _ _ h1.1.2 hx Q (hq e _ he h4)
  cases e with
  | exit i => cases h2
  | normal => exact fin (.inr rfl) h2
  | ret => exact fin (.inl rfl) h2
def xrunC (P : Program) (call : ICall) (cc : CCall) (nk : FuncId → Option Nat) (L : Nat) (g : FuncId) (args : List V) : Option V :=
  match xbody P call cc nk L g args .leaf 0 with
  | none => none
  | some (r, G, c) => frz 20 G.get r
def xicall (sp : Spk V) (body : ICall) (g : FuncId) (args : List V) (G : Tr Blk') (c : Nat) : Option (V × Tr Blk' × Nat) :=
  match sp g with
  | none => body g args G c
  | some s => match s.1 with
    | .i _ => none
    | .n sz => bif args.all (plainB 20) then (match s.2 (args.map (wkn 20)) some with
        | none => none
        | some x => newK G c sz (asR x) fun v G' c' => some (v, G', c'))
      else (match mapO (frz 20 G.get) args with
        | none => none
        | some as' => bif as'.all (plainB 20) then (match s.2 (as'.map (wkn 20)) some with
          | none => none
          | some x => bif rowsSc (asR x) then newK G c sz (asR x) fun v G' c' => some (v, G', c') else none) else none)
    | k => bif args.all (plainB 20) then (s.2 (args.map (wkn 20)) some).map fun x => (x, G, c) else (match mapO (frz 20 G.get) args with
      | none => none
      | some as' => bif as'.all (plainB 20) then (s.2 (as'.map (wkn 20)) some).bind fun x => bif k.fb || scB 20 x then some (x, G, c) else none else none)
def xccall (sp : Spk V) (body : CCall) (g : FuncId) (args : List V) : Option V := match sp g with
  | none => body g args
  | some s => bif args.all (plainB 20) then s.2 (args.map (wkn 20)) some else none
def nkOf (sp : Spk V) (g : FuncId) : Option Nat := match sp g with
  | none => none
  | some s => s.1.sz
def xeval (P : Program) (sp : Spk V) (L : Nat) : Nat → ICall × CCall
  | 0 => (fun _ _ _ _ => none, fun _ _ => none)
  | n + 1 => (xicall sp (xbody P (xeval P sp L n).1 (xeval P sp L n).2 (nkOf sp) L), xccall sp (xrunC P (xeval P sp L n).1 (xeval P sp L n).2 (nkOf sp) L))
theorem xbody_ok {P : Program} (hm : P.follows .mixedOrders = true) {call : ICall} {cc : CCall} {nk : FuncId → Option Nat} (hi : IOk P call) (hc : COk P cc) (hnk : NkOk P cc nk) {L : Nat} : IOk P (xbody P call cc nk L) := by
  intro g args G c x G' c' h K hk
  obtain ⟨fn, y, hf, hb, hn, hl, ho, hq⟩ := xbody_split hm hi hc hnk h
  refine .inr (.inr (.inr (.inr ⟨fun r st' => r = x ∧ st' = ⟨G'.get, c'⟩, ?_, fun r st' e => by rw [e.1, e.2]; exact hk⟩)))
  refine icon_of_aw hf hb hn (Nat.le_of_ble_eq_true hl) (hq _ fun e fr he hr => ?_)
  rcases he with rfl | rfl <;> exact ⟨x, hr, rfl, rfl⟩
theorem xrunC_ok {P : Program} (hm : P.follows .mixedOrders = true) {call : ICall} {cc : CCall} {nk : FuncId → Option Nat} (hi : IOk P call) (hc : COk P cc) (hnk : NkOk P cc nk) {L : Nat} : COk P (xrunC P call cc nk L) := by
  intro g args x h
  unfold xrunC at h
  split at h
  · cases h
  rename_i r G c hr
  obtain ⟨fn, y, hf, hb, hn, hl, ho, hq⟩ := xbody_split hm hi hc hnk hr
  refine con_of_aw hf hb hn (Nat.le_of_ble_eq_true hl) (hq _ fun e fr he hr => ?_)
  have hz := frz_ok 20 ⟨G.get, c⟩ r x h
  rcases he with rfl | rfl <;> exact ⟨r, mny, x, hr, hz, rfl⟩
theorem plain_all {l : List V} (h : l.all (plainB 20) = true) : ∀ y ∈ l, Plain y := fun y hy => plainB_ok 20 y (List.all_eq_true.1 h y hy)
theorem entOk_some {P : Program} {g : Nat} {s : Ent V} (h : EntOk P g s) {args : List V} {x : V} (hx : s.2 args some = some x) (hp : ∀ y ∈ args, Plain y) : Con P g args (· = x) ∧ Plain x ∧ (s.1.fb = true → FCon P g args x) ∧ ∀ sz, s.1.sz = some sz → NCon P g args (asR x) sz := by
  obtain ⟨y, h1, h2⟩ := h.2 args some x hx
  rw [h1] at hx
  injection hx with hx
  subst hx
  exact h2 hp
theorem FCon.wkn {P : Program} {g : FuncId} {n : Nat} {args : List V} {x : V} (h : FCon P g (args.map (Proofs.YtkjihmlighigjaaGreat.wkn n)) x) : FCon P g args x :=
  ⟨h.1, fun w S vargs hS hv => h.2 w S vargs hS ⟨by simpa using hv.1, fun j hj hj' => by
    rw [List.getElem_map]
    exact wkn_vr n _ _ (hv.2 j (by simpa using hj) hj')⟩⟩
theorem xicall_ok {P : Program} {sp : Spk V} (hs : SpkOk P sp) {body : ICall} (hb : IOk P body) : IOk P (xicall sp body) := by
  intro g args G c x G' c' h K hk
  unfold xicall at h
  cases hg : sp g with
  | none => rw [hg] at h; exact hb g args G c x G' c' h K hk
  | some s =>
    rw [hg] at h
    dsimp only at h
    have E := hs g s hg
    have new : ∀ (args' : List V) (es : List (List V)) (sz : Nat), NArgs ⟨G.get, c⟩ mny args args' es → NCon P g args' es sz → newK G c sz es (fun v G' c' => some (v, G', c')) = some (x, G', c') → acall P g args ⟨G.get, c⟩ K := fun args' es sz hz hN hn => by
      obtain ⟨G1, m1, m2, -⟩ := newK_some hn
      simp only [Option.some.injEq, Prod.mk.injEq] at m2
      obtain ⟨rfl, rfl, rfl⟩ := m2
      refine .inr (.inr (.inr (.inr ⟨_, icon_of_ncon hz hN, ?_⟩)))
      rintro v st' ⟨rfl, rfl⟩
      rw [m1] at hk
      exact hk
    have old : ∀ kd : Knd V, s.1.fb = kd.fb → (bif args.all (plainB 20) then (s.2 (args.map (wkn 20)) some).map fun x => (x, G, c) else (match mapO (frz 20 G.get) args with
      | none => none
      | some as' => bif as'.all (plainB 20) then (s.2 (as'.map (wkn 20)) some).bind fun x => bif kd.fb || scB 20 x then some (x, G, c) else none else none)) = some (x, G', c') → acall P g args ⟨G.get, c⟩ K := fun kd hkd h => by
      cases hp : args.all (plainB 20) with
      | true =>
        rw [hp, cond_true] at h
        obtain ⟨y, hy, e⟩ := Option.map_eq_some_iff.1 h
        simp only [Prod.mk.injEq] at e
        obtain ⟨rfl, rfl, rfl⟩ := e
        obtain ⟨k1, k2, k3⟩ := entOk_some E hy (wkn_all (plain_all hp))
        exact .inl ⟨(· = y), plain_all hp, k1.wkn, fun r hr => by rw [hr]; exact hk⟩
      | false =>
        rw [hp, cond_false] at h
        split at h
        · cases h
        · rename_i as' ha
          obtain ⟨hp', h⟩ := bif_some h
          obtain ⟨y, hy, e⟩ := Option.bind_eq_some_iff.1 h
          obtain ⟨hb, e⟩ := bif_some e
          simp only [Option.some.injEq, Prod.mk.injEq] at e
          obtain ⟨rfl, rfl, rfl⟩ := e
          obtain ⟨k1, k2, k3, -⟩ := entOk_some E hy (wkn_all (plain_all hp'))
          cases hf : kd.fb with
          | true => exact .inr (.inr (.inr (.inl ⟨mny, as', y, frzL_ok (st := ⟨G.get, c⟩) ha, (k3 (hkd.trans hf)).wkn, hk⟩)))
          | false =>
            rw [hf, Bool.false_or] at hb
            exact .inr (.inl ⟨mny, as', (· = y), frzL_ok (st := ⟨G.get, c⟩) ha, k1.wkn, fun r hr => by rw [hr]; exact ⟨scB_ok 20 y hb, hk⟩⟩)
    cases hkd : s.1 with
    | i f => rw [hkd] at h; cases h
    | c => rw [hkd] at h; exact old .c (by rw [hkd]) h
    | f => rw [hkd] at h; exact old .f (by rw [hkd]) h
    | n sz =>
      rw [hkd] at h
      dsimp only at h
      cases hp : args.all (plainB 20) with
      | true =>
        rw [hp, cond_true] at h
        split at h
        · cases h
        · rename_i y hy
          obtain ⟨k1, k2, k3, k4⟩ := entOk_some E hy (wkn_all (plain_all hp))
          exact new args (asR y) sz (.inl ⟨plain_all hp, rfl⟩) (k4 sz (by rw [hkd]; rfl)).wkn h
      | false =>
        rw [hp, cond_false] at h
        split at h
        · cases h
        · rename_i as' ha
          obtain ⟨hp', h⟩ := bif_some h
          split at h
          · cases h
          · rename_i y hy
            obtain ⟨hs', h⟩ := bif_some h
            obtain ⟨k1, k2, k3, k4⟩ := entOk_some E hy (wkn_all (plain_all hp'))
            exact new as' (asR y) sz (.inr ⟨frzL_ok (st := ⟨G.get, c⟩) ha, rowsSc_ok hs'⟩) (k4 sz (by rw [hkd]; rfl)).wkn h
theorem xeval_ok {P : Program} (hm : P.follows .mixedOrders = true) {sp : Spk V} (hs : SpkOk P sp) {L : Nat} : ∀ n, IOk P (xeval P sp L n).1 ∧ COk P (xeval P sp L n).2 ∧ NkOk P (xeval P sp L n).2 (nkOf sp)
  | 0 => ⟨fun g args G c x G' c' h => (by cases h), fun g args x h => (by cases h), fun h sz args x _ _ q => (by cases q)⟩
  | n + 1 => by
    obtain ⟨h1, h2, h3⟩ := xeval_ok hm hs (L := L) n
    refine ⟨xicall_ok hs (xbody_ok hm h1 h2 h3), fun g args x h => ?_, fun g sz args x hg hp h => ?_⟩
    · have h : xccall sp (xrunC P (xeval P sp L n).1 (xeval P sp L n).2 (nkOf sp) L) g args = some x := h
      unfold xccall at h
      split at h
      · exact xrunC_ok hm h1 h2 h3 g args x h
      · rename_i s hg
        obtain ⟨hp, h⟩ := bif_some h
        exact (entOk_some (hs g s hg) h (wkn_all (plain_all hp))).1.wkn
    · have h : xccall sp (xrunC P (xeval P sp L n).1 (xeval P sp L n).2 (nkOf sp) L) g args = some x := h
      unfold xccall at h
      unfold nkOf at hg
      cases hsp : sp g with
      | none => rw [hsp] at hg; cases hg
      | some s =>
        rw [hsp] at h hg
        obtain ⟨hq, h⟩ := bif_some h
        exact ((entOk_some (hs g s hsp) h (wkn_all hp)).2.2.2 sz hg).wkn
theorem con_of_xrun {P : Program} (hm : P.follows .mixedOrders = true) {sp : Spk V} (hs : SpkOk P sp) (L n : Nat) {g : FuncId} {args : List V} {x : V} (h : xrunC P (xeval P sp L n).1 (xeval P sp L n).2 (nkOf sp) L g args = some x) : Con P g args (· = x) := by
  obtain ⟨h1, h2, h3⟩ := xeval_ok hm hs (L := L) n
  exact xrunC_ok hm h1 h2 h3 g args x h
def eqL (e : V → V → Bool) : List V → List V → Bool
  | [], [] => true
  | x :: xs, y :: ys => e x y && eqL e xs ys
  | _, _ => false
theorem eqL_ok {e : V → V → Bool} (he : ∀ x y, e x y = true → x = y) : ∀ (xs ys : List V), eqL e xs ys = true → xs = ys
  | [], [], _ => rfl
  | x :: xs, y :: ys, h => by
    have h : (e x y && eqL e xs ys) = true := h
    rw [Bool.and_eq_true] at h
    rw [he x y h.1, eqL_ok he xs ys h.2]
  | [], _ :: _, h => by cases h
  | _ :: _, [], h => by cases h
def eqR (e : V → V → Bool) : List (List V) → List (List V) → Bool
  | [], [] => true
  | x :: xs, y :: ys => eqL e x y && eqR e xs ys
  | _, _ => false
theorem eqR_ok {e : V → V → Bool} (he : ∀ x y, e x y = true → x = y) : ∀ (xs ys : List (List V)), eqR e xs ys = true → xs = ys
  | [], [], _ => rfl
  | x :: xs, y :: ys, h => by
    have h : (eqL e x y && eqR e xs ys) = true := h
    rw [Bool.and_eq_true] at h
    rw [eqL_ok he x y h.1, eqR_ok he xs ys h.2]
  | [], _ :: _, h => by cases h
  | _ :: _, [], h => by cases h
def eqU : List UInt8 → List UInt8 → Bool
  | [], [] => true
  | x :: xs, y :: ys => Nat.beq x.toNat y.toNat && eqU xs ys
  | _, _ => false
theorem eqU_ok : ∀ (xs ys : List UInt8), eqU xs ys = true → xs = ys
  | [], [], _ => rfl
  | x :: xs, y :: ys, h => by
    have h : (Nat.beq x.toNat y.toNat && eqU xs ys) = true := h
    rw [Bool.and_eq_true] at h
    rw [UInt8.toNat_inj.1 (Nat.eq_of_beq_eq_true h.1), eqU_ok xs ys h.2]
  | [], _ :: _, h => by cases h
  | _ :: _, [], h => by cases h
def eqV : Nat → V → V → Bool
  | 0, _, _ => false
  | n + 1, x, y => match x, y with
    | .bool a, .bool b => a == b
    | .int k a, .int k' b => decide (k = k') && decide (a = b)
    | .str a, .str b => eqU a.data.toList b.data.toList
    | .sl a f, .sl b f' => (f == f') && eqR (eqV n) a b
    | .agg a, .agg b => eqL (eqV n) a b
    | .tup a, .tup b => eqL (eqV n) a b
    | .tp a, .tp b => eqL (eqV n) a b
    | .nilp, .nilp => true
    | .nilfn, .nilfn => true
    | _, _ => false
theorem eqV_ok : ∀ (n : Nat) (x y : V), eqV n x y = true → x = y
  | 0, _, _, h => by cases h
  | n + 1, x, y, h => by
    have ih := eqV_ok n
    unfold eqV at h
    split at h
    · rw [beq_iff_eq] at h; rw [h]
    · rw [Bool.and_eq_true] at h; rw [of_decide_eq_true h.1, of_decide_eq_true h.2]
    · rename_i a b
      have := eqU_ok _ _ h
      obtain ⟨⟨a⟩⟩ := a
      obtain ⟨⟨b⟩⟩ := b
      dsimp only at this
      rw [this]
    · rw [Bool.and_eq_true, beq_iff_eq] at h; rw [h.1, eqR_ok ih _ _ h.2]
    · rw [eqL_ok ih _ _ h]
    · rw [eqL_ok ih _ _ h]
    · rw [eqL_ok ih _ _ h]
    · rfl
    · rfl
    · cases h
def lookV : List (List V × V) → List V → Option V
  | [], _ => none
  | p :: l, a => bif eqL (eqV 20) p.1 a then some p.2 else lookV l a
def spQ (l : List (List V × V)) : Ent V := (.c, fun args K => match lookV l args with
  | none => none
  | some x => K x)
def QOk (P : Program) (g : FuncId) (l : List (List V × V)) : Prop := ∀ p ∈ l, Con P g p.1 (· = p.2) ∧ Plain p.2
theorem QOk.nil {P : Program} {g : FuncId} : QOk P g [] := fun p h => by cases h
theorem QOk.cons {P : Program} {g : FuncId} {a : List V} {x : V} {l : List (List V × V)} (h : Con P g a (· = x)) (hp : plainB 20 x = true) (hl : QOk P g l) : QOk P g ((a, x) :: l) := fun p hp' => by
  rcases List.mem_cons.1 hp' with rfl | hp'
  · exact ⟨h, plainB_ok 20 x hp⟩
  · exact hl p hp'
theorem lookV_ok {P : Program} {g : FuncId} : ∀ {l : List (List V × V)}, QOk P g l → ∀ {a : List V} {x : V}, lookV l a = some x → Con P g a (· = x) ∧ Plain x
  | [], _, a, x, h => by cases h
  | p :: l, hl, a, x, h => by
    have h : (bif eqL (eqV 20) p.1 a then some p.2 else lookV l a) = some x := h
    cases he : eqL (eqV 20) p.1 a with
    | true =>
      rw [he, cond_true, Option.some.injEq] at h
      subst h
      rw [← eqL_ok (eqV_ok 20) _ _ he]
      exact hl p (by simp)
    | false =>
      rw [he, cond_false] at h
      exact lookV_ok (fun q hq => hl q (by simp [hq])) h
theorem spQ_ok {P : Program} {g : FuncId} {l : List (List V × V)} (hl : QOk P g l) : EntOk P g (spQ l) := by
  refine ⟨fun f q => (by cases q), fun args K r hr => ?_⟩
  have hr : (match lookV l args with | none => none | some x => K x) = some r := hr
  cases hx : lookV l args with
  | none => rw [hx] at hr; cases hr
  | some x =>
    obtain ⟨h1, h2⟩ := lookV_ok hl hx
    refine ⟨x, fun K' => ?_, fun _ => ⟨h1, h2, fun q => (by cases q), fun sz q => (by cases q)⟩⟩
    show (match lookV l args with | none => none | some x => K' x) = _
    rw [hx]
end Go.Proofs.YtkjihmlighigjaaGreat
