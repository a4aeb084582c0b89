/- The evaluator: what a piece of code comes to, computed; that it is so. -/
import Derived.Test.YtkjihmlighigjaaGreatRepairAliveM29
import Derived.Test.YtkjihmlighigjaaGreatRepairAliveM31
set_option linter.unusedSimpArgs false
set_option linter.unusedVariables false
namespace Go.Proofs.YtkjihmlighigjaaGreat
open Go.RowKit

inductive Tr (α : Type) where
  | leaf
  | node (l : Tr α) (v : Option α) (r : Tr α)
def Tr.get {α : Type} : Tr α → Nat → Option α
  | .leaf, _ => none
  | .node l v r, n => bif Nat.beq n 0 then v else bif Nat.beq (n % 2) 1 then l.get (n / 2) else r.get (n / 2 - 1)
def Tr.set {α : Type} : Nat → Tr α → Nat → Option α → Tr α
  | 0, t, _, _ => t
  | d + 1, .leaf, n, v => bif Nat.beq n 0 then .node .leaf v .leaf else bif Nat.beq (n % 2) 1 then .node (Tr.set d .leaf (n / 2) v) none .leaf else .node .leaf none (Tr.set d .leaf (n / 2 - 1) v)
  | d + 1, .node l u r, n, v => bif Nat.beq n 0 then .node l v r else bif Nat.beq (n % 2) 1 then .node (Tr.set d l (n / 2) v) u r else .node l u (Tr.set d r (n / 2 - 1) v)
theorem beq_tt {a b : Nat} (h : a = b) : Nat.beq a b = true := by subst h; exact Nat.beq_refl _
theorem beq_ff {a b : Nat} (h : ¬ a = b) : Nat.beq a b = false := by
  cases hh : Nat.beq a b with
  | false => rfl
  | true => exact absurd (Nat.eq_of_beq_eq_true hh) h
theorem Tr.leaf_get {α : Type} (n : Nat) : (Tr.leaf : Tr α).get n = none := rfl
theorem Tr.node_get {α : Type} (l r : Tr α) (v : Option α) (n : Nat) : (Tr.node l v r).get n = if n = 0 then v else if n % 2 = 1 then l.get (n / 2) else r.get (n / 2 - 1) := by
  show (bif Nat.beq n 0 then v else bif Nat.beq (n % 2) 1 then l.get (n / 2) else r.get (n / 2 - 1)) = _
  by_cases h : n = 0
  · rw [beq_tt h, if_pos h]; rfl
  · rw [beq_ff h, if_neg h, cond_false]
    by_cases h2 : n % 2 = 1
    · rw [beq_tt h2, if_pos h2]; rfl
    · rw [beq_ff h2, if_neg h2]; rfl
theorem Tr.set_get {α : Type} : ∀ (d : Nat) (t : Tr α) (n m : Nat) (v : Option α), n + 1 < 2 ^ d → (Tr.set d t n v).get m = if m = n then v else t.get m
  | 0, t, n, m, v, h => absurd h (by simp)
  | d + 1, .leaf, n, m, v, h => by
    have hp : 2 ^ (d + 1) = 2 ^ d * 2 := Nat.pow_succ 2 d
    show (bif Nat.beq n 0 then Tr.node .leaf v .leaf else bif Nat.beq (n % 2) 1 then Tr.node (Tr.set d .leaf (n / 2) v) none .leaf else Tr.node .leaf none (Tr.set d .leaf (n / 2 - 1) v)).get m = _
    by_cases h0 : n = 0
    · rw [beq_tt h0, cond_true, Tr.node_get]
      subst h0
      by_cases hm : m = 0
      · rw [if_pos hm, if_pos hm]
      · rw [if_neg hm, if_neg hm]
        simp only [Tr.leaf_get, ite_self]
    · rw [beq_ff h0, cond_false]
      by_cases h2 : n % 2 = 1
      · rw [beq_tt h2, cond_true, Tr.node_get, Tr.set_get d .leaf (n / 2) (m / 2) v (by omega)]
        simp only [Tr.leaf_get]
        by_cases hm : m = n
        · rw [if_neg (by omega), if_pos (by omega), if_pos (by omega), if_pos hm]
        · rw [if_neg hm]
          by_cases hm0 : m = 0
          · rw [if_pos hm0]
          · rw [if_neg hm0]
            by_cases hm2 : m % 2 = 1
            · rw [if_pos hm2, if_neg (by omega)]
            · rw [if_neg hm2]
      · rw [beq_ff h2, cond_false, Tr.node_get, Tr.set_get d .leaf (n / 2 - 1) (m / 2 - 1) v (by omega)]
        simp only [Tr.leaf_get]
        by_cases hm : m = n
        · rw [if_neg (by omega), if_neg (by omega), if_pos (by omega), if_pos hm]
        · rw [if_neg hm]
          by_cases hm0 : m = 0
          · rw [if_pos hm0]
          · rw [if_neg hm0]
            by_cases hm2 : m % 2 = 1
            · rw [if_pos hm2]
            · rw [if_neg hm2, if_neg (by omega)]
  | d + 1, .node l u r, n, m, v, h => by
    have hp : 2 ^ (d + 1) = 2 ^ d * 2 := Nat.pow_succ 2 d
    show (bif Nat.beq n 0 then Tr.node l v r else bif Nat.beq (n % 2) 1 then Tr.node (Tr.set d l (n / 2) v) u r else Tr.node l u (Tr.set d r (n / 2 - 1) v)).get m = _
    rw [Tr.node_get l r u m]
    by_cases h0 : n = 0
    · rw [beq_tt h0, cond_true, Tr.node_get]
      subst h0
      by_cases hm : m = 0
      · rw [if_pos hm, if_pos hm]
      · rw [if_neg hm, if_neg hm, if_neg hm]
    · rw [beq_ff h0, cond_false]
      by_cases h2 : n % 2 = 1
      · rw [beq_tt h2, cond_true, Tr.node_get, Tr.set_get d l (n / 2) (m / 2) v (by omega)]
        by_cases hm : m = n
        · rw [if_neg (by omega), if_pos (by omega), if_pos (by omega), if_pos hm]
        · rw [if_neg hm]
          by_cases hm0 : m = 0
          · rw [if_pos hm0, if_pos hm0]
          · rw [if_neg hm0, if_neg hm0]
            by_cases hm2 : m % 2 = 1
            · rw [if_pos hm2, if_pos hm2, if_neg (by omega)]
            · rw [if_neg hm2, if_neg hm2]
      · rw [beq_ff h2, cond_false, Tr.node_get, Tr.set_get d r (n / 2 - 1) (m / 2 - 1) v (by omega)]
        by_cases hm : m = n
        · rw [if_neg (by omega), if_neg (by omega), if_pos (by omega), if_pos hm]
        · rw [if_neg hm]
          by_cases hm0 : m = 0
          · rw [if_pos hm0, if_pos hm0]
          · rw [if_neg hm0, if_neg hm0]
            by_cases hm2 : m % 2 = 1
            · rw [if_pos hm2, if_pos hm2]
            · rw [if_neg hm2, if_neg hm2, if_neg (by omega)]
def toFr (T : Tr V) : Fr := fun t => (T.get t).getD .undef
def okD : Option Tmp → Bool
  | none => true
  | some t => Nat.ble t 4000
def putT (T : Tr V) (d : Option Tmp) (x : V) : Tr V := match d with | none => T | some t => Tr.set 12 T t (some x)
theorem toFr_put {T : Tr V} {d : Option Tmp} {x : V} (h : okD d = true) : toFr (putT T d x) = (toFr T).put d x := by
  cases d with
  | none => rfl
  | some t =>
    have ht : Nat.le t 4000 := Nat.le_of_ble_eq_true h
    have ht2 : Nat.lt (t + 1) (2 ^ 12) := Nat.lt_of_le_of_lt (Nat.succ_le_succ ht) (by decide)
    funext s
    show ((Tr.set 12 T t (some x)).get s).getD .undef = (toFr T).set t x s
    rw [Tr.set_get 12 T t s _ ht2, Fr.set_get]
    by_cases hs : s = t
    · rw [if_pos hs, if_pos hs]; rfl
    · rw [if_neg hs, if_neg hs]; rfl
def frT : List V → Nat → Tr V → Tr V
  | [], _, T => T
  | x :: l, i, T => frT l (i + 1) (Tr.set 12 T i (some x))
theorem frT_get : ∀ (l : List V) (i : Nat) (T : Tr V) (t : Nat), i + l.length ≤ 4000 → (frT l i T).get t = if i ≤ t ∧ t < i + l.length then l[t - i]? else T.get t
  | [], i, T, t, _ => by
    show T.get t = _
    rw [if_neg (by rintro ⟨h1, h2⟩; simp at h2; omega)]
  | x :: l, i, T, t, h => by
    have h' : i + 1 + l.length ≤ 4000 := by rw [List.length_cons] at h; omega
    show (frT l (i + 1) (Tr.set 12 T i (some x))).get t = _
    rw [frT_get l (i + 1) _ t h', Tr.set_get 12 T i t _ (by omega)]
    simp only [List.length_cons] at h ⊢
    by_cases h1 : i + 1 ≤ t ∧ t < i + 1 + l.length
    · rw [if_pos h1, if_pos (by omega), show t - i = (t - (i + 1)) + 1 by omega, List.getElem?_cons_succ]
    · rw [if_neg h1]
      by_cases h2 : t = i
      · rw [if_pos h2, if_pos (by omega), show t - i = 0 by omega, List.getElem?_cons_zero]
      · rw [if_neg h2, if_neg (by omega)]
theorem toFr_frT {l : List V} (h : l.length ≤ 4000) : toFr (frT l 0 .leaf) = frOf l := by
  funext t
  show ((frT l 0 .leaf).get t).getD .undef = (l[t]?).getD .undef
  rw [frT_get l 0 .leaf t (by omega)]
  by_cases ht : t < l.length
  · rw [if_pos ⟨Nat.zero_le _, by omega⟩, Nat.sub_zero]
  · rw [if_neg (by omega), List.getElem?_eq_none (by omega), Tr.leaf_get]
def updG (G : Tr Blk') : List Nat → Gs → Option (Tr Blk')
  | [], _ => some G
  | b :: r, u => bif Nat.ble b 1000000 then updG (Tr.set 20 G b (u b)) r u else none
theorem updG_get : ∀ (W : List Nat) (G G' : Tr Blk') (u : Gs), updG G W u = some G' → G'.get = ov (memL W) u G.get
  | [], G, G', u, h => by
    injection h with h
    subst h
    rfl
  | b :: r, G, G', u, h => by
    obtain ⟨hb, h⟩ := bif_some h
    have hb : b ≤ 1000000 := Nat.le_of_ble_eq_true hb
    rw [updG_get r _ G' u h]
    funext m
    show cond (memL r m) (u m) ((Tr.set 20 G b (u b)).get m) = cond (memL (b :: r) m) (u m) (G.get m)
    rw [Tr.set_get 20 G b m _ (by omega), memL_cons]
    by_cases hm : m = b
    · subst hm
      rw [beq_tt rfl, if_pos rfl, cond_true]
      cases memL r m <;> rfl
    · rw [beq_ff hm, if_neg hm, cond_false]
def isMapOp : Op → Bool
  | .makeMap _ _ => true
  | .insert _ _ _ _ => true
  | .mapUpdate _ _ _ _ => true
  | .call c => match c.callee with | .builtin .clear => true | _ => false
  | _ => false
def nilOp (P : Program) (op : Op) (fr : Fr) : Option (Option V) := match op with
  | .binOp o t x y _ => bif isNilC y then some (match nilB P o t (ev fr x) with | some (some q) => some (.bool q) | _ => none) else none
  | _ => none
theorem ov_new {g : Gs} {n : Nat} {b : Blk'} : ov (memL [n]) (St.new ⟨g, n⟩ b).get g = (St.new ⟨g, n⟩ b).get := by
  funext c
  have hW : memL [n] c = Nat.beq c n := by
    unfold memL
    rw [List.any_cons, List.any_nil, Bool.or_false]
  unfold ov
  rw [hW]
  unfold St.new
  dsimp only
  cases Nat.beq c n <;> rfl
theorem updG_new {G G' : Tr Blk'} {n : Nat} {b : Blk'} (h : updG G [n] (St.new ⟨G.get, n⟩ b).get = some G') : G'.get = (St.new ⟨G.get, n⟩ b).get := (updG_get _ _ _ _ h).trans ov_new
def mapOp (op : Op) (G : Tr Blk') (c : Nat) : Option (V × Tr Blk' × Nat) := match op with
  | .makeMap _ none => (updG G [c] (St.new ⟨G.get, c⟩ ⟨[], 2, 0⟩).get).map fun G' => (.mp c, G', c + 1)
  | _ => none
theorem mapOp_some {op : Op} {G G' : Tr Blk'} {c c' : Nat} {x : V} (h : mapOp op G c = some (x, G', c')) : (∃ t, op = .makeMap t none) ∧ x = .mp c ∧ c' = c + 1 ∧ G'.get = (St.new ⟨G.get, c⟩ ⟨[], 2, 0⟩).get := by
  unfold mapOp at h
  split at h
  · rename_i t
    obtain ⟨G1, hu, h⟩ := Option.map_eq_some_iff.1 h
    simp only [Prod.mk.injEq] at h
    obtain ⟨rfl, rfl, rfl⟩ := h
    exact ⟨⟨t, rfl⟩, rfl, rfl, updG_new hu⟩
  · cases h
def rop (P : Program) (op : Op) (fr : Fr) (G : Tr Blk') (c : Nat) : Option (V × Tr Blk' × Nat) :=
  bif opS P op then (sop P op fr ⟨G.get, c⟩).bind fun p => (updG G (opW op fr c) p.2.get).map fun G' => (p.1, G', c + 1)
  else bif isMapOp op then mapOp op G c
  else match nilOp P op fr with
    | some r => r.map fun x => (x, G, c)
    | none => (vop P op fr ⟨G.get, c⟩).map fun x => (x, G, c)
theorem aop_opS {P : Program} {op : Op} {fr : Fr} {st : St} {K : V → St → Prop} (h : opS P op = true) : aop P op fr st K = bindS (sop P op fr st) K := by
  cases op <;> try (simp [opS] at h; done)
  case convert s d x =>
    have h : mkBytes P s d = true := h
    unfold aop
    dsimp only
    rw [h]; rfl
  case call c =>
    obtain ⟨callee, args, ts⟩ := c
    cases callee <;> try (simp [opS] at h; done)
    case builtin b => cases b <;> first | rfl | (simp [opS] at h; done)
  all_goals rfl
theorem aop_vop {P : Program} {op : Op} {fr : Fr} {st : St} {K : V → St → Prop} {x : V} (h : opS P op = false) (hm : isMapOp op = false) (hn : nilOp P op fr = none) (hv : vop P op fr st = some x) (hk : K x st) : aop P op fr st K := by
  have hb : bindV (vop P op fr st) (fun x => K x st) := by rw [hv]; exact hk
  cases op <;> try (simp [opS] at h; done)
  case binOp o t a b u =>
    unfold aop
    dsimp only
    cases hc : isNilC b with
    | true => unfold nilOp at hn; dsimp only at hn; rw [hc] at hn; cases hn
    | false => exact hb
  case convert s d y =>
    have h : mkBytes P s d = false := h
    unfold aop
    dsimp only
    rw [h]; exact hb
  case call c =>
    obtain ⟨callee, args, ts⟩ := c
    cases callee with
    | builtin b => cases b <;> first | exact hb | (simp [opS] at h; done) | (simp [isMapOp] at hm; done)
    | value f => simp [vop] at hv
    | invoke a b => simp [vop] at hv
  all_goals first | exact hb | (simp [isMapOp] at hm; done)
theorem aop_nil {P : Program} {op : Op} {fr : Fr} {st : St} {K : V → St → Prop} {x : V} (hn : nilOp P op fr = some (some x)) (hk : K x st) : aop P op fr st K := by
  cases op <;> try (simp [nilOp] at hn; done)
  case binOp o t a b u =>
    unfold nilOp at hn
    dsimp only at hn
    cases hc : isNilC b with
    | false => rw [hc] at hn; cases hn
    | true =>
      rw [hc, cond_true] at hn
      injection hn with hn
      unfold aop
      dsimp only
      rw [hc, cond_true]
      unfold anil
      cases hq : nilB P o t (ev fr a) with
      | none => rw [hq] at hn; cases hn
      | some q => cases q with
        | none => rw [hq] at hn; cases hn
        | some q =>
          rw [hq] at hn
          injection hn with hn
          subst hn
          exact hk
theorem rop_sound {P : Program} {op : Op} {fr : Fr} {G G' : Tr Blk'} {c c' : Nat} {x : V} (h : rop P op fr G c = some (x, G', c')) {K : V → St → Prop} (hk : K x ⟨G'.get, c'⟩) : aop P op fr ⟨G.get, c⟩ K := by
  unfold rop at h
  cases hS : opS P op with
  | true =>
    rw [hS, cond_true] at h
    obtain ⟨⟨y, s'⟩, hs, h⟩ := Option.bind_eq_some_iff.1 h
    obtain ⟨G1, hu, h⟩ := Option.map_eq_some_iff.1 h
    simp only [Prod.mk.injEq] at h
    obtain ⟨rfl, rfl, rfl⟩ := h
    rw [aop_opS hS, hs]
    have he : eff P op fr ⟨G.get, c⟩ = some (y, s') := by
      unfold eff
      rw [hS, cond_true]; exact hs
    have h2 := (dop_of_eff he).2
    rw [hS, cond_true] at h2
    have hg : G1.get = s'.get := (updG_get _ _ _ _ hu).trans h2
    have hc : s'.c = c + 1 := by
      obtain ⟨p, _, e⟩ := Option.map_eq_some_iff.1 hs
      rw [Prod.mk.injEq] at e
      rw [← e.2]
    have : s' = ⟨G1.get, c + 1⟩ := by
      cases s' with
      | mk g n => dsimp only at hg hc; rw [hg, hc]
    show K y s'
    rw [this]
    exact hk
  | false =>
    rw [hS, cond_false] at h
    cases hmp : isMapOp op with
    | true =>
      rw [hmp, cond_true] at h
      obtain ⟨⟨t, rfl⟩, rfl, rfl, hg⟩ := mapOp_some h
      show K (V.mp c) ⟨(St.new ⟨G.get, c⟩ ⟨[], 2, 0⟩).get, c + 1⟩
      rw [← hg]
      exact hk
    | false =>
    have hm := hmp
    rw [hmp, cond_false] at h
    cases hn : nilOp P op fr with
    | some r =>
      rw [hn] at h
      obtain ⟨y, rfl, h⟩ := Option.map_eq_some_iff.1 h
      simp only [Prod.mk.injEq] at h
      obtain ⟨rfl, rfl, rfl⟩ := h
      exact aop_nil hn hk
    | none =>
      rw [hn] at h
      obtain ⟨y, hv, h⟩ := Option.map_eq_some_iff.1 h
      simp only [Prod.mk.injEq] at h
      obtain ⟨rfl, rfl, rfl⟩ := h
      exact aop_vop hS hm hn hv hk
def mapO (f : V → Option V) : List V → Option (List V)
  | [] => some []
  | x :: l => match f x with | none => none | some y => match mapO f l with | none => none | some ys => some (y :: ys)
def mapR (f : V → Option V) : List (List V) → Option (List (List V))
  | [] => some []
  | x :: l => match mapO f x with | none => none | some y => match mapR f l with | none => none | some ys => some (y :: ys)
def plainB : Nat → V → Bool
  | 0, _ => false
  | n + 1, x => match x with
    | .bool _ => true
    | .int _ _ => true
    | .str _ => true
    | .nilp => true
    | .nilfn => true
    | .undef => true
    | .agg cs => cs.all (plainB n)
    | .tup cs => cs.all (plainB n)
    | .tp cs => cs.all (plainB n)
    | .sl es _ => es.all fun r => r.all (plainB n)
    | .fn _ a b => a.all (plainB n) && b.all (plainB n)
    | _ => false
def frz : Nat → Gs → V → Option V
  | 0, _, _ => none
  | n + 1, g, x => match x with
    | .bool b => some (.bool b)
    | .int k i => some (.int k i)
    | .str s => some (.str s)
    | .nilp => some .nilp
    | .nilfn => some .nilfn
    | .undef => some .undef
    | .agg cs => (mapO (frz n g) cs).map .agg
    | .tup cs => (mapO (frz n g) cs).map .tup
    | .bs b i m _ => match g b with
      | none => none
      | some k => bif Nat.ble (i + m) k.es.length && Nat.ble (i + m) 2000000 then (mapR (frz n g) ((k.es.drop i).take m)).map fun ys => .sl ys false else none
    | .ptr b i j => match g b with
      | none => none
      | some k => bif Nat.ble (i + 1) 2000000 then match k.es[i]? with
        | none => none
        | some r => bif Nat.ble j r.length then (mapO (frz n g) (r.drop j)).map .tp else none
        else none
    | .sl es fl => bif es.all (fun r => r.all (plainB n)) then some (.sl es fl) else none
    | .tp cs => bif cs.all (plainB n) then some (.tp cs) else none
    | .fn q a b => bif a.all (plainB n) && b.all (plainB n) then some (.fn q a b) else none
    | _ => none
theorem plainB_ok : ∀ (n : Nat) (x : V), plainB n x = true → Plain x
  | 0, _, h => by cases h
  | n + 1, x, h => by
    have all : ∀ l : List V, l.all (plainB n) = true → ∀ y ∈ l, Plain y := fun l hl y hy => plainB_ok n y (List.all_eq_true.1 hl y hy)
    cases x <;> simp only [plainB, Bool.and_eq_true, reduceCtorEq, Bool.false_eq_true] at h
    case undef => exact .undef
    case bool b => exact .bool b
    case int k i => exact .int k i
    case str s => exact .str s
    case nilp => exact .nilp
    case nilfn => exact .nilfn
    case agg cs => exact .agg cs (all cs h)
    case tup cs => exact .tup cs (all cs h)
    case tp cs => exact .tp cs (all cs h)
    case sl es fl => exact .sl es fl fun r hr => all r (List.all_eq_true.1 h r hr)
    case fn q a b => exact .fn q a b (all a h.1) (all b h.2)
theorem mapO_ok {f : V → Option V} : ∀ (l ys : List V), mapO f l = some ys → l.length = ys.length ∧ ∀ j (hj : j < l.length) (hj' : j < ys.length), f l[j] = some ys[j]
  | [], ys, h => by
    injection h with h
    subst h
    exact ⟨rfl, fun j hj => absurd hj (by simp)⟩
  | x :: l, ys, h => by
    unfold mapO at h
    split at h
    · cases h
    · rename_i y hy
      split at h
      · cases h
      · rename_i zs hz
        injection h with h
        subst h
        obtain ⟨h1, h2⟩ := mapO_ok l zs hz
        refine ⟨by simp [h1], fun j hj hj' => ?_⟩
        cases j with
        | zero => exact hy
        | succ j => exact h2 j (by simpa using hj) (by simpa using hj')
theorem mapR_ok {f : V → Option V} : ∀ (l ys : List (List V)), mapR f l = some ys → l.length = ys.length ∧ ∀ j (hj : j < l.length) (hj' : j < ys.length), mapO f l[j] = some ys[j]
  | [], ys, h => by
    injection h with h
    subst h
    exact ⟨rfl, fun j hj => absurd hj (by simp)⟩
  | x :: l, ys, h => by
    unfold mapR at h
    split at h
    · cases h
    · rename_i y hy
      split at h
      · cases h
      · rename_i zs hz
        injection h with h
        subst h
        obtain ⟨h1, h2⟩ := mapR_ok l zs hz
        refine ⟨by simp [h1], fun j hj hj' => ?_⟩
        cases j with
        | zero => exact hy
        | succ j => exact h2 j (by simpa using hj) (by simpa using hj')
theorem frz_ok : ∀ (n : Nat) (st : St) (x y : V), frz n st.get x = some y → Fz st mny x y
  | 0, _, _, _, h => by cases h
  | n + 1, st, x, y, h => by
    have pl : ∀ l : List V, l.all (plainB n) = true → ∀ y ∈ l, Plain y := fun l hl y hy => plainB_ok n y (List.all_eq_true.1 hl y hy)
    cases x <;> simp only [frz, reduceCtorEq, Option.some.injEq] at h
    case undef => subst h; exact .plain _ .undef
    case bool b => subst h; exact .plain _ (.bool _)
    case int k i => subst h; exact .plain _ (.int _ _)
    case str s => subst h; exact .plain _ (.str _)
    case nilp => subst h; exact .plain _ .nilp
    case nilfn => subst h; exact .plain _ .nilfn
    case agg cs =>
      obtain ⟨ys, h1, rfl⟩ := Option.map_eq_some_iff.1 h
      obtain ⟨h2, h3⟩ := mapO_ok cs ys h1
      exact .agg cs ys h2 fun j hj hj' => frz_ok n st _ _ (h3 j hj hj')
    case tup cs =>
      obtain ⟨ys, h1, rfl⟩ := Option.map_eq_some_iff.1 h
      obtain ⟨h2, h3⟩ := mapO_ok cs ys h1
      exact .tup cs ys h2 fun j hj hj' => frz_ok n st _ _ (h3 j hj hj')
    case sl es fl =>
      obtain ⟨h1, h2⟩ := bif_some h
      injection h2 with h2
      subst h2
      exact .plain _ (.sl es fl fun r hr => pl r (List.all_eq_true.1 h1 r hr))
    case tp cs =>
      obtain ⟨h1, h2⟩ := bif_some h
      injection h2 with h2
      subst h2
      exact .plain _ (.tp cs (pl cs h1))
    case fn q a b =>
      obtain ⟨h1, h2⟩ := bif_some h
      injection h2 with h2
      subst h2
      rw [Bool.and_eq_true] at h1
      exact .plain _ (.fn q a b (pl a h1.1) (pl b h1.2))
    case bs b i m cap =>
      split at h
      · cases h
      · rename_i k hk
        obtain ⟨h1, h2⟩ := bif_some h
        rw [Bool.and_eq_true] at h1
        have l1 := Nat.le_of_ble_eq_true h1.1
        have l2 := Nat.le_of_ble_eq_true h1.2
        obtain ⟨ys, h3, rfl⟩ := Option.map_eq_some_iff.1 h2
        obtain ⟨h4, h5⟩ := mapR_ok _ ys h3
        have hlen : ys.length = m := by rw [← h4, List.length_take, List.length_drop]; omega
        have row : ∀ a (ha : i + a < k.es.length) (ha' : a < ys.length), mapO (frz n st.get) k.es[i + a] = some ys[a] := fun a ha ha' => by
          have := h5 a (by rw [h4]; exact ha') ha'
          rw [List.getElem_take, List.getElem_drop] at this
          exact this
        refine .bs b i m cap k ys hk l1 l2 hlen (fun a ha ha' => (mapO_ok _ _ (row a ha ha')).1.symm) fun a ha ha' c hc hc' => ?_
        exact frz_ok n st _ _ ((mapO_ok _ _ (row a ha ha')).2 c hc hc')
    case ptr b i j =>
      split at h
      · cases h
      · rename_i k hk
        obtain ⟨h1, h2⟩ := bif_some h
        have l1 := Nat.le_of_ble_eq_true h1
        split at h2
        · cases h2
        · rename_i r hr
          obtain ⟨hi, rfl⟩ := List.getElem?_eq_some_iff.1 hr
          obtain ⟨h3, h4⟩ := bif_some h2
          have l3 := Nat.le_of_ble_eq_true h3
          obtain ⟨ys, h5, rfl⟩ := Option.map_eq_some_iff.1 h4
          obtain ⟨h6, h7⟩ := mapO_ok _ ys h5
          rw [List.length_drop] at h6
          refine .ptr b i j k ys hk hi (by show i < 2000000; omega) (by omega) fun c hc hc' => ?_
          have := h7 c (by rw [List.length_drop]; omega) hc'
          rw [List.getElem_drop] at this
          exact frz_ok n st _ _ this
theorem frzL_ok {n : Nat} {st : St} {l ys : List V} (h : mapO (frz n st.get) l = some ys) : Fzs st mny l ys := by
  obtain ⟨h1, h2⟩ := mapO_ok l ys h
  exact ⟨h1, fun j hj hj' => frz_ok n st _ _ (h2 j hj hj')⟩
def scB : Nat → V → Bool
  | 0, _ => false
  | n + 1, x => match x with
    | .bool _ => true
    | .int _ _ => true
    | .str _ => true
    | .nilp => true
    | .nilfn => true
    | .agg cs => cs.all (scB n)
    | .tup cs => cs.all (scB n)
    | _ => false
theorem scB_ok : ∀ (n : Nat) (x : V), scB n x = true → Sc x
  | 0, _, h => by cases h
  | n + 1, x, h => by
    have all : ∀ l : List V, l.all (scB n) = true → ∀ y ∈ l, Sc y := fun l hl y hy => scB_ok n y (List.all_eq_true.1 hl y hy)
    cases x <;> simp only [scB, reduceCtorEq, Bool.false_eq_true] at h
    case bool b => exact .bool b
    case int k i => exact .int k i
    case str s => exact .str s
    case nilp => exact .nilp
    case nilfn => exact .nilfn
    case agg cs => exact .agg cs (all cs h)
    case tup cs => exact .tup cs (all cs h)
abbrev ICall := FuncId → List V → Tr Blk' → Nat → Option (V × Tr Blk' × Nat)
abbrev CCall := FuncId → List V → Option V
def IOk (P : Program) (call : ICall) : Prop := ∀ g args G c x G' c', call g args G c = some (x, G', c') → ∀ K : V → St → Prop, K x ⟨G'.get, c'⟩ → acall P g args ⟨G.get, c⟩ K
def COk (P : Program) (call : CCall) : Prop := ∀ g args x, call g args = some x → Con P g args (· = x)
def rstep (P : Program) (call : ICall) (op : Op) (fr : Fr) (G : Tr Blk') (c : Nat) : Option (V × Tr Blk' × Nat) :=
  match op with
  | .call q => match q.callee with
    | .value f => match ev fr f with
      | .fn (.func g) first caps => call g (first ++ (q.args.toList.map (ev fr) ++ caps)) G c
      | _ => none
    | _ => rop P op fr G c
  | _ => rop P op fr G c
theorem rstep_sound {P : Program} {call : ICall} (hc : IOk P call) {op : Op} {fr : Fr} {G G' : Tr Blk'} {c c' : Nat} {x : V} (h : rstep P call op fr G c = some (x, G', c')) {K : V → St → Prop} (hk : K x ⟨G'.get, c'⟩) : aop P op fr ⟨G.get, c⟩ K := by
  cases op
  case call q =>
    obtain ⟨callee, args, ts⟩ := q
    cases callee with
    | value f =>
      unfold rstep at h
      unfold aop
      dsimp only at h ⊢
      split at h
      · rename_i g first caps he
        rw [he]
        exact hc _ _ _ _ _ _ _ h K hk
      · cases h
    | builtin b => exact rop_sound h hk
    | invoke a b => exact rop_sound h hk
  all_goals exact rop_sound h hk
def rops (P : Program) (call : ICall) (ops : Array Oper) : List Oper → Tr V → Tr Blk' → Nat → Option (Tr V × Tr Blk' × Nat)
  | [], T, G, c => some (T, G, c)
  | o :: r, T, G, c =>
    bif okD o.dst then
      match (match o.guard with | none => some true | some (j, want) => match gval ops (toFr T) j with | .bool b => some (b == want) | .undef => none | _ => some false) with
      | none => none
      | some true => match rstep P call o.op (toFr T) G c with
        | none => none
        | some p => rops P call ops r (putT T o.dst p.1) p.2.1 p.2.2
      | some false => rops P call ops r (putT T o.dst (.tup [])) G c
    else none
theorem rops_sound {P : Program} {call : ICall} (hc : IOk P call) {ops : Array Oper} : ∀ (l : List Oper) (T T' : Tr V) (G G' : Tr Blk') (c c' : Nat), rops P call ops l T G c = some (T', G', c') → ∀ K : Fr → St → Prop, K (toFr T') ⟨G'.get, c'⟩ → aops P ops l (toFr T) ⟨G.get, c⟩ K
  | [], T, T', G, G', c, c', h, K, hk => by
    simp only [rops, Option.some.injEq, Prod.mk.injEq] at h
    obtain ⟨rfl, rfl, rfl⟩ := h
    exact hk
  | o :: r, T, T', G, G', c, c', h, K, hk => by
    unfold rops at h
    obtain ⟨hd, h⟩ := bif_some h
    have go : ∀ p : V × Tr Blk' × Nat, rstep P call o.op (toFr T) G c = some p → rops P call ops r (putT T o.dst p.1) p.2.1 p.2.2 = some (T', G', c') → aop P o.op (toFr T) ⟨G.get, c⟩ fun x st' => aops P ops r ((toFr T).put o.dst x) st' K := fun p hp hr => by
      refine rstep_sound hc (x := p.1) (G' := p.2.1) (c' := p.2.2) hp ?_
      have := rops_sound hc r _ _ _ _ _ _ hr K hk
      rw [toFr_put hd] at this
      exact this
    have skip : rops P call ops r (putT T o.dst (.tup [])) G c = some (T', G', c') → aops P ops r ((toFr T).put o.dst (.tup [])) ⟨G.get, c⟩ K := fun hr => by
      have := rops_sound hc r _ _ _ _ _ _ hr K hk
      rw [toFr_put hd] at this
      exact this
    have step : ∀ h2 : (match rstep P call o.op (toFr T) G c with | none => none | some p => rops P call ops r (putT T o.dst p.1) p.2.1 p.2.2) = some (T', G', c'), aop P o.op (toFr T) ⟨G.get, c⟩ fun x st' => aops P ops r ((toFr T).put o.dst x) st' K := fun h2 => by
      cases hp : rstep P call o.op (toFr T) G c with
      | none => rw [hp] at h2; cases h2
      | some p => rw [hp] at h2; exact go p hp h2
    unfold aops
    cases hgd : o.guard with
    | none =>
      rw [hgd] at h
      exact step h
    | some jw =>
      obtain ⟨j, want⟩ := jw
      rw [hgd] at h
      dsimp only at h ⊢
      cases hv : gval ops (toFr T) j <;> rw [hv] at h <;> try (exact skip h)
      case undef => cases h
      case bool b =>
        dsimp only at h ⊢
        cases hb : (b == want) with
        | true =>
          rw [hb] at h
          have hbw : b = want := by simpa using hb
          exact ⟨fun _ => step h, fun q => by rw [hbw] at q; cases want <;> cases q⟩
        | false =>
          rw [hb] at h
          have hbw : ¬ b = want := by simpa using hb
          exact ⟨fun q => absurd q hbw, fun _ => skip h⟩
def okAcc2 (o : Oper) (acc : Acc) (T W : List Nat) : Bool := acc.all fun p => (disjL p.2.2 T && disjL W p.2.1) || (o.after.any fun e => Region.binds .any e && Nat.beq e.on p.1)
theorem okAcc2_eq (o : Oper) (acc : Acc) (T W : List Nat) : okAcc2 o acc T W = okAcc o acc T W := by
  unfold okAcc2 okAcc
  congr 1
  funext p
  exact Bool.or_comm _ _
def names : Nat → Gs → V → List Nat
  | 0, _, _ => []
  | n + 1, g, x => match x with
    | .agg cs => cs.flatMap (names n g)
    | .tup cs => cs.flatMap (names n g)
    | .bs b _ _ _ => b :: (match g b with | some k => k.es.flatMap fun r => r.flatMap (names n g) | none => [])
    | .ptr b _ _ => b :: (match g b with | some k => k.es.flatMap fun r => r.flatMap (names n g) | none => [])
    | _ => []
def rdcall (P : Program) (cc : CCall) (op : Op) (fr : Fr) (g : Gs) (n : Nat) : Option (List Nat × V) :=
  match op with
  | .call q => match q.callee with
    | .value f => match ev fr f with
      | .fn (.func h) first caps =>
        bif (first ++ (q.args.toList.map (ev fr) ++ caps)).all (plainB 20) then (cc h (first ++ (q.args.toList.map (ev fr) ++ caps))).map fun x => ([n], x)
        else match mapO (frz 20 (resT (memL (n :: (first ++ (q.args.toList.map (ev fr) ++ caps)).flatMap (names 20 g))) g)) (first ++ (q.args.toList.map (ev fr) ++ caps)) with
          | none => none
          | some as' => match cc h as' with
            | none => none
            | some x => bif scB 20 x then some (n :: (first ++ (q.args.toList.map (ev fr) ++ caps)).flatMap (names 20 g), x) else none
      | _ => none
    | _ => none
  | _ => none
theorem rdcall_ok {P : Program} {cc : CCall} (hc : COk P cc) {op : Op} {fr : Fr} {g : Gs} {n : Nat} {T : List Nat} {x : V} (h : rdcall P cc op fr g n = some (T, x)) : memL T n = true ∧ dcall P op fr ⟨resT (memL T) g, n⟩ x := by
  cases op <;> try (simp [rdcall] at h; done)
  case call q =>
    obtain ⟨callee, args, ts⟩ := q
    cases callee <;> try (simp [rdcall] at h; done)
    case value f =>
      unfold rdcall at h
      unfold dcall
      dsimp only at h ⊢
      split at h
      · rename_i k first caps he
        rw [he]
        dsimp only
        generalize first ++ (args.toList.map (ev fr) ++ caps) = as0 at h ⊢
        cases hp : as0.all (plainB 20) with
        | true =>
          rw [hp, cond_true] at h
          obtain ⟨y, hy, e⟩ := Option.map_eq_some_iff.1 h
          rw [Prod.mk.injEq] at e
          obtain ⟨rfl, rfl⟩ := e
          exact ⟨memL_iff.2 (by simp), .inl ⟨fun z hz => plainB_ok 20 z (List.all_eq_true.1 hp z hz), hc _ _ _ hy⟩⟩
        | false =>
          rw [hp, cond_false] at h
          split at h
          · cases h
          · rename_i as' ha
            split at h
            · cases h
            · rename_i y hy
              obtain ⟨hs, h⟩ := bif_some h
              rw [Option.some.injEq, Prod.mk.injEq] at h
              obtain ⟨rfl, rfl⟩ := h
              exact ⟨memL_iff.2 (by simp), .inr (.inl ⟨mny, as', frzL_ok (st := ⟨resT _ g, n⟩) ha, hc _ _ _ hy, scB_ok 20 _ hs⟩)⟩
      · cases h
end Go.Proofs.YtkjihmlighigjaaGreat
