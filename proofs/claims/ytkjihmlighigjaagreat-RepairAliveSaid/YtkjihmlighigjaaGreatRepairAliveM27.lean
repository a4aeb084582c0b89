/- The awp calculus, 23: the rules of the walk over regions that draw their order. -/
import Derived.Test.YtkjihmlighigjaaGreatRepairAliveM26
namespace Go.Proofs.YtkjihmlighigjaaGreat
open Go.RowKit

section
variable {P : Program} {ops : Array Oper} {n0 : Nat} {K : Fr → Gs → Prop} {l : List Oper} {k : Nat} {rd wr : Acc} {fr : Fr} {g : Gs}
def dV (P : Program) (ops : Array Oper) (n0 : Nat) (K : Fr → Gs → Prop) (o : Option V) (d : Option Tmp) (op : Oper) (T : List Nat) (l : List Oper) (k : Nat) (rd wr : Acc) (fr : Fr) (g : Gs) : Prop :=
  bindV o fun x => okAcc op wr T [] = true ∧ dl P ops n0 K l (k + 1) ((k, T, []) :: rd) wr (fr.put d x) g
def dS (P : Program) (ops : Array Oper) (n0 : Nat) (K : Fr → Gs → Prop) (o : Option (V × St)) (d : Option Tmp) (op : Oper) (T W : List Nat) (l : List Oper) (k : Nat) (rd wr : Acc) (fr : Fr) : Prop :=
  bindS o fun x s' => okAcc op wr T W = true ∧ okAcc op rd T W = true ∧ dl P ops n0 K l (k + 1) rd ((k, T, W) :: wr) (fr.put d x) s'.get
@[go_sem] theorem dV_some {x : V} {d : Option Tmp} {op : Oper} {T : List Nat} : dV P ops n0 K (some x) d op T l k rd wr fr g = (okAcc op wr T [] = true ∧ dl P ops n0 K l (k + 1) ((k, T, []) :: rd) wr (fr.put d x) g) := nrfl rfl
@[go_sem] theorem dS_some {x : V} {s' : St} {d : Option Tmp} {op : Oper} {T W : List Nat} : dS P ops n0 K (some (x, s')) d op T W l k rd wr fr = (okAcc op wr T W = true ∧ okAcc op rd T W = true ∧ dl P ops n0 K l (k + 1) rd ((k, T, W) :: wr) (fr.put d x) s'.get) := nrfl rfl
@[go_sem] theorem dl_nil : dl P ops n0 K [] k rd wr fr g = K fr g := by unfold dl; rfl
def dgr (P : Program) (ops : Array Oper) (n0 : Nat) (K : Fr → Gs → Prop) (v : V) (w : Bool) (o : Oper) (l : List Oper) (k : Nat) (rd wr : Acc) (fr : Fr) (g : Gs) : Prop :=
  agd v w (dl P ops n0 K (⟨o.dst, o.op, o.type, o.pos, o.after, none⟩ :: l) k rd wr fr g) (dl P ops n0 K l (k + 1) rd wr (fr.put o.dst (.tup [])) g)
theorem agd_true {A B : Prop} : agd (.bool true) true A B = A := propext ⟨fun h => h.1 rfl, fun h => ⟨fun _ => h, fun e => by cases e⟩⟩
section
variable {d : Option Tmp} {op : Op} {ty : TypeId} {pos : String} {af : Array Edge} {q : Option (Nat × Bool)}
@[go_sem] theorem dgr_tt : dgr P ops n0 K (.bool true) true ⟨d, op, ty, pos, af, q⟩ l k rd wr fr g = dl P ops n0 K (⟨d, op, ty, pos, af, none⟩ :: l) k rd wr fr g := by simp [dgr, agd]
@[go_sem] theorem dgr_ff : dgr P ops n0 K (.bool false) false ⟨d, op, ty, pos, af, q⟩ l k rd wr fr g = dl P ops n0 K (⟨d, op, ty, pos, af, none⟩ :: l) k rd wr fr g := by simp [dgr, agd]
@[go_sem] theorem dgr_tf : dgr P ops n0 K (.bool true) false ⟨d, op, ty, pos, af, q⟩ l k rd wr fr g = dl P ops n0 K l (k + 1) rd wr (fr.put d (.tup [])) g := by simp [dgr, agd]
@[go_sem] theorem dgr_ft : dgr P ops n0 K (.bool false) true ⟨d, op, ty, pos, af, q⟩ l k rd wr fr g = dl P ops n0 K l (k + 1) rd wr (fr.put d (.tup [])) g := by simp [dgr, agd]
@[go_sem] theorem dgr_tup {w : Bool} : dgr P ops n0 K (.tup []) w ⟨d, op, ty, pos, af, q⟩ l k rd wr fr g = dl P ops n0 K l (k + 1) rd wr (fr.put d (.tup [])) g := nrfl rfl
end
theorem dgr_b {b w : Bool} {o : Oper} (h1 : b = true → dgr P ops n0 K (.bool true) w o l k rd wr fr g) (h2 : b = false → dgr P ops n0 K (.bool false) w o l k rd wr fr g) : dgr P ops n0 K (.bool b) w o l k rd wr fr g := by cases b <;> simp_all
theorem dgr_d {p : Prop} {i : Decidable p} {w : Bool} {o : Oper} (h1 : p → dgr P ops n0 K (.bool true) w o l k rd wr fr g) (h2 : ¬p → dgr P ops n0 K (.bool false) w o l k rd wr fr g) : dgr P ops n0 K (.bool (@decide p i)) w o l k rd wr fr g := dgr_b (fun h => h1 (of_decide_eq_true h)) (fun h => h2 (of_decide_eq_false h))
theorem dgr_n {p : Prop} {i : Decidable p} {w : Bool} {o : Oper} (h1 : ¬p → dgr P ops n0 K (.bool true) w o l k rd wr fr g) (h2 : p → dgr P ops n0 K (.bool false) w o l k rd wr fr g) : dgr P ops n0 K (.bool (!(@decide p i))) w o l k rd wr fr g := dgr_b (fun h => h1 (by simpa using h)) (fun h => h2 (by simpa using h))
section
variable {d : Option Tmp} {ty : TypeId} {pos : String} {af : Array Edge}
@[go_sem] theorem dl_gd {op : Op} {j : Nat} {w : Bool} : dl P ops n0 K (⟨d, op, ty, pos, af, some (j, w)⟩ :: l) k rd wr fr g = dgr P ops n0 K (gval ops fr j) w ⟨d, op, ty, pos, af, some (j, w)⟩ l k rd wr fr g := by
  unfold dgr
  rw [dl.eq_2, dl.eq_2]
  dsimp only
  rw [agd_true]
  rfl
theorem dl_base {op : Op} (hc : isCall op = false) (hS : opS P op = false) : dl P ops n0 K (⟨d, op, ty, pos, af, none⟩ :: l) k rd wr fr g = dV P ops n0 K (vop P op fr ⟨g, n0 + k⟩) d ⟨d, op, ty, pos, af, none⟩ ((n0 + k) :: opT op fr) l k rd wr fr g := by
  conv => lhs; unfold dl
  dsimp only
  rw [agd_true, hc, cond_false, hS]
  unfold eff
  rw [hS, cond_false]
  unfold dV bindV
  cases vop P op fr ⟨g, n0 + k⟩ <;> rfl
theorem dl_baseS {op : Op} (hc : isCall op = false) (hS : opS P op = true) : dl P ops n0 K (⟨d, op, ty, pos, af, none⟩ :: l) k rd wr fr g = dS P ops n0 K (sop0 P op fr ⟨g, n0 + k⟩) d ⟨d, op, ty, pos, af, none⟩ ((n0 + k) :: opT op fr) (opW op fr (n0 + k)) l k rd wr fr := by
  conv => lhs; unfold dl
  dsimp only
  rw [agd_true, hc, cond_false, hS]
  unfold eff
  rw [hS, cond_true]
  unfold dS bindS sop
  cases sop0 P op fr ⟨g, n0 + k⟩ <;> rfl
@[go_sem] theorem dl_move {x : Operand} : dl P ops n0 K (⟨d, .move x, ty, pos, af, none⟩ :: l) k rd wr fr g = dV P ops n0 K (some (ev fr x)) d ⟨d, .move x, ty, pos, af, none⟩ [n0 + k] l k rd wr fr g := dl_base rfl rfl
@[go_sem] theorem dl_assign {x : Operand} : dl P ops n0 K (⟨d, .assign x, ty, pos, af, none⟩ :: l) k rd wr fr g = dV P ops n0 K (some (ev fr x)) d ⟨d, .assign x, ty, pos, af, none⟩ [n0 + k] l k rd wr fr g := dl_base rfl rfl
@[go_sem] theorem dl_pick {c x y : Operand} : dl P ops n0 K (⟨d, .pick c x y, ty, pos, af, none⟩ :: l) k rd wr fr g = dV P ops n0 K (vPick (ev fr c) (ev fr x) (ev fr y)) d ⟨d, .pick c x y, ty, pos, af, none⟩ [n0 + k] l k rd wr fr g := dl_base rfl rfl
@[go_sem] theorem dl_build {t : TypeId} {q : List (Nat × Operand)} : dl P ops n0 K (⟨d, .build t q.toArray, ty, pos, af, none⟩ :: l) k rd wr fr g = dV P ops n0 K (vBuild P t (prs fr q)) d ⟨d, .build t q.toArray, ty, pos, af, none⟩ [n0 + k] l k rd wr fr g := by rw [← prs_eq]; exact dl_base rfl rfl
@[go_sem] theorem dl_load {t : TypeId} {x : Operand} : dl P ops n0 K (⟨d, .load t x, ty, pos, af, none⟩ :: l) k rd wr fr g = dV P ops n0 K (vLoadT P t ⟨g, n0 + k⟩ (ev fr x)) d ⟨d, .load t x, ty, pos, af, none⟩ ((n0 + k) :: ft (ev fr x)) l k rd wr fr g := dl_base rfl rfl
@[go_sem] theorem dl_nilCheck {x : Operand} : dl P ops n0 K (⟨d, .nilCheck x, ty, pos, af, none⟩ :: l) k rd wr fr g = dV P ops n0 K (vNil (ev fr x)) d ⟨d, .nilCheck x, ty, pos, af, none⟩ [n0 + k] l k rd wr fr g := dl_base rfl rfl
@[go_sem] theorem dl_binOp {o : BinOp} {t u : TypeId} {x y : Operand} : dl P ops n0 K (⟨d, .binOp o t x y u, ty, pos, af, none⟩ :: l) k rd wr fr g = dV P ops n0 K (vBin2 P o t (ev fr x) (ev fr y)) d ⟨d, .binOp o t x y u, ty, pos, af, none⟩ [n0 + k] l k rd wr fr g := dl_base rfl rfl
@[go_sem] theorem dl_unOp {o : UnOp} {t : TypeId} {x : Operand} : dl P ops n0 K (⟨d, .unOp o t x, ty, pos, af, none⟩ :: l) k rd wr fr g = dV P ops n0 K (vUn o (ev fr x)) d ⟨d, .unOp o t x, ty, pos, af, none⟩ [n0 + k] l k rd wr fr g := dl_base rfl rfl
def dcv (P : Program) (ops : Array Oper) (n0 : Nat) (K : Fr → Gs → Prop) (b : Bool) (s t : TypeId) (x : V) (d : Option Tmp) (op : Oper) (l : List Oper) (k : Nat) (rd wr : Acc) (fr : Fr) (g : Gs) : Prop :=
  bif b then dS P ops n0 K (sBytes P s t x ⟨g, n0 + k⟩) d op ((n0 + k) :: ft x) [n0 + k] l k rd wr fr else dV P ops n0 K (vConv P s t ⟨g, n0 + k⟩ x) d op ((n0 + k) :: ft x) l k rd wr fr g
@[go_sem] theorem dcv_f {s t : TypeId} {x : V} {op : Oper} : dcv P ops n0 K false s t x d op l k rd wr fr g = dV P ops n0 K (vConv P s t ⟨g, n0 + k⟩ x) d op ((n0 + k) :: ft x) l k rd wr fr g := nrfl rfl
@[go_sem] theorem dcv_t {s t : TypeId} {x : V} {op : Oper} : dcv P ops n0 K true s t x d op l k rd wr fr g = dS P ops n0 K (sBytes P s t x ⟨g, n0 + k⟩) d op ((n0 + k) :: ft x) [n0 + k] l k rd wr fr := nrfl rfl
@[go_sem] theorem dl_convert {s t : TypeId} {x : Operand} : dl P ops n0 K (⟨d, .convert s t x, ty, pos, af, none⟩ :: l) k rd wr fr g = dcv P ops n0 K (mkBytes P s t) s t (ev fr x) d ⟨d, .convert s t x, ty, pos, af, none⟩ l k rd wr fr g := by
  unfold dcv
  cases h : mkBytes P s t with
  | true => exact dl_baseS rfl h
  | false => exact dl_base rfl h
@[go_sem] theorem dl_slice {t : TypeId} {x : Operand} {lo hi mx : Option Operand} : dl P ops n0 K (⟨d, .slice t x lo hi mx, ty, pos, af, none⟩ :: l) k rd wr fr g = dV P ops n0 K (vSlice P t ⟨g, n0 + k⟩ (ev fr x) (lo.map (ev fr)) (hi.map (ev fr)) (mx.map (ev fr))) d ⟨d, .slice t x lo hi mx, ty, pos, af, none⟩ ((n0 + k) :: ft (ev fr x)) l k rd wr fr g := dl_base rfl rfl
@[go_sem] theorem dl_fieldAddr {s : TypeId} {x : Operand} {f : Nat} : dl P ops n0 K (⟨d, .fieldAddr s x f, ty, pos, af, none⟩ :: l) k rd wr fr g = dV P ops n0 K (vFieldAddr P s f (ev fr x)) d ⟨d, .fieldAddr s x f, ty, pos, af, none⟩ [n0 + k] l k rd wr fr g := dl_base rfl rfl
@[go_sem] theorem dl_field {s : TypeId} {x : Operand} {f : Nat} : dl P ops n0 K (⟨d, .field s x f, ty, pos, af, none⟩ :: l) k rd wr fr g = dV P ops n0 K (vField P s f (ev fr x)) d ⟨d, .field s x f, ty, pos, af, none⟩ [n0 + k] l k rd wr fr g := dl_base rfl rfl
@[go_sem] theorem dl_indexAddr {s : TypeId} {x y : Operand} : dl P ops n0 K (⟨d, .indexAddr s x y, ty, pos, af, none⟩ :: l) k rd wr fr g = dV P ops n0 K (vIndexAddr P s ⟨g, n0 + k⟩ (ev fr x) (ev fr y)) d ⟨d, .indexAddr s x y, ty, pos, af, none⟩ ((n0 + k) :: ft (ev fr x)) l k rd wr fr g := dl_base rfl rfl
@[go_sem] theorem dl_lookup {s : TypeId} {x y : Operand} {ok : Bool} : dl P ops n0 K (⟨d, .lookup s x y ok, ty, pos, af, none⟩ :: l) k rd wr fr g = dV P ops n0 K (vLookup P s ⟨g, n0 + k⟩ (ev fr x) (ev fr y) ok) d ⟨d, .lookup s x y ok, ty, pos, af, none⟩ ((n0 + k) :: ft (ev fr x)) l k rd wr fr g := dl_base rfl rfl
@[go_sem] theorem dl_index {s : TypeId} {x y : Operand} : dl P ops n0 K (⟨d, .index s x y, ty, pos, af, none⟩ :: l) k rd wr fr g = dV P ops n0 K (vIndex P s (ev fr x) (ev fr y)) d ⟨d, .index s x y, ty, pos, af, none⟩ [n0 + k] l k rd wr fr g := dl_base rfl rfl
@[go_sem] theorem dl_extract {x : Operand} {i : Nat} : dl P ops n0 K (⟨d, .extract x i, ty, pos, af, none⟩ :: l) k rd wr fr g = dV P ops n0 K (vExt i (ev fr x)) d ⟨d, .extract x i, ty, pos, af, none⟩ [n0 + k] l k rd wr fr g := dl_base rfl rfl
@[go_sem] theorem dl_makeFunc {f : Fn} {q c : List Operand} : dl P ops n0 K (⟨d, .makeFunc f q.toArray c.toArray, ty, pos, af, none⟩ :: l) k rd wr fr g = dV P ops n0 K (some (.fn f (evs fr q) (evs fr c))) d ⟨d, .makeFunc f q.toArray c.toArray, ty, pos, af, none⟩ [n0 + k] l k rd wr fr g := by rw [← evs_eq, ← evs_eq]; exact dl_base rfl rfl
@[go_sem] theorem dl_len {x : Operand} {t : TypeId} : dl P ops n0 K (⟨d, .call ⟨.builtin .len, #[x], #[t]⟩, ty, pos, af, none⟩ :: l) k rd wr fr g = dV P ops n0 K (vLen P t (ev fr x)) d ⟨d, .call ⟨.builtin .len, #[x], #[t]⟩, ty, pos, af, none⟩ [n0 + k] l k rd wr fr g := dl_base rfl rfl
@[go_sem] theorem dl_min {x y : Operand} {ts : Array TypeId} : dl P ops n0 K (⟨d, .call ⟨.builtin .min, #[x, y], ts⟩, ty, pos, af, none⟩ :: l) k rd wr fr g = dV P ops n0 K (vMinL false (ev fr x) [ev fr y]) d ⟨d, .call ⟨.builtin .min, #[x, y], ts⟩, ty, pos, af, none⟩ [n0 + k] l k rd wr fr g := dl_base rfl rfl
@[go_sem] theorem dl_max {x y : Operand} {ts : Array TypeId} : dl P ops n0 K (⟨d, .call ⟨.builtin .max, #[x, y], ts⟩, ty, pos, af, none⟩ :: l) k rd wr fr g = dV P ops n0 K (vMinL true (ev fr x) [ev fr y]) d ⟨d, .call ⟨.builtin .max, #[x, y], ts⟩, ty, pos, af, none⟩ [n0 + k] l k rd wr fr g := dl_base rfl rfl
@[go_sem] theorem dl_alloc {t : TypeId} : dl P ops n0 K (⟨d, .alloc t, ty, pos, af, none⟩ :: l) k rd wr fr g = dS P ops n0 K (sAlloc P t ⟨g, n0 + k⟩) d ⟨d, .alloc t, ty, pos, af, none⟩ [n0 + k] [n0 + k] l k rd wr fr := dl_baseS rfl rfl
@[go_sem] theorem dl_box {t : TypeId} {x : Operand} : dl P ops n0 K (⟨d, .box t x, ty, pos, af, none⟩ :: l) k rd wr fr g = dS P ops n0 K (sBox (ev fr x) ⟨g, n0 + k⟩) d ⟨d, .box t x, ty, pos, af, none⟩ [n0 + k] [n0 + k] l k rd wr fr := dl_baseS rfl rfl
@[go_sem] theorem dl_buildSlice {t : TypeId} {n : Nat} {q : List (Nat × Operand)} : dl P ops n0 K (⟨d, .buildSlice t n q.toArray, ty, pos, af, none⟩ :: l) k rd wr fr g = dS P ops n0 K (sBuildSlice P t n (prs fr q) ⟨g, n0 + k⟩) d ⟨d, .buildSlice t n q.toArray, ty, pos, af, none⟩ [n0 + k] [n0 + k] l k rd wr fr := by rw [← prs_eq]; exact dl_baseS rfl rfl
@[go_sem] theorem dl_makeSlice {t : TypeId} {x y : Operand} : dl P ops n0 K (⟨d, .makeSlice t x y, ty, pos, af, none⟩ :: l) k rd wr fr g = dS P ops n0 K (sMake P t (ev fr x) (ev fr y) ⟨g, n0 + k⟩) d ⟨d, .makeSlice t x y, ty, pos, af, none⟩ [n0 + k] [n0 + k] l k rd wr fr := dl_baseS rfl rfl
@[go_sem] theorem dl_store {t : TypeId} {x y : Operand} : dl P ops n0 K (⟨d, .store t x y, ty, pos, af, none⟩ :: l) k rd wr fr g = dS P ops n0 K ((sStore P t (ev fr x) (ev fr y) ⟨g, n0 + k⟩).map fun st' => (.tup [], st')) d ⟨d, .store t x y, ty, pos, af, none⟩ ((n0 + k) :: ft (ev fr x)) (ft (ev fr x)) l k rd wr fr := dl_baseS rfl rfl
@[go_sem] theorem dl_append {x y : Operand} {t u : TypeId} : dl P ops n0 K (⟨d, .call ⟨.builtin .append, #[x, y], #[t, u]⟩, ty, pos, af, none⟩ :: l) k rd wr fr g = dS P ops n0 K (sAppend P t u (ev fr x) (ev fr y) ⟨g, n0 + k⟩) d ⟨d, .call ⟨.builtin .append, #[x, y], #[t, u]⟩, ty, pos, af, none⟩ ((n0 + k) :: (ft (ev fr x) ++ ft (ev fr y))) ((n0 + k) :: ft (ev fr x)) l k rd wr fr := dl_baseS rfl rfl
def dcl (P : Program) (ops : Array Oper) (n0 : Nat) (K : Fr → Gs → Prop) (f : V) (args : List V) (d : Option Tmp) (op : Oper) (l : List Oper) (k : Nat) (rd wr : Acc) (fr : Fr) (g : Gs) : Prop := match f with
  | .fn (.func h) first caps => (∃ T x, okAcc op wr T [] = true ∧ memL T (n0 + k) = true ∧
      (((∀ y ∈ first ++ (args ++ caps), Plain y) ∧ Con P h (first ++ (args ++ caps)) (· = x)) ∨ (∃ fz args', Fzs ⟨resT (memL T) g, n0 + k⟩ fz (first ++ (args ++ caps)) args' ∧ Con P h args' (· = x) ∧ Sc x) ∨ ∃ fz args', Fzs ⟨resT (memL T) g, n0 + k⟩ fz (first ++ (args ++ caps)) args' ∧ FCon P h args' x) ∧
      dl P ops n0 K l (k + 1) ((k, T, []) :: rd) wr (fr.put d x) g) ∨
      ∃ T x b, okAcc op wr T [n0 + k] = true ∧ okAcc op rd T [n0 + k] = true ∧ memL T (n0 + k) = true ∧
        (∃ fz args' es sz, NArgs ⟨resT (memL T) g, n0 + k⟩ fz (first ++ (args ++ caps)) args' es ∧ NCon P h args' es sz ∧ x = .bs (n0 + k) 0 es.length es.length ∧ b = ⟨es, sz, 0⟩) ∧
        dl P ops n0 K l (k + 1) rd ((k, T, [n0 + k]) :: wr) (fr.put d x) (St.new ⟨g, n0 + k⟩ b).get
  | _ => False
@[go_sem] theorem dl_call {f : Operand} {xs : List Operand} {ts : Array TypeId} : dl P ops n0 K (⟨d, .call ⟨.value f, xs.toArray, ts⟩, ty, pos, af, none⟩ :: l) k rd wr fr g = dcl P ops n0 K (ev fr f) (evs fr xs) d ⟨d, .call ⟨.value f, xs.toArray, ts⟩, ty, pos, af, none⟩ l k rd wr fr g := by
  conv => lhs; unfold dl
  dsimp only
  rw [agd_true]
  unfold isCall dcall dnew dcl
  dsimp only
  rw [cond_true, ← evs_eq]
  generalize ev fr f = v
  cases v with
  | fn q first caps => cases q with
    | func h => rfl
    | _ => simp
  | _ => simp
end
end
def bgr : Ground → Bool
  | .textOnly _ => false
  | .gcOnly _ => false
  | _ => true
def edg : List Edge → Nat → Bool
  | [], _ => false
  | e :: r, j => bif bgr e.ground && Nat.beq e.on j then true else edg r j
@[go_sem] theorem edg_nil {j : Nat} : edg [] j = false := rfl
@[go_sem] theorem edg_cons {i j : Nat} {q : Ground} {r : List Edge} : edg (⟨i, q⟩ :: r) j = bif bgr q && Nat.beq i j then true else edg r j := rfl
theorem bgr_any (e : Edge) : Region.binds .any e = bgr e.ground := by
  unfold Region.binds bgr
  obtain ⟨i, q⟩ := e
  cases q <;> rfl
theorem edg_any (l : List Edge) (j : Nat) : l.any (fun e => Region.binds .any e && Nat.beq e.on j) = edg l j := by
  induction l with
  | nil => rfl
  | cons e r ih =>
    rw [List.any_cons, ih, bgr_any]
    show _ = bif bgr e.ground && Nat.beq e.on j then true else edg r j
    cases bgr e.ground <;> cases Nat.beq e.on j <;> rfl
section
variable {d : Option Tmp} {op : Op} {ty : TypeId} {pos : String} {af : List Edge} {q : Option (Nat × Bool)} {T W T' W' : List Nat} {acc : Acc} {o : Oper} {j : Nat}
@[go_sem] theorem okAcc_nil : okAcc o [] T W = true ↔ True := ⟨fun _ => trivial, fun _ => rfl⟩
@[go_sem high] theorem okAcc_skip : okAcc o ((j, T', []) :: acc) T [] = true ↔ okAcc o acc T [] = true := by
  unfold okAcc
  rw [List.all_cons]
  simp [disjL]
def okOne (e : Bool) (T' W' T W : List Nat) : Prop := (e || (disjL W' T && disjL W T')) = true
@[go_sem] theorem okOne_t : okOne true T' W' T W ↔ True := by simp [okOne]
@[go_sem] theorem okOne_f : okOne false T' W' T W ↔ (disjL W' T = true ∧ disjL W T' = true) := by simp [okOne]
@[go_sem] theorem okAcc_cons : okAcc ⟨d, op, ty, pos, af.toArray, q⟩ ((j, T', W') :: acc) T W = true ↔ okOne (edg af j) T' W' T W ∧ okAcc ⟨d, op, ty, pos, af.toArray, q⟩ acc T W = true := by
  unfold okAcc okOne
  rw [List.all_cons, Bool.and_eq_true, ← edg_any]
  simp
@[go_sem] theorem disjL_nil {m : List Nat} : disjL [] m = true := rfl
@[go_sem] theorem disjL_cons {b : Nat} {l m : List Nat} : disjL (b :: l) m = (!(memL m b) && disjL l m) := rfl
@[go_sem] theorem memL_nil {b : Nat} : memL [] b = false := rfl
@[go_sem] theorem memL_cons {a b : Nat} {l : List Nat} : memL (a :: l) b = bif Nat.beq b a then true else memL l b := by unfold memL; rw [List.any_cons]; cases Nat.beq b a <;> rfl
end
@[go_sem] theorem bgr_d : bgr .data = true := rfl
@[go_sem] theorem bgr_c : bgr .chain = true := rfl
@[go_sem] theorem bgr_g : bgr .guard = true := rfl
@[go_sem] theorem bgr_p : bgr .phase = true := rfl
@[go_sem] theorem bgr_t {s : Departure} : bgr (.textOnly s) = false := rfl
@[go_sem] theorem bgr_q {s : Departure} : bgr (.gcOnly s) = false := rfl
attribute [go_sem] ft resT
end Go.Proofs.YtkjihmlighigjaaGreat
