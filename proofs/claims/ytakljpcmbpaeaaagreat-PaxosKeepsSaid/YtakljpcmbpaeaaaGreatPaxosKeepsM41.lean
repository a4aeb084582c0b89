/- The protocol of layer 15, by itself: who proposes, what is voted, what is chosen; that what is chosen stays, and each command has one place. -/
import Derived.Test.YtakljpcmbpaeaaaGreatPaxosKeepsM34
import Derived.Test.YtakljpcmbpaeaaaGreatPaxosKeepsM40
set_option linter.unusedSimpArgs false
set_option linter.unusedVariables false
namespace Go.Proofs.YtakljpcmbpaeaaaGreat
open Go.RowKit

def recAt (r : yAN) (k : Int) : yAN := if r.Inst = k then r else ⟨k, r.Mbal, 0, noS⟩
def tBegin (o : yAN) (seen : Int) : yAG := ⟨o.Inst, o.Mbal, o.Bal, o.Val, max seen o.Mbal, false, false⟩
def tCount (t : yAG) (r : yAN) : yAG :=
  ⟨t.Inst, t.Mbal, if r.Inst = t.Inst ∧ t.Best < r.Bal then r.Bal else t.Best, if r.Inst = t.Inst ∧ t.Best < r.Bal then r.Val else t.Val, max t.Seen r.Mbal, t.Ahead || decide (t.Inst < r.Inst), t.Lost || (decide (r.Inst = t.Inst) && decide (t.Mbal < r.Mbal))⟩
def others (node k : Int) : Int := if k = node then k + 1 else k
def pAnew (p : yAK) : yAK := ⟨p.Node, p.Cmd, 0, 0, yAN.z, ⟨0, 0, 0, noS, p.T.Seen, false, false⟩⟩
def tStops (t : yAG) : Bool := t.Ahead || t.Lost
def pNext (N : Int) (p : yAK) (k : Int) : yAK :=
  if others p.Node k < N then ⟨p.Node, p.Cmd, p.At, others p.Node k, p.Own, p.T⟩
  else if tStops p.T then pAnew p
  else if p.At = 5 then ⟨p.Node, p.Cmd, 6, others p.Node k, p.Own, p.T⟩
  else ⟨p.Node, p.Cmd, 4, others p.Node k, ⟨p.Own.Inst, p.Own.Mbal, p.Own.Mbal, if 0 < p.T.Best then p.T.Val else p.Cmd⟩, p.T⟩
def pWrote (N : Int) (p : yAK) : yAK := pNext N ⟨p.Node, p.Cmd, p.At + 1, p.I, p.Own, tBegin p.Own p.T.Seen⟩ 0
def pCounts (N : Int) (p : yAK) (r : yAN) : yAK := pNext N ⟨p.Node, p.Cmd, p.At, p.I, p.Own, tCount p.T r⟩ (p.I + 1)

structure PX where
  p : yAK
  done : Int
  ser : Int
  on : Bool
structure PW where
  rc : Int → yAN
  log : Int → Option ByteArray
  x : Int → PX
  vt : Int → Int → Option (ByteArray × Int)
  ch : Int → Int → Prop
variable (N : Int) (idn ids : ByteArray → Int)
def upd {α : Type} (f : Int → α) (n : Int) (a : α) : Int → α := fun m => if m = n then a else f m
structure KK (W : PW) (k b m : Int) : Prop where
  v : ∀ b' v c, b' % 16 = m → b < b' → W.vt k b' = some (v, c) → b ≤ c
  s : (W.x m).on = true → (W.x m).done = k → (W.x m).p.At = 4 → b < (W.x m).p.Own.Mbal → b ≤ (W.x m).p.T.Best
  r : (W.x m).on = true → (W.x m).done = k → (W.x m).p.At = 3 → b < (W.x m).p.Own.Mbal → tStops (W.x m).p.T = false → b % 16 < (W.x m).p.I → b ≤ (W.x m).p.T.Best
structure Nd1 (W : PW) (n : Int) : Prop where
  rb : 0 ≤ (W.rc n).Bal ∧ (W.rc n).Bal ≤ (W.rc n).Mbal
  rm : (W.rc n).Mbal = 0 ∨ (W.rc n).Mbal % 16 = n
  rl : ∀ j, 0 ≤ j → j < (W.rc n).Inst → W.log j ≠ none
  ri : 0 ≤ (W.rc n).Inst
  rv : 0 < (W.rc n).Bal → ∃ c, W.vt (W.rc n).Inst (W.rc n).Bal = some ((W.rc n).Val, c)
  d0 : 0 ≤ (W.x n).done
  dl : ∀ j, 0 ≤ j → j < (W.x n).done → W.log j ≠ none
structure Nd2 (W : PW) (n : Int) : Prop where
  node : (W.x n).p.Node = n
  at_ : 0 ≤ (W.x n).p.At ∧ (W.x n).p.At ≤ 6
  le : 1 ≤ (W.x n).p.At → (W.rc n).Inst ≤ (W.x n).done
  cmd : idn (W.x n).p.Cmd = n ∧ ids (W.x n).p.Cmd = (W.x n).ser
  a2 : (W.x n).p.At = 2 → (W.rc n).Mbal < (W.x n).p.Own.Mbal ∧ (W.x n).p.Own.Mbal % 16 = n ∧ (W.x n).p.Own = ⟨(W.x n).done, (W.x n).p.Own.Mbal, (recAt (W.rc n) (W.x n).done).Bal, (recAt (W.rc n) (W.x n).done).Val⟩
  a3 : 3 ≤ (W.x n).p.At → (W.rc n).Inst = (W.x n).done ∧ (W.x n).p.Own.Inst = (W.x n).done ∧ (W.x n).p.Own.Mbal = (W.rc n).Mbal ∧ (W.x n).p.T.Inst = (W.x n).done ∧ (W.x n).p.T.Mbal = (W.rc n).Mbal ∧ (W.rc n).Mbal % 16 = n ∧ 0 < (W.rc n).Mbal
  a34 : 3 ≤ (W.x n).p.At → (W.x n).p.At ≤ 4 → (W.rc n).Bal < (W.rc n).Mbal ∧ (W.rc n).Bal ≤ (W.x n).p.T.Best ∧ (tStops (W.x n).p.T = false → (W.x n).p.T.Best < (W.rc n).Mbal) ∧ (0 < (W.x n).p.T.Best → ∃ c, W.vt (W.x n).done (W.x n).p.T.Best = some ((W.x n).p.T.Val, c))
  a4 : (W.x n).p.At = 4 → tStops (W.x n).p.T = false ∧ (W.x n).p.Own.Bal = (W.rc n).Mbal ∧ (W.x n).p.Own.Val = (if 0 < (W.x n).p.T.Best then (W.x n).p.T.Val else (W.x n).p.Cmd)
  a56 : 5 ≤ (W.x n).p.At → W.rc n = (W.x n).p.Own ∧ (W.rc n).Bal = (W.rc n).Mbal
  a3o : (W.x n).p.At = 3 → W.rc n = (W.x n).p.Own
  rd : (W.x n).p.At = 3 ∨ (W.x n).p.At = 5 → 0 ≤ (W.x n).p.I ∧ (W.x n).p.I < N ∧ (W.x n).p.I ≠ n
  a5 : (W.x n).p.At = 5 → tStops (W.x n).p.T = false → ∀ m, 0 ≤ m → m < N → m ≠ n → m < (W.x n).p.I → KK W (W.x n).done (W.rc n).Mbal m
  a6 : (W.x n).p.At = 6 → W.ch (W.x n).done (W.rc n).Mbal
variable {N idn ids}
theorem Nd1.mono {W W' : PW} {m : Int} (h : Nd1 W m) (hr : W'.rc m = W.rc m) (hx : W'.x m = W.x m) (hl : ∀ k v, W.log k = some v → W'.log k = some v) (hv : ∀ k b p, W.vt k b = some p → W'.vt k b = some p) : Nd1 W' m := by
  have hl' : ∀ j, W.log j ≠ none → W'.log j ≠ none := fun j hj => by
    cases h1 : W.log j with
    | none => exact absurd h1 hj
    | some v => rw [hl j v h1]; simp
  refine ⟨by rw [hr]; exact h.rb, by rw [hr]; exact h.rm, fun j h1 h2 => hl' j (h.rl j h1 (by rw [hr] at h2; exact h2)), by rw [hr]; exact h.ri, fun h1 => ?_, by rw [hx]; exact h.d0, fun j h1 h2 => hl' j (h.dl j h1 (by rw [hx] at h2; exact h2))⟩
  rw [hr] at h1 ⊢
  obtain ⟨c, hc⟩ := h.rv h1
  exact ⟨c, hv _ _ _ hc⟩
theorem Nd2.mono {W W' : PW} {m : Int} (h : Nd2 N idn ids W m) (hr : W'.rc m = W.rc m) (hx : W'.x m = W.x m) (hv : ∀ k b p, W.vt k b = some p → W'.vt k b = some p) (hc : ∀ k b, W.ch k b → W'.ch k b)
    (hk : ∀ m', 0 ≤ m' → m' < N → m' ≠ m → (W.x m).p.At = 5 → KK W (W.x m).done (W.rc m).Mbal m' → KK W' (W.x m).done (W.rc m).Mbal m') : Nd2 N idn ids W' m := by
  refine ⟨?_, ?_, ?_, ?_, ?_, ?_, ?_, ?_, ?_, ?_, ?_, ?_, ?_⟩ <;> rw [hx] <;> try rw [hr]
  · exact h.node
  · exact h.at_
  · exact h.le
  · exact h.cmd
  · exact h.a2
  · exact h.a3
  · intro h1 h2
    obtain ⟨k1, k2, k3, k4⟩ := h.a34 h1 h2
    refine ⟨k1, k2, k3, fun h3 => ?_⟩
    obtain ⟨c, q⟩ := k4 h3
    exact ⟨c, hv _ _ _ q⟩
  · exact h.a4
  · exact h.a56
  · exact h.a3o
  · exact h.rd
  · intro h1 h2 m' h3 h4 h5 h6
    exact hk m' h3 h4 h5 h1 (h.a5 h1 h2 m' h3 h4 h5 h6)
  · exact fun h1 => hc _ _ (h.a6 h1)
theorem Nd2.z {W : PW} {n : Int} (hp : (W.x n).p.Node = n) (ha : (W.x n).p.At = 0) (hc : idn (W.x n).p.Cmd = n ∧ ids (W.x n).p.Cmd = (W.x n).ser) : Nd2 N idn ids W n :=
  ⟨hp, by omega, fun q => by omega, hc, fun q => by omega, fun q => by omega, fun q => by omega, fun q => by omega, fun q => by omega, fun q => by omega, fun q => by omega, fun q => by omega, fun q => by omega⟩
theorem oth1 {n m k : Int} (hne : m ≠ n) (h : m < others n (k + 1)) (hk : k ≠ n) : m < k ∨ m = k := by
  unfold others at h
  split at h <;> omega
end Go.Proofs.YtakljpcmbpaeaaaGreat

namespace Go.Proofs.YtakljpcmbpaeaaaGreat
open Go.RowKit

theorem minI_max {a b : Int} : minI true a b = max a b := by
  unfold minI
  simp only [if_true]
  split <;> omega
theorem cStops_eq {L : Nat} (t : yAG) : yFb L t = some (tStops t) := by
  unfold yFb yJE tStops
  obtain ⟨a, b, c, d, e, f, g⟩ := t
  cases f <;> cases g <;> rfl
theorem cValue_eq {L : Nat} (t : yAG) (c : ByteArray) : yFc L t c = some (if 0 < t.Best then t.Val else c) := by
  unfold yFc yJF
  by_cases h : 0 < t.Best
  · rw [if_pos h, decide_eq_true h]; rfl
  · rw [if_neg h, decide_eq_false h]; rfl
theorem cOthers_eq {L : Nat} {x : yAW} {node k : Int} (hL : 200000 < L) (h0 : 0 ≤ node) (hN : node < x.Nodes) (k0 : 0 ≤ k) (kN : k ≤ x.Nodes) (h16 : x.Nodes ≤ 16) : yEU L x node k = some (others node k) := by
  unfold yEU yIb
  rw [minI_max, show max k 0 = k by omega]
  obtain ⟨M, rfl⟩ : ∃ M, L = M + 2 := ⟨L - 2, by omega⟩
  unfold others
  have F : ∀ (m : Nat) (k : Int) (ka : yAW × Unit → Option Int) (kb : Int × Unit → Option Int), loop2 yCT (m + 1) (node, x, k, ()) ka kb = (bif decide (k < x.Nodes) then bif k != node then kb (k, ()) else loop2 yCT m (node, x, IntKind.i64.wrap (k + 1), ()) ka kb else ka (x, ())) := fun m k ka kb => rfl
  rw [F]
  by_cases h1 : k < x.Nodes
  · rw [bif_t (decide_eq_true h1)]
    by_cases h2 : k = node
    · rw [bif_f (by simpa using h2), if_pos h2, wrap64 (by omega) (by omega), F]
      by_cases h3 : k + 1 < x.Nodes
      · rw [bif_t (decide_eq_true h3), bif_t (by simp; omega)]
      · rw [bif_f (decide_eq_false h3)]
        show some x.Nodes = _
        congr 1
        omega
    · rw [bif_t (by simpa using h2), if_neg h2]
  · rw [bif_f (decide_eq_false h1), if_neg (by omega)]
    show some x.Nodes = _
    congr 1
    omega
theorem sees_eq {L : Nat} (hL : 10 < L) (T : yAG) (m : Int) : yEV L ⟨T⟩ [[V.int .i64 m]] = some ((), ⟨⟨T.Inst, T.Mbal, T.Best, T.Val, minI true T.Seen m, T.Ahead, T.Lost⟩⟩) := by
  obtain ⟨k, rfl⟩ : ∃ k, L = k + 2 := ⟨L - 2, by omega⟩
  rfl
section
variable {L : Nat} {x : yAW} {p : yAK} {t : yAJ} {done : Int} {got : ByteArray} {r : yAN}
theorem take_wrote (hL : 200000 < L) (h16 : x.Nodes ≤ 16) (hn0 : 0 ≤ p.Node) (hn : p.Node < x.Nodes) (hat : p.At = 2 ∨ p.At = 4) : yBX L x p t done got = some (pWrote x.Nodes p, t, done, false, 0, ()) := by
  obtain ⟨node, cmd, at_, i, own, T⟩ := p
  dsimp only at hn0 hn hat
  have ho := cOthers_eq (L := L) hL hn0 hn (Int.le_refl 0) (by omega) h16
  unfold yBX yEI pWrote pNext
  rcases hat with rfl | rfl
  all_goals
    simp only [show decide ((2 : Int) < 0) = false from rfl, show decide ((4 : Int) < 0) = false from rfl, show decide (7 ≤ w64 2) = false from rfl, show decide (7 ≤ w64 4) = false from rfl, show decide ((2 : Int) = 0) = false from rfl, show decide ((4 : Int) = 0) = false from rfl, show decide ((2 : Int) = 1) = false from rfl, show decide ((4 : Int) = 1) = false from rfl, show decide ((2 : Int) = 2) = true from rfl, show decide ((4 : Int) = 2) = false from rfl, show decide ((4 : Int) = 3) = false from rfl, show decide ((4 : Int) = 4) = true from rfl, cond_false, cond_true, ho, sees_eq (show 10 < L by omega), decide_true, bindO_s, cStops_eq, cValue_eq, minI_max]
    by_cases h1 : others node 0 < x.Nodes
    · rw [bif_t (decide_eq_true h1), if_pos h1]; rfl
    · rw [bif_f (decide_eq_false h1), if_neg h1]
      rfl
theorem pxTake_next (hL : 200000 < L) (h16 : x.Nodes ≤ 16) {node cmd at_ i own} {T : yAG} (hn0 : 0 ≤ node) (hn : node < x.Nodes) (hi0 : 0 ≤ i) (hi : i < x.Nodes) (hat : at_ = 3 ∨ at_ = 5) :
    (bindO (yEU L x node (w64 (i + 1))) fun r => bif decide (r < x.Nodes) then some ((⟨node, cmd, at_, r, own, T⟩ : yAK), t, done, false, (0 : Int), ()) else
      bindO (yFb L T) fun r15 => bif r15 then some ((⟨node, cmd, 0, 0, yAN.z, (⟨0, 0, 0, noS, T.Seen, false, false⟩ : yAG)⟩ : yAK), t, done, false, 0, ()) else
        bif at_ == 5 then some ((⟨node, cmd, 6, r, own, T⟩ : yAK), t, done, false, 0, ()) else
        bindO (yFc L T cmd) fun r16 => some ((⟨node, cmd, 4, r, ⟨own.Inst, own.Mbal, own.Mbal, r16⟩, T⟩ : yAK), t, done, false, 0, ())) =
      some (pNext x.Nodes ⟨node, cmd, at_, i, own, T⟩ (i + 1), t, done, false, 0, ()) := by
  rw [w64_t (by omega) (by omega), cOthers_eq hL hn0 hn (by omega) (by omega) h16, bindO_s, cStops_eq, bindO_s, cValue_eq, bindO_s]
  unfold pNext
  dsimp only
  by_cases h1 : others node (i + 1) < x.Nodes
  · rw [bif_t (decide_eq_true h1), if_pos h1]
  · rw [bif_f (decide_eq_false h1), if_neg h1]
    by_cases h2 : tStops T = true
    · rw [bif_t h2, if_pos h2]; rfl
    · rw [bif_f (by simpa using h2), if_neg h2]
      rcases hat with rfl | rfl <;> rfl
set_option maxHeartbeats 1000000 in
theorem take_counts (hL : 200000 < L) (h16 : x.Nodes ≤ 16) (hn0 : 0 ≤ p.Node) (hn : p.Node < x.Nodes) (hi0 : 0 ≤ p.I) (hi : p.I < x.Nodes) (hat : p.At = 3 ∨ p.At = 5) (hr : yCu L got = some (r, 0, ())) :
    yBX L x p t done got = some (pCounts x.Nodes p r, t, done, false, 0, ()) := by
  obtain ⟨node, cmd, at_, i, own, ⟨ti, tm, tb, tv, ts, ta, tl⟩⟩ := p
  obtain ⟨ri, rm, rb, rv⟩ := r
  dsimp only at hn0 hn hat hi0 hi
  have key : ∀ T : yAG, tCount ⟨ti, tm, tb, tv, ts, ta, tl⟩ ⟨ri, rm, rb, rv⟩ = T → pCounts x.Nodes ⟨node, cmd, at_, i, own, ⟨ti, tm, tb, tv, ts, ta, tl⟩⟩ ⟨ri, rm, rb, rv⟩ = pNext x.Nodes ⟨node, cmd, at_, i, own, T⟩ (i + 1) := fun T e => by
    unfold pCounts; rw [e]
  have nx := fun T => pxTake_next (L := L) (x := x) (t := t) (done := done) (cmd := cmd) (at_ := at_) (own := own) (T := T) hL h16 hn0 hn hi0 hi hat
  unfold yBX yEI
  rcases hat with rfl | rfl
  all_goals
    simp only [show decide ((3 : Int) < 0) = false from rfl, show decide ((5 : Int) < 0) = false from rfl, show decide (7 ≤ w64 3) = false from rfl, show decide (7 ≤ w64 5) = false from rfl, show decide ((3 : Int) = 0) = false from rfl, show decide ((5 : Int) = 0) = false from rfl, show decide ((3 : Int) = 1) = false from rfl, show decide ((5 : Int) = 1) = false from rfl, show decide ((3 : Int) = 2) = false from rfl, show decide ((5 : Int) = 2) = false from rfl, show decide ((3 : Int) = 3) = true from rfl, show decide ((5 : Int) = 3) = false from rfl, show decide ((5 : Int) = 4) = false from rfl, show decide ((5 : Int) = 5) = true from rfl, cond_false, cond_true, hr, sees_eq (show 10 < L by omega), decide_true, bindO_s, show ((0 : Int) != 0) = false from rfl]
    by_cases h1 : ti < ri
    · rw [bif_t (decide_eq_true h1)]
      refine (nx _).trans ?_
      rw [key _ ?_]
      unfold tCount
      simp only [if_neg (show ¬ (ri = ti ∧ tb < rb) by omega), decide_eq_true h1, decide_eq_false (show ¬ ri = ti by omega), Bool.or_true, Bool.false_and, Bool.or_false, minI_max]
    · rw [bif_f (decide_eq_false h1)]
      by_cases h2 : ri = ti
      · rw [bif_t (show (ri == ti) = true from beq_iff_eq.2 h2)]
        cases tl with
        | true =>
          rw [cond_true]
          by_cases h3 : tb < rb
          · rw [bif_t (decide_eq_true h3)]
            refine (nx _).trans ?_
            rw [key _ ?_]
            unfold tCount
            simp only [if_pos (show ri = ti ∧ tb < rb from ⟨h2, h3⟩), decide_eq_false h1, Bool.or_false, Bool.true_or, minI_max]
          · rw [bif_f (decide_eq_false h3)]
            refine (nx _).trans ?_
            rw [key _ ?_]
            unfold tCount
            simp only [if_neg (show ¬ (ri = ti ∧ tb < rb) by omega), decide_eq_false h1, Bool.or_false, Bool.true_or, minI_max]
        | false =>
          rw [cond_false]
          by_cases h3 : tb < rb
          · rw [bif_t (decide_eq_true h3)]
            refine (nx _).trans ?_
            rw [key _ ?_]
            unfold tCount
            simp only [if_pos (show ri = ti ∧ tb < rb from ⟨h2, h3⟩), decide_eq_false h1, decide_eq_true h2, Bool.or_false, Bool.false_or, Bool.true_and, minI_max]
          · rw [bif_f (decide_eq_false h3)]
            refine (nx _).trans ?_
            rw [key _ ?_]
            unfold tCount
            simp only [if_neg (show ¬ (ri = ti ∧ tb < rb) by omega), decide_eq_false h1, decide_eq_true h2, Bool.or_false, Bool.false_or, Bool.true_and, minI_max]
      · rw [bif_f (show (ri == ti) = false from beq_eq_false_iff_ne.2 h2)]
        refine (nx _).trans ?_
        rw [key _ ?_]
        unfold tCount
        simp only [if_neg (show ¬ (ri = ti ∧ tb < rb) by omega), decide_eq_false h1, decide_eq_false h2, Bool.or_false, Bool.false_and, minI_max]
end
end Go.Proofs.YtakljpcmbpaeaaaGreat

namespace Go.Proofs.YtakljpcmbpaeaaaGreat
open Go.RowKit

theorem mkS_data (s : ByteArray) : mkS s.data.toList = s := by simp [mkS]
def secC (c : yAF) : ByteArray := mkS (sealR 5 (cmdL c)).1
theorem sealB5 (c : yAF) : ∃ x, sealB 5 (cmdL c) = some x ∧ sealR 5 (cmdL c) = (x, 0) ∧ x.length ≤ 40 := by
  have h1 := cmdL_len c
  have h2 := cmdT_len c
  refine ⟨_, sealB_some (by omega) (by omega), sealR_ok (by omega) (by omega), ?_⟩
  rw [List.length_append, sealHead_length, leBytes_length]; omega
theorem secC_len (c : yAF) : (secC c).size ≤ 40 := by
  obtain ⟨x, _, h2, h3⟩ := sealB5 c
  unfold secC
  rw [h2, mkS_n]; exact h3
theorem ne_noS {b : ByteArray} (h : 0 < b.size) : (b.toList == noS.toList) = false := by
  rw [beq_eq_false_iff_ne]
  intro e
  have e1 : b = noS := by
    have := congrArg List.length e
    simp only [ByteArray.toList_eq, Array.length_toList] at this
    exact absurd this (by show ¬ b.size = 0; omega)
  rw [e1] at h
  exact absurd h (by decide)
theorem secC_pos (c : yAF) : 0 < (secC c).size := by
  unfold secC
  have h1 := cmdL_len c
  have h2 := cmdT_len c
  rw [sealR_ok (by omega) (by omega), mkS_n, List.length_append, sealHead_length]; omega
theorem decRead_no {L : Nat} [BigL L] : yHo L noS = some (yAF.z, noS, false, 0, ()) := by
  unfold yHo yJI
  rw [beq_self_eq_true]; rfl
theorem decBytes_eq {L : Nat} [BigL L] {c : yAF} (h : MayC c) : yF8 L (mkS (cmdL c)) = some (secC c, 0, ()) := by
  have h1 := cmdL_len c
  have h2 := cmdT_len c
  have hO : yJs L 5 (mkS (cmdL c)) = some (secC c, 0, ()) := by
    obtain ⟨x, h1, h2, h3⟩ := sealB5 c
    rw [seal_eq (by omega), mkS_l]
    unfold secC
    rw [h2]
  unfold yF8 yIe
  rw [cRead_enc hL10 h, bindO_s]
  dsimp only
  rw [show ((0 : Int) != 0) = false from rfl, cond_false, hO]
  rfl
def recB (r : yAN) : ByteArray := mkS (bytesR r.Inst r.Mbal r.Bal r.Val.data.toList).1
def MayR (r : yAN) : Prop := mayB r.Inst r.Mbal r.Bal r.Val.data.toList = true
theorem recB_len {r : yAN} (h : MayR r) : (recB r).size ≤ 100 ∧ 0 < (recB r).size := by
  obtain ⟨l, x, h1, h2, h3, h4⟩ := bytes_may h
  have h5 := (mayB_parts h).2.2.2.2.2.2
  unfold recB
  rw [h1, mkS_n]
  dsimp only
  exact ⟨by omega, by omega⟩
theorem bBytes_eq {L : Nat} [BigL L] {r : yAN} (h : MayR r) : yFZ L r = some (recB r, 0, ()) := by
  obtain ⟨l, x, h1, h2, h3, h4⟩ := bytes_may h
  have h5 := (mayB_parts h).2.2.2.2.2.2
  rw [bBytes_eq0 hL10]
  unfold recB
  rw [h1]
theorem bRead_eq {L : Nat} [BigL L] {r : yAN} (h : MayR r) : yCu L (recB r) = some (r, 0, ()) := by
  obtain ⟨l, x, h1, h2, h3, h4⟩ := bytes_may h
  have h5 := (mayB_parts h).2.2.2.2.2.2
  rw [bRead_eq0 hL10 (by have := (recB_len h).1; omega)]
  unfold recB
  rw [h1, mkS_l, h3, mkS_data]
theorem bRead_no {L : Nat} [BigL L] : yCu L noS = some (yAN.z, 0, ()) := by
  rw [bRead_eq0 hL10 (by decide)]; rfl
def RecIs (b : ByteArray) (r : yAN) : Prop := (b = noS ∧ r = yAN.z) ∨ (MayR r ∧ b = recB r)
theorem RecIs.read {L : Nat} [BigL L] {b : ByteArray} {r : yAN} (h : RecIs b r) : yCu L b = some (r, 0, ()) := by
  rcases h with ⟨rfl, rfl⟩ | ⟨h, rfl⟩
  · exact bRead_no
  · exact bRead_eq h
theorem cMine_eq {L : Nat} [BigL L] (c : yAF) (b s : Int) : yHn L c b s = some (decide (c.By = b ∧ c.Serial = s)) := by
  unfold yHn yJG
  by_cases h1 : c.By = b
  · rw [bif_t (beq_iff_eq.2 h1)]
    by_cases h2 : c.Serial = s
    · rw [decide_eq_true (⟨h1, h2⟩ : c.By = b ∧ c.Serial = s), beq_iff_eq.2 h2]
    · rw [decide_eq_false (fun q => h2 q.2), beq_eq_false_iff_ne.2 h2]
  · rw [bif_f (beq_eq_false_iff_ne.2 h1), decide_eq_false (fun q => h1 q.1)]
theorem own_eq {L : Nat} {x : yAW} {p : yAK} {t : yAJ} {done : Int} {o : Bool} {own : yAF} (ho : yAl L p.Cmd = some (own, 0, ())) : yGH L ⟨p, x, t, done, o⟩ = some (own, true, ()) := by
  unfold yGH yIl
  rw [ho]; rfl
section
variable {L : Nat} [BigL L] {x : yAW} {p : yAK} {t t' : yAJ} {done : Int} {c own : yAF} {r : yAN} {got : ByteArray}
theorem take_free (hm : (geoOf x).may = true) (hat : p.At = 0) (hd0 : 0 ≤ done) (ho : yAl L p.Cmd = some (own, 0, ())) :
    yBX L x p t done noS = some (if (own.Kind = 0 ∨ own.Kind = 2) ∧ x.Log - 4 * x.Slots ≤ done then (p, t, done, false, 150, ()) else (⟨p.Node, p.Cmd, 1, p.I, p.Own, p.T⟩, t, done, false, 0, ())) := by
  have hok := Geo.may_ok hm
  have s1 : 1 ≤ x.Slots := hok.s1
  have s2 : x.Slots ≤ x.Nodes := hok.s2
  have n2 : x.Nodes ≤ 16 := hok.n2
  have l1 : 8 * x.Slots ≤ x.Log := hok.l1
  have l2 : x.Log ≤ 512 := hok.l2
  have hR : yLZ L x = some (4 * x.Slots) := by
    rw [gRest_eq hL10 (geo_i64 hm), if_pos hm]
  have hl : yJj L x t done noS = some (t, done, yAF.z, false, 0, ()) := by
    unfold yJj yK8
    rw [decRead_no, bindO_s]
    rfl
  unfold yBX yEI
  rw [hat, hl]
  simp only [show decide ((0 : Int) < 0) = false from rfl, show decide (7 ≤ w64 0) = false from rfl, show decide ((0 : Int) = 0) = true from rfl, cond_false, cond_true, decide_true, own_eq ho, bindO_s, show ((0 : Int) != 0) = false from rfl, ho, show ((0 : Int) == 0) = true from rfl, hR]
  rw [w64_t (by omega) (by omega)]
  by_cases h0 : own.Kind = 0
  · rw [bif_t (beq_iff_eq.2 h0)]
    by_cases h1 : x.Log - 4 * x.Slots ≤ done
    · rw [bif_t (decide_eq_true h1), if_pos ⟨.inl h0, h1⟩]; try rfl
    · rw [bif_f (decide_eq_false h1), if_neg (fun q => h1 q.2)]; try rfl
  · rw [bif_f (beq_eq_false_iff_ne.2 h0)]
    by_cases h2 : own.Kind = 2
    · rw [bif_t (beq_iff_eq.2 h2)]
      by_cases h1 : x.Log - 4 * x.Slots ≤ done
      · rw [bif_t (decide_eq_true h1), if_pos ⟨.inr h2, h1⟩]; try rfl
      · rw [bif_f (decide_eq_false h1), if_neg (fun q => h1 q.2)]; try rfl
    · rw [bif_f (beq_eq_false_iff_ne.2 h2), if_neg (fun q => q.1.elim h0 h2)]; try rfl
def nextM (p : yAK) (r : yAN) (done : Int) : Int := nextR p.Node (max (max 0 (recAt r done).Mbal) p.T.Seen)
theorem take_own (hat : p.At = 1) (hr : yCu L got = some (r, 0, ())) :
    yBX L x p t done got = some (if nextM p r done = 0 then (p, t, done, false, 150, ()) else (⟨p.Node, p.Cmd, 2, p.I, ⟨(recAt r done).Inst, nextM p r done, (recAt r done).Bal, (recAt r done).Val⟩, p.T⟩, t, done, false, 0, ())) := by
  have hA : yKw L r done = some (recAt r done) := by
    unfold yKw yLv recAt
    by_cases h : r.Inst = done
    · rw [if_pos h, bif_f (show (r.Inst != done) = false from by rw [h]; exact bne_self_eq_false done)]
    · rw [if_neg h, bif_t (show (r.Inst != done) = true from bne_iff_ne.2 h)]
  have hN : yGW L p.Node [[V.int .i64 (recAt r done).Mbal], [V.int .i64 p.T.Seen]] = some (nextM p r done) :=
    next_eq (l := [(recAt r done).Mbal, p.T.Seen]) (by simp) (by have := hL3 (L := L); simp; omega) p.Node
  unfold yBX yEI
  rw [hat]
  simp only [show decide ((1 : Int) < 0) = false from rfl, show decide (7 ≤ w64 1) = false from rfl, show decide ((1 : Int) = 0) = false from rfl, decide_true, cond_false, cond_true, bindO_s, show ((0 : Int) != 0) = false from rfl, hr, hA, hN]
  by_cases h : nextM p r done = 0
  · rw [bif_t (beq_iff_eq.2 h), if_pos h]
  · rw [bif_f (beq_eq_false_iff_ne.2 h), if_neg h]
theorem take_dec (hc : MayC c) (hat : p.At = 6) (hv : p.Own.Val = mkS (cmdL c)) (hT : yDY L x t c = some t') (hd0 : 0 ≤ done) (hd : done ≤ 100000) (ho : yAl L p.Cmd = some (own, 0, ())) :
    yBX L x p t done got = some (pAnew p, t', done + 1, decide (c.By = own.By ∧ c.Serial = own.Serial), 0, ()) := by
  unfold yBX yEI
  rw [hat, hv, cRead_enc hL10 hc]
  simp only [show decide ((6 : Int) < 0) = false from rfl, show decide (7 ≤ w64 6) = false from rfl, show decide ((6 : Int) = 0) = false from rfl, show decide ((6 : Int) = 1) = false from rfl, show decide ((6 : Int) = 2) = false from rfl, show decide ((6 : Int) = 3) = false from rfl, show decide ((6 : Int) = 4) = false from rfl, show decide ((6 : Int) = 5) = false from rfl, show decide ((6 : Int) = 6) = true from rfl, cond_false, cond_true, decide_true, own_eq ho, bindO_s, show ((0 : Int) != 0) = false from rfl, hT, ho, show ((0 : Int) == 0) = true from rfl, cMine_eq]
  rw [w64_t (by omega) (by omega)]
  rfl
theorem want_log (hm : (geoOf x).may = true) (hat : p.At = 0) (hd0 : 0 ≤ done) (hd : done < x.Log) : yBY L x p done = some (⟨1, 1 + 2 * x.Nodes + done, noS, 0⟩, 0, ()) := by
  have hok := Geo.may_ok hm
  have n1 : 1 ≤ x.Nodes := hok.n1
  have hl : yIg L x done = some (1 + 2 * x.Nodes + done) := by
    rw [gLog_eq hL10 (geo_i64 hm)]
    unfold Geo.logS
    rw [if_pos ⟨hm, hd0, hd⟩]; (try rfl)
  unfold yBY yEJ yHQ yHy yLa yK9
  rw [hat, hl]
  simp only [show decide ((0 : Int) < 0) = false from rfl, show decide (7 ≤ w64 0) = false from rfl, decide_true, cond_false, cond_true, bindO_s, show ((0 : Int) == 0) = true from rfl, hl]
  rw [show decide (1 + 2 * x.Nodes + done < 0) = false from decide_eq_false (by omega), show decide (0 ≤ 1 + 2 * x.Nodes + done) = true from decide_eq_true (by omega)]
  rfl
theorem want_own (hm : (geoOf x).may = true) (hat : p.At = 1) (hn0 : 0 ≤ p.Node) (hn : p.Node < x.Nodes) : yBY L x p done = some (⟨1, 1 + x.Nodes + p.Node, noS, 0⟩, 0, ()) := by
  have hp : yCi L x p.Node = some (1 + x.Nodes + p.Node) := by
    rw [gPaxos_eq hL10 (geo_i64 hm)]
    unfold Geo.paxosS
    rw [if_pos ⟨hm, hn0, hn⟩]; (try rfl)
  unfold yBY yEJ yHR yHz yDV yIL
  rw [hat]
  simp only [show decide ((1 : Int) < 0) = false from rfl, show decide (7 ≤ w64 1) = false from rfl, show decide ((1 : Int) = 0) = false from rfl, decide_true, cond_false, cond_true, bindO_s, show ((1 : Int) == 0) = false from rfl, hp]
  rw [show decide (1 + x.Nodes + p.Node < 0) = false from decide_eq_false (by omega)]
  rfl
theorem want_rec (hm : (geoOf x).may = true) (hat : p.At = 2 ∨ p.At = 4) (hn0 : 0 ≤ p.Node) (hn : p.Node < x.Nodes) (hr : MayR p.Own) : yBY L x p done = some (⟨2, 1 + x.Nodes + p.Node, recB p.Own, 0⟩, 0, ()) := by
  have hp : yCi L x p.Node = some (1 + x.Nodes + p.Node) := by
    rw [gPaxos_eq hL10 (geo_i64 hm)]
    unfold Geo.paxosS
    rw [if_pos ⟨hm, hn0, hn⟩]; (try rfl)
  have hF : yCo L (1 + x.Nodes + p.Node) (recB p.Own) 0 = some ⟨2, 1 + x.Nodes + p.Node, recB p.Own, 0⟩ := by
    unfold yCo yHP
    rw [show ((0 : Int) != 0) = false from rfl, cond_false, bif_f (decide_eq_false (by omega))]
  unfold yBY yEJ yFE yGI
  rcases hat with e | e
  all_goals
    rw [e, bBytes_eq hr, hp]
    simp only [show decide ((2 : Int) < 0) = false from rfl, show decide (7 ≤ w64 2) = false from rfl, show decide ((2 : Int) = 0) = false from rfl, show decide ((2 : Int) = 1) = false from rfl, decide_true, show decide ((4 : Int) < 0) = false from rfl, show decide (7 ≤ w64 4) = false from rfl, show decide ((4 : Int) = 0) = false from rfl, show decide ((4 : Int) = 1) = false from rfl, show decide ((4 : Int) = 2) = false from rfl, show decide ((4 : Int) = 3) = false from rfl, decide_true, cond_false, cond_true, bindO_s, show ((2 : Int) == 0) = false from rfl, show ((4 : Int) == 0) = false from rfl, hF]
theorem want_read (hm : (geoOf x).may = true) (hat : p.At = 3 ∨ p.At = 5) (hn0 : 0 ≤ p.I) (hn : p.I < x.Nodes) : yBY L x p done = some (⟨1, 1 + x.Nodes + p.I, noS, 0⟩, 0, ()) := by
  have hp : yCi L x p.I = some (1 + x.Nodes + p.I) := by
    rw [gPaxos_eq hL10 (geo_i64 hm)]
    unfold Geo.paxosS
    rw [if_pos ⟨hm, hn0, hn⟩]; (try rfl)
  unfold yBY yEJ yHS yH0 yHT yH1 yDV yIL
  rcases hat with e | e
  all_goals
    rw [e]
    simp only [show decide ((3 : Int) < 0) = false from rfl, show decide (7 ≤ w64 3) = false from rfl, show decide ((3 : Int) = 0) = false from rfl, show decide ((3 : Int) = 1) = false from rfl, show decide ((3 : Int) = 2) = false from rfl, decide_true, show decide ((5 : Int) < 0) = false from rfl, show decide (7 ≤ w64 5) = false from rfl, show decide ((5 : Int) = 0) = false from rfl, show decide ((5 : Int) = 1) = false from rfl, show decide ((5 : Int) = 2) = false from rfl, show decide ((5 : Int) = 3) = false from rfl, show decide ((5 : Int) = 4) = false from rfl, decide_true, cond_false, cond_true, bindO_s, show ((3 : Int) == 0) = false from rfl, show ((5 : Int) == 0) = false from rfl, hp]
    rw [show decide (1 + x.Nodes + p.I < 0) = false from decide_eq_false (by omega)]
    rfl
theorem want_dec (hm : (geoOf x).may = true) (hat : p.At = 6) (hd0 : 0 ≤ done) (hd : done < x.Log) (hc : MayC c) (hv : p.Own.Val = mkS (cmdL c)) : yBY L x p done = some (⟨2, 1 + 2 * x.Nodes + done, secC c, 0⟩, 0, ()) := by
  have hok := Geo.may_ok hm
  have n1 : 1 ≤ x.Nodes := hok.n1
  have hl : yIg L x done = some (1 + 2 * x.Nodes + done) := by
    rw [gLog_eq hL10 (geo_i64 hm)]
    unfold Geo.logS
    rw [if_pos ⟨hm, hd0, hd⟩]; (try rfl)
  have hF : yCo L (1 + 2 * x.Nodes + done) (secC c) 0 = some ⟨2, 1 + 2 * x.Nodes + done, secC c, 0⟩ := by
    unfold yCo yHP
    rw [show ((0 : Int) != 0) = false from rfl, cond_false, bif_f (decide_eq_false (by omega))]
  unfold yBY yEJ yD2 yE1
  rw [hat, hv, decBytes_eq hc, hl]
  simp only [show decide ((6 : Int) < 0) = false from rfl, show decide (7 ≤ w64 6) = false from rfl, show decide ((6 : Int) = 0) = false from rfl, show decide ((6 : Int) = 1) = false from rfl, show decide ((6 : Int) = 2) = false from rfl, show decide ((6 : Int) = 3) = false from rfl, show decide ((6 : Int) = 4) = false from rfl, show decide ((6 : Int) = 5) = false from rfl, decide_true, cond_false, cond_true, bindO_s, show ((6 : Int) == 0) = false from rfl, hF]
end
end Go.Proofs.YtakljpcmbpaeaaaGreat

namespace Go.Proofs.YtakljpcmbpaeaaaGreat
open Go.RowKit

def slV (s : Int × Int) : List V := [.int .i64 s.1, .int .i64 s.2]
structure HOk (h : List (List V)) : Prop where
  c : clR 4 h = some h
  n : h.length ≤ 1000
  m : rowsNm h = true
structure TOk (t : yAJ) : Prop where
  s : ∃ l : List (Int × Int), t.Slots = l.map slV ∧ l.length ≤ 1000
  h : HOk t.Holds
  q : HOk t.Queue
theorem HOk.nil : HOk [] := ⟨rfl, Nat.zero_le _, rfl⟩
theorem rowsNm_sl (l : List (Int × Int)) : rowsNm (l.map slV) = true := List.all_eq_true.2 fun r hr => by
  obtain ⟨a, _, rfl⟩ := List.mem_map.1 hr
  rfl
theorem clR_sl {l : List (Int × Int)} (h : l.length ≤ 1000) : clR 2 (l.map slV) = some (l.map slV) := by
  unfold clR
  have : ((l.map slV).all fun r => Nat.beq r.length 2) = true := List.all_eq_true.2 fun r hr => by
    obtain ⟨a, _, rfl⟩ := List.mem_map.1 hr
    rfl
  rw [this, rowsNm_sl, Nat.ble_eq_true_of_le (by rw [List.length_map]; omega)]; rfl
theorem row_sl {l : List (Int × Int)} {i : Nat} (h : i < l.length) : rowIs yAY.ks (l.map slV) i = true := by
  rw [rowIs_at _ (show (l.map slV)[i]? = some (slV l[i]) by rw [List.getElem?_map, List.getElem?_eq_getElem h]; rfl)]
  rfl
theorem cell_sl {l : List (Int × Int)} {i : Nat} (h : i < l.length) : asI (cell (l.map slV) i 0) = l[i].1 := by
  rw [cell_at (show (l.map slV)[i]? = some (slV l[i]) by rw [List.getElem?_map, List.getElem?_eq_getElem h]; rfl)]
  rfl
theorem find360 {L : Nat} [BigL L] {l : List (Int × Int)} (hl : l.length ≤ 1000) (hL : 200000 < L) : ∃ r, yAd L (l.map slV) () = some r ∧ (r = -1 ∨ 0 ≤ r ∧ r < l.length) := by
  have H := loop2_run (α := Int) (F := yAV (yB5 L)) (fun s => s.1 = l.map slV ∧ s.2.2.1 = l.length ∧ 0 ≤ s.2.2.2.1 ∧ s.2.2.2.1 ≤ l.length) (fun s => l.length - s.2.2.2.1.toNat) (fun _ => True) (fun b => 0 ≤ b.1 ∧ b.1 < l.length) (fun s hs => by
    obtain ⟨s1, s2, s3, s4, s5⟩ := s
    obtain ⟨rfl, rfl, h3, h4⟩ := hs
    dsimp only at h3 h4
    by_cases hlt : s4 < l.length
    · have hi : s4.toNat < l.length := by omega
      by_cases hz : l[s4.toNat].1 = 0
      · refine .inr (.inr ⟨(s4, ()), ⟨h3, hlt⟩, fun kn ka kb => ?_⟩)
        show (bif decide (s4 < (l.length : Int)) then _ else _) = _
        dsimp only
        rw [bif_t (decide_eq_true hlt), gI_t h3 (by rw [List.length_map]; exact hlt) (row_sl hi)]
        show (bif asI (cell (l.map slV) s4.toNat 0) == 0 then _ else _) = _
        rw [cell_sl hi, hz]; rfl
      · refine .inl ⟨(l.map slV, (), (l.length : Int), s4 + 1, ()), ⟨rfl, rfl, by dsimp only; omega, by dsimp only; omega⟩, by dsimp only; omega, fun kn ka kb => ?_⟩
        show (bif decide (s4 < (l.length : Int)) then _ else _) = _
        dsimp only
        rw [bif_t (decide_eq_true hlt), gI_t h3 (by rw [List.length_map]; exact hlt) (row_sl hi)]
        show (bif asI (cell (l.map slV) s4.toNat 0) == 0 then _ else _) = _
        rw [cell_sl hi, bif_f (beq_eq_false_iff_ne.2 hz)]
        rw [w64_t (by omega) (by omega)]
    · refine .inr (.inl ⟨(), trivial, fun kn ka kb => ?_⟩)
      show (bif decide (s4 < (l.length : Int)) then _ else _) = _
      rw [bif_f (decide_eq_false hlt)]) L (l.map slV, (), (l.length : Int), 0, ()) ⟨rfl, rfl, by dsimp only; omega, by dsimp only; omega⟩ (by dsimp only; omega)
  unfold yAd yBB
  rw [List.length_map]
  rcases H with ⟨a, _, h2⟩ | ⟨b, h1, h2⟩
  · rw [h2]; exact ⟨_, rfl, .inl rfl⟩
  · rw [h2]; exact ⟨_, rfl, .inr h1⟩
theorem find261 {L : Nat} [BigL L] {l : List (Int × Int)} (k : Int) (hl : l.length ≤ 1000) (hL : 200000 < L) : ∃ r, yAc L (l.map slV) ((k, ()), ()) = some r := by
  have H := loop2_run (α := Int) (F := yAU) (fun s => s.1 = l.map slV ∧ s.2.1 = ((k, ()), ()) ∧ s.2.2.1 = l.length ∧ 0 ≤ s.2.2.2.1 ∧ s.2.2.2.1 ≤ l.length) (fun s => l.length - s.2.2.2.1.toNat) (fun _ => True) (fun b => True) (fun s hs => by
    obtain ⟨s1, s2, s3, s4, s5⟩ := s
    obtain ⟨rfl, rfl, rfl, h3, h4⟩ := hs
    dsimp only at h3 h4
    by_cases hlt : s4 < l.length
    · have hi : s4.toNat < l.length := by omega
      by_cases hz : l[s4.toNat].1 = k
      · refine .inr (.inr ⟨(s4, ()), trivial, fun kn ka kb => ?_⟩)
        show (bif decide (s4 < (l.length : Int)) then _ else _) = _
        dsimp only
        rw [bif_t (decide_eq_true hlt), gI_t h3 (by rw [List.length_map]; exact hlt) (row_sl hi)]
        show (bif asI (cell (l.map slV) s4.toNat 0) == k then _ else _) = _
        rw [cell_sl hi, hz, bif_t (beq_self_eq_true k)]
      · refine .inl ⟨(l.map slV, ((k, ()), ()), (l.length : Int), s4 + 1, ()), ⟨rfl, rfl, rfl, by dsimp only; omega, by dsimp only; omega⟩, by dsimp only; omega, fun kn ka kb => ?_⟩
        show (bif decide (s4 < (l.length : Int)) then _ else _) = _
        dsimp only
        rw [bif_t (decide_eq_true hlt), gI_t h3 (by rw [List.length_map]; exact hlt) (row_sl hi)]
        show (bif asI (cell (l.map slV) s4.toNat 0) == k then _ else _) = _
        rw [cell_sl hi, bif_f (beq_eq_false_iff_ne.2 hz)]
        rw [w64_t (by omega) (by omega)]
    · refine .inr (.inl ⟨(), trivial, fun kn ka kb => ?_⟩)
      show (bif decide (s4 < (l.length : Int)) then _ else _) = _
      rw [bif_f (decide_eq_false hlt)]) L (l.map slV, ((k, ()), ()), (l.length : Int), 0, ()) ⟨rfl, rfl, rfl, by dsimp only; omega, by dsimp only; omega⟩ (by dsimp only; omega)
  unfold yAc yBA
  rw [List.length_map]
  rcases H with ⟨a, _, h2⟩ | ⟨b, h1, h2⟩
  · rw [h2]; exact ⟨_, rfl⟩
  · rw [h2]; exact ⟨_, rfl⟩
theorem set_sl {l : List (Int × Int)} {i : Nat} {k : Int} (hi : i < l.length) : (l.map slV).set (0 + i) (((l.map slV).getD (0 + i) []).take 0 ++ ([V.int .i64 k] ++ ((l.map slV).getD (0 + i) []).drop 1)) = (l.set i (k, l[i].2)).map slV := by
  rw [Nat.zero_add, List.getD_eq_getElem?_getD, List.getElem?_map, List.getElem?_eq_getElem hi, List.map_set]
  rfl
set_option maxHeartbeats 1000000 in
theorem apply_mount {L : Nat} [BigL L] {x : yAW} {t : yAJ} {c : yAF} (hL : 200000 < L) (ht : TOk t) (hk : c.Kind = 0) : ∃ t', yDY L x t c = some t' ∧ TOk t' := by
  obtain ⟨⟨l, hs, hl⟩, hh, hq⟩ := ht
  obtain ⟨sl, ho, qu⟩ := t
  dsimp only at hs hh hq
  subst hs
  have cs : slices_Clone_Slot L (l.map slV) = some (l.map slV) := clR_sl hl
  have ch : slices_Clone_Hold L ho = some ho := hh.c
  have cq : slices_Clone_Hold L qu = some qu := hq.c
  have b0 : ∀ n : Nat, Nat.ble (0 + n) n = true := fun n => Nat.ble_eq_true_of_le (by omega)
  have b1 : ∀ n : Nat, n ≤ 1000 → Nat.ble (0 + n) 2000000 = true := fun n h => Nat.ble_eq_true_of_le (by omega)
  have hlm : (l.map slV).length ≤ 1000 := by rw [List.length_map]; exact hl
  obtain ⟨r, hr⟩ := find261 (L := L) c.By hl hL
  obtain ⟨f, hf, hf2⟩ := find360 (L := L) hl hL
  have hslot : ∃ y, yER L (⟨(⟨l.map slV, ho, qu⟩ : yAJ), x⟩ : yAs) c.By = some y := by
    unfold yER yHK yLc yLX
    by_cases h : c.By < 1
    · rw [bif_t (decide_eq_true h)]; exact ⟨_, rfl⟩
    · rw [bif_f (decide_eq_false h), hr]; exact ⟨_, rfl⟩
  obtain ⟨y, hy⟩ := hslot
  have nm := rowsNm_sl l
  unfold yDY yKl
  simp only [gd, gI, gB, gL, gF, gW, gA, gM, hk, show decide ((0 : Int) < 0) = false from rfl, show decide (6 ≤ w64 0) = false from rfl, cond_false, cs, ch, cq, bindO_s, decide_true, cond_true, b0, b1 _ hlm, b1 _ hh.n, b1 _ hq.n, nm, hh.m, hq.m, List.take_length, hy, hf]
  cases hb : y.2.1 with
  | true => exact ⟨_, rfl, ⟨⟨l, rfl, hl⟩, hh, hq⟩⟩
  | false =>
    simp only [Bool.not_false, cond_true]
    rcases hf2 with rfl | ⟨g1, g2⟩
    · exact ⟨_, rfl, ⟨⟨l, rfl, hl⟩, hh, hq⟩⟩
    · have hi : f.toNat < l.length := by omega
      have hset := set_sl (k := c.By) hi
      have hrow : Nat.ble 1 ((l.map slV).getD (0 + f.toNat) []).length = true := by
        rw [Nat.zero_add, List.getD_eq_getElem?_getD, List.getElem?_map, List.getElem?_eq_getElem hi]; rfl
      have hlen : (List.map slV (l.set f.toNat (c.By, l[f.toNat].2))).length = (l.map slV).length := by rw [List.length_map, List.length_set, List.length_map]
      have htk : ∀ m : List (List V), m.length = (l.map slV).length → m.take (l.map slV).length = m := fun m hm => by rw [← hm, List.take_length]
      simp only [gd, gI, gB, gL, gF, gW, gA, gM, decide_eq_true g1, cond_true, show decide (f < ((l.map slV).length : Int)) = true from decide_eq_true (by rw [List.length_map]; exact g2), show decide (0 + f.toNat < (l.map slV).length) = true from decide_eq_true (by rw [List.length_map]; omega), show Nat.ble 0 (0 + f.toNat) = true from Nat.ble_eq_true_of_le (by omega), hrow, hset, hlen, b0, rowsNm_sl]
      refine ⟨_, rfl, ⟨⟨l.set f.toNat (c.By, l[f.toNat].2), htk _ hlen, by rw [List.length_set]; exact hl⟩, hh, hq⟩⟩
theorem New_eq {L : Nat} [BigL L] {x : yAW} (hL : 200000 < L) (h0 : 0 ≤ x.Slots) (h16 : x.Slots ≤ 16) : ∃ t, yIx L x = some t ∧ TOk t := by
  have nm : ∀ n : Nat, rowsNm (List.replicate n (slV (0, 0))) = true := fun n => by
    have := rowsNm_sl (List.replicate n (0, 0))
    rwa [List.map_replicate] at this
  obtain ⟨s, hs⟩ := Int.eq_ofNat_of_zero_le h0
  obtain ⟨a, ha, hrun⟩ := loop1_run (α := yAJ) (F := yHr) (fun q => x = q.1 ∧ ∃ j : Nat, j ≤ s ∧ (j : Int) = q.2.2.2.1 ∧ (List.replicate j (slV (0, 0)), ([] : List (List V)), ([] : List (List V)), ()) = q.2.2.1) (fun q => s - q.2.2.2.1.toNat) (fun a => ∃ j : Nat, j ≤ 16 ∧ a.2.1 = (List.replicate j (slV (0, 0)), [], [], ())) (fun q hq => by
    obtain ⟨q1, q2, q3, q4, q5⟩ := q
    obtain ⟨rfl, j, hj, rfl, rfl⟩ := hq
    by_cases hlt : j < s
    · refine .inl ⟨(x, q2, (List.replicate (j + 1) (slV (0, 0)), [], [], ()), ((j + 1 : Nat) : Int), ()), ⟨rfl, j + 1, hlt, rfl, rfl⟩, by dsimp only; omega, fun kn ka => ?_⟩
      have e : List.replicate j (slV (0, 0)) ++ [[V.int .i64 0, V.int .i64 0]] = List.replicate (j + 1) (slV (0, 0)) := by rw [List.replicate_succ']; rfl
      show (bif decide ((j : Int) < x.Slots) then _ else _) = _
      rw [bif_t (decide_eq_true (by omega))]
      show (bif decide ((j : Int) < 16) then _ else _) = _
      rw [bif_t (decide_eq_true (by omega))]
      simp only [gd, gI, gB, gL, gF, gW, gA, gM, List.length_replicate, e, nm, cond_true, Nat.zero_add, Nat.beq_refl, show decide ((j + 1) * 16 ≤ 140737488355328) = true from decide_eq_true (by omega), show decide (j + 1 ≤ 9223372036854775807) = true from decide_eq_true (by omega), show Nat.ble (j + 1) 2000000 = true from Nat.ble_eq_true_of_le (by omega)]
      rw [w64_t (by omega) (by omega)]
      rfl
    · refine .inr ⟨(q2, (List.replicate j (slV (0, 0)), [], [], ()), ()), ⟨j, by omega, rfl⟩, fun kn ka => ?_⟩
      show (bif decide ((j : Int) < x.Slots) then _ else _) = _
      rw [bif_f (decide_eq_false (by omega))]
      simp only [gd, gI, gB, gL, gF, gW, gA, gM, List.length_replicate, nm, cond_true, Nat.beq_refl, show Nat.ble j 2000000 = true from Nat.ble_eq_true_of_le (by omega)]) L (x, yAJ.z, ([], [], [], ()), 0, ()) ⟨rfl, 0, Nat.zero_le _, rfl, rfl⟩ (by dsimp only; omega)
  unfold yIx yMK
  rw [hrun]
  obtain ⟨a1, a2, a3⟩ := a
  obtain ⟨j, hj, rfl⟩ := ha
  simp only [gd, gI, gB, gL, gF, gW, gA, gM, List.length_replicate, nm, cond_true, Nat.zero_add, show Nat.ble j j = true from Nat.ble_eq_true_of_le (Nat.le_refl _), show Nat.ble j 2000000 = true from Nat.ble_eq_true_of_le (by omega)]
  refine ⟨_, rfl, ⟨⟨List.replicate j (0, 0), ?_, by rw [List.length_replicate]; omega⟩, .nil, .nil⟩⟩
  rw [List.map_replicate]
  exact List.take_of_length_le (by rw [List.length_replicate]; exact Nat.le_refl _)
end Go.Proofs.YtakljpcmbpaeaaaGreat

namespace Go.Proofs.YtakljpcmbpaeaaaGreat
open Go.RowKit

structure PSt where
  s : List ByteArray
  p : yAK
  t : yAJ
  d : Int
def PStep (L : Nat) (x : yAW) (N : Nat) (n : Int) (a b : PSt) (over : Bool) : Prop :=
  ∃ act got, yBY L x a.p a.d = some (act, 0, ()) ∧ yD9 L (dvF a.s N) n act = some (dvF b.s N, got, 0, ()) ∧ yBX L x a.p a.t a.d got = some (b.p, b.t, b.d, over, 0, ())
inductive PRuns (L : Nat) (x : yAW) (N : Nat) (n : Int) : Nat → PSt → PSt → Prop
  | nil (a : PSt) : PRuns L x N n 0 a a
  | step {k : Nat} {a b c : PSt} (h : PStep L x N n a b false) (r : PRuns L x N n k b c) : PRuns L x N n (k + 1) a c
theorem PRuns.trans {L : Nat} [BigL L] {x : yAW} {N : Nat} {n : Int} {k m : Nat} {a b c : PSt} (h : PRuns L x N n k a b) (r : PRuns L x N n m b c) : PRuns L x N n (k + m) a c := by
  induction h with
  | nil a => rw [Nat.zero_add]; exact r
  | step h _ ih =>
    rename_i k _ _ _ _
    rw [show k + 1 + m = k + m + 1 by omega]
    exact .step h (ih r)
theorem PRuns.one {L : Nat} [BigL L] {x : yAW} {N : Nat} {n : Int} {a b : PSt} (h : PStep L x N n a b false) : PRuns L x N n 1 a b := .step h (.nil _)
structure PGeo (x : yAW) (N : Nat) (s : List ByteArray) : Prop where
  may : (geoOf x).may = true
  n : x.Nodes = N
  ok : SecOk s
  len : (s.length : Int) = (geoOf x).total
theorem PGeo.set {x : yAW} {N : Nat} {s : List ByteArray} (h : PGeo x N s) (k : Nat) {b : ByteArray} (hb : b.size ≤ 512) : PGeo x N (s.set k b) := ⟨h.may, h.n, h.ok.set k hb, by rw [List.length_set]; exact h.len⟩
theorem PGeo.bd {x : yAW} {N : Nat} {s : List ByteArray} (h : PGeo x N s) : 1 ≤ N ∧ N ≤ 16 ∧ 8 ≤ x.Log ∧ x.Log ≤ 512 ∧ 1 ≤ x.Slots ∧ x.Slots ≤ 16 ∧ 8 * x.Slots ≤ x.Log ∧ 1 + 2 * (N : Int) + x.Log ≤ s.length := by
  have hok := Geo.may_ok h.may
  have n1 : 1 ≤ x.Nodes := hok.n1
  have n2 : x.Nodes ≤ 16 := hok.n2
  have s1 : 1 ≤ x.Slots := hok.s1
  have s2 : x.Slots ≤ x.Nodes := hok.s2
  have l1 : 8 * x.Slots ≤ x.Log := hok.l1
  have l2 : x.Log ≤ 512 := hok.l2
  have hn := h.n
  have ht := total_bd hok
  have hs := hok.sj
  have e : (geoOf x).atD = 1 + 2 * x.Nodes + x.Log + (geoOf x).slots * (1 + (geoOf x).journal) := rfl
  have hl := h.len
  omega
section
variable {L : Nat} [BigL L] {x : yAW} {N : Nat} {a : PSt} {own : yAF} {c : yAF} {t' : yAJ} {r : yAN}
theorem step_free (hL : 200000 < L) (h : PGeo x N a.s) (hn0 : 0 ≤ a.p.Node) (hn : a.p.Node < N) (hat : a.p.At = 0) (hd0 : 0 ≤ a.d) (hd : a.d < x.Log) (hs : a.s.getD (1 + 2 * (N : Int) + a.d).toNat noS = noS) (ho : yAl L a.p.Cmd = some (own, 0, ())) (hr : ¬ ((own.Kind = 0 ∨ own.Kind = 2) ∧ x.Log - 4 * x.Slots ≤ a.d)) :
    PStep L x N a.p.Node a ⟨a.s, ⟨a.p.Node, a.p.Cmd, 1, a.p.I, a.p.Own, a.p.T⟩, a.t, a.d⟩ false := by
  obtain ⟨n1, n2, l8, l512, s1, s16, sl, hl⟩ := h.bd
  refine ⟨_, _, want_log h.may hat hd0 hd, ddo_read (N := N) h.ok (cAll_ok N) n1 n2 BigL.h hn0 hn (by rw [h.n]; omega) (by rw [h.n]; omega), ?_⟩
  rw [h.n, hs, take_free h.may hat hd0 ho, if_neg hr]
theorem step_own (hL : 200000 < L) (h : PGeo x N a.s) (hn0 : 0 ≤ a.p.Node) (hn : a.p.Node < N) (hat : a.p.At = 1) (hs : RecIs (a.s.getD (1 + (N : Int) + a.p.Node).toNat noS) r) (hm : nextM a.p r a.d ≠ 0) :
    PStep L x N a.p.Node a ⟨a.s, ⟨a.p.Node, a.p.Cmd, 2, a.p.I, ⟨(recAt r a.d).Inst, nextM a.p r a.d, (recAt r a.d).Bal, (recAt r a.d).Val⟩, a.p.T⟩, a.t, a.d⟩ false := by
  obtain ⟨n1, n2, l8, l512, s1, s16, sl, hl⟩ := h.bd
  refine ⟨_, _, want_own h.may hat hn0 (by rw [h.n]; exact hn), ddo_read (N := N) h.ok (cAll_ok N) n1 n2 BigL.h hn0 hn (by rw [h.n]; omega) (by rw [h.n]; omega), ?_⟩
  rw [h.n, take_own hat hs.read, if_neg hm]
theorem step_wrote (hL : 200000 < L) (h : PGeo x N a.s) (hn0 : 0 ≤ a.p.Node) (hn : a.p.Node < N) (hat : a.p.At = 2 ∨ a.p.At = 4) (hr : MayR a.p.Own) :
    PStep L x N a.p.Node a ⟨a.s.set (1 + (N : Int) + a.p.Node).toNat (recB a.p.Own), pWrote N a.p, a.t, a.d⟩ false := by
  obtain ⟨n1, n2, l8, l512, s1, s16, sl, hl⟩ := h.bd
  have w := want_rec (L := L) (done := a.d) h.may hat hn0 (by rw [h.n]; exact hn) hr
  rw [h.n] at w
  refine ⟨_, _, w, ddo_force (N := N) h.ok (cAll_ok N) n1 n2 BigL.h hn0 hn (by omega) (by omega) (by have := (recB_len hr).1; omega), ?_⟩
  have := take_wrote (L := L) (x := x) (p := a.p) (t := a.t) (done := a.d) (got := noS) (by omega) (by rw [h.n]; omega) hn0 (by rw [h.n]; exact hn) hat
  rw [h.n] at this
  exact this
theorem step_read (hL : 200000 < L) (h : PGeo x N a.s) (hn0 : 0 ≤ a.p.Node) (hn : a.p.Node < N) (hat : a.p.At = 3 ∨ a.p.At = 5) (hi0 : 0 ≤ a.p.I) (hi : a.p.I < N) (hs : RecIs (a.s.getD (1 + (N : Int) + a.p.I).toNat noS) r) :
    PStep L x N a.p.Node a ⟨a.s, pCounts N a.p r, a.t, a.d⟩ false := by
  obtain ⟨n1, n2, l8, l512, s1, s16, sl, hl⟩ := h.bd
  refine ⟨_, _, want_read h.may hat hi0 (by rw [h.n]; exact hi), ddo_read (N := N) h.ok (cAll_ok N) n1 n2 BigL.h hn0 hn (by rw [h.n]; omega) (by rw [h.n]; omega), ?_⟩
  rw [h.n]
  have := take_counts (L := L) (x := x) (p := a.p) (t := a.t) (done := a.d) (by omega) (by rw [h.n]; omega) hn0 (by rw [h.n]; exact hn) hi0 (by rw [h.n]; exact hi) hat (hs.read (L := L))
  rw [h.n] at this
  exact this
theorem step_dec (hL : 200000 < L) (h : PGeo x N a.s) (hn0 : 0 ≤ a.p.Node) (hn : a.p.Node < N) (hat : a.p.At = 6) (hd0 : 0 ≤ a.d) (hd : a.d < x.Log) (hc : MayC c) (hv : a.p.Own.Val = mkS (cmdL c)) (hT : yDY L x a.t c = some t') (ho : yAl L a.p.Cmd = some (own, 0, ())) :
    PStep L x N a.p.Node a ⟨a.s.set (1 + 2 * (N : Int) + a.d).toNat (secC c), pAnew a.p, t', a.d + 1⟩ (decide (c.By = own.By ∧ c.Serial = own.Serial)) := by
  obtain ⟨n1, n2, l8, l512, s1, s16, sl, hl⟩ := h.bd
  have w := want_dec (L := L) (p := a.p) h.may hat hd0 hd hc hv
  rw [h.n] at w
  refine ⟨_, _, w, ddo_force (N := N) h.ok (cAll_ok N) n1 n2 BigL.h hn0 hn (by omega) (by omega) (by have := secC_len c; omega), ?_⟩
  exact take_dec hc hat hv hT hd0 (by omega) ho
end
def rdT (R : Nat → yAN) (n : Nat) : Nat → Nat → yAG → yAG
  | 0, _, T => T
  | j + 1, k, T => rdT R n j (k + 1) (if k = n then T else tCount T (R k))
def rst (n : Nat) : Nat → Nat → Nat
  | 0, _ => 0
  | j + 1, k => rst n j (k + 1) + (if k = n then 0 else 1)
theorem rst_all (n : Nat) : ∀ j k : Nat, rst n j k + (if k ≤ n ∧ n < k + j then 1 else 0) = j
  | 0, k => by rw [if_neg (by omega)]; rfl
  | j + 1, k => by
    have := rst_all n j (k + 1)
    unfold rst
    by_cases h : k = n
    · subst h
      rw [if_neg (by omega)] at this
      rw [if_pos rfl, if_pos (by omega)]; omega
    · rw [if_neg h]
      by_cases h2 : k ≤ n ∧ n < k + (j + 1)
      · rw [if_pos h2]; rw [if_pos (by omega)] at this; omega
      · rw [if_neg h2]; rw [if_neg (by omega)] at this; omega
theorem reads {L : Nat} [BigL L] {x : yAW} {N : Nat} {s : List ByteArray} {t : yAJ} {d : Int} (hL : 200000 < L) (h : PGeo x N s) {n : Nat} (hn : n < N) {R : Nat → yAN} {at_ : Int} (hat : at_ = 3 ∨ at_ = 5) {cmd : ByteArray} {own : yAN} :
    ∀ (j k : Nat) (i : Int) (T : yAG), k + j = N → (∀ m, k ≤ m → m < N → m ≠ n → RecIs (s.getD (1 + (N : Int) + (m : Int)).toNat noS) (R m)) →
      PRuns L x N n (rst n j k) ⟨s, pNext N ⟨n, cmd, at_, i, own, T⟩ k, t, d⟩ ⟨s, pNext N ⟨n, cmd, at_, i, own, rdT R n j k T⟩ N, t, d⟩
  | 0, k, i, T, hk, hR => by
    obtain rfl : k = N := by omega
    exact .nil _
  | j + 1, k, i, T, hk, hR => by
    unfold rst rdT
    by_cases he : k = n
    · rw [if_pos he, if_pos he]
      have e : pNext N ⟨n, cmd, at_, i, own, T⟩ k = pNext N ⟨n, cmd, at_, i, own, T⟩ ((k + 1 : Nat) : Int) := by
        have o : others (n : Int) (k : Int) = others (n : Int) ((k + 1 : Nat) : Int) := by
          unfold others
          rw [if_pos (by omega), if_neg (by omega)]; omega
        unfold pNext
        dsimp only
        rw [o]
      rw [e]
      exact reads hL h hn hat j (k + 1) i T (by omega) fun m h1 h2 h3 => hR m (by omega) h2 h3
    · rw [if_neg he, if_neg he]
      have e : pNext N ⟨n, cmd, at_, i, own, T⟩ k = ⟨n, cmd, at_, k, own, T⟩ := by
        unfold pNext
        dsimp only
        have o : others (n : Int) (k : Int) = k := by unfold others; rw [if_neg (by omega)]
        rw [o, if_pos (by omega)]
      rw [e]
      have st := step_read (a := ⟨s, ⟨n, cmd, at_, k, own, T⟩, t, d⟩) hL h (by show (0 : Int) ≤ n; omega) (by show (n : Int) < N; omega) hat (by show (0 : Int) ≤ k; omega) (by show (k : Int) < N; omega) (hR k (Nat.le_refl _) (by omega) he)
      exact .step st (reads hL h hn hat j (k + 1) i (tCount T (R k)) (by omega) fun m h1 h2 h3 => hR m (by omega) h2 h3)
theorem rdT_inv {R : Nat → yAN} {n : Nat} {Q : yAG → Prop} : ∀ (j k : Nat) (T : yAG), (∀ m, k ≤ m → m < k + j → m ≠ n → ∀ T, Q T → Q (tCount T (R m))) → Q T → Q (rdT R n j k T)
  | 0, _, T, _, h => h
  | j + 1, k, T, hm, h => by
    unfold rdT
    refine rdT_inv j (k + 1) _ (fun m h1 h2 h3 => hm m (by omega) (by omega) h3) ?_
    by_cases he : k = n
    · rw [if_pos he]; exact h
    · rw [if_neg he]; exact hm k (Nat.le_refl _) (by omega) he T h
theorem rdT_hit {R : Nat → yAN} {n q : Nat} {Q Q' : yAG → Prop} (hq : q ≠ n) : ∀ (j k : Nat) (T : yAG), k ≤ q → q < k + j → (∀ m, k ≤ m → m < k + j → m ≠ n → m ≠ q → ∀ T, Q T → Q (tCount T (R m))) → (∀ T, Q T → Q' (tCount T (R q))) →
    (∀ m, k ≤ m → m < k + j → m ≠ n → m ≠ q → ∀ T, Q' T → Q' (tCount T (R m))) → Q T → Q' (rdT R n j k T)
  | 0, k, T, h1, h2, _, _, _, _ => by omega
  | j + 1, k, T, h1, h2, ha, hb, hc, h => by
    unfold rdT
    by_cases he : k = n
    · rw [if_pos he]
      exact rdT_hit hq j (k + 1) T (by omega) (by omega) (fun m g1 g2 => ha m (by omega) (by omega)) hb (fun m g1 g2 => hc m (by omega) (by omega)) h
    · rw [if_neg he]
      by_cases hkq : k = q
      · subst hkq
        exact rdT_inv j (k + 1) _ (fun m g1 g2 g3 => hc m (by omega) (by omega) g3 (by omega)) (hb T h)
      · exact rdT_hit hq j (k + 1) _ (by omega) (by omega) (fun m g1 g2 => ha m (by omega) (by omega)) hb (fun m g1 g2 => hc m (by omega) (by omega)) (ha k (Nat.le_refl _) (by omega) he hkq T h)
end Go.Proofs.YtakljpcmbpaeaaaGreat

namespace Go.Proofs.YtakljpcmbpaeaaaGreat
open Go.RowKit

section
variable {L N : Nat} [BigL L] {x : yAW}
abbrev rS (most : Int) (x : yAW) (N : Nat) (p0 : yAK) (a : PSt) (acts : Int) (over : Bool) : Int × yAW × yAA × yAK × yAA × yDa × Int × Unit :=
  (most, x, dvF a.s N, p0, yAA.z, (⟨a.p, a.t, a.d, acts, over⟩ : yDa), 0, ())
abbrev rF (L : Nat) {α : Type} := yEG (α := α) (yBY L) (yD9 L) (yBX L)
theorem loop_step {α : Type} {m : Nat} {most acts : Int} {p0 : yAK} {a b : PSt} {ov : Bool} (h : PStep L x N p0.Node a b ov) (ha : acts < most) (h0 : 0 ≤ acts) (h1 : acts ≤ 1000000) (ka) :
    loop1 (α := α) (rF L) (m + 1) (rS most x N p0 a acts false) ka = loop1 (rF L) m (rS most x N p0 b (acts + 1) ov) ka := by
  have _ := (inferInstance : BigL L)
  obtain ⟨act, got, h2, h3, h4⟩ := h
  show rF L (rS most x N p0 a acts false) (fun s' => loop1 (rF L) m s' ka) ka = _
  unfold rF yEG
  dsimp only
  rw [Bool.not_false, cond_true, bif_t (decide_eq_true ha), h2, bindO_s]
  dsimp only
  rw [show ((0 : Int) != 0) = false from rfl, cond_false, h3, bindO_s]
  dsimp only
  rw [show ((0 : Int) != 0) = false from rfl, cond_false, h4, bindO_s]
  dsimp only
  rw [show ((0 : Int) != 0) = false from rfl, cond_false, w64_t (by omega) (by omega)]
theorem loop_over {α : Type} {m : Nat} {most acts : Int} {p0 : yAK} {a : PSt} (ka) : loop1 (α := α) (rF L) (m + 1) (rS most x N p0 a acts true) ka = ka (dvF a.s N, yAA.z, (⟨a.p, a.t, a.d, acts, true⟩ : yDa), 0, ()) := by
  have _ := (inferInstance : BigL L)
  exact rfl
theorem loop_most {α : Type} {m : Nat} {most acts : Int} {p0 : yAK} {a : PSt} (ha : ¬ acts < most) (ka) : loop1 (α := α) (rF L) (m + 1) (rS most x N p0 a acts false) ka = ka (dvF a.s N, yAA.z, (⟨a.p, a.t, a.d, acts, false⟩ : yDa), 0, ()) := by
  have _ := (inferInstance : BigL L)
  show rF L (rS most x N p0 a acts false) (fun s' => loop1 (rF L) m s' ka) ka = _
  unfold rF yEG
  dsimp only
  rw [Bool.not_false, cond_true, bif_f (decide_eq_false ha)]
theorem loop_runs {α : Type} {p0 : yAK} {k : Nat} {a b : PSt} (h : PRuns L x N p0.Node k a b) : ∀ (m : Nat) (most acts : Int) (ka), acts + k ≤ most → 0 ≤ acts → acts + k ≤ 1000000 →
    loop1 (α := α) (rF L) (m + k) (rS most x N p0 a acts false) ka = loop1 (rF L) m (rS most x N p0 b (acts + k) false) ka := by
  induction h with
  | nil a => intro m most acts ka _ _ _; rw [Nat.add_zero, Int.natCast_zero, Int.add_zero]
  | step h r ih =>
    rename_i k _ _ _
    intro m most acts ka h1 h2 h3
    rw [show m + (k + 1) = (m + k) + 1 by omega, loop_step h (by omega) h2 (by omega)]
    rw [ih m most (acts + 1) ka (by omega) (by omega) (by omega)]
    rw [show acts + 1 + (k : Int) = acts + ((k + 1 : Nat) : Int) by omega]
theorem run_enter {s : List ByteArray} {p : yAK} {t : yAJ} {d most : Int} (h : PGeo x N s) : yGG L x (dvF s N) p t d most =
    loop1 (rF L) L (rS most x N p ⟨s, p, t, d⟩ 0 false) (fun q4 => some (q4.1, q4.2.2.1, q4.2.2.2.1, ())) := by
  obtain ⟨n1, n2, l8, l512, s1, s16, sl, hl⟩ := h.bd
  have hM : yGe L x = some true := by rw [gMay_eq hL10 (geo_i64 h.may), h.may]
  have hC : yFe L (dvF s N) = some 0 := dchk_eq h.ok (cAll_ok N) n1 n2 BigL.h (Nat.le_refl _)
  have hT : yJi L x = some (geoOf x).total := by rw [gTotal_eq hL10 (geo_i64 h.may)]; unfold Geo.totalS; rw [if_pos h.may]
  have hS : ((dvF s N).S.length : Int) = (geoOf x).total := by
    show ((s.map txV).length : Int) = _
    rw [List.length_map]; exact h.len
  unfold yGG yL7
  rw [hM, bindO_s, Bool.not_true, cond_false, hC, bindO_s, show ((0 : Int) != 0) = false from rfl, cond_false, hT, bindO_s, hS, bif_f (show ((geoOf x).total != (geoOf x).total) = false from bne_self_eq_false _)]
theorem run_exact {k : Nat} {a b : PSt} (h : PGeo x N a.s) (hr : PRuns L x N a.p.Node k a b) (hk : k ≤ 100000) (hL : 200000 < L) :
    yGG L x (dvF a.s N) a.p a.t a.d k = some (dvF b.s N, (⟨b.p, b.t, b.d, k, false⟩ : yDa), 0, ()) := by
  rw [run_enter h]
  obtain ⟨m, rfl⟩ : ∃ m, L = (m + 1) + k := ⟨L - 1 - k, by omega⟩
  show loop1 (rF (m + 1 + k)) (m + 1 + k) (rS k x N a.p a 0 false) _ = _
  rw [loop_runs hr (m + 1) k 0 _ (by omega) (Int.le_refl _) (by omega), Int.zero_add, loop_most (Int.lt_irrefl _)]
theorem run_over {k : Nat} {a b c : PSt} {most : Int} (h : PGeo x N a.s) (hr : PRuns L x N a.p.Node k a b) (hs : PStep L x N a.p.Node b c true) (hk : k ≤ 100000) (hL : 200000 < L) (hm : (k : Int) < most) :
    yGG L x (dvF a.s N) a.p a.t a.d most = some (dvF c.s N, (⟨c.p, c.t, c.d, (k : Int) + 1, true⟩ : yDa), 0, ()) := by
  rw [run_enter h]
  obtain ⟨m, rfl⟩ : ∃ m, L = ((m + 1) + 1) + k := ⟨L - 2 - k, by omega⟩
  show loop1 (rF (m + 1 + 1 + k)) (m + 1 + 1 + k) (rS most x N a.p a 0 false) _ = _
  rw [loop_runs hr (m + 1 + 1) most 0 _ (by omega) (Int.le_refl _) (by omega), Int.zero_add, loop_step hs hm (by omega) (by omega), loop_over]
end
theorem pNext_end {N n : Nat} (hn : n < N) {cmd at_ i own} {T : yAG} : pNext N ⟨n, cmd, at_, i, own, T⟩ N = (if tStops T then pAnew ⟨n, cmd, at_, i, own, T⟩ else if at_ = 5 then ⟨n, cmd, 6, N, own, T⟩ else ⟨n, cmd, 4, N, ⟨own.Inst, own.Mbal, own.Mbal, if 0 < T.Best then T.Val else cmd⟩, T⟩) := by
  have o : others (n : Int) (N : Int) = N := by unfold others; rw [if_neg (by omega)]
  unfold pNext
  dsimp only
  rw [o, if_neg (Int.lt_irrefl _)]
section
variable {L N : Nat} [BigL L] {x : yAW} {s : List ByteArray} {t : yAJ} {d : Int} {n : Nat} {R : Nat → yAN} {cmd : ByteArray} {own : yAF} {r : yAN}
theorem set_ne {i : Int} {j : Nat} {b : ByteArray} (hi : 0 ≤ i) (h : i ≠ j) : (s.set i.toNat b).getD j noS = s.getD j noS := by
  rw [List.getD_eq_getElem?_getD, List.getElem?_set_ne (by omega), ← List.getD_eq_getElem?_getD]
theorem half1 (hL : 200000 < L) (h : PGeo x N s) (hn : n < N) {i : Int} {own0 : yAN} {T0 : yAG} (hd0 : 0 ≤ d) (hd : d < x.Log) (hlog : s.getD (1 + 2 * (N : Int) + d).toNat noS = noS) (hrec : RecIs (s.getD (1 + (N : Int) + (n : Int)).toNat noS) r)
    (hR : ∀ m, m < N → m ≠ n → RecIs (s.getD (1 + (N : Int) + (m : Int)).toNat noS) (R m)) (ho : yAl L cmd = some (own, 0, ())) (hsp : ¬ ((own.Kind = 0 ∨ own.Kind = 2) ∧ x.Log - 4 * x.Slots ≤ d)) {M : Int} (hM : M = nextR n (max (max 0 (recAt r d).Mbal) T0.Seen)) (hM0 : M ≠ 0)
    (hmay : MayR ⟨(recAt r d).Inst, M, (recAt r d).Bal, (recAt r d).Val⟩) :
    PRuns L x N n (3 + rst n N 0) ⟨s, ⟨n, cmd, 0, i, own0, T0⟩, t, d⟩
      ⟨s.set (1 + (N : Int) + (n : Int)).toNat (recB ⟨(recAt r d).Inst, M, (recAt r d).Bal, (recAt r d).Val⟩), pNext N ⟨n, cmd, 3, i, ⟨(recAt r d).Inst, M, (recAt r d).Bal, (recAt r d).Val⟩, rdT R n N 0 (tBegin ⟨(recAt r d).Inst, M, (recAt r d).Bal, (recAt r d).Val⟩ T0.Seen)⟩ N, t, d⟩ := by
  obtain ⟨n1, n2, l8, l512, s1, s16, sl, hl⟩ := h.bd
  have a1 := step_free (a := ⟨s, ⟨n, cmd, 0, i, own0, T0⟩, t, d⟩) hL h (by show (0 : Int) ≤ n; omega) (by show (n : Int) < N; omega) rfl hd0 hd hlog ho hsp
  have a2 := step_own (a := ⟨s, ⟨n, cmd, 1, i, own0, T0⟩, t, d⟩) hL h (by show (0 : Int) ≤ n; omega) (by show (n : Int) < N; omega) rfl hrec (by show nextR n (max (max 0 (recAt r d).Mbal) T0.Seen) ≠ 0; rw [← hM]; exact hM0)
  have e2 : nextM (⟨n, cmd, 1, i, own0, T0⟩ : yAK) r d = M := hM.symm
  dsimp only at a2
  rw [e2] at a2
  have a3 := step_wrote (a := ⟨s, ⟨n, cmd, 2, i, ⟨(recAt r d).Inst, M, (recAt r d).Bal, (recAt r d).Val⟩, T0⟩, t, d⟩) hL h (by show (0 : Int) ≤ n; omega) (by show (n : Int) < N; omega) (.inl rfl) hmay
  refine .trans (.step a1 (.step a2 (.one a3))) ?_
  refine reads (s := s.set (1 + (N : Int) + (n : Int)).toNat (recB ⟨(recAt r d).Inst, M, (recAt r d).Bal, (recAt r d).Val⟩)) hL (h.set _ (by have := (recB_len hmay).1; omega)) hn (.inl rfl) N 0 i _ (by omega) fun m _ h2 h3 => ?_
  rw [set_ne (by omega) (by omega)]
  exact hR m h2 h3
theorem half2 (hL : 200000 < L) (h : PGeo x N s) (hn : n < N) {i : Int} {T0 : yAG} {o2 : yAN}
    (hR : ∀ m, m < N → m ≠ n → RecIs (s.getD (1 + (N : Int) + (m : Int)).toNat noS) (R m)) (hmay : MayR o2) :
    PRuns L x N n (1 + rst n N 0) ⟨s, ⟨n, cmd, 4, i, o2, T0⟩, t, d⟩ ⟨s.set (1 + (N : Int) + (n : Int)).toNat (recB o2), pNext N ⟨n, cmd, 5, i, o2, rdT R n N 0 (tBegin o2 T0.Seen)⟩ N, t, d⟩ := by
  obtain ⟨n1, n2, l8, l512, s1, s16, sl, hl⟩ := h.bd
  have a3 := step_wrote (a := ⟨s, ⟨n, cmd, 4, i, o2, T0⟩, t, d⟩) hL h (by show (0 : Int) ≤ n; omega) (by show (n : Int) < N; omega) (.inr rfl) hmay
  refine .trans (.one a3) ?_
  refine reads (s := s.set (1 + (N : Int) + (n : Int)).toNat (recB o2)) hL (h.set _ (by have := (recB_len hmay).1; omega)) hn (.inr rfl) N 0 i _ (by omega) fun m _ h2 h3 => ?_
  rw [set_ne (by omega) (by omega)]
  exact hR m h2 h3
end
theorem rowsNm_cs (l : List yAF) : rowsNm (l.map yAF.cs) = true := List.all_eq_true.2 fun r hr => by
  obtain ⟨a, _, rfl⟩ := List.mem_map.1 hr
  rfl
theorem r12Read {L : Nat} [BigL L] {c : yAF} (h : yFz L (mkS (cmdL c)) = some (c, 0, ())) : yDo L (secC c) = some (c, mkS (cmdL c), true, 0, ()) := by
  have hp := secC_pos c
  have hl := secC_len c
  have hO : yI9 L 5 (secC c) = some (mkS (cmdL c), 0, ()) := by
    obtain ⟨x, h1, h2, h3⟩ := sealB5 c
    rw [rOf_eq hL3]
    unfold secC
    rw [h2, mkS_l, ofR_seal (by omega) h1]
  unfold yDo yJA
  rw [ne_noS hp, cond_false, hO, bindO_s]
  dsimp only
  rw [show ((0 : Int) != 0) = false from rfl, cond_false, h, bindO_s]
  rfl
theorem r12Read_no {L : Nat} [BigL L] : yDo L noS = some (yAF.z, noS, false, 0, ()) := by
  unfold yDo yJA
  rw [beq_self_eq_true]; rfl
set_option maxHeartbeats 1000000 in
theorem r12Row {L : Nat} [BigL L] {l : List ByteArray} {cs : List yAF} (hL : 200000 < L) (hl : l.length ≤ 1000) (hc : cs.length ≤ l.length) (hat : ∀ i (h : i < cs.length) (h' : i < l.length), l[i] = secC cs[i]) (hend : ∀ h : cs.length < l.length, l[cs.length] = noS)
    (hR : ∀ c ∈ cs, yFz L (mkS (cmdL c)) = some (c, 0, ())) : yLV L (l.map txV) = some (cs.map yAF.cs, 0, ()) := by
  have H := loop2_run (α := List (List V) × Int × Unit) (F := yDQ (yDo L)) (fun s => ∃ j : Nat, j ≤ cs.length ∧ s.1 = l.map txV ∧ s.2.1 = (cs.take j).map yAF.cs ∧ s.2.2.1 = j) (fun s => l.length - s.2.2.1.toNat) (fun a => a.1 = cs.map yAF.cs) (fun b => b.1 = cs.map yAF.cs ∧ b.2.1 = 0) (fun s hs => by
    obtain ⟨s1, s2, s3, s4⟩ := s
    obtain ⟨j, hj, rfl, rfl, rfl⟩ := hs
    have hlt : (cs.take j).length = j := by rw [List.length_take]; omega
    by_cases h1 : j < cs.length
    · have hjl : j < l.length := by omega
      refine .inl ⟨(l.map txV, (cs.take (j + 1)).map yAF.cs, ((j + 1 : Nat) : Int), ()), ⟨j + 1, h1, rfl, rfl, rfl⟩, by dsimp only; omega, fun kn ka kb => ?_⟩
      have hrd := r12Read (hR _ (List.getElem_mem h1))
      unfold yDQ
      dsimp only
      rw [bif_t (decide_eq_true (by rw [List.length_map]; omega)), gI_tx (by omega) (by omega), Int.toNat_natCast, aS_tx hjl, hat j h1 hjl, hrd, bindO_s, show ((0 : Int) != 0) = false from rfl, cond_false, Bool.not_true, cond_false]
      have e : (cs.take j).map yAF.cs ++ [yAF.cs cs[j]] = (cs.take (j + 1)).map yAF.cs := by rw [List.take_succ_eq_append_getElem h1, List.map_append]; rfl
      have e' : (cs.take j).map yAF.cs ++ [[V.int .i8 cs[j].Kind, V.int .i64 cs[j].By, V.int .i64 cs[j].Serial, V.int .i64 cs[j].Dead, V.int .i64 cs[j].Was, V.int .i64 cs[j].Span.Lo, V.int .i64 cs[j].Span.Hi, V.int .i8 cs[j].Mode]] = (cs.take (j + 1)).map yAF.cs := e
      have hl2 : ((cs.take (j + 1)).map yAF.cs).length = j + 1 := by rw [List.length_map, List.length_take]; omega
      rw [e', List.length_map, hlt, Nat.zero_add, gd_t (Nat.beq_refl _), gM_t (by omega) (by omega), gA_t hl2.symm (by omega) (rowsNm_cs _), w64_t (by omega) (by omega)]
      rfl
    · obtain rfl : j = cs.length := by omega
      rw [List.take_length]
      by_cases h2 : cs.length < l.length
      · refine .inr (.inr ⟨(cs.map yAF.cs, 0, ()), ⟨rfl, rfl⟩, fun kn ka kb => ?_⟩)
        unfold yDQ
        dsimp only
        rw [bif_t (decide_eq_true (by rw [List.length_map]; omega)), gI_tx (by omega) (by omega), Int.toNat_natCast, aS_tx h2, hend h2, r12Read_no, bindO_s, show ((0 : Int) != 0) = false from rfl, cond_false, Bool.not_false, cond_true, List.length_map, Nat.zero_add, gF_t (by rw [List.length_map]; omega) (by omega) (rowsNm_cs _)]
        rw [show (cs.map yAF.cs).take cs.length = cs.map yAF.cs from List.take_of_length_le (by rw [List.length_map]; exact Nat.le_refl _)]
      · refine .inr (.inl ⟨(cs.map yAF.cs, ()), rfl, fun kn ka kb => ?_⟩)
        unfold yDQ
        dsimp only
        rw [bif_f (decide_eq_false (by rw [List.length_map]; omega)), gA_t rfl (by rw [List.length_map]; omega) (rowsNm_cs _)]) L (l.map txV, [], 0, ()) ⟨0, Nat.zero_le _, rfl, rfl, rfl⟩ (by dsimp only; omega)
  unfold yLV yMM
  rcases H with ⟨a, h1, h2⟩ | ⟨b, ⟨h1, h3⟩, h2⟩
  · rw [h2, h1, List.length_map, Nat.zero_add, gF_t (by rw [List.length_map]; omega) (by omega) (rowsNm_cs _)]
    rw [show (cs.map yAF.cs).take cs.length = cs.map yAF.cs from List.take_of_length_le (by rw [List.length_map]; exact Nat.le_refl _)]
  · rw [h2, h1, h3]
theorem r12Log {L N : Nat} [BigL L] {x : yAW} {s : List ByteArray} {cs : List yAF} (hL : 200000 < L) (h : PGeo x N s) (hc : (cs.length : Int) ≤ x.Log) (hat : ∀ i (h : i < cs.length), s.getD (1 + 2 * N + i) noS = secC cs[i]) (hend : (cs.length : Int) < x.Log → s.getD (1 + 2 * N + cs.length) noS = noS)
    (hR : ∀ c ∈ cs, yFz L (mkS (cmdL c)) = some (c, 0, ())) : yLU L x (dvF s N) = some (cs.map yAF.cs, 0, ()) := by
  obtain ⟨n1, n2, l8, l512, s1, s16, sl, hl⟩ := h.bd
  have hC : yBh L (dvF s N) = some 0 := rchk_eq h.ok (cAll_ok N) n1 n2 BigL.h (Nat.le_refl _)
  have hT : yBg L x = some (geoOf x).total := by rw [rTotal_eq]; unfold Geo.totalS; rw [if_pos h.may]
  have hG : yJm L x 0 = some (1 + 2 * (N : Int)) := by
    rw [rLog_eq]
    unfold Geo.logS
    rw [if_pos ⟨h.may, by omega, by show (0 : Int) < x.Log; omega⟩]
    show some (1 + 2 * x.Nodes + 0) = _
    rw [h.n, Int.add_zero]
  have hS : (dvF s N).S = s.map txV := rfl
  obtain ⟨lg, hlg⟩ := Int.eq_ofNat_of_zero_le (show 0 ≤ x.Log by omega)
  unfold yLU yML
  rw [rMay_eq, h.may, bindO_s, Bool.not_true, cond_false, hC, bindO_s, show ((0 : Int) != 0) = false from rfl, cond_false, hT, bindO_s, hS, List.length_map, h.len, bif_f (show ((geoOf x).total != (geoOf x).total) = false from bne_self_eq_false _), hG, bindO_s, ← h.len, hlg, w64_t (by omega) (by omega), gd_t (decide_eq_true (by omega)), gd_t (decide_eq_true (by omega)), gd_t (decide_eq_true (by omega)), gd_t (decide_eq_true (by omega)), gd_t (rows_sz 1 fun _ => rfl)]
  rw [show (1 + 2 * (N : Int)).toNat = 1 + 2 * N by omega, show (1 + 2 * (N : Int) + (lg : Int)).toNat - (1 + 2 * N) = lg by omega, ← List.map_drop, ← List.map_take]
  have hlen : ((s.drop (1 + 2 * N)).take lg).length = lg := by rw [List.length_take, List.length_drop]; omega
  have hget : ∀ i (h : i < ((s.drop (1 + 2 * N)).take lg).length), ((s.drop (1 + 2 * N)).take lg)[i] = s.getD (1 + 2 * N + i) noS := fun i h => by
    rw [hlen] at h
    rw [List.getElem_take, List.getElem_drop, List.getD_eq_getElem?_getD, List.getElem?_eq_getElem (by omega)]; rfl
  rw [r12Row hL (by omega) (by omega) (fun i h1 h2 => by rw [hget i h2]; exact hat i h1) (fun h1 => by rw [hget _ h1]; exact hend (by omega)) hR]
  rfl
end Go.Proofs.YtakljpcmbpaeaaaGreat

namespace Go.Proofs.YtakljpcmbpaeaaaGreat
open Go.RowKit

section
variable {L N : Nat} [BigL L] {x : yAW} {s : List ByteArray} {t : yAJ} {d : Int} {n : Nat} {R : Nat → yAN} {cmd : ByteArray} {own : yAF} {r : yAN}
theorem attempt (hL : 200000 < L) (h : PGeo x N s) (hn : n < N) {i : Int} {own0 : yAN} {T0 : yAG} (hd0 : 0 ≤ d) (hd : d < x.Log) (hlog : s.getD (1 + 2 * (N : Int) + d).toNat noS = noS) (hrec : RecIs (s.getD (1 + (N : Int) + (n : Int)).toNat noS) r)
    (hR : ∀ m, m < N → m ≠ n → RecIs (s.getD (1 + (N : Int) + (m : Int)).toNat noS) (R m)) (ho : yAl L cmd = some (own, 0, ())) (hsp : ¬ ((own.Kind = 0 ∨ own.Kind = 2) ∧ x.Log - 4 * x.Slots ≤ d)) {M : Int} (hM : M = nextR n (max (max 0 (recAt r d).Mbal) T0.Seen)) (hM0 : M ≠ 0)
    {o1 : yAN} (ho1 : o1 = ⟨d, M, (recAt r d).Bal, (recAt r d).Val⟩) (hi : (recAt r d).Inst = d) (hm1 : MayR o1) {T1 : yAG} (hT1 : T1 = rdT R n N 0 (tBegin o1 T0.Seen)) (hs1 : tStops T1 = false) {v : ByteArray} (hv : v = if 0 < T1.Best then T1.Val else cmd)
    (hm2 : MayR ⟨d, M, M, v⟩) (hs2 : tStops (rdT R n N 0 (tBegin ⟨d, M, M, v⟩ T1.Seen)) = false) :
    PRuns L x N n (3 + rst n N 0 + (1 + rst n N 0)) ⟨s, ⟨n, cmd, 0, i, own0, T0⟩, t, d⟩
      ⟨(s.set (1 + (N : Int) + (n : Int)).toNat (recB o1)).set (1 + (N : Int) + (n : Int)).toNat (recB ⟨d, M, M, v⟩), ⟨n, cmd, 6, N, ⟨d, M, M, v⟩, rdT R n N 0 (tBegin ⟨d, M, M, v⟩ T1.Seen)⟩, t, d⟩ := by
  have h1 := half1 (R := R) (t := t) (i := i) (own0 := own0) (T0 := T0) hL h hn hd0 hd hlog hrec hR ho hsp hM hM0 (by rw [hi, ← ho1]; exact hm1)
  rw [hi, ← ho1, ← hT1, pNext_end hn, hs1, if_neg (by simp), if_neg (by omega)] at h1
  refine h1.trans ?_
  have e1 : o1.Inst = d := by rw [ho1]
  have e2 : o1.Mbal = M := by rw [ho1]
  rw [e1, e2, ← hv]
  have h2 := half2 (R := R) (t := t) (d := d) (i := N) (T0 := T1) (cmd := cmd) hL (h.set (1 + (N : Int) + (n : Int)).toNat (b := recB o1) (by have := (recB_len hm1).1; omega)) hn (fun m h2 h3 => by
    rw [set_ne (by omega) (by omega)]
    exact hR m h2 h3) hm2
  rw [pNext_end hn, hs2, if_neg (by simp), if_pos rfl] at h2
  exact h2
theorem stopped (hL : 200000 < L) (h : PGeo x N s) (hn : n < N) {i : Int} {own0 : yAN} {T0 : yAG} (hd0 : 0 ≤ d) (hd : d < x.Log) (hlog : s.getD (1 + 2 * (N : Int) + d).toNat noS = noS) (hrec : RecIs (s.getD (1 + (N : Int) + (n : Int)).toNat noS) r)
    (hR : ∀ m, m < N → m ≠ n → RecIs (s.getD (1 + (N : Int) + (m : Int)).toNat noS) (R m)) (ho : yAl L cmd = some (own, 0, ())) (hsp : ¬ ((own.Kind = 0 ∨ own.Kind = 2) ∧ x.Log - 4 * x.Slots ≤ d)) {M : Int} (hM : M = nextR n (max (max 0 (recAt r d).Mbal) T0.Seen)) (hM0 : M ≠ 0)
    {o1 : yAN} (ho1 : o1 = ⟨d, M, (recAt r d).Bal, (recAt r d).Val⟩) (hi : (recAt r d).Inst = d) (hm1 : MayR o1) {T1 : yAG} (hT1 : T1 = rdT R n N 0 (tBegin o1 T0.Seen)) (hs1 : tStops T1 = true) :
    PRuns L x N n (3 + rst n N 0) ⟨s, ⟨n, cmd, 0, i, own0, T0⟩, t, d⟩ ⟨s.set (1 + (N : Int) + (n : Int)).toNat (recB o1), ⟨n, cmd, 0, 0, yAN.z, ⟨0, 0, 0, noS, T1.Seen, false, false⟩⟩, t, d⟩ := by
  have h1 := half1 (R := R) (t := t) (i := i) (own0 := own0) (T0 := T0) hL h hn hd0 hd hlog hrec hR ho hsp hM hM0 (by rw [hi, ← ho1]; exact hm1)
  rw [hi, ← ho1, ← hT1, pNext_end hn, hs1, if_pos rfl] at h1
  exact h1
end
theorem mayR_no {i m : Int} (h0 : 0 ≤ i) (h1 : i ≤ 512) (h2 : 0 ≤ m) (h3 : m ≤ 1099511627776) : MayR ⟨i, m, 0, noS⟩ := by
  show mayB i m 0 [] = true
  unfold mayB betB
  rw [decide_eq_true ⟨h0, h1⟩, decide_eq_true ⟨h2, h3⟩, decide_eq_true ⟨Int.le_refl 0, h2⟩]
  rfl
theorem mayR_val {i m : Int} {c : yAF} (h0 : 0 ≤ i) (h1 : i ≤ 512) (h2 : 0 < m) (h3 : m ≤ 1099511627776) : MayR ⟨i, m, m, mkS (cmdL c)⟩ := by
  show mayB i m m (mkS (cmdL c)).data.toList = true
  have hl := cmdL_len c
  have ht := cmdT_len c
  rw [mkS_l]
  unfold mayB betB
  rw [decide_eq_true ⟨h0, h1⟩, decide_eq_true ⟨by omega, h3⟩, decide_eq_true ⟨by omega, Int.le_refl m⟩, show decide ((cmdL c).length ≤ 64) = true from decide_eq_true (by omega), show (m == 0) = false from beq_eq_false_iff_ne.2 (by omega)]
  cases hc : cmdL c with
  | nil => rw [hc] at hl; simp at hl; omega
  | cons _ _ => rfl
def cN (n : Nat) : yAF := ⟨0, 17 * (n : Int) + 16, 1, 0, 0, ⟨0, 0⟩, 0⟩
theorem cN_may {n : Nat} (h : n ≤ 16) : MayC (cN n) := ⟨⟨by show (16 : Int) ≤ 17 * (n : Int) + 16; omega, by show 17 * (n : Int) + 16 ≤ _; omega⟩, Int.le_refl 1, by show (1 : Int) ≤ _; omega, .inl ⟨.inl rfl, rfl, rfl, rfl, rfl, rfl⟩⟩
abbrev cb (n : Nat) : ByteArray := mkS (cmdL (cN n))
theorem next0 {n : Nat} (h : n ≤ 15) : nextR n (max (max 0 0) 0) = 16 + n := by
  rw [show max (max (0 : Int) 0) 0 = 0 by omega]
  unfold nextR
  rw [if_pos ⟨by omega, by omega, by omega⟩, if_pos (.inr (by omega)), if_pos (by omega)]
  omega
theorem get_set {s : List ByteArray} {i : Int} {b : ByteArray} (h0 : 0 ≤ i) (h : i < s.length) : (s.set i.toNat b).getD i.toNat noS = b := by
  rw [List.getD_eq_getElem?_getD, List.getElem?_set_self (by omega)]; rfl
theorem get_ne {s : List ByteArray} {i j : Int} {b : ByteArray} (hi : 0 ≤ i) (hj : 0 ≤ j) (h : i ≠ j) : (s.set i.toNat b).getD j.toNat noS = s.getD j.toNat noS := by
  rw [List.getD_eq_getElem?_getD, List.getElem?_set_ne (by omega), ← List.getD_eq_getElem?_getD]
theorem rst_n {n N : Nat} (h : n < N) : rst n N 0 + 1 = N := by
  have := rst_all n N 0
  rw [if_pos (by omega)] at this
  exact this
def RA (a : Nat) : Nat → yAN := fun m => if m = a then ⟨0, 16 + a, 16 + a, cb a⟩ else yAN.z
section
variable {L N : Nat} [BigL L] {x : yAW} {s : List ByteArray} {t : yAJ}
theorem keepA (hL : 200000 < L) (h : PGeo x N s) {a : Nat} (ha : a < N) (hN : 2 ≤ N) (hb : ∀ k : Nat, 1 ≤ k → (k : Int) < 1 + 2 * (N : Int) + x.Log → s.getD k noS = noS) :
    ∃ p, PRuns L x N a (N + 3) ⟨s, ⟨a, cb a, 0, 0, yAN.z, yAG.z⟩, t, 0⟩ ⟨(s.set (1 + (N : Int) + (a : Int)).toNat (recB ⟨0, 16 + a, 0, noS⟩)).set (1 + (N : Int) + (a : Int)).toNat (recB ⟨0, 16 + a, 16 + a, cb a⟩), p, t, 0⟩ := by
  obtain ⟨n1, n2, l8, l512, s1, s16, sl, hl⟩ := h.bd
  have hz : ∀ m, m < N → m ≠ a → RecIs (s.getD (1 + (N : Int) + (m : Int)).toNat noS) yAN.z := fun m h1 h2 => .inl ⟨hb _ (by omega) (by omega), rfl⟩
  have hk1 := half1 (R := fun _ => yAN.z) (s := s) (t := t) (d := 0) (n := a) (cmd := cb a) (own := cN a) (r := yAN.z) (i := 0) (own0 := yAN.z) (T0 := yAG.z) (M := 16 + a) hL h ha (Int.le_refl 0) (by omega) (hb _ (by omega) (by omega)) (.inl ⟨hb _ (by omega) (by omega), rfl⟩) hz (cRead_enc hL10 (cN_may (by omega))) (by
    rintro ⟨_, q⟩; omega) (by
    show (16 : Int) + a = nextR a (max (max 0 0) 0)
    rw [next0 (by omega)]) (by omega) (mayR_no (Int.le_refl 0) (by show (0 : Int) ≤ 512; omega) (by omega) (by omega))
  have hQ : (rdT (fun _ => yAN.z) a N 0 (tBegin ⟨0, 16 + a, 0, noS⟩ 0)).Best = 0 ∧ tStops (rdT (fun _ => yAN.z) a N 0 (tBegin ⟨0, 16 + a, 0, noS⟩ 0)) = false ∧ (rdT (fun _ => yAN.z) a N 0 (tBegin ⟨0, 16 + a, 0, noS⟩ 0)).Inst = 0 ∧ (rdT (fun _ => yAN.z) a N 0 (tBegin ⟨0, 16 + a, 0, noS⟩ 0)).Mbal = 16 + a :=
    rdT_inv (Q := fun T => T.Best = 0 ∧ tStops T = false ∧ T.Inst = 0 ∧ T.Mbal = 16 + a) N 0 (tBegin ⟨0, 16 + a, 0, noS⟩ 0) (fun m _ _ _ T hT => by
      obtain ⟨i, mb, bs, v, sn, ah, lo⟩ := T
      obtain ⟨rfl, q2, rfl, rfl⟩ := hT
      refine ⟨?_, ?_, rfl, rfl⟩
      · unfold tCount
        dsimp only
        rw [if_neg (by rintro ⟨_, q⟩; exact absurd q (Int.lt_irrefl 0))]
      · show ((ah || decide ((0 : Int) < 0)) || (lo || (decide ((0 : Int) = 0) && decide (16 + (a : Int) < 0)))) = false
        have q2 : (ah || lo) = false := q2
        rw [decide_eq_false (show ¬ 16 + (a : Int) < 0 by omega)]
        revert q2
        cases ah <;> cases lo <;> decide) ⟨rfl, rfl, rfl, rfl⟩
  have e0 : (recAt yAN.z 0) = yAN.z := rfl
  rw [e0] at hk1
  generalize hT : rdT (fun _ => yAN.z) a N 0 (tBegin ⟨0, 16 + a, 0, noS⟩ 0) = T1 at *
  have hT' : rdT (fun _ => yAN.z) a N 0 (tBegin ⟨yAN.z.Inst, 16 + (a : Int), yAN.z.Bal, yAN.z.Val⟩ yAG.z.Seen) = T1 := hT
  obtain ⟨q1, q2, q3, q4⟩ := hQ
  rw [hT', pNext_end ha, q2, if_neg (by simp), if_neg (by omega), q1, if_neg (by omega)] at hk1
  have hst := step_wrote (L := L) (x := x) (N := N) (a := ⟨s.set (1 + (N : Int) + (a : Int)).toNat (recB ⟨0, 16 + a, 0, noS⟩), ⟨a, cb a, 4, N, ⟨0, 16 + a, 16 + a, cb a⟩, T1⟩, t, 0⟩) hL (h.set _ (by have := (recB_len (mayR_no (Int.le_refl 0) (by show (0 : Int) ≤ 512; omega) (show (0 : Int) ≤ 16 + a by omega) (by omega))).1; omega)) (by show (0 : Int) ≤ a; omega) (by show (a : Int) < N; omega) (.inr rfl) (mayR_val (Int.le_refl 0) (by show (0 : Int) ≤ 512; omega) (by omega) (by omega))
  have hr := rst_n ha
  refine ⟨pWrote N ⟨a, cb a, 4, N, ⟨0, 16 + a, 16 + a, cb a⟩, T1⟩, ?_⟩
  rw [show N + 3 = 3 + rst a N 0 + 1 by omega]
  exact hk1.trans (.one hst)
theorem tc_best_no {t : yAG} {r : yAN} (h : ¬ (r.Inst = t.Inst ∧ t.Best < r.Bal)) : (tCount t r).Best = t.Best := if_neg h
theorem tc_val_no {t : yAG} {r : yAN} (h : ¬ (r.Inst = t.Inst ∧ t.Best < r.Bal)) : (tCount t r).Val = t.Val := if_neg h
theorem tc_best_yes {t : yAG} {r : yAN} (h : r.Inst = t.Inst ∧ t.Best < r.Bal) : (tCount t r).Best = r.Bal := if_pos h
theorem tc_val_yes {t : yAG} {r : yAN} (h : r.Inst = t.Inst ∧ t.Best < r.Bal) : (tCount t r).Val = r.Val := if_pos h
theorem calm {R : Nat → yAN} {n N : Nat} {d M B0 B : Int} {v0 : ByteArray} (hR : ∀ m, m < N → m ≠ n → (R m).Inst ≤ d ∧ ((R m).Inst = d → (R m).Mbal ≤ M ∧ (R m).Bal ≤ B0) ∧ (R m).Mbal ≤ B) {T : yAG}
    (h1 : T.Inst = d) (h2 : T.Mbal = M) (h3 : T.Best = B0) (h4 : tStops T = false) (h5 : T.Val = v0) (h6 : T.Seen ≤ B) :
    (rdT R n N 0 T).Best = B0 ∧ tStops (rdT R n N 0 T) = false ∧ (rdT R n N 0 T).Val = v0 ∧ (rdT R n N 0 T).Seen ≤ B := by
  have := rdT_inv (R := R) (n := n) (Q := fun T => T.Inst = d ∧ T.Mbal = M ∧ T.Best = B0 ∧ tStops T = false ∧ T.Val = v0 ∧ T.Seen ≤ B) N 0 T (fun m _ hm hne T hT => by
    obtain ⟨i, mb, bs, v, sn, ah, lo⟩ := T
    obtain ⟨q1, q2, q3, q4, q5, q6⟩ := hT
    obtain ⟨r1, r2, r3⟩ := hR m (by omega) hne
    generalize R m = r at *
    obtain ⟨ri, rm, rb, rv⟩ := r
    dsimp only at *
    subst q1 q2 q3 q5
    have hno : ¬ (ri = i ∧ bs < rb) := fun q => by have := (r2 q.1).2; omega
    refine ⟨rfl, rfl, tc_best_no hno, ?_, tc_val_no hno, by show max sn rm ≤ B; omega⟩
    show ((ah || decide (i < ri)) || (lo || (decide (ri = i) && decide (mb < rm)))) = false
    have q4 : (ah || lo) = false := q4
    rw [decide_eq_false (show ¬ i < ri by omega)]
    by_cases he : ri = i
    · rw [decide_eq_false (show ¬ mb < rm by have := (r2 he).1; omega)]
      revert q4
      cases ah <;> cases lo <;> simp
    · rw [decide_eq_false he]
      revert q4
      cases ah <;> cases lo <;> simp) ⟨h1, h2, h3, h4, h5, h6⟩
  exact ⟨this.2.2.1, this.2.2.2.1, this.2.2.2.2.1, this.2.2.2.2.2⟩
theorem seenA {N a b : Nat} (ha : a < N) (hab : a ≠ b) {M S0 B : Int} (hB : S0 ≤ B) (hB1 : M ≤ B) (hB2 : 16 + (a : Int) ≤ B) (hM : 0 ≤ M) :
    let T1 := rdT (RA a) b N 0 (tBegin ⟨0, M, 0, noS⟩ S0)
    T1.Best = 16 + a ∧ T1.Val = cb a ∧ tStops T1 = decide (M < 16 + a) ∧ 16 + (a : Int) ≤ T1.Seen ∧ T1.Seen ≤ B := by
  have := rdT_hit (R := RA a) (n := b) (q := a) hab (Q := fun T => T.Inst = 0 ∧ T.Mbal = M ∧ T.Best = 0 ∧ tStops T = false ∧ T.Seen ≤ B)
    (Q' := fun T => T.Inst = 0 ∧ T.Mbal = M ∧ T.Best = 16 + a ∧ T.Val = cb a ∧ tStops T = decide (M < 16 + a) ∧ 16 + (a : Int) ≤ T.Seen ∧ T.Seen ≤ B) N 0 (tBegin ⟨0, M, 0, noS⟩ S0) (Nat.zero_le _) (by omega) (fun m _ _ _ hne T hT => by
    have e : RA a m = yAN.z := if_neg hne
    rw [e]
    obtain ⟨i, mb, bs, v, sn, ah, lo⟩ := T
    obtain ⟨rfl, rfl, rfl, q4, q5⟩ := hT
    dsimp only at *
    have hno : ¬ ((0 : Int) = 0 ∧ (0 : Int) < 0) := by omega
    refine ⟨rfl, rfl, tc_best_no hno, ?_, by show max sn 0 ≤ B; omega⟩
    show ((ah || decide ((0 : Int) < 0)) || (lo || (decide ((0 : Int) = 0) && decide (mb < 0)))) = false
    have q4 : (ah || lo) = false := q4
    rw [decide_eq_false (show ¬ mb < 0 by omega)]
    revert q4
    cases ah <;> cases lo <;> simp) (fun T hT => by
    have e : RA a a = ⟨0, 16 + a, 16 + a, cb a⟩ := if_pos rfl
    rw [e]
    obtain ⟨i, mb, bs, v, sn, ah, lo⟩ := T
    obtain ⟨rfl, rfl, rfl, q4, q5⟩ := hT
    dsimp only at *
    have hyes : ((0 : Int) = 0 ∧ (0 : Int) < 16 + a) := by omega
    refine ⟨rfl, rfl, tc_best_yes hyes, tc_val_yes hyes, ?_, by show _ ≤ max sn (16 + (a : Int)); omega, by show max sn (16 + (a : Int)) ≤ B; omega⟩
    show ((ah || decide ((0 : Int) < 0)) || (lo || (decide ((0 : Int) = 0) && decide (mb < 16 + (a : Int))))) = decide (mb < 16 + (a : Int))
    have q4 : (ah || lo) = false := q4
    revert q4
    cases ah <;> cases lo <;> simp) (fun m _ _ _ hne T hT => by
    have e : RA a m = yAN.z := if_neg hne
    rw [e]
    obtain ⟨i, mb, bs, v, sn, ah, lo⟩ := T
    obtain ⟨rfl, rfl, rfl, rfl, q4, q5, q6⟩ := hT
    dsimp only at *
    have hno : ¬ ((0 : Int) = 0 ∧ (16 + (a : Int)) < 0) := by omega
    refine ⟨rfl, rfl, tc_best_no hno, tc_val_no hno, ?_, by show _ ≤ max sn 0; omega, by show max sn 0 ≤ B; omega⟩
    show ((ah || decide ((0 : Int) < 0)) || (lo || (decide ((0 : Int) = 0) && decide (mb < 0)))) = decide (mb < 16 + (a : Int))
    have q4 : (ah || lo) = decide (mb < 16 + (a : Int)) := q4
    rw [decide_eq_false (show ¬ mb < 0 by omega), ← q4]
    cases ah <;> cases lo <;> simp) ⟨rfl, rfl, rfl, rfl, by show max S0 M ≤ B; omega⟩
  exact ⟨this.2.2.1, this.2.2.2.1, this.2.2.2.2.1, this.2.2.2.2.2.1, this.2.2.2.2.2.2⟩
end
end Go.Proofs.YtakljpcmbpaeaaaGreat
