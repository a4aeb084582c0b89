/- Known functions by hand: crc.Sum, num.Put, slices.Clone. -/
import Derived.Test.YtakljpcmbpaeaaaGreatPaxosKeepsM34
import Derived.Test.YtakljpcmbpaeaaaGreatPaxosKeepsM01
import Derived.Test.YtakljpcmbpaeaaaGreatPaxosKeepsM35
set_option linter.unusedSimpArgs false
set_option linter.unusedVariables false
namespace Go.Proofs.YtakljpcmbpaeaaaGreat
open Go.RowKit

def crc_Sum (L : Nat) (b : List (List V)) : Option Int := bif b.all byRB && Nat.ble b.length 1000000000 then some (crcSum (b.map byRD) : Int) else none
theorem crc_Sum_c (L : Nat) : Ctr Tryz.prog 240 false (caC cdR caN) (cdI .i64) (fun a => crc_Sum L a.1) := by
  rintro ⟨b, _⟩ r hp h
  obtain ⟨h1, h2⟩ := bif_some h
  cases h2
  obtain ⟨h1, h3⟩ := and_tt' h1
  have e1 : (b.map byRD).map byV = b := rows_h (fun r hr => byRB_h hr) h1
  refine ⟨?_, .int _ _, nofun⟩
  show Con Tryz.prog 240 [.sl b false] _
  rw [← e1, rows_d byRD_v]
  refine con_of_calls Tryz.func240 (by decide) rfl (.int _ _) fun w S vargs hS hv => ?_
  obtain ⟨u1, us, rfl, q1, hv⟩ := vrs_cons hv
  obtain rfl := vrs_nil hv
  obtain ⟨A, c, rfl, hr⟩ := vr_by hS q1
  refine (Sum_any A c _ w (by rw [List.length_map]; exact Nat.le_of_ble_eq_true h3) hr).mono ?_
  rintro e w' ⟨rfl, hB⟩
  exact ⟨_, rfl, .int _ _, hB⟩
theorem rcon_own {P : Program} {i : FuncId} {args : List V} {es : List (List V)} {y : V} {e : TypeId} (hc : Callable P i) (hy : Plain y) (hes : ∀ r ∈ es, ∀ x ∈ r, Plain x) (hrow : ∀ r ∈ es, r.length = 1)
    (h : ∀ (w : World) (S : Stab) (vargs : List Value), (∀ g i, S g i → g < w.heap.size) → VRs noMu S w args vargs → Calls P i vargs.toArray w fun en w' => ∃ v u xs, en = .returned (.tuple #[v, u]) ∧ w'.ownsRow w.heap.size e 1 v es.length xs ∧
      (∀ i (hi : i < es.length) j (hj : j < es[i].length), ∃ q, xs[i * 1 + j]? = some q ∧ q.oneCell' = true ∧ VR noMu S w' es[i][j] q) ∧ VR noMu S w' y u ∧ Below w.heap.size w w') : RCon P .t i args [.w es 1, .p y] := by
  refine ⟨hc, ?_, by show (1 : Nat) ≤ 1000; omega, fun w S vargs hS hv => (h w S vargs hS hv).mono ?_⟩
  · intro x hx
    rcases List.mem_cons.1 hx with rfl | hx
    · exact hes
    · rcases List.mem_cons.1 hx with rfl | hx
      · exact hy
      · cases hx
  · rintro en w' ⟨v, u, xs, rfl, ⟨hlen, hown⟩, hx, hu, hB⟩
    have hget : ∀ b k, (nG [.w es 1, .p y]).get b = some k → b = 1 ∧ k = ⟨es, 1, 0⟩ := fun b k hk => by
      rw [nG_get (by show (1 : Nat) ≤ 1000; omega)] at hk
      split at hk
      · rename_i hb
        have : rN [AV0.w es 1, .p y] = 2 := rfl
        obtain rfl : b = 1 := by omega
        injection hk with hk
        exact ⟨rfl, hk.symm⟩
      · cases hk
    have fin : ∀ L : Loc, L.sz = 1 → L.mp = false → BR (fun x => if x = 1 then some L else none) S w' ⟨es, 1, 0⟩ L → (0 < L.lim → w.heap.size ≤ L.g ∧ L.g < w'.heap.size) →
        VR (fun x => if x = 1 then some L else none) S w' (.bs 1 0 es.length es.length) v →
        ∃ v' mu' S', Ending.returned (.tuple #[v, u]) = .returned v' ∧ VR mu' S' w' (rkV .t (av0s [.w es 1, .p y] 1).1) v' ∧ SR mu' S' (fun g => w.heap.size ≤ g) ⟨(nG [.w es 1, .p y]).get, rN [.w es 1, .p y]⟩ w' ∧ (∀ g i, S g i → S' g i) ∧ (∀ g i, S' g i → S g i ∨ w.heap.size ≤ g) ∧ Below w.heap.size w w' := fun L h1 h2 h3 h4 h5 => by
      refine ⟨_, fun x => if x = 1 then some L else none, S, rfl, ?_, ⟨fun b k hk => ?_, fun b b' k k' L1 L2 hne hk hk' => absurd ((hget b k hk).1.trans (hget b' k' hk').1.symm) hne, fun b k L1 hk hL g i he hs => ?_, fun g i hs => Nat.lt_of_lt_of_le (hS g i hs) hB.size⟩, fun _ _ h => h, fun _ _ h => .inl h, hB⟩
      · refine VR.tup [_, _] [v, u] rfl fun j hj hj' => ?_
        match j, hj with
        | 0, _ => exact h5
        | 1, _ => exact hu.mono (fun b L h => by cases h) (fun _ _ h => h) (fun _ _ _ => rfl)
      · obtain ⟨rfl, rfl⟩ := hget b k hk
        exact ⟨L, if_pos rfl, h3, fun hp => h4 (hp.elim id fun h => by rw [h2] at h; cases h)⟩
      · obtain ⟨rfl, rfl⟩ := hget b k hk
        rw [if_pos rfl] at hL
        injection hL with hL
        subst hL
        have hp : 0 < L.lim := he.rg.pos
        have := (h4 hp).1
        have := hS g i hs
        have := he.1
        omega
    rcases hown with ⟨rfl, h0⟩ | ⟨g, cap, cur, rfl, hb, hh, hnc, hcap, hsz, htk⟩
    · have : es = [] := List.length_eq_zero_iff.1 h0
      subst this
      refine fin ⟨0, 0, 1, 0, false⟩ rfl rfl ⟨rfl, fun _ => Nat.le_refl _, Nat.le_refl _, fun i hi => absurd hi (by simp), fun i h1 h2 => ?_, fun _ i hi => absurd hi (by simp), fun h => by cases h⟩ (fun h => absurd h (by simp)) (.bs 1 0 0 0 ⟨0, 0, 1, 0, false⟩ none 0 (if_pos rfl) (Nat.le_refl _) (Nat.le_refl _) (.inl rfl) rfl)
      dsimp only at h1 h2
      omega
    · have hg : g < w'.heap.size := by
        rcases Nat.lt_or_ge g w'.heap.size with h | h
        · exact h
        · rw [Array.getElem?_eq_none h] at hh; cases hh
      have hcell : ∀ k, w'.cell? ⟨g, k, none⟩ = cur[k]? := fun k => by
        unfold World.cell?
        simp [hh]
      have hfz : ∀ k, w'.frozen? ⟨g, k, none⟩ = false := fun k => by
        unfold World.frozen?
        simp [hh]
      refine fin ⟨g, 0, 1, cap, false⟩ rfl rfl ⟨rfl, fun _ => hnc, Nat.zero_le _, fun i hi => hrow _ (List.getElem_mem hi), fun i h1 h2 => ?_, fun _ i hi j hj => ?_, fun h => by cases h⟩ (fun _ => ⟨hb, hg⟩) (.bs 1 0 _ _ ⟨g, 0, 1, cap, false⟩ _ cap (if_pos rfl) (Nat.le_refl _) hnc (.inr ⟨rfl, by show 0 + cap ≤ cap; omega⟩) rfl)
      · dsimp only at h1 h2
        refine ⟨?_, hfz i⟩
        rw [hcell]
        exact ⟨_, Array.getElem?_eq_getElem (by omega)⟩
      · obtain ⟨q, e1, e2, e3⟩ := hx i hi j hj
        refine ⟨q, ?_, e2, e3.mono (fun b L h => by cases h) (fun _ _ h => h) (fun _ _ _ => rfl)⟩
        show w'.cell? ⟨g, 0 + i * 1 + j, none⟩ = _
        rw [hcell, Nat.zero_add, ← Array.getElem?_toList]
        rw [← htk] at e1
        have hlt : i * 1 + j < es.length * 1 := by
          rcases Nat.lt_or_ge (i * 1 + j) (es.length * 1) with h | h
          · exact h
          · rw [List.getElem?_take, if_neg (by omega)] at e1; cases e1
        rwa [List.getElem?_take, if_pos hlt] at e1
def num_Put (L : Nat) (b : List (List V)) (n : Int) (l : List (List V)) : Option (List (List V) × Int × Unit) :=
  bif b.all byRB && (l.all inRB && Nat.ble (b.length + 6 * l.length) 1000000000) then some ((putR (b.map byRD) n (l.map inRD)).1.map byV, (putR (b.map byRD) n (l.map inRD)).2, ()) else none
theorem num_Put_c (L : Nat) : CtrR Tryz.prog .t 177 (caC cdR (caC cI (caC cdR caN))) (zW 1 (zP cI zN)).cz (fun a => num_Put L a.1 a.2.1 a.2.2.1) := by
  rintro ⟨b, n, l, _⟩ r hp h
  obtain ⟨h1, h2⟩ := bif_some h
  cases h2
  obtain ⟨h1, h3⟩ := and_tt' h1
  obtain ⟨h3, h4⟩ := and_tt' h3
  have e1 : (b.map byRD).map byV = b := rows_h (fun r hr => byRB_h hr) h1
  have e2 : (l.map inRD).map inV = l := rows_h (fun r hr => inRB_h hr) h3
  show RCon Tryz.prog .t 177 [.sl b false, .int .i64 n, .sl l false] [.w ((putR (b.map byRD) n (l.map inRD)).1.map byV) 1, .p (.int .i64 (putR (b.map byRD) n (l.map inRD)).2)]
  have hbd : (b.map byRD).length + 6 * (l.map inRD).length ≤ 1000000000 := by rw [List.length_map, List.length_map]; exact Nat.le_of_ble_eq_true h4
  generalize b.map byRD = b' at *
  generalize l.map inRD = l' at *
  rw [← e1, ← e2]
  refine rcon_own (e := 5) ⟨_, Tryz.func177, by decide, rfl⟩ (.int _ _) (fun r hr => by obtain ⟨c, _, rfl⟩ := List.mem_map.1 hr; exact byV_pl c) (fun r hr => by obtain ⟨p, _, rfl⟩ := List.mem_map.1 hr; rfl) fun w S vargs hS hv => ?_
  obtain ⟨u1, us, rfl, e1, hv⟩ := vrs_cons hv
  obtain ⟨u2, us, rfl, e2, hv⟩ := vrs_cons hv
  obtain ⟨u3, us, rfl, e3, hv⟩ := vrs_cons hv
  obtain rfl := vrs_nil hv
  obtain rfl := vr_int e2
  obtain ⟨A1, c1, rfl, r1⟩ := vr_by hS e1
  obtain ⟨A3, c3, rfl, r3⟩ := vr_in hS e3
  refine (Put_any A1 A3 c1 c3 n b' l' w hbd r1 r3).mono ?_
  rintro en w' h
  unfold putR
  cases hq : putS b' n l' with
  | none =>
    rw [hq] at h
    obtain ⟨rfl, hB⟩ := h
    exact ⟨_, _, [], rfl, ⟨rfl, .inl ⟨rfl, rfl⟩⟩, fun i hi => absurd hi (by simp), .int _ _, hB⟩
  | some x =>
    rw [hq] at h
    obtain ⟨v, rfl, hrow, hB⟩ := h
    dsimp only
    refine ⟨v, _, bcells x, rfl, by rw [List.length_map]; exact hrow, fun i hi j hj => ?_, .int _ _, hB⟩
    have hi' : i < x.length := by simpa using hi
    have hj0 : j = 0 := by simpa [byV] using hj
    subst hj0
    refine ⟨.int .u8 (x[i].toNat : Int), ?_, rfl, ?_⟩
    · rw [Nat.mul_one, Nat.add_zero]
      simp [bcells, hi']
    · simp only [List.getElem_map, byV, List.getElem_cons_zero]
      exact .int _ _
end Go.Proofs.YtakljpcmbpaeaaaGreat

namespace Go.Proofs.YtakljpcmbpaeaaaGreat
open Go.RowKit

abbrev yMX := fw1 240 (caC cdR caN) cI
abbrev yI0 := nw1 356 2 (caC cdR caN)
abbrev yIz := nw1 357 4 (caC cdR caN)
abbrev yJk := rw3 177 .t (caC cdR (caC cI (caC cdR caN))) (zW 1 (zP cI zN))
abbrev yIy := nw1 223 2 (caC cdR caN)
abbrev yJC := nw1 226 1 (caC cdR caN)
abbrev yIF := nw1 227 1 (caC cdR caN)
abbrev yJB := nw1 231 1 (caC cdR caN)
end Go.Proofs.YtakljpcmbpaeaaaGreat

namespace Go.Proofs.YtakljpcmbpaeaaaGreat
open Go.RowKit
set_option maxRecDepth 100000
set_option maxHeartbeats 16000000

abbrev yB4 := fw3 52 (caC cI (caC cI (caC cI caN))) cdB
abbrev yM3 (x0 : Int) (x1 : Int) (x2 : Int) : Option Bool :=
 bif decide (x1 ≤ x0) then
 some (decide (x0 ≤ x2))
 else
 some false
theorem yRN : yB4.Eq [] .no (yM3) := fun _ => by kernel_rfl
def yEh (L : Nat) : yB4.T := yM3
theorem yJn (L : Nat) : yB4.C (yEh L) := yB4.c (yRN) tN Tryz.func52 (by kernel_rfl) (lN _)
abbrev yAv := fw1 10 (caC yCa caN) cdB
abbrev yME (f1 : yB4.T) (x0 : yAW) : Option Bool :=
 bindO (f1 x0.Nodes 1 16) fun r1 =>
 bif r1 then
 bindO (f1 x0.Slots 1 x0.Nodes) fun r2 =>
 bif r2 then
 bindO (f1 x0.Blocks 1 64) fun r3 =>
 bif r3 then
 bindO (f1 x0.Per 1 8) fun r4 =>
 bif r4 then
 bindO (f1 x0.Journal (w64 (x0.Per + 2)) 64) fun r5 =>
 bif r5 then
 bindO (f1 x0.Log (w64 (8 * x0.Slots)) 512) fun r6 =>
 bif r6 then
 bif decide (1 ≤ x0.Lease) then
 bif decide (x0.Lease < x0.Wait) then
 some (decide (x0.Wait ≤ 1048576))
 else
 some false
 else
 some false
 else
 some false
 else
 some false
 else
 some false
 else
 some false
 else
 some false
 else
 some false
theorem yQw (f1) : yAv.Eq [yB4.s f1] .no (yME f1) := fun _ => by kernel_rfl
def yBa (L : Nat) : yAv.T := yME (yEh L)
theorem yEN (L : Nat) : yAv.C (yBa L) := yAv.c (yQw (yEh L)) (tC (yJn L).ent tN) Tryz.func10 (by kernel_rfl) (lN _)
abbrev yFv := fw3 105 (caC yCa (caC cI (caC cI caN))) cI
abbrev yLL (f1 : yAv.T) (f2 : yB4.T) (x0 : yAW) (x1 : Int) (x2 : Int) : Option Int :=
 bindO (f1 x0) fun r1 =>
 bif !r1 then
 some (-1)
 else
 bindO (f2 x1 0 (w64 (x0.Blocks - 1))) fun r2 =>
 bif !r2 then
 some (-1)
 else
 bindO (f2 x2 0 (w64 (x0.Per - 1))) fun r3 =>
 bif !r3 then
 some (-1)
 else
 some (w64 ((w64 ((w64 ((w64 ((w64 (1 + (w64 (2 * x0.Nodes)))) + x0.Log)) + (w64 (x0.Slots * (w64 (1 + x0.Journal)))))) + (w64 (x1 * x0.Per)))) + x2))
theorem yQO (f1 f2) : yFv.Eq [yAv.s f1, yB4.s f2] .no (yLL f1 f2) := fun _ => by kernel_rfl
def yLb (L : Nat) : yFv.T := yLL (yBa L) (yEh L)
theorem yQN (L : Nat) : yFv.C (yLb L) := yFv.c (yQO (yBa L) (yEh L)) (tC (yEN L).ent (tC (yJn L).ent tN)) Tryz.func105 (by kernel_rfl) (lN _)
abbrev yBS := fw1 49 (caC yCa caN) cI
abbrev yKD (f1 : yAv.T) (f2 : yFv.T) (x0 : yAW) : Option Int :=
 bindO (f1 x0) fun r1 =>
 bif !r1 then
 some 0
 else
 bindO (f2 x0 (w64 (x0.Blocks - 1)) (w64 (x0.Per - 1))) fun r2 =>
 some (w64 (r2 + 1))
theorem yPZ (f1 f2) : yBS.Eq [yAv.s f1, yFv.s f2] .no (yKD f1 f2) := fun _ => by kernel_rfl
def yBg (L : Nat) : yBS.T := yKD (yBa L) (yLb L)
theorem yIM (L : Nat) : yBS.C (yBg L) := yBS.c (yPZ (yBa L) (yLb L)) (tC (yEN L).ent (tC (yQN L).ent tN)) Tryz.func49 (by kernel_rfl) (lN _)
abbrev yGh := fw1 36 (caC yCa caN) cdB
abbrev yL6 (f1 : yAv.T) (f2 : yBS.T) (x0 : yAW) : Option Bool :=
 bindO (f1 x0) fun r1 =>
 bif r1 then
 bif decide (x0.Nodes ≤ 4) then
 bif decide (x0.Log ≤ 60) then
 bindO (f2 x0) fun r2 =>
 some (decide (r2 ≤ 400))
 else
 some false
 else
 some false
 else
 some false
theorem yQk (f1 f2) : yGh.Eq [yAv.s f1, yBS.s f2] .no (yL6 f1 f2) := fun _ => by kernel_rfl
def yK6 (L : Nat) : yGh.T := yL6 (yBa L) (yBg L)
theorem yQj (L : Nat) : yGh.C (yK6 L) := yGh.c (yQk (yBa L) (yBg L)) (tC (yEN L).ent (tC (yIM L).ent tN)) Tryz.func36 (by kernel_rfl) (lN _)
abbrev yBy := fw2 85 (caC yB9 (caC cI caN)) cdB
abbrev yKg (x0 : yAA) (x1 : Int) : Option Bool :=
 bif decide (16 ≤ x1) then
 bif decide (w64 (x1.tdiv 16) < x0.Next) then
 some (decide (x1.tmod 16 < (x0.Keys.length : Int)))
 else
 some false
 else
 some false
theorem yPp : yBy.Eq [] .no (yKg) := fun _ => by kernel_rfl
def yA9 (L : Nat) : yBy.T := yKg
theorem yKf (L : Nat) : yBy.C (yA9 L) := yBy.c (yPp) tN Tryz.func85 (by kernel_rfl) (lN _)
abbrev yEr := (List (List V)) × Int × Int × Int × Unit
abbrev yG6 := (List (List V)) × Int × Int × Unit
abbrev yG7 := Bool × Unit
abbrev yDB {α : Type} (s : yEr) (kn : yEr → Option α) (k0 : yG6 → Option α) (k1 : yG7 → Option α) : Option α :=
 bif decide (s.2.2.2.1 < s.2.2.1) then
 gI s.1 yDZ.ks s.2.2.2.1 <|
 gI s.1 yDZ.ks s.2.2.1 <|
 bif (aI s.1 s.2.2.2.1.toNat 0) == (aI s.1 s.2.2.1.toNat 0) then
 k1 (false, ())
 else
 kn (s.1, s.2.1, s.2.2.1, w64 (s.2.2.2.1 + 1), ())
 else
 k0 (s.1, s.2.1, s.2.2.1, ())
abbrev yEs : LW2 yEr yG6 yG7 := ⟨(lvC 0 (mP cdR) (lvC 1 (mP cI) (lvC 5 (mP cI) (lvC 6 (mP cI) lvN)))), (.exit 2), (lvC 0 (mP cdR) (lvC 1 (mP cI) (lvC 5 (mP cI) lvN))), .ret, (lvC 4 (mP cdB) lvN)⟩
theorem yNC {α : Type} : yEs.Eq (α := α) [] Tryz.f145 [1, 0, 1, 0, 0, 1, 0, 0, 1, 1, 0] .no (yDB) := fun _ _ _ => by kernel_rfl
abbrev yEp := (List (List V)) × Int × Int × Unit
abbrev yG4 := Unit
abbrev yG5 := Bool × Unit
abbrev yGS {α : Type} (F1 : LF2 yEr yG6 yG7 α) (s : yEp) (kn : yEp → Option α) (k0 : yG4 → Option α) (k1 : yG5 → Option α) : Option α :=
 bif decide (s.2.2.1 < (s.1.length : Int)) then
 gI s.1 yDZ.ks s.2.2.1 <|
 bif decide (aI s.1 s.2.2.1.toNat 0 < 0) then
 k1 (false, ())
 else
 gI s.1 yDZ.ks s.2.2.1 <|
 bif decide (s.2.1 ≤ aI s.1 s.2.2.1.toNat 0) then
 k1 (false, ())
 else
 gI s.1 yDZ.ks s.2.2.1 <|
 bif decide (512 < ((aS s.1 s.2.2.1.toNat 1).size : Int)) then
 k1 (false, ())
 else
 F1 (s.1, s.2.1, s.2.2.1, 0, ()) (fun q1 =>
 kn (q1.1, q1.2.1, w64 (q1.2.2.1 + 1), ())) (fun q2 =>
 k1 (q2.1, ()))
 else
 k0 (())
abbrev yEq : LW2 yEp yG4 yG5 := ⟨(lvC 0 (mP cdR) (lvC 1 (mP cI) (lvC 5 (mP cI) lvN))), (.exit 0), lvN, .ret, (lvC 4 (mP cdB) lvN)⟩
theorem yNB {α : Type} (F1) : yEq.Eq (α := α) [] Tryz.f145 [1, 0, 1, 0] (.two .no (.two (.one (.two .no (.two .no (.one (.lp (yEs.s F1)))))) .no)) (yGS F1) := fun _ _ _ => by kernel_rfl
abbrev yDm := fw2 145 (caC cdR (caC cI caN)) cdB
abbrev yLu (F0 : LF2 yEp yG4 yG5 (Bool)) (x0 : List (List V)) (x1 : Int) : Option Bool :=
 F0 (x0, x1, 0, ()) (fun q1 =>
 some true) (fun q2 =>
 some q2.1)
theorem yO5 (F0) : yDm.Eq [] (.two .no (.two (.two .no (.one (.lp (yEq.s F0)))) .no)) (yLu F0) := fun _ => by kernel_rfl
def yEO (L : Nat) : yDm.T := yLu (loop2 (yGS (loop2 (yDB) L)) L)
theorem yMp {α : Type} (L : Nat) : LO Tryz.f145 [1, 0, 1, 0, 0, 1, 0, 0, 1, 1, 0] (yEs.s (α := α) (loop2 (yDB) L)) := yEs.k (yNC) tN (lN _) (by kernel_rfl) L
theorem yMo {α : Type} (L : Nat) : LO Tryz.f145 [1, 0, 1, 0] (yEq.s (α := α) (loop2 (yGS (loop2 (yDB) L)) L)) := yEq.k (yNB (loop2 (yDB) L)) tN (lS (lN _) (lS (lB (lS (lN _) (lS (lN _) (lB (lL (yMp L)))))) (lN _))) (by kernel_rfl) L
theorem yO4 (L : Nat) : yDm.C (yEO L) := yDm.c (yO5 (loop2 (yGS (loop2 (yDB) L)) L)) tN Tryz.func145 (by kernel_rfl) (lS (lN _) (lS (lS (lN _) (lB (lL (yMo L)))) (lN _)))
end Go.Proofs.YtakljpcmbpaeaaaGreat

namespace Go.Proofs.YtakljpcmbpaeaaaGreat
open Go.RowKit
set_option maxRecDepth 100000
set_option maxHeartbeats 16000000

abbrev yFJ := yAA × Int × Unit
abbrev yH6 := Unit
abbrev yH7 := Int × Unit
abbrev yFA {α : Type} (f1 : yBy.T) (s : yFJ) (kn : yFJ → Option α) (k0 : yH6 → Option α) (k1 : yH7 → Option α) : Option α :=
 bif decide (s.2.1 < (s.1.Fenced.length : Int)) then
 gI s.1.Fenced kI s.2.1 <|
 bindO (f1 s.1 (aI s.1.Fenced s.2.1.toNat 0)) fun r1 =>
 bif !r1 then
 k1 (2, ())
 else
 bif decide (0 < s.2.1) then
 gI s.1.Fenced kI s.2.1 <|
 gI s.1.Fenced kI (w64 (s.2.1 - 1)) <|
 bif decide (aI s.1.Fenced s.2.1.toNat 0 ≤ aI s.1.Fenced ((w64 (s.2.1 - 1)).toNat) 0) then
 k1 (2, ())
 else
 kn (s.1, w64 (s.2.1 + 1), ())
 else
 kn (s.1, w64 (s.2.1 + 1), ())
 else
 k0 (())
abbrev yFK : LW2 yFJ yH6 yH7 := ⟨(lvC 1 yAE (lvC 5 (mP cI) lvN)), (.exit 4), lvN, .ret, (lvC 2 (mP cI) lvN)⟩
theorem yNi {α : Type} (f1) : yFK.Eq (α := α) [yBy.s f1] Tryz.f84 [1, 1, 1, 1, 0, 1, 0] .no (yFA f1) := fun _ _ _ => by kernel_rfl
abbrev yFH := yAA × Int × Unit
abbrev yH4 := yAA × Unit
abbrev yH5 := Int × Unit
abbrev yCy {α : Type} (f1 : yDm.T) (f2 : yBy.T) (s : yFH) (kn : yFH → Option α) (k0 : yH4 → Option α) (k1 : yH5 → Option α) : Option α :=
 bif decide (s.2.1 < (s.1.Keys.length : Int)) then
 gI s.1.Cache kL s.2.1 <|
 bindO (f1 (aR s.1.Cache s.2.1.toNat 0) (s.1.S.length : Int)) fun r1 =>
 bif !r1 then
 k1 (2, ())
 else
 gI s.1.Keys kI s.2.1 <|
 bif (aI s.1.Keys s.2.1.toNat 0) != 0 then
 gI s.1.Keys kI s.2.1 <|
 bindO (f2 s.1 (aI s.1.Keys s.2.1.toNat 0)) fun r2 =>
 bif !r2 then
 k1 (2, ())
 else
 gI s.1.Keys kI s.2.1 <|
 bif ((aI s.1.Keys s.2.1.toNat 0).tmod 16) != s.2.1 then
 k1 (2, ())
 else
 kn (s.1, w64 (s.2.1 + 1), ())
 else
 kn (s.1, w64 (s.2.1 + 1), ())
 else
 k0 (s.1, ())
abbrev yFI : LW2 yFH yH4 yH5 := ⟨(lvC 1 yAE (lvC 4 (mP cI) lvN)), (.exit 2), (lvC 1 yAE lvN), .ret, (lvC 2 (mP cI) lvN)⟩
theorem yNh {α : Type} (f1 f2) : yFI.Eq (α := α) [yDm.s f1, yBy.s f2] Tryz.f84 [1, 1, 1, 0, 1, 0] .no (yCy f1 f2) := fun _ _ _ => by kernel_rfl
abbrev yFF := yAA × Int × Unit
abbrev yH2 := yAA × Unit
abbrev yH3 := Int × Unit
abbrev yCx {α : Type} (s : yFF) (kn : yFF → Option α) (k0 : yH2 → Option α) (k1 : yH3 → Option α) : Option α :=
 bif decide (s.2.1 < (s.1.S.length : Int)) then
 gI s.1.S kS s.2.1 <|
 bif decide (512 < ((aS s.1.S s.2.1.toNat 0).size : Int)) then
 k1 (2, ())
 else
 kn (s.1, w64 (s.2.1 + 1), ())
 else
 k0 (s.1, ())
abbrev yFG : LW2 yFF yH2 yH3 := ⟨(lvC 1 yAE (lvC 3 (mP cI) lvN)), (.exit 0), (lvC 1 yAE lvN), .ret, (lvC 2 (mP cI) lvN)⟩
theorem yNg {α : Type} : yFG.Eq (α := α) [] Tryz.f84 [1, 1, 0, 1, 0] .no (yCx) := fun _ _ _ => by kernel_rfl
abbrev yBx := fw1 84 (caC yB9 caN) cI
abbrev yKG (F0 : LF2 yFF yH2 yH3 (Int)) (F1 : LF2 yFH yH4 yH5 (Int)) (F2 : LF2 yFJ yH6 yH7 (Int)) (x0 : yAA) : Option Int :=
 bif decide ((x0.S.length : Int) < 1) then
 some 2
 else
 bif decide ((x0.Keys.length : Int) < 1) then
 some 2
 else
 bif decide (16 < (x0.Keys.length : Int)) then
 some 2
 else
 bif (x0.Cache.length : Int) != (x0.Keys.length : Int) then
 some 2
 else
 bif decide (x0.Next < 1) then
 some 2
 else
 bif decide (68719476736 < x0.Next) then
 some 2
 else
 F0 (x0, 0, ()) (fun q1 =>
 F1 (q1.1, 0, ()) (fun q2 =>
 F2 (q2.1, 0, ()) (fun q3 =>
 some 0) (fun q4 =>
 some q4.1)) (fun q5 =>
 some q5.1)) (fun q6 =>
 some q6.1)
theorem yPc (F0 F1 F2) : yBx.Eq [] (.two .no (.two .no (.two (.two .no (.one (.lp (yFG.s F0)))) (.two (.two .no (.one (.lp (yFI.s F1)))) (.two (.two .no (.one (.lp (yFK.s F2)))) .no))))) (yKG F0 F1 F2) := fun _ => by kernel_rfl
def yBh (L : Nat) : yBx.T := yKG (loop2 (yCx) L) (loop2 (yCy (yEO L) (yA9 L)) L) (loop2 (yFA (yA9 L)) L)
theorem yM7 {α : Type} (L : Nat) : LO Tryz.f84 [1, 1, 1, 1, 0, 1, 0] (yFK.s (α := α) (loop2 (yFA (yA9 L)) L)) := yFK.k (yNi (yA9 L)) (tC (yKf L).ent tN) (lN _) (by kernel_rfl) L
theorem yM6 {α : Type} (L : Nat) : LO Tryz.f84 [1, 1, 1, 0, 1, 0] (yFI.s (α := α) (loop2 (yCy (yEO L) (yA9 L)) L)) := yFI.k (yNh (yEO L) (yA9 L)) (tC (yO4 L).ent (tC (yKf L).ent tN)) (lN _) (by kernel_rfl) L
theorem yM5 {α : Type} (L : Nat) : LO Tryz.f84 [1, 1, 0, 1, 0] (yFG.s (α := α) (loop2 (yCx) L)) := yFG.k (yNg) tN (lN _) (by kernel_rfl) L
theorem yKF (L : Nat) : yBx.C (yBh L) := yBx.c (yPc (loop2 (yCx) L) (loop2 (yCy (yEO L) (yA9 L)) L) (loop2 (yFA (yA9 L)) L)) tN Tryz.func84 (by kernel_rfl) (lS (lN _) (lS (lN _) (lS (lS (lN _) (lB (lL (yM5 L)))) (lS (lS (lN _) (lB (lL (yM6 L)))) (lS (lS (lN _) (lB (lL (yM7 L)))) (lN _))))))
abbrev yEn := (List (List V)) × yAA × Int × Int × Unit
abbrev yG1 := (List (List V)) × yAA × Int × Unit
abbrev yG2 := Bool × Unit
abbrev yDA {α : Type} (s : yEn) (kn : yEn → Option α) (k0 : yG1 → Option α) (k1 : yG2 → Option α) : Option α :=
 bif decide (s.2.2.2.1 < (s.2.1.Fenced.length : Int)) then
 gI s.2.1.Fenced kI s.2.2.2.1 <|
 gI s.1 kI s.2.2.1 <|
 bif (aI s.2.1.Fenced s.2.2.2.1.toNat 0) == (aI s.1 s.2.2.1.toNat 0) then
 k1 (true, ())
 else
 kn (s.1, s.2.1, s.2.2.1, w64 (s.2.2.2.1 + 1), ())
 else
 k0 (s.1, s.2.1, s.2.2.1, ())
abbrev yEo : LW2 yEn yG1 yG2 := ⟨(lvC 1 (mP cdR) (lvC 2 yAE (lvC 5 (mP cI) (lvC 6 (mP cI) lvN)))), (.exit 2), (lvC 1 (mP cdR) (lvC 2 yAE (lvC 5 (mP cI) lvN))), .ret, (lvC 4 (mP cdB) lvN)⟩
theorem yNA {α : Type} : yEo.Eq (α := α) [] Tryz.f86 [1, 0, 1, 0, 0, 1, 0, 0, 1, 1, 0] .no (yDA) := fun _ _ _ => by kernel_rfl
abbrev yEl := (List (List V)) × yAA × Int × Unit
abbrev yGz := Unit
abbrev yG0 := Bool × Unit
abbrev yGR {α : Type} (F1 : LF2 yEn yG1 yG2 α) (s : yEl) (kn : yEl → Option α) (k0 : yGz → Option α) (k1 : yG0 → Option α) : Option α :=
 bif decide (s.2.2.1 < (s.1.length : Int)) then
 gI s.1 kI s.2.2.1 <|
 bif decide (aI s.1 s.2.2.1.toNat 0 < 1) then
 k1 (true, ())
 else
 F1 (s.1, s.2.1, s.2.2.1, 0, ()) (fun q1 =>
 kn (q1.1, q1.2.1, w64 (q1.2.2.1 + 1), ())) (fun q2 =>
 k1 (q2.1, ()))
 else
 k0 (())
abbrev yEm : LW2 yEl yGz yG0 := ⟨(lvC 1 (mP cdR) (lvC 2 yAE (lvC 5 (mP cI) lvN))), (.exit 0), lvN, .ret, (lvC 4 (mP cdB) lvN)⟩
theorem yM9 {α : Type} (F1) : yEm.Eq (α := α) [] Tryz.f86 [1, 0, 1, 0] (.two .no (.two (.one (.two .no (.two .no (.one (.lp (yEo.s F1)))))) .no)) (yGR F1) := fun _ _ _ => by kernel_rfl
abbrev yDl := fw2 86 (caC yB9 (caC cdR caN)) cdB
abbrev yLt (F0 : LF2 yEl yGz yG0 (Bool)) (x0 : yAA) (x1 : List (List V)) : Option Bool :=
 F0 (x1, x0, 0, ()) (fun q1 =>
 some false) (fun q2 =>
 some q2.1)
theorem yO3 (F0) : yDl.Eq [] (.two .no (.two (.two .no (.one (.lp (yEm.s F0)))) .no)) (yLt F0) := fun _ => by kernel_rfl
def yHq (L : Nat) : yDl.T := yLt (loop2 (yGR (loop2 (yDA) L)) L)
theorem yMn {α : Type} (L : Nat) : LO Tryz.f86 [1, 0, 1, 0, 0, 1, 0, 0, 1, 1, 0] (yEo.s (α := α) (loop2 (yDA) L)) := yEo.k (yNA) tN (lN _) (by kernel_rfl) L
theorem yMm {α : Type} (L : Nat) : LO Tryz.f86 [1, 0, 1, 0] (yEm.s (α := α) (loop2 (yGR (loop2 (yDA) L)) L)) := yEm.k (yM9 (loop2 (yDA) L)) tN (lS (lN _) (lS (lB (lS (lN _) (lS (lN _) (lB (lL (yMn L)))))) (lN _))) (by kernel_rfl) L
theorem yO2 (L : Nat) : yDl.C (yHq L) := yDl.c (yO3 (loop2 (yGR (loop2 (yDA) L)) L)) tN Tryz.func86 (by kernel_rfl) (lS (lN _) (lS (lS (lN _) (lB (lL (yMm L)))) (lN _)))
end Go.Proofs.YtakljpcmbpaeaaaGreat

namespace Go.Proofs.YtakljpcmbpaeaaaGreat
open Go.RowKit
set_option maxRecDepth 100000
set_option maxHeartbeats 16000000

abbrev yEt := yAA × yAA × ((List (List V)) × (List (List V)) × (List (List V)) × Int × (List (List V)) × Unit) × Int × Unit
abbrev yG8 := yAA × ((List (List V)) × (List (List V)) × (List (List V)) × Int × (List (List V)) × Unit) × Unit
abbrev yCP {α : Type} (s : yEt) (kn : yEt → Option α) (k0 : yG8 → Option α) : Option α :=
 bif decide (s.2.2.2.1 < (s.1.Cache.length : Int)) then
 gI s.1.Cache kL s.2.2.2.1 <|
 gd ((aR s.1.Cache s.2.2.2.1.toNat 0).all fun r => Nat.beq r.length 2) <|
 gM (0 + ((aR s.1.Cache s.2.2.2.1.toNat 0).length)) 24 <|
 gd (Nat.beq (0 + s.2.2.1.2.1.length) s.2.2.1.2.1.length) <|
 gM (s.2.2.1.2.1.length + 1) 24 <|
 gW s.2.2.1.1 s.2.2.1.1.length <|
 gd (Nat.beq (s.2.2.1.2.1.length + 1) ((s.2.2.1.2.1 ++ ([[V.bs 16 0 (0 + ((aR s.1.Cache s.2.2.2.1.toNat 0).length)) (0 + ((aR s.1.Cache s.2.2.2.1.toNat 0).length))]])).length)) <|
 gd (frzOk [(16, aR s.1.Cache s.2.2.2.1.toNat 0)] (s.2.2.1.2.1 ++ ([[V.bs 16 0 (0 + ((aR s.1.Cache s.2.2.2.1.toNat 0).length)) (0 + ((aR s.1.Cache s.2.2.2.1.toNat 0).length))]]))) <|
 gW s.2.2.1.2.2.1 s.2.2.1.2.2.1.length <|
 gW s.2.2.1.2.2.2.2.1 s.2.2.1.2.2.2.2.1.length <|
 kn (s.1, s.2.1, (s.2.2.1.1, frzR [(16, aR s.1.Cache s.2.2.2.1.toNat 0)] (s.2.2.1.2.1 ++ ([[V.bs 16 0 (0 + ((aR s.1.Cache s.2.2.2.1.toNat 0).length)) (0 + ((aR s.1.Cache s.2.2.2.1.toNat 0).length))]])), s.2.2.1.2.2.1, s.2.2.1.2.2.2.1, s.2.2.1.2.2.2.2.1, ()), w64 (s.2.2.2.1 + 1), ())
 else
 gW s.2.2.1.1 s.2.2.1.1.length <|
 gW s.2.2.1.2.1 s.2.2.1.2.1.length <|
 gW s.2.2.1.2.2.1 s.2.2.1.2.2.1.length <|
 gW s.2.2.1.2.2.2.2.1 s.2.2.1.2.2.2.2.1.length <|
 k0 (s.2.1, (s.2.2.1.1, s.2.2.1.2.1, s.2.2.1.2.2.1, s.2.2.1.2.2.2.1, s.2.2.1.2.2.2.2.1, ()), ())
abbrev yEu : LW1 yEt yG8 := ⟨(lvC 1 yAE (lvC 2 yAE (lvC 3 (mO (zW 1 (zF 1 [16] (zW 1 (zP cI (zW 1 zN))))) 5) (lvC 4 (mP cI) lvN)))), (.exit 0), (lvC 2 yAE (lvC 3 (mO (zW 1 (zW 1 (zW 1 (zP cI (zW 1 zN))))) 5) lvN))⟩
theorem yND {α : Type} : yEu.Eq (α := α) [] Tryz.f87 [1, 1, 0, 1, 0] .no (yCP) := fun _ _ _ => by kernel_rfl
abbrev yDn := rw1 87 .a (caC yB9 caN) (zW 1 (zW 1 (zW 1 (zP cI (zW 1 zN)))))
abbrev yJV (F0 : LF1 yEt yG8 ((List (List V)) × (List (List V)) × (List (List V)) × Int × (List (List V)) × Unit)) (x0 : yAA) : Option ((List (List V)) × (List (List V)) × (List (List V)) × Int × (List (List V)) × Unit) :=
 gd (x0.S.all fun r => Nat.beq r.length 1) <|
 gM (0 + x0.S.length) 16 <|
 gd (x0.Keys.all fun r => Nat.beq r.length 1) <|
 gM (0 + x0.Keys.length) 8 <|
 gd (x0.Fenced.all fun r => Nat.beq r.length 1) <|
 gM (0 + x0.Fenced.length) 8 <|
 gW x0.S (0 + x0.S.length) <|
 gW x0.Keys (0 + x0.Keys.length) <|
 gW x0.Fenced (0 + x0.Fenced.length) <|
 F0 (x0, yAA.z, (x0.S, [], x0.Keys, x0.Next, x0.Fenced, ()), 0, ()) (fun q1 =>
 gW q1.2.1.1 q1.2.1.1.length <|
 gW q1.2.1.2.1 q1.2.1.2.1.length <|
 gW q1.2.1.2.2.1 q1.2.1.2.2.1.length <|
 gW q1.2.1.2.2.2.2.1 q1.2.1.2.2.2.2.1.length <|
 some (q1.2.1.1, q1.2.1.2.1, q1.2.1.2.2.1, q1.2.1.2.2.2.1, q1.2.1.2.2.2.2.1, ()))
theorem yO7 (F0) : yDn.Eq [] (.two .no (.two .no (.two (.two .no (.one (.lp (yEu.s F0)))) .no))) (yJV F0) := fun _ => by kernel_rfl
def yDP (L : Nat) : yDn.T := yJV (loop1 (yCP) L)
theorem yMq {α : Type} (L : Nat) : LO Tryz.f87 [1, 1, 0, 1, 0] (yEu.s (α := α) (loop1 (yCP) L)) := yEu.k (yND) tN (lN _) (by kernel_rfl) L
theorem yO6 (L : Nat) : yDn.C (yDP L) := yDn.c (yO7 (loop1 (yCP) L)) tN Tryz.func87 (by kernel_rfl) (lS (lN _) (lS (lN _) (lS (lS (lN _) (lB (lL (yMq L)))) (lN _))))
abbrev yFN := (List (List V)) × Int × Int × Unit
abbrev yH9 := Unit
abbrev yIA := Int × Unit
abbrev yHg {α : Type} (s : yFN) (kn : yFN → Option α) (k0 : yH9 → Option α) (k1 : yIA → Option α) : Option α :=
 bif decide (s.2.2.1 < (s.1.length : Int)) then
 gI s.1 yDZ.ks s.2.2.1 <|
 bif (aI s.1 s.2.2.1.toNat 0) == s.2.1 then
 k1 (s.2.2.1, ())
 else
 kn (s.1, s.2.1, w64 (s.2.2.1 + 1), ())
 else
 k0 (())
abbrev yFO : LW2 yFN yH9 yIA := ⟨(lvC 0 (mP cdR) (lvC 1 (mP cI) (lvC 5 (mP cI) lvN))), (.exit 0), lvN, .ret, (lvC 4 (mP cI) lvN)⟩
theorem yNk {α : Type} : yFO.Eq (α := α) [] Tryz.f88 [1, 0, 1, 0] .no (yHg) := fun _ _ _ => by kernel_rfl
abbrev yEw := fw2 88 (caC cdR (caC cI caN)) cI
abbrev yMs (F0 : LF2 yFN yH9 yIA (Int)) (x0 : List (List V)) (x1 : Int) : Option Int :=
 F0 (x0, x1, 0, ()) (fun q1 =>
 some (-1)) (fun q2 =>
 some q2.1)
theorem yPr (F0) : yEw.Eq [] (.two .no (.two (.two .no (.one (.lp (yFO.s F0)))) .no)) (yMs F0) := fun _ => by kernel_rfl
def yFX (L : Nat) : yEw.T := yMs (loop2 (yHg) L)
theorem yNF {α : Type} (L : Nat) : LO Tryz.f88 [1, 0, 1, 0] (yFO.s (α := α) (loop2 (yHg) L)) := yFO.k (yNk) tN (lN _) (by kernel_rfl) L
theorem yPq (L : Nat) : yEw.C (yFX L) := yEw.c (yPr (loop2 (yHg) L)) tN Tryz.func88 (by kernel_rfl) (lS (lN _) (lS (lS (lN _) (lB (lL (yNF L)))) (lN _)))
abbrev yDC := fw2 89 (caC cdR (caC cI caN)) cdR
abbrev yLP (x0 : List (List V)) (x1 : Int) : Option (List (List V)) :=
 gd (decide (0 ≤ x1)) <|
 gd (decide (x1 ≤ (x0.length : Int))) <|
 gd (x0.all fun r => Nat.beq r.length 2) <|
 gd ((x0.take x1.toNat).all fun r => Nat.beq r.length 2) <|
 gM (0 + ((x0.take x1.toNat).length)) 24 <|
 gd (decide (0 ≤ w64 (x1 + 1))) <|
 gd (decide (w64 (x1 + 1) ≤ (x0.length : Int))) <|
 gd (x0.all fun r => Nat.beq r.length 2) <|
 gd (((x0.drop ((w64 (x1 + 1)).toNat)).take (x0.length - ((w64 (x1 + 1)).toNat))).all fun r => Nat.beq r.length 2) <|
 gd (Nat.beq (0 + (0 + ((x0.take x1.toNat).length))) ((x0.take x1.toNat).length)) <|
 gM ((0 + ((x0.take x1.toNat).length)) + (((x0.drop ((w64 (x1 + 1)).toNat)).take (x0.length - ((w64 (x1 + 1)).toNat))).length)) 24 <|
 gF ((x0.take x1.toNat) ++ ((x0.drop ((w64 (x1 + 1)).toNat)).take (x0.length - ((w64 (x1 + 1)).toNat)))) (0 + ((0 + ((x0.take x1.toNat).length)) + (((x0.drop ((w64 (x1 + 1)).toNat)).take (x0.length - ((w64 (x1 + 1)).toNat))).length))) <|
 some (((x0.take x1.toNat) ++ ((x0.drop ((w64 (x1 + 1)).toNat)).take (x0.length - ((w64 (x1 + 1)).toNat)))).take ((0 + ((x0.take x1.toNat).length)) + (((x0.drop ((w64 (x1 + 1)).toNat)).take (x0.length - ((w64 (x1 + 1)).toNat))).length)))
theorem yOK : yDC.Eq [] .no (yLP) := fun _ => by kernel_rfl
def yKh (L : Nat) : yDC.T := yLP
theorem yOJ (L : Nat) : yDC.C (yKh L) := yDC.c (yOK) tN Tryz.func89 (by kernel_rfl) (lN _)
abbrev yFL := (List (List V)) × Int × (List (List V)) × Bool × Int × Unit
abbrev yH8 := Int × (List (List V)) × Bool × Unit
abbrev yHf {α : Type} (s : yFL) (kn : yFL → Option α) (k0 : yH8 → Option α) : Option α :=
 bif decide (s.2.2.2.2.1 < (s.1.length : Int)) then
 gI s.1 kI s.2.2.2.2.1 <|
 bif (aI s.1 s.2.2.2.2.1.toNat 0) == s.2.1 then
 gI s.1 kI s.2.2.2.2.1 <|
 bif decide (s.2.1 < aI s.1 s.2.2.2.2.1.toNat 0) then
 gI s.1 kI s.2.2.2.2.1 <|
 gd (Nat.beq (0 + s.2.2.1.length) s.2.2.1.length) <|
 gM (s.2.2.1.length + 1) 8 <|
 gA (s.2.2.1 ++ ([[V.int .i64 (aI s.1 s.2.2.2.2.1.toNat 0)]])) (s.2.2.1.length + 1) <|
 kn (s.1, s.2.1, s.2.2.1 ++ ([[V.int .i64 (aI s.1 s.2.2.2.2.1.toNat 0)]]), true, w64 (s.2.2.2.2.1 + 1), ())
 else
 gI s.1 kI s.2.2.2.2.1 <|
 gd (Nat.beq (0 + s.2.2.1.length) s.2.2.1.length) <|
 gM (s.2.2.1.length + 1) 8 <|
 gA (s.2.2.1 ++ ([[V.int .i64 (aI s.1 s.2.2.2.2.1.toNat 0)]])) (s.2.2.1.length + 1) <|
 kn (s.1, s.2.1, s.2.2.1 ++ ([[V.int .i64 (aI s.1 s.2.2.2.2.1.toNat 0)]]), true, w64 (s.2.2.2.2.1 + 1), ())
 else
 gI s.1 kI s.2.2.2.2.1 <|
 bif decide (s.2.1 < aI s.1 s.2.2.2.2.1.toNat 0) then
 bif !s.2.2.2.1 then
 gd (Nat.beq (0 + s.2.2.1.length) s.2.2.1.length) <|
 gM (s.2.2.1.length + 1) 8 <|
 gI s.1 kI s.2.2.2.2.1 <|
 gd (Nat.beq (0 + (s.2.2.1.length + 1)) ((s.2.2.1 ++ ([[V.int .i64 s.2.1]])).length)) <|
 gM ((s.2.2.1.length + 1) + 1) 8 <|
 gA ((s.2.2.1 ++ ([[V.int .i64 s.2.1]])) ++ ([[V.int .i64 (aI s.1 s.2.2.2.2.1.toNat 0)]])) ((s.2.2.1.length + 1) + 1) <|
 kn (s.1, s.2.1, (s.2.2.1 ++ ([[V.int .i64 s.2.1]])) ++ ([[V.int .i64 (aI s.1 s.2.2.2.2.1.toNat 0)]]), true, w64 (s.2.2.2.2.1 + 1), ())
 else
 gI s.1 kI s.2.2.2.2.1 <|
 gd (Nat.beq (0 + s.2.2.1.length) s.2.2.1.length) <|
 gM (s.2.2.1.length + 1) 8 <|
 gA (s.2.2.1 ++ ([[V.int .i64 (aI s.1 s.2.2.2.2.1.toNat 0)]])) (s.2.2.1.length + 1) <|
 kn (s.1, s.2.1, s.2.2.1 ++ ([[V.int .i64 (aI s.1 s.2.2.2.2.1.toNat 0)]]), s.2.2.2.1, w64 (s.2.2.2.2.1 + 1), ())
 else
 gI s.1 kI s.2.2.2.2.1 <|
 gd (Nat.beq (0 + s.2.2.1.length) s.2.2.1.length) <|
 gM (s.2.2.1.length + 1) 8 <|
 gA (s.2.2.1 ++ ([[V.int .i64 (aI s.1 s.2.2.2.2.1.toNat 0)]])) (s.2.2.1.length + 1) <|
 kn (s.1, s.2.1, s.2.2.1 ++ ([[V.int .i64 (aI s.1 s.2.2.2.2.1.toNat 0)]]), s.2.2.2.1, w64 (s.2.2.2.2.1 + 1), ())
 else
 gA s.2.2.1 s.2.2.1.length <|
 k0 (s.2.1, s.2.2.1, s.2.2.2.1, ())
abbrev yFM : LW1 yFL yH8 := ⟨(lvC 0 (mP cdR) (lvC 1 (mP cI) (lvC 5 (mA 1) (lvC 6 (mP cdB) (lvC 7 (mP cI) lvN))))), (.exit 0), (lvC 1 (mP cI) (lvC 5 (mA 1) (lvC 6 (mP cdB) lvN)))⟩
theorem yNj {α : Type} : yFM.Eq (α := α) [] Tryz.f90 [1, 1, 1, 0, 1, 0] .no (yHf) := fun _ _ _ => by kernel_rfl
abbrev yEv := fw2 90 (caC cdR (caC cI caN)) cdR
abbrev yMr (F0 : LF1 yFL yH8 (List (List V))) (x0 : List (List V)) (x1 : Int) : Option (List (List V)) :=
 F0 (x0, x1, [], false, 0, ()) (fun q1 =>
 bif !q1.2.2.1 then
 gd (Nat.beq (0 + q1.2.1.length) q1.2.1.length) <|
 gM (q1.2.1.length + 1) 8 <|
 gF (q1.2.1 ++ ([[V.int .i64 q1.1]])) (0 + (q1.2.1.length + 1)) <|
 some ((q1.2.1 ++ ([[V.int .i64 q1.1]])).take (q1.2.1.length + 1))
 else
 gF q1.2.1 (0 + q1.2.1.length) <|
 some (q1.2.1.take q1.2.1.length))
theorem yPo (F0) : yEv.Eq [] (.two .no (.two .no (.two .no (.two (.two .no (.one (.lp (yFM.s F0)))) .no)))) (yMr F0) := fun _ => by kernel_rfl
def yMG (L : Nat) : yEv.T := yMr (loop1 (yHf) L)
theorem yNE {α : Type} (L : Nat) : LO Tryz.f90 [1, 1, 1, 0, 1, 0] (yFM.s (α := α) (loop1 (yHf) L)) := yFM.k (yNj) tN (lN _) (by kernel_rfl) L
theorem yPn (L : Nat) : yEv.C (yMG L) := yEv.c (yPo (loop1 (yHf) L)) tN Tryz.func90 (by kernel_rfl) (lS (lN _) (lS (lN _) (lS (lN _) (lS (lS (lN _) (lB (lL (yNE L)))) (lN _)))))
end Go.Proofs.YtakljpcmbpaeaaaGreat

namespace Go.Proofs.YtakljpcmbpaeaaaGreat
open Go.RowKit
set_option maxRecDepth 100000
set_option maxHeartbeats 16000000

abbrev yGJ := Int × Int × Int × Unit
abbrev yIm := Int × Unit
abbrev yDW {α : Type} (s : yGJ) (kn : yGJ → Option α) (k0 : yIm → Option α) : Option α :=
 bif decide (s.2.2.1 < s.1) then
 kn (s.1, w64 (s.2.1 * 256), w64 (s.2.2.1 + 1), ())
 else
 k0 (s.2.1, ())
abbrev yGK : LW1 yGJ yIm := ⟨(lvC 0 (mP cI) (lvC 3 (mP cI) (lvC 4 (mP cI) lvN))), (.exit 0), (lvC 3 (mP cI) lvN)⟩
theorem yOE {α : Type} : yGK.Eq (α := α) [] Tryz.f146 [1, 1, 1, 0, 1, 0] .no (yDW) := fun _ _ _ => by kernel_rfl
abbrev yBq := fw1 146 (caC cI caN) cI
abbrev yLE (F0 : LF1 yGJ yIm (Int)) (x0 : Int) : Option Int :=
 bif decide (x0 < 1) then
 some (-1)
 else
 bif decide (6 < x0) then
 some (-1)
 else
 F0 (x0, 1, 0, ()) (fun q1 =>
 some (minI false (w64 (q1.1 - 1)) 1099511627776))
theorem yQE (F0) : yBq.Eq [] (.two .no (.two .no (.two .no (.two (.two .no (.one (.lp (yGK.s F0)))) .no)))) (yLE F0) := fun _ => by kernel_rfl
def yC9 (L : Nat) : yBq.T := yLE (loop1 (yDW) L)
theorem yNc {α : Type} (L : Nat) : LO Tryz.f146 [1, 1, 1, 0, 1, 0] (yGK.s (α := α) (loop1 (yDW) L)) := yGK.k (yOE) tN (lN _) (by kernel_rfl) L
theorem yI8 (L : Nat) : yBq.C (yC9 L) := yBq.c (yQE (loop1 (yDW) L)) tN Tryz.func146 (by kernel_rfl) (lS (lN _) (lS (lN _) (lS (lN _) (lS (lS (lN _) (lB (lL (yNc L)))) (lN _)))))
abbrev yFo := fw2 147 (caC cI (caC cI caN)) cdB
abbrev yLD (f1 : yBq.T) (x0 : Int) (x1 : Int) : Option Bool :=
 bif decide (0 ≤ x0) then
 bindO (f1 x1) fun r1 =>
 some (decide (x0 ≤ r1))
 else
 some false
theorem yQD (f1) : yFo.Eq [yBq.s f1] .no (yLD f1) := fun _ => by kernel_rfl
def yFn (L : Nat) : yFo.T := yLD (yC9 L)
theorem yQC (L : Nat) : yFo.C (yFn L) := yFo.c (yQD (yC9 L)) (tC (yI8 L).ent tN) Tryz.func147 (by kernel_rfl) (lN _)
abbrev yHZ := Int × (List (List V)) × (List (List V)) × Int × Int × Int × Unit
abbrev yHY := Int × (List (List V)) × (List (List V)) × Int × Unit
abbrev yB1 {α : Type} (s : yHZ) (kn : yHZ → Option α) (k0 : yHY → Option α) : Option α :=
 bif decide (s.2.2.2.2.2.1 < s.1) then
 gd (Nat.beq (0 + s.2.2.1.length) s.2.2.1.length) <|
 gM (s.2.2.1.length + 1) 1 <|
 gW (s.2.2.1 ++ ([[V.int .u8 (IntKind.u8.wrap (s.2.2.2.2.1.tmod 256))]])) (s.2.2.1.length + 1) <|
 kn (s.1, s.2.1, s.2.2.1 ++ ([[V.int .u8 (IntKind.u8.wrap (s.2.2.2.2.1.tmod 256))]]), s.2.2.2.1, w64 (s.2.2.2.2.1.tdiv 256), w64 (s.2.2.2.2.2.1 + 1), ())
 else
 gW s.2.2.1 s.2.2.1.length <|
 k0 (s.1, s.2.1, s.2.2.1, s.2.2.2.1, ())
abbrev yHa : LW1 yHZ yHY := ⟨(lvC 1 (mP cI) (lvC 2 (mP cdR) (lvC 8 (mW 1) (lvC 9 (mP cI) (lvC 10 (mP cI) (lvC 11 (mP cI) lvN)))))), (.exit 2), (lvC 1 (mP cI) (lvC 2 (mP cdR) (lvC 8 (mW 1) (lvC 9 (mP cI) lvN))))⟩
theorem yOl {α : Type} : yHa.Eq (α := α) [] Tryz.f91 [1, 1, 1, 1, 0, 1, 0, 0, 1, 0, 0, 1, 1, 1, 0] .no (yB1) := fun _ _ _ => by kernel_rfl
abbrev yHW := Int × (List (List V)) × (List (List V)) × Int × Unit
abbrev yJO := (List (List V)) × Unit
abbrev yJP := (List (List V)) × Int × Unit
abbrev yDM {α : Type} (f1 : yFo.T) (F1 : LF1 yHZ yHY α) (s : yHW) (kn : yHW → Option α) (k0 : yJO → Option α) (k1 : yJP → Option α) : Option α :=
 bif decide (s.2.2.2.1 < (s.2.1.length : Int)) then
 gI s.2.1 kI s.2.2.2.1 <|
 bindO (f1 (aI s.2.1 s.2.2.2.1.toNat 0) s.1) fun r1 =>
 bif !r1 then
 k1 ([], 2, ())
 else
 gI s.2.1 kI s.2.2.2.1 <|
 gW s.2.2.1 s.2.2.1.length <|
 F1 (s.1, s.2.1, s.2.2.1, s.2.2.2.1, aI s.2.1 s.2.2.2.1.toNat 0, 0, ()) (fun q2 =>
 gW q2.2.2.1 q2.2.2.1.length <|
 kn (q2.1, q2.2.1, q2.2.2.1, w64 (q2.2.2.2.1 + 1), ()))
 else
 gW s.2.2.1 s.2.2.1.length <|
 k0 (s.2.2.1, ())
abbrev yHX : LW2 yHW yJO yJP := ⟨(lvC 1 (mP cI) (lvC 2 (mP cdR) (lvC 8 (mW 1) (lvC 9 (mP cI) lvN)))), (.exit 0), (lvC 8 (mW 1) lvN), .ret, (lvC 6 (mW 1) (lvC 7 (mP cI) lvN))⟩
theorem yOk {α : Type} (f1 F1) : yHX.Eq (α := α) [yFo.s f1] Tryz.f91 [1, 1, 1, 1, 0, 1, 0] (.two .no (.two (.one (.two .no (.two .no (.two .no (.one (.lp (yHa.s F1))))))) .no)) (yDM f1 F1) := fun _ _ _ => by kernel_rfl
abbrev yB8 := rw3 91 .t (caC cdR (caC cI (caC cdR caN))) (zW 1 (zP cI zN))
abbrev yMA (f1 : yBq.T) (F0 : LF2 yHW yJO yJP ((List (List V)) × Int × Unit)) (x0 : List (List V)) (x1 : Int) (x2 : List (List V)) : Option ((List (List V)) × Int × Unit) :=
 bindO (f1 x1) fun r1 =>
 bif decide (r1 < 0) then
 some ([], 2, ())
 else
 gd (x0.all fun r => Nat.beq r.length 1) <|
 gM (0 + x0.length) 1 <|
 gW x0 (0 + x0.length) <|
 F0 (x1, x2, x0, 0, ()) (fun q2 =>
 gW q2.1 q2.1.length <|
 some (q2.1, 0, ())) (fun q3 =>
 gW q3.1 q3.1.length <|
 some (q3.1, q3.2.1, ()))
theorem yQn (f1 F0) : yB8.Eq [yBq.s f1] (.two .no (.two .no (.two .no (.two .no (.two (.two .no (.one (.lp (yHX.s F0)))) .no))))) (yMA f1 F0) := fun _ => by kernel_rfl
def yBZ (L : Nat) : yB8.T := yMA (yC9 L) (loop2 (yDM (yFn L) (loop1 (yB1) L)) L)
theorem yOA {α : Type} (L : Nat) : LO Tryz.f91 [1, 1, 1, 1, 0, 1, 0, 0, 1, 0, 0, 1, 1, 1, 0] (yHa.s (α := α) (loop1 (yB1) L)) := yHa.k (yOl) tN (lN _) (by kernel_rfl) L
theorem yN9 {α : Type} (L : Nat) : LO Tryz.f91 [1, 1, 1, 1, 0, 1, 0] (yHX.s (α := α) (loop2 (yDM (yFn L) (loop1 (yB1) L)) L)) := yHX.k (yOk (yFn L) (loop1 (yB1) L)) (tC (yQC L).ent tN) (lS (lN _) (lS (lB (lS (lN _) (lS (lN _) (lS (lN _) (lB (lL (yOA L))))))) (lN _))) (by kernel_rfl) L
theorem yKB (L : Nat) : yB8.C (yBZ L) := yB8.c (yQn (yC9 L) (loop2 (yDM (yFn L) (loop1 (yB1) L)) L)) (tC (yI8 L).ent tN) Tryz.func91 (by kernel_rfl) (lS (lN _) (lS (lN _) (lS (lN _) (lS (lN _) (lS (lS (lN _) (lB (lL (yN9 L)))) (lN _))))))
end Go.Proofs.YtakljpcmbpaeaaaGreat
