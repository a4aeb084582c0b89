/- The walks of geo: end, regions$1, regions. -/
import Derived.Test.YtakljpcmbpaeaaaGreatMountErrorsM02
import Derived.Deep.RegionHeld3
import Derived.StillTailTactics
import Derived.IntWalk
import Derived.Test.YtakljpcmbpaeaaaGreatMountErrorsM01
import Derived.BigRegion
namespace Go.Proofs.YtakljpcmbpaeaaaGreat
open Go.RowKit

theorem end_any (f m : Int) (w : World) (h1 : -1000000000 ≤ f) (h2 : f ≤ 1000000000) (h3 : -1000000000 ≤ m) (h4 : m ≤ 1000000000) :
    Calls Tryz.prog 168 #[.agg #[.int .i64 f, .int .i64 m]] w fun e w' => e = .returned (.int .i64 (f + m)) ∧ Below w.heap.size w w' := by
  go_enter Tryz.func168, Tryz.ntmps168
  go_wp2
  go_ret
  exact ⟨rfl, (Below.refl _ _).alloc (Nat.le_refl _) _⟩

def rcell (r : Rg) : List Value := [.int .i64 r.first, .int .i64 r.many, .int .i8 r.kind, .int .i64 r.per]
def rcells (l : List Rg) : List Value := l.flatMap rcell
theorem rcells_snoc (l : List Rg) (r : Rg) : rcells (l ++ [r]) = rcells l ++ rcell r := by simp [rcells]
theorem rcells_get (l : List Rg) (i : Nat) (h : i < l.length) : (rcells l)[i * 4]? = some (.int .i64 l[i].first) ∧ (rcells l)[i * 4 + 1]? = some (.int .i64 l[i].many) ∧ (rcells l)[i * 4 + 2]? = some (.int .i8 l[i].kind) ∧ (rcells l)[i * 4 + 3]? = some (.int .i64 l[i].per) := by
  induction l generalizing i with
  | nil => simp at h
  | cons p l ih =>
    cases i with
    | zero => simp [rcells, rcell]
    | succ i =>
      have := ih i (by simpa using h)
      simp only [rcells, List.flatMap_cons, rcell] at this ⊢
      rw [show (i + 1) * 4 = i * 4 + 4 by omega, show i * 4 + 4 + 1 = i * 4 + 1 + 4 by omega, show i * 4 + 4 + 2 = i * 4 + 2 + 4 by omega, show i * 4 + 4 + 3 = i * 4 + 3 + 4 by omega]
      simpa using this
theorem rg_info : (Tryz.prog.info? 252).map (fun i => (i.zero, i.size, i.bytes)) = some (some (.agg #[.int .i64 0, .int .i64 0, .int .i8 0, .int .i64 0]), 4, 32) := by kernel_rfl

theorem rcell_one (r : Rg) : ∀ u ∈ rcell r, u.oneCell' = true := by
  intro u hu
  simp only [rcell, List.mem_cons, List.not_mem_nil, or_false] at hu
  rcases hu with rfl | rfl | rfl | rfl <;> rfl
theorem blk_news {w : World} {g : Nat} {t : TypeId} {cs : Array Value} {xs : List Value} (h : Blk w g t cs) (hx : cs.toList = xs) : ∀ j u, xs[j]? = some u → w.cell? ((⟨g, 0, none⟩ : Addr).add j) = some u := by
  subst hx
  intro j u hu
  have : (⟨g, 0, none⟩ : Addr).add j = ⟨g, j, none⟩ := by unfold Addr.add; split <;> simp_all
  rw [this, h.cell j]
  simpa using hu

set_option maxHeartbeats 1000000 in
set_option maxRecDepth 100000 in
theorem rput_any (k m p a : Int) (ga gl B0 B : Nat) (v : Value) (rs : List Rg) (w : World) (hm0 : 0 ≤ m) (hm1 : m ≤ 1000) (hp0 : 0 ≤ p) (hp1 : p ≤ 1000) (ha0 : 0 ≤ a) (ha1 : a ≤ 100000000) (hrl : rs.length ≤ 100)
    (hA : Blk w ga 3 #[.int .i64 a]) (hL : Blk w gl 305 #[v]) (hown : w.ownsRow B 252 4 v rs.length (rcells rs)) (h1 : B0 ≤ ga) (h2 : B0 ≤ gl) (h3 : B0 ≤ B) (h4 : B ≤ w.heap.size) :
    Calls Tryz.prog 277 #[.int .i8 k, .int .i64 m, .int .i64 p, .pointer (some ⟨ga, 0, none⟩), .pointer (some ⟨gl, 0, none⟩)] w fun e w' => e = .returned (.tuple #[]) ∧
      ∃ v', Blk w' ga 3 #[.int .i64 (a + m * p)] ∧ Blk w' gl 305 #[v'] ∧ w'.ownsRow B 252 4 v' (rs ++ [Rg.mk a (m * p) k p]).length (rcells (rs ++ [Rg.mk a (m * p) k p])) ∧ Below B0 w w' ∧ w.heap.size ≤ w'.heap.size := by
  obtain ⟨i0, hi0, hz0, hz1, hz2⟩ := info_parts rg_info
  obtain ⟨A1, c1, rfl, -, -, -⟩ := own_reads hown
  have hmp := mul_bd hm0 hm1 hp0 hp1
  obtain ⟨q, hq⟩ : ∃ q, q = m * p := ⟨_, rfl⟩
  have hq' : m * p = q := hq.symm
  rw [← hq] at hmp ⊢
  have HQ := Lib.hid hq; clear hq
  have ca : w.cell? ⟨ga, 0, none⟩ = some (.int .i64 a) := hA.cell 0
  have fa := hA.frozen 0
  have cl : w.cell? ⟨gl, 0, none⟩ = some (.slice A1 rs.length c1) := hL.cell 0
  have fl := hL.frozen 0
  have hal := hA.lt
  have hll := hL.lt
  have hne : ga ≠ gl := hA.ne_ hL (by decide)
  have HA := Lib.hid hA; clear hA
  have HL := Lib.hid hL; clear hL
  have HO := Lib.hid hown; clear hown
  have HNE := Lib.hid hne; clear hne
  go_enter Tryz.func277, Tryz.ntmps277
  have hnb : Blk ((w.alloc (Obj.cells #[.int .i64 a, .int .i64 q, .int .i8 k, .int .i64 p] 252)).alloc (Obj.cells #[.int .i64 a, .int .i64 q, .int .i8 k, .int .i64 p] 252)) (w.heap.size + 1) 252 #[.int .i64 a, .int .i64 q, .int .i8 k, .int .i64 p] := by
    have h := Blk.new (w.alloc (Obj.cells #[.int .i64 a, .int .i64 q, .int .i8 k, .int .i64 p] 252)) 252 #[.int .i64 a, .int .i64 q, .int .i8 k, .int .i64 p]
    rwa [show (w.alloc (Obj.cells #[.int .i64 a, .int .i64 q, .int .i8 k, .int .i64 p] 252)).heap.size = w.heap.size + 1 by simp] at h
  have HNB := Lib.hid hnb; clear hnb
  go_wp2_with (first
    | (at_builtin; refine wpList_append_own _ rfl (.tmp 17) (.tmp 19) 305 rfl B 252 i0 _ 4 32 Tryz.underlying305 hi0 hz0 hz1 hz2 rfl (by decide) (.slice A1 rs.length c1) rs.length (rcells rs) (by rfl) (by exact (HO.out.alloc _).alloc _) ⟨w.heap.size + 1, 0, none⟩ 1 1 (rcell (Rg.mk a q k p)) (by rfl) (by rfl) (by exact blk_news HNB.out rfl) (rcell_one _) (by unfold maxLen; omega) (by omega) (by simp; omega) ?_; intro v1 w1 hown1 hg1 _; (have hne1 : (Value.slice A1 rs.length c1).ownBlock ≠ some gl := own_blk_ne HO.out HL.out (by decide)); (have hne2 : (Value.slice A1 rs.length c1).ownBlock ≠ some ga := own_blk_ne HO.out HA.out (by decide)); (have hA1 := ((HA.out.alloc _).alloc _).grown hg1 (Ne.symm hne2)); (have hL1 := ((HL.out.alloc _).alloc _).grown hg1 (Ne.symm hne1)); (have hR1 := ((Blk.new w 252 #[.int .i64 a, .int .i64 q, .int .i8 k, .int .i64 p]).alloc (Obj.cells #[.int .i64 a, .int .i64 q, .int .i8 k, .int .i64 p] 252))); (have hlt1 : ∀ kk, (Value.slice A1 rs.length c1).ownBlock = some kk → kk < w.heap.size := fun kk e => (HO.out.lt kk e).2); (have hR1' := hR1.grown hg1 (fun e => by have := hlt1 _ e.symm; omega)); obtain ⟨A2, c2, rfl, -, -, -⟩ := own_reads hown1; have ca' := hA1.cell 0; have fa' := hA1.frozen 0; have cl' := hL1.cell 0; have fl' := hL1.frozen 0; obtain ⟨r0, r1, r2, r3⟩ := hR1'.cells4; have HA1 := Lib.hid hA1; have HL1 := Lib.hid hL1; have HO1 := Lib.hid hown1; have HG1 := Lib.hid hg1; clear hA1 hL1 hown1 hg1 hR1 hR1' hlt1 hne1 hne2 ca fa cl fl))
  refine (end_any a q _ (by omega) (by omega) (by omega) (by omega)).mono ?_
  rintro e w3 ⟨rfl, hB3⟩
  clear ca' fa' cl' fl' r0 r1 r2 r3
  have hA2 := HA1.out.far (p := ⟨gl, 0, none⟩) HNE.out (.slice A2 (rs.length + 1) c2)
  have hL2 := HL1.out.set_ 0 (.slice A2 (rs.length + 1) c2)
  have hO2 := ownsRow_setCell_other HO1.out (a := ⟨gl, 0, none⟩) (own_blk_ne HO1.out HL1.out (by decide)) (.slice A2 (rs.length + 1) c2)
  have hA3 := hA2.below hB3 hA2.lt
  have hL3 := hL2.below hB3 hL2.lt
  have hO3 := own_below hO2 hB3
  have hBA : Below B0 w w3 := below_step (((((Below.refl _ _).alloc (by omega) _).alloc (by simp; omega) _).grown HG1.out (by simp; omega) (fun kk e => Nat.le_trans h3 (HO.out.lt kk e).1)).setCell h2 _) hB3 (by have := HL1.out.lt; simp [World.setCell]; omega)
  have ca := hA3.cell 0
  have fa := hA3.frozen 0
  have HA3 := Lib.hid hA3
  have HL3 := Lib.hid hL3
  have HO3 := Lib.hid hO3
  have HBA := Lib.hid hBA
  clear hA2 hL2 hO2 hA3 hL3 hO3 hBA hB3
  go_wp2_with fail
  go_end0
  refine ⟨rfl, .slice A2 (rs.length + 1) c2, HA3.out.set_ 0 _, HL3.out.far (p := ⟨ga, 0, none⟩) (Ne.symm HNE.out) _, ?_, HBA.out.setCell h1 _, by have := HBA.out.size; simpa [World.setCell] using this⟩
  have h5 := ownsRow_setCell_other HO3.out (a := ⟨ga, 0, none⟩) (own_blk_ne HO3.out HA3.out (by decide)) (.int .i64 (a + q))
  rw [rcells_snoc, List.length_append]
  exact h5
end Go.Proofs.YtakljpcmbpaeaaaGreat

namespace Go.Proofs.YtakljpcmbpaeaaaGreat
open Go.RowKit

theorem bodyPost_ret_cell {P : Program} {fn : Func} {p : Tmp} {ty e : TypeId} {R : Ending → World → Prop} {a : Act} {w : World} {A : Addr} {s : Option Addr} {n c : Nat} (h : fn.results = #[.cell p ty])
    (hp : a.tmps.getD p undef = .pointer (some A)) (hu : P.underlying ty = some (.slice e)) (hc : w.cell? A = some (.slice s n c)) (hd : a.defers = []) (hR : R (.returned (.slice s n c)) w) : bodyPost P fn R .ret a w := by
  refine bodyPost_ret (v := .slice s n c) ?_ hd hR
  have hp' : a.tmps[p]?.getD undef = .pointer (some A) := by simpa using hp
  simp [results, h, hp', asAddr, loadVar, isAgg, run_underlying hu, go_sem, hc]

def RgsPost (w : World) (g : Geo) (e : Ending) (w' : World) : Prop :=
  ∃ v, e = .returned v ∧ w'.ownsRow (w.heap.size + 1) 252 4 v (if g.may = true then g.rgs else []).length (rcells (if g.may = true then g.rgs else [])) ∧ Below w.heap.size w w'

set_option maxHeartbeats 4000000 in
set_option maxRecDepth 100000 in
theorem regions_any (g : Geo) (w : World) (hw1 : -9223372036854775808 ≤ g.wait) (hw2 : g.wait ≤ 9223372036854775807) :
    Calls Tryz.prog 220 #[g.v] w fun e w' => RgsPost w g e w' := by
  have hmf : ∀ (fn : Fn) (first cap : Array Value) (w : World), (Instr.makeFunc fn first cap).run Tryz.prog w = .ok (.func fn first cap) w := fun _ _ _ _ => rfl
  have hmay := fun w => May_any g w hw1 hw2
  by_cases hm : g.may = true
  · have hok := Geo.may_ok hm
    have hsj := hok.sj
    have hbp := hok.bp
    rw [hm] at hmay
    have HP : Hid (∀ e w', RgsPost w g e w' ↔ ∃ v, e = .returned v ∧ w'.ownsRow (w.heap.size + 1) 252 4 v g.rgs.length (rcells g.rgs) ∧ Below w.heap.size w w') := fun e w' => by unfold RgsPost; rw [if_pos hm]
    obtain ⟨k1, k2, k3, k4, k5, k6, k7, k8, k9, k10, k11, k12, k13, k14, k15⟩ := hok
    obtain ⟨n, s, b, p, j, l, le, wt⟩ := g
    dsimp only [Geo.v, Geo.rgs] at *
    have HM := Lib.hid hmay; clear hmay hm
    go_enter Tryz.func220, Tryz.ntmps220
    go_wp2_with fail
    refine (HM.out _).mono ?_
    rintro e w1 ⟨rfl, hB1⟩
    have hbG : Blk w1 w.heap.size 23 #[.int .i64 n, .int .i64 s, .int .i64 b, .int .i64 p, .int .i64 j, .int .i64 l, .int .i64 le, .int .i64 wt] := ((Blk.new w _ _).alloc _).below hB1 (by simp; omega)
    have hbL : Blk w1 (w.heap.size + 1) 305 #[.slice none 0 0] := by
      have h := Blk.new (w.alloc (Obj.cells #[.int .i64 n, .int .i64 s, .int .i64 b, .int .i64 p, .int .i64 j, .int .i64 l, .int .i64 le, .int .i64 wt] 23)) 305 #[.slice none 0 0]
      rw [show (w.alloc (Obj.cells #[.int .i64 n, .int .i64 s, .int .i64 b, .int .i64 p, .int .i64 j, .int .i64 l, .int .i64 le, .int .i64 wt] 23)).heap.size = w.heap.size + 1 by simp] at h
      exact h.below hB1 (by simp)
    have hB := below_step (below2 w _ _) hB1 (by simp; omega)
    have hgs := hbL.lt
    obtain ⟨g0, g1, g2, g3, g4, g5, g6, g7⟩ := hbG.cells8
    have HG := Lib.hid hbG; clear hbG
    have HL := Lib.hid hbL; clear hbL
    have HB := Lib.hid hB; clear hB hB1
    go_wp2_with fail
    have HA := Lib.hid (Blk.new w1 3 #[.int .i64 0])
    have HL0 := Lib.hid (HL.out.alloc (Obj.cells #[.int .i64 0] 3)); clear HL
    have HG0 := Lib.hid (HG.out.alloc (Obj.cells #[.int .i64 0] 3)); clear HG
    have HB0 := Lib.hid (HB.out.alloc HB.out.size (Obj.cells #[.int .i64 0] 3)); clear HB
    have HO : Hid ((w1.alloc (Obj.cells #[.int .i64 0] 3)).ownsRow (w.heap.size + 1) 252 4 (.slice none 0 0) 0 []) := World.ownsRow_nil _ _ _ _
    have hs0 : w.heap.size + 1 < (w1.alloc (Obj.cells #[.int .i64 0] 3)).heap.size := by simp; omega
    have HS0 := Lib.hid hs0; clear hs0
    refine (rput_any 1 (1) (1) (0) w1.heap.size (w.heap.size + 1) (w.heap.size + 1) (w.heap.size + 1) _ ([] : List Rg) _ (by omega) (by omega) (by omega) (by omega) (by omega) (by omega) (by simp) HA.out HL0.out HO.out (by omega) (by omega) (by omega) (by have := HS0.out; omega)).mono ?_
    rw [show (0 : Int) + (1) * (1) = 1 from by omega, show ((1 : Int)) * (1) = 1 from by omega]
    rintro e w2 ⟨rfl, v2, hA, hL, hO, hBB, hsz⟩
    clear g0 g1 g2 g3 g4 g5 g6 g7 HA HL0 HO
    have hbG := HG0.out.below hBB (by omega)
    have hB := HB0.out.trans (hBB.mono (by omega))
    have hs1 := Nat.lt_of_lt_of_le HS0.out hsz
    clear HG0 HB0 HS0 hBB hsz
    obtain ⟨g0, g1, g2, g3, g4, g5, g6, g7⟩ := hbG.cells8
    have HA := Lib.hid hA; clear hA
    have HO := Lib.hid hO; clear hO
    have HL0 := Lib.hid hL
    have HG0 := Lib.hid hbG; clear hbG
    have HB0 := Lib.hid hB; clear hB
    have HS0 := Lib.hid hs1; clear hs1
    clear hL
    go_wp2_with fail
    refine (rput_any 2 (n) (1) (1) w1.heap.size (w.heap.size + 1) (w.heap.size + 1) (w.heap.size + 1) _ [Rg.mk (0) (1) 1 (1)] _ (by omega) (by omega) (by omega) (by omega) (by omega) (by omega) (by simp) HA.out HL0.out HO.out (by omega) (by omega) (by omega) (by have := HS0.out; omega)).mono ?_
    rw [show (1 : Int) + (n) * (1) = 1 + n from by omega, show ((n : Int)) * (1) = n from by omega]
    rintro e w3 ⟨rfl, v3, hA, hL, hO, hBB, hsz⟩
    clear g0 g1 g2 g3 g4 g5 g6 g7 HA HL0 HO
    have hbG := HG0.out.below hBB (by omega)
    have hB := HB0.out.trans (hBB.mono (by omega))
    have hs1 := Nat.lt_of_lt_of_le HS0.out hsz
    clear HG0 HB0 HS0 hBB hsz
    obtain ⟨g0, g1, g2, g3, g4, g5, g6, g7⟩ := hbG.cells8
    have HA := Lib.hid hA; clear hA
    have HO := Lib.hid hO; clear hO
    have HL0 := Lib.hid hL
    have HG0 := Lib.hid hbG; clear hbG
    have HB0 := Lib.hid hB; clear hB
    have HS0 := Lib.hid hs1; clear hs1
    clear hL
    go_wp2_with fail
    refine (rput_any 3 (n) (1) (1 + n) w1.heap.size (w.heap.size + 1) (w.heap.size + 1) (w.heap.size + 1) _ [Rg.mk (0) (1) 1 (1), Rg.mk (1) (n) 2 (1)] _ (by omega) (by omega) (by omega) (by omega) (by omega) (by omega) (by simp) HA.out HL0.out HO.out (by omega) (by omega) (by omega) (by have := HS0.out; omega)).mono ?_
    rw [show (1 + n : Int) + (n) * (1) = 1 + n + n from by omega, show ((n : Int)) * (1) = n from by omega]
    rintro e w4 ⟨rfl, v4, hA, hL, hO, hBB, hsz⟩
    clear g0 g1 g2 g3 g4 g5 g6 g7 HA HL0 HO
    have hbG := HG0.out.below hBB (by omega)
    have hB := HB0.out.trans (hBB.mono (by omega))
    have hs1 := Nat.lt_of_lt_of_le HS0.out hsz
    clear HG0 HB0 HS0 hBB hsz
    obtain ⟨g0, g1, g2, g3, g4, g5, g6, g7⟩ := hbG.cells8
    have HA := Lib.hid hA; clear hA
    have HO := Lib.hid hO; clear hO
    have HL0 := Lib.hid hL
    have HG0 := Lib.hid hbG; clear hbG
    have HB0 := Lib.hid hB; clear hB
    have HS0 := Lib.hid hs1; clear hs1
    clear hL
    go_wp2_with fail
    refine (rput_any 4 (l) (1) (1 + n + n) w1.heap.size (w.heap.size + 1) (w.heap.size + 1) (w.heap.size + 1) _ [Rg.mk (0) (1) 1 (1), Rg.mk (1) (n) 2 (1), Rg.mk (1 + n) (n) 3 (1)] _ (by omega) (by omega) (by omega) (by omega) (by omega) (by omega) (by simp) HA.out HL0.out HO.out (by omega) (by omega) (by omega) (by have := HS0.out; omega)).mono ?_
    rw [show (1 + n + n : Int) + (l) * (1) = 1 + n + n + l from by omega, show ((l : Int)) * (1) = l from by omega]
    rintro e w5 ⟨rfl, v5, hA, hL, hO, hBB, hsz⟩
    clear g0 g1 g2 g3 g4 g5 g6 g7 HA HL0 HO
    have hbG := HG0.out.below hBB (by omega)
    have hB := HB0.out.trans (hBB.mono (by omega))
    have hs1 := Nat.lt_of_lt_of_le HS0.out hsz
    clear HG0 HB0 HS0 hBB hsz
    obtain ⟨g0, g1, g2, g3, g4, g5, g6, g7⟩ := hbG.cells8
    have HA := Lib.hid hA; clear hA
    have HO := Lib.hid hO; clear hO
    have HL0 := Lib.hid hL
    have HG0 := Lib.hid hbG; clear hbG
    have HB0 := Lib.hid hB; clear hB
    have HS0 := Lib.hid hs1; clear hs1
    clear hL
    go_wp2_with fail
    refine (rput_any 6 (s) (1 + j) (1 + n + n + l) w1.heap.size (w.heap.size + 1) (w.heap.size + 1) (w.heap.size + 1) _ [Rg.mk (0) (1) 1 (1), Rg.mk (1) (n) 2 (1), Rg.mk (1 + n) (n) 3 (1), Rg.mk (1 + n + n) (l) 4 (1)] _ (by omega) (by omega) (by omega) (by omega) (by omega) (by omega) (by simp) HA.out HL0.out HO.out (by omega) (by omega) (by omega) (by have := HS0.out; omega)).mono ?_
    rw [show (1 + n + n + l : Int) + (s) * (1 + j) = 1 + n + n + l + s * (1 + j) from by rfl, show ((s : Int)) * (1 + j) = s * (1 + j) from by rfl]
    rintro e w6 ⟨rfl, v6, hA, hL, hO, hBB, hsz⟩
    clear g0 g1 g2 g3 g4 g5 g6 g7 HA HL0 HO
    have hbG := HG0.out.below hBB (by omega)
    have hB := HB0.out.trans (hBB.mono (by omega))
    have hs1 := Nat.lt_of_lt_of_le HS0.out hsz
    clear HG0 HB0 HS0 hBB hsz
    obtain ⟨g0, g1, g2, g3, g4, g5, g6, g7⟩ := hbG.cells8
    have HA := Lib.hid hA; clear hA
    have HO := Lib.hid hO; clear hO
    have HL0 := Lib.hid hL
    have HG0 := Lib.hid hbG; clear hbG
    have HB0 := Lib.hid hB; clear hB
    have HS0 := Lib.hid hs1; clear hs1
    clear hL
    go_wp2_with fail
    refine (rput_any 7 (b) (p) (1 + n + n + l + s * (1 + j)) w1.heap.size (w.heap.size + 1) (w.heap.size + 1) (w.heap.size + 1) _ [Rg.mk (0) (1) 1 (1), Rg.mk (1) (n) 2 (1), Rg.mk (1 + n) (n) 3 (1), Rg.mk (1 + n + n) (l) 4 (1), Rg.mk (1 + n + n + l) (s * (1 + j)) 6 (1 + j)] _ (by omega) (by omega) (by omega) (by omega) (by omega) (by omega) (by simp) HA.out HL0.out HO.out (by omega) (by omega) (by omega) (by have := HS0.out; omega)).mono ?_
    rw [show (1 + n + n + l + s * (1 + j) : Int) + (b) * (p) = 1 + n + n + l + s * (1 + j) + b * p from by rfl, show ((b : Int)) * (p) = b * p from by rfl]
    rintro e w7 ⟨rfl, v7, hA, hL, hO, hBB, hsz⟩
    clear g0 g1 g2 g3 g4 g5 g6 g7 HA HL0 HO
    have hbG := HG0.out.below hBB (by omega)
    have hB := HB0.out.trans (hBB.mono (by omega))
    have hs1 := Nat.lt_of_lt_of_le HS0.out hsz
    clear HG0 HB0 HS0 hBB hsz
    obtain ⟨g0, g1, g2, g3, g4, g5, g6, g7⟩ := hbG.cells8
    have HA := Lib.hid hA; clear hA
    have HO := Lib.hid hO; clear hO
    have HL0 := Lib.hid hL
    have HG0 := Lib.hid hbG; clear hbG
    have HB0 := Lib.hid hB; clear hB
    have HS0 := Lib.hid hs1; clear hs1
    obtain ⟨A7, c7, rfl, -, -, -⟩ := own_reads HO.out
    have ql := hL.cell 0
    have qf := hL.frozen 0
    clear hL
    go_wp2_with fail
    have hL8 := HL0.out.set_ 0 (.slice A7 6 c7)
    have hO8 := ownsRow_setCell_other HO.out (a := ⟨w.heap.size + 1, 0, none⟩) (own_blk_ne HO.out HL0.out (by decide)) (.slice A7 6 c7)
    have hB8 := HB0.out.setCell (p := ⟨w.heap.size + 1, 0, none⟩) (by simp) (.slice A7 6 c7)
    have hq8 : (w7.setCell ⟨w.heap.size + 1, 0, none⟩ (.slice A7 6 c7)).cell? ⟨w.heap.size + 1, 0, none⟩ = some (.slice A7 6 c7) := hL8.cell 0
    refine bodyPost_ret_cell rfl rfl Tryz.underlying305 hq8 rfl ?_
    rw [HP.out]
    exact ⟨_, rfl, hO8, hB8⟩
  · have hmf' : g.may = false := by simpa using hm
    rw [hmf'] at hmay
    have HP : Hid (∀ e w', RgsPost w g e w' ↔ ∃ v, e = .returned v ∧ w'.ownsRow (w.heap.size + 1) 252 4 v 0 [] ∧ Below w.heap.size w w') := fun e w' => by unfold RgsPost; rw [if_neg hm]; rfl
    obtain ⟨n, s, b, p, j, l, le, wt⟩ := g
    dsimp only [Geo.v] at *
    have HM := Lib.hid hmay; clear hmay hm hmf'
    go_enter Tryz.func220, Tryz.ntmps220
    go_wp2_with fail
    refine (HM.out _).mono ?_
    rintro e w1 ⟨rfl, hB1⟩
    have hbL : Blk w1 (w.heap.size + 1) 305 #[.slice none 0 0] := by
      have h := Blk.new (w.alloc (Obj.cells #[.int .i64 n, .int .i64 s, .int .i64 b, .int .i64 p, .int .i64 j, .int .i64 l, .int .i64 le, .int .i64 wt] 23)) 305 #[.slice none 0 0]
      rw [show (w.alloc (Obj.cells #[.int .i64 n, .int .i64 s, .int .i64 b, .int .i64 p, .int .i64 j, .int .i64 l, .int .i64 le, .int .i64 wt] 23)).heap.size = w.heap.size + 1 by simp] at h
      exact h.below hB1 (by simp)
    have hB := below_step (below2 w _ _) hB1 (by simp; omega)
    have ql := hbL.cell 0
    have qf := hbL.frozen 0
    have HL := Lib.hid hbL; clear hbL
    have HB := Lib.hid hB; clear hB hB1
    go_wp2_with fail
    have hL8 := HL.out.set_ 0 (.slice none 0 0)
    have hB8 := HB.out.setCell (p := ⟨w.heap.size + 1, 0, none⟩) (by simp) (.slice none 0 0)
    have hq8 : (w1.setCell ⟨w.heap.size + 1, 0, none⟩ (.slice none 0 0)).cell? ⟨w.heap.size + 1, 0, none⟩ = some (.slice none 0 0) := hL8.cell 0
    refine bodyPost_ret_cell rfl rfl Tryz.underlying305 hq8 rfl ?_
    rw [HP.out]
    exact ⟨_, rfl, World.ownsRow_nil _ _ _ _, hB8⟩
end Go.Proofs.YtakljpcmbpaeaaaGreat

namespace Go.Proofs.YtakljpcmbpaeaaaGreat
open Go.RowKit

theorem ret_blk {P : Program} {fn : Func} {p : Tmp} {ty : TypeId} {R : Ending → World → Prop} {a : Act} {w : World} {g : Nat} {cs : Array Value} {d : TypeDesc} (h : fn.results = #[.cell p ty])
    (hp : a.tmps.getD p undef = .pointer (some ⟨g, 0, none⟩)) (hb : Blk w g ty cs) (hu : P.underlying ty = some d) (hd : (match d with | .struct _ | .array _ _ => true | _ => false) = true) (hi : (P.info? ty).map (·.size) = some cs.size)
    (hdf : a.defers = []) (hR : R (.returned (.agg cs)) w) : bodyPost P fn R .ret a w :=
  bodyPost_ret (v := .agg cs) (results_cell_row h _ _ g ty cs (0, 0) _ hp hb hu hd hi) hdf hR

def Geo.rgsM (g : Geo) : List Rg := if g.may = true then g.rgs else []
def noRg : Rg := ⟨0, 0, 0, 1⟩
def findR (l : List Rg) (k : Int) : Rg := (l.find? fun r => decide (r.kind = k)).getD noRg
abbrev rgV (r : Rg) : Value := .agg #[.int .i64 r.first, .int .i64 r.many, .int .i8 r.kind, .int .i64 r.per]

theorem find_at {l : List Rg} {k : Int} {j : Nat} (hj : j < l.length) (hk : l[j].kind = k) (hn : ∀ t (h : t < l.length), t < j → l[t].kind ≠ k) : findR l k = l[j] := by
  unfold findR
  have : l.find? (fun r => decide (r.kind = k)) = some l[j] := by
    rw [List.find?_eq_some_iff_getElem]
    refine ⟨by simp [hk], j, hj, rfl, fun t ht => ?_⟩
    have := hn t (by omega) ht
    simp [this]
  rw [this]; rfl
theorem find_none {l : List Rg} {k : Int} (hn : ∀ t (h : t < l.length), l[t].kind ≠ k) : findR l k = noRg := by
  unfold findR
  have : l.find? (fun r => decide (r.kind = k)) = none := by
    rw [List.find?_eq_none]
    intro r hr
    obtain ⟨t, ht, rfl⟩ := List.getElem_of_mem hr
    simp [hn t ht]
  rw [this]; rfl
theorem reads_rg {w : World} {B : Nat} {A : Option Addr} {l : List Rg} (h : Reads w B 4 A l.length (rcells l)) {j : Nat} (hj : j < l.length) :
    ∃ ad, A = some ad ∧ ad.block < B ∧ w.cell? (ad.add (j * 4)) = some (.int .i64 l[j].first) ∧ w.cell? ⟨(ad.add (j * 4)).block, (ad.add (j * 4)).off + 1, none⟩ = some (.int .i64 l[j].many) ∧
      w.cell? ⟨(ad.add (j * 4)).block, (ad.add (j * 4)).off + 2, none⟩ = some (.int .i8 l[j].kind) ∧ w.cell? ⟨(ad.add (j * 4)).block, (ad.add (j * 4)).off + 3, none⟩ = some (.int .i64 l[j].per) := by
  obtain ⟨ad, rfl, hb, hc⟩ := h.2 (by omega)
  obtain ⟨h0, h1, h2, h3⟩ := rcells_get l j hj
  have e : ∀ t, 0 < t → ad.add (j * 4 + t) = ⟨(ad.add (j * 4)).block, (ad.add (j * 4)).off + t, none⟩ := fun t ht => by
    rw [← add_of_add]
    show (ad.add (j * 4)).add t = _
    generalize ad.add (j * 4) = z
    unfold Addr.add
    rw [if_neg (by omega)]
  exact ⟨ad, rfl, hb, hc _ _ h0, by rw [← e 1 (by omega)]; exact hc _ _ h1, by rw [← e 2 (by omega)]; exact hc _ _ h2, by rw [← e 3 (by omega)]; exact hc _ _ h3⟩

set_option maxHeartbeats 2000000 in
set_option maxRecDepth 100000 in
theorem find_any (g : Geo) (k : Int) (w : World) (hw1 : -9223372036854775808 ≤ g.wait) (hw2 : g.wait ≤ 9223372036854775807) :
    Calls Tryz.prog 167 #[g.v, .int .i8 k] w fun e w' => e = .returned (rgV (findR g.rgsM k)) ∧ Below w.heap.size w w' := by
  have hreg := fun w => regions_any g w hw1 hw2
  have hrp : ∀ w e w', RgsPost w g e w' ↔ ∃ v, e = .returned v ∧ w'.ownsRow (w.heap.size + 1) 252 4 v g.rgsM.length (rcells g.rgsM) ∧ Below w.heap.size w w' := fun w e w' => Iff.rfl
  have hlen : g.rgsM.length ≤ 6 := by unfold Geo.rgsM; split <;> simp [Geo.rgs]
  have hfat := fun j => @find_at g.rgsM k j
  have hfno := @find_none g.rgsM k
  obtain ⟨n, s, b, p, jj, l, le, wt⟩ := g
  dsimp only [Geo.v] at *
  generalize Geo.rgsM ⟨n, s, b, p, jj, l, le, wt⟩ = rl at *
  have HREG := Lib.hid hreg; clear hreg
  have HRP := Lib.hid hrp; clear hrp
  have HAT := Lib.hid hfat; clear hfat
  have HNO := Lib.hid hfno; clear hfno
  go_enter Tryz.func167, Tryz.ntmps167
  go_wp2_with fail
  refine (HREG.out _).mono ?_
  intro e w1 hpost
  rw [HRP.out] at hpost
  obtain ⟨v, rfl, hown, hB1⟩ := hpost
  have hres : Blk w1 (w.heap.size + 1) 252 #[.int .i64 0, .int .i64 0, .int .i8 0, .int .i64 0] := by
    have h := Blk.new (w.alloc (Obj.cells #[.int .i64 n, .int .i64 s, .int .i64 b, .int .i64 p, .int .i64 jj, .int .i64 l, .int .i64 le, .int .i64 wt] 23)) 252 #[.int .i64 0, .int .i64 0, .int .i8 0, .int .i64 0]
    rw [show (w.alloc (Obj.cells #[.int .i64 n, .int .i64 s, .int .i64 b, .int .i64 p, .int .i64 jj, .int .i64 l, .int .i64 le, .int .i64 wt] 23)).heap.size = w.heap.size + 1 by simp] at h
    exact h.below hB1 (by simp)
  have hB := below_step (below2 w _ _) hB1 (by simp; omega)
  obtain ⟨A, c, rfl, -, -, hr⟩ := own_reads hown
  have HR := Lib.hid hr; clear hr hown hB1
  have HRES := Lib.hid hres; clear hres
  have HB := Lib.hid hB; clear hB
  go_wp2_with fail
  go_loopg [10] rl.length (fun gk i wr => ∃ jx : Nat, jx ≤ rl.length ∧ gk = rl.length - jx ∧ i = .int .i64 jx ∧ (∀ t (h : t < rl.length), t < jx → rl[t].kind ≠ k) ∧ Below w1.heap.size w1 wr)
  case atStart => exact ⟨0, by omega, rfl, rfl, fun t _ h => absurd h (by omega), Below.refl _ _⟩
  case round =>
    obtain ⟨jx, hj, rfl, rfl, hno, hBr⟩ := hrel
    have HN := Lib.hid hno; clear hno
    have hres2 := HRES.out.below hBr HRES.out.lt
    have hB2 := below_step HB.out hBr HB.out.size
    have hltr := hres2.lt
    by_cases hlt : jx < rl.length
    · obtain ⟨ad, rfl, had, x0, x1, x2, x3⟩ := reads_rg (HR.out.below hBr) hlt
      have hat := HAT.out jx hlt
      obtain ⟨r, hrr⟩ : ∃ r, rl[jx] = r := ⟨_, rfl⟩
      rw [hrr] at x0 x1 x2 x3 hat
      have HRR := Lib.hid hrr; clear hrr
      obtain ⟨rf, rm, rk, rp⟩ := r
      dsimp only at x0 x1 x2 x3 hat
      have HHAT := Lib.hid hat; clear hat
      have HB2 := Lib.hid hB2; clear hB2
      have HBR := Lib.hid hBr; clear hBr
      by_cases hk : rk = k
      · have hkb : (rk == k) = true := by simp [hk]
        obtain ⟨q0, q1, q2, q3⟩ := hres2.cells4
        obtain ⟨f0, f1, f2, f3⟩ := hres2.frozen4
        have hfr := HHAT.out hk HN.out
        have HFR := Lib.hid hfr; clear hfr hk
        have HRS := Lib.hid hres2; clear hres2
        go_wp2_with fail
        refine ret_blk (cs := #[.int .i64 rf, .int .i64 rm, .int .i8 rk, .int .i64 rp]) rfl rfl (by exact ((((HRS.out.set_ 0 _).set_ 1 _).set_ 2 _).set_ 3 _).alloc _) Tryz.underlying252 rfl (by kernel_rfl) rfl ?_
        rw [HFR.out]
        exact ⟨rfl, ((((HB2.out.setCell (by simp) _).setCell (by simp) _).setCell (by simp) _).setCell (by simp) _).alloc (by have := HB2.out.size; simpa [World.setCell] using this) _⟩
      · have hkb : (rk == k) = false := by simp [hk]
        clear hres2
        have HK := Lib.hid hk; clear hk
        go_wp2_with fail
        go_roundg (rl.length - (jx + 1))
        case rel =>
          refine ⟨jx + 1, by omega, rfl, by go_num, fun t h ht => ?_, HBR.out.alloc HBR.out.size _⟩
          rcases Nat.lt_or_ge t jx with h1 | h1
          · exact HN.out t h h1
          · obtain rfl : t = jx := by omega
            rw [HRR.out]; exact HK.out
        case measure => omega
    · obtain ⟨q0, q1, q2, q3⟩ := hres2.cells4
      obtain ⟨f0, f1, f2, f3⟩ := hres2.frozen4
      have hfr := HNO.out fun t h => HN.out t h (by omega)
      have HFR := Lib.hid hfr; clear hfr
      have HRS := Lib.hid hres2; clear hres2
      have HB2 := Lib.hid hB2; clear hB2 hBr
      go_wp2_with fail
      refine ret_blk (cs := #[.int .i64 0, .int .i64 0, .int .i8 0, .int .i64 1]) rfl rfl (by exact (((HRS.out.set_ 0 _).set_ 1 _).set_ 2 _).set_ 3 _) Tryz.underlying252 rfl (by kernel_rfl) rfl ?_
      rw [HFR.out]
      exact ⟨rfl, (((HB2.out.setCell (by simp) _).setCell (by simp) _).setCell (by simp) _).setCell (by simp) _⟩

set_option maxHeartbeats 400000 in
theorem at_any (f m k : Int) (w : World) (h1 : -1000000000 ≤ f) (h2 : f ≤ 1000000000) (h4 : m ≤ 1000000000) :
    Calls Tryz.prog 190 #[.agg #[.int .i64 f, .int .i64 m], .int .i64 k] w fun e w' => e = .returned (.int .i64 (if 0 ≤ k ∧ k < m then f + k else -1)) ∧ Below w.heap.size w w' := by
  by_cases hk : 0 ≤ k ∧ k < m
  · rw [if_pos hk]
    obtain ⟨h5, h6⟩ := hk
    go_enter Tryz.func190, Tryz.ntmps190
    go_wp2
    go_ret
    exact ⟨rfl, (Below.refl _ _).alloc (Nat.le_refl _) _⟩
  · rw [if_neg hk]
    by_cases h5 : 0 ≤ k
    · have h6 : m ≤ k := by omega
      go_enter Tryz.func190, Tryz.ntmps190
      go_wp2
      go_ret
      exact ⟨rfl, (Below.refl _ _).alloc (Nat.le_refl _) _⟩
    · have h6 : k < 0 := by omega
      clear hk
      go_enter Tryz.func190, Tryz.ntmps190
      go_wp2
      go_ret
      exact ⟨rfl, (Below.refl _ _).alloc (Nat.le_refl _) _⟩

theorem find_bd (g : Geo) (k : Int) : 0 ≤ (findR g.rgsM k).first ∧ (findR g.rgsM k).first ≤ 10000 ∧ 0 ≤ (findR g.rgsM k).many ∧ (findR g.rgsM k).many ≤ 10000 ∧ 1 ≤ (findR g.rgsM k).per ∧ (findR g.rgsM k).per ≤ 100 := by
  have key : ∀ r ∈ g.rgsM, 0 ≤ r.first ∧ r.first ≤ 10000 ∧ 0 ≤ r.many ∧ r.many ≤ 10000 ∧ 1 ≤ r.per ∧ r.per ≤ 100 := by
    intro r hr
    unfold Geo.rgsM at hr
    split at hr
    · rename_i hm
      have hok := Geo.may_ok hm
      have := hok.sj
      have := hok.bp
      obtain ⟨k1, k2, k3, k4, k5, k6, k7, k8, k9, k10, k11, k12, k13, k14, k15⟩ := hok
      simp only [Geo.rgs, List.mem_cons, List.not_mem_nil, or_false] at hr
      rcases hr with rfl | rfl | rfl | rfl | rfl | rfl <;> dsimp only <;> omega
    · cases hr
  unfold findR
  cases hf : g.rgsM.find? (fun r => decide (r.kind = k)) with
  | none => simp [noRg]
  | some r => exact key r (List.mem_of_find?_eq_some hf)

set_option maxHeartbeats 1000000 in
set_option maxRecDepth 100000 in
theorem of_any (g : Geo) (kd i k : Int) (w : World) (hw1 : -9223372036854775808 ≤ g.wait) (hw2 : g.wait ≤ 9223372036854775807) :
    Calls Tryz.prog 140 #[g.v, .int .i8 kd, .int .i64 i, .int .i64 k] w fun e w' => e = .returned (.int .i64 (ofS (findR g.rgsM kd) i k)) ∧ Below w.heap.size w w' := by
  have hfi := fun w => find_any g kd w hw1 hw2
  have hbd := find_bd g kd
  generalize findR g.rgsM kd = r at *
  obtain ⟨rf, rm, rk, rp⟩ := r
  obtain ⟨n, s, b, p, jj, l, le, wt⟩ := g
  dsimp only [Geo.v, rgV] at *
  obtain ⟨b1, b2, b3, b4, b5, b6⟩ := hbd
  have hq0 : 0 ≤ rm / rp := Int.ediv_nonneg (by omega) (by omega)
  have hq1 : rm / rp ≤ rm := Int.ediv_le_self _ (by omega)
  have hof : ofS ⟨rf, rm, rk, rp⟩ i k = if 0 ≤ i ∧ i < rm / rp ∧ 0 ≤ k ∧ k < rp then rf + (i * rp + k) else -1 := rfl
  rw [hof]
  clear hof
  obtain ⟨z, hz⟩ : ∃ z, z = if 0 ≤ i ∧ i < rm / rp ∧ 0 ≤ k ∧ k < rp then rf + (i * rp + k) else -1 := ⟨_, rfl⟩
  rw [← hz]
  have HZ := Lib.hid hz; clear hz
  have HF := Lib.hid hfi; clear hfi
  go_enter Tryz.func140, Tryz.ntmps140
  go_wp2_with fail
  refine (HF.out _).mono ?_
  rintro e w1 ⟨rfl, hB1⟩
  have hB := below_step ((Below.refl _ _).alloc (Nat.le_refl _) _) hB1 (by simp)
  have HB := Lib.hid hB; clear hB hB1
  by_cases hc : 0 ≤ i ∧ i < rm / rp ∧ 0 ≤ k ∧ k < rp
  · have hz2 : z = rf + (i * rp + k) := by rw [HZ.out, if_pos hc]
    have HZ2 := Lib.hid hz2; clear hz2 HZ
    obtain ⟨c1, c2, c3, c4⟩ := hc
    have hm0 : 0 ≤ i * rp := Int.mul_nonneg c1 (by omega)
    have hm1 : i * rp + k < rm := by
      have h1 : (i + 1) * rp ≤ rm / rp * rp := Int.mul_le_mul_of_nonneg_right (by omega) (by omega)
      have h2 := Int.ediv_mul_le rm (b := rp) (by omega)
      have h3 : (i + 1) * rp = i * rp + rp := by rw [Int.add_mul]; omega
      omega
    go_wp2_with fail
    refine (at_any rf rm (i * rp + k) _ (by omega) (by omega) (by omega)).mono ?_
    rw [if_pos ⟨by omega, hm1⟩]
    rintro e w2 ⟨rfl, hB2⟩
    go_wp2_with fail
    go_ret
    exact ⟨by rw [HZ2.out]; rfl, below_step (HB.out.alloc HB.out.size _) hB2 (by have := HB.out.size; simp; omega)⟩
  · have hz2 : z = -1 := by rw [HZ.out, if_neg hc]
    have HZ2 := Lib.hid hz2; clear hz2 HZ
    by_cases c1 : 0 ≤ i
    · by_cases c2 : i < rm / rp
      · by_cases c3 : 0 ≤ k
        · have c4 : rp ≤ k := by omega
          clear hc
          go_wp2_with fail
          go_ret
          exact ⟨by rw [HZ2.out]; rfl, HB.out.alloc HB.out.size _⟩
        · have c4 : k < 0 := by omega
          clear hc
          go_wp2_with fail
          go_ret
          exact ⟨by rw [HZ2.out]; rfl, HB.out.alloc HB.out.size _⟩
      · have c4 : rm / rp ≤ i := by omega
        clear hc
        go_wp2_with fail
        go_ret
        exact ⟨by rw [HZ2.out]; rfl, HB.out.alloc HB.out.size _⟩
    · have c4 : i < 0 := by omega
      clear hc
      go_wp2_with fail
      go_ret
      exact ⟨by rw [HZ2.out]; rfl, HB.out.alloc HB.out.size _⟩
end Go.Proofs.YtakljpcmbpaeaaaGreat

namespace Go.Proofs.YtakljpcmbpaeaaaGreat
open Go.RowKit

end Go.Proofs.YtakljpcmbpaeaaaGreat

namespace Go.Proofs.YtakljpcmbpaeaaaGreat
open Go.RowKit

theorem findM {g : Geo} (hm : g.may = true) (k : Int) : findR g.rgsM k = findR g.rgs k := by unfold Geo.rgsM; rw [if_pos hm]
theorem findN {g : Geo} (hm : ¬ g.may = true) (k : Int) : findR g.rgsM k = noRg := by unfold Geo.rgsM; rw [if_neg hm]; rfl
theorem of_no (i k : Int) : ofS noRg i k = -1 := by
  unfold ofS noRg
  dsimp only
  rw [if_neg (by simp only [Int.zero_ediv]; omega)]
theorem ofS_if {r : Rg} {i k : Int} {c : Prop} [Decidable c] {z : Int} (hc : (0 ≤ i ∧ i < r.many / r.per ∧ 0 ≤ k ∧ k < r.per) ↔ c) (hz : c → r.first + (i * r.per + k) = z) : ofS r i k = if c then z else -1 := by
  unfold ofS
  by_cases h : c
  · rw [if_pos h, if_pos (hc.2 h), hz h]
  · rw [if_neg h, if_neg (fun x => h (hc.1 x))]
theorem of_data (g : Geo) (i k : Int) : ofS (findR g.rgsM 7) i k = g.dataS i k := by
  unfold Geo.dataS
  by_cases hm : g.may = true
  · have hk := Geo.may_ok hm
    have h2 := hk.p1
    rw [findM hm, show findR g.rgs 7 = ⟨1 + g.nodes + g.nodes + g.log + g.slots * (1 + g.journal), g.blocks * g.per, 7, g.per⟩ from rfl]
    exact ofS_if (by simp only [hm, true_and]; rw [Int.mul_ediv_cancel _ (by omega)]) (fun _ => by dsimp only; omega)
  · rw [findN hm, of_no, if_neg (fun x => hm x.1)]
set_option maxHeartbeats 400000 in
theorem Data_any (g : Geo) (i k : Int) (w : World) (hw1 : -9223372036854775808 ≤ g.wait) (hw2 : g.wait ≤ 9223372036854775807) :
    Calls Tryz.prog 237 #[g.v, .int .i64 i, .int .i64 k] w fun e w' => e = .returned (.int .i64 (g.dataS i k)) ∧ Below w.heap.size w w' := by
  have h := fun w => of_any g 7 i k w hw1 hw2
  rw [of_data] at h
  generalize g.dataS i k = z at *
  dsimp only [Geo.v] at *
  have H := Lib.hid h; clear h
  go_enter Tryz.func237, Tryz.ntmps237
  go_wp2_with fail
  refine (H.out _).mono ?_
  rintro e w1 ⟨rfl, hB⟩
  go_wp2_with fail
  go_ret
  exact ⟨rfl, below_step ((Below.refl _ _).alloc (Nat.le_refl _) _) hB (by simp)⟩

end Go.Proofs.YtakljpcmbpaeaaaGreat

namespace Go.Proofs.YtakljpcmbpaeaaaGreat
open Go.RowKit

theorem own_own_ne {w : World} {b b' : Nat} {e e' : TypeId} {s s' n n' : Nat} {v v' : Value} {xs xs' : List Value} (h : w.ownsRow b e s v n xs) (h' : w.ownsRow b' e' s' v' n' xs') (hne : e ≠ e') : v.ownBlock = none ∨ v.ownBlock ≠ v'.ownBlock := by
  rcases h.2 with ⟨rfl, _⟩ | ⟨g, cap, cur, rfl, _, hg, _⟩
  · exact .inl rfl
  · refine .inr fun he => ?_
    exact own_blk_ne (t := e) h' hg (Ne.symm hne) he.symm
abbrev geoCells (g : Geo) : Array Value := #[.int .i64 g.nodes, .int .i64 g.slots, .int .i64 g.blocks, .int .i64 g.per, .int .i64 g.journal, .int .i64 g.log, .int .i64 g.lease, .int .i64 g.wait]
def cellsR (g : Geo) (l : List Pr) : List Pr × Int := if mayBk g l = true then (cellsL g l, 0) else ([], 2)
def CellsPost (w : World) (r : List Pr × Int) (e : Ending) (w' : World) : Prop :=
  ∃ v, e = .returned (.tuple #[v, .int .i64 r.2]) ∧ w'.ownsRow w.heap.size 165 2 v r.1.length (prCells r.1) ∧ Below w.heap.size w w'
theorem cell_info : (Tryz.prog.info? 165).map (fun i => (i.zero, i.size, i.bytes)) = some (some (.agg #[.int .i64 0, .string ⟨#[]⟩]), 2, 24) := by kernel_rfl
theorem cellsL_take (g : Geo) (l : List Pr) (j : Nat) (h : j < l.length) : cellsL g (l.take (j + 1)) = cellsL g (l.take j) ++ cellsOf g l[j] := by
  rw [List.take_succ_eq_append_getElem h, cellsL_snoc]
theorem cellsOf_take (g : Geo) (x : Pr) (k : Nat) (h : k < g.per.toNat) : (cellsOf g x).take (k + 1) = (cellsOf g x).take k ++ [⟨g.dataS x.n (k : Int), pieceB x.t k⟩] := by
  rw [List.take_succ_eq_append_getElem (by rw [cellsOf_length]; exact h)]
  congr 1
  simp [cellsOf]
theorem piecesL_get (per : Int) (t : ByteArray) (k : Nat) (h : k < per.toNat) : (txCells (piecesL per t))[k]? = some (.string (pieceB t k)) := by
  simp [txCells, piecesL, h]

set_option maxHeartbeats 4000000 in
set_option maxRecDepth 100000 in
theorem Cells_any (g : Geo) (A : Option Addr) (c : Nat) (l : List Pr) (w : World) (hw1 : -9223372036854775808 ≤ g.wait) (hw2 : g.wait ≤ 9223372036854775807) (hl : l.length ≤ 100000)
    (hr : Reads w w.heap.size 2 A l.length (prCells l)) :
    Calls Tryz.prog 183 #[g.v, .slice A l.length c] w fun e w' => CellsPost w (cellsR g l) e w' := by
  have HM := Lib.hid (fun w r => BMay_any g A c l w hw1 hw2 (by omega) r)
  have HR := Lib.hid hr; clear hr
  obtain ⟨i0, hi0, hz0, hz1, hz2⟩ := info_parts cell_info
  cases hmay : mayBk g l with
  | false =>
    have hres : cellsR g l = ([], 2) := by unfold cellsR; rw [hmay]; rfl
    rw [hres]
    rw [hmay] at HM
    clear hres hmay
    dsimp only [Geo.v]
    go_enter Tryz.func183, Tryz.ntmps183
    go_wp2_with fail
    refine (HM.out _ ((HR.out.alloc (Nat.le_refl _) _).more (by simp))).mono ?_
    rintro e w1 ⟨rfl, hB⟩
    have HB := Lib.hid (below_step ((Below.refl w.heap.size w).alloc (Nat.le_refl _) _) hB (by simp)); clear hB
    have HP : Hid (∃ v, Ending.returned (.tuple #[.slice none 0 0, .int .i64 2]) = .returned (.tuple #[v, .int .i64 2]) ∧ w1.ownsRow w.heap.size 165 2 v 0 (prCells []) ∧ Below w.heap.size w w1) := ⟨_, rfl, World.ownsRow_nil _ _ _ _, HB.out⟩
    go_wp2_with fail
    go_ret2
    exact HP.out
  | true =>
    have hres : cellsR g l = (cellsL g l, 0) := by unfold cellsR; rw [hmay]; rfl
    rw [hres]
    rw [hmay] at HM
    obtain ⟨hgm, hall⟩ := mayBk_all hmay
    have hok := Geo.may_ok hgm
    have hp1 := hok.p1
    have hp2 := hok.p2
    have HALL := Lib.hid hall; clear hall
    have HPC := Lib.hid (fun t w h => Pieces_ok g t w hgm h)
    have HDT := Lib.hid (fun i k w => Data_any g i k w hw1 hw2)
    obtain ⟨p, hp⟩ : ∃ p : Nat, p = g.per.toNat := ⟨_, rfl⟩
    have hp8 : p ≤ 8 := by omega
    have hp0 : 1 ≤ p := by omega
    have HPP := Lib.hid hp
    clear hres hmay hgm hok hp1 hp2 hp
    dsimp only [Geo.v] at *
    go_enter Tryz.func183, Tryz.ntmps183
    go_wp2_with fail
    refine (HM.out _ ((HR.out.alloc (Nat.le_refl _) _).more (by simp))).mono ?_
    rintro e w1 ⟨rfl, hB⟩
    have HG1 := Lib.hid ((Blk.new w 23 (geoCells g)).below hB (by simp))
    have HB1 := Lib.hid (below_step ((Below.refl w.heap.size w).alloc (Nat.le_refl _) _) hB (by simp)); clear hB
    go_wp2_with fail
    go_loopg [4, 18] l.length (fun k out i wr => ∃ j : Nat, j ≤ l.length ∧ k = l.length - j ∧ i = .int .i64 j ∧ wr.ownsRow w.heap.size 165 2 out (cellsL g (l.take j)).length (prCells (cellsL g (l.take j))) ∧ Blk wr w.heap.size 23 (geoCells g) ∧ Below w.heap.size w wr)
    case atStart => exact ⟨0, by omega, rfl, rfl, World.ownsRow_nil _ _ _ _, HG1.out, HB1.out⟩
    case round =>
      obtain ⟨j, hj, rfl, rfl, hown, hG, hB⟩ := hrel
      by_cases hlt : j < l.length
      · obtain ⟨ad, rfl, had, x0, x1⟩ := reads_pr ((HR.out.below hB).more hB.size) hlt
        have hxs := (HALL.out l[j] (List.getElem_mem hlt)).2.2
        have HTK := Lib.hid (cellsL_take g l j hlt)
        have hcl : (cellsL g (l.take j)).length ≤ 800000 := by
          rw [cellsL_length, ← HPP.out]
          have h1 : (l.take j).length ≤ 100000 := by simp; omega
          calc (l.take j).length * p ≤ 100000 * 8 := Nat.mul_le_mul h1 hp8
            _ = 800000 := rfl
        obtain ⟨x, hx⟩ : ∃ x, l[j] = x := ⟨_, rfl⟩
        rw [hx] at x0 x1 hxs HTK
        clear hx had
        obtain ⟨xn, xt⟩ := x
        dsimp only at x0 x1 hxs
        obtain ⟨q0, q1, q2, q3, q4, q5, q6, q7⟩ := hG.cells8
        have HG := Lib.hid hG; clear hG
        have hBl := hB.size
        have hGl := HG.out.lt
        have HB := Lib.hid hB; clear hB
        have HO := Lib.hid hown; clear hown
        have HCO := Lib.hid (fun k h => cellsOf_take g ⟨xn, xt⟩ k h)
        have HCOL := Lib.hid (cellsOf_length g ⟨xn, xt⟩)
        have HPG := Lib.hid (fun k h => piecesL_get g.per xt k h)
        generalize cellsL g (l.take j) = CL at *
        generalize cellsOf g ⟨xn, xt⟩ = CX at *
        dsimp only at HCO
        obtain ⟨wo, rfl⟩ : ∃ wo : World, wo = wr := ⟨_, rfl⟩
        go_wp2_with fail
        refine (HPC.out xt _ hxs).mono ?_
        rintro e w2 ⟨vp, rfl, hownp, hB2⟩
        rw [← HPP.out] at hownp
        obtain ⟨gp, cp, rfl, hgp, hgpl⟩ := hownp.form (by omega)
        have HX2 := Lib.hid ((Blk.new wo 191 #[.int .i64 xn, .string xt]).below hB2 (by simp))
        have HG2 := Lib.hid ((HG.out.alloc (Obj.cells #[.int .i64 xn, .string xt] 191)).below hB2 (by simp; omega))
        have HO2 := Lib.hid (own_below (HO.out.alloc (Obj.cells #[.int .i64 xn, .string xt] 191)) hB2)
        have HB2 := Lib.hid (below_step (HB.out.alloc HB.out.size _) hB2 (by simp; omega))
        have HOP := Lib.hid hownp
        clear hownp hB2 HO HB HG q0 q1 q2 q3 q4 q5 q6 q7 x0 x1
        go_wp2_with fail
        go_loopg [4, 31] p (fun k out i wr => ∃ (kx : Nat) (LL : List Pr), kx ≤ p ∧ k = p - kx ∧ i = .int .i64 kx ∧ LL = CL ++ CX.take kx ∧ wr.ownsRow w.heap.size 165 2 out LL.length (prCells LL) ∧ Blk wr w.heap.size 23 (geoCells g) ∧ Blk wr wo.heap.size 191 #[.int .i64 xn, .string xt] ∧ wr.ownsRow (wo.heap.size + 1) 9 1 (.slice (some ⟨gp, 0, none⟩) p cp) p (txCells (piecesL g.per xt)) ∧ Below w.heap.size w wr)
        case atStart => exact ⟨0, CL, by omega, rfl, rfl, by simp, HO2.out, HG2.out, HX2.out, by have := HOP.out; simpa using this, HB2.out⟩
        case round =>
          clear HO2 HG2 HX2 HOP HB2
          obtain ⟨kx, LL, hkx, rfl, rfl, hLL, hown, hG, hX, hOP, hB⟩ := hrel
          have hLLl : LL.length ≤ 800100 := by rw [hLL, List.length_append, List.length_take, HCOL.out]; omega
          have HLL := Lib.hid hLL; clear hLL
          by_cases hk : kx < p
          · have hcell := hOP.cellAt kx (by omega)
            rw [HPG.out kx (by rw [← HPP.out]; exact hk)] at hcell
            obtain ⟨q0, q1, q2, q3, q4, q5, q6, q7⟩ := hG.cells8
            have xc0 : wr.cell? ⟨wo.heap.size, 0, none⟩ = some (.int .i64 xn) := hX.cell 0
            have HSN := Lib.hid (HCO.out kx (by rw [← HPP.out]; exact hk))
            have HDK := Lib.hid (fun w => HDT.out xn (kx : Int) w)
            generalize pieceB xt kx = PX at *
            generalize g.dataS xn (kx : Int) = DX at *
            obtain ⟨A1, c1, rfl, -, -, -⟩ := own_reads hown
            have HO := Lib.hid hown; clear hown
            have HG := Lib.hid hG; clear hG
            have HX := Lib.hid hX; clear hX
            have HOP := Lib.hid hOP; clear hOP
            have HB := Lib.hid hB; clear hB
            go_wp2_with fail
            refine (HDK.out _).mono ?_
            rintro e w3 ⟨rfl, hB3⟩
            clear q0 q1 q2 q3 q4 q5 q6 q7 xc0 hcell
            have HO3 := Lib.hid (own_below HO.out hB3)
            have HG3 := Lib.hid (HG.out.below hB3 HG.out.lt)
            have HX3 := Lib.hid (HX.out.below hB3 HX.out.lt)
            have HOP3 := Lib.hid (own_below HOP.out hB3)
            have HB3 := Lib.hid (below_step HB.out hB3 HB.out.size)
            have hsz3 := HB3.out.size
            clear hB3 HO HG HX HOP HB
            go_wp2_with (at_builtin; go_loud (refine wpList_append_own _ rfl (.tmp 36) (.tmp 44) 59 rfl w.heap.size 165 i0 _ 2 24 Tryz.underlying59 hi0 hz0 hz1 hz2 rfl (by decide) (.slice A1 LL.length c1) LL.length (prCells LL) (by rfl) (HO3.out.alloc _) ⟨w3.heap.size, 0, none⟩ 1 1 (prCell ⟨DX, PX⟩) (by rfl) (by rfl) (blk_news (Blk.new w3 165 #[.int .i64 DX, .string PX]) rfl) (prCell_one _) (by unfold maxLen; omega) (by omega) (by simp; omega) ?_); intro v1 w4 hown4 hg4 _)
            have hG4 := (HG3.out.alloc (Obj.cells #[.int .i64 DX, .string PX] 165)).grown hg4 (Ne.symm (own_blk_ne HO3.out HG3.out (by decide)))
            have hX4 := (HX3.out.alloc (Obj.cells #[.int .i64 DX, .string PX] 165)).grown hg4 (Ne.symm (own_blk_ne HO3.out HX3.out (by decide)))
            have hOP4 := (HOP3.out.alloc (Obj.cells #[.int .i64 DX, .string PX] 165)).kept hg4 (own_own_ne HOP3.out HO3.out (by decide))
            have hB4 := below_own (HB3.out.alloc HB3.out.size (Obj.cells #[.int .i64 DX, .string PX] 165)) (HO3.out.alloc _) hg4 (by simp; omega)
            have hO4 : w4.ownsRow w.heap.size 165 2 v1 (LL ++ [Pr.mk DX PX]).length (prCells (LL ++ [Pr.mk DX PX])) := by rw [prCells_snoc, List.length_append]; exact hown4
            have HREL : Hid (∃ (kx' : Nat) (LL' : List Pr), kx' ≤ p ∧ p - (kx + 1) = p - kx' ∧ Value.int .i64 ((kx : Int) + 1) = .int .i64 kx' ∧ LL' = CL ++ CX.take kx' ∧ w4.ownsRow w.heap.size 165 2 v1 LL'.length (prCells LL') ∧ Blk w4 w.heap.size 23 (geoCells g) ∧ Blk w4 wo.heap.size 191 #[.int .i64 xn, .string xt] ∧ w4.ownsRow (wo.heap.size + 1) 9 1 (.slice (some ⟨gp, 0, none⟩) p cp) p (txCells (piecesL g.per xt)) ∧ Below w.heap.size w w4) :=
              ⟨kx + 1, LL ++ [Pr.mk DX PX], by omega, rfl, by go_num, by rw [HLL.out, HSN.out, List.append_assoc], hO4, hG4, hX4, hOP4, hB4⟩
            clear hown4 hg4 hG4 hX4 hOP4 hB4 hO4 HO3 HG3 HX3 HOP3 HB3
            go_wp2_with fail
            go_roundg (p - (kx + 1))
            case rel => exact HREL.out
            case measure => omega
          · have hfin : LL = cellsL g (l.take (j + 1)) := by
              rw [HTK.out, HLL.out, List.take_of_length_le (by rw [HCOL.out, ← HPP.out]; omega)]
            rw [hfin] at hown
            have HREL : Hid (∃ j' : Nat, j' ≤ l.length ∧ l.length - (j + 1) = l.length - j' ∧ Value.int .i64 ((j : Int) + 1) = .int .i64 j' ∧ wr.ownsRow w.heap.size 165 2 u4 (cellsL g (l.take j')).length (prCells (cellsL g (l.take j'))) ∧ Blk wr w.heap.size 23 (geoCells g) ∧ Below w.heap.size w wr) :=
              ⟨j + 1, by omega, rfl, by go_num, hown, hG, hB⟩
            clear hfin hown hG hX hOP hB
            go_wp2_with fail
            go_roundg (l.length - (j + 1))
            case rel => exact HREL.out
            case measure => omega
      · have htl : l.take j = l := List.take_of_length_le (by omega)
        rw [htl] at hown
        have HP : Hid (CellsPost w (cellsL g l, 0) (.returned (.tuple #[u4, .int .i64 0])) wr) := ⟨_, rfl, hown, hB⟩
        clear htl hown hG hB
        go_wp2_with fail
        go_ret2
        exact HP.out
end Go.Proofs.YtakljpcmbpaeaaaGreat

namespace Go.Proofs.YtakljpcmbpaeaaaGreat
open Go.RowKit

end Go.Proofs.YtakljpcmbpaeaaaGreat

namespace Go.Proofs.YtakljpcmbpaeaaaGreat
end Go.Proofs.YtakljpcmbpaeaaaGreat

namespace Go.Proofs.YtakljpcmbpaeaaaGreat
open Go.RowKit

end Go.Proofs.YtakljpcmbpaeaaaGreat

namespace Go.Proofs.YtakljpcmbpaeaaaGreat
open Go.RowKit

abbrev stlV (v : Value) (s : Sett) : Array Value := #[v, .int .i64 s.1, .int .i64 s.2.1, .int .i8 s.2.2]

end Go.Proofs.YtakljpcmbpaeaaaGreat

namespace Go.Proofs.YtakljpcmbpaeaaaGreat
open Go.RowKit

theorem ret_cell2 {P : Program} {fn : Func} {p t : Tmp} {ty : TypeId} {R : Ending → World → Prop} {a : Act} {w : World} {g : Nat} {cs : Array Value} {d : TypeDesc} (h : fn.results = #[.cell p ty, .tmp t])
    (hp : a.tmps.getD p undef = .pointer (some ⟨g, 0, none⟩)) (hb : Blk w g ty cs) (hu : P.underlying ty = some d) (hd : (match d with | .struct _ | .array _ _ => true | _ => false) = true) (hi : (P.info? ty).map (·.size) = some cs.size)
    (hdf : a.defers = []) (hR : R (.returned (.tuple #[.agg cs, a.tmps.getD t undef])) w) : bodyPost P fn R .ret a w := by
  refine bodyPost_ret (v := .tuple #[.agg cs, a.tmps.getD t undef]) ?_ hdf hR
  have hp' : a.tmps[p]?.getD undef = .pointer (some ⟨g, 0, none⟩) := by simpa using hp
  simp [results, h, hp', asAddr, run_loadVar_row w g ty ty cs (0, 0) d hb hu hd hi]
end Go.Proofs.YtakljpcmbpaeaaaGreat

namespace Go.Proofs.YtakljpcmbpaeaaaGreat
open Go.RowKit

def beginS (r : List Pr × Int) : Sett := if r.2 = 0 ∧ r.1.length = 0 then (0, 0, 3) else (0, 0, 0)
def BeginPost (w : World) (r : List Pr × Int) (e : Ending) (w' : World) : Prop :=
  ∃ A c, e = .returned (.tuple #[.agg (stlV (.slice A r.1.length c) (beginS r)), .int .i64 r.2]) ∧ w'.ownsRow w.heap.size 165 2 (.slice A r.1.length c) r.1.length (prCells r.1) ∧ Below w.heap.size w w'
set_option maxHeartbeats 2000000 in
set_option maxRecDepth 100000 in
theorem Begin_any (g : Geo) (A : Option Addr) (c : Nat) (l : List Pr) (w : World) (hw1 : -9223372036854775808 ≤ g.wait) (hw2 : g.wait ≤ 9223372036854775807) (hl : l.length ≤ 100000)
    (hr : Reads w w.heap.size 2 A l.length (prCells l)) :
    Calls Tryz.prog 126 #[g.v, .slice A l.length c] w fun e w' => BeginPost w (cellsR g l) e w' := by
  have HC := Lib.hid (fun w hr => Cells_any g A c l w hw1 hw2 hl hr)
  have HR := Lib.hid hr; clear hr
  generalize cellsR g l = R at *
  obtain ⟨cl, r⟩ := R
  unfold CellsPost at HC
  dsimp only at HC
  have hB0 : Below w.heap.size w ((w.alloc (Obj.cells (geoCells g) 23)).alloc (Obj.cells #[.slice none 0 0, .int .i64 0, .int .i64 0, .int .i8 0] 61)) := ((Below.refl w.heap.size w).alloc (Nat.le_refl _) _).alloc (by simp) _
  have hS0 : Blk ((w.alloc (Obj.cells (geoCells g) 23)).alloc (Obj.cells #[.slice none 0 0, .int .i64 0, .int .i64 0, .int .i8 0] 61)) (w.heap.size + 1) 61 #[.slice none 0 0, .int .i64 0, .int .i64 0, .int .i8 0] := by
    have h := Blk.new (w.alloc (Obj.cells (geoCells g) 23)) 61 #[.slice none 0 0, .int .i64 0, .int .i64 0, .int .i8 0]
    simpa using h
  have HB0 := Lib.hid hB0; clear hB0
  have HS0 := Lib.hid hS0; clear hS0 hw1 hw2
  dsimp only [Geo.v]
  go_enter Tryz.func126, Tryz.ntmps126
  go_wp2_with fail
  refine (HC.out _ ((HR.out.below HB0.out).more HB0.out.size)).mono ?_
  rintro e w1 ⟨v, rfl, hown, hB⟩
  have hs1 := HS0.out.below hB HS0.out.lt
  have HB1 := Lib.hid (below_step HB0.out hB HB0.out.size); clear hB
  obtain ⟨A1, c1, rfl, -, -, -⟩ := own_reads hown
  have HO := Lib.hid (own_base hown (base' := w.heap.size) (by simp; omega)); 
  have HNE := Lib.hid (own_blk_ne hown hs1 (by decide)); clear hown
  obtain ⟨q0, q1, q2, q3⟩ := hs1.cells4
  obtain ⟨f0, f1, f2, f3⟩ := hs1.frozen4
  have HS1 := Lib.hid hs1; clear hs1 HB0 HS0
  by_cases h0 : r = 0
  · subst h0
    by_cases hn : cl.length = 0
    · have hs : beginS (cl, 0) = (0, 0, 3) := by simp [beginS, hn]
      have hcl : ((cl.length : Int) == 0) = true := by simp [hn]
      have HSS := Lib.hid hs; clear hs
      have HN := Lib.hid hn; clear hn
      go_wp2_with fail
      refine ret_cell2 (cs := stlV (.slice A1 cl.length c1) (0, 0, 3)) (g := w.heap.size + 1) rfl rfl (by exact ((((((HS1.out.set_ 0 _).set_ 3 _).set_ 0 _).set_ 1 _).set_ 2 _).set_ 3 _)) Tryz.underlying61 rfl (by kernel_rfl) rfl ?_
      show BeginPost w (cl, 0) _ _
      exact ⟨A1, c1, by rw [HSS.out]; rfl, (ownsRow_setCell_other (ownsRow_setCell_other (ownsRow_setCell_other (ownsRow_setCell_other (ownsRow_setCell_other (ownsRow_setCell_other HO.out (a := ⟨w.heap.size + 1, 0, none⟩) HNE.out _) (a := ⟨w.heap.size + 1, 3, none⟩) HNE.out _) (a := ⟨w.heap.size + 1, 0, none⟩) HNE.out _) (a := ⟨w.heap.size + 1, 1, none⟩) HNE.out _) (a := ⟨w.heap.size + 1, 2, none⟩) HNE.out _) (a := ⟨w.heap.size + 1, 3, none⟩) HNE.out _), ((((((HB1.out.setCell (by simp) _).setCell (by simp) _).setCell (by simp) _).setCell (by simp) _).setCell (by simp) _).setCell (by simp) _)⟩
    · have hs : beginS (cl, 0) = (0, 0, 0) := by simp only [beginS]; rw [if_neg (by simpa using hn)]
      have hcl : ((cl.length : Int) == 0) = false := by simpa using hn
      have HSS := Lib.hid hs; clear hs hn
      go_wp2_with fail
      refine ret_cell2 (cs := stlV (.slice A1 cl.length c1) (0, 0, 0)) (g := w.heap.size + 1) rfl rfl (by exact (((((HS1.out.set_ 0 _).set_ 0 _).set_ 1 _).set_ 2 _).set_ 3 _)) Tryz.underlying61 rfl (by kernel_rfl) rfl ?_
      show BeginPost w (cl, 0) _ _
      exact ⟨A1, c1, by rw [HSS.out]; rfl, (ownsRow_setCell_other (ownsRow_setCell_other (ownsRow_setCell_other (ownsRow_setCell_other (ownsRow_setCell_other HO.out (a := ⟨w.heap.size + 1, 0, none⟩) HNE.out _) (a := ⟨w.heap.size + 1, 0, none⟩) HNE.out _) (a := ⟨w.heap.size + 1, 1, none⟩) HNE.out _) (a := ⟨w.heap.size + 1, 2, none⟩) HNE.out _) (a := ⟨w.heap.size + 1, 3, none⟩) HNE.out _), (((((HB1.out.setCell (by simp) _).setCell (by simp) _).setCell (by simp) _).setCell (by simp) _).setCell (by simp) _)⟩
  · have hs : beginS (cl, r) = (0, 0, 0) := by simp [beginS, h0]
    have h0' : (r == 0) = false := by simpa using h0
    have HSS := Lib.hid hs; clear hs h0
    go_wp2_with fail
    refine ret_cell2 (cs := stlV (.slice A1 cl.length c1) (0, 0, 0)) (g := w.heap.size + 1) rfl rfl (by exact (((((HS1.out.set_ 0 _).set_ 0 _).set_ 1 _).set_ 2 _).set_ 3 _)) Tryz.underlying61 rfl (by kernel_rfl) rfl ?_
    show BeginPost w (cl, r) _ _
    exact ⟨A1, c1, by rw [HSS.out]; rfl, (ownsRow_setCell_other (ownsRow_setCell_other (ownsRow_setCell_other (ownsRow_setCell_other (ownsRow_setCell_other HO.out (a := ⟨w.heap.size + 1, 0, none⟩) HNE.out _) (a := ⟨w.heap.size + 1, 0, none⟩) HNE.out _) (a := ⟨w.heap.size + 1, 1, none⟩) HNE.out _) (a := ⟨w.heap.size + 1, 2, none⟩) HNE.out _) (a := ⟨w.heap.size + 1, 3, none⟩) HNE.out _), (((((HB1.out.setCell (by simp) _).setCell (by simp) _).setCell (by simp) _).setCell (by simp) _).setCell (by simp) _)⟩
end Go.Proofs.YtakljpcmbpaeaaaGreat

namespace Go.Proofs.YtakljpcmbpaeaaaGreat
open Go.RowKit

def betB (n a b : Int) : Bool := decide (a ≤ n ∧ n ≤ b)
def mayB (i m b : Int) (v : Bs) : Bool := betB i 0 512 && (betB m 0 1099511627776 && (betB b 0 m && (decide (v.length ≤ 64) && ((b == 0) == v.isEmpty))))

theorem bl_between_any (n a b : Int) (w : World) :
    Calls Tryz.prog 329 #[.int .i64 n, .int .i64 a, .int .i64 b] w fun e w' => e = .returned (.bool (betB n a b)) ∧ w = w' := by
  by_cases h1 : a ≤ n
  · by_cases h2 : n ≤ b
    · rw [show betB n a b = true from decide_eq_true ⟨h1, h2⟩]
      go_enter Tryz.func329, Tryz.ntmps329
      go_wp2
      go_ret
      exact ⟨rfl, rfl⟩
    · rw [show betB n a b = false from decide_eq_false (by omega)]
      go_enter Tryz.func329, Tryz.ntmps329
      go_wp2
      go_ret
      exact ⟨rfl, rfl⟩
  · rw [show betB n a b = false from decide_eq_false (by omega)]
    go_enter Tryz.func329, Tryz.ntmps329
    go_wp2
    go_ret
    exact ⟨rfl, rfl⟩

theorem bl_widths_any (p : Value) (w : World) :
    Calls Tryz.prog 326 #[p] w fun e w' => e = .returned (.slice (some ⟨w.heap.size, 0, none⟩) 3 3) ∧ w' = w.alloc (.cells #[.int .i64 2, .int .i64 6, .int .i64 6] 3) := by
  go_enter Tryz.func326, Tryz.ntmps326
  go_wp2
  go_ret
  exact ⟨rfl, rfl⟩

theorem str_empty {v : ByteArray} (h : v.data.toList.isEmpty = true) : v = ⟨#[]⟩ := by
  rw [← mkS_self v, List.isEmpty_iff.1 h]; rfl
theorem str_some {v : ByteArray} (h : v.data.toList.isEmpty = false) : v.toList.isEmpty = false := by rw [Lib.toList_data]; exact h

abbrev RecAt (w : World) (g : Nat) (t : TypeId) (i m b : Int) (v : ByteArray) : Prop := Blk w g t #[.int .i64 i, .int .i64 m, .int .i64 b, .string v]

set_option maxHeartbeats 1000000 in
set_option maxRecDepth 100000 in
theorem may_rec (g : Nat) (i m b : Int) (v : ByteArray) (w : World) (hv : v.size ≤ maxLen) (hblk : RecAt w g 387 i m b v) :
    Calls Tryz.prog 327 #[.pointer (some ⟨g, 0, none⟩)] w fun e w' => e = .returned (.bool (mayB i m b v.data.toList)) ∧ Below w.heap.size w w' := by
  unfold maxLen at hv
  obtain ⟨c0, c1, c2, c3⟩ := hblk.cells4
  have hm : mayB i m b v.data.toList = (betB i 0 512 && (betB m 0 1099511627776 && (betB b 0 m && (decide (v.size ≤ 64) && ((b == 0) == v.data.toList.isEmpty))))) := by rw [← bytes_length]; rfl
  rw [hm]
  clear hblk hm
  have q1 := fun w => bl_between_any i 0 512 w
  have q2 := fun w => bl_between_any m 0 1099511627776 w
  have q3 := fun w => bl_between_any b 0 m w
  generalize hb1 : betB i 0 512 = B1 at *
  generalize hb2 : betB m 0 1099511627776 = B2 at *
  generalize hb3 : betB b 0 m = B3 at *
  clear hb1 hb2 hb3
  have Q1 := Lib.hid q1; clear q1
  have Q2 := Lib.hid q2; clear q2
  have Q3 := Lib.hid q3; clear q3
  cases B1 with
  | false =>
    go_enter Tryz.func327, Tryz.ntmps327
    go_wp2_with fail
    go_quiet ((go_at_call 329; (with_reducible exact quiet_left (Q1.out _))))
    go_wp2
    go_ret
    exact ⟨rfl, below_drewN (Below.refl _ _) _⟩
  | true =>
    cases B2 with
    | false =>
      go_enter Tryz.func327, Tryz.ntmps327
      go_wp2_with fail
      go_quiet ((go_at_call 329; first | (with_reducible exact quiet_left (Q1.out _)) | (with_reducible exact quiet_left (Q2.out _))))
      go_wp2
      go_ret
      exact ⟨rfl, below_drewN (Below.refl _ _) _⟩
    | true =>
      cases B3 with
      | false =>
        go_enter Tryz.func327, Tryz.ntmps327
        go_wp2_with fail
        go_quiet ((go_at_call 329; first | (with_reducible exact quiet_left (Q1.out _)) | (with_reducible exact quiet_left (Q2.out _)) | (with_reducible exact quiet_left (Q3.out _))))
        go_wp2
        go_ret
        exact ⟨rfl, below_drewN (Below.refl _ _) _⟩
      | true =>
        by_cases h64 : v.size ≤ 64
        · have d64 : decide ((v.size : Int) ≤ 64) = true := by simp; omega
          have d64' : decide (v.size ≤ 64) = true := by simpa using h64
          rw [d64']
          clear d64'
          by_cases h0 : b = 0
          · subst h0
            cases he : v.data.toList.isEmpty with
            | true =>
              obtain rfl := str_empty he
              clear he
              go_enter Tryz.func327, Tryz.ntmps327
              go_wp2_with fail
              go_quiet ((go_at_call 329; first | (with_reducible exact quiet_left (Q1.out _)) | (with_reducible exact quiet_left (Q2.out _)) | (with_reducible exact quiet_left (Q3.out _))))
              go_wp2
              go_ret
              exact ⟨rfl, below_drewN (Below.refl _ _) _⟩
            | false =>
              have he' := str_some he
              clear he
              go_enter Tryz.func327, Tryz.ntmps327
              go_wp2_with fail
              go_quiet ((go_at_call 329; first | (with_reducible exact quiet_left (Q1.out _)) | (with_reducible exact quiet_left (Q2.out _)) | (with_reducible exact quiet_left (Q3.out _))))
              go_wp2
              go_ret
              exact ⟨rfl, below_drewN (Below.refl _ _) _⟩
          · have h0' : (b == 0) = false := by simpa using h0
            rw [h0']
            clear h0
            cases he : v.data.toList.isEmpty with
            | true =>
              obtain rfl := str_empty he
              clear he
              go_enter Tryz.func327, Tryz.ntmps327
              go_wp2_with fail
              go_quiet ((go_at_call 329; first | (with_reducible exact quiet_left (Q1.out _)) | (with_reducible exact quiet_left (Q2.out _)) | (with_reducible exact quiet_left (Q3.out _))))
              go_wp2
              go_ret
              exact ⟨rfl, below_drewN (Below.refl _ _) _⟩
            | false =>
              have he' := str_some he
              clear he
              go_enter Tryz.func327, Tryz.ntmps327
              go_wp2_with fail
              go_quiet ((go_at_call 329; first | (with_reducible exact quiet_left (Q1.out _)) | (with_reducible exact quiet_left (Q2.out _)) | (with_reducible exact quiet_left (Q3.out _))))
              go_wp2
              go_ret
              exact ⟨rfl, below_drewN (Below.refl _ _) _⟩
        · have d64 : decide ((v.size : Int) ≤ 64) = false := by simp; omega
          rw [decide_eq_false h64]
          clear h64
          go_enter Tryz.func327, Tryz.ntmps327
          go_wp2_with fail
          go_quiet ((go_at_call 329; first | (with_reducible exact quiet_left (Q1.out _)) | (with_reducible exact quiet_left (Q2.out _)) | (with_reducible exact quiet_left (Q3.out _))))
          go_wp2
          go_ret
          exact ⟨rfl, below_drewN (Below.refl _ _) _⟩
end Go.Proofs.YtakljpcmbpaeaaaGreat

namespace Go.Proofs.YtakljpcmbpaeaaaGreat
open Go.RowKit

abbrev recV (i m b : Int) (v : ByteArray) : Value := .agg #[.int .i64 i, .int .i64 m, .int .i64 b, .string v]

set_option maxHeartbeats 400000 in
theorem bl_May_any (i m b : Int) (v : ByteArray) (w : World) (hv : v.size ≤ maxLen) :
    Calls Tryz.prog 330 #[recV i m b v] w fun e w' => e = .returned (.bool (mayB i m b v.data.toList)) ∧ Below w.heap.size w w' := by
  have HM := Lib.hid (fun g w => may_rec g i m b v w hv)
  generalize mayB i m b v.data.toList = q at *
  go_enter Tryz.func330, Tryz.ntmps330
  go_wp2_with fail
  refine (HM.out (w.heap.size + 1) _ ?_).mono ?_
  · have h := Blk.new (w.alloc (Obj.cells #[.int .i64 i, .int .i64 m, .int .i64 b, .string v] 51)) 387 #[.int .i64 i, .int .i64 m, .int .i64 b, .string v]
    simpa using h
  rintro e w1 ⟨rfl, hB⟩
  go_wp2_with fail
  go_ret
  exact ⟨rfl, below_step (((Below.refl _ _).alloc (Nat.le_refl _) _).alloc (by simp) _) hB (by simp; omega)⟩

end Go.Proofs.YtakljpcmbpaeaaaGreat

namespace Go.Proofs.YtakljpcmbpaeaaaGreat
open Go.RowKit

theorem reads3 {w : World} {g : Nat} {a b c : Int} (h : Blk w g 3 #[.int .i64 a, .int .i64 b, .int .i64 c]) : Reads w w.heap.size 1 (some ⟨g, 0, none⟩) [a, b, c].length (icells [a, b, c]) := reads_blk h rfl rfl
abbrev RecH (i m b : Int) (v : ByteArray) (g : Nat) (w0 wx : World) : Prop :=
  wx.cell? ⟨g, 0, none⟩ = some (.int .i64 i) ∧ wx.cell? ⟨g, 1, none⟩ = some (.int .i64 m) ∧ wx.cell? ⟨g, 2, none⟩ = some (.int .i64 b) ∧ wx.cell? ⟨g, 3, none⟩ = some (.string v) ∧ g < wx.heap.size ∧ Below w0.heap.size w0 wx
theorem recH_keep {i m b : Int} {v : ByteArray} {g : Nat} {w0 wx wy : World} (h : RecH i m b v g w0 wx) (hB : Below wx.heap.size wx wy) : RecH i m b v g w0 wy := by
  obtain ⟨h0, h1, h2, h3, hl, hb⟩ := h
  have hc : ∀ o, wy.cell? ⟨g, o, none⟩ = wx.cell? ⟨g, o, none⟩ := fun o => hB.cell (p := ⟨g, o, none⟩) hl
  exact ⟨by rw [hc, h0], by rw [hc, h1], by rw [hc, h2], by rw [hc, h3], Nat.lt_of_lt_of_le hl hB.size, below_step hb hB hb.size⟩
theorem recH_drew {i m b : Int} {v : ByteArray} {g : Nat} {w0 wx : World} (h : RecH i m b v g w0 wx) : RecH i m b v g w0 wx.drew := by
  obtain ⟨h0, h1, h2, h3, hl, hb⟩ := h
  exact ⟨h0, h1, h2, h3, hl, hb.drew⟩
theorem recH_alloc {i m b : Int} {v : ByteArray} {g : Nat} {w0 wx : World} (h : RecH i m b v g w0 wx) (o : Obj) : RecH i m b v g w0 (wx.alloc o) := recH_keep h ((Below.refl _ _).alloc (Nat.le_refl _) _)

def WPost (w : World) (e : Ending) (w' : World) : Prop := ∃ A, e = .returned (.slice A 3 3) ∧ Reads w' w'.heap.size 1 A [2, 6, 6].length (icells [2, 6, 6]) ∧ Below w.heap.size w w'
theorem widths_post (p : Value) (w : World) : Calls Tryz.prog 326 #[p] w (WPost w) :=
  (bl_widths_any p w).mono fun e w' ⟨he, hw⟩ => by subst hw; exact ⟨_, he, reads3 (Blk.new w _ _), (Below.refl _ _).alloc (Nat.le_refl _) _⟩

set_option maxHeartbeats 1000000 in
set_option maxRecDepth 100000 in
theorem bl_text_any (g : Nat) (i m b : Int) (v : ByteArray) (w : World) (hv : v.size ≤ 1000000) (hblk : RecAt w g 387 i m b v) :
    Calls Tryz.prog 331 #[.pointer (some ⟨g, 0, none⟩)] w fun e w' => MakePost w (makeR 4 v.data.toList [2, 6, 6] [i, m, b]) e w' := by
  have hH : RecH i m b v g w w := ⟨hblk.cell 0, hblk.cell 1, hblk.cell 2, hblk.cell 3, hblk.lt, Below.refl _ _⟩
  have HG := Lib.hid hH; clear hH hblk
  have HMK := Lib.hid (fun w Aw Al => Make_any 4 v Aw Al 3 3 [2, 6, 6] [i, m, b] w (by omega) hv (by simp) (by simp))
  unfold MakePost at HMK ⊢
  generalize makeR 4 v.data.toList [2, 6, 6] [i, m, b] = R at *
  go_enter Tryz.func331, Tryz.ntmps331
  go_wp2_with fail
  go_region_held3 (RecH i m b v g w) (first | exact recH_drew HG.out | exact recH_alloc (by assumption) _ | exact recH_keep (by assumption) (by assumption))
    (first
    | (go_at_call 326; refine (widths_post _ _).mono ?_; rintro e w1 ⟨AW, rfl, hrW, hBW⟩)
    | (go_at_call 139; first
        | (refine (HMK.out _ _ _ (by exact (hrW.alloc (Nat.le_refl _) _).more (by simp)) (by exact reads3 (Blk.new w1 _ _))).mono ?_; rintro e w5 ⟨rfl, hB5⟩)
        | (refine (HMK.out _ _ _ (by exact hrW) (by exact reads3 ((Blk.new w.drew _ _).below hBW (Blk.new w.drew _ _).lt))).mono ?_; rintro e w5 ⟨rfl, hB5⟩)))
  all_goals
    have hG5 : RecH i m b v g w w5 := by assumption
    have HG5 := Lib.hid hG5; clear hG5
    go_wp2_with fail
    go_ret2
    exact ⟨rfl, HG5.out.2.2.2.2.2⟩

def bytesR (i m b : Int) (v : Bs) : Bs × Int := if mayB i m b v = true then makeR 4 v [2, 6, 6] [i, m, b] else ([], 2)

set_option maxHeartbeats 400000 in
theorem bl_Bytes_any (i m b : Int) (v : ByteArray) (w : World) (hv : v.size ≤ 1000000) :
    Calls Tryz.prog 292 #[recV i m b v] w fun e w' => MakePost w (bytesR i m b v.data.toList) e w' := by
  have HM := Lib.hid (fun w => bl_May_any i m b v w (by unfold maxLen; omega))
  have hT := fun g w => bl_text_any g i m b v w hv
  have hr : bytesR i m b v.data.toList = if mayB i m b v.data.toList = true then makeR 4 v.data.toList [2, 6, 6] [i, m, b] else ([], 2) := rfl
  rw [hr]
  unfold MakePost at hT ⊢
  clear hr
  have HT := Lib.hid hT; clear hT
  generalize makeR 4 v.data.toList [2, 6, 6] [i, m, b] = R at *
  cases hq : mayB i m b v.data.toList with
  | true =>
    rw [hq] at HM
    rw [if_pos rfl]
    clear hq
    go_enter Tryz.func292, Tryz.ntmps292
    go_wp2_with fail
    refine (HM.out _).mono ?_
    rintro e w1 ⟨rfl, hB1⟩
    have hb0 : Blk w1 w.heap.size 51 #[.int .i64 i, .int .i64 m, .int .i64 b, .string v] := (Blk.new w 51 #[.int .i64 i, .int .i64 m, .int .i64 b, .string v]).below hB1 (by simp)
    obtain ⟨c0, c1, c2, c3⟩ := hb0.cells4
    have HB1 := Lib.hid (below_step ((Below.refl w.heap.size w).alloc (Nat.le_refl _) _) hB1 (by simp)); clear hB1 hb0
    go_wp2_with fail
    refine (HT.out w1.heap.size _ (Blk.new w1 _ _)).mono ?_
    rintro e w2 ⟨rfl, hB2⟩
    have HB2 := Lib.hid (below_step (HB1.out.alloc HB1.out.size _) hB2 (by have := HB1.out.size; simp; omega)); clear hB2
    clear c0 c1 c2 c3
    go_wp2_with fail
    go_ret2
    exact ⟨rfl, HB2.out⟩
  | false =>
    rw [hq] at HM
    rw [if_neg (by simp)]
    clear hq HT
    go_enter Tryz.func292, Tryz.ntmps292
    go_wp2_with fail
    refine (HM.out _).mono ?_
    rintro e w1 ⟨rfl, hB1⟩
    have HB1 := Lib.hid (below_step ((Below.refl w.heap.size w).alloc (Nat.le_refl _) _) hB1 (by simp)); clear hB1
    go_wp2_with fail
    go_ret2
    exact ⟨rfl, HB1.out⟩
end Go.Proofs.YtakljpcmbpaeaaaGreat

namespace Go.Proofs.YtakljpcmbpaeaaaGreat

theorem fieldsR_cases (k : Int) (s : Bs) (ws : List Int) : fieldsR k s ws = ([], [], 30) ∨ ∃ l rest, fieldsR k s ws = (l, rest, 0) ∧ l.length = ws.length := by
  unfold fieldsR
  have ho : (ofR k s).2 = 0 ∨ (ofR k s).2 = 30 := by unfold ofR; split <;> simp
  rcases ho with ho | ho
  · rw [if_pos ho]
    cases ht : takeF (ofR k s).1 ws with
    | none => exact .inl rfl
    | some r => exact .inr ⟨r.1, r.2, rfl, (takeF_le _ _ _ ht).2⟩
  · rw [if_neg (by omega), ho]; exact .inl rfl
end Go.Proofs.YtakljpcmbpaeaaaGreat

namespace Go.Proofs.YtakljpcmbpaeaaaGreat
open Go.RowKit

theorem ret_blk2 {P : Program} {fn : Func} {p t : Tmp} {ty : TypeId} {R : Ending → World → Prop} {a : Act} {w : World} {g : Nat} {cs : Array Value} {d : TypeDesc} (h : fn.results = #[.cell p ty, .tmp t])
    (hp : a.tmps.getD p undef = .pointer (some ⟨g, 0, none⟩)) (hb : Blk w g ty cs) (hu : P.underlying ty = some d) (hd : (match d with | .struct _ | .array _ _ => true | _ => false) = true) (hi : (P.info? ty).map (·.size) = some cs.size)
    (hdf : a.defers = []) (hR : R (.returned (.tuple #[.agg cs, a.tmps.getD t undef])) w) : bodyPost P fn R .ret a w := by
  refine bodyPost_ret (v := .tuple #[.agg cs, a.tmps.getD t undef]) ?_ hdf hR
  have hp' : a.tmps[p]?.getD undef = .pointer (some ⟨g, 0, none⟩) := by simpa using hp
  simp [results, h, hp', asAddr, run_loadVar_row w g ty ty cs (0, 0) d hb hu hd hi]

abbrev recCells (i m b : Int) (v : ByteArray) : Array Value := #[.int .i64 i, .int .i64 m, .int .i64 b, .string v]
def readR (s : Bs) : (Int × Int × Int × Bs) × Int :=
  if s = [] then ((0, 0, 0, []), 0) else
  match fieldsR 4 s [2, 6, 6] with
  | ([i, m, b], v, 0) => if mayB i m b v = true then ((i, m, b, v), 0) else ((0, 0, 0, []), 50)
  | _ => ((0, 0, 0, []), 50)
def ReadPost (w : World) (r : (Int × Int × Int × Bs) × Int) (e : Ending) (w' : World) : Prop :=
  e = .returned (.tuple #[recV r.1.1 r.1.2.1 r.1.2.2.1 (mkS r.1.2.2.2), .int .i64 r.2]) ∧ Below w.heap.size w w'
theorem takeF_rest (s : Bs) (ws : List Int) (r : List Int × Bs) (h : takeF s ws = some r) : r.2.length ≤ s.length := (takeF_le s ws r h).1
theorem fieldsR_rest (k : Int) (s : Bs) (ws : List Int) : (fieldsR k s ws).2.1.length ≤ 505 := by
  have hol : (ofR k s).1.length ≤ 505 := by
    unfold ofR
    rcases openR_cases s with h | ⟨k', l, h, _, _, hl, _⟩
    · rw [h]; simp
    · rw [h]; dsimp only; split <;> simp [hl]
  unfold fieldsR
  split
  · cases ht : takeF (ofR k s).1 ws with
    | none => simp
    | some r => have := takeF_rest _ _ _ ht; dsimp only; omega
  · simp

set_option maxHeartbeats 1000000 in
set_option maxRecDepth 100000 in
theorem bl_Read_any (s : ByteArray) (w : World) (hs : s.size ≤ 1000000000) :
    Calls Tryz.prog 289 #[.string s] w fun e w' => ReadPost w (readR s.data.toList) e w' := by
  have hz0 : Blk (w.alloc (.cells (recCells 0 0 0 ⟨#[]⟩) 51)) w.heap.size 51 (recCells 0 0 0 ⟨#[]⟩) := Blk.new w _ _
  have hB0 : Below w.heap.size w (w.alloc (.cells (recCells 0 0 0 ⟨#[]⟩) 51)) := (Below.refl _ _).alloc (Nat.le_refl _) _
  cases hem : s.data.toList.isEmpty with
  | true =>
    obtain rfl := str_empty hem
    clear hem
    have hr : readR (⟨#[]⟩ : ByteArray).data.toList = ((0, 0, 0, []), 0) := rfl
    rw [hr]
    clear hr
    have HZ := Lib.hid hz0; clear hz0
    have HB := Lib.hid hB0; clear hB0
    go_enter Tryz.func289, Tryz.ntmps289
    go_wp2_with fail
    refine ret_blk2 (cs := recCells 0 0 0 ⟨#[]⟩) (g := w.heap.size) rfl rfl ?_ Tryz.underlying51 rfl (by kernel_rfl) rfl ⟨rfl, ?_⟩
    · first | exact HZ.out | exact (((HZ.out.set_ 0 _).set_ 1 _).set_ 2 _).set_ 3 _
    · first | exact HB.out | exact (((HB.out.setCell (by simp) _).setCell (by simp) _).setCell (by simp) _).setCell (by simp) _
  | false =>
    have he' := str_some hem
    have hne : s.data.toList ≠ [] := by intro h; rw [h] at hem; cases hem
    have hr : readR s.data.toList = match fieldsR 4 s.data.toList [2, 6, 6] with
      | ([i, m, b], v, 0) => if mayB i m b v = true then ((i, m, b, v), 0) else ((0, 0, 0, []), 50)
      | _ => ((0, 0, 0, []), 50) := by rw [readR, if_neg hne]
    clear hem hne
    have hz1 : Blk ((w.alloc (.cells (recCells 0 0 0 ⟨#[]⟩) 51)).alloc (.cells (recCells 0 0 0 ⟨#[]⟩) 387)) (w.heap.size + 1) 387 (recCells 0 0 0 ⟨#[]⟩) := by
      have h := Blk.new (w.alloc (.cells (recCells 0 0 0 ⟨#[]⟩) 51)) 387 (recCells 0 0 0 ⟨#[]⟩)
      simpa using h
    have hf := fun w Aw r => Fields_any 4 s Aw 3 [2, 6, 6] w hs (by simp) r
    have hfr := fieldsR_rest 4 s.data.toList [2, 6, 6]
    have HZ0 := Lib.hid hz0; clear hz0
    have HB0 := Lib.hid hB0; clear hB0
    have HZ1 := Lib.hid hz1; clear hz1
    rcases fieldsR_cases 4 s.data.toList [2, 6, 6] with h | ⟨l, rest, h, hl⟩
    · rw [h] at hf hr
      rw [hr]
      have HF := Lib.hid hf; clear hf h hr hfr
      go_enter Tryz.func289, Tryz.ntmps289
      go_wp2_with fail
      refine (widths_post _ _).mono ?_
      rintro e w1 ⟨AW, rfl, hrW, hBW⟩
      have HRW := Lib.hid hrW; clear hrW
      have hz0 := ((HZ0.out.alloc _).below hBW (by simp; omega))
      have HZ0' := Lib.hid hz0; clear hz0
      have HB1 := Lib.hid (below_step (HB0.out.alloc (by simp) _) hBW (by simp; omega)); clear hBW
      go_wp2_with fail
      refine (HF.out _ AW HRW.out).mono ?_
      rintro e w2 ⟨v, rfl, hown, hB⟩
      have hz0 := HZ0'.out.below hB HZ0'.out.lt
      have HZ0'' := Lib.hid hz0
      obtain ⟨c0, c1, c2, c3⟩ := hz0.cells4
      obtain ⟨f0, f1, f2, f3⟩ := hz0.frozen4
      have HB2 := Lib.hid (below_step HB1.out hB HB1.out.size)
      clear hown hB hz0
      go_wp2_with fail
      refine ret_blk2 (cs := recCells 0 0 0 ⟨#[]⟩) (g := w.heap.size) rfl rfl ?_ Tryz.underlying51 rfl (by kernel_rfl) rfl ⟨rfl, ?_⟩
      · exact (((HZ0''.out.set_ 0 _).set_ 1 _).set_ 2 _).set_ 3 _
      · exact (((HB2.out.setCell (by simp) _).setCell (by simp) _).setCell (by simp) _).setCell (by simp) _
    · obtain ⟨i, m, b, rfl⟩ : ∃ i m b, l = [i, m, b] := by
        match l, hl with
        | [i, m, b], _ => exact ⟨i, m, b, rfl⟩
      rw [h] at hf hr hfr
      dsimp only at hfr hr
      have HF := Lib.hid hf; clear hf h hl
      have HMY := Lib.hid (fun g w => may_rec g i m b (mkS rest) w (by rw [mkS_size]; unfold maxLen; omega))
      rw [mkS_toList] at HMY
      go_enter Tryz.func289, Tryz.ntmps289
      go_wp2_with fail
      refine (widths_post _ _).mono ?_
      rintro e w1 ⟨AW, rfl, hrW, hBW⟩
      have HRW := Lib.hid hrW; clear hrW
      have HZ0' := Lib.hid ((HZ0.out.alloc _).below hBW (by simp; omega)); clear HZ0
      have HZ1' := Lib.hid (HZ1.out.below hBW (by simp)); clear HZ1
      have HB1 := Lib.hid (below_step (HB0.out.alloc (by simp) _) hBW (by simp; omega)); clear hBW
      have hsz : w.heap.size + 1 < w1.heap.size := HZ1'.out.lt
      go_wp2_with fail
      refine (HF.out _ AW HRW.out).mono ?_
      rintro e w2 ⟨v, rfl, hown, hB⟩
      dsimp only at hown ⊢
      obtain ⟨gb, cap, rfl, hgb, hlt⟩ := hown.form (by simp)
      have d0 : w2.cell? ⟨gb, 0, none⟩ = some (.int .i64 i) := hown.cells (g := gb) rfl 0 _ rfl
      have d1 : w2.cell? ⟨gb, 1, none⟩ = some (.int .i64 m) := hown.cells (g := gb) rfl 1 _ rfl
      have d2 : w2.cell? ⟨gb, 2, none⟩ = some (.int .i64 b) := hown.cells (g := gb) rfl 2 _ rfl
      have hz0 := HZ0'.out.below hB HZ0'.out.lt
      have hz1 := HZ1'.out.below hB HZ1'.out.lt
      have HZ0'' := Lib.hid hz0; clear hz0
      have HZ1'' := Lib.hid hz1
      obtain ⟨c0, c1, c2, c3⟩ := hz1.cells4
      obtain ⟨f0, f1, f2, f3⟩ := hz1.frozen4
      have HB2 := Lib.hid (below_step HB1.out hB HB1.out.size)
      clear hown hB hz1
      have hne1 : gb ≠ w.heap.size + 1 := by omega
      clear HZ0' HZ1' HB1 HRW HB0
      dsimp only [List.length_cons, List.length_nil, Nat.zero_add, Nat.reduceAdd]
      go_wp2_with fail
      go_region
      have hz1 : RecAt ((((w2.setCell ⟨w.heap.size + 1, 0, none⟩ (.int .i64 i)).setCell ⟨w.heap.size + 1, 1, none⟩ (.int .i64 m)).setCell ⟨w.heap.size + 1, 2, none⟩ (.int .i64 b)).setCell ⟨w.heap.size + 1, 3, none⟩ (.string (mkS rest))).drew (w.heap.size + 1) 387 i m b (mkS rest) :=
        (((HZ1''.out.set_ 0 _).set_ 1 _).set_ 2 _).set_ 3 _
      have hz0 : Blk ((((w2.setCell ⟨w.heap.size + 1, 0, none⟩ (.int .i64 i)).setCell ⟨w.heap.size + 1, 1, none⟩ (.int .i64 m)).setCell ⟨w.heap.size + 1, 2, none⟩ (.int .i64 b)).setCell ⟨w.heap.size + 1, 3, none⟩ (.string (mkS rest))).drew w.heap.size 51 (recCells 0 0 0 ⟨#[]⟩) :=
        (((HZ0''.out.far (by simp) _).far (by simp) _).far (by simp) _).far (by simp) _
      have hB3 : Below w.heap.size w ((((w2.setCell ⟨w.heap.size + 1, 0, none⟩ (.int .i64 i)).setCell ⟨w.heap.size + 1, 1, none⟩ (.int .i64 m)).setCell ⟨w.heap.size + 1, 2, none⟩ (.int .i64 b)).setCell ⟨w.heap.size + 1, 3, none⟩ (.string (mkS rest))).drew :=
        ((((HB2.out.setCell (by simp) _).setCell (by simp) _).setCell (by simp) _).setCell (by simp) _).drew
      have H1 := Lib.hid hz1; clear hz1
      have H0 := Lib.hid hz0; clear hz0
      have HB3 := Lib.hid hB3; clear hB3
      have HR := Lib.hid hr; clear hr
      clear HZ0'' HZ1'' HB2
      go_wp2_with fail
      clear c0 c1 c2 c3 f0 f1 f2 f3 d0 d1 d2
      refine (HMY.out _ _ H1.out).mono ?_
      rintro e w4 ⟨rfl, hB4⟩
      have hz1 := H1.out.below hB4 H1.out.lt
      have hz0 := H0.out.below hB4 H0.out.lt
      have HB4 := Lib.hid (below_step HB3.out hB4 HB3.out.size); clear hB4 HB3 H1 H0
      obtain ⟨c0, c1, c2, c3⟩ := hz1.cells4
      obtain ⟨q0, q1, q2, q3⟩ := hz0.cells4
      obtain ⟨f0, f1, f2, f3⟩ := hz0.frozen4
      have HZ := Lib.hid hz0; clear hz0 hz1
      generalize hq : mayB i m b rest = q at *
      cases q with
      | true =>
        have hr := HR.out
        rw [if_pos rfl] at hr
        have HR' := Lib.hid hr; clear hr HR hq
        go_wp2_with fail
        refine ret_blk2 (cs := recCells i m b (mkS rest)) (g := w.heap.size) rfl rfl ?_ Tryz.underlying51 rfl (by kernel_rfl) rfl ?_
        · exact (((HZ.out.set_ 0 _).set_ 1 _).set_ 2 _).set_ 3 _
        · show ReadPost w (readR s.data.toList) _ _
          rw [HR'.out]
          exact ⟨rfl, (((HB4.out.setCell (by simp) _).setCell (by simp) _).setCell (by simp) _).setCell (by simp) _⟩
      | false =>
        have hr := HR.out
        rw [if_neg (by simp)] at hr
        have HR' := Lib.hid hr; clear hr HR hq
        go_wp2_with fail
        refine ret_blk2 (cs := recCells 0 0 0 ⟨#[]⟩) (g := w.heap.size) rfl rfl ?_ Tryz.underlying51 rfl (by kernel_rfl) rfl ?_
        · exact (((HZ.out.set_ 0 _).set_ 1 _).set_ 2 _).set_ 3 _
        · show ReadPost w (readR s.data.toList) _ _
          rw [HR'.out]
          exact ⟨rfl, (((HB4.out.setCell (by simp) _).setCell (by simp) _).setCell (by simp) _).setCell (by simp) _⟩
end Go.Proofs.YtakljpcmbpaeaaaGreat
