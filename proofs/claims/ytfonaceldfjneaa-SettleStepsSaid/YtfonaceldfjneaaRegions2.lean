/- The walk of geo.regions. -/
import Derived.Test.YtfonaceldfjneaaRegions
namespace Go.Proofs.Ytfonaceldfjneaa
open Go.RowKit

/-- a result that is one slice in a cell -/
theorem bodyPost_ret_cell {P : Program} {fn : Func} {p : Tmp} {ty e : TypeId} {R : Ending → World → Prop} {a : Act} {w : World} {A : Addr} {s : Option Addr} {n c : Nat} (h : fn.results = #[.cell p ty])
    (hp : a.tmps.getD p undef = .pointer (some A)) (hu : P.underlying ty = some (.slice e)) (hc : w.cell? A = some (.slice s n c)) (hd : a.defers = []) (hR : R (.returned (.slice s n c)) w) : bodyPost P fn R .ret a w := by
  refine bodyPost_ret (v := .slice s n c) ?_ hd hR
  have hp' : a.tmps[p]?.getD undef = .pointer (some A) := by simpa using hp
  simp [results, h, hp', asAddr, loadVar, isAgg, run_underlying hu, go_sem, hc]

def RgsPost (w : World) (g : Geo) (e : Ending) (w' : World) : Prop :=
  ∃ v, e = .returned v ∧ w'.ownsRow (w.heap.size + 1) 117 4 v (if g.may = true then g.rgs else []).length (rcells (if g.may = true then g.rgs else [])) ∧ Below w.heap.size w w'

set_option maxHeartbeats 4000000 in
set_option maxRecDepth 100000 in
theorem regions_any (g : Geo) (w : World) (hw1 : -9223372036854775808 ≤ g.wait) (hw2 : g.wait ≤ 9223372036854775807) :
    Calls Try.prog 68 #[g.v] w fun e w' => RgsPost w g e w' := by
  have hmf : ∀ (fn : Fn) (first cap : Array Value) (w : World), (Instr.makeFunc fn first cap).run Try.prog w = .ok (.func fn first cap) w := fun _ _ _ _ => rfl
  have hmay := fun w => May_any g w hw1 hw2
  by_cases hm : g.may = true
  · have hok := Geo.may_ok hm
    have hsj := hok.sj
    have hbp := hok.bp
    rw [hm] at hmay
    have HP : Hid (∀ e w', RgsPost w g e w' ↔ ∃ v, e = .returned v ∧ w'.ownsRow (w.heap.size + 1) 117 4 v g.rgs.length (rcells g.rgs) ∧ Below w.heap.size w w') := fun e w' => by unfold RgsPost; rw [if_pos hm]
    obtain ⟨k1, k2, k3, k4, k5, k6, k7, k8, k9, k10, k11, k12, k13, k14, k15⟩ := hok
    obtain ⟨n, s, b, p, j, l, le, wt⟩ := g
    dsimp only [Geo.v, Geo.rgs] at *
    have HM := Lib.hid hmay; clear hmay hm
    go_enter Try.func68, Try.ntmps68
    go_wp2_with fail
    refine (HM.out _).mono ?_
    rintro e w1 ⟨rfl, hB1⟩
    have hbG : Blk w1 w.heap.size 23 #[.int .i64 n, .int .i64 s, .int .i64 b, .int .i64 p, .int .i64 j, .int .i64 l, .int .i64 le, .int .i64 wt] := ((Blk.new w _ _).alloc _).below hB1 (by simp; omega)
    have hbL : Blk w1 (w.heap.size + 1) 122 #[.slice none 0 0] := by
      have h := Blk.new (w.alloc (Obj.cells #[.int .i64 n, .int .i64 s, .int .i64 b, .int .i64 p, .int .i64 j, .int .i64 l, .int .i64 le, .int .i64 wt] 23)) 122 #[.slice none 0 0]
      rw [show (w.alloc (Obj.cells #[.int .i64 n, .int .i64 s, .int .i64 b, .int .i64 p, .int .i64 j, .int .i64 l, .int .i64 le, .int .i64 wt] 23)).heap.size = w.heap.size + 1 by simp] at h
      exact h.below hB1 (by simp)
    have hB := below_step (below2 w _ _) hB1 (by simp; omega)
    have hgs := hbL.lt
    obtain ⟨g0, g1, g2, g3, g4, g5, g6, g7⟩ := hbG.cells8
    have HG := Lib.hid hbG; clear hbG
    have HL := Lib.hid hbL; clear hbL
    have HB := Lib.hid hB; clear hB hB1
    go_wp2_with fail
    have HA := Lib.hid (Blk.new w1 3 #[.int .i64 0])
    have HL0 := Lib.hid (HL.out.alloc (Obj.cells #[.int .i64 0] 3)); clear HL
    have HG0 := Lib.hid (HG.out.alloc (Obj.cells #[.int .i64 0] 3)); clear HG
    have HB0 := Lib.hid (HB.out.alloc HB.out.size (Obj.cells #[.int .i64 0] 3)); clear HB
    have HO : Hid ((w1.alloc (Obj.cells #[.int .i64 0] 3)).ownsRow (w.heap.size + 1) 117 4 (.slice none 0 0) 0 []) := World.ownsRow_nil _ _ _ _
    have hs0 : w.heap.size + 1 < (w1.alloc (Obj.cells #[.int .i64 0] 3)).heap.size := by simp; omega
    have HS0 := Lib.hid hs0; clear hs0
    refine (rput_any 1 (1) (1) (0) w1.heap.size (w.heap.size + 1) (w.heap.size + 1) (w.heap.size + 1) _ ([] : List Rg) _ (by omega) (by omega) (by omega) (by omega) (by omega) (by omega) (by simp) HA.out HL0.out HO.out (by omega) (by omega) (by omega) (by have := HS0.out; omega)).mono ?_
    rw [show (0 : Int) + (1) * (1) = 1 from by omega, show ((1 : Int)) * (1) = 1 from by omega]
    rintro e w2 ⟨rfl, v2, hA, hL, hO, hBB, hsz⟩
    clear g0 g1 g2 g3 g4 g5 g6 g7 HA HL0 HO
    have hbG := HG0.out.below hBB (by omega)
    have hB := HB0.out.trans (hBB.mono (by omega))
    have hs1 := Nat.lt_of_lt_of_le HS0.out hsz
    clear HG0 HB0 HS0 hBB hsz
    obtain ⟨g0, g1, g2, g3, g4, g5, g6, g7⟩ := hbG.cells8
    have HA := Lib.hid hA; clear hA
    have HO := Lib.hid hO; clear hO
    have HL0 := Lib.hid hL
    have HG0 := Lib.hid hbG; clear hbG
    have HB0 := Lib.hid hB; clear hB
    have HS0 := Lib.hid hs1; clear hs1
    clear hL
    go_wp2_with fail
    refine (rput_any 2 (n) (1) (1) w1.heap.size (w.heap.size + 1) (w.heap.size + 1) (w.heap.size + 1) _ [Rg.mk (0) (1) 1 (1)] _ (by omega) (by omega) (by omega) (by omega) (by omega) (by omega) (by simp) HA.out HL0.out HO.out (by omega) (by omega) (by omega) (by have := HS0.out; omega)).mono ?_
    rw [show (1 : Int) + (n) * (1) = 1 + n from by omega, show ((n : Int)) * (1) = n from by omega]
    rintro e w3 ⟨rfl, v3, hA, hL, hO, hBB, hsz⟩
    clear g0 g1 g2 g3 g4 g5 g6 g7 HA HL0 HO
    have hbG := HG0.out.below hBB (by omega)
    have hB := HB0.out.trans (hBB.mono (by omega))
    have hs1 := Nat.lt_of_lt_of_le HS0.out hsz
    clear HG0 HB0 HS0 hBB hsz
    obtain ⟨g0, g1, g2, g3, g4, g5, g6, g7⟩ := hbG.cells8
    have HA := Lib.hid hA; clear hA
    have HO := Lib.hid hO; clear hO
    have HL0 := Lib.hid hL
    have HG0 := Lib.hid hbG; clear hbG
    have HB0 := Lib.hid hB; clear hB
    have HS0 := Lib.hid hs1; clear hs1
    clear hL
    go_wp2_with fail
    refine (rput_any 3 (n) (1) (1 + n) w1.heap.size (w.heap.size + 1) (w.heap.size + 1) (w.heap.size + 1) _ [Rg.mk (0) (1) 1 (1), Rg.mk (1) (n) 2 (1)] _ (by omega) (by omega) (by omega) (by omega) (by omega) (by omega) (by simp) HA.out HL0.out HO.out (by omega) (by omega) (by omega) (by have := HS0.out; omega)).mono ?_
    rw [show (1 + n : Int) + (n) * (1) = 1 + n + n from by omega, show ((n : Int)) * (1) = n from by omega]
    rintro e w4 ⟨rfl, v4, hA, hL, hO, hBB, hsz⟩
    clear g0 g1 g2 g3 g4 g5 g6 g7 HA HL0 HO
    have hbG := HG0.out.below hBB (by omega)
    have hB := HB0.out.trans (hBB.mono (by omega))
    have hs1 := Nat.lt_of_lt_of_le HS0.out hsz
    clear HG0 HB0 HS0 hBB hsz
    obtain ⟨g0, g1, g2, g3, g4, g5, g6, g7⟩ := hbG.cells8
    have HA := Lib.hid hA; clear hA
    have HO := Lib.hid hO; clear hO
    have HL0 := Lib.hid hL
    have HG0 := Lib.hid hbG; clear hbG
    have HB0 := Lib.hid hB; clear hB
    have HS0 := Lib.hid hs1; clear hs1
    clear hL
    go_wp2_with fail
    refine (rput_any 4 (l) (1) (1 + n + n) w1.heap.size (w.heap.size + 1) (w.heap.size + 1) (w.heap.size + 1) _ [Rg.mk (0) (1) 1 (1), Rg.mk (1) (n) 2 (1), Rg.mk (1 + n) (n) 3 (1)] _ (by omega) (by omega) (by omega) (by omega) (by omega) (by omega) (by simp) HA.out HL0.out HO.out (by omega) (by omega) (by omega) (by have := HS0.out; omega)).mono ?_
    rw [show (1 + n + n : Int) + (l) * (1) = 1 + n + n + l from by omega, show ((l : Int)) * (1) = l from by omega]
    rintro e w5 ⟨rfl, v5, hA, hL, hO, hBB, hsz⟩
    clear g0 g1 g2 g3 g4 g5 g6 g7 HA HL0 HO
    have hbG := HG0.out.below hBB (by omega)
    have hB := HB0.out.trans (hBB.mono (by omega))
    have hs1 := Nat.lt_of_lt_of_le HS0.out hsz
    clear HG0 HB0 HS0 hBB hsz
    obtain ⟨g0, g1, g2, g3, g4, g5, g6, g7⟩ := hbG.cells8
    have HA := Lib.hid hA; clear hA
    have HO := Lib.hid hO; clear hO
    have HL0 := Lib.hid hL
    have HG0 := Lib.hid hbG; clear hbG
    have HB0 := Lib.hid hB; clear hB
    have HS0 := Lib.hid hs1; clear hs1
    clear hL
    go_wp2_with fail
    refine (rput_any 6 (s) (1 + j) (1 + n + n + l) w1.heap.size (w.heap.size + 1) (w.heap.size + 1) (w.heap.size + 1) _ [Rg.mk (0) (1) 1 (1), Rg.mk (1) (n) 2 (1), Rg.mk (1 + n) (n) 3 (1), Rg.mk (1 + n + n) (l) 4 (1)] _ (by omega) (by omega) (by omega) (by omega) (by omega) (by omega) (by simp) HA.out HL0.out HO.out (by omega) (by omega) (by omega) (by have := HS0.out; omega)).mono ?_
    rw [show (1 + n + n + l : Int) + (s) * (1 + j) = 1 + n + n + l + s * (1 + j) from by rfl, show ((s : Int)) * (1 + j) = s * (1 + j) from by rfl]
    rintro e w6 ⟨rfl, v6, hA, hL, hO, hBB, hsz⟩
    clear g0 g1 g2 g3 g4 g5 g6 g7 HA HL0 HO
    have hbG := HG0.out.below hBB (by omega)
    have hB := HB0.out.trans (hBB.mono (by omega))
    have hs1 := Nat.lt_of_lt_of_le HS0.out hsz
    clear HG0 HB0 HS0 hBB hsz
    obtain ⟨g0, g1, g2, g3, g4, g5, g6, g7⟩ := hbG.cells8
    have HA := Lib.hid hA; clear hA
    have HO := Lib.hid hO; clear hO
    have HL0 := Lib.hid hL
    have HG0 := Lib.hid hbG; clear hbG
    have HB0 := Lib.hid hB; clear hB
    have HS0 := Lib.hid hs1; clear hs1
    clear hL
    go_wp2_with fail
    refine (rput_any 7 (b) (p) (1 + n + n + l + s * (1 + j)) w1.heap.size (w.heap.size + 1) (w.heap.size + 1) (w.heap.size + 1) _ [Rg.mk (0) (1) 1 (1), Rg.mk (1) (n) 2 (1), Rg.mk (1 + n) (n) 3 (1), Rg.mk (1 + n + n) (l) 4 (1), Rg.mk (1 + n + n + l) (s * (1 + j)) 6 (1 + j)] _ (by omega) (by omega) (by omega) (by omega) (by omega) (by omega) (by simp) HA.out HL0.out HO.out (by omega) (by omega) (by omega) (by have := HS0.out; omega)).mono ?_
    rw [show (1 + n + n + l + s * (1 + j) : Int) + (b) * (p) = 1 + n + n + l + s * (1 + j) + b * p from by rfl, show ((b : Int)) * (p) = b * p from by rfl]
    rintro e w7 ⟨rfl, v7, hA, hL, hO, hBB, hsz⟩
    clear g0 g1 g2 g3 g4 g5 g6 g7 HA HL0 HO
    have hbG := HG0.out.below hBB (by omega)
    have hB := HB0.out.trans (hBB.mono (by omega))
    have hs1 := Nat.lt_of_lt_of_le HS0.out hsz
    clear HG0 HB0 HS0 hBB hsz
    obtain ⟨g0, g1, g2, g3, g4, g5, g6, g7⟩ := hbG.cells8
    have HA := Lib.hid hA; clear hA
    have HO := Lib.hid hO; clear hO
    have HL0 := Lib.hid hL
    have HG0 := Lib.hid hbG; clear hbG
    have HB0 := Lib.hid hB; clear hB
    have HS0 := Lib.hid hs1; clear hs1
    obtain ⟨A7, c7, rfl, -, -, -⟩ := own_reads HO.out
    have ql := hL.cell 0
    have qf := hL.frozen 0
    clear hL
    go_wp2_with fail
    have hL8 := HL0.out.set_ 0 (.slice A7 6 c7)
    have hO8 := ownsRow_setCell_other HO.out (a := ⟨w.heap.size + 1, 0, none⟩) (own_blk_ne HO.out HL0.out (by decide)) (.slice A7 6 c7)
    have hB8 := HB0.out.setCell (p := ⟨w.heap.size + 1, 0, none⟩) (by simp) (.slice A7 6 c7)
    have hq8 : (w7.setCell ⟨w.heap.size + 1, 0, none⟩ (.slice A7 6 c7)).cell? ⟨w.heap.size + 1, 0, none⟩ = some (.slice A7 6 c7) := hL8.cell 0
    refine bodyPost_ret_cell rfl rfl Try.underlying122 hq8 rfl ?_
    rw [HP.out]
    exact ⟨_, rfl, hO8, hB8⟩
  · have hmf' : g.may = false := by simpa using hm
    rw [hmf'] at hmay
    have HP : Hid (∀ e w', RgsPost w g e w' ↔ ∃ v, e = .returned v ∧ w'.ownsRow (w.heap.size + 1) 117 4 v 0 [] ∧ Below w.heap.size w w') := fun e w' => by unfold RgsPost; rw [if_neg hm]; rfl
    obtain ⟨n, s, b, p, j, l, le, wt⟩ := g
    dsimp only [Geo.v] at *
    have HM := Lib.hid hmay; clear hmay hm hmf'
    go_enter Try.func68, Try.ntmps68
    go_wp2_with fail
    refine (HM.out _).mono ?_
    rintro e w1 ⟨rfl, hB1⟩
    have hbL : Blk w1 (w.heap.size + 1) 122 #[.slice none 0 0] := by
      have h := Blk.new (w.alloc (Obj.cells #[.int .i64 n, .int .i64 s, .int .i64 b, .int .i64 p, .int .i64 j, .int .i64 l, .int .i64 le, .int .i64 wt] 23)) 122 #[.slice none 0 0]
      rw [show (w.alloc (Obj.cells #[.int .i64 n, .int .i64 s, .int .i64 b, .int .i64 p, .int .i64 j, .int .i64 l, .int .i64 le, .int .i64 wt] 23)).heap.size = w.heap.size + 1 by simp] at h
      exact h.below hB1 (by simp)
    have hB := below_step (below2 w _ _) hB1 (by simp; omega)
    have ql := hbL.cell 0
    have qf := hbL.frozen 0
    have HL := Lib.hid hbL; clear hbL
    have HB := Lib.hid hB; clear hB hB1
    go_wp2_with fail
    have hL8 := HL.out.set_ 0 (.slice none 0 0)
    have hB8 := HB.out.setCell (p := ⟨w.heap.size + 1, 0, none⟩) (by simp) (.slice none 0 0)
    have hq8 : (w1.setCell ⟨w.heap.size + 1, 0, none⟩ (.slice none 0 0)).cell? ⟨w.heap.size + 1, 0, none⟩ = some (.slice none 0 0) := hL8.cell 0
    refine bodyPost_ret_cell rfl rfl Try.underlying122 hq8 rfl ?_
    rw [HP.out]
    exact ⟨_, rfl, World.ownsRow_nil _ _ _ _, hB8⟩
end Go.Proofs.Ytfonaceldfjneaa
