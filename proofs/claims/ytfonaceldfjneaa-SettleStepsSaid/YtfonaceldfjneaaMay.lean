/- The walk of geo.May. -/
import Derived.Test.YtfonaceldfjneaaGeo
namespace Go.Proofs.Ytfonaceldfjneaa
open Go.RowKit

theorem Blk.cells8 {w : World} {g : Nat} {t : TypeId} {a0 a1 a2 a3 a4 a5 a6 a7 : Value} (h : Blk w g t #[a0, a1, a2, a3, a4, a5, a6, a7]) :
    w.cell? ⟨g, 0, none⟩ = some a0 ∧ w.cell? ⟨g, 1, none⟩ = some a1 ∧ w.cell? ⟨g, 2, none⟩ = some a2 ∧ w.cell? ⟨g, 3, none⟩ = some a3 ∧ w.cell? ⟨g, 4, none⟩ = some a4 ∧ w.cell? ⟨g, 5, none⟩ = some a5 ∧ w.cell? ⟨g, 6, none⟩ = some a6 ∧ w.cell? ⟨g, 7, none⟩ = some a7 :=
  ⟨h.cell 0, h.cell 1, h.cell 2, h.cell 3, h.cell 4, h.cell 5, h.cell 6, h.cell 7⟩
theorem below2 (w : World) (o o' : Obj) : Below w.heap.size w ((w.alloc o).alloc o') := ((Below.refl _ _).alloc (Nat.le_refl _) o).alloc (by simp) o'

set_option maxHeartbeats 4000000 in
set_option maxRecDepth 100000 in
theorem May_any (g : Geo) (w : World) (hw1 : -9223372036854775808 ≤ g.wait) (hw2 : g.wait ≤ 9223372036854775807) :
    Calls Try.prog 59 #[g.v] w fun e w' => e = .returned (.bool g.may) ∧ Below w.heap.size w w' := by
  obtain ⟨n, s, b, p, j, l, le, wt⟩ := g
  dsimp only at hw1 hw2
  have hm : Geo.may ⟨n, s, b, p, j, l, le, wt⟩ = decide ((1 ≤ s ∧ s ≤ n ∧ n ≤ 16) ∧ (1 ≤ b ∧ b ≤ 64) ∧ (1 ≤ p ∧ p ≤ 8) ∧ (p + 2 ≤ j ∧ j ≤ 64) ∧ (8 * s ≤ l ∧ l ≤ 512) ∧ (1 ≤ le ∧ le ≤ wt - 1 ∧ wt - 1 ≤ 1048575)) := by
    unfold Geo.may
    rw [decide_eq_decide]
    dsimp only
    omega
  rw [hm]
  have HM := Lib.hid hm; clear hm
  go_enter Try.func59, Try.ntmps59
  go_wp2_with fail
  have HG0 : Hid (Blk ((w.alloc (Obj.cells #[.int .i64 n, .int .i64 s, .int .i64 b, .int .i64 p, .int .i64 j, .int .i64 l, .int .i64 le, .int .i64 wt] 23)).alloc (Obj.cells #[.int .i64 1, .int .i64 s, .int .i64 n, .int .i64 16] 3)) w.heap.size 23 #[.int .i64 n, .int .i64 s, .int .i64 b, .int .i64 p, .int .i64 j, .int .i64 l, .int .i64 le, .int .i64 wt]) := (Blk.new w _ _).alloc _
  have HB0 : Hid (Below w.heap.size w ((w.alloc (Obj.cells #[.int .i64 n, .int .i64 s, .int .i64 b, .int .i64 p, .int .i64 j, .int .i64 l, .int .i64 le, .int .i64 wt] 23)).alloc (Obj.cells #[.int .i64 1, .int .i64 s, .int .i64 n, .int .i64 16] 3))) := below2 _ _ _
  have hs0 : Blk ((w.alloc (Obj.cells #[.int .i64 n, .int .i64 s, .int .i64 b, .int .i64 p, .int .i64 j, .int .i64 l, .int .i64 le, .int .i64 wt] 23)).alloc (Obj.cells #[.int .i64 1, .int .i64 s, .int .i64 n, .int .i64 16] 3)) (w.heap.size + 1) 3 #[.int .i64 1, .int .i64 s, .int .i64 n, .int .i64 16] := by
    have h := Blk.new (w.alloc (Obj.cells #[.int .i64 n, .int .i64 s, .int .i64 b, .int .i64 p, .int .i64 j, .int .i64 l, .int .i64 le, .int .i64 wt] 23)) 3 #[.int .i64 1, .int .i64 s, .int .i64 n, .int .i64 16]
    rwa [show (w.alloc (Obj.cells #[.int .i64 n, .int .i64 s, .int .i64 b, .int .i64 p, .int .i64 j, .int .i64 l, .int .i64 le, .int .i64 wt] 23)).heap.size = w.heap.size + 1 by simp] at h
  refine (within4 _ _ 1 s n 16 _ hs0).mono ?_
  rintro e w1 ⟨rfl, hB1⟩
  have hbG := HG0.out.below hB1 HG0.out.lt
  have hB := below_step HB0.out hB1 HB0.out.size
  clear hB1 HG0 HB0
  obtain ⟨g0, g1, g2, g3, g4, g5, g6, g7⟩ := hbG.cells8
  have HG := Lib.hid hbG; clear hbG
  have HB := Lib.hid hB; clear hB
  by_cases c0 : 1 ≤ s ∧ s ≤ n ∧ n ≤ 16
  case neg =>
    have hf : decide ((1 ≤ s ∧ s ≤ n ∧ n ≤ 16) ∧ (1 ≤ b ∧ b ≤ 64) ∧ (1 ≤ p ∧ p ≤ 8) ∧ (p + 2 ≤ j ∧ j ≤ 64) ∧ (8 * s ≤ l ∧ l ≤ 512) ∧ (1 ≤ le ∧ le ≤ wt - 1 ∧ wt - 1 ≤ 1048575)) = false := decide_eq_false (fun h => c0 h.1)
    have HF := Lib.hid hf; clear hf
    have hd : decide (1 ≤ s ∧ s ≤ n ∧ n ≤ 16) = false := decide_eq_false c0
    generalize decide (1 ≤ s ∧ s ≤ n ∧ n ≤ 16) = bb at *
    subst hd
    clear c0
    go_wp2_with fail
    go_ret
    exact ⟨by rw [HF.out]; rfl, HB.out⟩
  rw [decide_eq_true c0]
  go_wp2_with fail
  have HG0 : Hid (Blk (w1.alloc (Obj.cells #[.int .i64 1, .int .i64 b, .int .i64 64] 3)) w.heap.size 23 #[.int .i64 n, .int .i64 s, .int .i64 b, .int .i64 p, .int .i64 j, .int .i64 l, .int .i64 le, .int .i64 wt]) := HG.out.alloc _
  have HB0 : Hid (Below w.heap.size w (w1.alloc (Obj.cells #[.int .i64 1, .int .i64 b, .int .i64 64] 3))) := HB.out.alloc HB.out.size _
  clear HG HB g0 g1 g2 g3 g4 g5 g6 g7
  refine (within3 _ _ 1 b 64 _ (Blk.new w1 _ _)).mono ?_
  rintro e w2 ⟨rfl, hB1⟩
  have hbG := HG0.out.below hB1 HG0.out.lt
  have hB := below_step HB0.out hB1 HB0.out.size
  clear hB1 HG0 HB0
  obtain ⟨g0, g1, g2, g3, g4, g5, g6, g7⟩ := hbG.cells8
  have HG := Lib.hid hbG; clear hbG
  have HB := Lib.hid hB; clear hB
  by_cases c1 : 1 ≤ b ∧ b ≤ 64
  case neg =>
    have hf : decide ((1 ≤ s ∧ s ≤ n ∧ n ≤ 16) ∧ (1 ≤ b ∧ b ≤ 64) ∧ (1 ≤ p ∧ p ≤ 8) ∧ (p + 2 ≤ j ∧ j ≤ 64) ∧ (8 * s ≤ l ∧ l ≤ 512) ∧ (1 ≤ le ∧ le ≤ wt - 1 ∧ wt - 1 ≤ 1048575)) = false := decide_eq_false (fun h => c1 h.2.1)
    have HF := Lib.hid hf; clear hf
    have hd : decide (1 ≤ b ∧ b ≤ 64) = false := decide_eq_false c1
    generalize decide (1 ≤ b ∧ b ≤ 64) = bb at *
    subst hd
    clear c1
    go_wp2_with fail
    go_ret
    exact ⟨by rw [HF.out]; rfl, HB.out⟩
  rw [decide_eq_true c1]
  go_wp2_with fail
  have HG0 : Hid (Blk (w2.alloc (Obj.cells #[.int .i64 1, .int .i64 p, .int .i64 8] 3)) w.heap.size 23 #[.int .i64 n, .int .i64 s, .int .i64 b, .int .i64 p, .int .i64 j, .int .i64 l, .int .i64 le, .int .i64 wt]) := HG.out.alloc _
  have HB0 : Hid (Below w.heap.size w (w2.alloc (Obj.cells #[.int .i64 1, .int .i64 p, .int .i64 8] 3))) := HB.out.alloc HB.out.size _
  clear HG HB g0 g1 g2 g3 g4 g5 g6 g7
  refine (within3 _ _ 1 p 8 _ (Blk.new w2 _ _)).mono ?_
  rintro e w3 ⟨rfl, hB1⟩
  have hbG := HG0.out.below hB1 HG0.out.lt
  have hB := below_step HB0.out hB1 HB0.out.size
  clear hB1 HG0 HB0
  obtain ⟨g0, g1, g2, g3, g4, g5, g6, g7⟩ := hbG.cells8
  have HG := Lib.hid hbG; clear hbG
  have HB := Lib.hid hB; clear hB
  by_cases c2 : 1 ≤ p ∧ p ≤ 8
  case neg =>
    have hf : decide ((1 ≤ s ∧ s ≤ n ∧ n ≤ 16) ∧ (1 ≤ b ∧ b ≤ 64) ∧ (1 ≤ p ∧ p ≤ 8) ∧ (p + 2 ≤ j ∧ j ≤ 64) ∧ (8 * s ≤ l ∧ l ≤ 512) ∧ (1 ≤ le ∧ le ≤ wt - 1 ∧ wt - 1 ≤ 1048575)) = false := decide_eq_false (fun h => c2 h.2.2.1)
    have HF := Lib.hid hf; clear hf
    have hd : decide (1 ≤ p ∧ p ≤ 8) = false := decide_eq_false c2
    generalize decide (1 ≤ p ∧ p ≤ 8) = bb at *
    subst hd
    clear c2
    go_wp2_with fail
    go_ret
    exact ⟨by rw [HF.out]; rfl, HB.out⟩
  rw [decide_eq_true c2]
  go_wp2_with fail
  have HG0 : Hid (Blk (w3.alloc (Obj.cells #[.int .i64 (p + 2), .int .i64 j, .int .i64 64] 3)) w.heap.size 23 #[.int .i64 n, .int .i64 s, .int .i64 b, .int .i64 p, .int .i64 j, .int .i64 l, .int .i64 le, .int .i64 wt]) := HG.out.alloc _
  have HB0 : Hid (Below w.heap.size w (w3.alloc (Obj.cells #[.int .i64 (p + 2), .int .i64 j, .int .i64 64] 3))) := HB.out.alloc HB.out.size _
  clear HG HB g0 g1 g2 g3 g4 g5 g6 g7
  refine (within3 _ _ (p + 2) j 64 _ (Blk.new w3 _ _)).mono ?_
  rintro e w4 ⟨rfl, hB1⟩
  have hbG := HG0.out.below hB1 HG0.out.lt
  have hB := below_step HB0.out hB1 HB0.out.size
  clear hB1 HG0 HB0
  obtain ⟨g0, g1, g2, g3, g4, g5, g6, g7⟩ := hbG.cells8
  have HG := Lib.hid hbG; clear hbG
  have HB := Lib.hid hB; clear hB
  by_cases c3 : p + 2 ≤ j ∧ j ≤ 64
  case neg =>
    have hf : decide ((1 ≤ s ∧ s ≤ n ∧ n ≤ 16) ∧ (1 ≤ b ∧ b ≤ 64) ∧ (1 ≤ p ∧ p ≤ 8) ∧ (p + 2 ≤ j ∧ j ≤ 64) ∧ (8 * s ≤ l ∧ l ≤ 512) ∧ (1 ≤ le ∧ le ≤ wt - 1 ∧ wt - 1 ≤ 1048575)) = false := decide_eq_false (fun h => c3 h.2.2.2.1)
    have HF := Lib.hid hf; clear hf
    have hd : decide (p + 2 ≤ j ∧ j ≤ 64) = false := decide_eq_false c3
    generalize decide (p + 2 ≤ j ∧ j ≤ 64) = bb at *
    subst hd
    clear c3
    go_wp2_with fail
    go_ret
    exact ⟨by rw [HF.out]; rfl, HB.out⟩
  rw [decide_eq_true c3]
  go_wp2_with fail
  have HG0 : Hid (Blk (w4.alloc (Obj.cells #[.int .i64 (8 * s), .int .i64 l, .int .i64 512] 3)) w.heap.size 23 #[.int .i64 n, .int .i64 s, .int .i64 b, .int .i64 p, .int .i64 j, .int .i64 l, .int .i64 le, .int .i64 wt]) := HG.out.alloc _
  have HB0 : Hid (Below w.heap.size w (w4.alloc (Obj.cells #[.int .i64 (8 * s), .int .i64 l, .int .i64 512] 3))) := HB.out.alloc HB.out.size _
  clear HG HB g0 g1 g2 g3 g4 g5 g6 g7
  refine (within3 _ _ (8 * s) l 512 _ (Blk.new w4 _ _)).mono ?_
  rintro e w5 ⟨rfl, hB1⟩
  have hbG := HG0.out.below hB1 HG0.out.lt
  have hB := below_step HB0.out hB1 HB0.out.size
  clear hB1 HG0 HB0
  obtain ⟨g0, g1, g2, g3, g4, g5, g6, g7⟩ := hbG.cells8
  have HG := Lib.hid hbG; clear hbG
  have HB := Lib.hid hB; clear hB
  by_cases c4 : 8 * s ≤ l ∧ l ≤ 512
  case neg =>
    have hf : decide ((1 ≤ s ∧ s ≤ n ∧ n ≤ 16) ∧ (1 ≤ b ∧ b ≤ 64) ∧ (1 ≤ p ∧ p ≤ 8) ∧ (p + 2 ≤ j ∧ j ≤ 64) ∧ (8 * s ≤ l ∧ l ≤ 512) ∧ (1 ≤ le ∧ le ≤ wt - 1 ∧ wt - 1 ≤ 1048575)) = false := decide_eq_false (fun h => c4 h.2.2.2.2.1)
    have HF := Lib.hid hf; clear hf
    have hd : decide (8 * s ≤ l ∧ l ≤ 512) = false := decide_eq_false c4
    generalize decide (8 * s ≤ l ∧ l ≤ 512) = bb at *
    subst hd
    clear c4
    go_wp2_with fail
    go_ret
    exact ⟨by rw [HF.out]; rfl, HB.out⟩
  rw [decide_eq_true c4]
  rcases Int.lt_or_eq_of_le hw1 with hw1 | hw1
  case inr =>
    have hf : decide ((1 ≤ s ∧ s ≤ n ∧ n ≤ 16) ∧ (1 ≤ b ∧ b ≤ 64) ∧ (1 ≤ p ∧ p ≤ 8) ∧ (p + 2 ≤ j ∧ j ≤ 64) ∧ (8 * s ≤ l ∧ l ≤ 512) ∧ (1 ≤ le ∧ le ≤ wt - 1 ∧ wt - 1 ≤ 1048575)) = false := decide_eq_false (fun h => by omega)
    have HF := Lib.hid hf; clear hf
    subst hw1
    go_wp2_with fail
    rw [show wrap64 (-9223372036854775809) = 9223372036854775807 from by decide +kernel]
    have HB0 : Hid (Below w.heap.size w (w5.alloc (Obj.cells #[.int .i64 1, .int .i64 le, .int .i64 9223372036854775807, .int .i64 1048575] 3))) := HB.out.alloc HB.out.size _
    clear HG HB g0 g1 g2 g3 g4 g5 g6 g7
    refine (within4 _ _ 1 le 9223372036854775807 1048575 _ (Blk.new w5 _ _)).mono ?_
    rintro e w6 ⟨rfl, hB1⟩
    have hB := below_step HB0.out hB1 HB0.out.size
    clear hB1 HB0
    have hd : decide ((1 : Int) ≤ le ∧ le ≤ 9223372036854775807 ∧ (9223372036854775807 : Int) ≤ 1048575) = false := decide_eq_false (fun h => by omega)
    rw [hd]
    clear hd
    have HB := Lib.hid hB; clear hB
    go_wp2_with fail
    go_ret
    exact ⟨by rw [HF.out]; rfl, HB.out⟩
  go_wp2_with fail
  have HG0 : Hid (Blk (w5.alloc (Obj.cells #[.int .i64 1, .int .i64 le, .int .i64 (wt - 1), .int .i64 1048575] 3)) w.heap.size 23 #[.int .i64 n, .int .i64 s, .int .i64 b, .int .i64 p, .int .i64 j, .int .i64 l, .int .i64 le, .int .i64 wt]) := HG.out.alloc _
  have HB0 : Hid (Below w.heap.size w (w5.alloc (Obj.cells #[.int .i64 1, .int .i64 le, .int .i64 (wt - 1), .int .i64 1048575] 3))) := HB.out.alloc HB.out.size _
  clear HG HB g0 g1 g2 g3 g4 g5 g6 g7
  refine (within4 _ _ 1 le (wt - 1) 1048575 _ (Blk.new w5 _ _)).mono ?_
  rintro e w6 ⟨rfl, hB1⟩
  have hbG := HG0.out.below hB1 HG0.out.lt
  have hB := below_step HB0.out hB1 HB0.out.size
  clear hB1 HG0 HB0
  obtain ⟨g0, g1, g2, g3, g4, g5, g6, g7⟩ := hbG.cells8
  have HG := Lib.hid hbG; clear hbG
  have HB := Lib.hid hB; clear hB
  by_cases c5 : 1 ≤ le ∧ le ≤ wt - 1 ∧ wt - 1 ≤ 1048575
  case neg =>
    have hf : decide ((1 ≤ s ∧ s ≤ n ∧ n ≤ 16) ∧ (1 ≤ b ∧ b ≤ 64) ∧ (1 ≤ p ∧ p ≤ 8) ∧ (p + 2 ≤ j ∧ j ≤ 64) ∧ (8 * s ≤ l ∧ l ≤ 512) ∧ (1 ≤ le ∧ le ≤ wt - 1 ∧ wt - 1 ≤ 1048575)) = false := decide_eq_false (fun h => c5 h.2.2.2.2.2)
    have HF := Lib.hid hf; clear hf
    have hd : decide (1 ≤ le ∧ le ≤ wt - 1 ∧ wt - 1 ≤ 1048575) = false := decide_eq_false c5
    generalize decide (1 ≤ le ∧ le ≤ wt - 1 ∧ wt - 1 ≤ 1048575) = bb at *
    subst hd
    clear c5
    go_wp2_with fail
    go_ret
    exact ⟨by rw [HF.out]; rfl, HB.out⟩
  rw [decide_eq_true c5]
  go_wp2_with fail
  go_ret
  exact ⟨by rw [decide_eq_true ⟨c0, c1, c2, c3, c4, c5⟩]; rfl, HB.out⟩
end Go.Proofs.Ytfonaceldfjneaa
