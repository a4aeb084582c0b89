/- The walks of ref16.Great, ref18.SameCells, ref20.Same, law20's small and wakes. -/
import Derived.Test.YtfonaceldfjneaaSettle5
namespace Go.Proofs.Ytfonaceldfjneaa
open Go.RowKit

def GreatPost (l : List Pr) (w : World) (e : Ending) (w' : World) : Prop := ∃ q : Bool, e = .returned (.bool q) ∧ (q = false → l.length ≤ 70) ∧ w = w'
set_option maxHeartbeats 1000000 in
theorem Great_any (A : Option Addr) (c : Nat) (l : List Pr) (w : World) (hl : l.length ≤ maxLen) (hr : Reads w w.heap.size 2 A l.length (prCells l)) :
    Calls Try.prog 5 #[.slice A l.length c] w fun e w' => GreatPost l w e w' := by
  unfold maxLen at hl
  have HR := Lib.hid hr; clear hr
  go_enter Try.func5, Try.ntmps5
  go_wp2_with fail
  go_loopg [3] 71 (fun k i wr => ∃ j : Nat, j ≤ l.length ∧ j ≤ 71 ∧ k = 71 - j ∧ i = .int .i64 j ∧ wr = w)
  case atStart => exact ⟨0, by omega, by omega, rfl, rfl, rfl⟩
  case round =>
    obtain ⟨j, hj, hj2, rfl, rfl, rfl⟩ := hrel
    by_cases hlt : j < l.length
    · by_cases h70 : j ≤ 70
      · obtain ⟨ad, rfl, had, x0, x1⟩ := reads_pr HR.out hlt
        generalize l[j] = x at *
        obtain ⟨xn, xt⟩ := x
        dsimp only at x0 x1
        have h70' : (j : Int) ≤ 70 := by omega
        by_cases hs : (5000 : Int) < (xt.size : Int)
        · go_wp2_with fail
          go_ret
          exact ⟨true, rfl, (fun h => by cases h), rfl⟩
        · go_wp2_with fail
          go_roundg (71 - (j + 1))
          case rel => exact ⟨j + 1, by omega, by omega, rfl, by go_num, rfl⟩
          case measure => omega
      · have h70' : ¬ (j : Int) ≤ 70 := by omega
        have h71 : (70 : Int) < (l.length : Int) := by omega
        go_wp2_with fail
        go_ret
        exact ⟨true, rfl, (fun h => by cases h), rfl⟩
    · by_cases h71 : (70 : Int) < (l.length : Int)
      · go_wp2_with fail
        go_ret
        exact ⟨true, rfl, (fun h => by cases h), rfl⟩
      · have h72 : l.length ≤ 70 := by omega
        go_wp2_with fail
        go_ret
        exact ⟨false, rfl, (fun _ => h72), rfl⟩

set_option maxHeartbeats 1000000 in
theorem SameCells_same (A A' : Option Addr) (c c' : Nat) (l : List Pr) (w : World) (hl : l.length ≤ 1000000) (hr : Reads w w.heap.size 2 A l.length (prCells l)) (hr' : Reads w w.heap.size 2 A' l.length (prCells l)) :
    Calls Try.prog 43 #[.slice A l.length c, .slice A' l.length c'] w fun e w' => e = .returned (.bool true) ∧ Below w.heap.size w w' := by
  have HR := Lib.hid hr; clear hr
  have HR' := Lib.hid hr'; clear hr'
  go_enter Try.func43, Try.ntmps43
  go_wp2_with fail
  go_loopg [5] l.length (fun k i wr => ∃ j : Nat, j ≤ l.length ∧ k = l.length - j ∧ i = .int .i64 j ∧ Below w.heap.size w wr)
  case atStart => exact ⟨0, by omega, rfl, rfl, Below.refl _ _⟩
  case round =>
    obtain ⟨j, hj, rfl, rfl, hB⟩ := hrel
    by_cases hlt : j < l.length
    · obtain ⟨ad, rfl, had, x0, x1⟩ := reads_pr (HR.out.below hB) hlt
      obtain ⟨ad', rfl, had', y0, y1⟩ := reads_pr (HR'.out.below hB) hlt
      generalize l[j] = x at *
      obtain ⟨xn, xt⟩ := x
      dsimp only at x0 x1 y0 y1
      have i1 : (0 : Int) ≤ (j : Int) := by omega
      have i2 : (j : Int) < (l.length : Int) := by omega
      have HB := Lib.hid hB; clear hB
      go_wp2_with fail
      go_quiet (fail)
      go_wp2_with fail
      go_roundg (l.length - (j + 1))
      case rel => exact ⟨j + 1, by omega, rfl, by go_num, below_drewN HB.out _⟩
      case measure => omega
    · go_wp2_with fail
      go_ret
      exact ⟨rfl, hB⟩

set_option maxHeartbeats 1000000 in
theorem Same_same (A A' : Option Addr) (c c' : Nat) (l : List Pr) (s : St) (w : World) (hl : l.length ≤ 1000000) (hr : Reads w w.heap.size 2 A l.length (prCells l)) (hr' : Reads w w.heap.size 2 A' l.length (prCells l)) :
    Calls Try.prog 21 #[.agg (stlV (.slice A l.length c) s), .agg (stlV (.slice A' l.length c') s)] w fun e w' => e = .returned (.bool true) ∧ Below w.heap.size w w' := by
  obtain ⟨s0, s1, s2⟩ := s
  have HS := Lib.hid (fun w hr hr' => SameCells_same A A' c c' l w hl hr hr')
  have HB := Lib.hid (((Below.refl w.heap.size w).alloc (Nat.le_refl _) (Obj.cells (stlV (.slice A l.length c) (s0, s1, s2)) 58)).alloc (by simp) (Obj.cells (stlV (.slice A' l.length c') (s0, s1, s2)) 58))
  have HA := Lib.hid ((Blk.new w 58 (stlV (.slice A l.length c) (s0, s1, s2))).alloc (Obj.cells (stlV (.slice A' l.length c') (s0, s1, s2)) 58))
  have hA' := Blk.new (w.alloc (Obj.cells (stlV (.slice A l.length c) (s0, s1, s2)) 58)) 58 (stlV (.slice A' l.length c') (s0, s1, s2))
  rw [World.size_alloc] at hA'
  have HA' := Lib.hid hA'; clear hA'
  have HR := Lib.hid hr; clear hr
  have HR' := Lib.hid hr'; clear hr'
  dsimp only [stlV]
  go_enter Try.func21, Try.ntmps21
  go_wp2_with fail
  refine (HS.out _ ((HR.out.below HB.out).more HB.out.size) ((HR'.out.below HB.out).more HB.out.size)).mono ?_
  rintro e w1 ⟨rfl, hB⟩
  have h1 := HA.out.below hB HA.out.lt
  have h2 := HA'.out.below hB HA'.out.lt
  have HB1 := Lib.hid (below_step HB.out hB HB.out.size); clear hB
  obtain ⟨p0, p1, p2, p3⟩ := h1.cells4
  obtain ⟨q0, q1, q2, q3⟩ := h2.cells4
  clear h1 h2
  go_wp2_with fail
  go_ret
  exact ⟨rfl, HB1.out⟩

def smallG : Geo := ⟨1, 1, 3, 2, 9, 8, 1, 2⟩
theorem small_any (w : World) : Calls Try.prog 23 #[] w fun e w' => e = .returned smallG.v ∧ Below w.heap.size w w' := by
  go_enter Try.func23, Try.ntmps23
  go_wp2_with fail
  refine ret_blk (cs := geoCells smallG) (g := w.heap.size) rfl rfl (by exact Blk.new _ _ _) Try.underlying23 rfl (by kernel_rfl) rfl ⟨rfl, (Below.refl _ _).alloc (Nat.le_refl _) _⟩

theorem sfits6 {n : Int} (h1 : 0 ≤ n) (h2 : n ≤ 1099511627776) : fitsB n 6 = true := decide_eq_true ⟨by omega, by omega, h1, by simp [mostW]; omega⟩
theorem head_ok {n : Int} (h1 : 0 ≤ n) (h2 : n ≤ 1099511627776) : ∃ x, headR n = (x, 0) ∧ sealB 2 (leBytes 6 n.toNat) = some x ∧ x.length = 13 := by
  have hf : fieldsB [] [6] [n] = some (leBytes 6 n.toNat) := by
    simp only [fieldsB, List.nil_append]
    rw [if_pos ⟨sfits6 h1 h2, by rw [leBytes_length]; decide⟩]
    rfl
  have hs : sealB 2 (leBytes 6 n.toNat) = some _ := sealB_some (by omega) (by rw [leBytes_length]; decide)
  have hlen := (sealB_len hs).2.2
  refine ⟨_, ?_, hs, by rw [hlen, leBytes_length]⟩
  rw [headR, makeR, hf]
  show sealR 2 (leBytes 6 n.toNat ++ []) = _
  rw [List.append_nil, sealR, hs]
theorem small_cells : cellsR smallG [⟨1, ⟨#[97, 98]⟩⟩] = ([⟨23, ⟨#[97, 98]⟩⟩, ⟨24, ⟨#[]⟩⟩], 0) := by
  have h : mayBk smallG [⟨1, ⟨#[97, 98]⟩⟩] = true := by decide
  rw [cellsR, if_pos h]
  rfl
theorem small_none : cellsR smallG [] = ([], 0) := by
  have h : mayBk smallG [] = true := by decide
  rw [cellsR, if_pos h]
  rfl
theorem small_acts : ∃ s X, actsR smallG 0 5 [⟨1, ⟨#[97, 98]⟩⟩] = ([⟨3, 23, ⟨#[97, 98]⟩, 0⟩, ⟨3, 24, ⟨#[]⟩, 0⟩, ⟨4, 0, ⟨#[]⟩, 0⟩, ⟨4, 0, ⟨#[]⟩, 0⟩, ⟨2, s, X, 0⟩], 0) := by
  obtain ⟨x, hx, _, _⟩ := head_ok (n := 5) (by omega) (by omega)
  refine ⟨smallG.headS 0, mkS x, ?_⟩
  rw [actsR, small_cells, hx, if_pos ⟨rfl, rfl, by decide⟩]
  rfl
theorem reads_pr1 {w : World} {g : Nat} {n : Int} {t : ByteArray} {T : TypeId} (h : Blk w g T #[.int .i64 n, .string t]) : Reads w w.heap.size 2 (some ⟨g, 0, none⟩) [Pr.mk n t].length (prCells [Pr.mk n t]) :=
  ⟨rfl, fun _ => ⟨_, rfl, h.lt, blk_news h rfl⟩⟩

set_option maxHeartbeats 2000000 in
set_option maxRecDepth 100000 in
theorem wakes20 (w : World) : Calls Try.prog 7 #[] w fun e w' => e = .returned (.bool true) ∧ Below w.heap.size w w' := by
  obtain ⟨s, X, hac⟩ := small_acts
  have hA := fun w A r => Acts_any smallG A 1 [⟨1, ⟨#[97, 98]⟩⟩] 0 5 w (by decide) (by decide) (by simp) r
  rw [hac] at hA
  have hBg := fun w => Begin_any smallG none 0 [] w (by decide) (by decide) (by simp) Reads.none_
  rw [small_none] at hBg
  unfold ActsPost at hA
  unfold BeginPost at hBg
  rw [show beginS ([], 0) = (0, 0, 3) from by simp [beginS]] at hBg
  have HA := Lib.hid hA; clear hA hac
  have HBg := Lib.hid hBg; clear hBg
  go_enter Try.func7, Try.ntmps7
  go_wp2_with fail
  refine (small_any _).mono ?_
  rintro e w1 ⟨rfl, hB⟩
  have HB1 := Lib.hid hB; clear hB
  go_wp2_with fail
  refine (HA.out _ _ (reads_pr1 (Blk.new w1 _ _))).mono ?_
  rintro e w2 ⟨v, rfl, hown, hB⟩
  have HB2 := Lib.hid (below_step (HB1.out.alloc HB1.out.size _) hB (by have := HB1.out.size; simp; omega)); clear hB HB1
  obtain ⟨ga, ca, rfl, hga, hgl⟩ := hown.form (by simp)
  have HO := Lib.hid hown; clear hown
  go_wp2_with fail
  refine (small_any _).mono ?_
  rintro e w3 ⟨rfl, hB⟩
  have HO3 := Lib.hid (own_below HO.out hB)
  have HB3 := Lib.hid (below_step HB2.out hB HB2.out.size); clear hB HB2 HO
  go_wp2_with fail
  refine (HBg.out _).mono ?_
  rintro e w4 ⟨A4, c4, rfl, hown4, hB⟩
  have HO4 := Lib.hid (own_below HO3.out hB)
  have HB4 := Lib.hid (below_step HB3.out hB HB3.out.size); clear hB HB3 HO3 hown4
  have k0 : w4.cell? ⟨ga, 0, none⟩ = some (.int .i8 3) := HO4.out.cells (g := ga) rfl 0 _ rfl
  have k1 : w4.cell? ⟨ga, 2, none⟩ = some (.string ⟨#[97, 98]⟩) := HO4.out.cells (g := ga) rfl 2 _ rfl
  have k2 : w4.cell? ⟨ga, 8, none⟩ = some (.int .i8 4) := HO4.out.cells (g := ga) rfl 8 _ rfl
  have k3 : w4.cell? ⟨ga, 16, none⟩ = some (.int .i8 2) := HO4.out.cells (g := ga) rfl 16 _ rfl
  dsimp only [stlV, List.length_nil, List.length_cons, Nat.zero_add, Nat.reduceAdd]
  have hlt4 : ga < w4.heap.size := (HO4.out.lt ga rfl).2
  go_wp2_with fail
  refine (Over_any (.slice A4 0 c4) (0, 0, 3) _).mono ?_
  rintro e w5 ⟨rfl, hB⟩
  have hz := (Blk.new w4 58 #[.slice A4 0 c4, .int .i64 0, .int .i64 0, .int .i8 3]).below hB (by simp)
  have HB5 := Lib.hid (below_step (HB4.out.alloc HB4.out.size _) hB (by have := HB4.out.size; simp; omega)); clear hB HB4
  obtain ⟨p0, p1, p2, p3⟩ := hz.cells4
  clear hz k0 k1 k2 k3
  dsimp only
  go_wp2_with fail
  refine (Left_any A4 0 c4 (0, 0, 3) _ (by omega) (by simp) (by simp) (by simp) (by simp) (by simp) (by simp)).mono ?_
  rw [show stLeft 0 (0, 0, 3) = 0 from by simp [stLeft]]
  rintro e w6 ⟨rfl, hB⟩
  have HB6 := Lib.hid (below_step HB5.out hB HB5.out.size); clear hB HB5
  go_wp2_with fail
  go_ret
  exact ⟨rfl, HB6.out⟩
end Go.Proofs.Ytfonaceldfjneaa
