/- The walks of settle: Over, Left, Take, Want, Begin. -/
import Derived.Test.YtfonaceldfjneaaSettle2
import Derived.Test.YtfonaceldfjneaaFind
namespace Go.Proofs.Ytfonaceldfjneaa
open Go.RowKit

abbrev stlV (v : Value) (s : St) : Array Value := #[v, .int .i64 s.1, .int .i64 s.2.1, .int .i8 s.2.2]

set_option maxHeartbeats 1000000 in
theorem Over_any (v : Value) (s : St) (w : World) :
    Calls Try.prog 17 #[.agg (stlV v s)] w fun e w' => e = .returned (.bool (decide (2 < s.2.2))) ∧ Below w.heap.size w w' := by
  have HE := Lib.hid (fun b w h => end6_any b v s 0 ⟨#[]⟩ w h)
  have HB := Lib.hid (((Below.refl w.heap.size w).alloc (Nat.le_refl _) (Obj.cells (stlV v s) 58)).alloc (by simp) (Obj.cells (crs v s 0 ⟨#[]⟩) 85))
  have HN := Lib.hid (Blk.new (w.alloc (Obj.cells (stlV v s) 58)) 85 (crs v s 0 ⟨#[]⟩))
  rw [show (w.alloc (Obj.cells (stlV v s) 58)).heap.size = w.heap.size + 1 by simp] at HN
  generalize decide (2 < s.2.2) = q at *
  go_enter Try.func17, Try.ntmps17
  go_wp2_with fail
  refine (HE.out (w.heap.size + 1) _ HN.out).mono ?_
  rintro e w1 ⟨rfl, rfl⟩
  go_wp2_with fail
  go_ret
  exact ⟨rfl, HB.out⟩

set_option maxHeartbeats 1000000 in
theorem Left_any (A : Option Addr) (n c : Nat) (s : St) (w : World) (hn : n ≤ 1000000) (h1 : 0 ≤ s.1) (h2 : s.1 ≤ 1000000) (h3 : 0 ≤ s.2.1) (h4 : s.2.1 ≤ 1000000) (h5 : 0 ≤ s.2.2) (h6 : s.2.2 ≤ 3) :
    Calls Try.prog 18 #[.agg (stlV (.slice A n c) s)] w fun e w' => e = .returned (.int .i64 (stLeft n s)) ∧ Below w.heap.size w w' := by
  obtain ⟨i, l, a⟩ := s
  dsimp only at *
  have HB := Lib.hid ((Below.refl w.heap.size w).alloc (Nat.le_refl _) (Obj.cells (stlV (.slice A n c) (i, l, a)) 58))
  have hcase : a = 0 ∨ a = 1 ∨ a = 2 ∨ a = 3 := by omega
  rcases hcase with rfl | rfl | rfl | rfl
  · rw [show stLeft n (i, l, 0) = 2 * (n : Int) - i + 1 by simp [stLeft]]
    go_enter Try.func18, Try.ntmps18
    go_wp2_with fail
    go_ret
    exact ⟨rfl, HB.out⟩
  · rw [show stLeft n (i, l, 1) = l + 1 by simp [stLeft]]
    go_enter Try.func18, Try.ntmps18
    go_wp2_with fail
    go_ret
    exact ⟨rfl, HB.out⟩
  · rw [show stLeft n (i, l, 2) = 1 by simp [stLeft]]
    go_enter Try.func18, Try.ntmps18
    go_wp2_with fail
    go_ret
    exact ⟨rfl, HB.out⟩
  · rw [show stLeft n (i, l, 3) = 0 by simp [stLeft]]
    go_enter Try.func18, Try.ntmps18
    go_wp2_with fail
    go_ret
    exact ⟨rfl, HB.out⟩

set_option maxHeartbeats 1000000 in
set_option maxRecDepth 100000 in
theorem Take_any (A : Option Addr) (n c : Nat) (s : St) (w : World) (h1 : 0 ≤ s.1) (h2 : s.1 ≤ 1000000) (h3 : 0 ≤ s.2.1) (h4 : s.2.1 ≤ 1000000) (h5 : 0 ≤ s.2.2) (h6 : s.2.2 ≤ 3) :
    Calls Try.prog 20 #[.agg (stlV (.slice A n c) s)] w fun e w' => e = .returned (.agg (stlV (.slice A n c) (stNext n s))) ∧ Below w.heap.size w w' := by
  have HN := Lib.hid (fun b w h => next_any b A n c s 0 ⟨#[]⟩ w h1 h2 h3 h4 h5 h6 h)
  generalize stNext n s = s' at *
  have hBK : Blk (((w.alloc (Obj.cells (stlV (.slice A n c) s) 58)).alloc (Obj.cells #[.slice none 0 0, .int .i64 0, .int .i64 0, .int .i8 0] 58)).alloc (Obj.cells (crs (.slice A n c) s 0 ⟨#[]⟩) 85)) (w.heap.size + 2) 85 (crs (.slice A n c) s 0 ⟨#[]⟩) := by
    have h := Blk.new ((w.alloc (Obj.cells (stlV (.slice A n c) s) 58)).alloc (Obj.cells #[.slice none 0 0, .int .i64 0, .int .i64 0, .int .i8 0] 58)) 85 (crs (.slice A n c) s 0 ⟨#[]⟩)
    simpa using h
  have hRS : Blk (((w.alloc (Obj.cells (stlV (.slice A n c) s) 58)).alloc (Obj.cells #[.slice none 0 0, .int .i64 0, .int .i64 0, .int .i8 0] 58)).alloc (Obj.cells (crs (.slice A n c) s 0 ⟨#[]⟩) 85)) (w.heap.size + 1) 58 #[.slice none 0 0, .int .i64 0, .int .i64 0, .int .i8 0] := by
    have h := (Blk.new (w.alloc (Obj.cells (stlV (.slice A n c) s) 58)) 58 #[.slice none 0 0, .int .i64 0, .int .i64 0, .int .i8 0]).alloc (Obj.cells (crs (.slice A n c) s 0 ⟨#[]⟩) 85)
    simpa using h
  have HB := Lib.hid ((((Below.refl w.heap.size w).alloc (Nat.le_refl _) (Obj.cells (stlV (.slice A n c) s) 58)).alloc (by simp) (Obj.cells #[.slice none 0 0, .int .i64 0, .int .i64 0, .int .i8 0] 58)).alloc (by simp; omega) (Obj.cells (crs (.slice A n c) s 0 ⟨#[]⟩) 85))
  have HBK := Lib.hid hBK; clear hBK
  have HRS := Lib.hid hRS; clear hRS
  clear h1 h2 h3 h4 h5 h6
  go_enter Try.func20, Try.ntmps20
  go_wp2_with fail
  refine (HN.out (w.heap.size + 2) _ HBK.out).mono ?_
  rintro e w1 ⟨rfl, hb1, hg1⟩
  have hr1 := HRS.out.only hg1 (by omega)
  have hB1 : Below w.heap.size w w1 := HB.out.grown hg1 (by simp; omega) (fun k hk => by injection hk with hk; omega)
  obtain ⟨c0, c1, c2, c3, c4, c5⟩ := hb1.cells6
  obtain ⟨q0, q1, q2, q3⟩ := hr1.cells4
  obtain ⟨f0, f1, f2, f3⟩ := hr1.frozen4
  have HR1 := Lib.hid hr1; clear hr1
  have HB1 := Lib.hid hB1; clear hB1 hb1 hg1
  go_wp2_with fail
  refine ret_blk (cs := stlV (.slice A n c) s') (g := w.heap.size + 1) rfl rfl ?_ Try.underlying58 rfl (by kernel_rfl) rfl ⟨rfl, ?_⟩
  · exact (((HR1.out.set_ 0 _).set_ 1 _).set_ 2 _).set_ 3 _
  · exact (((HB1.out.setCell (by simp) _).setCell (by simp) _).setCell (by simp) _).setCell (by simp) _
end Go.Proofs.Ytfonaceldfjneaa
