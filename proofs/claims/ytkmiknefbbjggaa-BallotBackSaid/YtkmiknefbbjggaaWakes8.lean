/- The walk of breakwaterlaw08's wakes. -/
import Derived.Test.YtkmiknefbbjggaaBallotPlain
namespace Go.Proofs.Ytkmiknefbbjggaa
open Go.RowKit

theorem reads1 {w : World} {g : Nat} {a : Int} (h : Blk w g 3 #[.int .i64 a]) : Reads w w.heap.size 1 (some ⟨g, 0, none⟩) [a].length (icells [a]) := reads_blk h rfl rfl
theorem reads2 {w : World} {g : Nat} {a b : Int} (h : Blk w g 3 #[.int .i64 a, .int .i64 b]) : Reads w w.heap.size 1 (some ⟨g, 0, none⟩) [a, b].length (icells [a, b]) := reads_blk h rfl rfl

set_option maxHeartbeats 2000000 in
set_option maxRecDepth 100000 in
theorem wakes08 (w : World) : Calls Try.prog 31 #[] w fun e w' => e = .returned (.bool true) ∧ Below w.heap.size w w' := by
  obtain ⟨l, x, hx, _, hxr, hxl⟩ := bytes_may (i := 4) (m := 33) (b := 17) (v := [120]) (by decide)
  have hby := fun w => Bytes_any 4 33 17 ⟨#[120]⟩ w (by decide)
  rw [show (⟨#[120]⟩ : ByteArray).data.toList = [120] from rfl, hx] at hby
  have hrd := fun w => Read_any (mkS x) w (by rw [mkS_size, hxl]; decide)
  rw [mkS_toList, hxr] at hrd
  have hr2 := fun w => Read_any ⟨#[120]⟩ w (by decide)
  rw [show (⟨#[120]⟩ : ByteArray).data.toList = [120] from rfl, read_small [120] (by decide) (by simp)] at hr2
  have n1 := fun w => Next_any 3 none 0 [] w (by decide) Reads.none_
  have n2 := fun w A r => Next_any 3 A 1 [19] w (by decide) r
  have n3 := fun w A r => Next_any 3 A 2 [18, 2] w (by decide) r
  have n4 := fun w => Node_any 35 w
  rw [show nextR 3 (maxL 0 []) = 19 from by decide] at n1
  rw [show nextR 3 (maxL 0 [19]) = 35 from by decide] at n2
  rw [show nextR 3 (maxL 0 [18, 2]) = 19 from by decide] at n3
  rw [show nodeR 35 = 3 from by decide] at n4
  unfold MakePost at hby
  unfold ReadPost at hrd hr2
  rw [show mkS [120] = (⟨#[120]⟩ : ByteArray) from rfl] at hrd
  have HBY := Lib.hid hby; clear hby
  have HRD := Lib.hid hrd; clear hrd
  have HR2 := Lib.hid hr2; clear hr2
  have N1 := Lib.hid n1; clear n1
  have N2 := Lib.hid n2; clear n2
  have N3 := Lib.hid n3; clear n3
  have N4 := Lib.hid n4; clear n4
  clear hx hxr hxl
  generalize mkS x = X at *
  go_enter Try.func31, Try.ntmps31
  go_wp2_with fail
  refine (HBY.out _).mono ?_
  rintro e w1 ⟨rfl, hB1⟩
  have HB1 := Lib.hid hB1; clear hB1
  go_wp2_with fail
  refine (HRD.out _).mono ?_
  rintro e w2 ⟨rfl, hB⟩
  have HB2 := Lib.hid (below_step HB1.out hB HB1.out.size); clear hB HB1
  go_wp2_with fail
  refine (HR2.out _).mono ?_
  rintro e w3 ⟨rfl, hB⟩
  have hz := (Blk.new w2 55 (recCells 4 33 17 ⟨#[120]⟩)).below hB (by simp)
  have HB3 := Lib.hid (below_step (HB2.out.alloc HB2.out.size _) hB (by have := HB2.out.size; simp; omega)); clear hB HB2
  have HZ := Lib.hid hz; clear hz
  go_wp2_with fail
  refine (N1.out _).mono ?_
  rintro e w4 ⟨rfl, hB⟩
  have hz := (HZ.out.alloc _).below hB (by have := HZ.out.lt; simp; omega)
  have HB4 := Lib.hid (below_step (HB3.out.alloc HB3.out.size _) hB (by have := HB3.out.size; simp; omega)); clear hB HB3
  clear HZ
  have HZ := Lib.hid hz; clear hz
  go_wp2_with fail
  refine (N2.out _ _ (reads1 (Blk.new w4 _ _))).mono ?_
  rintro e w5 ⟨rfl, hB⟩
  have hz := (HZ.out.alloc _).below hB (by have := HZ.out.lt; simp; omega)
  have HB5 := Lib.hid (below_step (HB4.out.alloc HB4.out.size _) hB (by have := HB4.out.size; simp; omega)); clear hB HB4
  clear HZ
  have HZ := Lib.hid hz; clear hz
  go_wp2_with fail
  refine (N3.out _ _ (reads2 (Blk.new w5 _ _))).mono ?_
  rintro e w6 ⟨rfl, hB⟩
  have hz := (HZ.out.alloc _).below hB (by have := HZ.out.lt; simp; omega)
  have HB6 := Lib.hid (below_step (HB5.out.alloc HB5.out.size _) hB (by have := HB5.out.size; simp; omega)); clear hB HB5
  clear HZ
  obtain ⟨c0, c1, c2, c3⟩ := hz.cells4
  clear hz
  go_wp2_with fail
  refine (N4.out _).mono ?_
  rintro e w7 ⟨rfl, rfl⟩
  go_wp2_with fail
  go_ret
  exact ⟨rfl, HB6.out⟩
end Go.Proofs.Ytkmiknefbbjggaa
