/- The walks of ballot: the reference's Read. -/
import Derived.Test.YtkmiknefbbjggaaBallot4
namespace Go.Proofs.Ytkmiknefbbjggaa
open Go.RowKit

set_option maxHeartbeats 1000000 in
set_option maxRecDepth 100000 in
theorem rRead_any (s : ByteArray) (w : World) (hs : s.size ≤ 1000000000) :
    Calls Try.prog 33 #[.string s] w fun e w' => ReadPost w (readR s.data.toList) e w' := by
  have hz0 : Blk (w.alloc (.cells (recCells 0 0 0 ⟨#[]⟩) 55)) w.heap.size 55 (recCells 0 0 0 ⟨#[]⟩) := Blk.new w _ _
  have hB0 : Below w.heap.size w (w.alloc (.cells (recCells 0 0 0 ⟨#[]⟩) 55)) := (Below.refl _ _).alloc (Nat.le_refl _) _
  cases hem : s.data.toList.isEmpty with
  | true =>
    obtain rfl := str_empty hem
    clear hem
    have hr : readR (⟨#[]⟩ : ByteArray).data.toList = ((0, 0, 0, []), 0) := rfl
    rw [hr]
    clear hr
    have HZ := Lib.hid hz0; clear hz0
    have HB := Lib.hid hB0; clear hB0
    go_enter Try.func33, Try.ntmps33
    go_wp2_with fail
    refine ret_blk2 (cs := recCells 0 0 0 ⟨#[]⟩) (g := w.heap.size) rfl rfl ?_ Try.underlying55 rfl (by kernel_rfl) rfl ⟨rfl, ?_⟩
    · first | exact HZ.out | exact (((HZ.out.set_ 0 _).set_ 1 _).set_ 2 _).set_ 3 _
    · first | exact HB.out | exact (((HB.out.setCell (by simp) _).setCell (by simp) _).setCell (by simp) _).setCell (by simp) _
  | false =>
    have he' := str_some hem
    have hne : s.data.toList ≠ [] := by intro h; rw [h] at hem; cases hem
    have hr : readR s.data.toList = match fieldsR 4 s.data.toList [2, 6, 6] with
      | ([i, m, b], v, 0) => if mayB i m b v = true then ((i, m, b, v), 0) else ((0, 0, 0, []), 50)
      | _ => ((0, 0, 0, []), 50) := by rw [readR, if_neg hne]; rfl
    clear hem hne
    have hf := fun w Aw r => rFields_any 4 s Aw 3 [2, 6, 6] w hs (by simp) r
    have hfr := fieldsR_rest 4 s.data.toList [2, 6, 6]
    have HZ0 := Lib.hid hz0; clear hz0
    have HB0 := Lib.hid hB0; clear hB0
    rcases fieldsR_cases 4 s.data.toList [2, 6, 6] with h | ⟨l, rest, h, hl⟩
    · rw [h] at hf hr
      rw [hr]
      have HF := Lib.hid hf; clear hf h hr hfr
      go_enter Try.func33, Try.ntmps33
      go_wp2_with fail
      refine (HF.out _ _ (reads3 (by simpa using Blk.new (w.alloc (.cells (recCells 0 0 0 ⟨#[]⟩) 55)) 3 #[.int .i64 2, .int .i64 6, .int .i64 6]))).mono ?_
      rintro e w2 ⟨v, rfl, hown, hB⟩
      have hz0 := (HZ0.out.alloc (Obj.cells #[.int .i64 2, .int .i64 6, .int .i64 6] 3)).below hB (by simp; omega)
      have HZ0'' := Lib.hid hz0
      obtain ⟨c0, c1, c2, c3⟩ := hz0.cells4
      obtain ⟨f0, f1, f2, f3⟩ := hz0.frozen4
      have HB2 := Lib.hid (below_step (HB0.out.alloc (by simp) _) hB (by simp; omega))
      clear hown hB hz0
      go_wp2_with fail
      refine ret_blk2 (cs := recCells 0 0 0 ⟨#[]⟩) (g := w.heap.size) rfl rfl ?_ Try.underlying55 rfl (by kernel_rfl) rfl ⟨rfl, ?_⟩
      · exact (((HZ0''.out.set_ 0 _).set_ 1 _).set_ 2 _).set_ 3 _
      · exact (((HB2.out.setCell (by simp) _).setCell (by simp) _).setCell (by simp) _).setCell (by simp) _
    · obtain ⟨i, m, b, rfl⟩ : ∃ i m b, l = [i, m, b] := by
        match l, hl with
        | [i, m, b], _ => exact ⟨i, m, b, rfl⟩
      rw [h] at hf hr hfr
      dsimp only at hfr hr
      have HF := Lib.hid hf; clear hf h hl
      have HMY := Lib.hid (fun w => rMay_any i m b (mkS rest) w (by rw [mkS_size]; unfold maxLen; omega))
      rw [mkS_toList] at HMY
      go_enter Try.func33, Try.ntmps33
      go_wp2_with fail
      refine (HF.out _ _ (reads3 (by simpa using Blk.new (w.alloc (.cells (recCells 0 0 0 ⟨#[]⟩) 55)) 3 #[.int .i64 2, .int .i64 6, .int .i64 6]))).mono ?_
      rintro e w2 ⟨v, rfl, hown, hB⟩
      dsimp only at hown ⊢
      obtain ⟨gb, cap, rfl, hgb, hlt⟩ := hown.form (by simp)
      have d0 : w2.cell? ⟨gb, 0, none⟩ = some (.int .i64 i) := hown.cells (g := gb) rfl 0 _ rfl
      have d1 : w2.cell? ⟨gb, 1, none⟩ = some (.int .i64 m) := hown.cells (g := gb) rfl 1 _ rfl
      have d2 : w2.cell? ⟨gb, 2, none⟩ = some (.int .i64 b) := hown.cells (g := gb) rfl 2 _ rfl
      have HZ := Lib.hid ((HZ0.out.alloc (Obj.cells #[.int .i64 2, .int .i64 6, .int .i64 6] 3)).below hB (by simp; omega))
      have HB2 := Lib.hid (below_step (HB0.out.alloc (by simp) _) hB (by simp; omega))
      clear hown hB hgb HB0 HZ0 HF
      dsimp only [List.length_cons, List.length_nil, Nat.zero_add, Nat.reduceAdd]
      go_wp2_with fail
      go_region
      have HR := Lib.hid hr; clear hr
      clear d0 d1 d2
      go_wp2_with fail
      refine (HMY.out _).mono ?_
      rintro e w4 ⟨rfl, hB4⟩
      have hz1 := (Blk.new w2 55 (recCells i m b (mkS rest))).drew.below hB4 (by simp)
      have hz0 := (HZ.out.alloc (Obj.cells (recCells i m b (mkS rest)) 55)).drew.below hB4 (by have := HZ.out.lt; simp; omega)
      have hsz := HB2.out.size
      have HB4 := Lib.hid (below_step (HB2.out.alloc hsz (Obj.cells (recCells i m b (mkS rest)) 55)).drew hB4 (by simp; omega)); clear hB4 HB2 HZ
      obtain ⟨c0, c1, c2, c3⟩ := hz1.cells4
      obtain ⟨q0, q1, q2, q3⟩ := hz0.cells4
      obtain ⟨f0, f1, f2, f3⟩ := hz0.frozen4
      have HZ := Lib.hid hz0; clear hz0 hz1
      generalize hq : mayB i m b rest = q at *
      cases q with
      | true =>
        have hr := HR.out
        rw [if_pos rfl] at hr
        have HR' := Lib.hid hr; clear hr HR hq
        go_wp2_with fail
        refine ret_blk2 (cs := recCells i m b (mkS rest)) (g := w.heap.size) rfl rfl ?_ Try.underlying55 rfl (by kernel_rfl) rfl ?_
        · exact (((HZ.out.set_ 0 _).set_ 1 _).set_ 2 _).set_ 3 _
        · show ReadPost w (readR s.data.toList) _ _
          rw [HR'.out]
          exact ⟨rfl, (((HB4.out.setCell (by simp) _).setCell (by simp) _).setCell (by simp) _).setCell (by simp) _⟩
      | false =>
        have hr := HR.out
        rw [if_neg (by simp)] at hr
        have HR' := Lib.hid hr; clear hr HR hq
        go_wp2_with fail
        refine ret_blk2 (cs := recCells 0 0 0 ⟨#[]⟩) (g := w.heap.size) rfl rfl ?_ Try.underlying55 rfl (by kernel_rfl) rfl ?_
        · exact (((HZ.out.set_ 0 _).set_ 1 _).set_ 2 _).set_ 3 _
        · show ReadPost w (readR s.data.toList) _ _
          rw [HR'.out]
          exact ⟨rfl, (((HB4.out.setCell (by simp) _).setCell (by simp) _).setCell (by simp) _).setCell (by simp) _⟩
end Go.Proofs.Ytkmiknefbbjggaa
