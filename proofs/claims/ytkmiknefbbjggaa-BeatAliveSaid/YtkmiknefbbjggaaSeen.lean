/- The walks of beat.Seen and beat.Look. -/
import Derived.Test.YtkmiknefbbjggaaBeat
namespace Go.Proofs.Ytkmiknefbbjggaa
open Go.RowKit

set_option maxHeartbeats 1000000 in
theorem Seen_any (s : ByteArray) (w : World) (hs : s.size ≤ 1000000000) :
    Calls Try.prog 45 #[.string s] w fun e w' => e = .returned (.tuple #[.int .i64 (seenR s.data.toList).1, .int .i64 (seenR s.data.toList).2]) ∧ Below w.heap.size w w' := by
  have hf := Fields_any 3 s (some ⟨w.heap.size, 0, none⟩) 2 [6, 6] (w.alloc (Obj.cells #[.int .i64 6, .int .i64 6] 3)) hs (by simp) (by exact reads_blk (Blk.new w 3 #[.int .i64 6, .int .i64 6]) rfl rfl)
  have hal : Below w.heap.size w (w.alloc (Obj.cells #[.int .i64 6, .int .i64 6] 3)) := (Below.refl _ _).alloc (Nat.le_refl _) _
  have hB0 := Lib.hid hal; clear hal
  have hse : seenR s.data.toList = match fieldsR 3 s.data.toList [6, 6] with | ([a, b], [], 0) => (if a < 1 ∨ b < 1 then (0, 0) else (a, b)) | _ => (0, 0) := rfl
  rcases fieldsR_cases 3 s.data.toList [6, 6] with h | ⟨l, rest, h, hl⟩
  · rw [h] at hf hse
    rw [hse]
    have HF := Lib.hid hf; clear hf h hse
    go_enter Try.func45, Try.ntmps45
    go_wp2_with fail
    refine HF.out.mono ?_
    rintro e w1 ⟨v, rfl, hown, hB⟩
    have hB' := below_step hB0.out hB hB0.out.size
    clear hown hB hB0
    go_wp2_with fail
    go_quiet (fail)
    go_wp2_with fail
    go_ret2
    exact ⟨rfl, below_drewN hB' _⟩
  · obtain ⟨a, b, rfl⟩ : ∃ a b, l = [a, b] := by
      match l, hl with
      | [a, b], _ => exact ⟨a, b, rfl⟩
    rw [h] at hf hse
    have HF := Lib.hid hf; clear hf h hl
    by_cases hr : rest = []
    · subst hr
      have hem : (mkS []).toList.isEmpty = true := by rw [Lib.toList_data]; rfl
      by_cases hab : a < 1 ∨ b < 1
      · have hse2 : seenR s.data.toList = (0, 0) := by rw [hse]; exact if_pos hab
        rw [hse2]
        clear hse hse2
        go_enter Try.func45, Try.ntmps45
        go_wp2_with fail
        refine HF.out.mono ?_
        rintro e w1 ⟨v, rfl, hown, hB⟩
        have hB' := below_step hB0.out hB hB0.out.size
        obtain ⟨A, c, rfl, _, _, hr⟩ := own_reads hown
        obtain ⟨ad, rfl, _, hc0⟩ := hr.cell_ (k := 0) (u := .int .i64 a) (by simp) (by rfl)
        obtain ⟨ad', e', _, hc1⟩ := hr.cell_ (k := 1) (u := .int .i64 b) (by simp) (by rfl)
        injection e' with e'
        subst e'
        have hc0' : w1.cell? ad = some (.int .i64 a) := by simpa [Addr.add] using hc0
        have hc1' : w1.cell? ⟨ad.block, ad.off + 1, none⟩ = some (.int .i64 b) := by simpa [Addr.add] using hc1
        have HB := Lib.hid hB'
        clear hown hB hB0 hr hc0 hB' hc1
        dsimp only [List.length_cons, List.length_nil, Nat.zero_add]
        by_cases hle : a ≤ b
        · have hd : decide (a < 1) = true := by simp; omega
          go_wp2_with fail
          go_quiet (fail)
          go_wp2_with fail
          go_ret2
          exact ⟨rfl, below_drewN HB.out _⟩
        · have hd : decide (b < 1) = true := by simp; omega
          go_wp2_with fail
          go_quiet (fail)
          go_wp2_with fail
          go_ret2
          exact ⟨rfl, below_drewN HB.out _⟩
      · have hse2 : seenR s.data.toList = (a, b) := by rw [hse]; exact if_neg hab
        rw [hse2]
        clear hse hse2
        go_enter Try.func45, Try.ntmps45
        go_wp2_with fail
        refine HF.out.mono ?_
        rintro e w1 ⟨v, rfl, hown, hB⟩
        have hB' := below_step hB0.out hB hB0.out.size
        obtain ⟨A, c, rfl, _, _, hr⟩ := own_reads hown
        obtain ⟨ad, rfl, _, hc0⟩ := hr.cell_ (k := 0) (u := .int .i64 a) (by simp) (by rfl)
        obtain ⟨ad', e', _, hc1⟩ := hr.cell_ (k := 1) (u := .int .i64 b) (by simp) (by rfl)
        injection e' with e'
        subst e'
        have hc0' : w1.cell? ad = some (.int .i64 a) := by simpa [Addr.add] using hc0
        have hc1' : w1.cell? ⟨ad.block, ad.off + 1, none⟩ = some (.int .i64 b) := by simpa [Addr.add] using hc1
        have HB := Lib.hid hB'
        clear hown hB hB0 hr hc0 hB' hc1
        dsimp only [List.length_cons, List.length_nil, Nat.zero_add]
        by_cases hle : a ≤ b
        · have hd : decide (a < 1) = false := by simp; omega
          go_wp2_with fail
          go_quiet (fail)
          go_wp2_with fail
          go_quiet (fail)
          go_wp2_with fail
          go_ret2
          exact ⟨rfl, below_drewN (below_drewN HB.out _) _⟩
        · have hd : decide (b < 1) = false := by simp; omega
          go_wp2_with fail
          go_quiet (fail)
          go_wp2_with fail
          go_quiet (fail)
          go_wp2_with fail
          go_ret2
          exact ⟨rfl, below_drewN (below_drewN HB.out _) _⟩
    · have hem : (mkS rest).toList.isEmpty = false := by
        rw [Lib.toList_data, mkS_toList]
        cases rest with
        | nil => exact absurd rfl hr
        | cons c r => rfl
      have hse2 : seenR s.data.toList = (0, 0) := by
        rw [hse]
        cases rest with
        | nil => exact absurd rfl hr
        | cons c r => rfl
      rw [hse2]
      clear hr hse hse2
      go_enter Try.func45, Try.ntmps45
      go_wp2_with fail
      refine HF.out.mono ?_
      rintro e w1 ⟨v, rfl, hown, hB⟩
      have hB' := below_step hB0.out hB hB0.out.size
      clear hown hB hB0
      go_wp2_with fail
      go_quiet (fail)
      go_wp2_with fail
      go_ret2
      exact ⟨rfl, below_drewN hB' _⟩

def lookR (key count since : Int) (looked : Bool) (s : Bs) (now : Int) : Int × Int × Int × Bool :=
  if looked && decide (key = (seenR s).1 ∧ count = (seenR s).2) then (key, count, since, looked) else ((seenR s).1, (seenR s).2, now, true)

set_option maxHeartbeats 1000000 in
theorem Look_any (key count since now : Int) (looked : Bool) (s : ByteArray) (w : World) (hs : s.size ≤ 1000000000) :
    Calls Try.prog 27 #[watchV key count since looked, .string s, .int .i64 now] w fun e w' =>
      e = .returned (watchV (lookR key count since looked s.data.toList now).1 (lookR key count since looked s.data.toList now).2.1 (lookR key count since looked s.data.toList now).2.2.1 (lookR key count since looked s.data.toList now).2.2.2) ∧ Below w.heap.size w w' := by
  have hl : lookR key count since looked s.data.toList now = if looked && decide (key = (seenR s.data.toList).1 ∧ count = (seenR s.data.toList).2) then (key, count, since, looked) else ((seenR s.data.toList).1, (seenR s.data.toList).2, now, true) := rfl
  have hse := fun w => Seen_any s w hs
  generalize (seenR s.data.toList).1 = k at *
  generalize (seenR s.data.toList).2 = c at *
  have HSE := Lib.hid hse; clear hse
  by_cases hb : (looked && decide (key = k ∧ count = c)) = true
  · rw [if_pos hb] at hl
    rw [hl]
    have hss := fun w => sees_any key count since k c looked w
    rw [hb] at hss
    have HSS := Lib.hid hss; clear hss hl hb
    go_enter Try.func27, Try.ntmps27
    go_wp2_with fail
    refine (HSE.out _).mono ?_
    rintro e w1 ⟨rfl, hB⟩
    have hb1 : Blk w1 w.heap.size 44 #[.int .i64 key, .int .i64 count, .int .i64 since, .bool looked] := ((Blk.new w _ _).alloc _).below hB (by simp; omega)
    have hb2 : Blk w1 (w.heap.size + 1) 44 #[.int .i64 0, .int .i64 0, .int .i64 0, .bool false] := by
      have := Blk.new (w.alloc (Obj.cells #[.int .i64 key, .int .i64 count, .int .i64 since, .bool looked] 44)) 44 #[.int .i64 0, .int .i64 0, .int .i64 0, .bool false]
      rw [show (w.alloc (Obj.cells #[.int .i64 key, .int .i64 count, .int .i64 since, .bool looked] 44)).heap.size = w.heap.size + 1 by simp] at this
      exact this.below hB (by simp)
    have hB' := below_step (below2 w _ _) hB (by simp; omega)
    obtain ⟨p0, p1, p2, p3⟩ := hb1.cells4
    have HB1 := Lib.hid hb1; clear hb1
    have HB2 := Lib.hid hb2; clear hb2
    have HB := Lib.hid hB'; clear hB hB'
    go_wp2_with fail
    refine (HSS.out _).mono ?_
    rintro e w2 ⟨rfl, hB2⟩
    clear p0 p1 p2 p3
    have hb1 := HB1.out.below hB2 HB1.out.lt
    have hb2 := HB2.out.below hB2 HB2.out.lt
    obtain ⟨p0, p1, p2, p3⟩ := hb1.cells4
    obtain ⟨q0, q1, q2, q3⟩ := hb2.cells4
    obtain ⟨f0, f1, f2, f3⟩ := hb2.frozen4
    have HBB := Lib.hid (below_step HB.out hB2 HB.out.size)
    have HN := Lib.hid hb2; clear hb1 hb2 hB2 HB HB1 HB2
    go_wp2_with fail
    refine bodyPost_ret (v := watchV key count since looked) (results_cell_row rfl _ _ (w.heap.size + 1) 44 #[.int .i64 key, .int .i64 count, .int .i64 since, .bool looked] (0, 0) _ rfl
      (by exact (((HN.out.set_ 0 _).set_ 1 _).set_ 2 _).set_ 3 _) Try.underlying44 rfl (by kernel_rfl)) rfl ⟨rfl, ?_⟩
    exact (((HBB.out.setCell (by simp) _).setCell (by simp) _).setCell (by simp) _).setCell (by simp) _
  · have hb' : (looked && decide (key = k ∧ count = c)) = false := by simpa using hb
    rw [if_neg hb] at hl
    rw [hl]
    have hss := fun w => sees_any key count since k c looked w
    rw [hb'] at hss
    have HSS := Lib.hid hss; clear hss hl hb hb'
    go_enter Try.func27, Try.ntmps27
    go_wp2_with fail
    refine (HSE.out _).mono ?_
    rintro e w1 ⟨rfl, hB⟩
    have hb1 : Blk w1 w.heap.size 44 #[.int .i64 key, .int .i64 count, .int .i64 since, .bool looked] := ((Blk.new w _ _).alloc _).below hB (by simp; omega)
    have hb2 : Blk w1 (w.heap.size + 1) 44 #[.int .i64 0, .int .i64 0, .int .i64 0, .bool false] := by
      have := Blk.new (w.alloc (Obj.cells #[.int .i64 key, .int .i64 count, .int .i64 since, .bool looked] 44)) 44 #[.int .i64 0, .int .i64 0, .int .i64 0, .bool false]
      rw [show (w.alloc (Obj.cells #[.int .i64 key, .int .i64 count, .int .i64 since, .bool looked] 44)).heap.size = w.heap.size + 1 by simp] at this
      exact this.below hB (by simp)
    have hB' := below_step (below2 w _ _) hB (by simp; omega)
    obtain ⟨p0, p1, p2, p3⟩ := hb1.cells4
    have HB1 := Lib.hid hb1; clear hb1
    have HB2 := Lib.hid hb2; clear hb2
    have HB := Lib.hid hB'; clear hB hB'
    go_wp2_with fail
    refine (HSS.out _).mono ?_
    rintro e w2 ⟨rfl, hB2⟩
    clear p0 p1 p2 p3
    have hb1 := HB1.out.below hB2 HB1.out.lt
    have hb2 := HB2.out.below hB2 HB2.out.lt
    obtain ⟨p0, p1, p2, p3⟩ := hb1.cells4
    obtain ⟨q0, q1, q2, q3⟩ := hb2.cells4
    obtain ⟨f0, f1, f2, f3⟩ := hb2.frozen4
    have HBB := Lib.hid (below_step HB.out hB2 HB.out.size)
    have HN := Lib.hid hb2; clear hb1 hb2 hB2 HB HB1 HB2
    go_wp2_with fail
    refine bodyPost_ret (v := watchV k c now true) (results_cell_row rfl _ _ (w.heap.size + 1) 44 #[.int .i64 k, .int .i64 c, .int .i64 now, .bool true] (0, 0) _ rfl
      (by exact (((HN.out.set_ 0 _).set_ 1 _).set_ 2 _).set_ 3 _) Try.underlying44 rfl (by kernel_rfl)) rfl ⟨rfl, ?_⟩
    exact (((HBB.out.setCell (by simp) _).setCell (by simp) _).setCell (by simp) _).setCell (by simp) _

end Go.Proofs.Ytkmiknefbbjggaa
