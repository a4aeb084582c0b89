/- breakwaterlaw07.BeatAlive returns true for every input: a watch of a node that beats is dead just when Wait is over since the look that saw the last beat. No condition. -/
import Derived.Test.YtkmiknefbbjggaaRows
import Derived.Test.YtkmiknefbbjggaaWakes7
import Derived.Test.YtkmiknefbbjggaaFrameLook
import Derived.Deep.DeepCutAuto
namespace Go.Proofs.Ytkmiknefbbjggaa.beatAlive
open Go.ChangeShapes Go.WideShapes Go.ChangeAt Go.RowKit
open Go.ChangeMaps (open_string shut_string)
set_option linter.unusedVariables false

theorem early (a0 a2 : Int) (A : Option Addr) (n c : Nat) (w : World) (hn : n ≤ maxLen) (h : 100 < n ∨ a0 < 1 ∨ 1000 < a0 ∨ a2 < 1 ∨ 1000 < a2) :
    Calls Try.prog 8 #[.int .i64 a0, .slice A n c, .int .i64 a2] w fun e w' => e = .returned (.bool true) ∧ Below w.heap.size w w' := by
  unfold maxLen at hn
  have hcase : (100 : Int) < (n : Int) ∨ (¬ (100 : Int) < (n : Int) ∧ a0 < 1) ∨ (¬ (100 : Int) < (n : Int) ∧ ¬ a0 < 1 ∧ 1000 < a0) ∨ (¬ (100 : Int) < (n : Int) ∧ ¬ a0 < 1 ∧ ¬ 1000 < a0 ∧ a2 < 1) ∨ (¬ (100 : Int) < (n : Int) ∧ ¬ a0 < 1 ∧ ¬ 1000 < a0 ∧ ¬ a2 < 1 ∧ 1000 < a2) := by omega
  clear h
  rcases hcase with h | ⟨h, h1⟩ | ⟨h, h1, h2⟩ | ⟨h, h1, h2, h3⟩ | ⟨h, h1, h2, h3, h4⟩
  all_goals
    go_enter Try.func8, Try.ntmps8
    go_wp2_with (go_at_call 25; refine (wakes07 _).mono ?_; rintro e w' ⟨rfl, hB⟩)
    go_ret
    exact ⟨rfl, hB⟩

set_option maxHeartbeats 4000000 in
set_option maxRecDepth 100000 in
theorem late (wt key : Int) (A : Option Addr) (zs : List (Int × Bool)) (c : Nat) (w : World) (h1 : zs.length ≤ 100) (h2 : 1 ≤ wt) (h3 : wt ≤ 1000) (h4 : 1 ≤ key) (h5 : key ≤ 1000) (hr : Reads w w.heap.size 2 A zs.length (lcells zs)) :
    Calls Try.prog 8 #[.int .i64 wt, .slice A zs.length c, .int .i64 key] w fun e w' => e = .returned (.bool true) ∧ Below w.heap.size w w' := by
  have b0 : decide ((100 : Int) < (zs.length : Int)) = false := by simp; omega
  have b1 : decide (wt < 1) = false := by simp; omega
  have b2 : decide ((1000 : Int) < wt) = false := by simp; omega
  have b3 : decide (key < 1) = false := by simp; omega
  have b4 : decide ((1000 : Int) < key) = false := by simp; omega
  have HR := Lib.hid hr; clear hr
  go_enter Try.func8, Try.ntmps8
  go_wp2_with fail
  have hG0 : Blk ((w.alloc (Obj.cells #[.int .i64 0, .int .i64 0, .int .i64 0, .int .i64 0, .int .i64 0, .int .i64 0, .int .i64 1, .int .i64 wt] 42)).alloc (Obj.cells #[.int .i64 0, .int .i64 0, .int .i64 0, .bool false] 44)) w.heap.size 42 #[.int .i64 0, .int .i64 0, .int .i64 0, .int .i64 0, .int .i64 0, .int .i64 0, .int .i64 1, .int .i64 wt] := (Blk.new w _ _).alloc _
  have hW0 : Blk ((w.alloc (Obj.cells #[.int .i64 0, .int .i64 0, .int .i64 0, .int .i64 0, .int .i64 0, .int .i64 0, .int .i64 1, .int .i64 wt] 42)).alloc (Obj.cells #[.int .i64 0, .int .i64 0, .int .i64 0, .bool false] 44)) (w.heap.size + 1) 44 #[.int .i64 0, .int .i64 0, .int .i64 0, .bool false] := by
    have h := Blk.new (w.alloc (Obj.cells #[.int .i64 0, .int .i64 0, .int .i64 0, .int .i64 0, .int .i64 0, .int .i64 0, .int .i64 1, .int .i64 wt] 42)) 44 #[.int .i64 0, .int .i64 0, .int .i64 0, .bool false]
    rwa [show (w.alloc (Obj.cells #[.int .i64 0, .int .i64 0, .int .i64 0, .int .i64 0, .int .i64 0, .int .i64 0, .int .i64 1, .int .i64 wt] 42)).heap.size = w.heap.size + 1 by simp] at h
  have HG := Lib.hid hG0; clear hG0
  have HW := Lib.hid hW0; clear hW0
  go_loopg [9, 10, 11, 12] zs.length (fun gk v9 v10 v11 i wr => ∃ (j : Nat) (now count since : Int) (wk : Value × Value × Value × Value), j ≤ zs.length ∧ gk = zs.length - j ∧ i = .int .i64 j ∧ v9 = .int .i64 now ∧ v10 = .int .i64 count ∧ v11 = .int .i64 since ∧
      7 ≤ now ∧ now ≤ 7 + 1000 * (j : Int) ∧ 1 ≤ count ∧ count ≤ (j : Int) + 1 ∧ Blk wr w.heap.size 42 #[.int .i64 0, .int .i64 0, .int .i64 0, .int .i64 0, .int .i64 0, .int .i64 0, .int .i64 1, .int .i64 wt] ∧
      Blk wr (w.heap.size + 1) 44 #[wk.1, wk.2.1, wk.2.2.1, wk.2.2.2] ∧ Below w.heap.size w wr ∧
      ((j = 0 ∧ since = -1 ∧ wk = (.int .i64 0, .int .i64 0, .int .i64 0, .bool false)) ∨ (0 < j ∧ 7 ≤ since ∧ since ≤ now ∧ wk = (.int .i64 key, .int .i64 count, .int .i64 since, .bool true))))
  case atStart => exact ⟨0, 7, 1, -1, (.int .i64 0, .int .i64 0, .int .i64 0, .bool false), by omega, rfl, rfl, rfl, rfl, rfl, by omega, by omega, by omega, by omega, HG.out, HW.out, below2 _ _ _, .inl ⟨rfl, rfl, rfl⟩⟩
  case round =>
    clear HG HW
    obtain ⟨j, now, count, since, wk, hj, rfl, rfl, rfl, rfl, rfl, hn1, hn2, hc1, hc2, hbG, hbW, hB, hst⟩ := hrel
    have HST := Lib.hid hst; clear hst
    by_cases hlt : j < zs.length
    · obtain ⟨ad, rfl, had, hcs⟩ := (HR.out.below hB).2 (by omega)
      have hcell := lcells_get zs j hlt
      have hl0 := hcs _ _ hcell.1
      have hl1 := hcs _ _ hcell.2
      generalize zs[j].1 = later at *
      generalize zs[j].2 = beats at *
      clear hcs hcell
      by_cases hbad : later < 0 ∨ 1000 < later
      · have hcase : later < 0 ∨ (¬ later < 0 ∧ 1000 < later) := by omega
        clear hbad
        have HB := Lib.hid hB; clear hB hbG hbW
        rcases hcase with hb | ⟨hb, hb2⟩
        all_goals
          go_wp2_with fail
          refine (wakes07 _).mono ?_
          rintro e w2 ⟨rfl, hB⟩
          go_wp2_with fail
          go_ret
          exact ⟨rfl, below_step HB.out hB HB.out.size⟩
      · have hb1 : ¬ later < 0 := by omega
        have hb2 : ¬ 1000 < later := by omega
        clear hbad
        -- what this round makes of it
        obtain ⟨count', since', hc', hs', hk1, hk2, hs1, hs2, hlook⟩ : ∃ count' since' : Int, count' = (if beats then count + 1 else count) ∧ since' = (if beats || decide (since < 0) then now + later else since) ∧
            1 ≤ count' ∧ count' ≤ (j : Int) + 2 ∧ 7 ≤ since' ∧ since' ≤ now + later ∧
            ∃ k0 c0 s0 l0, wk = (.int .i64 k0, .int .i64 c0, .int .i64 s0, .bool l0) ∧ ∀ x, seenR x = (key, count') → lookR k0 c0 s0 l0 x (now + later) = (key, count', since', true) := by
          refine ⟨_, _, rfl, rfl, by cases beats <;> simp <;> omega, by cases beats <;> simp <;> omega, ?_, ?_, ?_⟩
          · rcases HST.out with ⟨_, h, _⟩ | ⟨_, h, _, _⟩
            · subst h; cases beats <;> simp <;> omega
            · cases beats
              · have hd : decide (since < 0) = false := by simp; omega
                simp [hd]; omega
              · simp; omega
          · rcases HST.out with ⟨_, h, _⟩ | ⟨_, h, h', _⟩
            · subst h; cases beats <;> simp
            · cases beats
              · have hd : decide (since < 0) = false := by simp; omega
                simp [hd]; omega
              · simp
          · rcases HST.out with ⟨_, h, hw⟩ | ⟨_, h, h', hw⟩
            · subst h
              exact ⟨0, 0, 0, false, hw, fun x hx => by rw [look_first x _ _ _ hx]; cases beats <;> simp⟩
            · refine ⟨key, count, since, true, hw, fun x hx => ?_⟩
              cases beats
              · have hd : decide (since < 0) = false := by simp; omega
                simp only [Bool.false_eq_true, if_false] at hx
                rw [look_again x _ _ _ _ hx]; simp [hd]
              · simp only [if_true] at hx
                rw [look_other x _ _ _ _ _ _ hx (by omega)]; simp
        obtain ⟨k0, c0, s0, l0, rfl, hlook⟩ := hlook
        obtain ⟨x, hx, hxl, hxs⟩ := bytes_ok (key := key) (count := count') (by omega) (by omega) (by omega) (by omega)
        have hby := fun w => Bytes7_any key count' w
        rw [hx] at hby
        have hlo := fun w => Look_any k0 c0 s0 (now + later) l0 (mkS x) w (by rw [mkS_size]; omega)
        rw [mkS_toList, hlook x hxs] at hlo
        have HBY := Lib.hid hby; clear hby hx hxl hxs hlook
        have HLO := Lib.hid hlo; clear hlo
        generalize mkS x = X at *
        have HC' := Lib.hid hc'; clear hc'
        have HS' := Lib.hid hs'; clear hs'
        have D1 : Hid (deadB wt key since' true (now + later) = decide (wt ≤ now + later - since')) := by
          show _ = _
          unfold deadB
          rw [Bool.true_and, decide_eq_decide]
          omega
        have D2 : Hid (deadB wt key since' true (since' + wt) = true) := decide_eq_true (by omega)
        have D3 : Hid (deadB wt key since' true (since' + wt - 1) = false) := decide_eq_false (by omega)
        have hsn : since < 0 ∨ ¬ since < 0 := by omega
        obtain ⟨q0, q1, q2, q3⟩ := hbW.cells4
        obtain ⟨f0, f1, f2, f3⟩ := hbW.frozen4
        have HG := Lib.hid hbG; clear hbG
        have HW := Lib.hid hbW; clear hbW
        have HB := Lib.hid hB; clear hB
        dsimp only at q0 q1 q2 q3
        have hd1 : decide (later < 0) = false := by simp; omega
        have hd2 : decide ((1000 : Int) < later) = false := by simp; omega
        have hl1' : wr.cell? ⟨(ad.add (j * 2)).block, (ad.add (j * 2)).off + 1, none⟩ = some (.bool beats) := by
          rw [← hl1, ← add_of_add]; congr 1
        clear hl1
        clear hsn
        go_upto_if 69 with (fail)
        go_cut [10] (fun v10 wx => v10 = .int .i64 count' ∧ wx = wr)
        case first =>
          cases beats
          all_goals
            have HCC : Hid (_ = _) := Lib.hid HC'.out
            simp only [Bool.false_eq_true, if_false, if_true] at HCC
            go_wp2_with fail
            go_meet
            exact ⟨congrArg (Value.int .i64) HCC.out.symm, rfl⟩
        case rest =>
        obtain ⟨rfl, rfl⟩ := hcut
        go_upto_region 14 with (fail)
        go_cut [80] (fun v80 wx => v80 = .bool (beats || decide (since < 0)) ∧ wx = wc)
        case first =>
          cases beats
          all_goals
            go_wp2_with fail
            go_meet
            exact ⟨rfl, rfl⟩
        case rest =>
        obtain ⟨rfl, hwc⟩ := hcut
        subst hwc
        generalize (beats || decide (since < 0)) = bb at *
        go_upto_if 80 with (fail)
        go_cut [11] (fun v11 wx => v11 = .int .i64 since' ∧ wx = wc)
        case first =>
          cases bb
          all_goals
            have HSS : Hid (_ = _) := Lib.hid HS'.out
            simp only [Bool.false_eq_true, if_false, if_true] at HSS
            go_wp2_with fail
            go_meet
            exact ⟨congrArg (Value.int .i64) HSS.out.symm, rfl⟩
        case rest =>
        obtain ⟨rfl, hwc⟩ := hcut
        subst hwc
        clear hl0 hl1' HC' HS'
        go_wp2_with fail
        refine (HBY.out _).mono ?_
        rintro e w2 ⟨rfl, hB1⟩
        clear q0 q1 q2 q3 f0 f1 f2 f3
        have hbG := HG.out.below hB1 HG.out.lt
        have hbW := HW.out.below hB1 HW.out.lt
        have hB := below_step HB.out hB1 HB.out.size
        clear hB1 HG HW HB
        obtain ⟨q0, q1, q2, q3⟩ := hbW.cells4
        have HG := Lib.hid hbG; clear hbG
        have HW := Lib.hid hbW; clear hbW
        have HB := Lib.hid hB; clear hB
        go_wp2_with fail
        refine (HLO.out _).mono ?_
        rintro e w3 ⟨rfl, hB1⟩
        clear q0 q1 q2 q3
        have hbG := HG.out.below hB1 HG.out.lt
        have hbW := HW.out.below hB1 HW.out.lt
        have hB := below_step HB.out hB1 HB.out.size
        clear hB1 HG HW HB
        obtain ⟨q0, q1, q2, q3⟩ := hbW.cells4
        obtain ⟨f0, f1, f2, f3⟩ := hbW.frozen4
        have HG := Lib.hid hbG; clear hbG
        have HW := Lib.hid hbW; clear hbW
        have HB := Lib.hid hB; clear hB
        go_upto_region 18 with (fail)
        have hbW := (((HW.out.set_ 0 (.int .i64 key)).set_ 1 (.int .i64 count')).set_ 2 (.int .i64 since')).set_ 3 (.bool true)
        have hbG := (((HG.out.far (p := ⟨w.heap.size + 1, 0, none⟩) (by simp) (.int .i64 key)).far (p := ⟨w.heap.size + 1, 1, none⟩) (by simp) (.int .i64 count')).far (p := ⟨w.heap.size + 1, 2, none⟩) (by simp) (.int .i64 since')).far (p := ⟨w.heap.size + 1, 3, none⟩) (by simp) (.bool true)
        have hB := (((HB.out.setCell (p := ⟨w.heap.size + 1, 0, none⟩) (by simp) (.int .i64 key)).setCell (p := ⟨w.heap.size + 1, 1, none⟩) (by simp) (.int .i64 count')).setCell (p := ⟨w.heap.size + 1, 2, none⟩) (by simp) (.int .i64 since')).setCell (p := ⟨w.heap.size + 1, 3, none⟩) (by simp) (.bool true)
        clear q0 q1 q2 q3 f0 f1 f2 f3 HG HW HB
        generalize ((((w3.setCell ⟨w.heap.size + 1, 0, none⟩ (.int .i64 key)).setCell ⟨w.heap.size + 1, 1, none⟩ (.int .i64 count')).setCell ⟨w.heap.size + 1, 2, none⟩ (.int .i64 since')).setCell ⟨w.heap.size + 1, 3, none⟩ (.bool true)) = W4 at *
        replace hbW : Blk W4 (w.heap.size + 1) 44 #[.int .i64 key, .int .i64 count', .int .i64 since', .bool true] := hbW
        obtain ⟨g0, g1, g2, g3, g4, g5, g6, g7⟩ := hbG.cells8
        obtain ⟨q0, q1, q2, q3⟩ := hbW.cells4
        have HG := Lib.hid hbG; clear hbG
        have HW := Lib.hid hbW; clear hbW
        have HB := Lib.hid hB; clear hB
        have hne : (decide (wt ≤ now + later - since') != decide (wt ≤ now + later - since')) = false := by simp
        go_wp2_with fail
        refine (Dead_any 0 0 0 0 0 0 1 wt key count' since' (now + later) true _ (by omega) (by omega) (by omega) (by omega)).mono ?_
        rw [D1.out]
        rintro e w5 ⟨rfl, hB1⟩
        clear g0 g1 g2 g3 g4 g5 g6 g7 q0 q1 q2 q3
        have hbG := HG.out.below hB1 HG.out.lt
        have hbW := HW.out.below hB1 HW.out.lt
        have hB := below_step HB.out hB1 HB.out.size
        clear hB1 HG HW HB
        obtain ⟨g0, g1, g2, g3, g4, g5, g6, g7⟩ := hbG.cells8
        obtain ⟨q0, q1, q2, q3⟩ := hbW.cells4
        have HG := Lib.hid hbG; clear hbG
        have HW := Lib.hid hbW; clear hbW
        have HB := Lib.hid hB; clear hB
        go_wp2_with fail
        refine (Dead_any 0 0 0 0 0 0 1 wt key count' since' (since' + wt) true _ (by omega) (by omega) (by omega) (by omega)).mono ?_
        rw [D2.out]
        rintro e w5 ⟨rfl, hB1⟩
        clear g0 g1 g2 g3 g4 g5 g6 g7 q0 q1 q2 q3
        have hbG := HG.out.below hB1 HG.out.lt
        have hbW := HW.out.below hB1 HW.out.lt
        have hB := below_step HB.out hB1 HB.out.size
        clear hB1 HG HW HB
        obtain ⟨g0, g1, g2, g3, g4, g5, g6, g7⟩ := hbG.cells8
        obtain ⟨q0, q1, q2, q3⟩ := hbW.cells4
        have HG := Lib.hid hbG; clear hbG
        have HW := Lib.hid hbW; clear hbW
        have HB := Lib.hid hB; clear hB
        go_wp2_with fail
        refine (Dead_any 0 0 0 0 0 0 1 wt key count' since' (since' + wt - 1) true _ (by omega) (by omega) (by omega) (by omega)).mono ?_
        rw [D3.out]
        rintro e w5 ⟨rfl, hB1⟩
        clear g0 g1 g2 g3 g4 g5 g6 g7 q0 q1 q2 q3
        have hbG := HG.out.below hB1 HG.out.lt
        have hbW := HW.out.below hB1 HW.out.lt
        have hB := below_step HB.out hB1 HB.out.size
        clear hB1 HG HW HB
        obtain ⟨g0, g1, g2, g3, g4, g5, g6, g7⟩ := hbG.cells8
        obtain ⟨q0, q1, q2, q3⟩ := hbW.cells4
        have HG := Lib.hid hbG; clear hbG
        have HW := Lib.hid hbW; clear hbW
        have HB := Lib.hid hB; clear hB
        go_wp2_with fail
        go_roundg (zs.length - (j + 1))
        case rel => exact ⟨j + 1, now + later, count', since', (.int .i64 key, .int .i64 count', .int .i64 since', .bool true), by omega, rfl, by go_num, rfl, rfl, rfl, by omega, by omega, by omega, by omega, HG.out, HW.out, HB.out, .inr ⟨by omega, by omega, by omega, rfl⟩⟩
        case measure => omega
    · obtain rfl : j = zs.length := by omega
      obtain ⟨q0, q1, q2, q3⟩ := hbW.cells4
      have HB := Lib.hid hB; clear hB hbG hbW
      have hlk : wk.2.2.2 = .bool (decide (0 < zs.length)) := by
        rcases HST.out with ⟨h, _, hw⟩ | ⟨h, _, _, hw⟩
        · rw [hw]; simp [h]
        · rw [hw]; simp [h]
      rw [hlk] at q3
      clear hlk q0 q1 q2 HST
      have hq : (decide (0 < zs.length) == decide (0 < zs.length)) = true := by simp
      by_cases hz : 0 < zs.length
      · have hz1 : decide (0 < zs.length) = true := by simp [hz]
        rw [hz1] at q3
        have hz2 : (0 : Int) < (zs.length : Int) := by omega
        go_wp2_with fail
        refine (wakes07 _).mono ?_
        rintro e w2 ⟨rfl, hB⟩
        go_wp2_with fail
        go_ret
        exact ⟨rfl, below_step HB.out hB HB.out.size⟩
      · have hz1 : decide (0 < zs.length) = false := decide_eq_false hz
        rw [hz1] at q3
        have hz2 : ¬ (0 : Int) < (zs.length : Int) := by omega
        go_wp2_with fail
        refine (wakes07 _).mono ?_
        rintro e w2 ⟨rfl, hB⟩
        go_wp2_with fail
        go_ret
        exact ⟨rfl, below_step HB.out hB HB.out.size⟩

theorem walk (a0 : Int) (w0 : (Lit.int .i64 a0).wf = true) (a1 : Option Addr) (z1 : List (Int × Bool)) (c1 : Nat) {W : World} (w1 : IsLooks W a1 z1 c1) (a2 : Int) (w2 : (Lit.int .i64 a2).wf = true) (w : World) (hW : w = W) :
    Calls Try.prog 8 #[.int .i64 a0, .slice a1 z1.length c1, .int .i64 a2] w fun e w' => e = .returned (.bool true) ∧ Below w.heap.size w w' := by
  subst hW
  by_cases h : 100 < z1.length ∨ a0 < 1 ∨ 1000 < a0 ∨ a2 < 1 ∨ 1000 < a2
  · exact early a0 a2 a1 z1.length c1 w (Nat.le_trans w1.2.2.1 w1.2.2.2) h
  · exact late a0 a2 a1 z1 c1 w (by omega) (by omega) (by omega) (by omega) (by omega) w1.1

theorem own : ownKnob Try.prog.godebug = none := by kernel_rfl
theorem laidOut : laidOutB Try.prog = true := by kernel_rfl
set_option maxRecDepth 100000 in
theorem lifted (os : Os) (started : os.Started) (H : Type) (enc : TypeId × Value → H) :
    ReturnsInHanded {} Try.checked os 8 .any (Rows.beatAliveSpec.pre6 enc Try.prog Try.f8 Rows.beatAliveRow.domain false) (Rows.beatAliveSpec.post enc Try.prog Try.f8 false true false false) := by
  refine returnsInHanded_of_change (C := Try.checked) own started (by kernel_rfl) Try.func8
    (ChangeSpec.witness6 (enc := enc) (C := Try.checked) false ⟨#[], #[.int .i64 0, .slice none 0 0, .int .i64 0], []⟩ 8 (by kernel_rfl) (by kernel_rfl) (by kernel_rfl) (by kernel_rfl)) ?_
  intro W base args ds gs before hval0 hW hcnd _
  have hval : ∀ (j : Nat) t v, Try.f8.params[j]? = some t → args[j]? = some v → Value.okWide Try.prog W .any base t v := hval0
  have hW' := hW
  obtain ⟨p, q, hA0, hV, rfl, hfz, hnd⟩ := hW
  have hA : DataW.TrodAll enc Try.prog W 0 (fun _ => true) true Try.f8.params.toList args.toList ds p := hA0
  rw [Try.params8] at hA hval
  obtain ⟨v0, vs0, d0, ds0, p0, q0, hargs, rfl, rfl, h0, r0⟩ := trodAll_cons hA
  obtain ⟨v1, vs1, d1, ds1, p1, q1, rfl, rfl, rfl, h1, r1⟩ := trodAll_cons r0
  obtain ⟨v2, vs2, d2, ds2, p2, q2, rfl, rfl, rfl, h2, r2⟩ := trodAll_cons r1
  obtain ⟨rfl, rfl, rfl⟩ := trodAll_nil r2
  obtain rfl : args = #[v0, v1, v2] := by cases args; simp_all
  obtain ⟨rfl, rfl⟩ := trodVars_none hV
  have k0 := h0
  have lt0 : ∀ x ∈ p0, x.block < W.heap.size := by obtain ⟨m, hm⟩ := k0; exact DataW.trod_lt m _ _ _ hm
  obtain ⟨a0, rfl, -, -, w0⟩ := open_int Try.underlying3 (hval 0 3 v0 rfl rfl) h0
  have k1 := h1
  have lt1 : ∀ x ∈ p1, x.block < W.heap.size := by obtain ⟨m, hm⟩ := k1; exact DataW.trod_lt m _ _ _ hm
  obtain ⟨a1, z1, c1, rfl, w1⟩ := open_looks_arg (hval 1 40 v1 rfl rfl) h1
  have k2 := h2
  have lt2 : ∀ x ∈ p2, x.block < W.heap.size := by obtain ⟨m, hm⟩ := k2; exact DataW.trod_lt m _ _ _ hm
  obtain ⟨a2, rfl, -, -, w2⟩ := open_int Try.underlying3 (hval 2 3 v2 rfl rfl) h2
  clear hA0 hval0
  refine (walk a0 w0 a1 z1 c1 w1 a2 w2 W rfl).mono fun e W' ⟨he, bel⟩ => ?_
  subst he
  exact ⟨_, rfl, _, _, _, [], _, [], hW', trodAll_mk1 (shut_bool Try.underlying4 _), (trodAll_cons_mk (Below.trod laidOut (by kernel_rfl) (of_decide_eq_true (by kernel_rfl)) k0 bel lt0) (trodAll_cons_mk (Below.trod laidOut (by kernel_rfl) (of_decide_eq_true (by kernel_rfl)) k1 bel lt1) (trodAll_cons_mk (Below.trod laidOut (by kernel_rfl) (of_decide_eq_true (by kernel_rfl)) k2 bel lt2) trodAll_mk0))), rfl, bel.frame _, fun h => by cases h⟩

/-- The statement. -/
theorem proved : Rows.BeatAliveSaid :=
  OpenClaim.holds_of_wide 8 Try.f8 rfl rfl rfl rfl rfl rfl rfl ⟨rfl, rfl, rfl, rfl, rfl⟩ rfl rfl rfl rfl rfl (by kernel_rfl) Try.func8 (by kernel_rfl)
    (of_decide_eq_true (by kernel_rfl)) (by unfold Func.isWrapper; first | (rw [if_pos (by decide +kernel)]; kernel_rfl) | (rw [if_neg (by decide +kernel)]; exact ⟨rfl, rfl⟩))
    (fun os started H enc _ => lifted os started H enc)
end Go.Proofs.Ytkmiknefbbjggaa.beatAlive
