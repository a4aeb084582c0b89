/- The walk of settle.Acts. -/
import Derived.Test.YtfonaceldfjneaaSettle4
namespace Go.Proofs.Ytfonaceldfjneaa
open Go.RowKit

def actsR (g : Geo) (slot tail : Int) (l : List Pr) : List Ac × Int :=
  if (cellsR g l).2 = 0 ∧ (headR tail).2 = 0 ∧ 0 ≤ g.headS slot then (actsL (cellsR g l).1 (g.headS slot) (mkS (headR tail).1), 0) else ([], 2)
def ActsPost (w : World) (r : List Ac × Int) (e : Ending) (w' : World) : Prop :=
  ∃ v, e = .returned (.tuple #[v, .int .i64 r.2]) ∧ w'.ownsRow w.heap.size 43 4 v r.1.length (acCells r.1) ∧ Below w.heap.size w w'
theorem act_info : (Try.prog.info? 43).map (fun i => (i.zero, i.size, i.bytes)) = some (some (.agg #[.int .i8 0, .int .i64 0, .string ⟨#[]⟩, .int .i64 0]), 4, 40) := by kernel_rfl
theorem cellsR_length (g : Geo) (l : List Pr) : (cellsR g l).1.length ≤ 8 * l.length := by
  unfold cellsR
  split
  · rename_i h
    have hok := Geo.may_ok (mayBk_all h).1
    have h1 := hok.p1
    have h2 := hok.p2
    dsimp only
    rw [cellsL_length, Nat.mul_comm]
    exact Nat.mul_le_mul_right _ (by omega)
  · simp
theorem cellsR_code (g : Geo) (l : List Pr) : (cellsR g l).2 = 0 ∨ (cellsR g l).2 = 2 := by unfold cellsR; split <;> simp
theorem actsL_take (cs : List Pr) (sec : Int) (hd : ByteArray) (j : Nat) (h : j < many cs.length) : (actsL cs sec hd).take (j + 1) = (actsL cs sec hd).take j ++ [stAct cs (stAt cs.length j) sec hd] := by
  rw [List.take_succ_eq_append_getElem (by rw [actsL_length]; exact h), actsL_get]
theorem beginS_at (cs : List Pr) : beginS (cs, 0) = stAt cs.length 0 := by
  unfold beginS stAt
  by_cases h : cs.length = 0
  · rw [if_pos ⟨rfl, h⟩, if_pos ((many_zero _).2 h), h]; rfl
  · rw [if_neg (by simpa using h), if_neg (fun h' => h ((many_zero _).1 h')), if_pos (by omega)]; rfl
theorem many_le (n : Nat) : many n ≤ 2 * n + 1 := by unfold many; split <;> omega

set_option maxHeartbeats 4000000 in
set_option maxRecDepth 100000 in
theorem Acts_any (g : Geo) (A : Option Addr) (c : Nat) (l : List Pr) (slot tail : Int) (w : World) (hw1 : -9223372036854775808 ≤ g.wait) (hw2 : g.wait ≤ 9223372036854775807) (hl : l.length ≤ 100000)
    (hr : Reads w w.heap.size 2 A l.length (prCells l)) :
    Calls Try.prog 11 #[g.v, .int .i64 slot, .int .i64 tail, .slice A l.length c] w fun e w' => ActsPost w (actsR g slot tail l) e w' := by
  obtain ⟨i0, hi0, hz0, hz1, hz2⟩ := info_parts act_info
  have HBG := Lib.hid (fun w hr => Begin_any g A c l w hw1 hw2 hl hr)
  have HR := Lib.hid hr; clear hr
  have hn := cellsR_length g l
  have har : actsR g slot tail l = if (cellsR g l).2 = 0 ∧ (headR tail).2 = 0 ∧ 0 ≤ g.headS slot then (actsL (cellsR g l).1 (g.headS slot) (mkS (headR tail).1), 0) else ([], 2) := rfl
  have HAI := Lib.hid (fun b v s w h => aims_any b v s 0 ⟨#[]⟩ g slot tail w hw1 hw2 h)
  unfold AimsPost at HAI
  generalize cellsR g l = R at *
  obtain ⟨cs, r⟩ := R
  generalize g.headS slot = sec at *
  generalize headR tail = T at *
  obtain ⟨x, rt⟩ := T
  dsimp only at *
  generalize mkS x = X at *
  have HG0 := Lib.hid (Blk.new w 23 (geoCells g))
  have HB0 := Lib.hid ((Below.refl w.heap.size w).alloc (Nat.le_refl _) (Obj.cells (geoCells g) 23))
  clear hw1 hw2
  dsimp only [Geo.v] at *
  by_cases h0 : r = 0
  · subst h0
    have hbs := beginS_at cs
    cases hq : decide (rt = 0 ∧ 0 ≤ sec) with
    | false =>
      rw [if_neg (fun h => absurd h.2 (of_decide_eq_false hq))] at har
      rw [hq] at HAI
      rw [har]
      clear hbs har hq
      go_enter Try.func11, Try.ntmps11
      go_wp2_with fail
      refine (HBG.out _ ((HR.out.below HB0.out).more HB0.out.size)).mono ?_
      rintro e w1 ⟨A1, c1, rfl, hown, hB⟩
      have hg1 := HG0.out.below hB HG0.out.lt
      have HB1 := Lib.hid (below_step HB0.out hB HB0.out.size); clear hB hown
      obtain ⟨q0, q1, q2, q3, q4, q5, q6, q7⟩ := hg1.cells8
      have hgl := hg1.lt
      clear hg1
      dsimp only
      generalize beginS (cs, 0) = S0 at *
      obtain ⟨s0, s1, s2⟩ := S0
      have HNB : Hid (Blk ((w1.alloc (Obj.cells (stlV (.slice A1 cs.length c1) (s0, s1, s2)) 58)).alloc (Obj.cells (crs (.slice A1 cs.length c1) (s0, s1, s2) 0 ⟨#[]⟩) 85)) (w1.heap.size + 1) 85 (crs (.slice A1 cs.length c1) (s0, s1, s2) 0 ⟨#[]⟩)) := by
        have h := Blk.new (w1.alloc (Obj.cells (stlV (.slice A1 cs.length c1) (s0, s1, s2)) 58)) 85 (crs (.slice A1 cs.length c1) (s0, s1, s2) 0 ⟨#[]⟩)
        rw [World.size_alloc] at h; exact h
      have HB2 := Lib.hid ((HB1.out.alloc HB1.out.size (Obj.cells (stlV (.slice A1 cs.length c1) (s0, s1, s2)) 58)).alloc (by have := HB1.out.size; simp; omega) (Obj.cells (crs (.slice A1 cs.length c1) (s0, s1, s2) 0 ⟨#[]⟩) 85))
      dsimp only [stlV]
      go_wp2_with fail
      refine (HAI.out (w1.heap.size + 1) _ _ _ HNB.out).mono ?_
      rintro e w2 ⟨rfl, hb2, hg2⟩
      have HB3 := Lib.hid (HB2.out.grown hg2 HB2.out.size (fun k hk => by injection hk with hk; have := HB1.out.size; omega))
      clear hb2 hg2 q0 q1 q2 q3 q4 q5 q6 q7
      have HP : Hid (ActsPost w ([], 2) (.returned (.tuple #[.slice none 0 0, .int .i64 2])) w2) := ⟨_, rfl, World.ownsRow_nil _ _ _ _, HB3.out⟩
      go_wp2_with fail
      go_ret2
      exact HP.out
    | true =>
      obtain ⟨hrt, hsec⟩ := of_decide_eq_true hq
      rw [if_pos ⟨rfl, hrt, hsec⟩] at har
      rw [hq] at HAI
      rw [har]
      rw [hbs] at *
      clear hbs har hq hrt hsec
      have HBG2 : Hid (∀ w, Reads w w.heap.size 2 A l.length (prCells l) → Calls Try.prog 16 #[g.v, .slice A l.length c] w fun e w' => ∃ A1 c1, e = .returned (.tuple #[.agg (stlV (.slice A1 cs.length c1) (stAt cs.length 0)), .int .i64 0]) ∧ w'.ownsRow w.heap.size 52 2 (.slice A1 cs.length c1) cs.length (prCells cs) ∧ Below w.heap.size w w') := fun w hr =>
        (HBG.out w hr).mono fun e w' ⟨A1, c1, he, h⟩ => ⟨A1, c1, by rw [he]; dsimp only; rw [beginS_at], h⟩
      clear HBG
      have hbd := fun j => stAt_bd cs.length j
      have HBD := Lib.hid hbd; clear hbd
      have HOV := Lib.hid (fun j => stAt_over cs.length j)
      have HNX := Lib.hid (fun j h => stAt_next cs.length j h)
      have HTK := Lib.hid (fun j h => actsL_take cs sec X j h)
      have HLEN := Lib.hid (actsL_length cs sec X)
      have hmany := many_le cs.length
      have hcs : cs.length ≤ 800000 := by omega
      generalize many cs.length = M at *
      dsimp only [Geo.v] at HBG2
      go_enter Try.func11, Try.ntmps11
      go_wp2_with fail
      refine (HBG2.out _ ((HR.out.below HB0.out).more HB0.out.size)).mono ?_
      rintro e w1 ⟨A1, c1, rfl, hown, hB⟩
      have hg1 := HG0.out.below hB HG0.out.lt
      have HB1 := Lib.hid (below_step HB0.out hB HB0.out.size); clear hB
      have HO1 := Lib.hid (own_base hown (base' := w.heap.size) (by simp)); clear hown
      obtain ⟨q0, q1, q2, q3, q4, q5, q6, q7⟩ := hg1.cells8
      have hgl := hg1.lt
      clear hg1
      dsimp only
      have HS0 := Lib.hid (rfl : stAt cs.length 0 = stAt cs.length 0)
      obtain ⟨S0, hS0⟩ : ∃ S0, S0 = stAt cs.length 0 := ⟨_, rfl⟩
      rw [← hS0]
      clear HS0
      have HS0 := Lib.hid hS0; clear hS0
      obtain ⟨s0, s1, s2⟩ := S0
      have HNB : Hid (Blk ((w1.alloc (Obj.cells (stlV (.slice A1 cs.length c1) (s0, s1, s2)) 58)).alloc (Obj.cells (crs (.slice A1 cs.length c1) (s0, s1, s2) 0 ⟨#[]⟩) 85)) (w1.heap.size + 1) 85 (crs (.slice A1 cs.length c1) (s0, s1, s2) 0 ⟨#[]⟩)) := by
        have h := Blk.new (w1.alloc (Obj.cells (stlV (.slice A1 cs.length c1) (s0, s1, s2)) 58)) 85 (crs (.slice A1 cs.length c1) (s0, s1, s2) 0 ⟨#[]⟩)
        rw [World.size_alloc] at h; exact h
      have HB2 := Lib.hid ((HB1.out.alloc HB1.out.size (Obj.cells (stlV (.slice A1 cs.length c1) (s0, s1, s2)) 58)).alloc (by have := HB1.out.size; simp; omega) (Obj.cells (crs (.slice A1 cs.length c1) (s0, s1, s2) 0 ⟨#[]⟩) 85))
      have HO2 := Lib.hid ((HO1.out.alloc (Obj.cells (stlV (.slice A1 cs.length c1) (s0, s1, s2)) 58)).alloc (Obj.cells (crs (.slice A1 cs.length c1) (s0, s1, s2) 0 ⟨#[]⟩) 85))
      dsimp only [stlV]
      go_wp2_with fail
      refine (HAI.out (w1.heap.size + 1) _ _ _ HNB.out).mono ?_
      rintro e w2 ⟨rfl, hb2, hg2⟩
      have HB3 := Lib.hid (HB2.out.grown hg2 HB2.out.size (fun k hk => by injection hk with hk; have := HB1.out.size; omega))
      have HO3 := Lib.hid (HO2.out.kept hg2 (.inr (own_blk_ne HO2.out HNB.out (by decide))))
      rw [HS0.out] at hb2
      have HBK3 := Lib.hid hb2
      have hw1s := HB1.out.size
      clear hb2 hg2 q0 q1 q2 q3 q4 q5 q6 q7 HB2 HO2 HNB HO1 HS0
      go_wp2_with fail
      go_loopg [8] M (fun k out wr => ∃ j : Nat, j ≤ M ∧ k = M - j ∧ wr.ownsRow w.heap.size 43 4 out ((actsL cs sec X).take j).length (acCells ((actsL cs sec X).take j)) ∧ Blk wr (w1.heap.size + 1) 85 (crs (.slice A1 cs.length c1) (stAt cs.length j) sec X) ∧ wr.ownsRow w.heap.size 52 2 (.slice A1 cs.length c1) cs.length (prCells cs) ∧ Below w.heap.size w wr)
      case atStart => exact ⟨0, by omega, rfl, World.ownsRow_nil _ _ _ _, HBK3.out, HO3.out, HB3.out⟩
      case round =>
        clear HBK3 HO3 HB3
        obtain ⟨j, hj, rfl, hown, hbk, hoc, hB⟩ := hrel
        have hsb := HBD.out j
        have hend := fun w h => end6_any (w1.heap.size + 1) (.slice A1 cs.length c1) (stAt cs.length j) sec X w h
        have HOVJ := Lib.hid (HOV.out j)
        by_cases hlt : j < M
        · have hnx := HNX.out j hlt
          rw [decide_eq_false (fun h => by have := HOVJ.out.1 h; omega)] at hend
          have HNXJ := Lib.hid (fun w h => next_any (w1.heap.size + 1) A1 cs.length c1 (stAt cs.length j) sec X w hsb.1 (by omega) hsb.2.2.1 (by omega) hsb.2.2.2.2.1 hsb.2.2.2.2.2 h)
          rw [hnx] at HNXJ
          have HACT := Lib.hid (fun w h hr => act_any (w1.heap.size + 1) A1 c1 cs (stAt cs.length j) sec X w hsb.1 hsb.2.2.2.2.1 hsb.2.2.2.2.2 h hr)
          have HEND := Lib.hid hend; clear hend
          have HTKJ := Lib.hid (HTK.out j hlt)
          have HLT : Hid (((actsL cs sec X).take j).length = j) := by show _ = _; rw [List.length_take, HLEN.out]; omega
          clear hnx hsb
          generalize stAct cs (stAt cs.length j) sec X = AC at *
          generalize stAt cs.length j = SJ at *
          obtain ⟨SJ1, hSJ1⟩ : ∃ S, S = stAt cs.length (j + 1) := ⟨_, rfl⟩
          rw [← hSJ1] at HNXJ
          have HSJ := Lib.hid hSJ1; clear hSJ1
          obtain ⟨ak, asx, ab, akey⟩ := AC
          unfold NextPost at HNXJ
          dsimp only [acVals] at HACT
          have hll := HLT.out
          generalize (actsL cs sec X).take j = LJ at *
          obtain ⟨A8, c8, rfl, -, -, -⟩ := own_reads hown
          have HO := Lib.hid hown; clear hown
          have HBK := Lib.hid hbk; clear hbk
          have HOC := Lib.hid hoc; clear hoc
          have HB := Lib.hid hB; clear hB
          have hLJ : LJ.length ≤ 1700000 := by omega
          clear hll HLT
          go_wp2_with fail
          refine (HEND.out _ HBK.out).mono ?_
          rintro e w3 ⟨rfl, rfl⟩
          go_wp2_with fail
          refine (HACT.out _ HBK.out (by obtain ⟨_, _, e, -, -, h⟩ := own_reads HOC.out; injection e with e1 _ _; subst e1; exact h)).mono ?_
          rintro e w4 ⟨rfl, hB4⟩
          have HO4 := Lib.hid (own_below HO.out hB4)
          have HBK4 := Lib.hid (HBK.out.below hB4 HBK.out.lt)
          have HOC4 := Lib.hid (own_below HOC.out hB4)
          have HB4 := Lib.hid (below_step HB.out hB4 HB.out.size)
          have hsz4 := HB4.out.size
          clear hB4 HO HBK HOC HB
          go_wp2_with (at_builtin; go_loud (refine wpList_append_own _ rfl (.tmp 36) (.tmp 39) 44 rfl w.heap.size 43 i0 _ 4 40 Try.underlying44 hi0 hz0 hz1 hz2 rfl (by decide) (.slice A8 LJ.length c8) LJ.length (acCells LJ) (by rfl) (HO4.out.alloc _) ⟨w4.heap.size, 0, none⟩ 1 1 (acCell ⟨ak, asx, ab, akey⟩) (by rfl) (by rfl) (blk_news (Blk.new w4 43 #[.int .i8 ak, .int .i64 asx, .string ab, .int .i64 akey]) rfl) (acCell_one _) (by unfold maxLen; omega) (by omega) (by simp; omega) ?_); intro v5 w5 hown5 hg5 _)
          have hBK5 := (HBK4.out.alloc (Obj.cells #[.int .i8 ak, .int .i64 asx, .string ab, .int .i64 akey] 43)).grown hg5 (Ne.symm (own_blk_ne HO4.out HBK4.out (by decide)))
          have hOC5 := (HOC4.out.alloc (Obj.cells #[.int .i8 ak, .int .i64 asx, .string ab, .int .i64 akey] 43)).kept hg5 (own_own_ne HOC4.out HO4.out (by decide))
          have hB5 := below_own (HB4.out.alloc HB4.out.size (Obj.cells #[.int .i8 ak, .int .i64 asx, .string ab, .int .i64 akey] 43)) (HO4.out.alloc _) hg5 (by simp; omega)
          have hO5 : w5.ownsRow w.heap.size 43 4 v5 (LJ ++ [Ac.mk ak asx ab akey]).length (acCells (LJ ++ [Ac.mk ak asx ab akey])) := by rw [acCells_snoc, List.length_append]; exact hown5
          have HBK5 := Lib.hid hBK5; clear hBK5
          have HOC5 := Lib.hid hOC5; clear hOC5
          have HB5 := Lib.hid hB5; clear hB5
          have HO5 := Lib.hid hO5; clear hO5 hown5 hg5 HO4 HBK4 HOC4 HB4
          go_wp2_with fail
          refine (HNXJ.out _ HBK5.out).mono ?_
          rintro e w6 ⟨rfl, hb6, hg6⟩
          have hO6 := HO5.out.kept hg6 (.inr (own_blk_ne HO5.out HBK5.out (by decide)))
          have hOC6 := HOC5.out.kept hg6 (.inr (own_blk_ne HOC5.out HBK5.out (by decide)))
          have hB6 := HB5.out.grown hg6 HB5.out.size (fun k hk => by injection hk with hk; omega)
          rw [← HTKJ.out] at hO6
          have HREL : Hid (∃ j' : Nat, j' ≤ M ∧ M - (j + 1) = M - j' ∧ w6.ownsRow w.heap.size 43 4 v5 ((actsL cs sec X).take j').length (acCells ((actsL cs sec X).take j')) ∧ Blk w6 (w1.heap.size + 1) 85 (crs (.slice A1 cs.length c1) (stAt cs.length j') sec X) ∧ w6.ownsRow w.heap.size 52 2 (.slice A1 cs.length c1) cs.length (prCells cs) ∧ Below w.heap.size w w6) :=
            ⟨j + 1, by omega, rfl, hO6, by rw [← HSJ.out]; exact hb6, hOC6, hB6⟩
          clear hO6 hOC6 hB6 hb6 hg6 HBK5 HOC5 HB5 HO5
          go_wp2_with fail
          go_roundg (M - (j + 1))
          case rel => exact HREL.out
          case measure => omega
        · rw [decide_eq_true (HOVJ.out.2 (by omega))] at hend
          have HEND := Lib.hid hend; clear hend
          have hall : (actsL cs sec X).take j = actsL cs sec X := List.take_of_length_le (by rw [HLEN.out]; omega)
          rw [hall] at hown
          have HP : Hid (ActsPost w (actsL cs sec X, 0) (.returned (.tuple #[u8, .int .i64 0])) wr) := ⟨_, rfl, hown, hB⟩
          have HBK := Lib.hid hbk
          clear hall hown hbk hoc hB hsb
          go_wp2_with fail
          refine (HEND.out _ HBK.out).mono ?_
          rintro e w3 ⟨rfl, rfl⟩
          go_wp2_with fail
          go_ret2
          exact HP.out
  · rw [if_neg (fun h => h0 h.1)] at har
    rw [har]
    have h0' : (r == 0) = false := by simpa using h0
    have h0'' : (r != 0) = true := by simpa using h0
    clear har h0
    go_enter Try.func11, Try.ntmps11
    go_wp2_with fail
    refine (HBG.out _ ((HR.out.below HB0.out).more HB0.out.size)).mono ?_
    rintro e w1 ⟨A1, c1, rfl, hown, hB⟩
    have HB1 := Lib.hid (below_step HB0.out hB HB0.out.size); clear hB hown
    dsimp only
    generalize beginS (cs, r) = S0 at *
    obtain ⟨s0, s1, s2⟩ := S0
    have HB2 := Lib.hid ((HB1.out.alloc HB1.out.size (Obj.cells (stlV (.slice A1 cs.length c1) (s0, s1, s2)) 58)).alloc (by have := HB1.out.size; simp; omega) (Obj.cells (crs (.slice A1 cs.length c1) (s0, s1, s2) 0 ⟨#[]⟩) 85))
    dsimp only [stlV]
    go_wp2_with fail
    go_ret2
    exact ⟨_, rfl, World.ownsRow_nil _ _ _ _, HB2.out⟩
end Go.Proofs.Ytfonaceldfjneaa
