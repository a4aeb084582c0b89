/- The walks of settle: act; super.Head; aims. -/
import Derived.Test.YtfonaceldfjneaaSettle
import Derived.Test.YtfonaceldfjneaaMake
import Derived.Test.YtfonaceldfjneaaBackPlain
import Derived.StillTailTactics
namespace Go.Proofs.Ytfonaceldfjneaa
open Go.RowKit

set_option maxHeartbeats 2000000 in
set_option maxRecDepth 100000 in
theorem act_any (b : Nat) (A : Option Addr) (c : Nat) (cs : List Pr) (s : St) (sec : Int) (hd : ByteArray) (w : World) (h1 : 0 ≤ s.1) (h5 : 0 ≤ s.2.2) (h6 : s.2.2 ≤ 3)
    (hb : Blk w b 85 (crs (.slice A cs.length c) s sec hd)) (hr : Reads w w.heap.size 2 A cs.length (prCells cs)) :
    Calls Try.prog 37 #[.pointer (some ⟨b, 0, none⟩)] w fun e w' => e = .returned (.agg (acVals (stAct cs s sec hd))) ∧ Below w.heap.size w w' := by
  obtain ⟨i, l, a⟩ := s
  dsimp only at *
  obtain ⟨c0, c1, c2, c3, c4, c5⟩ := hb.cells6
  dsimp only at c1 c2 c3
  have hbl := hb.lt
  have HZ := Lib.hid (Blk.new w 43 #[.int .i8 0, .int .i64 0, .string ⟨#[]⟩, .int .i64 0])
  have HB := Lib.hid ((Below.refl w.heap.size w).alloc (Nat.le_refl _) (Obj.cells #[.int .i8 0, .int .i64 0, .string ⟨#[]⟩, .int .i64 0] 43))
  have HR := Lib.hid hr; clear hr hb
  have hcase : a = 0 ∨ a = 1 ∨ a = 2 ∨ a = 3 := by omega
  rcases hcase with rfl | rfl | rfl | rfl
  · by_cases hlt : i < cs.length
    · obtain ⟨k, rfl⟩ := Int.eq_ofNat_of_zero_le h1
      have hk : k < cs.length := by omega
      obtain ⟨ad, rfl, had, x0, x1⟩ := reads_pr (HR.out.below HB.out) hk
      have hs : stAct cs ((k : Int), l, 0) sec hd = ⟨3, cs[k].n, cs[k].t, 0⟩ := by
        unfold stAct
        rw [if_pos rfl, if_pos ⟨h1, hlt⟩]
        simp [List.getD_eq_getElem?_getD, hk]
      rw [hs]
      clear hs
      generalize cs[k] = x at *
      obtain ⟨xn, xt⟩ := x
      dsimp only at *
      have d1 : decide ((0 : Int) ≤ (k : Int)) = true := by simp
      have d2 : decide ((k : Int) < (cs.length : Int)) = true := decide_eq_true hlt
      have hbl' : ad.block ≠ w.heap.size := by omega
      go_enter Try.func37, Try.ntmps37
      go_wp2_with fail
      go_quiet (fail)
      go_wp2_with fail
      obtain ⟨W, hW⟩ : ∃ W, W = (w.alloc (Obj.cells #[.int .i8 0, .int .i64 0, .string ⟨#[]⟩, .int .i64 0] 43)).drewN nq := ⟨_, rfl⟩
      rw [← hW]
      have hBW : Below w.heap.size w W := by rw [hW]; exact below_drewN HB.out _
      have hZW : Blk W w.heap.size 43 #[.int .i8 0, .int .i64 0, .string ⟨#[]⟩, .int .i64 0] := by rw [hW]; exact HZ.out.drewN _
      have y0 : W.cell? (ad.add (k * 2)) = some (.int .i64 xn) := by rw [hW]; exact x0
      have y1 : W.cell? ⟨(ad.add (k * 2)).block, (ad.add (k * 2)).off + 1, none⟩ = some (.string xt) := by rw [hW]; exact x1
      have y2 : W.cell? ⟨b, 0, none⟩ = some (.slice (some ad) cs.length c) := (hBW.cell (p := ⟨b, 0, none⟩) hbl).trans c0
      have y3 : W.cell? ⟨b, 1, none⟩ = some (.int .i64 (k : Int)) := (hBW.cell (p := ⟨b, 1, none⟩) hbl).trans c1
      obtain ⟨z0, z1, z2, z3⟩ := hZW.cells4
      obtain ⟨f0, f1, f2, f3⟩ := hZW.frozen4
      have HBW := Lib.hid hBW; clear hBW
      have HZW := Lib.hid hZW; clear hZW hW c0 c1 c2 c3 c4 c5 x0 x1 HZ HB
      go_still_tail 27, (by kernel_rfl)
      change wpList _ _ _ _ _ W.drew
      go_wp2_with fail
      refine ret_blk (cs := #[.int .i8 3, .int .i64 xn, .string xt, .int .i64 0]) (g := w.heap.size) rfl rfl ?_ Try.underlying43 rfl (by kernel_rfl) rfl ⟨rfl, ?_⟩
      · exact ((((((((HZW.out.set_ 0 _).set_ 1 _).set_ 2 _).set_ 3 _).set_ 0 _).set_ 1 _).set_ 2 _).set_ 3 _).drew
      · exact ((((((((HBW.out.setCell (by simp) _).setCell (by simp) _).setCell (by simp) _).setCell (by simp) _).setCell (by simp) _).setCell (by simp) _).setCell (by simp) _).setCell (by simp) _).drew
    · have hs : stAct cs (i, l, 0) sec hd = noAc := by
        unfold stAct
        rw [if_pos rfl, if_neg (by dsimp only; omega)]
      rw [hs]
      have d1 : decide ((0 : Int) ≤ i) = true := decide_eq_true h1
      have d2 : decide (i < (cs.length : Int)) = false := decide_eq_false hlt
      clear hs
      go_enter Try.func37, Try.ntmps37
      go_wp2_with fail
      go_quiet (fail)
      go_wp2_with fail
      refine ret_blk (cs := #[.int .i8 0, .int .i64 0, .string ⟨#[]⟩, .int .i64 0]) (g := w.heap.size) rfl rfl ?_ Try.underlying43 rfl (by kernel_rfl) rfl ⟨rfl, ?_⟩
      · exact (((((HZ.out.drewN _).set_ 0 _).set_ 1 _).set_ 2 _).set_ 3 _)
      · exact (((((below_drewN HB.out _).setCell (by simp) _).setCell (by simp) _).setCell (by simp) _).setCell (by simp) _)
  · have hs : stAct cs (i, l, 1) sec hd = ⟨4, 0, ⟨#[]⟩, 0⟩ := by simp [stAct]
    rw [hs]
    clear hs
    go_enter Try.func37, Try.ntmps37
    go_wp2_with fail
    refine ret_blk (cs := #[.int .i8 4, .int .i64 0, .string ⟨#[]⟩, .int .i64 0]) (g := w.heap.size) rfl rfl ?_ Try.underlying43 rfl (by kernel_rfl) rfl ⟨rfl, ?_⟩
    · exact Blk.new _ _ _
    · exact (Below.refl _ _).alloc (Nat.le_refl _) _
  · have hs : stAct cs (i, l, 2) sec hd = ⟨2, sec, hd, 0⟩ := by simp [stAct]
    rw [hs]
    clear hs
    go_enter Try.func37, Try.ntmps37
    go_wp2_with fail
    go_region
    go_wp2_with fail
    refine ret_blk (cs := #[.int .i8 2, .int .i64 sec, .string hd, .int .i64 0]) (g := w.heap.size) rfl rfl ?_ Try.underlying43 rfl (by kernel_rfl) rfl ⟨rfl, ?_⟩
    · exact (Blk.new _ _ _).drew
    · exact ((Below.refl _ _).alloc (Nat.le_refl _) _).drew
  · have hs : stAct cs (i, l, 3) sec hd = noAc := by simp [stAct]
    rw [hs]
    clear hs
    go_enter Try.func37, Try.ntmps37
    go_wp2_with fail
    refine ret_blk (cs := #[.int .i8 0, .int .i64 0, .string ⟨#[]⟩, .int .i64 0]) (g := w.heap.size) rfl rfl ?_ Try.underlying43 rfl (by kernel_rfl) rfl ⟨rfl, ?_⟩
    · exact HZ.out
    · exact HB.out

/-- a header of a tail -/
def headR (tail : Int) : Bs × Int := makeR 2 [] [6] [tail]
theorem sreads1 {w : World} {g : Nat} {a : Int} (h : Blk w g 3 #[.int .i64 a]) : Reads w w.heap.size 1 (some ⟨g, 0, none⟩) [a].length (icells [a]) := reads_blk h rfl rfl
set_option maxHeartbeats 1000000 in
theorem SHead_any (tail : Int) (w : World) :
    Calls Try.prog 48 #[.int .i64 tail] w fun e w' => MakePost w (headR tail) e w' := by
  have HM := Lib.hid (fun w Aw Al => Make_any 2 ⟨#[]⟩ Aw Al 1 1 [6] [tail] w (by omega) (by decide) (by simp) (by simp))
  unfold MakePost at HM ⊢
  rw [show (⟨#[]⟩ : ByteArray).data.toList = [] from rfl] at HM
  have hh : makeR 2 [] [6] [tail] = headR tail := rfl
  rw [hh] at HM
  clear hh
  generalize headR tail = R at *
  go_enter Try.func48, Try.ntmps48
  go_wp2_with fail
  refine (HM.out _ _ _ ?_ ?_).mono ?_
  · exact ((sreads1 (Blk.new w 3 #[.int .i64 6])).alloc (Nat.le_refl _) _).more (by simp)
  · exact sreads1 (by simpa using Blk.new (w.alloc (Obj.cells #[.int .i64 6] 3)) 3 #[.int .i64 tail])
  rintro e w1 ⟨rfl, hB⟩
  have HB := Lib.hid (below_step (((Below.refl w.heap.size w).alloc (Nat.le_refl _) _).alloc (by simp) _) hB (by simp; omega)); clear hB
  go_wp2_with fail
  go_ret2
  exact ⟨rfl, HB.out⟩
def AimsPost (b : Nat) (v : Value) (s : St) (sec : Int) (r : Bs × Int) (w : World) (e : Ending) (w' : World) : Prop :=
  e = .returned (.bool (decide (r.2 = 0 ∧ 0 ≤ sec))) ∧ Blk w' b 85 (crs v s sec (mkS r.1)) ∧ w.grownBy w' (some b)
set_option maxHeartbeats 1000000 in
set_option maxRecDepth 100000 in
theorem aims_any (b : Nat) (v : Value) (s : St) (sec0 : Int) (hd0 : ByteArray) (g : Geo) (slot tail : Int) (w : World) (hw1 : -9223372036854775808 ≤ g.wait) (hw2 : g.wait ≤ 9223372036854775807)
    (hb : Blk w b 85 (crs v s sec0 hd0)) :
    Calls Try.prog 34 #[.pointer (some ⟨b, 0, none⟩), g.v, .int .i64 slot, .int .i64 tail] w fun e w' => AimsPost b v s (g.headS slot) (headR tail) w e w' := by
  have HH := Lib.hid (fun w => SHead_any tail w)
  have HG := Lib.hid (fun w => Head_any g slot w hw1 hw2)
  unfold MakePost at HH
  unfold AimsPost
  generalize headR tail = R at *
  generalize g.headS slot = sec at *
  obtain ⟨x, r⟩ := R
  dsimp only at *
  generalize mkS x = X at *
  have HBK := Lib.hid hb
  have hbl := hb.lt
  clear hb
  dsimp only [Geo.v]
  go_enter Try.func34, Try.ntmps34
  go_wp2_with fail
  refine (HH.out _).mono ?_
  rintro e w1 ⟨rfl, hB⟩
  have hg := (Blk.new w 23 (geoCells g)).below hB (by simp)
  have HBK1 := Lib.hid ((HBK.out.alloc (Obj.cells (geoCells g) 23)).below hB (by simp; omega))
  have HB1 := Lib.hid (below_step ((Below.refl w.heap.size w).alloc (Nat.le_refl _) _) hB (by simp)); clear hB
  obtain ⟨q0, q1, q2, q3, q4, q5, q6, q7⟩ := hg.cells8
  clear hg
  go_wp2_with fail
  refine (HG.out _).mono ?_
  rintro e w2 ⟨rfl, hB⟩
  clear q0 q1 q2 q3 q4 q5 q6 q7
  have HBK2 := Lib.hid (HBK1.out.below hB HBK1.out.lt)
  have HB2 := Lib.hid (below_step HB1.out hB HB1.out.size); clear hB HB1 HBK1
  obtain ⟨c0, c1, c2, c3, c4, c5⟩ := HBK2.out.cells6
  obtain ⟨f0, f1, f2, f3, f4, f5⟩ := HBK2.out.frozen6
  have HF1 := Lib.hid ((HBK2.out.set_ 4 (.int .i64 sec)).set_ 5 (.string X))
  have HF2 := Lib.hid (only_setCell (only_setCell (only_of_below HB2.out (some b)) (p := ⟨b, 4, none⟩) (.inl rfl) (.int .i64 sec)) (p := ⟨b, 5, none⟩) (.inl rfl) (.string X))
  by_cases h0 : r = 0
  · subst h0
    have hd : decide ((0 : Int) = 0 ∧ 0 ≤ sec) = decide (0 ≤ sec) := by simp
    have HD := Lib.hid hd
    clear hd
    go_wp2_with fail
    go_ret
    exact ⟨by first | rfl | (rw [HD.out]; rfl), HF1.out, HF2.out⟩
  · have hd : decide (r = 0 ∧ 0 ≤ sec) = false := by simp [h0]
    have h0' : (r == 0) = false := by simp [h0]
    have HD := Lib.hid hd
    clear hd h0
    go_wp2_with fail
    go_ret
    exact ⟨by first | rfl | (rw [HD.out]; rfl), HF1.out, HF2.out⟩
end Go.Proofs.Ytfonaceldfjneaa
