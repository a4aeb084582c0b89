/- The walks of settle: Want, Begin. -/
import Derived.Test.YtfonaceldfjneaaSettle3
import Derived.Test.YtfonaceldfjneaaRet
namespace Go.Proofs.Ytfonaceldfjneaa
open Go.RowKit

def wantR (g : Geo) (cs : List Pr) (s : St) (slot tail : Int) : Ac := if (headR tail).2 = 0 ∧ 0 ≤ g.headS slot then stAct cs s (g.headS slot) (mkS (headR tail).1) else noAc

set_option maxHeartbeats 2000000 in
set_option maxRecDepth 100000 in
theorem Want_any (g : Geo) (A : Option Addr) (c : Nat) (cs : List Pr) (s : St) (slot tail : Int) (w : World) (hw1 : -9223372036854775808 ≤ g.wait) (hw2 : g.wait ≤ 9223372036854775807) (h1 : 0 ≤ s.1) (h5 : 0 ≤ s.2.2) (h6 : s.2.2 ≤ 3)
    (hr : Reads w w.heap.size 2 A cs.length (prCells cs)) :
    Calls Try.prog 19 #[g.v, .agg (stlV (.slice A cs.length c) s), .int .i64 slot, .int .i64 tail] w fun e w' => e = .returned (.agg (acVals (wantR g cs s slot tail))) ∧ Below w.heap.size w w' := by
  have HA := Lib.hid (fun b w h => aims_any b (.slice A cs.length c) s 0 ⟨#[]⟩ g slot tail w hw1 hw2 h)
  have HC := Lib.hid (fun b sec hd w hb hr => act_any b A c cs s sec hd w h1 h5 h6 hb hr)
  have hwr : wantR g cs s slot tail = if (headR tail).2 = 0 ∧ 0 ≤ g.headS slot then stAct cs s (g.headS slot) (mkS (headR tail).1) else noAc := rfl
  have HR := Lib.hid hr; clear hr
  generalize g.headS slot = sec at *
  generalize headR tail = R at *
  obtain ⟨x, r⟩ := R
  dsimp only at hwr
  unfold AimsPost at HA
  dsimp only at HA
  generalize mkS x = X at *
  let W0 := w.alloc (Obj.cells (geoCells g) 23)
  have hsz0 : W0.heap.size = w.heap.size + 1 := by simp [W0]
  let W1 := W0.alloc (Obj.cells (stlV (.slice A cs.length c) s) 58)
  have hsz1 : W1.heap.size = w.heap.size + 2 := by simp [W1, W0]
  let W2 := W1.alloc (Obj.cells #[.int .i8 0, .int .i64 0, .string ⟨#[]⟩, .int .i64 0] 43)
  have hsz2 : W2.heap.size = w.heap.size + 3 := by simp [W2, W1, W0]
  have HBK : Hid (Blk (W2.alloc (Obj.cells (crs (.slice A cs.length c) s 0 ⟨#[]⟩) 85)) (w.heap.size + 3) 85 (crs (.slice A cs.length c) s 0 ⟨#[]⟩)) := by
    have h := Blk.new W2 85 (crs (.slice A cs.length c) s 0 ⟨#[]⟩)
    rw [hsz2] at h; exact h
  have HAC : Hid (Blk (W2.alloc (Obj.cells (crs (.slice A cs.length c) s 0 ⟨#[]⟩) 85)) (w.heap.size + 2) 43 #[.int .i8 0, .int .i64 0, .string ⟨#[]⟩, .int .i64 0]) := by
    have h := (Blk.new W1 43 #[.int .i8 0, .int .i64 0, .string ⟨#[]⟩, .int .i64 0]).alloc (Obj.cells (crs (.slice A cs.length c) s 0 ⟨#[]⟩) 85)
    rw [hsz1] at h; exact h
  have HB : Hid (Below w.heap.size w (W2.alloc (Obj.cells (crs (.slice A cs.length c) s 0 ⟨#[]⟩) 85))) :=
    ((((Below.refl w.heap.size w).alloc (Nat.le_refl _) _).alloc (by simp) _).alloc (by simp; omega) _).alloc (by simp; omega) _
  have HSZ : Hid ((W2.alloc (Obj.cells (crs (.slice A cs.length c) s 0 ⟨#[]⟩) 85)).heap.size = w.heap.size + 4) := by
    show _ = _
    rw [World.size_alloc, hsz2]
  clear hsz0 hsz1 hsz2
  dsimp only [W2, W1, W0] at HBK HAC HB HSZ
  clear W2 W1 W0
  clear h1 h5 h6 hw1 hw2
  dsimp only [Geo.v]
  cases hq : decide (r = 0 ∧ 0 ≤ sec) with
  | false =>
    rw [hq] at HA
    rw [hwr, if_neg (of_decide_eq_false hq)]
    clear hwr hq
    go_enter Try.func19, Try.ntmps19
    go_wp2_with fail
    refine (HA.out (w.heap.size + 3) _ HBK.out).mono ?_
    rintro e w1 ⟨rfl, hb1, hg1⟩
    have hr1 := HAC.out.only hg1 (by omega)
    have HB1 := Lib.hid (HB.out.grown hg1 HB.out.size (fun k hk => by injection hk with hk; omega))
    obtain ⟨q0, q1, q2, q3⟩ := hr1.cells4
    obtain ⟨f0, f1, f2, f3⟩ := hr1.frozen4
    have HR1 := Lib.hid hr1; clear hr1 hb1 hg1
    go_wp2_with fail
    refine ret_blk (cs := #[.int .i8 0, .int .i64 0, .string ⟨#[]⟩, .int .i64 0]) (g := w.heap.size + 2) rfl rfl ?_ Try.underlying43 rfl (by kernel_rfl) rfl ⟨rfl, ?_⟩
    · exact (((HR1.out.set_ 0 _).set_ 1 _).set_ 2 _).set_ 3 _
    · exact (((HB1.out.setCell (by simp; omega) _).setCell (by simp; omega) _).setCell (by simp; omega) _).setCell (by simp; omega) _
  | true =>
    rw [hq] at HA
    rw [hwr, if_pos (of_decide_eq_true hq)]
    clear hwr hq
    have HC2 := Lib.hid (fun b w hb hr => HC.out b sec X w hb hr); clear HC
    generalize stAct cs s sec X = AC at *
    obtain ⟨ak, asx, ab, akey⟩ := AC
    go_enter Try.func19, Try.ntmps19
    go_wp2_with fail
    refine (HA.out (w.heap.size + 3) _ HBK.out).mono ?_
    rintro e w1 ⟨rfl, hb1, hg1⟩
    have hr1 := HAC.out.only hg1 (by omega)
    have HB1 := Lib.hid (HB.out.grown hg1 HB.out.size (fun k hk => by injection hk with hk; omega))
    have HR1 := Lib.hid hr1; clear hr1
    have HBK1 := Lib.hid hb1; clear hb1 hg1
    go_wp2_with fail
    refine (HC2.out (w.heap.size + 3) _ HBK1.out ((HR.out.below HB1.out).more HB1.out.size)).mono ?_
    rintro e w2 ⟨rfl, hB⟩
    have hr2 := HR1.out.below hB HR1.out.lt
    have HB2 := Lib.hid (below_step HB1.out hB HB1.out.size); clear hB HB1 HR1 HBK1
    obtain ⟨q0, q1, q2, q3⟩ := hr2.cells4
    obtain ⟨f0, f1, f2, f3⟩ := hr2.frozen4
    have HR2 := Lib.hid hr2; clear hr2
    dsimp only [acVals]
    go_wp2_with fail
    refine ret_blk (cs := #[.int .i8 ak, .int .i64 asx, .string ab, .int .i64 akey]) (g := w.heap.size + 2) rfl rfl ?_ Try.underlying43 rfl (by kernel_rfl) rfl ⟨rfl, ?_⟩
    · exact (((HR2.out.set_ 0 _).set_ 1 _).set_ 2 _).set_ 3 _
    · exact (((HB2.out.setCell (by simp; omega) _).setCell (by simp; omega) _).setCell (by simp; omega) _).setCell (by simp; omega) _

def beginS (r : List Pr × Int) : St := if r.2 = 0 ∧ r.1.length = 0 then (0, 0, 3) else (0, 0, 0)
def BeginPost (w : World) (r : List Pr × Int) (e : Ending) (w' : World) : Prop :=
  ∃ A c, e = .returned (.tuple #[.agg (stlV (.slice A r.1.length c) (beginS r)), .int .i64 r.2]) ∧ w'.ownsRow w.heap.size 52 2 (.slice A r.1.length c) r.1.length (prCells r.1) ∧ Below w.heap.size w w'
set_option maxHeartbeats 2000000 in
set_option maxRecDepth 100000 in
theorem Begin_any (g : Geo) (A : Option Addr) (c : Nat) (l : List Pr) (w : World) (hw1 : -9223372036854775808 ≤ g.wait) (hw2 : g.wait ≤ 9223372036854775807) (hl : l.length ≤ 100000)
    (hr : Reads w w.heap.size 2 A l.length (prCells l)) :
    Calls Try.prog 16 #[g.v, .slice A l.length c] w fun e w' => BeginPost w (cellsR g l) e w' := by
  have HC := Lib.hid (fun w hr => Cells_any g A c l w hw1 hw2 hl hr)
  have HR := Lib.hid hr; clear hr
  generalize cellsR g l = R at *
  obtain ⟨cl, r⟩ := R
  unfold CellsPost at HC
  dsimp only at HC
  have hB0 : Below w.heap.size w ((w.alloc (Obj.cells (geoCells g) 23)).alloc (Obj.cells #[.slice none 0 0, .int .i64 0, .int .i64 0, .int .i8 0] 58)) := ((Below.refl w.heap.size w).alloc (Nat.le_refl _) _).alloc (by simp) _
  have hS0 : Blk ((w.alloc (Obj.cells (geoCells g) 23)).alloc (Obj.cells #[.slice none 0 0, .int .i64 0, .int .i64 0, .int .i8 0] 58)) (w.heap.size + 1) 58 #[.slice none 0 0, .int .i64 0, .int .i64 0, .int .i8 0] := by
    have h := Blk.new (w.alloc (Obj.cells (geoCells g) 23)) 58 #[.slice none 0 0, .int .i64 0, .int .i64 0, .int .i8 0]
    simpa using h
  have HB0 := Lib.hid hB0; clear hB0
  have HS0 := Lib.hid hS0; clear hS0 hw1 hw2
  dsimp only [Geo.v]
  go_enter Try.func16, Try.ntmps16
  go_wp2_with fail
  refine (HC.out _ ((HR.out.below HB0.out).more HB0.out.size)).mono ?_
  rintro e w1 ⟨v, rfl, hown, hB⟩
  have hs1 := HS0.out.below hB HS0.out.lt
  have HB1 := Lib.hid (below_step HB0.out hB HB0.out.size); clear hB
  obtain ⟨A1, c1, rfl, -, -, -⟩ := own_reads hown
  have HO := Lib.hid (own_base hown (base' := w.heap.size) (by simp; omega)); 
  have HNE := Lib.hid (own_blk_ne hown hs1 (by decide)); clear hown
  obtain ⟨q0, q1, q2, q3⟩ := hs1.cells4
  obtain ⟨f0, f1, f2, f3⟩ := hs1.frozen4
  have HS1 := Lib.hid hs1; clear hs1 HB0 HS0
  by_cases h0 : r = 0
  · subst h0
    by_cases hn : cl.length = 0
    · have hs : beginS (cl, 0) = (0, 0, 3) := by simp [beginS, hn]
      have hcl : ((cl.length : Int) == 0) = true := by simp [hn]
      have HSS := Lib.hid hs; clear hs
      have HN := Lib.hid hn; clear hn
      go_wp2_with fail
      refine ret_cell2 (cs := stlV (.slice A1 cl.length c1) (0, 0, 3)) (g := w.heap.size + 1) rfl rfl (by exact ((((((HS1.out.set_ 0 _).set_ 3 _).set_ 0 _).set_ 1 _).set_ 2 _).set_ 3 _)) Try.underlying58 rfl (by kernel_rfl) rfl ?_
      show BeginPost w (cl, 0) _ _
      exact ⟨A1, c1, by rw [HSS.out]; rfl, (ownsRow_setCell_other (ownsRow_setCell_other (ownsRow_setCell_other (ownsRow_setCell_other (ownsRow_setCell_other (ownsRow_setCell_other HO.out (a := ⟨w.heap.size + 1, 0, none⟩) HNE.out _) (a := ⟨w.heap.size + 1, 3, none⟩) HNE.out _) (a := ⟨w.heap.size + 1, 0, none⟩) HNE.out _) (a := ⟨w.heap.size + 1, 1, none⟩) HNE.out _) (a := ⟨w.heap.size + 1, 2, none⟩) HNE.out _) (a := ⟨w.heap.size + 1, 3, none⟩) HNE.out _), ((((((HB1.out.setCell (by simp) _).setCell (by simp) _).setCell (by simp) _).setCell (by simp) _).setCell (by simp) _).setCell (by simp) _)⟩
    · have hs : beginS (cl, 0) = (0, 0, 0) := by simp only [beginS]; rw [if_neg (by simpa using hn)]
      have hcl : ((cl.length : Int) == 0) = false := by simpa using hn
      have HSS := Lib.hid hs; clear hs hn
      go_wp2_with fail
      refine ret_cell2 (cs := stlV (.slice A1 cl.length c1) (0, 0, 0)) (g := w.heap.size + 1) rfl rfl (by exact (((((HS1.out.set_ 0 _).set_ 0 _).set_ 1 _).set_ 2 _).set_ 3 _)) Try.underlying58 rfl (by kernel_rfl) rfl ?_
      show BeginPost w (cl, 0) _ _
      exact ⟨A1, c1, by rw [HSS.out]; rfl, (ownsRow_setCell_other (ownsRow_setCell_other (ownsRow_setCell_other (ownsRow_setCell_other (ownsRow_setCell_other HO.out (a := ⟨w.heap.size + 1, 0, none⟩) HNE.out _) (a := ⟨w.heap.size + 1, 0, none⟩) HNE.out _) (a := ⟨w.heap.size + 1, 1, none⟩) HNE.out _) (a := ⟨w.heap.size + 1, 2, none⟩) HNE.out _) (a := ⟨w.heap.size + 1, 3, none⟩) HNE.out _), (((((HB1.out.setCell (by simp) _).setCell (by simp) _).setCell (by simp) _).setCell (by simp) _).setCell (by simp) _)⟩
  · have hs : beginS (cl, r) = (0, 0, 0) := by simp [beginS, h0]
    have h0' : (r == 0) = false := by simpa using h0
    have HSS := Lib.hid hs; clear hs h0
    go_wp2_with fail
    refine ret_cell2 (cs := stlV (.slice A1 cl.length c1) (0, 0, 0)) (g := w.heap.size + 1) rfl rfl (by exact (((((HS1.out.set_ 0 _).set_ 0 _).set_ 1 _).set_ 2 _).set_ 3 _)) Try.underlying58 rfl (by kernel_rfl) rfl ?_
    show BeginPost w (cl, r) _ _
    exact ⟨A1, c1, by rw [HSS.out]; rfl, (ownsRow_setCell_other (ownsRow_setCell_other (ownsRow_setCell_other (ownsRow_setCell_other (ownsRow_setCell_other HO.out (a := ⟨w.heap.size + 1, 0, none⟩) HNE.out _) (a := ⟨w.heap.size + 1, 0, none⟩) HNE.out _) (a := ⟨w.heap.size + 1, 1, none⟩) HNE.out _) (a := ⟨w.heap.size + 1, 2, none⟩) HNE.out _) (a := ⟨w.heap.size + 1, 3, none⟩) HNE.out _), (((((HB1.out.setCell (by simp) _).setCell (by simp) _).setCell (by simp) _).setCell (by simp) _).setCell (by simp) _)⟩
end Go.Proofs.Ytfonaceldfjneaa
