/- The walks of ballot: text, Bytes. -/
import Derived.Test.YtkmiknefbbjggaaBallot2
import Derived.Deep.RegionHeld3
namespace Go.Proofs.Ytkmiknefbbjggaa
open Go.RowKit

theorem reads3 {w : World} {g : Nat} {a b c : Int} (h : Blk w g 3 #[.int .i64 a, .int .i64 b, .int .i64 c]) : Reads w w.heap.size 1 (some ⟨g, 0, none⟩) [a, b, c].length (icells [a, b, c]) := reads_blk h rfl rfl
abbrev RecH (i m b : Int) (v : ByteArray) (g : Nat) (w0 wx : World) : Prop :=
  wx.cell? ⟨g, 0, none⟩ = some (.int .i64 i) ∧ wx.cell? ⟨g, 1, none⟩ = some (.int .i64 m) ∧ wx.cell? ⟨g, 2, none⟩ = some (.int .i64 b) ∧ wx.cell? ⟨g, 3, none⟩ = some (.string v) ∧ g < wx.heap.size ∧ Below w0.heap.size w0 wx
theorem recH_keep {i m b : Int} {v : ByteArray} {g : Nat} {w0 wx wy : World} (h : RecH i m b v g w0 wx) (hB : Below wx.heap.size wx wy) : RecH i m b v g w0 wy := by
  obtain ⟨h0, h1, h2, h3, hl, hb⟩ := h
  have hc : ∀ o, wy.cell? ⟨g, o, none⟩ = wx.cell? ⟨g, o, none⟩ := fun o => hB.cell (p := ⟨g, o, none⟩) hl
  exact ⟨by rw [hc, h0], by rw [hc, h1], by rw [hc, h2], by rw [hc, h3], Nat.lt_of_lt_of_le hl hB.size, below_step hb hB hb.size⟩
theorem recH_drew {i m b : Int} {v : ByteArray} {g : Nat} {w0 wx : World} (h : RecH i m b v g w0 wx) : RecH i m b v g w0 wx.drew := by
  obtain ⟨h0, h1, h2, h3, hl, hb⟩ := h
  exact ⟨h0, h1, h2, h3, hl, hb.drew⟩
theorem recH_alloc {i m b : Int} {v : ByteArray} {g : Nat} {w0 wx : World} (h : RecH i m b v g w0 wx) (o : Obj) : RecH i m b v g w0 (wx.alloc o) := recH_keep h ((Below.refl _ _).alloc (Nat.le_refl _) _)

def WPost (w : World) (e : Ending) (w' : World) : Prop := ∃ A, e = .returned (.slice A 3 3) ∧ Reads w' w'.heap.size 1 A [2, 6, 6].length (icells [2, 6, 6]) ∧ Below w.heap.size w w'
theorem widths_post (p : Value) (w : World) : Calls Try.prog 48 #[p] w (WPost w) :=
  (widths_any p w).mono fun e w' ⟨he, hw⟩ => by subst hw; exact ⟨_, he, reads3 (Blk.new w _ _), (Below.refl _ _).alloc (Nat.le_refl _) _⟩

set_option maxHeartbeats 1000000 in
set_option maxRecDepth 100000 in
theorem text_any (g : Nat) (i m b : Int) (v : ByteArray) (w : World) (hv : v.size ≤ 1000000) (hblk : RecAt w g 87 i m b v) :
    Calls Try.prog 51 #[.pointer (some ⟨g, 0, none⟩)] w fun e w' => MakePost w (makeR 4 v.data.toList [2, 6, 6] [i, m, b]) e w' := by
  have hH : RecH i m b v g w w := ⟨hblk.cell 0, hblk.cell 1, hblk.cell 2, hblk.cell 3, hblk.lt, Below.refl _ _⟩
  have HG := Lib.hid hH; clear hH hblk
  have HMK := Lib.hid (fun w Aw Al => Make_any 4 v Aw Al 3 3 [2, 6, 6] [i, m, b] w (by omega) hv (by simp) (by simp))
  unfold MakePost at HMK ⊢
  generalize makeR 4 v.data.toList [2, 6, 6] [i, m, b] = R at *
  go_enter Try.func51, Try.ntmps51
  go_wp2_with fail
  go_region_held3 (RecH i m b v g w) (first | exact recH_drew HG.out | exact recH_alloc (by assumption) _ | exact recH_keep (by assumption) (by assumption))
    (first
    | (go_at_call 48; refine (widths_post _ _).mono ?_; rintro e w1 ⟨AW, rfl, hrW, hBW⟩)
    | (go_at_call 20; first
        | (refine (HMK.out _ _ _ (by exact (hrW.alloc (Nat.le_refl _) _).more (by simp)) (by exact reads3 (Blk.new w1 _ _))).mono ?_; rintro e w5 ⟨rfl, hB5⟩)
        | (refine (HMK.out _ _ _ (by exact hrW) (by exact reads3 ((Blk.new w.drew _ _).below hBW (Blk.new w.drew _ _).lt))).mono ?_; rintro e w5 ⟨rfl, hB5⟩)))
  all_goals
    have hG5 : RecH i m b v g w w5 := by assumption
    have HG5 := Lib.hid hG5; clear hG5
    go_wp2_with fail
    go_ret2
    exact ⟨rfl, HG5.out.2.2.2.2.2⟩

/-- what Bytes answers -/
def bytesR (i m b : Int) (v : Bs) : Bs × Int := if mayB i m b v = true then makeR 4 v [2, 6, 6] [i, m, b] else ([], 2)

set_option maxHeartbeats 400000 in
theorem Bytes_any (i m b : Int) (v : ByteArray) (w : World) (hv : v.size ≤ 1000000) :
    Calls Try.prog 34 #[recV i m b v] w fun e w' => MakePost w (bytesR i m b v.data.toList) e w' := by
  have HM := Lib.hid (fun w => May_any i m b v w (by unfold maxLen; omega))
  have hT := fun g w => text_any g i m b v w hv
  have hr : bytesR i m b v.data.toList = if mayB i m b v.data.toList = true then makeR 4 v.data.toList [2, 6, 6] [i, m, b] else ([], 2) := rfl
  rw [hr]
  unfold MakePost at hT ⊢
  clear hr
  have HT := Lib.hid hT; clear hT
  generalize makeR 4 v.data.toList [2, 6, 6] [i, m, b] = R at *
  cases hq : mayB i m b v.data.toList with
  | true =>
    rw [hq] at HM
    rw [if_pos rfl]
    clear hq
    go_enter Try.func34, Try.ntmps34
    go_wp2_with fail
    refine (HM.out _).mono ?_
    rintro e w1 ⟨rfl, hB1⟩
    have hb0 : Blk w1 w.heap.size 55 #[.int .i64 i, .int .i64 m, .int .i64 b, .string v] := (Blk.new w 55 #[.int .i64 i, .int .i64 m, .int .i64 b, .string v]).below hB1 (by simp)
    obtain ⟨c0, c1, c2, c3⟩ := hb0.cells4
    have HB1 := Lib.hid (below_step ((Below.refl w.heap.size w).alloc (Nat.le_refl _) _) hB1 (by simp)); clear hB1 hb0
    go_wp2_with fail
    refine (HT.out w1.heap.size _ (Blk.new w1 _ _)).mono ?_
    rintro e w2 ⟨rfl, hB2⟩
    have HB2 := Lib.hid (below_step (HB1.out.alloc HB1.out.size _) hB2 (by have := HB1.out.size; simp; omega)); clear hB2
    clear c0 c1 c2 c3
    go_wp2_with fail
    go_ret2
    exact ⟨rfl, HB2.out⟩
  | false =>
    rw [hq] at HM
    rw [if_neg (by simp)]
    clear hq HT
    go_enter Try.func34, Try.ntmps34
    go_wp2_with fail
    refine (HM.out _).mono ?_
    rintro e w1 ⟨rfl, hB1⟩
    have HB1 := Lib.hid (below_step ((Below.refl w.heap.size w).alloc (Nat.le_refl _) _) hB1 (by simp)); clear hB1
    go_wp2_with fail
    go_ret2
    exact ⟨rfl, HB1.out⟩
end Go.Proofs.Ytkmiknefbbjggaa
