/- The walks of geo: end, regions$1, regions. -/
import Derived.Test.YtkjihmlighigjaaGreatRepairAliveM02
import Derived.Deep.RegionHeld3
import Derived.StillTailTactics
import Derived.IntWalk
import Derived.Test.YtkjihmlighigjaaGreatRepairAliveM01
import Derived.BigRegion
set_option linter.unusedSimpArgs false
set_option linter.unusedVariables false
namespace Go.Proofs.YtkjihmlighigjaaGreat
open Go.RowKit

def rcell (r : Rg) : List Value := [.int .i64 r.first, .int .i64 r.many, .int .i8 r.kind, .int .i64 r.per]
def rcells (l : List Rg) : List Value := l.flatMap rcell
end Go.Proofs.YtkjihmlighigjaaGreat

namespace Go.Proofs.YtkjihmlighigjaaGreat
open Go.RowKit

end Go.Proofs.YtkjihmlighigjaaGreat

namespace Go.Proofs.YtkjihmlighigjaaGreat
open Go.RowKit

end Go.Proofs.YtkjihmlighigjaaGreat

namespace Go.Proofs.YtkjihmlighigjaaGreat
open Go.RowKit

end Go.Proofs.YtkjihmlighigjaaGreat

namespace Go.Proofs.YtkjihmlighigjaaGreat
open Go.RowKit

end Go.Proofs.YtkjihmlighigjaaGreat

namespace Go.Proofs.YtkjihmlighigjaaGreat
open Go.RowKit

end Go.Proofs.YtkjihmlighigjaaGreat

namespace Go.Proofs.YtkjihmlighigjaaGreat
open Go.RowKit

end Go.Proofs.YtkjihmlighigjaaGreat

namespace Go.Proofs.YtkjihmlighigjaaGreat
end Go.Proofs.YtkjihmlighigjaaGreat

namespace Go.Proofs.YtkjihmlighigjaaGreat
open Go.RowKit

end Go.Proofs.YtkjihmlighigjaaGreat

namespace Go.Proofs.YtkjihmlighigjaaGreat
open Go.RowKit

end Go.Proofs.YtkjihmlighigjaaGreat

namespace Go.Proofs.YtkjihmlighigjaaGreat
open Go.RowKit

end Go.Proofs.YtkjihmlighigjaaGreat

namespace Go.Proofs.YtkjihmlighigjaaGreat
open Go.RowKit

end Go.Proofs.YtkjihmlighigjaaGreat

namespace Go.Proofs.YtkjihmlighigjaaGreat
open Go.RowKit

def betB (n a b : Int) : Bool := decide (a ≤ n ∧ n ≤ b)
def mayB (i m b : Int) (v : Bs) : Bool := betB i 0 512 && (betB m 0 1099511627776 && (betB b 0 m && (decide (v.length ≤ 64) && ((b == 0) == v.isEmpty))))

theorem bl_between_any (n a b : Int) (w : World) :
    Calls Tryz.prog 230 #[.int .i64 n, .int .i64 a, .int .i64 b] w fun e w' => e = .returned (.bool (betB n a b)) ∧ w = w' := by
  by_cases h1 : a ≤ n
  · by_cases h2 : n ≤ b
    · rw [show betB n a b = true from decide_eq_true ⟨h1, h2⟩]
      go_enter Tryz.func230, Tryz.ntmps230
      go_wp2
      go_ret
      exact ⟨rfl, rfl⟩
    · rw [show betB n a b = false from decide_eq_false (by omega)]
      go_enter Tryz.func230, Tryz.ntmps230
      go_wp2
      go_ret
      exact ⟨rfl, rfl⟩
  · rw [show betB n a b = false from decide_eq_false (by omega)]
    go_enter Tryz.func230, Tryz.ntmps230
    go_wp2
    go_ret
    exact ⟨rfl, rfl⟩

theorem bl_widths_any (p : Value) (w : World) :
    Calls Tryz.prog 227 #[p] w fun e w' => e = .returned (.slice (some ⟨w.heap.size, 0, none⟩) 3 3) ∧ w' = w.alloc (.cells #[.int .i64 2, .int .i64 6, .int .i64 6] 3) := by
  go_enter Tryz.func227, Tryz.ntmps227
  go_wp2
  go_ret
  exact ⟨rfl, rfl⟩

theorem str_empty {v : ByteArray} (h : v.data.toList.isEmpty = true) : v = ⟨#[]⟩ := by
  rw [← mkS_self v, List.isEmpty_iff.1 h]; rfl
theorem str_some {v : ByteArray} (h : v.data.toList.isEmpty = false) : v.toList.isEmpty = false := by rw [Lib.toList_data]; exact h

abbrev RecAt (w : World) (g : Nat) (t : TypeId) (i m b : Int) (v : ByteArray) : Prop := Blk w g t #[.int .i64 i, .int .i64 m, .int .i64 b, .string v]

set_option maxHeartbeats 1000000 in
set_option maxRecDepth 100000 in
theorem may_rec (g : Nat) (i m b : Int) (v : ByteArray) (w : World) (hv : v.size ≤ maxLen) (hblk : RecAt w g 291 i m b v) :
    Calls Tryz.prog 228 #[.pointer (some ⟨g, 0, none⟩)] w fun e w' => e = .returned (.bool (mayB i m b v.data.toList)) ∧ Below w.heap.size w w' := by
  unfold maxLen at hv
  obtain ⟨c0, c1, c2, c3⟩ := hblk.cells4
  have hm : mayB i m b v.data.toList = (betB i 0 512 && (betB m 0 1099511627776 && (betB b 0 m && (decide (v.size ≤ 64) && ((b == 0) == v.data.toList.isEmpty))))) := by rw [← bytes_length]; rfl
  rw [hm]
  clear hblk hm
  have q1 := fun w => bl_between_any i 0 512 w
  have q2 := fun w => bl_between_any m 0 1099511627776 w
  have q3 := fun w => bl_between_any b 0 m w
  generalize hb1 : betB i 0 512 = B1 at *
  generalize hb2 : betB m 0 1099511627776 = B2 at *
  generalize hb3 : betB b 0 m = B3 at *
  clear hb1 hb2 hb3
  have Q1 := Lib.hid q1; clear q1
  have Q2 := Lib.hid q2; clear q2
  have Q3 := Lib.hid q3; clear q3
  cases B1 with
  | false =>
    go_enter Tryz.func228, Tryz.ntmps228
    go_wp2_with fail
    go_quiet ((go_at_call 230; (with_reducible exact quiet_left (Q1.out _))))
    go_wp2
    go_ret
    exact ⟨rfl, below_drewN (Below.refl _ _) _⟩
  | true =>
    cases B2 with
    | false =>
      go_enter Tryz.func228, Tryz.ntmps228
      go_wp2_with fail
      go_quiet ((go_at_call 230; first | (with_reducible exact quiet_left (Q1.out _)) | (with_reducible exact quiet_left (Q2.out _))))
      go_wp2
      go_ret
      exact ⟨rfl, below_drewN (Below.refl _ _) _⟩
    | true =>
      cases B3 with
      | false =>
        go_enter Tryz.func228, Tryz.ntmps228
        go_wp2_with fail
        go_quiet ((go_at_call 230; first | (with_reducible exact quiet_left (Q1.out _)) | (with_reducible exact quiet_left (Q2.out _)) | (with_reducible exact quiet_left (Q3.out _))))
        go_wp2
        go_ret
        exact ⟨rfl, below_drewN (Below.refl _ _) _⟩
      | true =>
        by_cases h64 : v.size ≤ 64
        · have d64 : decide ((v.size : Int) ≤ 64) = true := by simp; omega
          have d64' : decide (v.size ≤ 64) = true := by simpa using h64
          rw [d64']
          clear d64'
          by_cases h0 : b = 0
          · subst h0
            cases he : v.data.toList.isEmpty with
            | true =>
              obtain rfl := str_empty he
              clear he
              go_enter Tryz.func228, Tryz.ntmps228
              go_wp2_with fail
              go_quiet ((go_at_call 230; first | (with_reducible exact quiet_left (Q1.out _)) | (with_reducible exact quiet_left (Q2.out _)) | (with_reducible exact quiet_left (Q3.out _))))
              go_wp2
              go_ret
              exact ⟨rfl, below_drewN (Below.refl _ _) _⟩
            | false =>
              have he' := str_some he
              clear he
              go_enter Tryz.func228, Tryz.ntmps228
              go_wp2_with fail
              go_quiet ((go_at_call 230; first | (with_reducible exact quiet_left (Q1.out _)) | (with_reducible exact quiet_left (Q2.out _)) | (with_reducible exact quiet_left (Q3.out _))))
              go_wp2
              go_ret
              exact ⟨rfl, below_drewN (Below.refl _ _) _⟩
          · have h0' : (b == 0) = false := by simpa using h0
            rw [h0']
            clear h0
            cases he : v.data.toList.isEmpty with
            | true =>
              obtain rfl := str_empty he
              clear he
              go_enter Tryz.func228, Tryz.ntmps228
              go_wp2_with fail
              go_quiet ((go_at_call 230; first | (with_reducible exact quiet_left (Q1.out _)) | (with_reducible exact quiet_left (Q2.out _)) | (with_reducible exact quiet_left (Q3.out _))))
              go_wp2
              go_ret
              exact ⟨rfl, below_drewN (Below.refl _ _) _⟩
            | false =>
              have he' := str_some he
              clear he
              go_enter Tryz.func228, Tryz.ntmps228
              go_wp2_with fail
              go_quiet ((go_at_call 230; first | (with_reducible exact quiet_left (Q1.out _)) | (with_reducible exact quiet_left (Q2.out _)) | (with_reducible exact quiet_left (Q3.out _))))
              go_wp2
              go_ret
              exact ⟨rfl, below_drewN (Below.refl _ _) _⟩
        · have d64 : decide ((v.size : Int) ≤ 64) = false := by simp; omega
          rw [decide_eq_false h64]
          clear h64
          go_enter Tryz.func228, Tryz.ntmps228
          go_wp2_with fail
          go_quiet ((go_at_call 230; first | (with_reducible exact quiet_left (Q1.out _)) | (with_reducible exact quiet_left (Q2.out _)) | (with_reducible exact quiet_left (Q3.out _))))
          go_wp2
          go_ret
          exact ⟨rfl, below_drewN (Below.refl _ _) _⟩
end Go.Proofs.YtkjihmlighigjaaGreat

namespace Go.Proofs.YtkjihmlighigjaaGreat
open Go.RowKit

abbrev recV (i m b : Int) (v : ByteArray) : Value := .agg #[.int .i64 i, .int .i64 m, .int .i64 b, .string v]

set_option maxHeartbeats 400000 in
theorem bl_May_any (i m b : Int) (v : ByteArray) (w : World) (hv : v.size ≤ maxLen) :
    Calls Tryz.prog 231 #[recV i m b v] w fun e w' => e = .returned (.bool (mayB i m b v.data.toList)) ∧ Below w.heap.size w w' := by
  have HM := Lib.hid (fun g w => may_rec g i m b v w hv)
  generalize mayB i m b v.data.toList = q at *
  go_enter Tryz.func231, Tryz.ntmps231
  go_wp2_with fail
  refine (HM.out (w.heap.size + 1) _ ?_).mono ?_
  · have h := Blk.new (w.alloc (Obj.cells #[.int .i64 i, .int .i64 m, .int .i64 b, .string v] 40)) 291 #[.int .i64 i, .int .i64 m, .int .i64 b, .string v]
    simpa using h
  rintro e w1 ⟨rfl, hB⟩
  go_wp2_with fail
  go_ret
  exact ⟨rfl, below_step (((Below.refl _ _).alloc (Nat.le_refl _) _).alloc (by simp) _) hB (by simp; omega)⟩

end Go.Proofs.YtkjihmlighigjaaGreat

namespace Go.Proofs.YtkjihmlighigjaaGreat
open Go.RowKit

theorem reads3 {w : World} {g : Nat} {a b c : Int} (h : Blk w g 3 #[.int .i64 a, .int .i64 b, .int .i64 c]) : Reads w w.heap.size 1 (some ⟨g, 0, none⟩) [a, b, c].length (icells [a, b, c]) := reads_blk h rfl rfl
abbrev RecH (i m b : Int) (v : ByteArray) (g : Nat) (w0 wx : World) : Prop :=
  wx.cell? ⟨g, 0, none⟩ = some (.int .i64 i) ∧ wx.cell? ⟨g, 1, none⟩ = some (.int .i64 m) ∧ wx.cell? ⟨g, 2, none⟩ = some (.int .i64 b) ∧ wx.cell? ⟨g, 3, none⟩ = some (.string v) ∧ g < wx.heap.size ∧ Below w0.heap.size w0 wx
theorem recH_keep {i m b : Int} {v : ByteArray} {g : Nat} {w0 wx wy : World} (h : RecH i m b v g w0 wx) (hB : Below wx.heap.size wx wy) : RecH i m b v g w0 wy := by
  obtain ⟨h0, h1, h2, h3, hl, hb⟩ := h
  have hc : ∀ o, wy.cell? ⟨g, o, none⟩ = wx.cell? ⟨g, o, none⟩ := fun o => hB.cell (p := ⟨g, o, none⟩) hl
  exact ⟨by rw [hc, h0], by rw [hc, h1], by rw [hc, h2], by rw [hc, h3], Nat.lt_of_lt_of_le hl hB.size, below_step hb hB hb.size⟩
theorem recH_drew {i m b : Int} {v : ByteArray} {g : Nat} {w0 wx : World} (h : RecH i m b v g w0 wx) : RecH i m b v g w0 wx.drew := by
  obtain ⟨h0, h1, h2, h3, hl, hb⟩ := h
  exact ⟨h0, h1, h2, h3, hl, hb.drew⟩
theorem recH_alloc {i m b : Int} {v : ByteArray} {g : Nat} {w0 wx : World} (h : RecH i m b v g w0 wx) (o : Obj) : RecH i m b v g w0 (wx.alloc o) := recH_keep h ((Below.refl _ _).alloc (Nat.le_refl _) _)

def WPost (w : World) (e : Ending) (w' : World) : Prop := ∃ A, e = .returned (.slice A 3 3) ∧ Reads w' w'.heap.size 1 A [2, 6, 6].length (icells [2, 6, 6]) ∧ Below w.heap.size w w'
theorem widths_post (p : Value) (w : World) : Calls Tryz.prog 227 #[p] w (WPost w) :=
  (bl_widths_any p w).mono fun e w' ⟨he, hw⟩ => by subst hw; exact ⟨_, he, reads3 (Blk.new w _ _), (Below.refl _ _).alloc (Nat.le_refl _) _⟩

set_option maxHeartbeats 1000000 in
set_option maxRecDepth 100000 in
theorem bl_text_any (g : Nat) (i m b : Int) (v : ByteArray) (w : World) (hv : v.size ≤ 1000000) (hblk : RecAt w g 291 i m b v) :
    Calls Tryz.prog 232 #[.pointer (some ⟨g, 0, none⟩)] w fun e w' => MakePost w (makeR 4 v.data.toList [2, 6, 6] [i, m, b]) e w' := by
  have hH : RecH i m b v g w w := ⟨hblk.cell 0, hblk.cell 1, hblk.cell 2, hblk.cell 3, hblk.lt, Below.refl _ _⟩
  have HG := Lib.hid hH; clear hH hblk
  have HMK := Lib.hid (fun w Aw Al => Make_any 4 v Aw Al 3 3 [2, 6, 6] [i, m, b] w (by omega) hv (by simp) (by simp))
  unfold MakePost at HMK ⊢
  generalize makeR 4 v.data.toList [2, 6, 6] [i, m, b] = R at *
  go_enter Tryz.func232, Tryz.ntmps232
  go_wp2_with fail
  go_region_held3 (RecH i m b v g w) (first | exact recH_drew HG.out | exact recH_alloc (by assumption) _ | exact recH_keep (by assumption) (by assumption))
    (first
    | (go_at_call 227; refine (widths_post _ _).mono ?_; rintro e w1 ⟨AW, rfl, hrW, hBW⟩)
    | (go_at_call 246; first
        | (refine (HMK.out _ _ _ (by exact (hrW.alloc (Nat.le_refl _) _).more (by simp)) (by exact reads3 (Blk.new w1 _ _))).mono ?_; rintro e w5 ⟨rfl, hB5⟩)
        | (refine (HMK.out _ _ _ (by exact hrW) (by exact reads3 ((Blk.new w.drew _ _).below hBW (Blk.new w.drew _ _).lt))).mono ?_; rintro e w5 ⟨rfl, hB5⟩)))
  all_goals
    have hG5 : RecH i m b v g w w5 := by assumption
    have HG5 := Lib.hid hG5; clear hG5
    go_wp2_with fail
    go_ret2
    exact ⟨rfl, HG5.out.2.2.2.2.2⟩

def bytesR (i m b : Int) (v : Bs) : Bs × Int := if mayB i m b v = true then makeR 4 v [2, 6, 6] [i, m, b] else ([], 2)

set_option maxHeartbeats 400000 in
theorem bl_Bytes_any (i m b : Int) (v : ByteArray) (w : World) (hv : v.size ≤ 1000000) :
    Calls Tryz.prog 184 #[recV i m b v] w fun e w' => MakePost w (bytesR i m b v.data.toList) e w' := by
  have HM := Lib.hid (fun w => bl_May_any i m b v w (by unfold maxLen; omega))
  have hT := fun g w => bl_text_any g i m b v w hv
  have hr : bytesR i m b v.data.toList = if mayB i m b v.data.toList = true then makeR 4 v.data.toList [2, 6, 6] [i, m, b] else ([], 2) := rfl
  rw [hr]
  unfold MakePost at hT ⊢
  clear hr
  have HT := Lib.hid hT; clear hT
  generalize makeR 4 v.data.toList [2, 6, 6] [i, m, b] = R at *
  cases hq : mayB i m b v.data.toList with
  | true =>
    rw [hq] at HM
    rw [if_pos rfl]
    clear hq
    go_enter Tryz.func184, Tryz.ntmps184
    go_wp2_with fail
    refine (HM.out _).mono ?_
    rintro e w1 ⟨rfl, hB1⟩
    have hb0 : Blk w1 w.heap.size 40 #[.int .i64 i, .int .i64 m, .int .i64 b, .string v] := (Blk.new w 40 #[.int .i64 i, .int .i64 m, .int .i64 b, .string v]).below hB1 (by simp)
    obtain ⟨c0, c1, c2, c3⟩ := hb0.cells4
    have HB1 := Lib.hid (below_step ((Below.refl w.heap.size w).alloc (Nat.le_refl _) _) hB1 (by simp)); clear hB1 hb0
    go_wp2_with fail
    refine (HT.out w1.heap.size _ (Blk.new w1 _ _)).mono ?_
    rintro e w2 ⟨rfl, hB2⟩
    have HB2 := Lib.hid (below_step (HB1.out.alloc HB1.out.size _) hB2 (by have := HB1.out.size; simp; omega)); clear hB2
    clear c0 c1 c2 c3
    go_wp2_with fail
    go_ret2
    exact ⟨rfl, HB2.out⟩
  | false =>
    rw [hq] at HM
    rw [if_neg (by simp)]
    clear hq HT
    go_enter Tryz.func184, Tryz.ntmps184
    go_wp2_with fail
    refine (HM.out _).mono ?_
    rintro e w1 ⟨rfl, hB1⟩
    have HB1 := Lib.hid (below_step ((Below.refl w.heap.size w).alloc (Nat.le_refl _) _) hB1 (by simp)); clear hB1
    go_wp2_with fail
    go_ret2
    exact ⟨rfl, HB1.out⟩
end Go.Proofs.YtkjihmlighigjaaGreat

namespace Go.Proofs.YtkjihmlighigjaaGreat

theorem fieldsR_cases (k : Int) (s : Bs) (ws : List Int) : fieldsR k s ws = ([], [], 30) ∨ ∃ l rest, fieldsR k s ws = (l, rest, 0) ∧ l.length = ws.length := by
  unfold fieldsR
  have ho : (ofR k s).2 = 0 ∨ (ofR k s).2 = 30 := by unfold ofR; split <;> simp
  rcases ho with ho | ho
  · rw [if_pos ho]
    cases ht : takeF (ofR k s).1 ws with
    | none => exact .inl rfl
    | some r => exact .inr ⟨r.1, r.2, rfl, (takeF_le _ _ _ ht).2⟩
  · rw [if_neg (by omega), ho]; exact .inl rfl
end Go.Proofs.YtkjihmlighigjaaGreat

namespace Go.Proofs.YtkjihmlighigjaaGreat
open Go.RowKit

theorem ret_blk2 {P : Program} {fn : Func} {p t : Tmp} {ty : TypeId} {R : Ending → World → Prop} {a : Act} {w : World} {g : Nat} {cs : Array Value} {d : TypeDesc} (h : fn.results = #[.cell p ty, .tmp t])
    (hp : a.tmps.getD p undef = .pointer (some ⟨g, 0, none⟩)) (hb : Blk w g ty cs) (hu : P.underlying ty = some d) (hd : (match d with | .struct _ | .array _ _ => true | _ => false) = true) (hi : (P.info? ty).map (·.size) = some cs.size)
    (hdf : a.defers = []) (hR : R (.returned (.tuple #[.agg cs, a.tmps.getD t undef])) w) : bodyPost P fn R .ret a w := by
  refine bodyPost_ret (v := .tuple #[.agg cs, a.tmps.getD t undef]) ?_ hdf hR
  have hp' : a.tmps[p]?.getD undef = .pointer (some ⟨g, 0, none⟩) := by simpa using hp
  simp [results, h, hp', asAddr, run_loadVar_row w g ty ty cs (0, 0) d hb hu hd hi]

abbrev recCells (i m b : Int) (v : ByteArray) : Array Value := #[.int .i64 i, .int .i64 m, .int .i64 b, .string v]
def readR (s : Bs) : (Int × Int × Int × Bs) × Int :=
  if s = [] then ((0, 0, 0, []), 0) else
  match fieldsR 4 s [2, 6, 6] with
  | ([i, m, b], v, 0) => if mayB i m b v = true then ((i, m, b, v), 0) else ((0, 0, 0, []), 50)
  | _ => ((0, 0, 0, []), 50)
def ReadPost (w : World) (r : (Int × Int × Int × Bs) × Int) (e : Ending) (w' : World) : Prop :=
  e = .returned (.tuple #[recV r.1.1 r.1.2.1 r.1.2.2.1 (mkS r.1.2.2.2), .int .i64 r.2]) ∧ Below w.heap.size w w'
theorem takeF_rest (s : Bs) (ws : List Int) (r : List Int × Bs) (h : takeF s ws = some r) : r.2.length ≤ s.length := (takeF_le s ws r h).1
theorem fieldsR_rest (k : Int) (s : Bs) (ws : List Int) : (fieldsR k s ws).2.1.length ≤ 505 := by
  have hol : (ofR k s).1.length ≤ 505 := by
    unfold ofR
    rcases openR_cases s with h | ⟨k', l, h, _, _, hl, _⟩
    · rw [h]; simp
    · rw [h]; dsimp only; split <;> simp [hl]
  unfold fieldsR
  split
  · cases ht : takeF (ofR k s).1 ws with
    | none => simp
    | some r => have := takeF_rest _ _ _ ht; dsimp only; omega
  · simp

set_option maxHeartbeats 1000000 in
set_option maxRecDepth 100000 in
theorem bl_Read_any (s : ByteArray) (w : World) (hs : s.size ≤ 1000000000) :
    Calls Tryz.prog 181 #[.string s] w fun e w' => ReadPost w (readR s.data.toList) e w' := by
  have hz0 : Blk (w.alloc (.cells (recCells 0 0 0 ⟨#[]⟩) 40)) w.heap.size 40 (recCells 0 0 0 ⟨#[]⟩) := Blk.new w _ _
  have hB0 : Below w.heap.size w (w.alloc (.cells (recCells 0 0 0 ⟨#[]⟩) 40)) := (Below.refl _ _).alloc (Nat.le_refl _) _
  cases hem : s.data.toList.isEmpty with
  | true =>
    obtain rfl := str_empty hem
    clear hem
    have hr : readR (⟨#[]⟩ : ByteArray).data.toList = ((0, 0, 0, []), 0) := rfl
    rw [hr]
    clear hr
    have HZ := Lib.hid hz0; clear hz0
    have HB := Lib.hid hB0; clear hB0
    go_enter Tryz.func181, Tryz.ntmps181
    go_wp2_with fail
    refine ret_blk2 (cs := recCells 0 0 0 ⟨#[]⟩) (g := w.heap.size) rfl rfl ?_ Tryz.underlying40 rfl (by kernel_rfl) rfl ⟨rfl, ?_⟩
    · first | exact HZ.out | exact (((HZ.out.set_ 0 _).set_ 1 _).set_ 2 _).set_ 3 _
    · first | exact HB.out | exact (((HB.out.setCell (by simp) _).setCell (by simp) _).setCell (by simp) _).setCell (by simp) _
  | false =>
    have he' := str_some hem
    have hne : s.data.toList ≠ [] := by intro h; rw [h] at hem; cases hem
    have hr : readR s.data.toList = match fieldsR 4 s.data.toList [2, 6, 6] with
      | ([i, m, b], v, 0) => if mayB i m b v = true then ((i, m, b, v), 0) else ((0, 0, 0, []), 50)
      | _ => ((0, 0, 0, []), 50) := by rw [readR, if_neg hne]
    clear hem hne
    have hz1 : Blk ((w.alloc (.cells (recCells 0 0 0 ⟨#[]⟩) 40)).alloc (.cells (recCells 0 0 0 ⟨#[]⟩) 291)) (w.heap.size + 1) 291 (recCells 0 0 0 ⟨#[]⟩) := by
      have h := Blk.new (w.alloc (.cells (recCells 0 0 0 ⟨#[]⟩) 40)) 291 (recCells 0 0 0 ⟨#[]⟩)
      simpa using h
    have hf := fun w Aw r => Fields_any 4 s Aw 3 [2, 6, 6] w hs (by simp) r
    have hfr := fieldsR_rest 4 s.data.toList [2, 6, 6]
    have HZ0 := Lib.hid hz0; clear hz0
    have HB0 := Lib.hid hB0; clear hB0
    have HZ1 := Lib.hid hz1; clear hz1
    rcases fieldsR_cases 4 s.data.toList [2, 6, 6] with h | ⟨l, rest, h, hl⟩
    · rw [h] at hf hr
      rw [hr]
      have HF := Lib.hid hf; clear hf h hr hfr
      go_enter Tryz.func181, Tryz.ntmps181
      go_wp2_with fail
      refine (widths_post _ _).mono ?_
      rintro e w1 ⟨AW, rfl, hrW, hBW⟩
      have HRW := Lib.hid hrW; clear hrW
      have hz0 := ((HZ0.out.alloc _).below hBW (by simp; omega))
      have HZ0' := Lib.hid hz0; clear hz0
      have HB1 := Lib.hid (below_step (HB0.out.alloc (by simp) _) hBW (by simp; omega)); clear hBW
      go_wp2_with fail
      refine (HF.out _ AW HRW.out).mono ?_
      rintro e w2 ⟨v, rfl, hown, hB⟩
      have hz0 := HZ0'.out.below hB HZ0'.out.lt
      have HZ0'' := Lib.hid hz0
      obtain ⟨c0, c1, c2, c3⟩ := hz0.cells4
      obtain ⟨f0, f1, f2, f3⟩ := hz0.frozen4
      have HB2 := Lib.hid (below_step HB1.out hB HB1.out.size)
      clear hown hB hz0
      go_wp2_with fail
      refine ret_blk2 (cs := recCells 0 0 0 ⟨#[]⟩) (g := w.heap.size) rfl rfl ?_ Tryz.underlying40 rfl (by kernel_rfl) rfl ⟨rfl, ?_⟩
      · exact (((HZ0''.out.set_ 0 _).set_ 1 _).set_ 2 _).set_ 3 _
      · exact (((HB2.out.setCell (by simp) _).setCell (by simp) _).setCell (by simp) _).setCell (by simp) _
    · obtain ⟨i, m, b, rfl⟩ : ∃ i m b, l = [i, m, b] := by
        match l, hl with
        | [i, m, b], _ => exact ⟨i, m, b, rfl⟩
      rw [h] at hf hr hfr
      dsimp only at hfr hr
      have HF := Lib.hid hf; clear hf h hl
      have HMY := Lib.hid (fun g w => may_rec g i m b (mkS rest) w (by rw [mkS_size]; unfold maxLen; omega))
      rw [mkS_toList] at HMY
      go_enter Tryz.func181, Tryz.ntmps181
      go_wp2_with fail
      refine (widths_post _ _).mono ?_
      rintro e w1 ⟨AW, rfl, hrW, hBW⟩
      have HRW := Lib.hid hrW; clear hrW
      have HZ0' := Lib.hid ((HZ0.out.alloc _).below hBW (by simp; omega)); clear HZ0
      have HZ1' := Lib.hid (HZ1.out.below hBW (by simp)); clear HZ1
      have HB1 := Lib.hid (below_step (HB0.out.alloc (by simp) _) hBW (by simp; omega)); clear hBW
      have hsz : w.heap.size + 1 < w1.heap.size := HZ1'.out.lt
      go_wp2_with fail
      refine (HF.out _ AW HRW.out).mono ?_
      rintro e w2 ⟨v, rfl, hown, hB⟩
      dsimp only at hown ⊢
      obtain ⟨gb, cap, rfl, hgb, hlt⟩ := hown.form (by simp)
      have d0 : w2.cell? ⟨gb, 0, none⟩ = some (.int .i64 i) := hown.cells (g := gb) rfl 0 _ rfl
      have d1 : w2.cell? ⟨gb, 1, none⟩ = some (.int .i64 m) := hown.cells (g := gb) rfl 1 _ rfl
      have d2 : w2.cell? ⟨gb, 2, none⟩ = some (.int .i64 b) := hown.cells (g := gb) rfl 2 _ rfl
      have hz0 := HZ0'.out.below hB HZ0'.out.lt
      have hz1 := HZ1'.out.below hB HZ1'.out.lt
      have HZ0'' := Lib.hid hz0; clear hz0
      have HZ1'' := Lib.hid hz1
      obtain ⟨c0, c1, c2, c3⟩ := hz1.cells4
      obtain ⟨f0, f1, f2, f3⟩ := hz1.frozen4
      have HB2 := Lib.hid (below_step HB1.out hB HB1.out.size)
      clear hown hB hz1
      have hne1 : gb ≠ w.heap.size + 1 := by omega
      clear HZ0' HZ1' HB1 HRW HB0
      dsimp only [List.length_cons, List.length_nil, Nat.zero_add, Nat.reduceAdd]
      go_wp2_with fail
      go_region
      have hz1 : RecAt ((((w2.setCell ⟨w.heap.size + 1, 0, none⟩ (.int .i64 i)).setCell ⟨w.heap.size + 1, 1, none⟩ (.int .i64 m)).setCell ⟨w.heap.size + 1, 2, none⟩ (.int .i64 b)).setCell ⟨w.heap.size + 1, 3, none⟩ (.string (mkS rest))).drew (w.heap.size + 1) 291 i m b (mkS rest) :=
        (((HZ1''.out.set_ 0 _).set_ 1 _).set_ 2 _).set_ 3 _
      have hz0 : Blk ((((w2.setCell ⟨w.heap.size + 1, 0, none⟩ (.int .i64 i)).setCell ⟨w.heap.size + 1, 1, none⟩ (.int .i64 m)).setCell ⟨w.heap.size + 1, 2, none⟩ (.int .i64 b)).setCell ⟨w.heap.size + 1, 3, none⟩ (.string (mkS rest))).drew w.heap.size 40 (recCells 0 0 0 ⟨#[]⟩) :=
        (((HZ0''.out.far (by simp) _).far (by simp) _).far (by simp) _).far (by simp) _
      have hB3 : Below w.heap.size w ((((w2.setCell ⟨w.heap.size + 1, 0, none⟩ (.int .i64 i)).setCell ⟨w.heap.size + 1, 1, none⟩ (.int .i64 m)).setCell ⟨w.heap.size + 1, 2, none⟩ (.int .i64 b)).setCell ⟨w.heap.size + 1, 3, none⟩ (.string (mkS rest))).drew :=
        ((((HB2.out.setCell (by simp) _).setCell (by simp) _).setCell (by simp) _).setCell (by simp) _).drew
      have H1 := Lib.hid hz1; clear hz1
      have H0 := Lib.hid hz0; clear hz0
      have HB3 := Lib.hid hB3; clear hB3
      have HR := Lib.hid hr; clear hr
      clear HZ0'' HZ1'' HB2
      go_wp2_with fail
      clear c0 c1 c2 c3 f0 f1 f2 f3 d0 d1 d2
      refine (HMY.out _ _ H1.out).mono ?_
      rintro e w4 ⟨rfl, hB4⟩
      have hz1 := H1.out.below hB4 H1.out.lt
      have hz0 := H0.out.below hB4 H0.out.lt
      have HB4 := Lib.hid (below_step HB3.out hB4 HB3.out.size); clear hB4 HB3 H1 H0
      obtain ⟨c0, c1, c2, c3⟩ := hz1.cells4
      obtain ⟨q0, q1, q2, q3⟩ := hz0.cells4
      obtain ⟨f0, f1, f2, f3⟩ := hz0.frozen4
      have HZ := Lib.hid hz0; clear hz0 hz1
      generalize hq : mayB i m b rest = q at *
      cases q with
      | true =>
        have hr := HR.out
        rw [if_pos rfl] at hr
        have HR' := Lib.hid hr; clear hr HR hq
        go_wp2_with fail
        refine ret_blk2 (cs := recCells i m b (mkS rest)) (g := w.heap.size) rfl rfl ?_ Tryz.underlying40 rfl (by kernel_rfl) rfl ?_
        · exact (((HZ.out.set_ 0 _).set_ 1 _).set_ 2 _).set_ 3 _
        · show ReadPost w (readR s.data.toList) _ _
          rw [HR'.out]
          exact ⟨rfl, (((HB4.out.setCell (by simp) _).setCell (by simp) _).setCell (by simp) _).setCell (by simp) _⟩
      | false =>
        have hr := HR.out
        rw [if_neg (by simp)] at hr
        have HR' := Lib.hid hr; clear hr HR hq
        go_wp2_with fail
        refine ret_blk2 (cs := recCells 0 0 0 ⟨#[]⟩) (g := w.heap.size) rfl rfl ?_ Tryz.underlying40 rfl (by kernel_rfl) rfl ?_
        · exact (((HZ.out.set_ 0 _).set_ 1 _).set_ 2 _).set_ 3 _
        · show ReadPost w (readR s.data.toList) _ _
          rw [HR'.out]
          exact ⟨rfl, (((HB4.out.setCell (by simp) _).setCell (by simp) _).setCell (by simp) _).setCell (by simp) _⟩
end Go.Proofs.YtkjihmlighigjaaGreat
