/- The walks of settle: act; super.Head; aims. -/
import Derived.Test.YtllijcnbjbfabaaSettleStandsM02
import Derived.StillTailTactics
import Derived.Test.YtllijcnbjbfabaaSettleStandsM01
import Derived.ProofKit
import Derived.OpenShut
import Derived.ShutString
import Derived.ChangeOld
import Derived.SliceStrings
import Derived.Lib.SmallJoins
import Derived.Deep.Slices
import Derived.Deep.Fields
import Derived.Test.YtllijcnbjbfabaaChecked
import Derived.ChangeSame
namespace Go.Proofs.Ytllijcnbjbfabaa
open Go.RowKit

set_option maxHeartbeats 2000000 in
set_option maxRecDepth 100000 in
theorem act_any (b : Nat) (A : Option Addr) (c : Nat) (cs : List Pr) (s : Sett) (sec : Int) (hd : ByteArray) (w : World) (h1 : 0 ≤ s.1) (h5 : 0 ≤ s.2.2) (h6 : s.2.2 ≤ 3)
    (hb : Blk w b 93 (crs (.slice A cs.length c) s sec hd)) (hr : Reads w w.heap.size 2 A cs.length (prCells cs)) :
    Calls Try.prog 47 #[.pointer (some ⟨b, 0, none⟩)] w fun e w' => e = .returned (.agg (acVals (stAct cs s sec hd))) ∧ Below w.heap.size w w' := by
  obtain ⟨i, l, a⟩ := s
  dsimp only at *
  obtain ⟨c0, c1, c2, c3, c4, c5⟩ := hb.cells6
  dsimp only at c1 c2 c3
  have hbl := hb.lt
  have HZ := Lib.hid (Blk.new w 43 #[.int .i8 0, .int .i64 0, .string ⟨#[]⟩, .int .i64 0])
  have HB := Lib.hid ((Below.refl w.heap.size w).alloc (Nat.le_refl _) (Obj.cells #[.int .i8 0, .int .i64 0, .string ⟨#[]⟩, .int .i64 0] 43))
  have HR := Lib.hid hr; clear hr hb
  have hcase : a = 0 ∨ a = 1 ∨ a = 2 ∨ a = 3 := by omega
  rcases hcase with rfl | rfl | rfl | rfl
  · by_cases hlt : i < cs.length
    · obtain ⟨k, rfl⟩ := Int.eq_ofNat_of_zero_le h1
      have hk : k < cs.length := by omega
      obtain ⟨ad, rfl, had, x0, x1⟩ := reads_pr (HR.out.below HB.out) hk
      have hs : stAct cs ((k : Int), l, 0) sec hd = ⟨3, cs[k].n, cs[k].t, 0⟩ := by
        unfold stAct
        rw [if_pos rfl, if_pos ⟨h1, hlt⟩]
        simp [List.getD_eq_getElem?_getD, hk]
      rw [hs]
      clear hs
      generalize cs[k] = x at *
      obtain ⟨xn, xt⟩ := x
      dsimp only at *
      have d1 : decide ((0 : Int) ≤ (k : Int)) = true := by simp
      have d2 : decide ((k : Int) < (cs.length : Int)) = true := decide_eq_true hlt
      have hbl' : ad.block ≠ w.heap.size := by omega
      go_enter Try.func47, Try.ntmps47
      go_wp2_with fail
      go_quiet (fail)
      go_wp2_with fail
      obtain ⟨W, hW⟩ : ∃ W, W = (w.alloc (Obj.cells #[.int .i8 0, .int .i64 0, .string ⟨#[]⟩, .int .i64 0] 43)).drewN nq := ⟨_, rfl⟩
      rw [← hW]
      have hBW : Below w.heap.size w W := by rw [hW]; exact below_drewN HB.out _
      have hZW : Blk W w.heap.size 43 #[.int .i8 0, .int .i64 0, .string ⟨#[]⟩, .int .i64 0] := by rw [hW]; exact HZ.out.drewN _
      have y0 : W.cell? (ad.add (k * 2)) = some (.int .i64 xn) := by rw [hW]; exact x0
      have y1 : W.cell? ⟨(ad.add (k * 2)).block, (ad.add (k * 2)).off + 1, none⟩ = some (.string xt) := by rw [hW]; exact x1
      have y2 : W.cell? ⟨b, 0, none⟩ = some (.slice (some ad) cs.length c) := (hBW.cell (p := ⟨b, 0, none⟩) hbl).trans c0
      have y3 : W.cell? ⟨b, 1, none⟩ = some (.int .i64 (k : Int)) := (hBW.cell (p := ⟨b, 1, none⟩) hbl).trans c1
      obtain ⟨z0, z1, z2, z3⟩ := hZW.cells4
      obtain ⟨f0, f1, f2, f3⟩ := hZW.frozen4
      have HBW := Lib.hid hBW; clear hBW
      have HZW := Lib.hid hZW; clear hZW hW c0 c1 c2 c3 c4 c5 x0 x1 HZ HB
      go_still_tail 27, (by kernel_rfl)
      change wpList _ _ _ _ _ W.drew
      go_wp2_with fail
      refine ret_blk (cs := #[.int .i8 3, .int .i64 xn, .string xt, .int .i64 0]) (g := w.heap.size) rfl rfl ?_ Try.underlying43 rfl (by kernel_rfl) rfl ⟨rfl, ?_⟩
      · exact ((((((((HZW.out.set_ 0 _).set_ 1 _).set_ 2 _).set_ 3 _).set_ 0 _).set_ 1 _).set_ 2 _).set_ 3 _).drew
      · exact ((((((((HBW.out.setCell (by simp) _).setCell (by simp) _).setCell (by simp) _).setCell (by simp) _).setCell (by simp) _).setCell (by simp) _).setCell (by simp) _).setCell (by simp) _).drew
    · have hs : stAct cs (i, l, 0) sec hd = noAc := by
        unfold stAct
        rw [if_pos rfl, if_neg (by dsimp only; omega)]
      rw [hs]
      have d1 : decide ((0 : Int) ≤ i) = true := decide_eq_true h1
      have d2 : decide (i < (cs.length : Int)) = false := decide_eq_false hlt
      clear hs
      go_enter Try.func47, Try.ntmps47
      go_wp2_with fail
      go_quiet (fail)
      go_wp2_with fail
      refine ret_blk (cs := #[.int .i8 0, .int .i64 0, .string ⟨#[]⟩, .int .i64 0]) (g := w.heap.size) rfl rfl ?_ Try.underlying43 rfl (by kernel_rfl) rfl ⟨rfl, ?_⟩
      · exact (((((HZ.out.drewN _).set_ 0 _).set_ 1 _).set_ 2 _).set_ 3 _)
      · exact (((((below_drewN HB.out _).setCell (by simp) _).setCell (by simp) _).setCell (by simp) _).setCell (by simp) _)
  · have hs : stAct cs (i, l, 1) sec hd = ⟨4, 0, ⟨#[]⟩, 0⟩ := by simp [stAct]
    rw [hs]
    clear hs
    go_enter Try.func47, Try.ntmps47
    go_wp2_with fail
    refine ret_blk (cs := #[.int .i8 4, .int .i64 0, .string ⟨#[]⟩, .int .i64 0]) (g := w.heap.size) rfl rfl ?_ Try.underlying43 rfl (by kernel_rfl) rfl ⟨rfl, ?_⟩
    · exact Blk.new _ _ _
    · exact (Below.refl _ _).alloc (Nat.le_refl _) _
  · have hs : stAct cs (i, l, 2) sec hd = ⟨2, sec, hd, 0⟩ := by simp [stAct]
    rw [hs]
    clear hs
    go_enter Try.func47, Try.ntmps47
    go_wp2_with fail
    go_region
    go_wp2_with fail
    refine ret_blk (cs := #[.int .i8 2, .int .i64 sec, .string hd, .int .i64 0]) (g := w.heap.size) rfl rfl ?_ Try.underlying43 rfl (by kernel_rfl) rfl ⟨rfl, ?_⟩
    · exact (Blk.new _ _ _).drew
    · exact ((Below.refl _ _).alloc (Nat.le_refl _) _).drew
  · have hs : stAct cs (i, l, 3) sec hd = noAc := by simp [stAct]
    rw [hs]
    clear hs
    go_enter Try.func47, Try.ntmps47
    go_wp2_with fail
    refine ret_blk (cs := #[.int .i8 0, .int .i64 0, .string ⟨#[]⟩, .int .i64 0]) (g := w.heap.size) rfl rfl ?_ Try.underlying43 rfl (by kernel_rfl) rfl ⟨rfl, ?_⟩
    · exact HZ.out
    · exact HB.out

/-- a header of a tail -/
def headR (tail : Int) : Bs × Int := makeR 2 [] [6] [tail]
theorem sreads1 {w : World} {g : Nat} {a : Int} (h : Blk w g 3 #[.int .i64 a]) : Reads w w.heap.size 1 (some ⟨g, 0, none⟩) [a].length (icells [a]) := reads_blk h rfl rfl
set_option maxHeartbeats 1000000 in
theorem SHead_any (tail : Int) (w : World) :
    Calls Try.prog 75 #[.int .i64 tail] w fun e w' => MakePost w (headR tail) e w' := by
  have HM := Lib.hid (fun w Aw Al => Make_any 2 ⟨#[]⟩ Aw Al 1 1 [6] [tail] w (by omega) (by decide) (by simp) (by simp))
  unfold MakePost at HM ⊢
  rw [show (⟨#[]⟩ : ByteArray).data.toList = [] from rfl] at HM
  have hh : makeR 2 [] [6] [tail] = headR tail := rfl
  rw [hh] at HM
  clear hh
  generalize headR tail = R at *
  go_enter Try.func75, Try.ntmps75
  go_wp2_with fail
  refine (HM.out _ _ _ ?_ ?_).mono ?_
  · exact ((sreads1 (Blk.new w 3 #[.int .i64 6])).alloc (Nat.le_refl _) _).more (by simp)
  · exact sreads1 (by simpa using Blk.new (w.alloc (Obj.cells #[.int .i64 6] 3)) 3 #[.int .i64 tail])
  rintro e w1 ⟨rfl, hB⟩
  have HB := Lib.hid (below_step (((Below.refl w.heap.size w).alloc (Nat.le_refl _) _).alloc (by simp) _) hB (by simp; omega)); clear hB
  go_wp2_with fail
  go_ret2
  exact ⟨rfl, HB.out⟩
def AimsPost (b : Nat) (v : Value) (s : Sett) (sec : Int) (r : Bs × Int) (w : World) (e : Ending) (w' : World) : Prop :=
  e = .returned (.bool (decide (r.2 = 0 ∧ 0 ≤ sec))) ∧ Blk w' b 93 (crs v s sec (mkS r.1)) ∧ w.grownBy w' (some b)
set_option maxHeartbeats 1000000 in
set_option maxRecDepth 100000 in
theorem aims_any (b : Nat) (v : Value) (s : Sett) (sec0 : Int) (hd0 : ByteArray) (g : Geo) (slot tail : Int) (w : World) (hw1 : -9223372036854775808 ≤ g.wait) (hw2 : g.wait ≤ 9223372036854775807)
    (hb : Blk w b 93 (crs v s sec0 hd0)) :
    Calls Try.prog 44 #[.pointer (some ⟨b, 0, none⟩), g.v, .int .i64 slot, .int .i64 tail] w fun e w' => AimsPost b v s (g.headS slot) (headR tail) w e w' := by
  have HH := Lib.hid (fun w => SHead_any tail w)
  have HG := Lib.hid (fun w => Head_any g slot w hw1 hw2)
  unfold MakePost at HH
  unfold AimsPost
  generalize headR tail = R at *
  generalize g.headS slot = sec at *
  obtain ⟨x, r⟩ := R
  dsimp only at *
  generalize mkS x = X at *
  have HBK := Lib.hid hb
  have hbl := hb.lt
  clear hb
  dsimp only [Geo.v]
  go_enter Try.func44, Try.ntmps44
  go_wp2_with fail
  refine (HH.out _).mono ?_
  rintro e w1 ⟨rfl, hB⟩
  have hg := (Blk.new w 23 (geoCells g)).below hB (by simp)
  have HBK1 := Lib.hid ((HBK.out.alloc (Obj.cells (geoCells g) 23)).below hB (by simp; omega))
  have HB1 := Lib.hid (below_step ((Below.refl w.heap.size w).alloc (Nat.le_refl _) _) hB (by simp)); clear hB
  obtain ⟨q0, q1, q2, q3, q4, q5, q6, q7⟩ := hg.cells8
  clear hg
  go_wp2_with fail
  refine (HG.out _).mono ?_
  rintro e w2 ⟨rfl, hB⟩
  clear q0 q1 q2 q3 q4 q5 q6 q7
  have HBK2 := Lib.hid (HBK1.out.below hB HBK1.out.lt)
  have HB2 := Lib.hid (below_step HB1.out hB HB1.out.size); clear hB HB1 HBK1
  obtain ⟨c0, c1, c2, c3, c4, c5⟩ := HBK2.out.cells6
  obtain ⟨f0, f1, f2, f3, f4, f5⟩ := HBK2.out.frozen6
  have HF1 := Lib.hid ((HBK2.out.set_ 4 (.int .i64 sec)).set_ 5 (.string X))
  have HF2 := Lib.hid (only_setCell (only_setCell (only_of_below HB2.out (some b)) (p := ⟨b, 4, none⟩) (.inl rfl) (.int .i64 sec)) (p := ⟨b, 5, none⟩) (.inl rfl) (.string X))
  by_cases h0 : r = 0
  · subst h0
    have hd : decide ((0 : Int) = 0 ∧ 0 ≤ sec) = decide (0 ≤ sec) := by simp
    have HD := Lib.hid hd
    clear hd
    go_wp2_with fail
    go_ret
    exact ⟨by first | rfl | (rw [HD.out]; rfl), HF1.out, HF2.out⟩
  · have hd : decide (r = 0 ∧ 0 ≤ sec) = false := by simp [h0]
    have h0' : (r == 0) = false := by simp [h0]
    have HD := Lib.hid hd
    clear hd h0
    go_wp2_with fail
    go_ret
    exact ⟨by first | rfl | (rw [HD.out]; rfl), HF1.out, HF2.out⟩
end Go.Proofs.Ytllijcnbjbfabaa

namespace Go.Proofs.Ytllijcnbjbfabaa
open Go.RowKit

abbrev stlV (v : Value) (s : Sett) : Array Value := #[v, .int .i64 s.1, .int .i64 s.2.1, .int .i8 s.2.2]

set_option maxHeartbeats 1000000 in
theorem Over_any (v : Value) (s : Sett) (w : World) :
    Calls Try.prog 32 #[.agg (stlV v s)] w fun e w' => e = .returned (.bool (decide (2 < s.2.2))) ∧ Below w.heap.size w w' := by
  have HE := Lib.hid (fun b w h => end6_any b v s 0 ⟨#[]⟩ w h)
  have HB := Lib.hid (((Below.refl w.heap.size w).alloc (Nat.le_refl _) (Obj.cells (stlV v s) 77)).alloc (by simp) (Obj.cells (crs v s 0 ⟨#[]⟩) 93))
  have HN := Lib.hid (Blk.new (w.alloc (Obj.cells (stlV v s) 77)) 93 (crs v s 0 ⟨#[]⟩))
  rw [show (w.alloc (Obj.cells (stlV v s) 77)).heap.size = w.heap.size + 1 by simp] at HN
  generalize decide (2 < s.2.2) = q at *
  go_enter Try.func32, Try.ntmps32
  go_wp2_with fail
  refine (HE.out (w.heap.size + 1) _ HN.out).mono ?_
  rintro e w1 ⟨rfl, rfl⟩
  go_wp2_with fail
  go_ret
  exact ⟨rfl, HB.out⟩

set_option maxHeartbeats 1000000 in
theorem Left_any (A : Option Addr) (n c : Nat) (s : Sett) (w : World) (hn : n ≤ 1000000) (h1 : 0 ≤ s.1) (h2 : s.1 ≤ 1000000) (h3 : 0 ≤ s.2.1) (h4 : s.2.1 ≤ 1000000) (h5 : 0 ≤ s.2.2) (h6 : s.2.2 ≤ 3) :
    Calls Try.prog 33 #[.agg (stlV (.slice A n c) s)] w fun e w' => e = .returned (.int .i64 (stLeft n s)) ∧ Below w.heap.size w w' := by
  obtain ⟨i, l, a⟩ := s
  dsimp only at *
  have HB := Lib.hid ((Below.refl w.heap.size w).alloc (Nat.le_refl _) (Obj.cells (stlV (.slice A n c) (i, l, a)) 77))
  have hcase : a = 0 ∨ a = 1 ∨ a = 2 ∨ a = 3 := by omega
  rcases hcase with rfl | rfl | rfl | rfl
  · rw [show stLeft n (i, l, 0) = 2 * (n : Int) - i + 1 by simp [stLeft]]
    go_enter Try.func33, Try.ntmps33
    go_wp2_with fail
    go_ret
    exact ⟨rfl, HB.out⟩
  · rw [show stLeft n (i, l, 1) = l + 1 by simp [stLeft]]
    go_enter Try.func33, Try.ntmps33
    go_wp2_with fail
    go_ret
    exact ⟨rfl, HB.out⟩
  · rw [show stLeft n (i, l, 2) = 1 by simp [stLeft]]
    go_enter Try.func33, Try.ntmps33
    go_wp2_with fail
    go_ret
    exact ⟨rfl, HB.out⟩
  · rw [show stLeft n (i, l, 3) = 0 by simp [stLeft]]
    go_enter Try.func33, Try.ntmps33
    go_wp2_with fail
    go_ret
    exact ⟨rfl, HB.out⟩

end Go.Proofs.Ytllijcnbjbfabaa

namespace Go.Proofs.Ytllijcnbjbfabaa
open Go.RowKit

/-- a result that is a struct in a block of its own, and another one -/
theorem ret_cell2 {P : Program} {fn : Func} {p t : Tmp} {ty : TypeId} {R : Ending → World → Prop} {a : Act} {w : World} {g : Nat} {cs : Array Value} {d : TypeDesc} (h : fn.results = #[.cell p ty, .tmp t])
    (hp : a.tmps.getD p undef = .pointer (some ⟨g, 0, none⟩)) (hb : Blk w g ty cs) (hu : P.underlying ty = some d) (hd : (match d with | .struct _ | .array _ _ => true | _ => false) = true) (hi : (P.info? ty).map (·.size) = some cs.size)
    (hdf : a.defers = []) (hR : R (.returned (.tuple #[.agg cs, a.tmps.getD t undef])) w) : bodyPost P fn R .ret a w := by
  refine bodyPost_ret (v := .tuple #[.agg cs, a.tmps.getD t undef]) ?_ hdf hR
  have hp' : a.tmps[p]?.getD undef = .pointer (some ⟨g, 0, none⟩) := by simpa using hp
  simp [results, h, hp', asAddr, run_loadVar_row w g ty ty cs (0, 0) d hb hu hd hi]
end Go.Proofs.Ytllijcnbjbfabaa

namespace Go.Proofs.Ytllijcnbjbfabaa
open Go.RowKit

def wantR (g : Geo) (cs : List Pr) (s : Sett) (slot tail : Int) : Ac := if (headR tail).2 = 0 ∧ 0 ≤ g.headS slot then stAct cs s (g.headS slot) (mkS (headR tail).1) else noAc

def beginS (r : List Pr × Int) : Sett := if r.2 = 0 ∧ r.1.length = 0 then (0, 0, 3) else (0, 0, 0)
def BeginPost (w : World) (r : List Pr × Int) (e : Ending) (w' : World) : Prop :=
  ∃ A c, e = .returned (.tuple #[.agg (stlV (.slice A r.1.length c) (beginS r)), .int .i64 r.2]) ∧ w'.ownsRow w.heap.size 52 2 (.slice A r.1.length c) r.1.length (prCells r.1) ∧ Below w.heap.size w w'
set_option maxHeartbeats 2000000 in
set_option maxRecDepth 100000 in
theorem Begin_any (g : Geo) (A : Option Addr) (c : Nat) (l : List Pr) (w : World) (hw1 : -9223372036854775808 ≤ g.wait) (hw2 : g.wait ≤ 9223372036854775807) (hl : l.length ≤ 100000)
    (hr : Reads w w.heap.size 2 A l.length (prCells l)) :
    Calls Try.prog 31 #[g.v, .slice A l.length c] w fun e w' => BeginPost w (cellsR g l) e w' := by
  have HC := Lib.hid (fun w hr => Cells_any g A c l w hw1 hw2 hl hr)
  have HR := Lib.hid hr; clear hr
  generalize cellsR g l = R at *
  obtain ⟨cl, r⟩ := R
  unfold CellsPost at HC
  dsimp only at HC
  have hB0 : Below w.heap.size w ((w.alloc (Obj.cells (geoCells g) 23)).alloc (Obj.cells #[.slice none 0 0, .int .i64 0, .int .i64 0, .int .i8 0] 77)) := ((Below.refl w.heap.size w).alloc (Nat.le_refl _) _).alloc (by simp) _
  have hS0 : Blk ((w.alloc (Obj.cells (geoCells g) 23)).alloc (Obj.cells #[.slice none 0 0, .int .i64 0, .int .i64 0, .int .i8 0] 77)) (w.heap.size + 1) 77 #[.slice none 0 0, .int .i64 0, .int .i64 0, .int .i8 0] := by
    have h := Blk.new (w.alloc (Obj.cells (geoCells g) 23)) 77 #[.slice none 0 0, .int .i64 0, .int .i64 0, .int .i8 0]
    simpa using h
  have HB0 := Lib.hid hB0; clear hB0
  have HS0 := Lib.hid hS0; clear hS0 hw1 hw2
  dsimp only [Geo.v]
  go_enter Try.func31, Try.ntmps31
  go_wp2_with fail
  refine (HC.out _ ((HR.out.below HB0.out).more HB0.out.size)).mono ?_
  rintro e w1 ⟨v, rfl, hown, hB⟩
  have hs1 := HS0.out.below hB HS0.out.lt
  have HB1 := Lib.hid (below_step HB0.out hB HB0.out.size); clear hB
  obtain ⟨A1, c1, rfl, -, -, -⟩ := own_reads hown
  have HO := Lib.hid (own_base hown (base' := w.heap.size) (by simp; omega)); 
  have HNE := Lib.hid (own_blk_ne hown hs1 (by decide)); clear hown
  obtain ⟨q0, q1, q2, q3⟩ := hs1.cells4
  obtain ⟨f0, f1, f2, f3⟩ := hs1.frozen4
  have HS1 := Lib.hid hs1; clear hs1 HB0 HS0
  by_cases h0 : r = 0
  · subst h0
    by_cases hn : cl.length = 0
    · have hs : beginS (cl, 0) = (0, 0, 3) := by simp [beginS, hn]
      have hcl : ((cl.length : Int) == 0) = true := by simp [hn]
      have HSS := Lib.hid hs; clear hs
      have HN := Lib.hid hn; clear hn
      go_wp2_with fail
      refine ret_cell2 (cs := stlV (.slice A1 cl.length c1) (0, 0, 3)) (g := w.heap.size + 1) rfl rfl (by exact ((((((HS1.out.set_ 0 _).set_ 3 _).set_ 0 _).set_ 1 _).set_ 2 _).set_ 3 _)) Try.underlying77 rfl (by kernel_rfl) rfl ?_
      show BeginPost w (cl, 0) _ _
      exact ⟨A1, c1, by rw [HSS.out]; rfl, (ownsRow_setCell_other (ownsRow_setCell_other (ownsRow_setCell_other (ownsRow_setCell_other (ownsRow_setCell_other (ownsRow_setCell_other HO.out (a := ⟨w.heap.size + 1, 0, none⟩) HNE.out _) (a := ⟨w.heap.size + 1, 3, none⟩) HNE.out _) (a := ⟨w.heap.size + 1, 0, none⟩) HNE.out _) (a := ⟨w.heap.size + 1, 1, none⟩) HNE.out _) (a := ⟨w.heap.size + 1, 2, none⟩) HNE.out _) (a := ⟨w.heap.size + 1, 3, none⟩) HNE.out _), ((((((HB1.out.setCell (by simp) _).setCell (by simp) _).setCell (by simp) _).setCell (by simp) _).setCell (by simp) _).setCell (by simp) _)⟩
    · have hs : beginS (cl, 0) = (0, 0, 0) := by simp only [beginS]; rw [if_neg (by simpa using hn)]
      have hcl : ((cl.length : Int) == 0) = false := by simpa using hn
      have HSS := Lib.hid hs; clear hs hn
      go_wp2_with fail
      refine ret_cell2 (cs := stlV (.slice A1 cl.length c1) (0, 0, 0)) (g := w.heap.size + 1) rfl rfl (by exact (((((HS1.out.set_ 0 _).set_ 0 _).set_ 1 _).set_ 2 _).set_ 3 _)) Try.underlying77 rfl (by kernel_rfl) rfl ?_
      show BeginPost w (cl, 0) _ _
      exact ⟨A1, c1, by rw [HSS.out]; rfl, (ownsRow_setCell_other (ownsRow_setCell_other (ownsRow_setCell_other (ownsRow_setCell_other (ownsRow_setCell_other HO.out (a := ⟨w.heap.size + 1, 0, none⟩) HNE.out _) (a := ⟨w.heap.size + 1, 0, none⟩) HNE.out _) (a := ⟨w.heap.size + 1, 1, none⟩) HNE.out _) (a := ⟨w.heap.size + 1, 2, none⟩) HNE.out _) (a := ⟨w.heap.size + 1, 3, none⟩) HNE.out _), (((((HB1.out.setCell (by simp) _).setCell (by simp) _).setCell (by simp) _).setCell (by simp) _).setCell (by simp) _)⟩
  · have hs : beginS (cl, r) = (0, 0, 0) := by simp [beginS, h0]
    have h0' : (r == 0) = false := by simpa using h0
    have HSS := Lib.hid hs; clear hs h0
    go_wp2_with fail
    refine ret_cell2 (cs := stlV (.slice A1 cl.length c1) (0, 0, 0)) (g := w.heap.size + 1) rfl rfl (by exact (((((HS1.out.set_ 0 _).set_ 0 _).set_ 1 _).set_ 2 _).set_ 3 _)) Try.underlying77 rfl (by kernel_rfl) rfl ?_
    show BeginPost w (cl, r) _ _
    exact ⟨A1, c1, by rw [HSS.out]; rfl, (ownsRow_setCell_other (ownsRow_setCell_other (ownsRow_setCell_other (ownsRow_setCell_other (ownsRow_setCell_other HO.out (a := ⟨w.heap.size + 1, 0, none⟩) HNE.out _) (a := ⟨w.heap.size + 1, 0, none⟩) HNE.out _) (a := ⟨w.heap.size + 1, 1, none⟩) HNE.out _) (a := ⟨w.heap.size + 1, 2, none⟩) HNE.out _) (a := ⟨w.heap.size + 1, 3, none⟩) HNE.out _), (((((HB1.out.setCell (by simp) _).setCell (by simp) _).setCell (by simp) _).setCell (by simp) _).setCell (by simp) _)⟩
end Go.Proofs.Ytllijcnbjbfabaa

namespace Go.Proofs.Ytllijcnbjbfabaa
open Go.RowKit

def actsR (g : Geo) (slot tail : Int) (l : List Pr) : List Ac × Int :=
  if (cellsR g l).2 = 0 ∧ (headR tail).2 = 0 ∧ 0 ≤ g.headS slot then (actsL (cellsR g l).1 (g.headS slot) (mkS (headR tail).1), 0) else ([], 2)
def ActsPost (w : World) (r : List Ac × Int) (e : Ending) (w' : World) : Prop :=
  ∃ v, e = .returned (.tuple #[v, .int .i64 r.2]) ∧ w'.ownsRow w.heap.size 43 4 v r.1.length (acCells r.1) ∧ Below w.heap.size w w'
theorem act_info : (Try.prog.info? 43).map (fun i => (i.zero, i.size, i.bytes)) = some (some (.agg #[.int .i8 0, .int .i64 0, .string ⟨#[]⟩, .int .i64 0]), 4, 40) := by kernel_rfl
theorem cellsR_length (g : Geo) (l : List Pr) : (cellsR g l).1.length ≤ 8 * l.length := by
  unfold cellsR
  split
  · rename_i h
    have hok := Geo.may_ok (mayBk_all h).1
    have h1 := hok.p1
    have h2 := hok.p2
    dsimp only
    rw [cellsL_length, Nat.mul_comm]
    exact Nat.mul_le_mul_right _ (by omega)
  · simp
theorem cellsR_code (g : Geo) (l : List Pr) : (cellsR g l).2 = 0 ∨ (cellsR g l).2 = 2 := by unfold cellsR; split <;> simp
theorem actsL_take (cs : List Pr) (sec : Int) (hd : ByteArray) (j : Nat) (h : j < many cs.length) : (actsL cs sec hd).take (j + 1) = (actsL cs sec hd).take j ++ [stAct cs (stAt cs.length j) sec hd] := by
  rw [List.take_succ_eq_append_getElem (by rw [actsL_length]; exact h), actsL_get]
theorem beginS_at (cs : List Pr) : beginS (cs, 0) = stAt cs.length 0 := by
  unfold beginS stAt
  by_cases h : cs.length = 0
  · rw [if_pos ⟨rfl, h⟩, if_pos ((many_zero _).2 h), h]; rfl
  · rw [if_neg (by simpa using h), if_neg (fun h' => h ((many_zero _).1 h')), if_pos (by omega)]; rfl
theorem many_le (n : Nat) : many n ≤ 2 * n + 1 := by unfold many; split <;> omega

set_option maxHeartbeats 4000000 in
set_option maxRecDepth 100000 in
theorem Acts_any (g : Geo) (A : Option Addr) (c : Nat) (l : List Pr) (slot tail : Int) (w : World) (hw1 : -9223372036854775808 ≤ g.wait) (hw2 : g.wait ≤ 9223372036854775807) (hl : l.length ≤ 100000)
    (hr : Reads w w.heap.size 2 A l.length (prCells l)) :
    Calls Try.prog 13 #[g.v, .int .i64 slot, .int .i64 tail, .slice A l.length c] w fun e w' => ActsPost w (actsR g slot tail l) e w' := by
  obtain ⟨i0, hi0, hz0, hz1, hz2⟩ := info_parts act_info
  have HBG := Lib.hid (fun w hr => Begin_any g A c l w hw1 hw2 hl hr)
  have HR := Lib.hid hr; clear hr
  have hn := cellsR_length g l
  have har : actsR g slot tail l = if (cellsR g l).2 = 0 ∧ (headR tail).2 = 0 ∧ 0 ≤ g.headS slot then (actsL (cellsR g l).1 (g.headS slot) (mkS (headR tail).1), 0) else ([], 2) := rfl
  have HAI := Lib.hid (fun b v s w h => aims_any b v s 0 ⟨#[]⟩ g slot tail w hw1 hw2 h)
  unfold AimsPost at HAI
  generalize cellsR g l = R at *
  obtain ⟨cs, r⟩ := R
  generalize g.headS slot = sec at *
  generalize headR tail = T at *
  obtain ⟨x, rt⟩ := T
  dsimp only at *
  generalize mkS x = X at *
  have HG0 := Lib.hid (Blk.new w 23 (geoCells g))
  have HB0 := Lib.hid ((Below.refl w.heap.size w).alloc (Nat.le_refl _) (Obj.cells (geoCells g) 23))
  clear hw1 hw2
  dsimp only [Geo.v] at *
  by_cases h0 : r = 0
  · subst h0
    have hbs := beginS_at cs
    cases hq : decide (rt = 0 ∧ 0 ≤ sec) with
    | false =>
      rw [if_neg (fun h => absurd h.2 (of_decide_eq_false hq))] at har
      rw [hq] at HAI
      rw [har]
      clear hbs har hq
      go_enter Try.func13, Try.ntmps13
      go_wp2_with fail
      refine (HBG.out _ ((HR.out.below HB0.out).more HB0.out.size)).mono ?_
      rintro e w1 ⟨A1, c1, rfl, hown, hB⟩
      have hg1 := HG0.out.below hB HG0.out.lt
      have HB1 := Lib.hid (below_step HB0.out hB HB0.out.size); clear hB hown
      obtain ⟨q0, q1, q2, q3, q4, q5, q6, q7⟩ := hg1.cells8
      have hgl := hg1.lt
      clear hg1
      dsimp only
      generalize beginS (cs, 0) = S0 at *
      obtain ⟨s0, s1, s2⟩ := S0
      have HNB : Hid (Blk ((w1.alloc (Obj.cells (stlV (.slice A1 cs.length c1) (s0, s1, s2)) 77)).alloc (Obj.cells (crs (.slice A1 cs.length c1) (s0, s1, s2) 0 ⟨#[]⟩) 93)) (w1.heap.size + 1) 93 (crs (.slice A1 cs.length c1) (s0, s1, s2) 0 ⟨#[]⟩)) := by
        have h := Blk.new (w1.alloc (Obj.cells (stlV (.slice A1 cs.length c1) (s0, s1, s2)) 77)) 93 (crs (.slice A1 cs.length c1) (s0, s1, s2) 0 ⟨#[]⟩)
        rw [World.size_alloc] at h; exact h
      have HB2 := Lib.hid ((HB1.out.alloc HB1.out.size (Obj.cells (stlV (.slice A1 cs.length c1) (s0, s1, s2)) 77)).alloc (by have := HB1.out.size; simp; omega) (Obj.cells (crs (.slice A1 cs.length c1) (s0, s1, s2) 0 ⟨#[]⟩) 93))
      dsimp only [stlV]
      go_wp2_with fail
      refine (HAI.out (w1.heap.size + 1) _ _ _ HNB.out).mono ?_
      rintro e w2 ⟨rfl, hb2, hg2⟩
      have HB3 := Lib.hid (HB2.out.grown hg2 HB2.out.size (fun k hk => by injection hk with hk; have := HB1.out.size; omega))
      clear hb2 hg2 q0 q1 q2 q3 q4 q5 q6 q7
      have HP : Hid (ActsPost w ([], 2) (.returned (.tuple #[.slice none 0 0, .int .i64 2])) w2) := ⟨_, rfl, World.ownsRow_nil _ _ _ _, HB3.out⟩
      go_wp2_with fail
      go_ret2
      exact HP.out
    | true =>
      obtain ⟨hrt, hsec⟩ := of_decide_eq_true hq
      rw [if_pos ⟨rfl, hrt, hsec⟩] at har
      rw [hq] at HAI
      rw [har]
      rw [hbs] at *
      clear hbs har hq hrt hsec
      have HBG2 : Hid (∀ w, Reads w w.heap.size 2 A l.length (prCells l) → Calls Try.prog 31 #[g.v, .slice A l.length c] w fun e w' => ∃ A1 c1, e = .returned (.tuple #[.agg (stlV (.slice A1 cs.length c1) (stAt cs.length 0)), .int .i64 0]) ∧ w'.ownsRow w.heap.size 52 2 (.slice A1 cs.length c1) cs.length (prCells cs) ∧ Below w.heap.size w w') := fun w hr =>
        (HBG.out w hr).mono fun e w' ⟨A1, c1, he, h⟩ => ⟨A1, c1, by rw [he]; dsimp only; rw [beginS_at], h⟩
      clear HBG
      have hbd := fun j => stAt_bd cs.length j
      have HBD := Lib.hid hbd; clear hbd
      have HOV := Lib.hid (fun j => stAt_over cs.length j)
      have HNX := Lib.hid (fun j h => stAt_next cs.length j h)
      have HTK := Lib.hid (fun j h => actsL_take cs sec X j h)
      have HLEN := Lib.hid (actsL_length cs sec X)
      have hmany := many_le cs.length
      have hcs : cs.length ≤ 800000 := by omega
      generalize many cs.length = M at *
      dsimp only [Geo.v] at HBG2
      go_enter Try.func13, Try.ntmps13
      go_wp2_with fail
      refine (HBG2.out _ ((HR.out.below HB0.out).more HB0.out.size)).mono ?_
      rintro e w1 ⟨A1, c1, rfl, hown, hB⟩
      have hg1 := HG0.out.below hB HG0.out.lt
      have HB1 := Lib.hid (below_step HB0.out hB HB0.out.size); clear hB
      have HO1 := Lib.hid (own_base hown (base' := w.heap.size) (by simp)); clear hown
      obtain ⟨q0, q1, q2, q3, q4, q5, q6, q7⟩ := hg1.cells8
      have hgl := hg1.lt
      clear hg1
      dsimp only
      have HS0 := Lib.hid (rfl : stAt cs.length 0 = stAt cs.length 0)
      obtain ⟨S0, hS0⟩ : ∃ S0, S0 = stAt cs.length 0 := ⟨_, rfl⟩
      rw [← hS0]
      clear HS0
      have HS0 := Lib.hid hS0; clear hS0
      obtain ⟨s0, s1, s2⟩ := S0
      have HNB : Hid (Blk ((w1.alloc (Obj.cells (stlV (.slice A1 cs.length c1) (s0, s1, s2)) 77)).alloc (Obj.cells (crs (.slice A1 cs.length c1) (s0, s1, s2) 0 ⟨#[]⟩) 93)) (w1.heap.size + 1) 93 (crs (.slice A1 cs.length c1) (s0, s1, s2) 0 ⟨#[]⟩)) := by
        have h := Blk.new (w1.alloc (Obj.cells (stlV (.slice A1 cs.length c1) (s0, s1, s2)) 77)) 93 (crs (.slice A1 cs.length c1) (s0, s1, s2) 0 ⟨#[]⟩)
        rw [World.size_alloc] at h; exact h
      have HB2 := Lib.hid ((HB1.out.alloc HB1.out.size (Obj.cells (stlV (.slice A1 cs.length c1) (s0, s1, s2)) 77)).alloc (by have := HB1.out.size; simp; omega) (Obj.cells (crs (.slice A1 cs.length c1) (s0, s1, s2) 0 ⟨#[]⟩) 93))
      have HO2 := Lib.hid ((HO1.out.alloc (Obj.cells (stlV (.slice A1 cs.length c1) (s0, s1, s2)) 77)).alloc (Obj.cells (crs (.slice A1 cs.length c1) (s0, s1, s2) 0 ⟨#[]⟩) 93))
      dsimp only [stlV]
      go_wp2_with fail
      refine (HAI.out (w1.heap.size + 1) _ _ _ HNB.out).mono ?_
      rintro e w2 ⟨rfl, hb2, hg2⟩
      have HB3 := Lib.hid (HB2.out.grown hg2 HB2.out.size (fun k hk => by injection hk with hk; have := HB1.out.size; omega))
      have HO3 := Lib.hid (HO2.out.kept hg2 (.inr (own_blk_ne HO2.out HNB.out (by decide))))
      rw [HS0.out] at hb2
      have HBK3 := Lib.hid hb2
      have hw1s := HB1.out.size
      clear hb2 hg2 q0 q1 q2 q3 q4 q5 q6 q7 HB2 HO2 HNB HO1 HS0
      go_wp2_with fail
      go_loopg [8] M (fun k out wr => ∃ j : Nat, j ≤ M ∧ k = M - j ∧ wr.ownsRow w.heap.size 43 4 out ((actsL cs sec X).take j).length (acCells ((actsL cs sec X).take j)) ∧ Blk wr (w1.heap.size + 1) 93 (crs (.slice A1 cs.length c1) (stAt cs.length j) sec X) ∧ wr.ownsRow w.heap.size 52 2 (.slice A1 cs.length c1) cs.length (prCells cs) ∧ Below w.heap.size w wr)
      case atStart => exact ⟨0, by omega, rfl, World.ownsRow_nil _ _ _ _, HBK3.out, HO3.out, HB3.out⟩
      case round =>
        clear HBK3 HO3 HB3
        obtain ⟨j, hj, rfl, hown, hbk, hoc, hB⟩ := hrel
        have hsb := HBD.out j
        have hend := fun w h => end6_any (w1.heap.size + 1) (.slice A1 cs.length c1) (stAt cs.length j) sec X w h
        have HOVJ := Lib.hid (HOV.out j)
        by_cases hlt : j < M
        · have hnx := HNX.out j hlt
          rw [decide_eq_false (fun h => by have := HOVJ.out.1 h; omega)] at hend
          have HNXJ := Lib.hid (fun w h => next_any (w1.heap.size + 1) A1 cs.length c1 (stAt cs.length j) sec X w hsb.1 (by omega) hsb.2.2.1 (by omega) hsb.2.2.2.2.1 hsb.2.2.2.2.2 h)
          rw [hnx] at HNXJ
          have HACT := Lib.hid (fun w h hr => act_any (w1.heap.size + 1) A1 c1 cs (stAt cs.length j) sec X w hsb.1 hsb.2.2.2.2.1 hsb.2.2.2.2.2 h hr)
          have HEND := Lib.hid hend; clear hend
          have HTKJ := Lib.hid (HTK.out j hlt)
          have HLT : Hid (((actsL cs sec X).take j).length = j) := by show _ = _; rw [List.length_take, HLEN.out]; omega
          clear hnx hsb
          generalize stAct cs (stAt cs.length j) sec X = AC at *
          generalize stAt cs.length j = SJ at *
          obtain ⟨SJ1, hSJ1⟩ : ∃ S, S = stAt cs.length (j + 1) := ⟨_, rfl⟩
          rw [← hSJ1] at HNXJ
          have HSJ := Lib.hid hSJ1; clear hSJ1
          obtain ⟨ak, asx, ab, akey⟩ := AC
          unfold NextPost at HNXJ
          dsimp only [acVals] at HACT
          have hll := HLT.out
          generalize (actsL cs sec X).take j = LJ at *
          obtain ⟨A8, c8, rfl, -, -, -⟩ := own_reads hown
          have HO := Lib.hid hown; clear hown
          have HBK := Lib.hid hbk; clear hbk
          have HOC := Lib.hid hoc; clear hoc
          have HB := Lib.hid hB; clear hB
          have hLJ : LJ.length ≤ 1700000 := by omega
          clear hll HLT
          go_wp2_with fail
          refine (HEND.out _ HBK.out).mono ?_
          rintro e w3 ⟨rfl, rfl⟩
          go_wp2_with fail
          refine (HACT.out _ HBK.out (by obtain ⟨_, _, e, -, -, h⟩ := own_reads HOC.out; injection e with e1 _ _; subst e1; exact h)).mono ?_
          rintro e w4 ⟨rfl, hB4⟩
          have HO4 := Lib.hid (own_below HO.out hB4)
          have HBK4 := Lib.hid (HBK.out.below hB4 HBK.out.lt)
          have HOC4 := Lib.hid (own_below HOC.out hB4)
          have HB4 := Lib.hid (below_step HB.out hB4 HB.out.size)
          have hsz4 := HB4.out.size
          clear hB4 HO HBK HOC HB
          go_wp2_with (at_builtin; go_loud (refine wpList_append_own _ rfl (.tmp 36) (.tmp 39) 44 rfl w.heap.size 43 i0 _ 4 40 Try.underlying44 hi0 hz0 hz1 hz2 rfl (by decide) (.slice A8 LJ.length c8) LJ.length (acCells LJ) (by rfl) (HO4.out.alloc _) ⟨w4.heap.size, 0, none⟩ 1 1 (acCell ⟨ak, asx, ab, akey⟩) (by rfl) (by rfl) (blk_news (Blk.new w4 43 #[.int .i8 ak, .int .i64 asx, .string ab, .int .i64 akey]) rfl) (acCell_one _) (by unfold maxLen; omega) (by omega) (by simp; omega) ?_); intro v5 w5 hown5 hg5 _)
          have hBK5 := (HBK4.out.alloc (Obj.cells #[.int .i8 ak, .int .i64 asx, .string ab, .int .i64 akey] 43)).grown hg5 (Ne.symm (own_blk_ne HO4.out HBK4.out (by decide)))
          have hOC5 := (HOC4.out.alloc (Obj.cells #[.int .i8 ak, .int .i64 asx, .string ab, .int .i64 akey] 43)).kept hg5 (own_own_ne HOC4.out HO4.out (by decide))
          have hB5 := below_own (HB4.out.alloc HB4.out.size (Obj.cells #[.int .i8 ak, .int .i64 asx, .string ab, .int .i64 akey] 43)) (HO4.out.alloc _) hg5 (by simp; omega)
          have hO5 : w5.ownsRow w.heap.size 43 4 v5 (LJ ++ [Ac.mk ak asx ab akey]).length (acCells (LJ ++ [Ac.mk ak asx ab akey])) := by rw [acCells_snoc, List.length_append]; exact hown5
          have HBK5 := Lib.hid hBK5; clear hBK5
          have HOC5 := Lib.hid hOC5; clear hOC5
          have HB5 := Lib.hid hB5; clear hB5
          have HO5 := Lib.hid hO5; clear hO5 hown5 hg5 HO4 HBK4 HOC4 HB4
          go_wp2_with fail
          refine (HNXJ.out _ HBK5.out).mono ?_
          rintro e w6 ⟨rfl, hb6, hg6⟩
          have hO6 := HO5.out.kept hg6 (.inr (own_blk_ne HO5.out HBK5.out (by decide)))
          have hOC6 := HOC5.out.kept hg6 (.inr (own_blk_ne HOC5.out HBK5.out (by decide)))
          have hB6 := HB5.out.grown hg6 HB5.out.size (fun k hk => by injection hk with hk; omega)
          rw [← HTKJ.out] at hO6
          have HREL : Hid (∃ j' : Nat, j' ≤ M ∧ M - (j + 1) = M - j' ∧ w6.ownsRow w.heap.size 43 4 v5 ((actsL cs sec X).take j').length (acCells ((actsL cs sec X).take j')) ∧ Blk w6 (w1.heap.size + 1) 93 (crs (.slice A1 cs.length c1) (stAt cs.length j') sec X) ∧ w6.ownsRow w.heap.size 52 2 (.slice A1 cs.length c1) cs.length (prCells cs) ∧ Below w.heap.size w w6) :=
            ⟨j + 1, by omega, rfl, hO6, by rw [← HSJ.out]; exact hb6, hOC6, hB6⟩
          clear hO6 hOC6 hB6 hb6 hg6 HBK5 HOC5 HB5 HO5
          go_wp2_with fail
          go_roundg (M - (j + 1))
          case rel => exact HREL.out
          case measure => omega
        · rw [decide_eq_true (HOVJ.out.2 (by omega))] at hend
          have HEND := Lib.hid hend; clear hend
          have hall : (actsL cs sec X).take j = actsL cs sec X := List.take_of_length_le (by rw [HLEN.out]; omega)
          rw [hall] at hown
          have HP : Hid (ActsPost w (actsL cs sec X, 0) (.returned (.tuple #[u8, .int .i64 0])) wr) := ⟨_, rfl, hown, hB⟩
          have HBK := Lib.hid hbk
          clear hall hown hbk hoc hB hsb
          go_wp2_with fail
          refine (HEND.out _ HBK.out).mono ?_
          rintro e w3 ⟨rfl, rfl⟩
          go_wp2_with fail
          go_ret2
          exact HP.out
  · rw [if_neg (fun h => h0 h.1)] at har
    rw [har]
    have h0' : (r == 0) = false := by simpa using h0
    have h0'' : (r != 0) = true := by simpa using h0
    clear har h0
    go_enter Try.func13, Try.ntmps13
    go_wp2_with fail
    refine (HBG.out _ ((HR.out.below HB0.out).more HB0.out.size)).mono ?_
    rintro e w1 ⟨A1, c1, rfl, hown, hB⟩
    have HB1 := Lib.hid (below_step HB0.out hB HB0.out.size); clear hB hown
    dsimp only
    generalize beginS (cs, r) = S0 at *
    obtain ⟨s0, s1, s2⟩ := S0
    have HB2 := Lib.hid ((HB1.out.alloc HB1.out.size (Obj.cells (stlV (.slice A1 cs.length c1) (s0, s1, s2)) 77)).alloc (by have := HB1.out.size; simp; omega) (Obj.cells (crs (.slice A1 cs.length c1) (s0, s1, s2) 0 ⟨#[]⟩) 93))
    dsimp only [stlV]
    go_wp2_with fail
    go_ret2
    exact ⟨_, rfl, World.ownsRow_nil _ _ _ _, HB2.out⟩
end Go.Proofs.Ytllijcnbjbfabaa

namespace Go.Proofs.Ytllijcnbjbfabaa
open Go.RowKit

def GreatPost (l : List Pr) (w : World) (e : Ending) (w' : World) : Prop := ∃ q : Bool, e = .returned (.bool q) ∧ (q = false → l.length ≤ 70) ∧ w = w'
set_option maxHeartbeats 1000000 in
theorem Great_any (A : Option Addr) (c : Nat) (l : List Pr) (w : World) (hl : l.length ≤ maxLen) (hr : Reads w w.heap.size 2 A l.length (prCells l)) :
    Calls Try.prog 7 #[.slice A l.length c] w fun e w' => GreatPost l w e w' := by
  unfold maxLen at hl
  have HR := Lib.hid hr; clear hr
  go_enter Try.func7, Try.ntmps7
  go_wp2_with fail
  go_loopg [3] 71 (fun k i wr => ∃ j : Nat, j ≤ l.length ∧ j ≤ 71 ∧ k = 71 - j ∧ i = .int .i64 j ∧ wr = w)
  case atStart => exact ⟨0, by omega, by omega, rfl, rfl, rfl⟩
  case round =>
    obtain ⟨j, hj, hj2, rfl, rfl, rfl⟩ := hrel
    by_cases hlt : j < l.length
    · by_cases h70 : j ≤ 70
      · obtain ⟨ad, rfl, had, x0, x1⟩ := reads_pr HR.out hlt
        generalize l[j] = x at *
        obtain ⟨xn, xt⟩ := x
        dsimp only at x0 x1
        have h70' : (j : Int) ≤ 70 := by omega
        by_cases hs : (5000 : Int) < (xt.size : Int)
        · go_wp2_with fail
          go_ret
          exact ⟨true, rfl, (fun h => by cases h), rfl⟩
        · go_wp2_with fail
          go_roundg (71 - (j + 1))
          case rel => exact ⟨j + 1, by omega, by omega, rfl, by go_num, rfl⟩
          case measure => omega
      · have h70' : ¬ (j : Int) ≤ 70 := by omega
        have h71 : (70 : Int) < (l.length : Int) := by omega
        go_wp2_with fail
        go_ret
        exact ⟨true, rfl, (fun h => by cases h), rfl⟩
    · by_cases h71 : (70 : Int) < (l.length : Int)
      · go_wp2_with fail
        go_ret
        exact ⟨true, rfl, (fun h => by cases h), rfl⟩
      · have h72 : l.length ≤ 70 := by omega
        go_wp2_with fail
        go_ret
        exact ⟨false, rfl, (fun _ => h72), rfl⟩

def smallG : Geo := ⟨1, 1, 3, 2, 9, 8, 1, 2⟩
theorem small_any (w : World) : Calls Try.prog 30 #[] w fun e w' => e = .returned smallG.v ∧ Below w.heap.size w w' := by
  go_enter Try.func30, Try.ntmps30
  go_wp2_with fail
  refine ret_blk (cs := geoCells smallG) (g := w.heap.size) rfl rfl (by exact Blk.new _ _ _) Try.underlying23 rfl (by kernel_rfl) rfl ⟨rfl, (Below.refl _ _).alloc (Nat.le_refl _) _⟩

theorem sfits6 {n : Int} (h1 : 0 ≤ n) (h2 : n ≤ 1099511627776) : fitsB n 6 = true := decide_eq_true ⟨by omega, by omega, h1, by simp [mostW]; omega⟩
theorem head_ok {n : Int} (h1 : 0 ≤ n) (h2 : n ≤ 1099511627776) : ∃ x, headR n = (x, 0) ∧ sealB 2 (leBytes 6 n.toNat) = some x ∧ x.length = 13 := by
  have hf : fieldsB [] [6] [n] = some (leBytes 6 n.toNat) := by
    simp only [fieldsB, List.nil_append]
    rw [if_pos ⟨sfits6 h1 h2, by rw [leBytes_length]; decide⟩]
    rfl
  have hs : sealB 2 (leBytes 6 n.toNat) = some _ := sealB_some (by omega) (by rw [leBytes_length]; decide)
  have hlen := (sealB_len hs).2.2
  refine ⟨_, ?_, hs, by rw [hlen, leBytes_length]⟩
  rw [headR, makeR, hf]
  show sealR 2 (leBytes 6 n.toNat ++ []) = _
  rw [List.append_nil, sealR, hs]
theorem small_cells : cellsR smallG [⟨1, ⟨#[97, 98]⟩⟩] = ([⟨23, ⟨#[97, 98]⟩⟩, ⟨24, ⟨#[]⟩⟩], 0) := by
  have h : mayBk smallG [⟨1, ⟨#[97, 98]⟩⟩] = true := by decide
  rw [cellsR, if_pos h]
  rfl
theorem small_none : cellsR smallG [] = ([], 0) := by
  have h : mayBk smallG [] = true := by decide
  rw [cellsR, if_pos h]
  rfl
theorem small_acts : ∃ s X, actsR smallG 0 5 [⟨1, ⟨#[97, 98]⟩⟩] = ([⟨3, 23, ⟨#[97, 98]⟩, 0⟩, ⟨3, 24, ⟨#[]⟩, 0⟩, ⟨4, 0, ⟨#[]⟩, 0⟩, ⟨4, 0, ⟨#[]⟩, 0⟩, ⟨2, s, X, 0⟩], 0) := by
  obtain ⟨x, hx, _, _⟩ := head_ok (n := 5) (by omega) (by omega)
  refine ⟨smallG.headS 0, mkS x, ?_⟩
  rw [actsR, small_cells, hx, if_pos ⟨rfl, rfl, by decide⟩]
  rfl
theorem reads_pr1 {w : World} {g : Nat} {n : Int} {t : ByteArray} {T : TypeId} (h : Blk w g T #[.int .i64 n, .string t]) : Reads w w.heap.size 2 (some ⟨g, 0, none⟩) [Pr.mk n t].length (prCells [Pr.mk n t]) :=
  ⟨rfl, fun _ => ⟨_, rfl, h.lt, blk_news h rfl⟩⟩

set_option maxHeartbeats 2000000 in
set_option maxRecDepth 100000 in
theorem wakes20 (w : World) : Calls Try.prog 9 #[] w fun e w' => e = .returned (.bool true) ∧ Below w.heap.size w w' := by
  obtain ⟨s, X, hac⟩ := small_acts
  have hA := fun w A r => Acts_any smallG A 1 [⟨1, ⟨#[97, 98]⟩⟩] 0 5 w (by decide) (by decide) (by simp) r
  rw [hac] at hA
  have hBg := fun w => Begin_any smallG none 0 [] w (by decide) (by decide) (by simp) Reads.none_
  rw [small_none] at hBg
  unfold ActsPost at hA
  unfold BeginPost at hBg
  rw [show beginS ([], 0) = (0, 0, 3) from by simp [beginS]] at hBg
  have HA := Lib.hid hA; clear hA hac
  have HBg := Lib.hid hBg; clear hBg
  go_enter Try.func9, Try.ntmps9
  go_wp2_with fail
  refine (small_any _).mono ?_
  rintro e w1 ⟨rfl, hB⟩
  have HB1 := Lib.hid hB; clear hB
  go_wp2_with fail
  refine (HA.out _ _ (reads_pr1 (Blk.new w1 _ _))).mono ?_
  rintro e w2 ⟨v, rfl, hown, hB⟩
  have HB2 := Lib.hid (below_step (HB1.out.alloc HB1.out.size _) hB (by have := HB1.out.size; simp; omega)); clear hB HB1
  obtain ⟨ga, ca, rfl, hga, hgl⟩ := hown.form (by simp)
  have HO := Lib.hid hown; clear hown
  go_wp2_with fail
  refine (small_any _).mono ?_
  rintro e w3 ⟨rfl, hB⟩
  have HO3 := Lib.hid (own_below HO.out hB)
  have HB3 := Lib.hid (below_step HB2.out hB HB2.out.size); clear hB HB2 HO
  go_wp2_with fail
  refine (HBg.out _).mono ?_
  rintro e w4 ⟨A4, c4, rfl, hown4, hB⟩
  have HO4 := Lib.hid (own_below HO3.out hB)
  have HB4 := Lib.hid (below_step HB3.out hB HB3.out.size); clear hB HB3 HO3 hown4
  have k0 : w4.cell? ⟨ga, 0, none⟩ = some (.int .i8 3) := HO4.out.cells (g := ga) rfl 0 _ rfl
  have k1 : w4.cell? ⟨ga, 2, none⟩ = some (.string ⟨#[97, 98]⟩) := HO4.out.cells (g := ga) rfl 2 _ rfl
  have k2 : w4.cell? ⟨ga, 8, none⟩ = some (.int .i8 4) := HO4.out.cells (g := ga) rfl 8 _ rfl
  have k3 : w4.cell? ⟨ga, 16, none⟩ = some (.int .i8 2) := HO4.out.cells (g := ga) rfl 16 _ rfl
  dsimp only [stlV, List.length_nil, List.length_cons, Nat.zero_add, Nat.reduceAdd]
  have hlt4 : ga < w4.heap.size := (HO4.out.lt ga rfl).2
  go_wp2_with fail
  refine (Over_any (.slice A4 0 c4) (0, 0, 3) _).mono ?_
  rintro e w5 ⟨rfl, hB⟩
  have hz := (Blk.new w4 77 #[.slice A4 0 c4, .int .i64 0, .int .i64 0, .int .i8 3]).below hB (by simp)
  have HB5 := Lib.hid (below_step (HB4.out.alloc HB4.out.size _) hB (by have := HB4.out.size; simp; omega)); clear hB HB4
  obtain ⟨p0, p1, p2, p3⟩ := hz.cells4
  clear hz k0 k1 k2 k3
  dsimp only
  go_wp2_with fail
  refine (Left_any A4 0 c4 (0, 0, 3) _ (by omega) (by simp) (by simp) (by simp) (by simp) (by simp) (by simp)).mono ?_
  rw [show stLeft 0 (0, 0, 3) = 0 from by simp [stLeft]]
  rintro e w6 ⟨rfl, hB⟩
  have HB6 := Lib.hid (below_step HB5.out hB HB5.out.size); clear hB HB5
  go_wp2_with fail
  go_ret
  exact ⟨rfl, HB6.out⟩
end Go.Proofs.Ytllijcnbjbfabaa

namespace Go.Proofs.Ytllijcnbjbfabaa
open Go.RowKit
set_option linter.unusedSimpArgs false
set_option linter.unusedVariables false

theorem fieldsB_some (b : Bs) (ws l : List Int) (hl : ws.length = l.length) (hf : ∀ i (h : i < ws.length) (h' : i < l.length), fitsB l[i] ws[i] = true) (hs : b.length + 6 * ws.length ≤ 505) :
    ∃ y, fieldsB b ws l = some y ∧ y.length ≤ b.length + 6 * ws.length := by
  induction ws generalizing b l with
  | nil =>
    cases l with
    | nil => exact ⟨b, rfl, by simp⟩
    | cons n l => simp at hl
  | cons w ws ih =>
    cases l with
    | nil => simp at hl
    | cons n l =>
      have h0 := hf 0 (by simp) (by simp)
      simp only [List.getElem_cons_zero] at h0
      have hw := of_decide_eq_true h0
      simp only [List.length_cons] at hs hl ⊢
      have hlen : (b ++ leBytes w.toNat n.toNat).length = b.length + w.toNat := by rw [List.length_append, leBytes_length]
      obtain ⟨y, h1, h2⟩ := ih (b ++ leBytes w.toNat n.toNat) l (by omega) (fun i h h' => by
        have := hf (i + 1) (by simpa using h) (by simpa using h')
        simpa using this) (by rw [hlen]; omega)
      refine ⟨y, ?_, by rw [hlen] at h2; omega⟩
      rw [fieldsB, if_pos ⟨h0, by rw [hlen]; omega⟩, h1]
theorem makeR_ok {k : Int} {ws l : List Int} (hk : 1 ≤ k) (hl : ws.length = l.length) (hf : ∀ i (h : i < ws.length) (h' : i < l.length), fitsB l[i] ws[i] = true) (hs : 6 * ws.length ≤ 505) : ∃ x, makeR k [] ws l = (x, 0) ∧ x.length ≤ 512 := by
  obtain ⟨y, h1, h2⟩ := fieldsB_some [] ws l hl hf (by simpa using hs)
  simp only [List.length_nil, Nat.zero_add] at h2
  have h3 : sealB k y = some _ := sealB_some hk (by omega)
  have hlen := (sealB_len h3).2.2
  refine ⟨_, ?_, by rw [hlen]; omega⟩
  rw [makeR, h1]
  show sealR k (y ++ []) = _
  rw [List.append_nil, sealR, h3]
theorem fits_of {n : Int} {w : Nat} (h1 : 1 ≤ w) (h6 : w ≤ 6) (h0 : 0 ≤ n) (h : n < 256 ^ w) (h40 : n ≤ 1099511627776) : fitsB n w = true := decide_eq_true ⟨by omega, by omega, h0, by
  rw [Int.toNat_natCast]
  unfold mostW
  have : ((256 ^ w : Nat) : Int) = 256 ^ w := by simp
  omega⟩
abbrev geoL (g : Geo) : List Int := [g.nodes, g.slots, g.blocks, g.per, g.journal, g.log, g.lease, g.wait]
abbrev geoW : List Int := [2, 2, 2, 2, 2, 2, 4, 4]
theorem bytes_ok {g : Geo} (h : g.OK) : ∃ x, makeR 1 [] geoW (geoL g) = (x, 0) ∧ x.length ≤ 512 := by
  obtain ⟨h1, h2, h3, h4, h5, h6, h7, h8, h9, h10, h11, h12, h13, h14, h15⟩ := h
  refine makeR_ok (by omega) rfl (fun i hi hi' => ?_) (by decide)
  match i, hi with
  | 0, _ => exact fits_of (w := 2) (by omega) (by omega) (by simp; omega) (by simp; omega) (by simp; omega)
  | 1, _ => exact fits_of (w := 2) (by omega) (by omega) (by simp; omega) (by simp; omega) (by simp; omega)
  | 2, _ => exact fits_of (w := 2) (by omega) (by omega) (by simp; omega) (by simp; omega) (by simp; omega)
  | 3, _ => exact fits_of (w := 2) (by omega) (by omega) (by simp; omega) (by simp; omega) (by simp; omega)
  | 4, _ => exact fits_of (w := 2) (by omega) (by omega) (by simp; omega) (by simp; omega) (by simp; omega)
  | 5, _ => exact fits_of (w := 2) (by omega) (by omega) (by simp; omega) (by simp; omega) (by simp; omega)
  | 6, _ => exact fits_of (w := 4) (by omega) (by omega) (by simp; omega) (by simp; omega) (by simp; omega)
  | 7, _ => exact fits_of (w := 4) (by omega) (by omega) (by simp; omega) (by simp; omega) (by simp; omega)
theorem head_make {n : Int} (h1 : 0 ≤ n) (h2 : n ≤ 1099511627776) : ∃ x, makeR 2 [] [6] [n] = (x, 0) ∧ x.length ≤ 512 := by
  refine makeR_ok (by omega) rfl (fun i hi hi' => ?_) (by decide)
  match i, hi with
  | 0, _ => exact fits_of (w := 6) (by omega) (by omega) (by simp; omega) (by simp; omega) (by simp; omega)

/-- what stands on a device at first: the superblock, headers in so many slots -/
def heads (g : Geo) (top hd : ByteArray) : Nat → List ByteArray
  | 0 => (List.replicate g.total.toNat ⟨#[]⟩).set 0 top
  | j + 1 => (heads g top hd j).set (g.headS j).toNat hd
theorem heads_len (g : Geo) (top hd : ByteArray) (j : Nat) : (heads g top hd j).length = g.total.toNat := by
  induction j with
  | zero => simp [heads]
  | succ j ih => simp only [heads, List.length_set]; exact ih
theorem heads_size {g : Geo} {top hd : ByteArray} (h1 : top.size ≤ 512) (h2 : hd.size ≤ 512) (j : Nat) : ∀ x ∈ heads g top hd j, x.size ≤ 512 := by
  induction j with
  | zero =>
    intro x hx
    rcases List.mem_or_eq_of_mem_set hx with h | rfl
    · have := List.eq_of_mem_replicate h
      subst this
      show (0 : Nat) ≤ 512
      omega
    · exact h1
  | succ j ih =>
    intro x hx
    rcases List.mem_or_eq_of_mem_set hx with h | rfl
    · exact ih x h
    · exact h2
/-- blocks that may be stand in sectors one behind the other -/
theorem dataS_of {g : Geo} (h : g.OK) {n k : Int} (h1 : 0 ≤ n) (h2 : n < g.blocks) (h3 : 0 ≤ k) (h4 : k < g.per) : g.dataS n k = g.atD + n * g.per + k := by
  unfold Geo.dataS Geo.atD
  rw [if_pos ⟨Geo.ok_may h, h1, h2, h3, h4⟩]
theorem cellsOf_get {g : Geo} (x : Pr) (i : Nat) (hi : i < (cellsOf g x).length) : (cellsOf g x)[i] = ⟨g.dataS x.n (i : Int), pieceB x.t i⟩ := by simp [cellsOf]
theorem cells_inc {g : Geo} {l : List Pr} (h : mayBk g l = true) : (cellsL g l).Pairwise (fun a b => a.n < b.n) := by
  obtain ⟨hm, ha⟩ := mayBk_all h
  have hok := Geo.may_ok hm
  have hp1 := hok.p1
  have hp : l.Pairwise (fun a b => a.n < b.n) := by
    unfold mayBk at h
    simp only [Bool.and_eq_true] at h
    have h2 := h.2
    clear h ha
    generalize (-1 : Int) = x at h2
    induction l generalizing x with
    | nil => exact List.Pairwise.nil
    | cons y l ih =>
      simp only [upFrom, Bool.and_eq_true, decide_eq_true_eq] at h2
      refine List.Pairwise.cons (fun z hz => (upFrom_all h2.2 z hz).1) (ih _ h2.2)
  unfold cellsL
  rw [List.flatMap_def, List.pairwise_flatten]
  refine ⟨fun m hm => ?_, ?_⟩
  · obtain ⟨x, hx, rfl⟩ := List.mem_map.1 hm
    have hxb := ha x hx
    rw [List.pairwise_iff_getElem]
    intro i j hi hj hij
    rw [cellsOf_get, cellsOf_get]
    rw [cellsOf_length] at hi hj
    dsimp only
    rw [dataS_of hok hxb.1 hxb.2.1 (by omega) (by omega), dataS_of hok hxb.1 hxb.2.1 (by omega) (by omega)]
    omega
  · rw [List.pairwise_map]
    refine List.Pairwise.imp_of_mem (fun {a b} hha hhb hab => ?_) hp
    have hxa := ha a hha
    have hxb := ha b hhb
    intro c hc d hd
    obtain ⟨i, hi, rfl⟩ := List.getElem_of_mem hc
    obtain ⟨j, hj, rfl⟩ := List.getElem_of_mem hd
    rw [cellsOf_get, cellsOf_get]
    rw [cellsOf_length] at hi hj
    dsimp only
    rw [dataS_of hok hxa.1 hxa.2.1 (by omega) (by omega), dataS_of hok hxb.1 hxb.2.1 (by omega) (by omega)]
    have h1 : (a.n + 1) * g.per ≤ b.n * g.per := Int.mul_le_mul_of_nonneg_right (by omega) (by omega)
    rw [Int.add_mul] at h1
    omega
theorem cells_in {g : Geo} {l : List Pr} (h : mayBk g l = true) : ∀ c ∈ cellsL g l, g.atD ≤ c.n ∧ c.n < g.total ∧ c.t.size ≤ 256 := by
  obtain ⟨hm, ha⟩ := mayBk_all h
  have hok := Geo.may_ok hm
  have hp1 := hok.p1
  intro c hc
  obtain ⟨x, hx, hc⟩ := List.mem_flatMap.1 hc
  obtain ⟨i, hi, rfl⟩ := List.getElem_of_mem hc
  rw [cellsOf_get]
  rw [cellsOf_length] at hi
  have hxb := ha x hx
  dsimp only
  rw [dataS_of hok hxb.1 hxb.2.1 (by omega) (by omega)]
  have h0 : 0 ≤ x.n * g.per := Int.mul_nonneg hxb.1 (by omega)
  have h1 : (x.n + 1) * g.per ≤ g.blocks * g.per := Int.mul_le_mul_of_nonneg_right (by omega) (by omega)
  rw [Int.add_mul] at h1
  refine ⟨by omega, ?_, pieceB_size _ _⟩
  unfold Geo.total
  unfold Geo.atD
  omega
theorem headS_in {g : Geo} (h : g.OK) {i : Int} (h1 : 0 ≤ i) (h2 : i < g.slots) : 0 < g.headS i ∧ g.headS i < g.atD := by
  unfold Geo.headS Geo.atD
  rw [if_pos ⟨Geo.ok_may h, h1, h2⟩]
  have hn := h.n1
  have hj := h.j1
  have hp := h.p1
  have hl := h.l1
  have hs := h.s1
  have h0 : 0 ≤ i * (1 + g.journal) := Int.mul_nonneg h1 (by omega)
  have h3 : (i + 1) * (1 + g.journal) ≤ g.slots * (1 + g.journal) := Int.mul_le_mul_of_nonneg_right (by omega) (by omega)
  rw [Int.add_mul] at h3
  omega
theorem total_bd {g : Geo} (h : g.OK) : g.atD ≤ g.total ∧ g.total ≤ 100000 := by
  have hsj := h.sj
  have hn2 := h.n2
  have hl2 := h.l2
  have hb := mul_bd (a := g.blocks) (b := g.per) (A := 64) (B := 8) (by have := h.b1; omega) h.b2 (by have := h.p1; omega) h.p2
  unfold Geo.atD Geo.total
  omega
end Go.Proofs.Ytllijcnbjbfabaa

namespace Go.Proofs.Ytllijcnbjbfabaa
open Go.ChangeShapes Go.WideShapes Go.ChangeAt Go.RowKit Go.Joins Go.Deep
open Go.ChangeMaps (open_string shut_string)

theorem wf_i8 {n : Int} (h : (Lit.int .i8 n).wf = true) : -128 ≤ n ∧ n ≤ 127 := by
  have h1 : IntKind.i8.min = -128 := rfl
  have h2 : IntKind.i8.max = 127 := rfl
  simp only [Lit.wf, Bool.and_eq_true, decide_eq_true_eq] at h
  omega
theorem wf_u32 {n : Int} (h : (Lit.int .u32 n).wf = true) : 0 ≤ n ∧ n < 4294967296 := by
  have h1 : IntKind.u32.min = 0 := rfl
  have h2 : IntKind.u32.max = 4294967295 := rfl
  simp only [Lit.wf, Bool.and_eq_true, decide_eq_true_eq] at h
  omega
theorem wf_i64 {n : Int} (h : (Lit.int .i64 n).wf = true) : -9223372036854775808 ≤ n ∧ n ≤ 9223372036854775807 := by
  have h1 : IntKind.i64.min = -9223372036854775808 := rfl
  have h2 : IntKind.i64.max = 9223372036854775807 := rfl
  simp only [Lit.wf, Bool.and_eq_true, decide_eq_true_eq] at h
  omega

def IsInts (W : World) (A : Option Addr) (zs : List Int) (c : Nat) : Prop :=
  Reads W W.heap.size 1 A zs.length (icells zs) ∧ (∀ n ∈ zs, (Lit.int .i64 n).wf = true) ∧ zs.length ≤ c ∧ c ≤ maxLen
def scells (l : List ByteArray) : List Value := l.map Value.string
theorem scells_length (l : List ByteArray) : (scells l).length = l.length := by simp [scells]
theorem scells_get (l : List ByteArray) (k : Nat) (h : k < l.length) : (scells l)[k]? = some (.string l[k]) := by simp [scells, h]
def IsStrs (W : World) (A : Option Addr) (zs : List ByteArray) (c : Nat) : Prop :=
  Reads W W.heap.size 1 A zs.length (scells zs) ∧ (∀ s ∈ zs, s.size ≤ maxLen) ∧ zs.length ≤ c ∧ c ≤ maxLen

section
variable {H : Type} {enc : TypeId × Value → H} {P : Program} {w : World} {base : Nat} {spare : Nat → Bool} {held : Bool}

theorem reads_of_cells {α : Type} {x : Addr} {zs : List α} {len : Nat} {f : α → Value} {d : α} (hl : len ≤ zs.length) (hcell : ∀ i, i < zs.length → w.cell? (x.add i) = some (f (zs.getD i d))) :
    Reads w w.heap.size 1 (some x) (zs.take len).length ((zs.take len).map f) := by
  refine ⟨by simp, fun hn => ⟨x, rfl, ?_, fun j u hu => ?_⟩⟩
  · have h0 := hcell 0 (by simp at hn; omega)
    have := World.block_lt_of_cell? _ _ h0
    rwa [block_of_add] at this
  · rw [List.getElem?_map] at hu
    have hj : j < (zs.take len).length := by
      rcases Nat.lt_or_ge j (zs.take len).length with h | h
      · exact h
      · rw [List.getElem?_eq_none h] at hu; cases hu
    have hj2 : j < zs.length := by simp at hj; omega
    rw [hcell j hj2]
    rw [List.getElem?_eq_getElem hj] at hu
    simp only [Option.map_some, List.getElem_take] at hu
    rw [← hu]
    simp [List.getD_eq_getElem?_getD, List.getElem?_eq_getElem hj2]

theorem open_ints_arg {r : Reach} {b0 : Nat} {t e : TypeId} {v : Value} {d : DataW H} {p : List MemPlace} (ht : P.underlying t = some (.slice e)) (he : P.underlying e = some (.int .i64)) (hc : P.cellsOf e = 1)
    (hv : Value.okWide P w r b0 t v) (h : DataW.Trod enc P w base (fun _ => true) held t v d p) : ∃ (A : Option Addr) (zs : List Int) (c : Nat), v = .slice A zs.length c ∧ IsInts w A zs c := by
  obtain ⟨a, len, cap, rfl⟩ := okWide_slice ht hv
  obtain ⟨fuel, hf⟩ := h
  rcases open_ints ht he hc hf with ⟨hcs, _⟩ | ⟨x, l, c, zs, hcs, _, hl, hm, hz, _, hcell, hwz⟩
  · simp [Value.cells] at hcs
    obtain ⟨rfl, rfl, rfl⟩ := hcs
    exact ⟨none, [], 0, rfl, Reads.none_, by simp, by simp, by unfold maxLen; omega⟩
  · simp [Value.cells] at hcs
    obtain ⟨rfl, rfl, rfl⟩ := hcs
    simp only [if_true] at hz
    have hlen : (zs.take len).length = len := by simp; omega
    refine ⟨some x, zs.take len, cap, by rw [hlen], reads_of_cells (f := Value.int .i64) (by omega) hcell, fun n hn => hwz n (List.mem_of_mem_take hn), by omega, hm⟩
theorem open_strs_arg {r : Reach} {b0 : Nat} {t e : TypeId} {v : Value} {d : DataW H} {p : List MemPlace} (ht : P.underlying t = some (.slice e)) (he : P.underlying e = some .string) (hc : P.cellsOf e = 1)
    (hv : Value.okWide P w r b0 t v) (h : DataW.Trod enc P w base (fun _ => true) held t v d p) : ∃ (A : Option Addr) (zs : List ByteArray) (c : Nat), v = .slice A zs.length c ∧ IsStrs w A zs c := by
  obtain ⟨a, len, cap, rfl⟩ := okWide_slice ht hv
  obtain ⟨fuel, hf⟩ := h
  rcases open_strings ht he hc hf with ⟨hcs, _⟩ | ⟨x, l, c, zs, hcs, _, hl, hm, hz, _, hcell, hwz⟩
  · simp [Value.cells] at hcs
    obtain ⟨rfl, rfl, rfl⟩ := hcs
    exact ⟨none, [], 0, rfl, Reads.none_, by simp, by simp, by unfold maxLen; omega⟩
  · simp [Value.cells] at hcs
    obtain ⟨rfl, rfl, rfl⟩ := hcs
    simp only [if_true] at hz
    have hlen : (zs.take len).length = len := by simp; omega
    refine ⟨some x, zs.take len, cap, by rw [hlen], reads_of_cells (f := Value.string) (by omega) hcell, fun n hn => hwz n (List.mem_of_mem_take hn), by omega, hm⟩

/-- a struct by value, whatever the number of its one-cell fields -/
theorem open_struct_arg {r : Reach} {b0 : Nat} {t : TypeId} {fs : Array Field} {v : Value} {d : DataW H} {p : List MemPlace} (hs : P.underlying t = some (.struct fs)) (hone : oneCellFields P fs = true) (hC : P.cellsOf t = fs.size)
    (hv : Value.okWide P w r b0 t v) (h : DataW.Trod enc P w base spare held t v d p) :
    ∃ (vs : List Value) (n : Nat), v = .agg vs.toArray ∧ vs.length = fs.size ∧ ∀ (j : Nat) (f : Field), fs[j]? = some f → ∃ (u : Value) (y : DataW H × List MemPlace), vs[j]? = some u ∧ DataW.trod enc P w base spare held n f.type [u] = some y := by
  obtain ⟨cs, rfl, hsz⟩ := okWide_struct hs hv
  obtain ⟨l⟩ := cs
  obtain ⟨fuel, hf⟩ := h
  obtain ⟨xs, n, _, hx, _, hlen, hg⟩ := DataW.trod_struct hs hf
  have hll : l.length = fs.size := by have := hsz.trans hC; simpa using this
  refine ⟨l, n, rfl, hll, fun j f hj => ?_⟩
  obtain ⟨ho, hk⟩ := hone_of hone j f hj
  have hjl : j < fs.size := (Array.getElem?_eq_some_iff.1 hj).1
  have h1 := hg j f hj
  rw [ho, hk] at h1
  have hone' : ((Value.agg l.toArray).cells.toList.drop j).take 1 = [l[j]'(by omega)] := by
    simp only [Value.cells]
    rw [List.drop_eq_getElem_cons (by omega)]
    rfl
  rw [hone'] at h1
  exact ⟨l[j]'(by omega), xs[j]'(by omega), List.getElem?_eq_getElem (by omega), h1.trans (List.getElem?_eq_getElem (by omega))⟩
end
end Go.Proofs.Ytllijcnbjbfabaa

namespace Go.Proofs.Ytllijcnbjbfabaa
open Go.ChangeShapes Go.WideShapes Go.ChangeAt Go.RowKit Go.Joins Go.Deep

section
variable {H : Type} {enc : TypeId × Value → H} {P : Program} {w : World} {base : Nat} {spare : Nat → Bool} {held : Bool}
theorem open_slice_fields {t e : TypeId} {fs : Array Field} {fuel : Nat} {cs : List Value} {x : DataW H × List MemPlace} (ht : P.underlying t = some (.slice e)) (he : P.underlying e = some (.struct fs))
    (hone : oneCellFields P fs = true) (hC : P.cellsOf e = fs.size) (h : DataW.trod enc P w base spare held fuel t cs = some x) :
    (cs = [.slice none 0 0] ∧ x = (.nil, [])) ∨
    ∃ (a : Addr) (len cap m : Nat) (D : Nat → DataW H) (Pl : Nat → List MemPlace), cs = [.slice (some a) len cap] ∧ base ≤ a.block ∧ len ≤ cap ∧ cap ≤ maxLen ∧ m = (if spare a.block then cap else len) ∧
      x = (.slice ((List.range len).map D) ((List.range (m - len)).map fun j => D (len + j)), MemPlace.row a (m * fs.size) ++ (List.range m).flatMap Pl) ∧
      ∀ i, i < m → ∃ (ys : List (DataW H × List MemPlace)) (n : Nat), D i = .agg (ys.map (·.1)) ∧ Pl i = ys.flatMap (·.2) ∧ ys.length = fs.size ∧
        ∀ (j : Nat) (f : Field), fs[j]? = some f → ∃ (v : Value) (y : DataW H × List MemPlace), w.cell? (a.add (i * fs.size + j)) = some v ∧ ys[j]? = some y ∧ DataW.trod enc P w base spare held n f.type [v] = some y := by
  rcases open_slice ht h with h0 | ⟨a, len, cap, m, n, D, Pl, hcs, hb, hl, hm, hmm, hx, hi⟩
  · exact .inl h0
  · refine .inr ⟨a, len, cap, m, D, Pl, hcs, hb, hl, hm, hmm, by rw [hC] at hx; exact hx, fun i him => ?_⟩
    obtain ⟨cs', hc, ht'⟩ := hi i him
    rw [hC] at hc
    obtain ⟨ys, n', hn', hy, hlen, hyl, hf⟩ := DataW.trod_struct he ht'
    obtain ⟨_, hcl, hat⟩ := World.cells?_some hc
    simp only [Prod.mk.injEq] at hy
    refine ⟨ys, n', hy.1, hy.2, hyl, fun j f hj => ?_⟩
    obtain ⟨ho, hk⟩ := hone_of hone j f hj
    have hjl : j < fs.size := (Array.getElem?_eq_some_iff.1 hj).1
    have hcell := hat j hjl
    have hv : cs'[j]? = some (cs'[j]'(by omega)) := List.getElem?_eq_getElem (by omega)
    have h1 := hf j f hj
    rw [ho, hk] at h1
    have hone' : (cs'.drop j).take 1 = [cs'[j]'(by omega)] := by
      rw [List.drop_eq_getElem_cons (by omega)]
      rfl
    rw [hone'] at h1
    have hys : ys[j]? = some (ys[j]'(by omega)) := List.getElem?_eq_getElem (by omega)
    refine ⟨_, _, ?_, hys, h1.trans hys⟩
    rw [← Go.Deep.add_add, hcell, hv]
end

theorem exists_list {α : Type} (n : Nat) (Q : Nat → α → Prop) (h : ∀ i, i < n → ∃ x, Q i x) : ∃ l : List α, l.length = n ∧ ∀ i x, l[i]? = some x → Q i x := by
  induction n with
  | zero => exact ⟨[], rfl, by simp⟩
  | succ n ih =>
    obtain ⟨l, hl, hQ⟩ := ih (fun i hi => h i (by omega))
    obtain ⟨x, hx⟩ := h n (by omega)
    refine ⟨l ++ [x], by simp [hl], fun i y hy => ?_⟩
    rcases Nat.lt_or_ge i n with hi | hi
    · rw [List.getElem?_append_left (by omega)] at hy
      exact hQ i y hy
    · rw [List.getElem?_append_right (by omega)] at hy
      have : i = n := by
        rcases Nat.lt_or_ge (i - l.length) 1 with h1 | h1
        · omega
        · rw [List.getElem?_eq_none (by simpa using h1)] at hy; cases hy
      subst this
      rw [hl, Nat.sub_self] at hy
      simp at hy
      subst hy
      exact hx

def lcells (l : List (Int × Bool)) : List Value := l.flatMap fun p => [.int .i64 p.1, .bool p.2]
theorem lcells_length (l : List (Int × Bool)) : (lcells l).length = l.length * 2 := by
  induction l with
  | nil => rfl
  | cons p l ih => simp only [lcells, List.flatMap_cons, List.length_append, List.length_cons, List.length_nil] at ih ⊢; omega
theorem lcells_get (l : List (Int × Bool)) (i : Nat) (h : i < l.length) : (lcells l)[i * 2]? = some (.int .i64 l[i].1) ∧ (lcells l)[i * 2 + 1]? = some (.bool l[i].2) := by
  induction l generalizing i with
  | nil => simp at h
  | cons p l ih =>
    cases i with
    | zero => simp [lcells]
    | succ i =>
      have := ih i (by simpa using h)
      simp only [lcells, List.flatMap_cons] at this ⊢
      rw [show (i + 1) * 2 = i * 2 + 2 by omega, show i * 2 + 2 + 1 = i * 2 + 1 + 2 by omega]
      simpa using this
def IsLooks (W : World) (A : Option Addr) (zs : List (Int × Bool)) (c : Nat) : Prop :=
  Reads W W.heap.size 2 A zs.length (lcells zs) ∧ (∀ p ∈ zs, (Lit.int .i64 p.1).wf = true) ∧ zs.length ≤ c ∧ c ≤ maxLen

end Go.Proofs.Ytllijcnbjbfabaa

namespace Go.Proofs.Ytllijcnbjbfabaa
open Go.ChangeShapes Go.WideShapes Go.ChangeAt Go.RowKit Go.Joins Go.Deep

def IsPrs (W : World) (A : Option Addr) (zs : List Pr) (c : Nat) : Prop :=
  Reads W W.heap.size 2 A zs.length (prCells zs) ∧ (∀ p ∈ zs, (Lit.int .i64 p.n).wf = true ∧ p.t.size ≤ maxLen) ∧ zs.length ≤ c ∧ c ≤ maxLen

set_option maxRecDepth 100000 in
theorem open_blocks_arg {H : Type} {enc : TypeId × Value → H} {w : World} {base : Nat} {held : Bool} {r : Reach} {b0 : Nat} {v : Value} {d : DataW H} {p : List MemPlace}
    (hv : Value.okWide Try.prog w r b0 24 v) (h : DataW.Trod enc Try.prog w base (fun _ => true) held 24 v d p) :
    ∃ (A : Option Addr) (zs : List Pr) (c : Nat), v = .slice A zs.length c ∧ IsPrs w A zs c := by
  obtain ⟨a, len, cap, rfl⟩ := okWide_slice Try.underlying24 hv
  obtain ⟨fuel, hf⟩ := h
  rcases open_slice_fields Try.underlying24 Try.underlying73 (by kernel_rfl) (by kernel_rfl) hf with ⟨hcs, _⟩ | ⟨x, l, c, m, D, Pl, hcs, _, hl, hm, hmm, _, hi⟩
  · simp [Value.cells] at hcs
    obtain ⟨rfl, rfl, rfl⟩ := hcs
    exact ⟨none, [], 0, rfl, Reads.none_, by simp, by simp, by unfold maxLen; omega⟩
  · simp [Value.cells] at hcs
    obtain ⟨rfl, rfl, rfl⟩ := hcs
    simp only [if_true] at hmm
    have key : ∀ i, i < len → ∃ q : Pr, w.cell? (x.add (i * 2)) = some (.int .i64 q.n) ∧ w.cell? (x.add (i * 2 + 1)) = some (.string q.t) ∧ (Lit.int .i64 q.n).wf = true ∧ q.t.size ≤ maxLen := by
      intro i hil
      obtain ⟨ys, n, _, _, _, hfl⟩ := hi i (by omega)
      obtain ⟨u0, y0, hc0, _, ht0⟩ := hfl 0 _ rfl
      obtain ⟨u1, y1, hc1, _, ht1⟩ := hfl 1 _ rfl
      obtain ⟨n0, e0, _, hw0⟩ := DataW.trod_int Try.underlying3 ht0
      obtain ⟨b1, e1, _, hw1⟩ := DataW.trod_string Try.underlying9 ht1
      injection e0 with e0
      injection e1 with e1
      subst e0 e1
      exact ⟨⟨n0, b1⟩, hc0, hc1, hw0, hw1⟩
    obtain ⟨zs, hzl, hz⟩ := exists_list len _ key
    refine ⟨some x, zs, cap, by rw [hzl], ⟨by rw [prCells_length], fun hn => ⟨x, rfl, ?_, fun j u hu => ?_⟩⟩, ?_, by omega, hm⟩
    · obtain ⟨q, hq, _⟩ := key 0 (by omega)
      have := World.block_lt_of_cell? _ _ hq
      rwa [block_of_add] at this
    · have hj : j < zs.length * 2 := by
        rcases Nat.lt_or_ge j (zs.length * 2) with h1 | h1
        · exact h1
        · rw [List.getElem?_eq_none (by rw [prCells_length]; exact h1)] at hu; cases hu
      have hi2 : j / 2 < zs.length := by omega
      have hzz := hz (j / 2) zs[j / 2] (List.getElem?_eq_getElem hi2)
      have hg := prCells_get zs (j / 2) hi2
      rcases Nat.mod_two_eq_zero_or_one j with h2 | h2
      · have e : j = j / 2 * 2 := by omega
        rw [e, hg.1] at hu
        rw [e, hzz.1, ← hu]
      · have e : j = j / 2 * 2 + 1 := by omega
        rw [e, hg.2] at hu
        rw [e, hzz.2.1, ← hu]
    · intro q hq
      obtain ⟨i, hil, rfl⟩ := List.getElem_of_mem hq
      exact (hz i _ (List.getElem?_eq_getElem hil)).2.2
end Go.Proofs.Ytllijcnbjbfabaa

namespace Go.Proofs.Ytllijcnbjbfabaa
open Go.ChangeShapes Go.WideShapes Go.ChangeAt Go.RowKit Go.Joins Go.Deep

set_option maxRecDepth 100000 in
theorem open_api_Geo_arg {H : Type} {enc : TypeId × Value → H} {w : World} {base : Nat} {spare : Nat → Bool} {held : Bool} {r : Reach} {b0 : Nat} {v : Value} {d : DataW H} {p : List MemPlace}
    (hv : Value.okWide Try.prog w r b0 23 v) (h : DataW.Trod enc Try.prog w base spare held 23 v d p) :
    ∃ a0 a1 a2 a3 a4 a5 a6 a7 : Int, v = .agg #[.int .i64 a0, .int .i64 a1, .int .i64 a2, .int .i64 a3, .int .i64 a4, .int .i64 a5, .int .i64 a6, .int .i64 a7] ∧
      (Lit.int .i64 a0).wf = true ∧ (Lit.int .i64 a1).wf = true ∧ (Lit.int .i64 a2).wf = true ∧ (Lit.int .i64 a3).wf = true ∧ (Lit.int .i64 a4).wf = true ∧ (Lit.int .i64 a5).wf = true ∧ (Lit.int .i64 a6).wf = true ∧ (Lit.int .i64 a7).wf = true := by
  obtain ⟨vs, n, rfl, hlen, hf⟩ := open_struct_arg Try.underlying23 (by kernel_rfl) (by kernel_rfl) hv h
  match vs, hlen, hf with
  | [c0, c1, c2, c3, c4, c5, c6, c7], _, hf =>
    obtain ⟨u, y, hu, ht⟩ := hf 0 _ rfl
    obtain ⟨a0, e, _, w0⟩ := DataW.trod_int Try.underlying3 ht
    injection e with e
    subst e
    simp at hu
    subst hu
    obtain ⟨u, y, hu, ht⟩ := hf 1 _ rfl
    obtain ⟨a1, e, _, w1⟩ := DataW.trod_int Try.underlying3 ht
    injection e with e
    subst e
    simp at hu
    subst hu
    obtain ⟨u, y, hu, ht⟩ := hf 2 _ rfl
    obtain ⟨a2, e, _, w2⟩ := DataW.trod_int Try.underlying3 ht
    injection e with e
    subst e
    simp at hu
    subst hu
    obtain ⟨u, y, hu, ht⟩ := hf 3 _ rfl
    obtain ⟨a3, e, _, w3⟩ := DataW.trod_int Try.underlying3 ht
    injection e with e
    subst e
    simp at hu
    subst hu
    obtain ⟨u, y, hu, ht⟩ := hf 4 _ rfl
    obtain ⟨a4, e, _, w4⟩ := DataW.trod_int Try.underlying3 ht
    injection e with e
    subst e
    simp at hu
    subst hu
    obtain ⟨u, y, hu, ht⟩ := hf 5 _ rfl
    obtain ⟨a5, e, _, w5⟩ := DataW.trod_int Try.underlying3 ht
    injection e with e
    subst e
    simp at hu
    subst hu
    obtain ⟨u, y, hu, ht⟩ := hf 6 _ rfl
    obtain ⟨a6, e, _, w6⟩ := DataW.trod_int Try.underlying3 ht
    injection e with e
    subst e
    simp at hu
    subst hu
    obtain ⟨u, y, hu, ht⟩ := hf 7 _ rfl
    obtain ⟨a7, e, _, w7⟩ := DataW.trod_int Try.underlying3 ht
    injection e with e
    subst e
    simp at hu
    subst hu
    exact ⟨a0, a1, a2, a3, a4, a5, a6, a7, rfl, w0, w1, w2, w3, w4, w5, w6, w7⟩
end Go.Proofs.Ytllijcnbjbfabaa
