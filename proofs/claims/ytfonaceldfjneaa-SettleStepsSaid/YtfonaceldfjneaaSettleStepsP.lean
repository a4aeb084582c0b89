/- breakwaterlaw20.SettleSteps returns true for every input: act by act what is wanted are all the acts, and as many are left as are to come. No condition. -/
import Derived.Test.YtfonaceldfjneaaRows
import Derived.Test.YtfonaceldfjneaaSettle6
import Derived.Test.YtfonaceldfjneaaHeld
import Derived.Test.YtfonaceldfjneaaFrameGeo
import Derived.Test.YtfonaceldfjneaaFramePr
namespace Go.Proofs.Ytfonaceldfjneaa.settleSteps
open Go.ChangeShapes Go.WideShapes Go.ChangeAt Go.RowKit
open Go.ChangeMaps (open_string shut_string)
set_option linter.unusedVariables false

/-- what is held while a step is looked at -/
abbrev StepH (g : Geo) (bg bs : Nat) (v : Value) (s : St) (ac : Ac) (ad : Addr) (w0 wx : World) : Prop :=
  (wx.cell? ⟨bg, 0, none⟩ = some (.int .i64 g.nodes) ∧ wx.cell? ⟨bg, 1, none⟩ = some (.int .i64 g.slots) ∧ wx.cell? ⟨bg, 2, none⟩ = some (.int .i64 g.blocks) ∧ wx.cell? ⟨bg, 3, none⟩ = some (.int .i64 g.per) ∧
  wx.cell? ⟨bg, 4, none⟩ = some (.int .i64 g.journal) ∧ wx.cell? ⟨bg, 5, none⟩ = some (.int .i64 g.log) ∧ wx.cell? ⟨bg, 6, none⟩ = some (.int .i64 g.lease) ∧ wx.cell? ⟨bg, 7, none⟩ = some (.int .i64 g.wait)) ∧
  (wx.cell? ⟨bs, 0, none⟩ = some v ∧ wx.cell? ⟨bs, 1, none⟩ = some (.int .i64 s.1) ∧ wx.cell? ⟨bs, 2, none⟩ = some (.int .i64 s.2.1) ∧ wx.cell? ⟨bs, 3, none⟩ = some (.int .i8 s.2.2)) ∧
  (wx.cell? ad = some (.int .i8 ac.k) ∧ wx.cell? ⟨ad.block, ad.off + 1, none⟩ = some (.int .i64 ac.s) ∧ wx.cell? ⟨ad.block, ad.off + 2, none⟩ = some (.string ac.b) ∧ wx.cell? ⟨ad.block, ad.off + 3, none⟩ = some (.int .i64 ac.key)) ∧
  (bg < wx.heap.size ∧ bs < wx.heap.size ∧ ad.block < wx.heap.size) ∧ Below w0.heap.size w0 wx
theorem stepH_keep {g : Geo} {bg bs : Nat} {v : Value} {s : St} {ac : Ac} {ad : Addr} {w0 wx wy : World} (h : StepH g bg bs v s ac ad w0 wx) (hB : Below wx.heap.size wx wy) : StepH g bg bs v s ac ad w0 wy := by
  obtain ⟨⟨h0, h1, h2, h3, h4, h5, h6, h7⟩, ⟨i0, i1, i2, i3⟩, ⟨j0, j1, j2, j3⟩, ⟨hl, hl2, hl3⟩, hb⟩ := h
  have hc : ∀ o, wy.cell? ⟨bg, o, none⟩ = wx.cell? ⟨bg, o, none⟩ := fun o => hB.cell (p := ⟨bg, o, none⟩) hl
  have hd : ∀ o, wy.cell? ⟨bs, o, none⟩ = wx.cell? ⟨bs, o, none⟩ := fun o => hB.cell (p := ⟨bs, o, none⟩) hl2
  have he : ∀ o, wy.cell? ⟨ad.block, o, none⟩ = wx.cell? ⟨ad.block, o, none⟩ := fun o => hB.cell (p := ⟨ad.block, o, none⟩) hl3
  exact ⟨⟨by rw [hc, h0], by rw [hc, h1], by rw [hc, h2], by rw [hc, h3], by rw [hc, h4], by rw [hc, h5], by rw [hc, h6], by rw [hc, h7]⟩, ⟨by rw [hd, i0], by rw [hd, i1], by rw [hd, i2], by rw [hd, i3]⟩,
    ⟨(hB.cell hl3).trans j0, by rw [he, j1], by rw [he, j2], by rw [he, j3]⟩, ⟨Nat.lt_of_lt_of_le hl hB.size, Nat.lt_of_lt_of_le hl2 hB.size, Nat.lt_of_lt_of_le hl3 hB.size⟩, below_step hb hB hb.size⟩
theorem stepH_drew {g : Geo} {bg bs : Nat} {v : Value} {s : St} {ac : Ac} {ad : Addr} {w0 wx : World} (h : StepH g bg bs v s ac ad w0 wx) : StepH g bg bs v s ac ad w0 wx.drew := by
  obtain ⟨a, b, c, d, hb⟩ := h
  exact ⟨a, b, c, d, hb.drew⟩
theorem stepH_reads {g : Geo} {bg bs : Nat} {v : Value} {s : St} {ac : Ac} {ad : Addr} {w0 wx : World} {sz n : Nat} {A : Option Addr} {xs : List Value} (hr : Reads w0 w0.heap.size sz A n xs) (h : StepH g bg bs v s ac ad w0 wx) : Reads wx wx.heap.size sz A n xs :=
  (hr.below h.2.2.2.2).more h.2.2.2.2.size

/-- what is held at the end -/
abbrev EndH (g : Geo) (bg bs : Nat) (v : Value) (s : St) (w0 wx : World) : Prop :=
  (wx.cell? ⟨bg, 0, none⟩ = some (.int .i64 g.nodes) ∧ wx.cell? ⟨bg, 1, none⟩ = some (.int .i64 g.slots) ∧ wx.cell? ⟨bg, 2, none⟩ = some (.int .i64 g.blocks) ∧ wx.cell? ⟨bg, 3, none⟩ = some (.int .i64 g.per) ∧
  wx.cell? ⟨bg, 4, none⟩ = some (.int .i64 g.journal) ∧ wx.cell? ⟨bg, 5, none⟩ = some (.int .i64 g.log) ∧ wx.cell? ⟨bg, 6, none⟩ = some (.int .i64 g.lease) ∧ wx.cell? ⟨bg, 7, none⟩ = some (.int .i64 g.wait)) ∧
  (wx.cell? ⟨bs, 0, none⟩ = some v ∧ wx.cell? ⟨bs, 1, none⟩ = some (.int .i64 s.1) ∧ wx.cell? ⟨bs, 2, none⟩ = some (.int .i64 s.2.1) ∧ wx.cell? ⟨bs, 3, none⟩ = some (.int .i8 s.2.2)) ∧
  (bg < wx.heap.size ∧ bs < wx.heap.size) ∧ Below w0.heap.size w0 wx
theorem endH_keep {g : Geo} {bg bs : Nat} {v : Value} {s : St} {w0 wx wy : World} (h : EndH g bg bs v s w0 wx) (hB : Below wx.heap.size wx wy) : EndH g bg bs v s w0 wy := by
  obtain ⟨⟨h0, h1, h2, h3, h4, h5, h6, h7⟩, ⟨i0, i1, i2, i3⟩, ⟨hl, hl2⟩, hb⟩ := h
  have hc : ∀ o, wy.cell? ⟨bg, o, none⟩ = wx.cell? ⟨bg, o, none⟩ := fun o => hB.cell (p := ⟨bg, o, none⟩) hl
  have hd : ∀ o, wy.cell? ⟨bs, o, none⟩ = wx.cell? ⟨bs, o, none⟩ := fun o => hB.cell (p := ⟨bs, o, none⟩) hl2
  exact ⟨⟨by rw [hc, h0], by rw [hc, h1], by rw [hc, h2], by rw [hc, h3], by rw [hc, h4], by rw [hc, h5], by rw [hc, h6], by rw [hc, h7]⟩, ⟨by rw [hd, i0], by rw [hd, i1], by rw [hd, i2], by rw [hd, i3]⟩,
    ⟨Nat.lt_of_lt_of_le hl hB.size, Nat.lt_of_lt_of_le hl2 hB.size⟩, below_step hb hB hb.size⟩
theorem endH_drew {g : Geo} {bg bs : Nat} {v : Value} {s : St} {w0 wx : World} (h : EndH g bg bs v s w0 wx) : EndH g bg bs v s w0 wx.drew := by
  obtain ⟨a, b, d, hb⟩ := h
  exact ⟨a, b, d, hb.drew⟩
theorem endH_reads {g : Geo} {bg bs : Nat} {v : Value} {s : St} {w0 wx : World} {sz n : Nat} {A : Option Addr} {xs : List Value} (hr : Reads w0 w0.heap.size sz A n xs) (h : EndH g bg bs v s w0 wx) : Reads wx wx.heap.size sz A n xs :=
  (hr.below h.2.2.2).more h.2.2.2.size

set_option maxHeartbeats 4000000 in
set_option maxRecDepth 100000 in
theorem walkBad (g : Geo) (A : Option Addr) (c : Nat) (l : List Pr) (slot head : Int) (w : World) (hw1 : -9223372036854775808 ≤ g.wait) (hw2 : g.wait ≤ 9223372036854775807) (hl : l.length ≤ maxLen)
    (hr : Reads w w.heap.size 2 A l.length (prCells l)) (hok : ¬ ((cellsR g l).2 = 0 ∧ (headR head).2 = 0 ∧ 0 ≤ g.headS slot)) :
    Calls Try.prog 4 #[g.v, .slice A l.length c, .int .i64 slot, .int .i64 head] w fun e w' => e = .returned (.bool true) ∧ Below w.heap.size w w' := by
  have HR0 := Lib.hid hr
  have HB0 := Lib.hid ((Below.refl w.heap.size w).alloc (Nat.le_refl _) (Obj.cells (geoCells g) 23))
  have HG0 := Lib.hid (Blk.new w 23 (geoCells g))
  have HGR := Lib.hid (fun w r => Great_any A c l w hl r)
  clear hr
  have hac := fun w hl r => Acts_any g A c l slot head w hw1 hw2 hl r
  rw [actsR, if_neg hok] at hac
  have HAC := Lib.hid hac; clear hac hok
  have HBG := Lib.hid (fun w hl r => Begin_any g A c l w hw1 hw2 hl r)
  generalize cellsR g l = CR at *
  obtain ⟨cs, cr⟩ := CR
  clear hw1 hw2
  dsimp only [Geo.v] at *
  go_enter Try.func4, Try.ntmps4
  go_wp2_with fail
  refine (HGR.out _ ((HR0.out.below HB0.out).more HB0.out.size)).mono ?_
  rintro e w1 ⟨q, rfl, hq, rfl⟩
  cases q with
  | true =>
    go_wp2_with (go_at_call 7; refine (wakes20 _).mono ?_; rintro e w' ⟨rfl, hB⟩)
    go_ret
    exact ⟨rfl, below_step HB0.out hB HB0.out.size⟩
  | false =>
    have hl70 := hq rfl
    clear hq
    go_wp2_with fail
    refine (HAC.out _ (by omega) ((HR0.out.below HB0.out).more HB0.out.size)).mono ?_
    rintro e w2 ⟨va, rfl, hownA, hB2⟩
    dsimp only at hownA ⊢
    have HB2 := Lib.hid (below_step HB0.out hB2 HB0.out.size)
    have HG2 := Lib.hid (HG0.out.below hB2 HG0.out.lt)
    have HOA2 := Lib.hid (own_base hownA (base' := w.heap.size) (by simp))
    obtain ⟨q0, q1, q2, q3, q4, q5, q6, q7⟩ := HG2.out.cells8
    clear hB2 hownA
    go_wp2_with fail
    refine (HBG.out _ (by omega) ((HR0.out.below HB2.out).more HB2.out.size)).mono ?_
    rintro e w3 ⟨Ac1, cc1, rfl, hownC, hB3⟩
    dsimp only at hownC ⊢
    have HB3 := Lib.hid (below_step HB2.out hB3 HB2.out.size)
    have HG3 := Lib.hid (HG2.out.below hB3 HG2.out.lt)
    have HOA3 := Lib.hid (own_below HOA2.out hB3)
    have HOC3 := Lib.hid (own_base hownC (base' := w.heap.size) HB2.out.size)
    clear hB3 hownC q0 q1 q2 q3 q4 q5 q6 q7 HB2 HG2 HOA2
    dsimp only [stlV]
    obtain ⟨A8, c8, rfl, -, -, -⟩ := own_reads HOA3.out
    generalize beginS (cs, cr) = S0 at *
    obtain ⟨s0, s1, s2⟩ := S0
    dsimp only [List.length_nil]
    go_wp2_with (go_at_call 7; refine (wakes20 _).mono ?_; rintro e w' ⟨rfl, hB⟩)
    go_ret
    exact ⟨rfl, below_step (HB3.out.alloc HB3.out.size _) hB (by have := HB3.out.size; simp; omega)⟩

set_option maxHeartbeats 4000000 in
set_option maxRecDepth 100000 in
theorem walkGood (g : Geo) (A : Option Addr) (c : Nat) (l : List Pr) (slot head : Int) (w : World) (hw1 : -9223372036854775808 ≤ g.wait) (hw2 : g.wait ≤ 9223372036854775807) (hl : l.length ≤ maxLen)
    (hr : Reads w w.heap.size 2 A l.length (prCells l)) (cs : List Pr) (x : Bs) (hc : cellsR g l = (cs, 0)) (hh : headR head = (x, 0)) (hs : 0 ≤ g.headS slot) :
    Calls Try.prog 4 #[g.v, .slice A l.length c, .int .i64 slot, .int .i64 head] w fun e w' => e = .returned (.bool true) ∧ Below w.heap.size w w' := by
  have HR0 := Lib.hid hr
  have HB0 := Lib.hid ((Below.refl w.heap.size w).alloc (Nat.le_refl _) (Obj.cells (geoCells g) 23))
  have HG0 := Lib.hid (Blk.new w 23 (geoCells g))
  have HGR := Lib.hid (fun w r => Great_any A c l w hl r)
  clear hr
  have hac := fun w hl r => Acts_any g A c l slot head w hw1 hw2 hl r
  have hbg := fun w hl r => Begin_any g A c l w hw1 hw2 hl r
  have hwt := fun A c s w h1 h5 h6 hr => Want_any g A c cs s slot head w hw1 hw2 h1 h5 h6 hr
  have hwr : ∀ s, wantR g cs s slot head = stAct cs s (g.headS slot) (mkS x) := fun s => by rw [wantR, hh, if_pos ⟨rfl, hs⟩]
  have hcl := cellsR_length g l
  rw [actsR, hc, hh, if_pos ⟨rfl, rfl, hs⟩] at hac
  rw [hc] at hbg hcl
  simp only [hwr] at hwt
  dsimp only at hcl hac
  have HAC := Lib.hid hac; clear hac
  have HBG : Hid (∀ w, l.length ≤ 100000 → Reads w w.heap.size 2 A l.length (prCells l) → Calls Try.prog 16 #[g.v, .slice A l.length c] w fun e w' => ∃ A1 c1, e = .returned (.tuple #[.agg (stlV (.slice A1 cs.length c1) (stAt cs.length 0)), .int .i64 0]) ∧ w'.ownsRow w.heap.size 52 2 (.slice A1 cs.length c1) cs.length (prCells cs) ∧ Below w.heap.size w w') := fun w hl hr =>
    (hbg w hl hr).mono fun e w' ⟨A1, c1, he, h⟩ => ⟨A1, c1, by rw [he]; dsimp only; rw [beginS_at], h⟩
  have HWT := Lib.hid hwt; clear hwt hbg hwr
  clear hw1 hw2 hc hh hs
  generalize g.headS slot = sec at *
  generalize mkS x = X at *
  have HLEN := Lib.hid (actsL_length cs sec X)
  have HGET := Lib.hid (fun j h => actsL_get cs sec X j h)
  have HBD := Lib.hid (fun j => stAt_bd cs.length j)
  have HOV := Lib.hid (fun j => stAt_over cs.length j)
  have HNX := Lib.hid (fun j h => stAt_next cs.length j h)
  have HLA := Lib.hid (fun j h => stAt_last cs.length j h)
  have HLF := Lib.hid (fun j h => stAt_left cs.length j h)
  have HOVA := Lib.hid (fun s h => @stAct_over cs s h sec X)
  have hmany := many_le cs.length
  generalize many cs.length = M at *
  generalize hLA : actsL cs sec X = LA at *
  clear hLA
  dsimp only [Geo.v] at *
  go_enter Try.func4, Try.ntmps4
  go_wp2_with fail
  refine (HGR.out _ ((HR0.out.below HB0.out).more HB0.out.size)).mono ?_
  rintro e w1 ⟨q, rfl, hq, rfl⟩
  cases q with
  | true =>
    go_wp2_with (go_at_call 7; refine (wakes20 _).mono ?_; rintro e w' ⟨rfl, hB⟩)
    go_ret
    exact ⟨rfl, below_step HB0.out hB HB0.out.size⟩
  | false =>
    have hl70 := hq rfl
    clear hq
    go_wp2_with fail
    refine (HAC.out _ (by omega) ((HR0.out.below HB0.out).more HB0.out.size)).mono ?_
    rintro e w2 ⟨va, rfl, hownA, hB2⟩
    dsimp only at hownA ⊢
    have HB2 := Lib.hid (below_step HB0.out hB2 HB0.out.size)
    have HG2 := Lib.hid (HG0.out.below hB2 HG0.out.lt)
    have HOA2 := Lib.hid (own_base hownA (base' := w.heap.size) (by simp))
    obtain ⟨q0, q1, q2, q3, q4, q5, q6, q7⟩ := HG2.out.cells8
    clear hB2 hownA
    go_wp2_with fail
    refine (HBG.out _ (by omega) ((HR0.out.below HB2.out).more HB2.out.size)).mono ?_
    rintro e w3 ⟨Ac1, cc1, rfl, hownC, hB3⟩
    dsimp only at hownC ⊢
    have HB3 := Lib.hid (below_step HB2.out hB3 HB2.out.size)
    have HG3 := Lib.hid (HG2.out.below hB3 HG2.out.lt)
    have HOA3 := Lib.hid (own_below HOA2.out hB3)
    have HOC3 := Lib.hid (own_base hownC (base' := w.heap.size) HB2.out.size)
    clear hB3 hownC q0 q1 q2 q3 q4 q5 q6 q7 HB2 HG2 HOA2
    dsimp only [stlV]
    have hcs : cs.length ≤ 1000 := by omega
    have hM : M ≤ 2001 := by omega
    have hlen := HLEN.out
    obtain ⟨A8, c8, rfl, -, -, hrA⟩ := own_reads HOA3.out
    rw [hlen] at HOA3 ⊢
    clear hrA hlen
    have HSL := Lib.hid (Blk.new w3 58 (stlV (.slice Ac1 cs.length cc1) (stAt cs.length 0)))
    have HB4 := Lib.hid (HB3.out.alloc HB3.out.size (Obj.cells (stlV (.slice Ac1 cs.length cc1) (stAt cs.length 0)) 58))
    have HG4 := Lib.hid (HG3.out.alloc (Obj.cells (stlV (.slice Ac1 cs.length cc1) (stAt cs.length 0)) 58))
    have HOA4 := Lib.hid (HOA3.out.alloc (Obj.cells (stlV (.slice Ac1 cs.length cc1) (stAt cs.length 0)) 58))
    have HOC4 := Lib.hid (HOC3.out.alloc (Obj.cells (stlV (.slice Ac1 cs.length cc1) (stAt cs.length 0)) 58))
    have hw3 := HB3.out.size
    clear HB3 HG3 HOA3 HOC3
    go_wp2_with fail
    go_loopg [13] M (fun k i wr => ∃ j : Nat, j ≤ M ∧ k = M - j ∧ i = .int .i64 j ∧ Blk wr w3.heap.size 58 (stlV (.slice Ac1 cs.length cc1) (stAt cs.length j)) ∧ Blk wr w.heap.size 23 (geoCells g) ∧ wr.ownsRow w.heap.size 43 4 (.slice A8 M c8) M (acCells LA) ∧ wr.ownsRow w.heap.size 52 2 (.slice Ac1 cs.length cc1) cs.length (prCells cs) ∧ Below w.heap.size w wr)
    case atStart => exact ⟨0, by omega, rfl, rfl, HSL.out, HG4.out, HOA4.out, HOC4.out, HB4.out⟩
    case round =>
      clear HSL HB4 HG4 HOA4 HOC4 HGR HAC HBG HG0 HB0 HR0
      obtain ⟨j, hj, rfl, rfl, hsl, hg, hoa, hoc, hB⟩ := hrel
      have hsb := HBD.out j
      obtain ⟨_, _, eC, -, -, hrC⟩ := own_reads hoc
      injection eC with eC1 eC2 eC3
      subst eC1
      clear eC2 eC3
      have HRC := Lib.hid hrC; clear hrC
      have hwt := fun w hr => HWT.out Ac1 cc1 (stAt cs.length j) w hsb.1 hsb.2.2.2.2.1 hsb.2.2.2.2.2 hr
      have hov := fun w => Over_any (.slice Ac1 cs.length cc1) (stAt cs.length j) w
      have hlf := fun w => Left_any Ac1 cs.length cc1 (stAt cs.length j) w (by omega) hsb.1 (by omega) hsb.2.2.1 (by omega) hsb.2.2.2.2.1 hsb.2.2.2.2.2
      have htk := fun w => Take_any Ac1 cs.length cc1 (stAt cs.length j) w hsb.1 (by omega) hsb.2.2.1 (by omega) hsb.2.2.2.2.1 hsb.2.2.2.2.2
      have hlfv := HLF.out j hj
      rw [hlfv] at hlf
      by_cases hlt : j < M
      · have hovv : decide (2 < (stAt cs.length j).2.2) = false := decide_eq_false (fun h => by have := (HOV.out j).1 h; omega)
        rw [hovv] at hov
        have hnx := HNX.out j hlt
        rw [hnx] at htk
        have hlen := HLEN.out
        have hjl : j < LA.length := by omega
        have hget := HGET.out j hjl
        rw [← hget] at hwt
        obtain ⟨_, _, eA, -, -, hrA⟩ := own_reads hoa
        injection eA with eA1 eA2 eA3
        subst eA1
        clear eA2 eA3
        rw [← hlen] at hrA
        obtain ⟨ad0, rfl, hadl, y0, y1, y2, y3⟩ := reads_ac hrA hjl
        generalize LA[j] = AC at *
        obtain ⟨ak, asx, ab, akey⟩ := AC
        dsimp only at y0 y1 y2 y3
        have hadb : (ad0.add (j * 4)).block < wr.heap.size := by rw [block_of_add]; exact hadl
        obtain ⟨SJ1, hSJ1⟩ : ∃ S, S = stAt cs.length (j + 1) := ⟨_, rfl⟩
        rw [← hSJ1] at htk
        have HSJ1 := Lib.hid hSJ1; clear hSJ1
        obtain ⟨q0, q1, q2, q3, q4, q5, q6, q7⟩ := hg.cells8
        obtain ⟨p0, p1, p2, p3⟩ := hsl.cells4
        have hH0 : StepH g w.heap.size w3.heap.size (.slice Ac1 cs.length cc1) (stAt cs.length j) ⟨ak, asx, ab, akey⟩ (ad0.add (j * 4)) wr wr :=
          ⟨⟨q0, q1, q2, q3, q4, q5, q6, q7⟩, ⟨p0, p1, p2, p3⟩, ⟨y0, y1, y2, y3⟩, ⟨hg.lt, hsl.lt, hadb⟩, Below.refl _ _⟩
        have HH0 := Lib.hid hH0
        have HG := Lib.hid hg
        have HSLr := Lib.hid hsl
        have HOA := Lib.hid hoa
        have HOC := Lib.hid hoc
        have HB := Lib.hid hB
        clear hH0 q0 q1 q2 q3 q4 q5 q6 q7 p0 p1 p2 p3 y0 y1 y2 y3 hg hsl hoa hoc hB hrA hget hnx hovv hlfv hsb hadl hadb
        generalize stAt cs.length j = SJ at *
        obtain ⟨s0, s1, s2⟩ := SJ
        obtain ⟨D, hD⟩ : ∃ D : Int, D = (M : Int) - (j : Int) := ⟨_, rfl⟩
        rw [← hD] at hlf
        have hwd : IntKind.i64.wrap ((M : Int) - (j : Int)) = D := by rw [IntKind.wrap_i64, hD]; omega
        have HOVc := Lib.hid hov; clear hov
        have HLFc := Lib.hid hlf; clear hlf
        have HTKc := Lib.hid htk; clear htk
        have HWTc := Lib.hid hwt; clear hwt
        have i1 : (0 : Int) ≤ (j : Int) := by omega
        have i2 : (j : Int) < (M : Int) := by omega
        have HLN := Lib.hid hlen; clear hlen hD
        dsimp only [stlV, acVals] at HOVc HLFc HWTc HTKc
        go_wp2_with fail
        go_region_held3 (StepH g w.heap.size w3.heap.size (.slice Ac1 cs.length cc1) (s0, s1, s2) ⟨ak, asx, ab, akey⟩ (ad0.add (j * 4)) wr) (first | exact stepH_drew HH0.out | exact stepH_keep (by assumption) (by assumption))
          (first
            | (go_at_call 17; (with_reducible refine (HOVc.out _).mono ?_); rintro e w6 ⟨rfl, hB6⟩)
            | (go_at_call 18; (with_reducible refine (HLFc.out _).mono ?_); rintro e w6 ⟨rfl, hB6⟩)
            | (go_at_call 19; (with_reducible refine (HWTc.out _ (by exact stepH_reads HRC.out (by assumption))).mono ?_); rintro e w6 ⟨rfl, hB6⟩))
        rename_i hH
        have hBx := hH.2.2.2.2
        have hsl2 := HSLr.out.below hBx HSLr.out.lt
        obtain ⟨p0, p1, p2, p3⟩ := hsl2.cells4
        have HSL2 := Lib.hid hsl2; clear hsl2
        have HG2 := Lib.hid (HG.out.below hBx HG.out.lt)
        have HOA2 := Lib.hid (own_below HOA.out hBx)
        have HOC2 := Lib.hid (own_below HOC.out hBx)
        have HB2 := Lib.hid (below_step HB.out hBx HB.out.size)
        clear hH hBx HG HOA HOC HB HSLr HH0 HWTc HLFc HOVc hwd
        dsimp only at p0 p1 p2 p3
        go_wp2_with fail
        refine (HTKc.out _).mono ?_
        rintro e w7 ⟨rfl, hB7⟩
        have hsl3 := HSL2.out.below hB7 HSL2.out.lt
        have hg3 := HG2.out.below hB7 HG2.out.lt
        have hoa3 := own_below HOA2.out hB7
        have hoc3 := own_below HOC2.out hB7
        have hB3 := below_step HB2.out hB7 HB2.out.size
        have hne1 := own_blk_ne hoa3 hsl3 (by decide)
        have hne2 := own_blk_ne hoc3 hsl3 (by decide)
        have hne3 : w.heap.size ≠ w3.heap.size := hg3.ne_ hsl3 (by decide)
        clear p0 p1 p2 p3
        obtain ⟨p0, p1, p2, p3⟩ := hsl3.cells4
        obtain ⟨f0, f1, f2, f3⟩ := hsl3.frozen4
        have HS3 := HSJ1.out
        obtain ⟨t0, t1, t2⟩ := SJ1
        have HREL : Hid (∃ j' : Nat, j' ≤ M ∧ M - (j + 1) = M - j' ∧ Value.int .i64 ((j : Int) + 1) = .int .i64 j' ∧ Blk ((((w7.setCell ⟨w3.heap.size, 0, none⟩ (.slice Ac1 cs.length cc1)).setCell ⟨w3.heap.size, 1, none⟩ (.int .i64 t0)).setCell ⟨w3.heap.size, 2, none⟩ (.int .i64 t1)).setCell ⟨w3.heap.size, 3, none⟩ (.int .i8 t2)) w3.heap.size 58 (stlV (.slice Ac1 cs.length cc1) (stAt cs.length j')) ∧
            Blk ((((w7.setCell ⟨w3.heap.size, 0, none⟩ (.slice Ac1 cs.length cc1)).setCell ⟨w3.heap.size, 1, none⟩ (.int .i64 t0)).setCell ⟨w3.heap.size, 2, none⟩ (.int .i64 t1)).setCell ⟨w3.heap.size, 3, none⟩ (.int .i8 t2)) w.heap.size 23 (geoCells g) ∧
            ((((w7.setCell ⟨w3.heap.size, 0, none⟩ (.slice Ac1 cs.length cc1)).setCell ⟨w3.heap.size, 1, none⟩ (.int .i64 t0)).setCell ⟨w3.heap.size, 2, none⟩ (.int .i64 t1)).setCell ⟨w3.heap.size, 3, none⟩ (.int .i8 t2)).ownsRow w.heap.size 43 4 (.slice (some ad0) M c8) M (acCells LA) ∧
            ((((w7.setCell ⟨w3.heap.size, 0, none⟩ (.slice Ac1 cs.length cc1)).setCell ⟨w3.heap.size, 1, none⟩ (.int .i64 t0)).setCell ⟨w3.heap.size, 2, none⟩ (.int .i64 t1)).setCell ⟨w3.heap.size, 3, none⟩ (.int .i8 t2)).ownsRow w.heap.size 52 2 (.slice Ac1 cs.length cc1) cs.length (prCells cs) ∧
            Below w.heap.size w ((((w7.setCell ⟨w3.heap.size, 0, none⟩ (.slice Ac1 cs.length cc1)).setCell ⟨w3.heap.size, 1, none⟩ (.int .i64 t0)).setCell ⟨w3.heap.size, 2, none⟩ (.int .i64 t1)).setCell ⟨w3.heap.size, 3, none⟩ (.int .i8 t2))) :=
          ⟨j + 1, by omega, rfl, by go_num, by rw [← HS3]; exact (((hsl3.set_ 0 _).set_ 1 _).set_ 2 _).set_ 3 _, (((hg3.far hne3 _).far hne3 _).far hne3 _).far hne3 _, (ownsRow_setCell_other (ownsRow_setCell_other (ownsRow_setCell_other (ownsRow_setCell_other hoa3 (a := ⟨w3.heap.size, 0, none⟩) hne1 _) (a := ⟨w3.heap.size, 1, none⟩) hne1 _) (a := ⟨w3.heap.size, 2, none⟩) hne1 _) (a := ⟨w3.heap.size, 3, none⟩) hne1 _), (ownsRow_setCell_other (ownsRow_setCell_other (ownsRow_setCell_other (ownsRow_setCell_other hoc3 (a := ⟨w3.heap.size, 0, none⟩) hne2 _) (a := ⟨w3.heap.size, 1, none⟩) hne2 _) (a := ⟨w3.heap.size, 2, none⟩) hne2 _) (a := ⟨w3.heap.size, 3, none⟩) hne2 _), (((hB3.setCell (by simpa using hw3) _).setCell (by simpa using hw3) _).setCell (by simpa using hw3) _).setCell (by simpa using hw3) _⟩
        clear hsl3 hg3 hoa3 hoc3 hB3 hne1 hne2 hne3 HS3 HSL2 HG2 HOA2 HOC2 HB2 hB7
        dsimp only [stlV]
        go_wp2_with fail
        go_roundg (M - (j + 1))
        case rel => exact HREL.out
        case measure => omega
      · obtain rfl : j = M := by omega
        have hovv : decide (2 < (stAt cs.length j).2.2) = true := decide_eq_true ((HOV.out j).2 (by omega))
        have hact := HOVA.out (stAt cs.length j) ((HOV.out j).2 (by omega))
        rw [hovv] at hov
        rw [hact] at hwt
        have hnx := HLA.out j (by omega)
        rw [hnx] at htk
        rw [show (j : Int) - (j : Int) = 0 by omega] at hlf
        have hsm := fun w r => Same_same Ac1 Ac1 cc1 cc1 cs (stAt cs.length j) w (by omega) r r
        obtain ⟨q0, q1, q2, q3, q4, q5, q6, q7⟩ := hg.cells8
        obtain ⟨p0, p1, p2, p3⟩ := hsl.cells4
        have hH0 : EndH g w.heap.size w3.heap.size (.slice Ac1 cs.length cc1) (stAt cs.length j) wr wr :=
          ⟨⟨q0, q1, q2, q3, q4, q5, q6, q7⟩, ⟨p0, p1, p2, p3⟩, ⟨hg.lt, hsl.lt⟩, Below.refl _ _⟩
        have HH0 := Lib.hid hH0
        have HB := Lib.hid hB
        clear hH0 q0 q1 q2 q3 q4 q5 q6 q7 p0 p1 p2 p3 hg hsl hoa hoc hB hnx hovv hlfv hsb hact
        generalize stAt cs.length j = SJ at *
        obtain ⟨s0, s1, s2⟩ := SJ
        have HOVc := Lib.hid hov; clear hov
        have HLFc := Lib.hid hlf; clear hlf
        have HTKc := Lib.hid htk; clear htk
        have HWTc := Lib.hid hwt; clear hwt
        have HSMc := Lib.hid hsm; clear hsm
        dsimp only [stlV, acVals, noAc] at HOVc HLFc HWTc HTKc HSMc
        go_wp2_with fail
        go_region_held3 (EndH g w.heap.size w3.heap.size (.slice Ac1 cs.length cc1) (s0, s1, s2) wr) (first | exact endH_drew HH0.out | exact endH_keep (by assumption) (by assumption))
          (first
            | (go_at_call 17; (with_reducible refine (HOVc.out _).mono ?_); rintro e w6 ⟨rfl, hB6⟩)
            | (go_at_call 18; (with_reducible refine (HLFc.out _).mono ?_); rintro e w6 ⟨rfl, hB6⟩)
            | (go_at_call 19; (with_reducible refine (HWTc.out _ (by exact endH_reads HRC.out (by assumption))).mono ?_); rintro e w6 ⟨rfl, hB6⟩)
            | (go_at_call 20; (with_reducible refine (HTKc.out _).mono ?_); rintro e w6 ⟨rfl, hB6⟩)
            | (go_at_call 21; (with_reducible refine (HSMc.out _ (by exact endH_reads HRC.out (by assumption))).mono ?_); rintro e w6 ⟨rfl, hB6⟩)
            | (go_at_call 7; (with_reducible refine (wakes20 _).mono ?_); rintro e w6 ⟨rfl, hB6⟩))
        rename_i hH
        have HBx := Lib.hid (below_step HB.out hH.2.2.2 HB.out.size)
        clear hH
        go_wp2_with fail
        go_ret
        exact ⟨rfl, HBx.out⟩

theorem walk0 (g : Geo) (A : Option Addr) (c : Nat) (l : List Pr) (slot head : Int) (w : World) (hw1 : -9223372036854775808 ≤ g.wait) (hw2 : g.wait ≤ 9223372036854775807) (hl : l.length ≤ maxLen)
    (hr : Reads w w.heap.size 2 A l.length (prCells l)) :
    Calls Try.prog 4 #[g.v, .slice A l.length c, .int .i64 slot, .int .i64 head] w fun e w' => e = .returned (.bool true) ∧ Below w.heap.size w w' := by
  by_cases hok : (cellsR g l).2 = 0 ∧ (headR head).2 = 0 ∧ 0 ≤ g.headS slot
  · exact walkGood g A c l slot head w hw1 hw2 hl hr (cellsR g l).1 (headR head).1 (by rw [← hok.1]) (by rw [← hok.2.1]) hok.2.2
  · exact walkBad g A c l slot head w hw1 hw2 hl hr hok

theorem walk (a0 a1 a2 a3 a4 a5 a6 a7 : Int) (w7 : (Lit.int .i64 a7).wf = true) (A : Option Addr) (l : List Pr) (c : Nat) {W : World} (hP : IsPrs W A l c) (slot head : Int) (w : World) (hW : w = W) :
    Calls Try.prog 4 #[.agg #[.int .i64 a0, .int .i64 a1, .int .i64 a2, .int .i64 a3, .int .i64 a4, .int .i64 a5, .int .i64 a6, .int .i64 a7], .slice A l.length c, .int .i64 slot, .int .i64 head] w fun e w' => e = .returned (.bool true) ∧ Below w.heap.size w w' := by
  subst hW
  exact walk0 ⟨a0, a1, a2, a3, a4, a5, a6, a7⟩ A c l slot head w (wf_i64 w7).1 (wf_i64 w7).2 (Nat.le_trans hP.2.2.1 hP.2.2.2) hP.1

theorem own : ownKnob Try.prog.godebug = none := by kernel_rfl
theorem laidOut : laidOutB Try.prog = true := by kernel_rfl
set_option maxRecDepth 100000 in
theorem lifted (os : Os) (started : os.Started) (H : Type) (enc : TypeId × Value → H) :
    ReturnsInHanded {} Try.checked os 4 .any (Rows.settleStepsSpec.pre6 enc Try.prog Try.f4 Rows.settleStepsRow.domain false) (Rows.settleStepsSpec.post enc Try.prog Try.f4 false true false false) := by
  refine returnsInHanded_of_change (C := Try.checked) own started (by kernel_rfl) Try.func4
    (ChangeSpec.witness6 (enc := enc) (C := Try.checked) false ⟨#[], #[.agg #[.int .i64 0, .int .i64 0, .int .i64 0, .int .i64 0, .int .i64 0, .int .i64 0, .int .i64 0, .int .i64 0], .slice none 0 0, .int .i64 0, .int .i64 0], []⟩ 8 (by kernel_rfl) (by kernel_rfl) (by kernel_rfl) (by kernel_rfl)) ?_
  intro W base args ds gs before hval0 hW hcnd _
  have hval : ∀ (j : Nat) t v, Try.f4.params[j]? = some t → args[j]? = some v → Value.okWide Try.prog W .any base t v := hval0
  have hW' := hW
  obtain ⟨p, q, hA0, hV, rfl, hfz, hnd⟩ := hW
  have hA : DataW.TrodAll enc Try.prog W 0 (fun _ => true) true Try.f4.params.toList args.toList ds p := hA0
  rw [Try.params4] at hA hval
  obtain ⟨v0, vs0, d0, ds0, p0, q0, hargs, rfl, rfl, h0, r0⟩ := trodAll_cons hA
  obtain ⟨v1, vs1, d1, ds1, p1, q1, rfl, rfl, rfl, h1, r1⟩ := trodAll_cons r0
  obtain ⟨v2, vs2, d2, ds2, p2, q2, rfl, rfl, rfl, h2, r2⟩ := trodAll_cons r1
  obtain ⟨v3, vs3, d3, ds3, p3, q3, rfl, rfl, rfl, h3, r3⟩ := trodAll_cons r2
  obtain ⟨rfl, rfl, rfl⟩ := trodAll_nil r3
  obtain rfl : args = #[v0, v1, v2, v3] := by cases args; simp_all
  obtain ⟨rfl, rfl⟩ := trodVars_none hV
  have k0 := h0
  have lt0 : ∀ x ∈ p0, x.block < W.heap.size := by obtain ⟨m, hm⟩ := k0; exact DataW.trod_lt m _ _ _ hm
  obtain ⟨a0_0, a0_1, a0_2, a0_3, a0_4, a0_5, a0_6, a0_7, rfl, w0_0, w0_1, w0_2, w0_3, w0_4, w0_5, w0_6, w0_7⟩ := open_api_Geo_arg (hval 0 23 v0 rfl rfl) h0
  have k1 := h1
  have lt1 : ∀ x ∈ p1, x.block < W.heap.size := by obtain ⟨m, hm⟩ := k1; exact DataW.trod_lt m _ _ _ hm
  obtain ⟨a1, z1, c1, rfl, w1⟩ := open_blocks_arg (hval 1 24 v1 rfl rfl) h1
  have k2 := h2
  have lt2 : ∀ x ∈ p2, x.block < W.heap.size := by obtain ⟨m, hm⟩ := k2; exact DataW.trod_lt m _ _ _ hm
  obtain ⟨a2, rfl, -, -, w2⟩ := open_int Try.underlying3 (hval 2 3 v2 rfl rfl) h2
  have k3 := h3
  have lt3 : ∀ x ∈ p3, x.block < W.heap.size := by obtain ⟨m, hm⟩ := k3; exact DataW.trod_lt m _ _ _ hm
  obtain ⟨a3, rfl, -, -, w3⟩ := open_int Try.underlying3 (hval 3 3 v3 rfl rfl) h3
  clear hA0 hval0
  refine (walk a0_0 a0_1 a0_2 a0_3 a0_4 a0_5 a0_6 a0_7 w0_7 a1 z1 c1 w1 a2 a3 W rfl).mono fun e W' ⟨he, bel⟩ => ?_
  subst he
  exact ⟨_, rfl, _, _, _, [], _, [], hW', trodAll_mk1 (shut_bool Try.underlying4 _), (trodAll_cons_mk (Below.trod laidOut (by kernel_rfl) (of_decide_eq_true (by kernel_rfl)) k0 bel lt0) (trodAll_cons_mk (Below.trod laidOut (by kernel_rfl) (of_decide_eq_true (by kernel_rfl)) k1 bel lt1) (trodAll_cons_mk (Below.trod laidOut (by kernel_rfl) (of_decide_eq_true (by kernel_rfl)) k2 bel lt2) (trodAll_cons_mk (Below.trod laidOut (by kernel_rfl) (of_decide_eq_true (by kernel_rfl)) k3 bel lt3) trodAll_mk0)))), rfl, bel.frame _, fun h => by cases h⟩

/-- The statement. -/
theorem proved : Rows.SettleStepsSaid :=
  OpenClaim.holds_of_wide 4 Try.f4 rfl rfl rfl rfl rfl rfl rfl ⟨rfl, rfl, rfl, rfl, rfl⟩ rfl rfl rfl rfl rfl (by kernel_rfl) Try.func4 (by kernel_rfl)
    (of_decide_eq_true (by kernel_rfl)) (by unfold Func.isWrapper; first | (rw [if_pos (by decide +kernel)]; kernel_rfl) | (rw [if_neg (by decide +kernel)]; exact ⟨rfl, rfl⟩))
    (fun os started H enc _ => lifted os started H enc)
end Go.Proofs.Ytfonaceldfjneaa.settleSteps
