/- The walks of buffer: may, May. -/
import Derived.Test.YtfonaceldfjneaaBufPlain
import Derived.Test.YtfonaceldfjneaaMay
namespace Go.Proofs.Ytfonaceldfjneaa
open Go.RowKit

abbrev geoVals (g : Geo) : List Value := [.int .i64 g.nodes, .int .i64 g.slots, .int .i64 g.blocks, .int .i64 g.per, .int .i64 g.journal, .int .i64 g.log, .int .i64 g.lease, .int .i64 g.wait]
abbrev sizedCells (g : Geo) (v : Value) : Array Value := #[v, .int .i64 g.nodes, .int .i64 g.slots, .int .i64 g.blocks, .int .i64 g.per, .int .i64 g.journal, .int .i64 g.log, .int .i64 g.lease, .int .i64 g.wait]

set_option maxHeartbeats 2000000 in
set_option maxRecDepth 100000 in
theorem bmay_any (g : Geo) (b : Nat) (A : Option Addr) (c : Nat) (l : List Pr) (w : World) (hw1 : -9223372036854775808 ≤ g.wait) (hw2 : g.wait ≤ 9223372036854775807) (hl : l.length ≤ 1000000)
    (hr : Reads w w.heap.size 2 A l.length (prCells l)) (hb : Blk w b 106 (sizedCells g (.slice A l.length c))) :
    Calls Try.prog 58 #[.pointer (some ⟨b, 0, none⟩)] w fun e w' => e = .returned (.bool (mayBk g l)) ∧ Below w.heap.size w w' := by
  have HM := Lib.hid (fun w => May_any g w hw1 hw2)
  have HR := Lib.hid hr; clear hr
  have HBK := Lib.hid hb
  obtain ⟨c0, c1, c2, c3, c4, c5, c6, c7, c8⟩ : w.cell? ⟨b, 0, none⟩ = some (.slice A l.length c) ∧ w.cell? ⟨b, 1, none⟩ = some (.int .i64 g.nodes) ∧ w.cell? ⟨b, 2, none⟩ = some (.int .i64 g.slots) ∧ w.cell? ⟨b, 3, none⟩ = some (.int .i64 g.blocks) ∧ w.cell? ⟨b, 4, none⟩ = some (.int .i64 g.per) ∧ w.cell? ⟨b, 5, none⟩ = some (.int .i64 g.journal) ∧ w.cell? ⟨b, 6, none⟩ = some (.int .i64 g.log) ∧ w.cell? ⟨b, 7, none⟩ = some (.int .i64 g.lease) ∧ w.cell? ⟨b, 8, none⟩ = some (.int .i64 g.wait) :=
    ⟨hb.cell 0, hb.cell 1, hb.cell 2, hb.cell 3, hb.cell 4, hb.cell 5, hb.cell 6, hb.cell 7, hb.cell 8⟩
  clear hb
  cases hmay : g.may with
  | false =>
    have hres : mayBk g l = false := by unfold mayBk; rw [hmay]; rfl
    rw [hres]
    rw [hmay] at HM
    clear hres hmay
    go_enter Try.func58, Try.ntmps58
    go_wp2_with fail
    refine (HM.out _).mono ?_
    rintro e w1 ⟨rfl, hB⟩
    go_wp2_with fail
    go_ret
    exact ⟨rfl, hB⟩
  | true =>
    have hok := Geo.may_ok hmay
    have hres : mayBk g l = upFrom g (-1) l := by unfold mayBk; rw [hmay]; rfl
    rw [hres]
    rw [hmay] at HM
    have hp1 := hok.p1
    have hp2 := hok.p2
    have hpw : IntKind.i64.wrap (g.per * 256) = g.per * 256 := by rw [IntKind.wrap_i64]; omega
    have HPW := Lib.hid hpw
    clear hres hmay hok hpw
    go_enter Try.func58, Try.ntmps58
    go_wp2_with fail
    refine (HM.out _).mono ?_
    rintro e w1 ⟨rfl, hB⟩
    have hbk := HBK.out.below hB HBK.out.lt
    have HBK1 := Lib.hid hbk; clear hbk
    have d0 : w1.cell? ⟨b, 0, none⟩ = some (.slice A l.length c) := HBK1.out.cell 0
    have HB := Lib.hid hB; clear hB c0 c1 c2 c3 c4 c5 c6 c7 c8
    go_wp2_with fail
    clear d0
    go_loopg [3, 18] l.length (fun k la i wr => ∃ (j : Nat) (last : Int), j ≤ l.length ∧ k = l.length - j ∧ i = .int .i64 j ∧ la = .int .i64 last ∧ upFrom g (-1) l = upFrom g last (l.drop j) ∧ Below w1.heap.size w1 wr)
    case atStart => exact ⟨0, -1, by omega, rfl, rfl, rfl, rfl, Below.refl _ _⟩
    case round =>
      obtain ⟨j, last, hj, rfl, rfl, rfl, hup, hBr⟩ := hrel
      have HU := Lib.hid hup; clear hup
      have HB2 := Lib.hid (below_step HB.out hBr HB.out.size)
      by_cases hlt : j < l.length
      · obtain ⟨ad, rfl, had, x0, x1⟩ := reads_pr ((HR.out.below HB2.out).more HB2.out.size) hlt
        have hbk := HBK1.out.below hBr HBK1.out.lt
        have d2 : wr.cell? ⟨b, 3, none⟩ = some (.int .i64 g.blocks) := hbk.cell 3
        have d3 : wr.cell? ⟨b, 4, none⟩ = some (.int .i64 g.per) := hbk.cell 4
        have hbl := hbk.lt
        have HST := Lib.hid (@upFrom_step g last l j hlt)
        obtain ⟨r, hrr⟩ : ∃ r, l[j] = r := ⟨_, rfl⟩
        rw [hrr] at x0 x1 HST
        clear hrr hbk had
        obtain ⟨rn, rt⟩ := r
        dsimp only at x0 x1 HST
        have HBR := Lib.hid hBr; clear hBr
        have hpw := HPW.out
        by_cases h1 : last < rn
        · have e1 : decide (rn ≤ last) = false := by simp; omega
          by_cases h2 : rn < g.blocks
          · have e2 : decide (g.blocks ≤ rn) = false := by simp; omega
            by_cases h3 : (rt.size : Int) ≤ g.per * 256
            · have e3 : decide (g.per * 256 < (rt.size : Int)) = false := by simp; omega
              have HS : Hid (upFrom g (-1) l = upFrom g rn (l.drop (j + 1))) := by
                show _ = _
                rw [HU.out, HST.out, decide_eq_true ⟨h1, h2, h3⟩]; rfl
              go_wp2_with fail
              go_quiet (fail)
              clear hpw
              go_wp2_with fail
              go_roundg (l.length - (j + 1))
              case rel => exact ⟨j + 1, rn, by omega, rfl, by go_num, rfl, HS.out, below_drewN (HBR.out.alloc HBR.out.size _) _⟩
              case measure => omega
            · have e3 : decide (g.per * 256 < (rt.size : Int)) = true := by simp; omega
              have HS : Hid (upFrom g (-1) l = false) := by
                show _ = _
                rw [HU.out, HST.out, decide_eq_false (by omega)]; rfl
              go_wp2_with fail
              go_quiet (fail)
              clear hpw
              go_wp2_with fail
              go_ret
              exact ⟨by rw [HS.out]; rfl, below_drewN (HB2.out.alloc HB2.out.size _) _⟩
          · have e2 : decide (g.blocks ≤ rn) = true := by simp; omega
            have HS : Hid (upFrom g (-1) l = false) := by
              show _ = _
              rw [HU.out, HST.out, decide_eq_false (by omega)]; rfl
            go_wp2_with fail
            go_quiet (fail)
            clear hpw
            go_wp2_with fail
            go_ret
            exact ⟨by rw [HS.out]; rfl, below_drewN (HB2.out.alloc HB2.out.size _) _⟩
        · have e1 : decide (rn ≤ last) = true := by simp; omega
          have HS : Hid (upFrom g (-1) l = false) := by
            show _ = _
            rw [HU.out, HST.out, decide_eq_false (by omega)]; rfl
          go_wp2_with fail
          go_quiet (fail)
          clear hpw
          go_wp2_with fail
          go_ret
          exact ⟨by rw [HS.out]; rfl, below_drewN (HB2.out.alloc HB2.out.size _) _⟩
      · have HS : Hid (upFrom g (-1) l = true) := by
          show _ = _
          rw [HU.out, List.drop_of_length_le (by omega)]; rfl
        go_wp2_with fail
        go_ret
        exact ⟨by rw [HS.out]; rfl, HB2.out⟩

set_option maxHeartbeats 1000000 in
set_option maxRecDepth 100000 in
theorem BMay_any (g : Geo) (A : Option Addr) (c : Nat) (l : List Pr) (w : World) (hw1 : -9223372036854775808 ≤ g.wait) (hw2 : g.wait ≤ 9223372036854775807) (hl : l.length ≤ 1000000)
    (hr : Reads w w.heap.size 2 A l.length (prCells l)) :
    Calls Try.prog 52 #[g.v, .slice A l.length c] w fun e w' => e = .returned (.bool (mayBk g l)) ∧ Below w.heap.size w w' := by
  have HM := Lib.hid (fun b w r h => bmay_any g b A c l w hw1 hw2 hl r h)
  have HR := Lib.hid hr; clear hr
  generalize mayBk g l = q at *
  have hg : Hid (g = ⟨g.nodes, g.slots, g.blocks, g.per, g.journal, g.log, g.lease, g.wait⟩) := rfl
  dsimp only [Geo.v]
  go_enter Try.func52, Try.ntmps52
  go_wp2_with fail
  refine (HM.out (w.heap.size + 1) _ ?_ ?_).mono ?_
  · exact ((HR.out.alloc (Nat.le_refl _) _).alloc (by simp) _).more (by simp; omega)
  · have h := Blk.new (w.alloc (Obj.cells #[.int .i64 g.nodes, .int .i64 g.slots, .int .i64 g.blocks, .int .i64 g.per, .int .i64 g.journal, .int .i64 g.log, .int .i64 g.lease, .int .i64 g.wait] 23)) 106 (sizedCells g (.slice A l.length c))
    simpa using h
  rintro e w1 ⟨rfl, hB⟩
  go_wp2_with fail
  go_ret
  exact ⟨rfl, below_step (((Below.refl _ _).alloc (Nat.le_refl _) _).alloc (by simp) _) hB (by simp; omega)⟩
end Go.Proofs.Ytfonaceldfjneaa
