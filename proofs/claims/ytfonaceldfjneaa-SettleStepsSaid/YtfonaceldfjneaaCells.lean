/- The walk of buffer.Cells. -/
import Derived.Test.YtfonaceldfjneaaPieces
import Derived.Test.YtfonaceldfjneaaGeoLook
import Derived.Test.YtfonaceldfjneaaPut2
namespace Go.Proofs.Ytfonaceldfjneaa
open Go.RowKit

theorem own_own_ne {w : World} {b b' : Nat} {e e' : TypeId} {s s' n n' : Nat} {v v' : Value} {xs xs' : List Value} (h : w.ownsRow b e s v n xs) (h' : w.ownsRow b' e' s' v' n' xs') (hne : e ≠ e') : v.ownBlock = none ∨ v.ownBlock ≠ v'.ownBlock := by
  rcases h.2 with ⟨rfl, _⟩ | ⟨g, cap, cur, rfl, _, hg, _⟩
  · exact .inl rfl
  · refine .inr fun he => ?_
    exact own_blk_ne (t := e) h' hg (Ne.symm hne) he.symm
abbrev geoCells (g : Geo) : Array Value := #[.int .i64 g.nodes, .int .i64 g.slots, .int .i64 g.blocks, .int .i64 g.per, .int .i64 g.journal, .int .i64 g.log, .int .i64 g.lease, .int .i64 g.wait]
/-- where blocks stand, or that they may not be -/
def cellsR (g : Geo) (l : List Pr) : List Pr × Int := if mayBk g l = true then (cellsL g l, 0) else ([], 2)
def CellsPost (w : World) (r : List Pr × Int) (e : Ending) (w' : World) : Prop :=
  ∃ v, e = .returned (.tuple #[v, .int .i64 r.2]) ∧ w'.ownsRow w.heap.size 52 2 v r.1.length (prCells r.1) ∧ Below w.heap.size w w'
theorem cell_info : (Try.prog.info? 52).map (fun i => (i.zero, i.size, i.bytes)) = some (some (.agg #[.int .i64 0, .string ⟨#[]⟩]), 2, 24) := by kernel_rfl
theorem cellsL_take (g : Geo) (l : List Pr) (j : Nat) (h : j < l.length) : cellsL g (l.take (j + 1)) = cellsL g (l.take j) ++ cellsOf g l[j] := by
  rw [List.take_succ_eq_append_getElem h, cellsL_snoc]
theorem cellsOf_take (g : Geo) (x : Pr) (k : Nat) (h : k < g.per.toNat) : (cellsOf g x).take (k + 1) = (cellsOf g x).take k ++ [⟨g.dataS x.n (k : Int), pieceB x.t k⟩] := by
  rw [List.take_succ_eq_append_getElem (by rw [cellsOf_length]; exact h)]
  congr 1
  simp [cellsOf]
theorem piecesL_get (per : Int) (t : ByteArray) (k : Nat) (h : k < per.toNat) : (txCells (piecesL per t))[k]? = some (.string (pieceB t k)) := by
  simp [txCells, piecesL, h]

set_option maxHeartbeats 4000000 in
set_option maxRecDepth 100000 in
theorem Cells_any (g : Geo) (A : Option Addr) (c : Nat) (l : List Pr) (w : World) (hw1 : -9223372036854775808 ≤ g.wait) (hw2 : g.wait ≤ 9223372036854775807) (hl : l.length ≤ 100000)
    (hr : Reads w w.heap.size 2 A l.length (prCells l)) :
    Calls Try.prog 42 #[g.v, .slice A l.length c] w fun e w' => CellsPost w (cellsR g l) e w' := by
  have HM := Lib.hid (fun w r => BMay_any g A c l w hw1 hw2 (by omega) r)
  have HR := Lib.hid hr; clear hr
  obtain ⟨i0, hi0, hz0, hz1, hz2⟩ := info_parts cell_info
  cases hmay : mayBk g l with
  | false =>
    have hres : cellsR g l = ([], 2) := by unfold cellsR; rw [hmay]; rfl
    rw [hres]
    rw [hmay] at HM
    clear hres hmay
    dsimp only [Geo.v]
    go_enter Try.func42, Try.ntmps42
    go_wp2_with fail
    refine (HM.out _ ((HR.out.alloc (Nat.le_refl _) _).more (by simp))).mono ?_
    rintro e w1 ⟨rfl, hB⟩
    have HB := Lib.hid (below_step ((Below.refl w.heap.size w).alloc (Nat.le_refl _) _) hB (by simp)); clear hB
    have HP : Hid (∃ v, Ending.returned (.tuple #[.slice none 0 0, .int .i64 2]) = .returned (.tuple #[v, .int .i64 2]) ∧ w1.ownsRow w.heap.size 52 2 v 0 (prCells []) ∧ Below w.heap.size w w1) := ⟨_, rfl, World.ownsRow_nil _ _ _ _, HB.out⟩
    go_wp2_with fail
    go_ret2
    exact HP.out
  | true =>
    have hres : cellsR g l = (cellsL g l, 0) := by unfold cellsR; rw [hmay]; rfl
    rw [hres]
    rw [hmay] at HM
    obtain ⟨hgm, hall⟩ := mayBk_all hmay
    have hok := Geo.may_ok hgm
    have hp1 := hok.p1
    have hp2 := hok.p2
    have HALL := Lib.hid hall; clear hall
    have HPC := Lib.hid (fun t w h => Pieces_ok g t w hgm h)
    have HDT := Lib.hid (fun i k w => Data_any g i k w hw1 hw2)
    obtain ⟨p, hp⟩ : ∃ p : Nat, p = g.per.toNat := ⟨_, rfl⟩
    have hp8 : p ≤ 8 := by omega
    have hp0 : 1 ≤ p := by omega
    have HPP := Lib.hid hp
    clear hres hmay hgm hok hp1 hp2 hp
    dsimp only [Geo.v] at *
    go_enter Try.func42, Try.ntmps42
    go_wp2_with fail
    refine (HM.out _ ((HR.out.alloc (Nat.le_refl _) _).more (by simp))).mono ?_
    rintro e w1 ⟨rfl, hB⟩
    have HG1 := Lib.hid ((Blk.new w 23 (geoCells g)).below hB (by simp))
    have HB1 := Lib.hid (below_step ((Below.refl w.heap.size w).alloc (Nat.le_refl _) _) hB (by simp)); clear hB
    go_wp2_with fail
    go_loopg [4, 18] l.length (fun k out i wr => ∃ j : Nat, j ≤ l.length ∧ k = l.length - j ∧ i = .int .i64 j ∧ wr.ownsRow w.heap.size 52 2 out (cellsL g (l.take j)).length (prCells (cellsL g (l.take j))) ∧ Blk wr w.heap.size 23 (geoCells g) ∧ Below w.heap.size w wr)
    case atStart => exact ⟨0, by omega, rfl, rfl, World.ownsRow_nil _ _ _ _, HG1.out, HB1.out⟩
    case round =>
      obtain ⟨j, hj, rfl, rfl, hown, hG, hB⟩ := hrel
      by_cases hlt : j < l.length
      · obtain ⟨ad, rfl, had, x0, x1⟩ := reads_pr ((HR.out.below hB).more hB.size) hlt
        have hxs := (HALL.out l[j] (List.getElem_mem hlt)).2.2
        have HTK := Lib.hid (cellsL_take g l j hlt)
        have hcl : (cellsL g (l.take j)).length ≤ 800000 := by
          rw [cellsL_length, ← HPP.out]
          have h1 : (l.take j).length ≤ 100000 := by simp; omega
          calc (l.take j).length * p ≤ 100000 * 8 := Nat.mul_le_mul h1 hp8
            _ = 800000 := rfl
        obtain ⟨x, hx⟩ : ∃ x, l[j] = x := ⟨_, rfl⟩
        rw [hx] at x0 x1 hxs HTK
        clear hx had
        obtain ⟨xn, xt⟩ := x
        dsimp only at x0 x1 hxs
        obtain ⟨q0, q1, q2, q3, q4, q5, q6, q7⟩ := hG.cells8
        have HG := Lib.hid hG; clear hG
        have hBl := hB.size
        have hGl := HG.out.lt
        have HB := Lib.hid hB; clear hB
        have HO := Lib.hid hown; clear hown
        have HCO := Lib.hid (fun k h => cellsOf_take g ⟨xn, xt⟩ k h)
        have HCOL := Lib.hid (cellsOf_length g ⟨xn, xt⟩)
        have HPG := Lib.hid (fun k h => piecesL_get g.per xt k h)
        generalize cellsL g (l.take j) = CL at *
        generalize cellsOf g ⟨xn, xt⟩ = CX at *
        dsimp only at HCO
        obtain ⟨wo, rfl⟩ : ∃ wo : World, wo = wr := ⟨_, rfl⟩
        go_wp2_with fail
        refine (HPC.out xt _ hxs).mono ?_
        rintro e w2 ⟨vp, rfl, hownp, hB2⟩
        rw [← HPP.out] at hownp
        obtain ⟨gp, cp, rfl, hgp, hgpl⟩ := hownp.form (by omega)
        have HX2 := Lib.hid ((Blk.new wo 68 #[.int .i64 xn, .string xt]).below hB2 (by simp))
        have HG2 := Lib.hid ((HG.out.alloc (Obj.cells #[.int .i64 xn, .string xt] 68)).below hB2 (by simp; omega))
        have HO2 := Lib.hid (own_below (HO.out.alloc (Obj.cells #[.int .i64 xn, .string xt] 68)) hB2)
        have HB2 := Lib.hid (below_step (HB.out.alloc HB.out.size _) hB2 (by simp; omega))
        have HOP := Lib.hid hownp
        clear hownp hB2 HO HB HG q0 q1 q2 q3 q4 q5 q6 q7 x0 x1
        go_wp2_with fail
        go_loopg [4, 31] p (fun k out i wr => ∃ (kx : Nat) (LL : List Pr), kx ≤ p ∧ k = p - kx ∧ i = .int .i64 kx ∧ LL = CL ++ CX.take kx ∧ wr.ownsRow w.heap.size 52 2 out LL.length (prCells LL) ∧ Blk wr w.heap.size 23 (geoCells g) ∧ Blk wr wo.heap.size 68 #[.int .i64 xn, .string xt] ∧ wr.ownsRow (wo.heap.size + 1) 9 1 (.slice (some ⟨gp, 0, none⟩) p cp) p (txCells (piecesL g.per xt)) ∧ Below w.heap.size w wr)
        case atStart => exact ⟨0, CL, by omega, rfl, rfl, by simp, HO2.out, HG2.out, HX2.out, by have := HOP.out; simpa using this, HB2.out⟩
        case round =>
          clear HO2 HG2 HX2 HOP HB2
          obtain ⟨kx, LL, hkx, rfl, rfl, hLL, hown, hG, hX, hOP, hB⟩ := hrel
          have hLLl : LL.length ≤ 800100 := by rw [hLL, List.length_append, List.length_take, HCOL.out]; omega
          have HLL := Lib.hid hLL; clear hLL
          by_cases hk : kx < p
          · have hcell := hOP.cellAt kx (by omega)
            rw [HPG.out kx (by rw [← HPP.out]; exact hk)] at hcell
            obtain ⟨q0, q1, q2, q3, q4, q5, q6, q7⟩ := hG.cells8
            have xc0 : wr.cell? ⟨wo.heap.size, 0, none⟩ = some (.int .i64 xn) := hX.cell 0
            have HSN := Lib.hid (HCO.out kx (by rw [← HPP.out]; exact hk))
            have HDK := Lib.hid (fun w => HDT.out xn (kx : Int) w)
            generalize pieceB xt kx = PX at *
            generalize g.dataS xn (kx : Int) = DX at *
            obtain ⟨A1, c1, rfl, -, -, -⟩ := own_reads hown
            have HO := Lib.hid hown; clear hown
            have HG := Lib.hid hG; clear hG
            have HX := Lib.hid hX; clear hX
            have HOP := Lib.hid hOP; clear hOP
            have HB := Lib.hid hB; clear hB
            go_wp2_with fail
            refine (HDK.out _).mono ?_
            rintro e w3 ⟨rfl, hB3⟩
            clear q0 q1 q2 q3 q4 q5 q6 q7 xc0 hcell
            have HO3 := Lib.hid (own_below HO.out hB3)
            have HG3 := Lib.hid (HG.out.below hB3 HG.out.lt)
            have HX3 := Lib.hid (HX.out.below hB3 HX.out.lt)
            have HOP3 := Lib.hid (own_below HOP.out hB3)
            have HB3 := Lib.hid (below_step HB.out hB3 HB.out.size)
            have hsz3 := HB3.out.size
            clear hB3 HO HG HX HOP HB
            go_wp2_with (at_builtin; go_loud (refine wpList_append_own _ rfl (.tmp 36) (.tmp 44) 48 rfl w.heap.size 52 i0 _ 2 24 Try.underlying48 hi0 hz0 hz1 hz2 rfl (by decide) (.slice A1 LL.length c1) LL.length (prCells LL) (by rfl) (HO3.out.alloc _) ⟨w3.heap.size, 0, none⟩ 1 1 (prCell ⟨DX, PX⟩) (by rfl) (by rfl) (blk_news (Blk.new w3 52 #[.int .i64 DX, .string PX]) rfl) (prCell_one _) (by unfold maxLen; omega) (by omega) (by simp; omega) ?_); intro v1 w4 hown4 hg4 _)
            have hG4 := (HG3.out.alloc (Obj.cells #[.int .i64 DX, .string PX] 52)).grown hg4 (Ne.symm (own_blk_ne HO3.out HG3.out (by decide)))
            have hX4 := (HX3.out.alloc (Obj.cells #[.int .i64 DX, .string PX] 52)).grown hg4 (Ne.symm (own_blk_ne HO3.out HX3.out (by decide)))
            have hOP4 := (HOP3.out.alloc (Obj.cells #[.int .i64 DX, .string PX] 52)).kept hg4 (own_own_ne HOP3.out HO3.out (by decide))
            have hB4 := below_own (HB3.out.alloc HB3.out.size (Obj.cells #[.int .i64 DX, .string PX] 52)) (HO3.out.alloc _) hg4 (by simp; omega)
            have hO4 : w4.ownsRow w.heap.size 52 2 v1 (LL ++ [Pr.mk DX PX]).length (prCells (LL ++ [Pr.mk DX PX])) := by rw [prCells_snoc, List.length_append]; exact hown4
            have HREL : Hid (∃ (kx' : Nat) (LL' : List Pr), kx' ≤ p ∧ p - (kx + 1) = p - kx' ∧ Value.int .i64 ((kx : Int) + 1) = .int .i64 kx' ∧ LL' = CL ++ CX.take kx' ∧ w4.ownsRow w.heap.size 52 2 v1 LL'.length (prCells LL') ∧ Blk w4 w.heap.size 23 (geoCells g) ∧ Blk w4 wo.heap.size 68 #[.int .i64 xn, .string xt] ∧ w4.ownsRow (wo.heap.size + 1) 9 1 (.slice (some ⟨gp, 0, none⟩) p cp) p (txCells (piecesL g.per xt)) ∧ Below w.heap.size w w4) :=
              ⟨kx + 1, LL ++ [Pr.mk DX PX], by omega, rfl, by go_num, by rw [HLL.out, HSN.out, List.append_assoc], hO4, hG4, hX4, hOP4, hB4⟩
            clear hown4 hg4 hG4 hX4 hOP4 hB4 hO4 HO3 HG3 HX3 HOP3 HB3
            go_wp2_with fail
            go_roundg (p - (kx + 1))
            case rel => exact HREL.out
            case measure => omega
          · have hfin : LL = cellsL g (l.take (j + 1)) := by
              rw [HTK.out, HLL.out, List.take_of_length_le (by rw [HCOL.out, ← HPP.out]; omega)]
            rw [hfin] at hown
            have HREL : Hid (∃ j' : Nat, j' ≤ l.length ∧ l.length - (j + 1) = l.length - j' ∧ Value.int .i64 ((j : Int) + 1) = .int .i64 j' ∧ wr.ownsRow w.heap.size 52 2 u4 (cellsL g (l.take j')).length (prCells (cellsL g (l.take j'))) ∧ Blk wr w.heap.size 23 (geoCells g) ∧ Below w.heap.size w wr) :=
              ⟨j + 1, by omega, rfl, by go_num, hown, hG, hB⟩
            clear hfin hown hG hX hOP hB
            go_wp2_with fail
            go_roundg (l.length - (j + 1))
            case rel => exact HREL.out
            case measure => omega
      · have htl : l.take j = l := List.take_of_length_le (by omega)
        rw [htl] at hown
        have HP : Hid (CellsPost w (cellsL g l, 0) (.returned (.tuple #[u4, .int .i64 0])) wr) := ⟨_, rfl, hown, hB⟩
        clear htl hown hG hB
        go_wp2_with fail
        go_ret2
        exact HP.out
end Go.Proofs.Ytfonaceldfjneaa
