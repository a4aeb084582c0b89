/- The walk of buffer.Pieces. -/
import Derived.Test.YtfonaceldfjneaaBuf
import Derived.RegionTactic
import Derived.BigRegion
import Derived.OwnWalk
namespace Go.Proofs.Ytfonaceldfjneaa
open Go.RowKit

theorem str_info : (Try.prog.info? 9).map (fun i => (i.zero, i.size, i.bytes)) = some (some (.string ⟨#[]⟩), 1, 16) := by kernel_rfl
theorem ext_end (s : ByteArray) (k : Nat) : s.extract k s.size = mkS (s.data.toList.drop k) := by
  rw [← mkS_self (s.extract k s.size), Lib.extract_data, List.take_of_length_le (by simp)]
theorem ext_front (s : ByteArray) (k : Nat) : s.extract 0 k = mkS (s.data.toList.take k) := by
  rw [← mkS_self (s.extract 0 k), Lib.extract_data]; simp

def PiecesPost (g : Geo) (t : ByteArray) (w : World) (e : Ending) (w' : World) : Prop :=
  ∃ v, e = .returned (.tuple #[v, .int .i64 0]) ∧ w'.ownsRow w.heap.size 9 1 v g.per.toNat (txCells (piecesL g.per t)) ∧ Below w.heap.size w w'

set_option maxHeartbeats 2000000 in
set_option maxRecDepth 100000 in
theorem Pieces_ok (g : Geo) (t : ByteArray) (w : World) (hmay : g.may = true) (hs : (t.size : Int) ≤ g.per * 256) :
    Calls Try.prog 53 #[g.v, .string t] w fun e w' => PiecesPost g t w e w' := by
  have hok := Geo.may_ok hmay
  have hp1 := hok.p1
  have hp2 := hok.p2
  have hwt := hok.e3
  have hwt0 := hok.e2
  have hwt1 := hok.e1
  have HM := Lib.hid (fun w => May_any g w (by omega) (by omega))
  rw [hmay] at HM
  clear hmay hok hwt hwt0 hwt1
  obtain ⟨i0, hi0, hz0, hz1, hz2⟩ := info_parts str_info
  obtain ⟨p, hp⟩ : ∃ p : Nat, p = g.per.toNat := ⟨_, rfl⟩
  have hpp : g.per = (p : Int) := by omega
  have hp8 : p ≤ 8 := by omega
  have hby : i0.bytes * p ≤ 281474976710656 := by rw [hz2]; omega
  have HPP := Lib.hid hp; clear hp
  have HPP2 := Lib.hid hpp; clear hpp
  have hzz : (Value.string ⟨#[]⟩).cells = #[Value.string ⟨#[]⟩] := rfl
  dsimp only [Geo.v]
  go_enter Try.func53, Try.ntmps53
  go_wp2_with fail
  refine (HM.out _).mono ?_
  rintro e w1 ⟨rfl, hB⟩
  have hbk := (Blk.new w 23 #[.int .i64 g.nodes, .int .i64 g.slots, .int .i64 g.blocks, .int .i64 g.per, .int .i64 g.journal, .int .i64 g.log, .int .i64 g.lease, .int .i64 g.wait]).below hB (by simp)
  have c3 : w1.cell? ⟨w.heap.size, 3, none⟩ = some (.int .i64 g.per) := hbk.cell 3
  have hB1 : Below w.heap.size w w1 := below_step ((Below.refl _ _).alloc (Nat.le_refl _) _) hB (by simp)
  have HB1 := Lib.hid hB1; clear hB1 hB hbk
  go_wp2_with (at_make; go_loud (refine wpList_make_len _ rfl (.tmp 19) (.tmp 19) 29 rfl w.heap.size 9 i0 (.string ⟨#[]⟩) Try.underlying29 hi0 hz0 hz1 hzz .i64 .i64 g.per g.per p p rfl rfl HPP2.out HPP2.out (Nat.le_refl _) hby (by unfold maxLen; omega) HB1.out.size ?_); intro w2 hown2 hg2)
  have hB2 := below_none HB1.out hg2 HB1.out.size
  clear hg2 c3
  have HO := Lib.hid hown2; clear hown2
  have HB2 := Lib.hid hB2; clear hB2
  go_wp2_with fail
  go_loopg [1, 23] p (fun k tx i wr => ∃ j : Nat, j ≤ p ∧ k = p - j ∧ i = .int .i64 j ∧ tx = .string (mkS (t.data.toList.drop (256 * j))) ∧ wr.ownsRow w.heap.size 9 1 (.slice (some ⟨w1.heap.size, 0, none⟩) p p) p (txCells (pcs p t j)) ∧ Below w.heap.size w wr)
  case atStart => exact ⟨0, by omega, rfl, rfl, by rw [Nat.mul_zero, List.drop_zero, mkS_self], by rw [pcs_zero]; exact HO.out, HB2.out⟩
  case round =>
    obtain ⟨j, hj, rfl, rfl, rfl, hown, hB⟩ := hrel
    by_cases hlt : j < p
    · have hcell := hown.cellAt j (by omega)
      rw [txCells_get _ _ (by rw [pcs_length (by omega)]; omega)] at hcell
      have hfz := hown.frozenAt j
      have hsz := HB1.out.size
      have HO2 := Lib.hid hown; clear hown HO
      have HB := Lib.hid hB; clear hB
      obtain ⟨R, hR⟩ : ∃ R, R = t.data.toList.drop (256 * j) := ⟨_, rfl⟩
      rw [← hR]
      have hRl : R.length ≤ 10000 := by rw [hR, List.length_drop, bytes_length]; omega
      have hR2 : t.data.toList.drop (256 * (j + 1)) = R.drop 256 := by rw [hR, List.drop_drop]; congr 1
      have hRp : pieceB t j = mkS (R.take 256) := by rw [hR]; rfl
      have HR2 := Lib.hid hR2; clear hR2
      have HRP := Lib.hid hRp; clear hRp hR
      have hms : (mkS R).size = R.length := mkS_size R
      have hx0 : ∀ n, (mkS R).extract 0 n = mkS (R.take n) := fun n => by rw [ext_front, mkS_toList]
      have hx1 : ∀ n, (mkS R).extract n (mkS R).size = mkS (R.drop n) := fun n => by rw [ext_end, mkS_toList]
      have HX0 := Lib.hid hx0; clear hx0
      have HX1 := Lib.hid hx1; clear hx1
      obtain ⟨X, hX⟩ : ∃ X, X = mkS R := ⟨_, rfl⟩
      rw [← hX] at hms HX0 HX1 ⊢
      have HXE := Lib.hid hX; clear hX
      by_cases hsm : R.length ≤ 256
      · have hxs : X.size ≤ 256 := by omega
        have hxs' : (X.size : Int) ≤ 256 := by omega
        have hpc : pieceB t j = X := by rw [HRP.out, List.take_of_length_le hsm, HXE.out]
        have hdr : mkS (t.data.toList.drop (256 * (j + 1))) = ByteArray.empty := by rw [HR2.out, List.drop_of_length_le hsm]; rfl
        have HPC := Lib.hid hpc; clear hpc
        have HDR := Lib.hid hdr; clear hdr hms HX0 HX1
        go_wp2_with fail
        go_region
        go_wp2_with fail
        have hst := HO2.out.stored j (.string X)
        have hown3 : (wr.setCell ⟨w1.heap.size, j, none⟩ (.string X)).ownsRow w.heap.size 9 1 (.slice (some ⟨w1.heap.size, 0, none⟩) p p) p (txCells (pcs p t (j + 1))) := by
          rw [← pcs_set hlt, HPC.out]; exact hst.1
        have hB3 := HB.out.setCell (p := ⟨w1.heap.size, j, none⟩) hsz (.string X)
        clear hst
        go_roundg (p - (j + 1))
        case rel => exact ⟨j + 1, by omega, rfl, by go_num, by rw [HDR.out], hown3.drew, hB3.drew⟩
        case measure => omega
      · have hxs : 256 ≤ X.size := by omega
        have hxs' : ¬ (X.size : Int) ≤ 256 := by omega
        have hxs2 : (256 : Int) ≤ (X.size : Int) := by omega
        have hpc : pieceB t j = X.extract 0 256 := by rw [HRP.out, HX0.out]
        have hdr : mkS (t.data.toList.drop (256 * (j + 1))) = X.extract 256 X.size := by rw [HR2.out, HX1.out]
        have HPC := Lib.hid hpc; clear hpc
        have HDR := Lib.hid hdr; clear hdr HX0 HX1
        have HMS := Lib.hid hms; clear hms
        go_wp2_with fail
        go_region
        go_wp2_with fail
        have hst := HO2.out.stored j (.string (X.extract 0 256))
        have hown3 : (wr.setCell ⟨w1.heap.size, j, none⟩ (.string (X.extract 0 256))).ownsRow w.heap.size 9 1 (.slice (some ⟨w1.heap.size, 0, none⟩) p p) p (txCells (pcs p t (j + 1))) := by
          rw [← pcs_set hlt, HPC.out]; exact hst.1
        have hB3 := HB.out.setCell (p := ⟨w1.heap.size, j, none⟩) hsz (.string (X.extract 0 256))
        clear hst
        go_roundg (p - (j + 1))
        case rel => exact ⟨j + 1, by omega, rfl, by go_num, by rw [HDR.out], hown3.drew, hB3.drew⟩
        case measure => omega
    · have hpe : pcs p t j = piecesL g.per t := by
        obtain rfl : j = p := by omega
        rw [pcs_all, piecesL, ← HPP.out]
      rw [hpe] at hown
      have hpg := HPP.out
      have HPG : Hid (∃ v, Ending.returned (.tuple #[.slice (some ⟨w1.heap.size, 0, none⟩) p p, .int .i64 0]) = .returned (.tuple #[v, .int .i64 0]) ∧ wr.ownsRow w.heap.size 9 1 v g.per.toNat (txCells (piecesL g.per t)) ∧ Below w.heap.size w wr) :=
        ⟨_, rfl, by rw [← hpg]; exact hown, hB⟩
      clear hpe hown hB hpg
      go_wp2_with fail
      go_ret2
      exact HPG.out
end Go.Proofs.Ytfonaceldfjneaa
