/- The walks of Make, Fields, Ints. -/
import Derived.Test.YtfonaceldfjneaaOpen
import Derived.Test.YtfonaceldfjneaaMakePlain
namespace Go.Proofs.Ytfonaceldfjneaa
open Go.RowKit

theorem putS_single (b : Bs) (wd n : Int) : putS b wd [n] = if fitsB n wd = true then some (b ++ leBytes wd.toNat n.toNat) else none := by
  by_cases h : fitsB n wd = true
  · have hf := of_decide_eq_true h
    rw [putS, if_pos ⟨⟨hf.1, hf.2.1⟩, by simp [h]⟩, if_pos h]
    simp [putAll]
  · rw [if_neg h, putS, if_neg (fun h' => h (by simpa using h'.2))]

theorem makeR_none {k : Int} {rest : Bs} {ws l : List Int} (h : fieldsB [] ws l = none) : makeR k rest ws l = ([], 2) := by rw [makeR, h]
theorem makeR_some {k : Int} {rest b : Bs} {ws l : List Int} (h : fieldsB [] ws l = some b) : makeR k rest ws l = sealR k (b ++ rest) := by rw [makeR, h]
theorem fields_next {ws l : List Int} {b : Bs} {j : Nat} (hw : j < ws.length) (hl : j < l.length) (h : fieldsB [] (ws.take j) (l.take j) = some b) :
    fieldsB [] (ws.take (j + 1)) (l.take (j + 1)) = if fitsB l[j] ws[j] = true ∧ (b ++ leBytes ws[j].toNat l[j].toNat).length ≤ 505 then some (b ++ leBytes ws[j].toNat l[j].toNat) else none := by
  rw [List.take_succ_eq_append_getElem hw, List.take_succ_eq_append_getElem hl, fieldsB_snoc _ _ _ _ _ (by simp; omega), h]; rfl
theorem fields_stop {ws l : List Int} {j : Nat} (hw : j < ws.length) (hl : j < l.length) (h : fieldsB [] (ws.take (j + 1)) (l.take (j + 1)) = none) : fieldsB [] ws l = none := by
  have := fieldsB_none [] _ _ (ws.drop (j + 1)) (l.drop (j + 1)) (by simp; omega) h
  rwa [List.take_append_drop, List.take_append_drop] at this

def MakePost (w : World) (r : Bs × Int) (e : Ending) (w' : World) : Prop := e = .returned (.tuple #[.string (mkS r.1), .int .i64 r.2]) ∧ Below w.heap.size w w'

set_option maxHeartbeats 1000000 in
set_option maxRecDepth 100000 in
theorem Make_any (k : Int) (rest : ByteArray) (Aw Al : Option Addr) (cw cl : Nat) (ws l : List Int) (w : World) (hk : k ≤ 127) (hrest : rest.size ≤ 1000000) (_hll : l.length ≤ 1000000) (hwl : ws.length ≤ 1000000)
    (hw : Reads w w.heap.size 1 Aw ws.length (icells ws)) (hl : Reads w w.heap.size 1 Al l.length (icells l)) :
    Calls Try.prog 55 #[.int .i8 k, .string rest, .slice Aw ws.length cw, .slice Al l.length cl] w fun e w' => MakePost w (makeR k rest.data.toList ws l) e w' := by
  by_cases hlen : ws.length = l.length
  · have hlb : ((ws.length : Int) != (l.length : Int)) = false := by simp [hlen]
    have hlw : l.length ≤ ws.length := by omega
    have hlw2 : ws.length ≤ l.length := by omega
    clear hlen
    have HW := Lib.hid hw; clear hw
    have HL := Lib.hid hl; clear hl
    go_enter Try.func55, Try.ntmps55
    go_wp2_with fail
    have hs0 : Sect (w.alloc (Obj.cells #[.slice none 0 0, .int .i64 0, .int .i8 k] 111)) w.heap.size (.slice none 0 0) 0 k := Blk.new w _ _
    have HS0 := Lib.hid hs0; clear hs0
    go_loopg [23] l.length (fun gk i wr => ∃ (j : Nat) (b : Bs) (A : Option Addr) (c : Nat), j ≤ l.length ∧ gk = l.length - j ∧ i = .int .i64 j ∧ fieldsB [] (ws.take j) (l.take j) = some b ∧ b.length ≤ 505 ∧
        Sect wr w.heap.size (.slice A b.length c) 0 k ∧ Reads wr wr.heap.size 1 A b.length (bcells b) ∧ Below w.heap.size w wr)
    case atStart => exact ⟨0, [], none, 0, by omega, rfl, rfl, rfl, by simp, HS0.out, Reads.none_, (Below.refl _ _).alloc (Nat.le_refl _) _⟩
    case round =>
      clear HS0
      obtain ⟨j, b, A, c, hj, rfl, rfl, hf, hb5, hs, hr, hB⟩ := hrel
      have HF := Lib.hid hf; clear hf
      by_cases hlt : j < l.length
      · have hlt2 : j < ws.length := by omega
        obtain ⟨al, rfl, hal, hcl⟩ := (HL.out.below hB).cell_ hlt (icells_get l j hlt)
        obtain ⟨aw, rfl, haw, hcw⟩ := (HW.out.below hB).cell_ hlt2 (icells_get ws j hlt2)
        have hnx := fields_next hlt2 hlt HF.out
        have hps := putS_single b ws[j] l[j]
        have HNX := Lib.hid hnx; clear hnx
        have HPS := Lib.hid hps; clear hps
        have HSTOP := Lib.hid (@fields_stop ws l j hlt2 hlt)
        generalize ws[j] = wj at *
        generalize l[j] = nj at *
        have HS := Lib.hid hs; clear hs
        have HR := Lib.hid hr; clear hr
        have hsz := hB.size
        have HB := Lib.hid hB; clear hB
        have hcw2 : ∀ o, (wr.alloc o).cell? (aw.add j) = some (.int .i64 wj) := fun o => (World.cell?_alloc_lt wr o (aw.add j) (by rw [block_of_add]; omega)).trans hcw
        have hi1 : (0 : Int) ≤ (j : Int) := by omega
        have hi2 : (j : Int) < (ws.length : Int) := by omega
        go_wp2_with fail
        go_region_with (first
          | (go_at_call 60; refine (sput_any w.heap.size A (some ⟨wr.heap.size, 0, none⟩) c 1 0 k wj b [nj] _ (by simp; omega) (by exact HS.out.alloc _) (by exact (HR.out.alloc (Nat.le_refl _) _).more (by simp)) (by exact reads_blk (Blk.new wr 3 #[Value.int IntKind.i64 nj]) rfl rfl)).mono ?_; rintro e w5 ⟨rfl, hpost⟩))
        all_goals
          rw [HPS.out] at hpost
          by_cases hfit : fitsB nj wj = true
          · rw [if_pos hfit] at hpost
            obtain ⟨v, hs5, hown5, hg5⟩ := hpost
            have hB5 : Below w.heap.size w w5 := below_only ((HB.out.alloc hsz (Obj.cells #[Value.int IntKind.i64 nj] 3)).drew) hg5 (Nat.le_refl _)
            obtain ⟨A5, c5, rfl, -, -, hr5⟩ := own_reads hown5
            have d1 : w5.cell? ⟨w.heap.size, 1, none⟩ = some (.int .i64 0) := by rw [hs5.cell 1]; rfl
            have d0 : w5.cell? ⟨w.heap.size, 0, none⟩ = some (.slice A5 (b ++ leBytes wj.toNat nj.toNat).length c5) := by rw [hs5.cell 0]; rfl
            have HS5 := Lib.hid hs5; clear hs5
            have HR5 := Lib.hid hr5; clear hr5 hown5 hg5
            have HB5 := Lib.hid hB5; clear hB5
            generalize hnb : b ++ leBytes wj.toNat nj.toNat = nb at *
            have HNB := Lib.hid hnb; clear hnb
            by_cases h5 : nb.length ≤ 505
            · have hnew := HNX.out
              rw [if_pos ⟨hfit, h5⟩] at hnew
              have HNEW := Lib.hid hnew; clear hnew
              have h5' : (nb.length : Int) ≤ 505 := by omega
              clear hfit
              go_wp2_with fail
              go_roundg (l.length - (j + 1))
              case rel => exact ⟨j + 1, nb, A5, c5, by omega, rfl, by go_num, HNEW.out, h5, HS5.out, HR5.out, HB5.out⟩
              case measure => omega
            · have hnew := HNX.out
              rw [if_neg (fun h => h5 h.2)] at hnew
              have hm := makeR_none (k := k) (rest := rest.data.toList) (HSTOP.out hnew)
              have HM := Lib.hid hm; clear hm hnew
              have h5' : (505 : Int) < (nb.length : Int) := by omega
              clear hfit
              go_wp2_with fail
              go_ret2
              show MakePost w (makeR k rest.data.toList ws l) _ _
              rw [HM.out]
              exact ⟨rfl, HB5.out⟩
          · rw [if_neg hfit] at hpost
            obtain ⟨hs5, hg5⟩ := hpost
            have hB5 : Below w.heap.size w w5 := below_only ((HB.out.alloc hsz (Obj.cells #[Value.int IntKind.i64 nj] 3)).drew) hg5 (Nat.le_refl _)
            have d1 : w5.cell? ⟨w.heap.size, 1, none⟩ = some (.int .i64 2) := by rw [hs5.cell 1]; rfl
            have hnew := HNX.out
            rw [if_neg (fun h => hfit h.1)] at hnew
            have hm := makeR_none (k := k) (rest := rest.data.toList) (HSTOP.out hnew)
            have HM := Lib.hid hm; clear hm hnew
            have HB5 := Lib.hid hB5; clear hB5 hg5 hs5 hfit
            go_wp2_with fail
            go_ret2
            show MakePost w (makeR k rest.data.toList ws l) _ _
            rw [HM.out]
            exact ⟨rfl, HB5.out⟩
      · obtain rfl : j = l.length := by omega
        have hf := HF.out
        rw [List.take_length, List.take_of_length_le (by omega)] at hf
        have hm := makeR_some (k := k) (rest := rest.data.toList) hf
        have HM := Lib.hid hm; clear hm hf
        have d0 : wr.cell? ⟨w.heap.size, 0, none⟩ = some (.slice A b.length c) := by rw [hs.cell 0]; rfl
        have hcv := run_string_of (P := Try.prog) wr 80 9 5 Try.underlying80 Try.underlying5 Try.underlying9 wr.heap.size A c b hr
        have hms := mkS_size b
        have hse := sealed_any w.heap.size A b.length c k (mkS b ++ rest) wr hk hs
        rw [show (mkS b ++ rest).data.toList = b ++ rest.data.toList by simp [mkS]] at hse
        have HSE := Lib.hid hse; clear hse hs hr
        go_wp2_with fail
        refine HSE.out.mono ?_
        rintro e w5 ⟨rfl, hg5⟩
        have HB5 := Lib.hid (below_only hB hg5 (Nat.le_refl _)); clear hg5
        go_wp2_with fail
        go_ret2
        show MakePost w (makeR k rest.data.toList ws l) _ _
        rw [HM.out]
        exact ⟨rfl, HB5.out⟩
  · have hlb : ((ws.length : Int) != (l.length : Int)) = true := by simp; omega
    have hm := makeR_none (k := k) (rest := rest.data.toList) (fieldsB_len [] ws l hlen)
    rw [hm]
    clear hw hl hm hlen
    go_enter Try.func55, Try.ntmps55
    go_wp2_with fail
    go_ret2
    exact ⟨rfl, (Below.refl _ _).alloc (Nat.le_refl _) _⟩
end Go.Proofs.Ytfonaceldfjneaa
