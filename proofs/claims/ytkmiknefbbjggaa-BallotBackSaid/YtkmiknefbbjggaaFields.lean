/- The walks of Fields, Ints. -/
import Derived.Test.YtkmiknefbbjggaaMake
import Derived.Deep.RegionHeld3
import Derived.Deep.DrawnRows
namespace Go.Proofs.Ytkmiknefbbjggaa
open Go.RowKit

def FieldsPost (w : World) (r : List Int × Bs × Int) (e : Ending) (w' : World) : Prop :=
  ∃ v, e = .returned (.tuple #[v, .string (mkS r.2.1), .int .i64 r.2.2]) ∧ w'.ownsRow w.heap.size 3 1 v r.1.length (icells r.1) ∧ Below w.heap.size w w'

theorem fieldsR_bad {k : Int} {s : Bs} {ws : List Int} (h : (ofR k s).2 ≠ 0) : fieldsR k s ws = ([], [], (ofR k s).2) := by rw [fieldsR, if_neg h]
theorem fieldsR_none {k : Int} {s : Bs} {ws : List Int} (h : (ofR k s).2 = 0) (ht : takeF (ofR k s).1 ws = none) : fieldsR k s ws = ([], [], 30) := by rw [fieldsR, if_pos h, ht]
theorem fieldsR_some {k : Int} {s : Bs} {ws : List Int} {r : List Int × Bs} (h : (ofR k s).2 = 0) (ht : takeF (ofR k s).1 ws = some r) : fieldsR k s ws = (r.1, r.2, 0) := by rw [fieldsR, if_pos h, ht]
theorem take_next {load : Bs} {ws : List Int} {j : Nat} {r : List Int × Bs} (hj : j < ws.length) (h : takeF load (ws.take j) = some r) :
    takeF load (ws.take (j + 1)) = if (getS r.2 0 ws[j]).2 = 0 then some (r.1 ++ [(getS r.2 0 ws[j]).1], r.2.drop ws[j].toNat) else none := by
  rw [List.take_succ_eq_append_getElem hj, takeF_snoc, h]; rfl
theorem take_stop {load : Bs} {ws : List Int} {j : Nat} (h : takeF load (ws.take (j + 1)) = none) : takeF load ws = none := by
  have := takeF_none load _ (ws.drop (j + 1)) h
  rwa [List.take_append_drop] at this
theorem extract_end (s : ByteArray) (k : Nat) : s.extract k s.size = mkS (s.data.toList.drop k) := by
  rw [← mkS_self (s.extract k s.size), Lib.extract_data]
  congr 1
  exact List.take_of_length_le (by simp)

set_option maxHeartbeats 1000000 in
set_option maxRecDepth 100000 in
theorem Fields_any (k : Int) (s : ByteArray) (Aw : Option Addr) (cw : Nat) (ws : List Int) (w : World) (hs : s.size ≤ 1000000000) (hwl : ws.length ≤ 1000000)
    (hw : Reads w w.heap.size 1 Aw ws.length (icells ws)) :
    Calls Try.prog 22 #[.int .i8 k, .string s, .slice Aw ws.length cw] w fun e w' => FieldsPost w (fieldsR k s.data.toList ws) e w' := by
  obtain ⟨i0, hi0, hz0, hz1, hz2⟩ := info_parts i64_info
  have hof := Of_any k s w hs
  have hbad := @fieldsR_bad k s.data.toList ws
  have hnone := @fieldsR_none k s.data.toList ws
  have hsome := @fieldsR_some k s.data.toList ws
  have hol : (ofR k s.data.toList).1.length ≤ 505 := by
    unfold ofR
    rcases openR_cases s.data.toList with h | ⟨k', l, h, _, _, hl, _⟩
    · rw [h]; simp
    · rw [h]; dsimp only; split <;> simp [hl]
  generalize (ofR k s.data.toList).1 = load at *
  generalize hoe : (ofR k s.data.toList).2 = oe at *
  have HW := Lib.hid hw; clear hw
  have HOF := Lib.hid hof; clear hof hoe
  by_cases he : oe = 0
  · subst he
    have HN := Lib.hid (hnone rfl); clear hnone
    have HSO := Lib.hid (@hsome · rfl); clear hsome hbad
    go_enter Try.func22, Try.ntmps22
    go_wp2_with fail
    refine HOF.out.mono ?_
    rintro e w1 ⟨rfl, hB1⟩
    have HB1 := Lib.hid hB1; clear hB1
    go_wp2_with fail
    go_loopg [6, 7, 8, 21] ws.length (fun gk v r7 e8 i wr => ∃ (j : Nat) (r : List Int × Bs), j ≤ ws.length ∧ gk = ws.length - j ∧ i = .int .i64 j ∧ e8 = .int .i64 0 ∧ r7 = .string (mkS r.2) ∧ takeF load (ws.take j) = some r ∧
        wr.ownsRow w.heap.size 3 1 v r.1.length (icells r.1) ∧ Below w.heap.size w wr)
    case atStart => exact ⟨0, ([], load), by omega, rfl, rfl, rfl, rfl, rfl, World.ownsRow_nil _ _ _ _, HB1.out⟩
    case round =>
      clear HB1
      obtain ⟨j, ⟨rl, rt⟩, hj, rfl, rfl, rfl, rfl, ht, hown, hB⟩ := hrel
      dsimp only at ht hown ⊢
      have htl := takeF_le _ _ _ ht
      dsimp only at htl
      rw [List.length_take] at htl
      have hrt : rt.length ≤ 505 := by omega
      have hrl : rl.length ≤ 1000000 := by omega
      have HT := Lib.hid ht; clear ht htl
      by_cases hlt : j < ws.length
      · obtain ⟨aw, rfl, haw, hcw⟩ := (HW.out.below hB).cell_ hlt (icells_get ws j hlt)
        have hnx := take_next hlt HT.out
        have hst := @take_stop load ws j
        dsimp only at hnx
        have hget := get_any (mkS rt) 0 ws[j] wr (by rw [mkS_size]; unfold maxLen; omega)
        rw [mkS_toList] at hget
        have hgz := @getS_zero rt ws[j]
        generalize ws[j] = wj at *
        generalize hg1 : (getS rt 0 wj).1 = n at *
        generalize hg2 : (getS rt 0 wj).2 = ge at *
        have HG := Lib.hid hget; clear hget hg1 hg2
        have HST := Lib.hid hst; clear hst
        have HNX := Lib.hid hnx; clear hnx
        by_cases hge : ge = 0
        · subst hge
          obtain ⟨hw1, hw6, hwl2⟩ := hgz rfl
          obtain ⟨wn, rfl⟩ := Int.eq_ofNat_of_zero_le (show 0 ≤ wj by omega)
          have hnew := HNX.out
          rw [if_pos rfl, Int.toNat_natCast] at hnew
          have HNEW := Lib.hid hnew; clear hnew HNX hgz HST
          have hsz : (mkS rt).size = rt.length := mkS_size rt
          have hex := extract_end (mkS rt) wn
          rw [mkS_toList] at hex
          have hwn : wn ≤ (mkS rt).size := by omega
          have hwn1 : (wn : Int) ≤ ((mkS rt).size : Int) := by omega
          have hwn0 : (0 : Int) ≤ (wn : Int) := by omega
          have HEX := Lib.hid hex; clear hex
          have HSZ := Lib.hid hsz; clear hsz
          have HO := Lib.hid hown; clear hown
          go_wp2_with fail
          refine HG.out.mono ?_
          rintro e w' ⟨rfl, rfl⟩
          go_wp2_with fail
          go_region_held3 (fun _ => True) (trivial)
            ((refine step_append_any _ (by rfl) (.tmp 35) (.tmp 37) 34 (by rfl) w.heap.size 3 i0 (.int .i64 0) 1 8 Try.underlying34 hi0 hz0 hz1 hz2 rfl (by omega) u6 rl.length (icells rl) (by rfl) (by exact HO.out.alloc _) _ (some ⟨wr.heap.size, 0, none⟩) 1 1 (icells [n]) (by rfl) (by exact reads_blk (Blk.new wr 3 #[Value.int IntKind.i64 n]) rfl rfl) (icells_one _) (by unfold maxLen; omega) (by omega) (by have := hB.size; simp; omega) ?_; intro v1 w1 hown1 hg1 hat1))
          have hB2 : Below w.heap.size w w1 := below_own (hB.alloc hB.size (Obj.cells #[Value.int IntKind.i64 n] 3)).drew (HO.out.alloc _).drew hg1 (by have := hB.size; show _ ≤ (wr.heap.push _).size; simp; omega)
          have hown2 : w1.ownsRow w.heap.size 3 1 v1 (rl ++ [n]).length (icells (rl ++ [n])) := by rw [List.length_append, icells_append]; exact hown1
          have HO2 := Lib.hid hown2; clear hown1 hown2 hg1 hat1 HO
          have HB2 := Lib.hid hB2; clear hB2 hB
          go_wp2_with fail
          go_roundg (ws.length - (j + 1))
          case rel => exact ⟨j + 1, (rl ++ [n], rt.drop wn), by omega, rfl, by go_num, rfl, by rw [HEX.out], HNEW.out, HO2.out, HB2.out⟩
          case measure => omega
        · have hgb : (ge != 0) = true := by simp [hge]
          have hnew := HNX.out
          rw [if_neg hge] at hnew
          have hres := HN.out (HST.out hnew)
          have HRES := Lib.hid hres; clear hres hnew hge HNX HST hgz
          go_wp2_with fail
          refine HG.out.mono ?_
          rintro e w' ⟨rfl, rfl⟩
          go_wp2_with fail
          go_ret3
          show FieldsPost w (fieldsR k s.data.toList ws) _ _
          rw [HRES.out]
          exact ⟨_, rfl, World.ownsRow_nil _ _ _ _, hB⟩
      · obtain rfl : j = ws.length := by omega
        have ht := HT.out
        rw [List.take_length] at ht
        have hres := HSO.out _ ht
        have HRES := Lib.hid hres; clear hres ht
        obtain ⟨A1, c1, rfl, -, -, -⟩ := own_reads hown
        go_wp2_with fail
        go_ret3
        show FieldsPost w (fieldsR k s.data.toList ws) _ _
        rw [HRES.out]
        exact ⟨_, rfl, hown, hB⟩
  · have hres := hbad he
    have HRES := Lib.hid hres; clear hres hbad hnone hsome
    have heb : (oe != 0) = true := by simp [he]
    clear he
    go_enter Try.func22, Try.ntmps22
    go_wp2_with fail
    refine HOF.out.mono ?_
    rintro e w1 ⟨rfl, hB1⟩
    have HB1 := Lib.hid hB1; clear hB1
    go_wp2_with fail
    go_loopg [6, 7, 8, 21] 1 (fun gk v r7 e8 i wr => v = .slice none 0 0 ∧ e8 = .int .i64 oe ∧ i = .int .i64 0 ∧ Below w.heap.size w wr)
    case atStart => exact ⟨rfl, rfl, rfl, HB1.out⟩
    case round =>
      clear HB1
      obtain ⟨rfl, rfl, rfl, hB⟩ := hrel
      by_cases hlt : 0 < ws.length
      · obtain ⟨aw, rfl, haw, hcw⟩ := (HW.out.below hB).cell_ hlt (icells_get ws 0 hlt)
        have hcw' : wr.cell? aw = some (.int .i64 ws[0]) := by simpa [Addr.add] using hcw
        go_wp2_with fail
        go_ret3
        show FieldsPost w (fieldsR k s.data.toList ws) _ _
        rw [HRES.out]
        exact ⟨_, rfl, World.ownsRow_nil _ _ _ _, hB⟩
      · have hle : ws.length ≤ 0 := by omega
        go_wp2_with fail
        go_ret3
        show FieldsPost w (fieldsR k s.data.toList ws) _ _
        rw [HRES.out]
        exact ⟨_, rfl, World.ownsRow_nil _ _ _ _, hB⟩

set_option maxHeartbeats 1000000 in
theorem Ints_any (A B : Option Addr) (ca cb : Nat) (a b : List Int) (w : World) (hal : a.length ≤ 1000000000) (hbl : b.length ≤ 1000000000)
    (ha : Reads w w.heap.size 1 A a.length (icells a)) (hb : Reads w w.heap.size 1 B b.length (icells b)) :
    Calls Try.prog 24 #[.slice A a.length ca, .slice B b.length cb] w fun e w' => e = .returned (.bool (decide (a = b))) ∧ Below w.heap.size w w' := by
  by_cases hlen : a.length = b.length
  · have hlb : ((a.length : Int) != (b.length : Int)) = false := by simp [hlen]
    have hle1 : a.length ≤ b.length := by omega
    have HLEN := Lib.hid hlen; clear hlen
    have HA := Lib.hid ha; clear ha
    have HB := Lib.hid hb; clear hb
    go_enter Try.func24, Try.ntmps24
    go_wp2_with fail
    go_loopg [5] a.length (fun k i wr => ∃ j : Nat, j ≤ a.length ∧ k = a.length - j ∧ i = .int .i64 j ∧ a.take j = b.take j ∧ Below w.heap.size w wr)
    case atStart => exact ⟨0, by omega, rfl, rfl, rfl, Below.refl _ _⟩
    case round =>
      obtain ⟨j, hj, rfl, rfl, ht, hB⟩ := hrel
      have HT := Lib.hid ht; clear ht
      by_cases hlt : j < a.length
      · have hlt2 : j < b.length := by omega
        obtain ⟨aa, rfl, _, hca⟩ := (HA.out.below hB).cell_ hlt (icells_get a j hlt)
        obtain ⟨bb, rfl, _, hcb⟩ := (HB.out.below hB).cell_ hlt2 (icells_get b j hlt2)
        have hi1 : (0 : Int) ≤ (j : Int) := by omega
        have hi2 : (j : Int) < (a.length : Int) := by omega
        have hi3 : (j : Int) < (b.length : Int) := by omega
        by_cases heq : a[j] = b[j]
        · have hnb : (a[j] != b[j]) = false := by simp [heq]
          have HEQ := Lib.hid heq; clear heq
          go_wp2_with fail
          go_quiet (fail)
          go_wp2_with fail
          go_roundg (a.length - (j + 1))
          case rel => exact ⟨j + 1, by omega, rfl, by go_num, by rw [List.take_succ_eq_append_getElem hlt, List.take_succ_eq_append_getElem hlt2, HT.out, HEQ.out], below_drewN hB _⟩
          case measure => omega
        · have hnb : (a[j] != b[j]) = true := by simp [heq]
          have hd : decide (a = b) = false := decide_eq_false (by rintro rfl; exact heq rfl)
          have HD := Lib.hid hd; clear hd heq
          go_wp2_with fail
          go_quiet (fail)
          go_wp2_with fail
          go_ret
          exact ⟨by rw [HD.out]; rfl, below_drewN hB _⟩
      · obtain rfl : j = a.length := by omega
        have hd : decide (a = b) = true := by
          have ht := HT.out
          rw [List.take_length, List.take_of_length_le (by have := HLEN.out; omega)] at ht
          exact decide_eq_true ht
        have HD := Lib.hid hd; clear hd
        go_wp2_with fail
        go_ret
        exact ⟨by rw [HD.out]; rfl, hB⟩
  · have hlb : ((a.length : Int) != (b.length : Int)) = true := by simp; omega
    have hd : decide (a = b) = false := decide_eq_false (by rintro rfl; exact hlen rfl)
    rw [hd]
    clear ha hb hlen hd
    go_enter Try.func24, Try.ntmps24
    go_wp2_with fail
    go_ret
    exact ⟨rfl, Below.refl _ _⟩
end Go.Proofs.Ytkmiknefbbjggaa
