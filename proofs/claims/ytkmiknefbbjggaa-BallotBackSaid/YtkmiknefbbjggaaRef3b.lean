/- breakwaterref03: the walks of Make, Fields. -/
import Derived.Test.YtkmiknefbbjggaaRef3
import Derived.Test.YtkmiknefbbjggaaFields
namespace Go.Proofs.Ytkmiknefbbjggaa
open Go.RowKit

def PutU (w : World) (r : Option Bs) (A : Option Addr) (n : Nat) (ec : Int) (w' : World) : Prop :=
  match r with
  | some x => ec = 0 ∧ n = x.length ∧ Reads w' w'.heap.size 1 A x.length (bcells x) ∧ Below w.heap.size w w'
  | none => ec = 2 ∧ Below w.heap.size w w'
theorem put_uni {w w' : World} {r : Option Bs} {e : Ending} (h : PutPost w r e w') : ∃ A n c ec, e = .returned (.tuple #[.slice A n c, .int .i64 ec]) ∧ PutU w r A n ec w' := by
  cases r with
  | none => obtain ⟨rfl, hB⟩ := h; exact ⟨_, _, _, _, rfl, rfl, hB⟩
  | some x =>
    obtain ⟨v, rfl, hown, hB⟩ := h
    obtain ⟨A, c, rfl, -, -, hr⟩ := own_reads hown
    exact ⟨_, _, _, _, rfl, rfl, rfl, hr, hB⟩

set_option maxHeartbeats 1000000 in
set_option maxRecDepth 100000 in
theorem rMake_any (k : Int) (rest : ByteArray) (Aw Al : Option Addr) (cw cl : Nat) (ws l : List Int) (w : World) (hk : k ≤ 127) (hrest : rest.size ≤ 1000000) (_hll : l.length ≤ 1000000) (hwl : ws.length ≤ 1000000)
    (hw : Reads w w.heap.size 1 Aw ws.length (icells ws)) (hl : Reads w w.heap.size 1 Al l.length (icells l)) :
    Calls Try.prog 21 #[.int .i8 k, .string rest, .slice Aw ws.length cw, .slice Al l.length cl] w fun e w' => MakePost w (makeR k rest.data.toList ws l) e w' := by
  by_cases hlen : ws.length = l.length
  · have hlb : ((ws.length : Int) != (l.length : Int)) = false := by simp [hlen]
    have hlw : l.length ≤ ws.length := by omega
    have hlw2 : ws.length ≤ l.length := by omega
    clear hlen
    have HW := Lib.hid hw; clear hw
    have HL := Lib.hid hl; clear hl
    go_enter Try.func21, Try.ntmps21
    go_wp2_with fail
    go_loopg [10, 11] l.length (fun gk v i wr => ∃ (j : Nat) (b : Bs) (A : Option Addr) (c : Nat), j ≤ l.length ∧ gk = l.length - j ∧ i = .int .i64 j ∧ v = .slice A b.length c ∧ fieldsB [] (ws.take j) (l.take j) = some b ∧ b.length ≤ 505 ∧
        Reads wr wr.heap.size 1 A b.length (bcells b) ∧ Below w.heap.size w wr)
    case atStart => exact ⟨0, [], none, 0, by omega, rfl, rfl, rfl, rfl, by simp, Reads.none_, Below.refl _ _⟩
    case round =>
      obtain ⟨j, b, A, c, hj, rfl, rfl, rfl, hf, hb5, hr, hB⟩ := hrel
      have HF := Lib.hid hf; clear hf
      by_cases hlt : j < l.length
      · have hlt2 : j < ws.length := by omega
        obtain ⟨al, rfl, hal, hcl⟩ := (HL.out.below hB).cell_ hlt (icells_get l j hlt)
        obtain ⟨aw, rfl, haw, hcw⟩ := (HW.out.below hB).cell_ hlt2 (icells_get ws j hlt2)
        have hnx := fields_next hlt2 hlt HF.out
        have hps := putS_single b ws[j] l[j]
        have HNX := Lib.hid hnx; clear hnx
        have HPS := Lib.hid hps; clear hps
        have HSTOP := Lib.hid (@fields_stop ws l j hlt2 hlt)
        generalize ws[j] = wj at *
        generalize l[j] = nj at *
        have HR := Lib.hid hr; clear hr
        have hsz := hB.size
        have HB := Lib.hid hB; clear hB
        have hcw2 : ∀ o, (wr.alloc o).cell? (aw.add j) = some (.int .i64 wj) := fun o => (World.cell?_alloc_lt wr o (aw.add j) (by rw [block_of_add]; omega)).trans hcw
        have hi1 : (0 : Int) ≤ (j : Int) := by omega
        have hi2 : (j : Int) < (ws.length : Int) := by omega
        have hi3 : (j : Int) < (l.length : Int) := by omega
        go_wp2_with fail
        go_region_with (first
          | (go_at_call 41; refine (rPut_any A (some ⟨wr.heap.size, 0, none⟩) c 1 wj b [nj] _ (by simp; omega) (by exact (HR.out.alloc (Nat.le_refl _) _).more (by simp)) (by exact reads_blk (Blk.new wr 3 #[Value.int IntKind.i64 nj]) rfl rfl)).mono ?_; intro e w5 hpost; obtain ⟨A5, n5, c5, ec, rfl, hU⟩ := put_uni hpost; clear hpost))
        all_goals
          rw [HPS.out] at hU
          by_cases hfit : fitsB nj wj = true
          · rw [if_pos hfit] at hU
            obtain ⟨rfl, rfl, hr5, hB5'⟩ := hU
            have hB5 : Below w.heap.size w w5 := below_step ((HB.out.alloc hsz (Obj.cells #[Value.int IntKind.i64 nj] 3)).drew) hB5' (by exact (HB.out.alloc hsz (Obj.cells #[Value.int IntKind.i64 nj] 3)).size)
            have HR5 := Lib.hid hr5; clear hr5
            have HB5 := Lib.hid hB5; clear hB5 hB5'
            generalize hnb : b ++ leBytes wj.toNat nj.toNat = nb at *
            have HNB := Lib.hid hnb; clear hnb
            by_cases h5 : nb.length ≤ 505
            · have hnew := HNX.out
              rw [if_pos ⟨hfit, h5⟩] at hnew
              have HNEW := Lib.hid hnew; clear hnew
              have h5' : (nb.length : Int) ≤ 505 := by omega
              clear hfit
              go_wp2_with fail
              go_roundg (l.length - (j + 1))
              case rel => exact ⟨j + 1, nb, A5, c5, by omega, rfl, by go_num, rfl, HNEW.out, h5, HR5.out, HB5.out⟩
              case measure => omega
            · have hnew := HNX.out
              rw [if_neg (fun h => h5 h.2)] at hnew
              have hm := makeR_none (k := k) (rest := rest.data.toList) (HSTOP.out hnew)
              have HM := Lib.hid hm; clear hm hnew
              have h5' : (505 : Int) < (nb.length : Int) := by omega
              clear hfit
              go_wp2_with fail
              go_ret2
              show MakePost w (makeR k rest.data.toList ws l) _ _
              rw [HM.out]
              exact ⟨rfl, HB5.out⟩
          · rw [if_neg hfit] at hU
            obtain ⟨rfl, hB5'⟩ := hU
            have hB5 : Below w.heap.size w w5 := below_step ((HB.out.alloc hsz (Obj.cells #[Value.int IntKind.i64 nj] 3)).drew) hB5' (by exact (HB.out.alloc hsz (Obj.cells #[Value.int IntKind.i64 nj] 3)).size)
            have hnew := HNX.out
            rw [if_neg (fun h => hfit h.1)] at hnew
            have hm := makeR_none (k := k) (rest := rest.data.toList) (HSTOP.out hnew)
            have HM := Lib.hid hm; clear hm hnew
            have HB5 := Lib.hid hB5; clear hB5 hB5' hfit
            go_wp2_with fail
            go_ret2
            show MakePost w (makeR k rest.data.toList ws l) _ _
            rw [HM.out]
            exact ⟨rfl, HB5.out⟩
      · obtain rfl : j = l.length := by omega
        have hf := HF.out
        rw [List.take_length, List.take_of_length_le (by omega)] at hf
        have hm := makeR_some (k := k) (rest := rest.data.toList) hf
        have HM := Lib.hid hm; clear hm hf
        have hcv := run_string_of (P := Try.prog) wr 28 9 5 Try.underlying28 Try.underlying5 Try.underlying9 wr.heap.size A c b hr
        have hms := mkS_size b
        have hse := rSeal_any k (mkS b ++ rest) wr hk (by rw [ByteArray.size_append, hms]; omega)
        rw [show (mkS b ++ rest).data.toList = b ++ rest.data.toList by simp [mkS]] at hse
        have HSE := Lib.hid hse; clear hse hr
        go_wp2_with fail
        refine HSE.out.mono ?_
        rintro e w5 ⟨rfl, hg5⟩
        have HB5 := Lib.hid (below_step hB hg5 hB.size); clear hg5
        go_wp2_with fail
        go_ret2
        show MakePost w (makeR k rest.data.toList ws l) _ _
        rw [HM.out]
        exact ⟨rfl, HB5.out⟩
  · have hlb : ((ws.length : Int) != (l.length : Int)) = true := by simp; omega
    have hm := makeR_none (k := k) (rest := rest.data.toList) (fieldsB_len [] ws l hlen)
    rw [hm]
    clear hw hl hm hlen
    go_enter Try.func21, Try.ntmps21
    go_wp2_with fail
    go_ret2
    exact ⟨rfl, Below.refl _ _⟩

theorem getS_drop (l : Bs) (a : Nat) (w : Int) (h : a ≤ l.length) : getS l a w = getS (l.drop a) 0 w := by
  unfold getS
  by_cases hw : 1 ≤ w ∧ w ≤ 6
  · rw [if_pos hw, if_pos hw]
    have e0 : (0 ≤ (0 : Int) ∧ (0 : Int) + w ≤ ((l.drop a).length : Int)) = (0 ≤ (a : Int) ∧ (a : Int) + w ≤ (l.length : Int)) := by
      rw [List.length_drop]; apply propext; omega
    simp only [e0, Int.toNat_natCast, Int.toNat_zero, List.drop_zero]
  · rw [if_neg hw, if_neg hw]

set_option maxHeartbeats 1000000 in
set_option maxRecDepth 100000 in
theorem rFields_any (k : Int) (s : ByteArray) (Aw : Option Addr) (cw : Nat) (ws : List Int) (w : World) (hs : s.size ≤ 1000000000) (hwl : ws.length ≤ 1000000)
    (hw : Reads w w.heap.size 1 Aw ws.length (icells ws)) :
    Calls Try.prog 23 #[.int .i8 k, .string s, .slice Aw ws.length cw] w fun e w' => FieldsPost w (fieldsR k s.data.toList ws) e w' := by
  obtain ⟨i0, hi0, hz0, hz1, hz2⟩ := info_parts i64_info
  have hof := rOf_any k s w hs
  have hbad := @fieldsR_bad k s.data.toList ws
  have hnone := @fieldsR_none k s.data.toList ws
  have hsome := @fieldsR_some k s.data.toList ws
  have hol : (ofR k s.data.toList).1.length ≤ 505 := by
    unfold ofR
    rcases openR_cases s.data.toList with h | ⟨k', l, h, _, _, hl, _⟩
    · rw [h]; simp
    · rw [h]; dsimp only; split <;> simp [hl]
  generalize (ofR k s.data.toList).1 = load at *
  generalize hoe : (ofR k s.data.toList).2 = oe at *
  have HW := Lib.hid hw; clear hw
  have HOF := Lib.hid hof; clear hof hoe
  by_cases he : oe = 0
  · subst he
    have HN := Lib.hid (hnone rfl); clear hnone
    have HSO := Lib.hid (@hsome · rfl); clear hsome hbad
    have hlz := mkS_size load
    have hll : (mkS load).data.toList = load := rfl
    go_enter Try.func23, Try.ntmps23
    go_wp2_with fail
    refine HOF.out.mono ?_
    rintro e w1 ⟨rfl, hB1⟩
    have HB1 := Lib.hid hB1; clear hB1
    have HLZ := Lib.hid hlz; clear hlz
    have HLL := Lib.hid hll; clear hll
    generalize mkS load = LD at *
    go_wp2_with fail
    go_loopg [11, 12, 13] ws.length (fun gk v at_ i wr => ∃ (j a : Nat) (rl : List Int), j ≤ ws.length ∧ gk = ws.length - j ∧ i = .int .i64 j ∧ at_ = .int .i64 a ∧ a ≤ load.length ∧ takeF load (ws.take j) = some (rl, load.drop a) ∧
        wr.ownsRow w.heap.size 3 1 v rl.length (icells rl) ∧ Below w.heap.size w wr)
    case atStart => exact ⟨0, 0, [], by omega, rfl, rfl, rfl, by omega, rfl, World.ownsRow_nil _ _ _ _, HB1.out⟩
    case round =>
      clear HB1
      obtain ⟨j, a, rl, hj, rfl, rfl, rfl, ha, ht, hown, hB⟩ := hrel
      have htl := takeF_le _ _ _ ht
      dsimp only at htl
      rw [List.length_take] at htl
      have hrl : rl.length ≤ 1000000 := by omega
      have HT := Lib.hid ht; clear ht htl
      by_cases hlt : j < ws.length
      · obtain ⟨aw, rfl, haw, hcw⟩ := (HW.out.below hB).cell_ hlt (icells_get ws j hlt)
        have hnx := take_next hlt HT.out
        have hst := @take_stop load ws j
        dsimp only at hnx
        have hget := rGet_any LD a ws[j] wr (by rw [HLZ.out]; unfold maxLen; omega)
        rw [HLL.out, getS_drop load a _ ha] at hget
        have hgz := @getS_zero (load.drop a) ws[j]
        generalize ws[j] = wj at *
        generalize hg1 : (getS (load.drop a) 0 wj).1 = n at *
        generalize hg2 : (getS (load.drop a) 0 wj).2 = ge at *
        have HG := Lib.hid hget; clear hget hg1 hg2
        have HST := Lib.hid hst; clear hst
        have HNX := Lib.hid hnx; clear hnx
        by_cases hge : ge = 0
        · subst hge
          obtain ⟨hw1, hw6, hwl2⟩ := hgz rfl
          obtain ⟨wn, rfl⟩ := Int.eq_ofNat_of_zero_le (show 0 ≤ wj by omega)
          have hnew := HNX.out
          rw [if_pos rfl, Int.toNat_natCast, List.drop_drop] at hnew
          rw [List.length_drop] at hwl2
          have HNEW := Lib.hid hnew; clear hnew HNX hgz HST
          have HO := Lib.hid hown; clear hown
          have hsz := hB.size
          have hcw2 : ∀ o, (wr.alloc o).cell? (aw.add j) = some (.int .i64 wn) := fun o => (World.cell?_alloc_lt wr o (aw.add j) (by rw [block_of_add]; omega)).trans hcw
          go_wp2_with fail
          refine HG.out.mono ?_
          rintro e w' ⟨rfl, rfl⟩
          go_wp2_with (at_builtin; refine wpList_append_any _ rfl (.tmp 43) (.tmp 45) 34 rfl w.heap.size 3 i0 (.int .i64 0) 1 8 Try.underlying34 hi0 hz0 hz1 hz2 rfl (by decide) _ rl.length (icells rl) (by rfl) (HO.out.alloc _) _ (some ⟨wr.heap.size, 0, none⟩) 1 1 (icells [n]) (by rfl) (by exact reads_blk (Blk.new wr 3 #[Value.int IntKind.i64 n]) rfl rfl) (icells_one _) (by unfold maxLen; omega) (by omega) (by simp; omega) ?_; intro v1 w1 hown1 hg1 hat1; (have hB2 : Below w.heap.size w w1 := below_own (hB.alloc hB.size (Obj.cells #[Value.int IntKind.i64 n] 3)) (HO.out.alloc _) hg1 (by simp; omega)); (have hown2 : w1.ownsRow w.heap.size 3 1 v1 (rl ++ [n]).length (icells (rl ++ [n])) := by (rw [List.length_append, icells_append]; exact hown1)); (have hcw3 : w1.cell? (aw.add j) = some (.int .i64 wn) := (hB2.cell (by rw [block_of_add]; exact haw)).trans ((hB.cell (by rw [block_of_add]; exact haw)).symm.trans hcw)); have HO2 := Lib.hid hown2; clear hown1 hown2 hg1 hat1; have HB2 := Lib.hid hB2; clear hB2)
          go_roundg (ws.length - (j + 1))
          case rel => exact ⟨j + 1, a + wn, rl ++ [n], by omega, rfl, by go_num, by go_num, by omega, HNEW.out, HO2.out, HB2.out⟩
          case measure => omega
        · have hgb : (ge != 0) = true := by simp [hge]
          have hnew := HNX.out
          rw [if_neg hge] at hnew
          have hres := HN.out (HST.out hnew)
          have HRES := Lib.hid hres; clear hres hnew hge HNX HST hgz
          go_wp2_with fail
          refine HG.out.mono ?_
          rintro e w' ⟨rfl, rfl⟩
          go_wp2_with fail
          go_ret3
          show FieldsPost w (fieldsR k s.data.toList ws) _ _
          rw [HRES.out]
          exact ⟨_, rfl, World.ownsRow_nil _ _ _ _, hB⟩
      · obtain rfl : j = ws.length := by omega
        have ht := HT.out
        rw [List.take_length] at ht
        have hres := HSO.out _ ht
        have HRES := Lib.hid hres; clear hres ht
        have hex := extract_end LD a
        rw [HLL.out] at hex
        have HEX := Lib.hid hex; clear hex
        have ha2 : a ≤ LD.size := by rw [HLZ.out]; exact ha
        have ha1 : (a : Int) ≤ (LD.size : Int) := by omega
        have ha0 : (0 : Int) ≤ (a : Int) := by omega
        obtain ⟨A1, c1, rfl, -, -, -⟩ := own_reads hown
        have HO := Lib.hid hown; clear hown
        go_wp2_with fail
        go_quiet (fail)
        go_wp2_with fail
        go_ret3
        show FieldsPost w (fieldsR k s.data.toList ws) _ _
        rw [HRES.out]
        exact ⟨_, by rw [← HEX.out]; rfl, HO.out, below_drewN hB _⟩
  · have hres := hbad he
    have HRES := Lib.hid hres; clear hres hbad hnone hsome
    have heb : (oe != 0) = true := by simp [he]
    clear he
    go_enter Try.func23, Try.ntmps23
    go_wp2_with fail
    refine HOF.out.mono ?_
    rintro e w1 ⟨rfl, hB1⟩
    go_wp2_with fail
    go_ret3
    show FieldsPost w (fieldsR k s.data.toList ws) _ _
    rw [HRES.out]
    exact ⟨_, rfl, World.ownsRow_nil _ _ _ _, hB1⟩
end Go.Proofs.Ytkmiknefbbjggaa
